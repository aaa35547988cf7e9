/- Parts of the proof of Nears: words, contracts and plain laws. -/
import Derived.Laws.Strings
import Derived.Test.YtgomlpndoolllaaDoorNears2
import Derived.Test.YtgomlpndoolllaaDoorNears11
import Derived.Test.YtgomlpndoolllaaDoorNears12
section
/- What the printed Edit tells: the edit distance. -/
namespace Go.Proofs.YtgomlpndoolllaaDoor.Pure
open Go Go.RowKit Go.Proofs.YtgomlpndoolllaaDoor.Q Go.Proofs.YtgomlpndoolllaaDoorW.PrintWords Go.Proofs.YtgomlpndoolllaaDoorW.PrintLast Go.Proofs.YtgomlpndoolllaaDoorW.PrintMore
set_option linter.unusedVariables false
set_option linter.unusedSimpArgs false

@[simp] theorem tl_ofL (l : List UInt8) : (ofL l).toList = l := by rw [Go.ByteArray.toList_eq]; rfl
/-- The distance of two beginnings. -/
def D (a b : List UInt8) (i j : Nat) : Nat := lev (a.take i).reverse (b.take j).reverse
end Go.Proofs.YtgomlpndoolllaaDoor.Pure
end

section
/- What the printed functions on quotients tell. -/
namespace Go.Proofs.YtgomlpndoolllaaDoor.Pure
open Go Go.RowKit Go.Proofs.YtgomlpndoolllaaDoor.Q Go.Proofs.YtgomlpndoolllaaDoorW.PrintWords Go.Proofs.YtgomlpndoolllaaDoorW.PrintLast Go.Proofs.YtgomlpndoolllaaDoorW.PrintMore
set_option linter.unusedVariables false
set_option linter.unusedSimpArgs false

theorem i64_id {n : Int} (h0 : -9223372036854775808 ≤ n) (h : n < 9223372036854775808) : wrap64 n = n := by unfold wrap64; omega
theorem u64_w (n : Int) : IntKind.u64.wrap n = n % 18446744073709551616 := by rfl
theorem u64_id {n : Int} (h0 : 0 ≤ n) (h : n < 18446744073709551616) : IntKind.u64.wrap n = n := by rw [u64_w]; omega
theorem mag_f (a : Int) (h : -9223372036854775808 ≤ a ∧ a < 9223372036854775808) : ratio_magnitude_int.f a = some ((a.natAbs : Nat) : Int) := by
  unfold ratio_magnitude_int.f
  by_cases hn : a < 0
  · rw [if_pos hn, u64_w, u64_w]; congr 1; omega
  · rw [if_neg hn, u64_w]; congr 1; omega
theorem common_l1 (xs : List Int) (n i v : Int) : ∀ (d x g : Nat), x ≤ d → Ev (fun k => ratio_common.l0 k ((Nat.gcd g x : Nat) : Int) xs n (wrap64 (i + 1))) v → Ev (fun k => ratio_common.l1 k (g : Int) (x : Int) xs n i) v
  | d, 0, g, hd, hv => by
    refine Ev.step (fun k => ?_) hv
    simp only [ratio_common.l1]
    rw [if_pos (by rfl), Nat.gcd_zero_right]
  | 0, x + 1, g, hd, hv => by omega
  | d + 1, x + 1, g, hd, hv => by
    have hlt := Nat.mod_lt g (show 0 < x + 1 by omega)
    have ih := common_l1 xs n i v d (g % (x + 1)) (x + 1) (by omega) (by rw [Nat.gcd_comm (x + 1), ← Nat.gcd_rec, Nat.gcd_comm]; exact hv)
    refine Ev.step (fun k => ?_) ih
    simp only [ratio_common.l1]
    rw [if_neg (by omega), Int.tmod_eq_emod_of_nonneg (by omega)]
    rfl
theorem common_f (a b : Nat) : Ev (fun k => ratio_common.f k [(a : Int), (b : Int)]) ((Nat.gcd a b : Nat) : Int) := by
  refine Ev.congr (g := fun k => ratio_common.f k [(a : Int), (b : Int)]) (f := fun k => ratio_common.l0 k 0 [(a : Int), (b : Int)] 2 0) (fun k => rfl) ?_
  refine Ev.step (f := fun k => ratio_common.l1 k ((0 : Nat) : Int) (a : Int) [(a : Int), (b : Int)] 2 0) (fun k => by simp [ratio_common.l0, rd]) ?_
  refine common_l1 _ _ _ _ a a 0 (Nat.le_refl _) ?_
  rw [Nat.gcd_zero_left]
  refine Ev.step (f := fun k => ratio_common.l1 k (a : Int) (b : Int) [(a : Int), (b : Int)] 2 1) (fun k => by simp [ratio_common.l0, rd, wrap64]) ?_
  refine common_l1 _ _ _ _ b b a (Nat.le_refl _) ?_
  exact Ev.step (f := fun _ => some ((Nat.gcd a b : Nat) : Int)) (fun k => by simp [ratio_common.l0, wrap64]) (Ev.now _)
theorem tdiv_cast (a b : Nat) : Int.tdiv (a : Int) (b : Int) = ((a / b : Nat) : Int) := by
  rw [Int.tdiv_eq_ediv_of_nonneg (by omega)]; rfl
theorem reduced_f (n d : Nat) (hd : 0 < d) (hn : n ≤ d) (hb : d ≤ 1000000000) : Ev (fun k => ratio_reduced.f k false (n : Int) (d : Int)) ((rat n d).1, (rat n d).2, 0) := by
  have h1 : n / Nat.gcd n d ≤ 1000000000 := Nat.le_trans (Nat.div_le_self _ _) (by omega)
  have h2 : d / Nat.gcd n d ≤ 1000000000 := Nat.le_trans (Nat.div_le_self _ _) hb
  have hg : 0 < Nat.gcd n d := Nat.gcd_pos_of_pos_right n hd
  refine Ev.congr (fun k => by unfold ratio_reduced.f; rfl) (Ev.bind (common_f n d) ?_)
  rw [tdiv_cast, tdiv_cast]
  unfold rat
  obtain ⟨p, hp⟩ : ∃ p, n / Nat.gcd n d = p := ⟨_, rfl⟩
  obtain ⟨q, hq⟩ : ∃ q, d / Nat.gcd n d = q := ⟨_, rfl⟩
  rw [hp] at h1 ⊢
  rw [hq] at h2 ⊢
  refine Ev.congr (f := fun k => ratio_reduced.j0 k false (p : Int) (q : Int) false) (fun k => ?_) (Ev.step (f := fun _ => some ((p : Int), (q : Int), 0)) (fun k => ?_) (Ev.now _))
  · rw [if_neg (by omega), u64_id (by omega) (by omega), u64_id (by omega) (by omega), if_neg (by omega), decide_eq_false (by omega)]
  · simp only [ratio_reduced.j0]
    rw [if_neg (by simp), if_neg (by simp), i64_id (by omega) (by omega), i64_id (by omega) (by omega)]
theorem Make_f (n d : Nat) (hd : 0 < d) (hn : n ≤ d) (hb : d ≤ 1000000000) : Ev (fun k => ratio_Make.f k (n : Int) (d : Int)) ((rat n d).1, (rat n d).2, 0) := by
  refine Ev.congr (f := fun k => (ratio_reduced.f k false (n : Int) (d : Int)).bind fun b => some (b.1, b.2.1, b.2.2)) (fun k => ?_) (Ev.bind (reduced_f n d hd hn hb) (Ev.now _))
  unfold ratio_Make.f
  rw [if_neg (by omega), mag_f _ (by omega), mag_f _ (by omega), Option.bind_some, Option.bind_some, decide_eq_false (by omega), decide_eq_false (by omega)]
  rfl
theorem share_f (n d : Nat) (hd : 0 < d) (hn : n ≤ d) (hb : d ≤ 1000000000) : Ev (fun k => measure_share.f k (n : Int) (d : Int)) (rat n d) :=
  Ev.congr (fun k => by unfold measure_share.f; rfl) (Ev.bind (Make_f n d hd hn hb) (Ev.congr (fun k => by rw [if_pos rfl]) (Ev.now _)))
/-- How near two numbers are. -/
def nearS (x y t : Int) : Int × Int := if 0 ≤ t ∧ t < 1000000000 ∧ ((x - y).natAbs : Int) ≤ t then rat (t.toNat + 1 - (x - y).natAbs) (t.toNat + 1) else (0, 1)
theorem near_f (x y t : Int) (hx : -9223372036854775808 ≤ x ∧ x < 9223372036854775808) (hy : -9223372036854775808 ≤ y ∧ y < 9223372036854775808) (ht : -9223372036854775808 ≤ t ∧ t < 9223372036854775808) :
    Ev (fun k => measure_Near.f k x y t) (nearS x y t) := by
  have hfar : ∀ (a b : Int), -9223372036854775808 ≤ a ∧ a < 9223372036854775808 → -9223372036854775808 ≤ b ∧ b < 9223372036854775808 → ¬ a < b → IntKind.u64.wrap (IntKind.u64.wrap a - IntKind.u64.wrap b) = a - b := by
    intro a b ha hb hab
    rw [u64_w, u64_w, u64_w]; omega
  have hbody : ∀ (d : Int), d = ((x - y).natAbs : Int) → 0 ≤ t → t < 1000000000 → Ev (fun k => if d ≤ IntKind.u64.wrap t then (measure_share.f k (wrap64 (wrap64 (t + 1) - wrap64 d)) (wrap64 (t + 1))).bind fun b => some (b.1, b.2) else some (0, 1)) (nearS x y t) := by
    intro d hd h0 h1
    unfold nearS
    rw [u64_id (n := t) h0 (by omega), ← hd, i64_id (n := t + 1) (by omega) (by omega)]
    by_cases h : d ≤ t
    · rw [if_pos ⟨h0, h1, h⟩]
      refine Ev.congr (fun k => by rw [if_pos h]) ?_
      rw [i64_id (n := d) (by omega) (by omega), i64_id (n := t + 1 - d) (by omega) (by omega)]
      have e1 : t + 1 - d = ((t.toNat + 1 - (x - y).natAbs : Nat) : Int) := by omega
      have e2 : t + 1 = ((t.toNat + 1 : Nat) : Int) := by omega
      rw [e1, e2]
      exact Ev.bind (share_f _ _ (by omega) (by omega) (by omega)) (Ev.now _)
    · rw [if_neg (fun k => h k.2.2)]
      exact Ev.congr (fun k => by rw [if_neg h]) (Ev.now _)
  unfold measure_Near.f
  by_cases h0 : t < 0
  · refine Ev.congr (fun k => by rw [if_pos h0]) (Ev.step (f := fun _ => some (0, 1)) (fun k => by simp only [measure_Near.j0]; rw [if_pos trivial]) ?_)
    unfold nearS; rw [if_neg (by omega)]; exact Ev.now _
  · refine Ev.congr (fun k => by rw [if_neg h0]) ?_
    by_cases h1 : t ≥ 1000000000
    · refine Ev.step (f := fun _ => some (0, 1)) (fun k => by simp only [measure_Near.j0]; rw [if_pos (decide_eq_true h1)]) ?_
      unfold nearS; rw [if_neg (by omega)]; exact Ev.now _
    · by_cases hxy : x > y
      · refine Ev.step (fun k => by simp only [measure_Near.j0]; rw [if_neg (by simp; omega), if_pos hxy, hfar x y hx hy (by omega)]) (hbody (x - y) (by omega) (by omega) (by omega))
      · refine Ev.step (fun k => by simp only [measure_Near.j0]; rw [if_neg (by simp; omega), if_neg hxy, hfar y x hy hx (by omega)]) (hbody (y - x) (by omega) (by omega) (by omega))
end Go.Proofs.YtgomlpndoolllaaDoor.Pure
end

section
/- What the printed Jaro tells: the greedy matching's measure. -/
namespace Go.Proofs.YtgomlpndoolllaaDoor.Pure
open Go Go.RowKit Go.Proofs.YtgomlpndoolllaaDoor.Q Go.Proofs.YtgomlpndoolllaaDoorW.PrintWords Go.Proofs.YtgomlpndoolllaaDoorW.PrintLast Go.Proofs.YtgomlpndoolllaaDoorW.PrintMore
set_option linter.unusedVariables false
set_option linter.unusedSimpArgs false

theorem wrap_nat {n : Nat} (h : n < 9223372036854775808) : wrap64 (n : Int) = (n : Int) := by unfold wrap64; omega
section
variable (x0 x1 : ByteArray)
end
end Go.Proofs.YtgomlpndoolllaaDoor.Pure
end

section
/- What the printed Valid, Cmp and unit tell about quotients in lowest terms. -/
namespace Go.Proofs.YtgomlpndoolllaaDoor.Pure
open Go Go.RowKit Go.Proofs.YtgomlpndoolllaaDoor.Q Go.Proofs.YtgomlpndoolllaaDoorW.PrintWords Go.Proofs.YtgomlpndoolllaaDoorW.PrintLast Go.Proofs.YtgomlpndoolllaaDoorW.PrintMore
set_option linter.unusedVariables false
set_option linter.unusedSimpArgs false

theorem Valid_nat (p q : Nat) (hq : 0 < q) (hq2 : q ≤ 1000000000) (hp2 : p ≤ 1000000000) (hg : Nat.gcd p q = 1) : Ev (fun k => ratio_Valid.f k (p : Int) (q : Int)) true := by
  refine Ev.congr (f := fun k => (ratio_common.f k [(p : Int), (q : Int)]).bind fun t => some (t == 1)) (fun k => ?_) (Ev.bind (common_f p q) ?_)
  · unfold ratio_Valid.f
    rw [if_pos (by omega), if_pos (by omega), mag_f _ (by omega), Option.bind_some, if_pos (by omega), mag_f _ (by omega), Option.bind_some, Option.bind_some]
    rfl
  · rw [hg]; exact Ev.now _
/-- How two quotients compare. -/
def cmpN (p q a b : Nat) : Int := if p * b < a * q then -1 else if a * q < p * b then 1 else 0
theorem cmp_arith (x y : Nat) (hx : x ≤ 1000000000000000000) (hy : y ≤ 1000000000000000000) {α : Type} (u v z : α) :
    (if wrap64 (wrap64 (x : Int) - wrap64 (y : Int)) < 0 then u else if wrap64 (wrap64 (x : Int) - wrap64 (y : Int)) > 0 then v else z) = if x < y then u else if y < x then v else z := by
  rw [wrap_nat (n := x) (by omega), wrap_nat (n := y) (by omega), i64_id (by omega) (by omega)]
  by_cases h1 : x < y
  · rw [if_pos (by omega), if_pos h1]
  · rw [if_neg (by omega), if_neg h1]
    by_cases h2 : y < x
    · rw [if_pos (by omega), if_pos h2]
    · rw [if_neg (by omega), if_neg h2]
theorem Cmp_nat (p q a b : Nat) (hq : 0 < q) (hq2 : q ≤ 1000000000) (hp2 : p ≤ 1000000000) (hg : Nat.gcd p q = 1) (hb : 0 < b) (hb2 : b ≤ 1000000000) (ha2 : a ≤ 1000000000) (hg2 : Nat.gcd a b = 1) :
    Ev (fun k => ratio_Cmp.f k (p : Int) (q : Int) (a : Int) (b : Int)) (cmpN p q a b) := by
  have h1 : p * b ≤ 1000000000 * 1000000000 := Nat.mul_le_mul hp2 hb2
  have h2 : a * q ≤ 1000000000 * 1000000000 := Nat.mul_le_mul ha2 hq2
  refine Ev.congr (fun k => by unfold ratio_Cmp.f; rfl) (Ev.bind (Valid_nat p q hq hq2 hp2 hg) ?_)
  refine Ev.congr (fun k => by rw [if_pos rfl]) (Ev.bind (Valid_nat a b hb hb2 ha2 hg2) ?_)
  refine Ev.step (f := fun _ => some (cmpN p q a b)) (fun k => ?_) (Ev.now _)
  simp only [ratio_Cmp.j0]
  rw [if_neg (by simp), ← Int.natCast_mul, ← Int.natCast_mul, cmp_arith _ _ (by omega) (by omega)]
  unfold cmpN
  (repeat' split) <;> rfl
theorem Cmp_low {r s : Int × Int} {p q a b : Nat} (h : Low r p q) (k : Low s a b) : Ev (fun n => ratio_Cmp.f n r.1 r.2 s.1 s.2) (cmpN p q a b) := by
  have h1 := h.le
  have h2 := h.big
  have k1 := k.le
  have k2 := k.big
  rw [h.fst, h.snd, k.fst, k.snd]
  exact Cmp_nat p q a b h.pos h.big (by omega) h.low k.pos k.big (by omega) k.low
end Go.Proofs.YtgomlpndoolllaaDoor.Pure
end
