/- Parts of the proof of Sets: words, contracts and plain laws. -/
import Derived.Laws.Strings
import Derived.Test.YtgomlpndoolllaaDoorSets2
import Derived.Test.YtgomlpndoolllaaDoorSets11
import Derived.Test.YtgomlpndoolllaaDoorSets12
section
/- What the printed Edit tells: the edit distance. -/
namespace Go.Proofs.YtgomlpndoolllaaDoor.Pure
open Go Go.RowKit Go.Proofs.YtgomlpndoolllaaDoor.Q Go.Proofs.YtgomlpndoolllaaDoorW.PrintWords Go.Proofs.YtgomlpndoolllaaDoorW.PrintLast Go.Proofs.YtgomlpndoolllaaDoorW.PrintMore
set_option linter.unusedVariables false
set_option linter.unusedSimpArgs false

theorem wrap_id {n : Int} (h0 : -9223372036854775808 ≤ n) (h : n < 9223372036854775808) : wrap64 n = n := by unfold wrap64; omega
theorem wrap_succ (i : Nat) (h : i < 4611686018427387904) : wrap64 ((i : Int) + 1) = ((i + 1 : Nat) : Int) := by rw [wrap_id (by omega) (by omega)]; omega
@[simp] theorem tl_ofL (l : List UInt8) : (ofL l).toList = l := by rw [Go.ByteArray.toList_eq]; rfl
theorem ofL_tl (x : ByteArray) : ofL x.toList = x := by rw [Go.ByteArray.toList_eq]; rfl
theorem tl_inj {x y : ByteArray} (h : x.toList = y.toList) : x = y := by rw [← ofL_tl x, h, ofL_tl]
theorem short_l0 (n : Int) (xs : List ByteArray) (hn : xs.length < 1000) : ∀ (d i : Nat), d + i = xs.length → ∃ b, Ev (fun k => cleanseref04_Short.l0 k n xs i) b ∧ (b = true ↔ ∀ x ∈ xs.drop i, (x.size : Int) ≤ n)
  | 0, i, h => ⟨true, Ev.step (f := fun _ => some true) (fun k => by simp only [cleanseref04_Short.l0]; rw [if_neg (by omega)]) (Ev.now _), by rw [List.drop_eq_nil_of_le (by omega)]; simp⟩
  | d + 1, i, h => by
    have hi : i < xs.length := by omega
    have hr : rdOf ByteArray.empty xs (i : Int) = xs[i] := by simp [rdOf, List.getD_eq_getElem?_getD, hi]
    rw [List.drop_eq_getElem_cons hi]
    by_cases hb : (xs[i].size : Int) > n
    · refine ⟨false, Ev.step (f := fun _ => some false) (fun k => by simp only [cleanseref04_Short.l0]; rw [if_pos (by omega), if_pos (by omega), hr, if_pos hb]) (Ev.now _), ⟨fun h => (by cases h), fun h => ?_⟩⟩
      have := h _ List.mem_cons_self
      omega
    · obtain ⟨b, hb1, hb2⟩ := short_l0 n xs hn d (i + 1) (by omega)
      refine ⟨b, Ev.step (fun k => by simp only [cleanseref04_Short.l0]; rw [if_pos (by omega), if_pos (by omega), hr, if_neg hb, wrap_succ _ (by omega)]) hb1, hb2.trans ⟨fun h x hx => ?_, fun h x hx => h x (List.mem_cons_of_mem _ hx)⟩⟩
      rcases List.mem_cons.1 hx with e | e
      · subst e; omega
      · exact h x e
theorem short_f (n : Int) (xs : List ByteArray) (hn : xs.length < 1000) : ∃ b, Ev (fun k => cleanseref04_Short.f k n xs) b ∧ (b = true ↔ ∀ x ∈ xs, (x.size : Int) ≤ n) := short_l0 n xs hn xs.length 0 rfl

/-- The distance of two beginnings. -/
def D (a b : List UInt8) (i j : Nat) : Nat := lev (a.take i).reverse (b.take j).reverse
end Go.Proofs.YtgomlpndoolllaaDoor.Pure
end

section
/- What the printed functions on quotients tell. -/
namespace Go.Proofs.YtgomlpndoolllaaDoor.Pure
open Go Go.RowKit Go.Proofs.YtgomlpndoolllaaDoor.Q Go.Proofs.YtgomlpndoolllaaDoorW.PrintWords Go.Proofs.YtgomlpndoolllaaDoorW.PrintLast Go.Proofs.YtgomlpndoolllaaDoorW.PrintMore
set_option linter.unusedVariables false
set_option linter.unusedSimpArgs false

theorem i64_id {n : Int} (h0 : -9223372036854775808 ≤ n) (h : n < 9223372036854775808) : wrap64 n = n := by unfold wrap64; omega
theorem u64_w (n : Int) : IntKind.u64.wrap n = n % 18446744073709551616 := by rfl
theorem u64_id {n : Int} (h0 : 0 ≤ n) (h : n < 18446744073709551616) : IntKind.u64.wrap n = n := by rw [u64_w]; omega
theorem mag_f (a : Int) (h : -9223372036854775808 ≤ a ∧ a < 9223372036854775808) : ratio_magnitude_int.f a = some ((a.natAbs : Nat) : Int) := by
  unfold ratio_magnitude_int.f
  by_cases hn : a < 0
  · rw [if_pos hn, u64_w, u64_w]; congr 1; omega
  · rw [if_neg hn, u64_w]; congr 1; omega
theorem common_l1 (xs : List Int) (n i v : Int) : ∀ (d x g : Nat), x ≤ d → Ev (fun k => ratio_common.l0 k ((Nat.gcd g x : Nat) : Int) xs n (wrap64 (i + 1))) v → Ev (fun k => ratio_common.l1 k (g : Int) (x : Int) xs n i) v
  | d, 0, g, hd, hv => by
    refine Ev.step (fun k => ?_) hv
    simp only [ratio_common.l1]
    rw [if_pos (by rfl), Nat.gcd_zero_right]
  | 0, x + 1, g, hd, hv => by omega
  | d + 1, x + 1, g, hd, hv => by
    have hlt := Nat.mod_lt g (show 0 < x + 1 by omega)
    have ih := common_l1 xs n i v d (g % (x + 1)) (x + 1) (by omega) (by rw [Nat.gcd_comm (x + 1), ← Nat.gcd_rec, Nat.gcd_comm]; exact hv)
    refine Ev.step (fun k => ?_) ih
    simp only [ratio_common.l1]
    rw [if_neg (by omega), Int.tmod_eq_emod_of_nonneg (by omega)]
    rfl
theorem common_f (a b : Nat) : Ev (fun k => ratio_common.f k [(a : Int), (b : Int)]) ((Nat.gcd a b : Nat) : Int) := by
  refine Ev.congr (g := fun k => ratio_common.f k [(a : Int), (b : Int)]) (f := fun k => ratio_common.l0 k 0 [(a : Int), (b : Int)] 2 0) (fun k => rfl) ?_
  refine Ev.step (f := fun k => ratio_common.l1 k ((0 : Nat) : Int) (a : Int) [(a : Int), (b : Int)] 2 0) (fun k => by simp [ratio_common.l0, rd]) ?_
  refine common_l1 _ _ _ _ a a 0 (Nat.le_refl _) ?_
  rw [Nat.gcd_zero_left]
  refine Ev.step (f := fun k => ratio_common.l1 k (a : Int) (b : Int) [(a : Int), (b : Int)] 2 1) (fun k => by simp [ratio_common.l0, rd, wrap64]) ?_
  refine common_l1 _ _ _ _ b b a (Nat.le_refl _) ?_
  exact Ev.step (f := fun _ => some ((Nat.gcd a b : Nat) : Int)) (fun k => by simp [ratio_common.l0, wrap64]) (Ev.now _)
theorem tdiv_cast (a b : Nat) : Int.tdiv (a : Int) (b : Int) = ((a / b : Nat) : Int) := by
  rw [Int.tdiv_eq_ediv_of_nonneg (by omega)]; rfl
theorem reduced_f (n d : Nat) (hd : 0 < d) (hn : n ≤ d) (hb : d ≤ 1000000000) : Ev (fun k => ratio_reduced.f k false (n : Int) (d : Int)) ((rat n d).1, (rat n d).2, 0) := by
  have h1 : n / Nat.gcd n d ≤ 1000000000 := Nat.le_trans (Nat.div_le_self _ _) (by omega)
  have h2 : d / Nat.gcd n d ≤ 1000000000 := Nat.le_trans (Nat.div_le_self _ _) hb
  have hg : 0 < Nat.gcd n d := Nat.gcd_pos_of_pos_right n hd
  refine Ev.congr (fun k => by unfold ratio_reduced.f; rfl) (Ev.bind (common_f n d) ?_)
  rw [tdiv_cast, tdiv_cast]
  unfold rat
  obtain ⟨p, hp⟩ : ∃ p, n / Nat.gcd n d = p := ⟨_, rfl⟩
  obtain ⟨q, hq⟩ : ∃ q, d / Nat.gcd n d = q := ⟨_, rfl⟩
  rw [hp] at h1 ⊢
  rw [hq] at h2 ⊢
  refine Ev.congr (f := fun k => ratio_reduced.j0 k false (p : Int) (q : Int) false) (fun k => ?_) (Ev.step (f := fun _ => some ((p : Int), (q : Int), 0)) (fun k => ?_) (Ev.now _))
  · rw [if_neg (by omega), u64_id (by omega) (by omega), u64_id (by omega) (by omega), if_neg (by omega), decide_eq_false (by omega)]
  · simp only [ratio_reduced.j0]
    rw [if_neg (by simp), if_neg (by simp), i64_id (by omega) (by omega), i64_id (by omega) (by omega)]
theorem Make_f (n d : Nat) (hd : 0 < d) (hn : n ≤ d) (hb : d ≤ 1000000000) : Ev (fun k => ratio_Make.f k (n : Int) (d : Int)) ((rat n d).1, (rat n d).2, 0) := by
  refine Ev.congr (f := fun k => (ratio_reduced.f k false (n : Int) (d : Int)).bind fun b => some (b.1, b.2.1, b.2.2)) (fun k => ?_) (Ev.bind (reduced_f n d hd hn hb) (Ev.now _))
  unfold ratio_Make.f
  rw [if_neg (by omega), mag_f _ (by omega), mag_f _ (by omega), Option.bind_some, Option.bind_some, decide_eq_false (by omega), decide_eq_false (by omega)]
  rfl
theorem share_f (n d : Nat) (hd : 0 < d) (hn : n ≤ d) (hb : d ≤ 1000000000) : Ev (fun k => measure_share.f k (n : Int) (d : Int)) (rat n d) :=
  Ev.congr (fun k => by unfold measure_share.f; rfl) (Ev.bind (Make_f n d hd hn hb) (Ev.congr (fun k => by rw [if_pos rfl]) (Ev.now _)))
end Go.Proofs.YtgomlpndoolllaaDoor.Pure
end

section
/- What the printed Jaro tells: the greedy matching's measure. -/
namespace Go.Proofs.YtgomlpndoolllaaDoor.Pure
open Go Go.RowKit Go.Proofs.YtgomlpndoolllaaDoor.Q Go.Proofs.YtgomlpndoolllaaDoorW.PrintWords Go.Proofs.YtgomlpndoolllaaDoorW.PrintLast Go.Proofs.YtgomlpndoolllaaDoorW.PrintMore
set_option linter.unusedVariables false
set_option linter.unusedSimpArgs false

theorem wrap_nat {n : Nat} (h : n < 9223372036854775808) : wrap64 (n : Int) = (n : Int) := by unfold wrap64; omega
theorem wrap_suc (i : Nat) (h : i < 4611686018427387904) : wrap64 ((i : Int) + 1) = ((i + 1 : Nat) : Int) := by unfold wrap64; omega
section
variable (x0 x1 : ByteArray)
end
end Go.Proofs.YtgomlpndoolllaaDoor.Pure
end

section
/- What the printed Valid, Cmp and unit tell about quotients in lowest terms. -/
namespace Go.Proofs.YtgomlpndoolllaaDoor.Pure
open Go Go.RowKit Go.Proofs.YtgomlpndoolllaaDoor.Q Go.Proofs.YtgomlpndoolllaaDoorW.PrintWords Go.Proofs.YtgomlpndoolllaaDoorW.PrintLast Go.Proofs.YtgomlpndoolllaaDoorW.PrintMore
set_option linter.unusedVariables false
set_option linter.unusedSimpArgs false

theorem Valid_nat (p q : Nat) (hq : 0 < q) (hq2 : q ≤ 1000000000) (hp2 : p ≤ 1000000000) (hg : Nat.gcd p q = 1) : Ev (fun k => ratio_Valid.f k (p : Int) (q : Int)) true := by
  refine Ev.congr (f := fun k => (ratio_common.f k [(p : Int), (q : Int)]).bind fun t => some (t == 1)) (fun k => ?_) (Ev.bind (common_f p q) ?_)
  · unfold ratio_Valid.f
    rw [if_pos (by omega), if_pos (by omega), mag_f _ (by omega), Option.bind_some, if_pos (by omega), mag_f _ (by omega), Option.bind_some, Option.bind_some]
    rfl
  · rw [hg]; exact Ev.now _
/-- How two quotients compare. -/
def cmpN (p q a b : Nat) : Int := if p * b < a * q then -1 else if a * q < p * b then 1 else 0
theorem cmp_arith (x y : Nat) (hx : x ≤ 1000000000000000000) (hy : y ≤ 1000000000000000000) {α : Type} (u v z : α) :
    (if wrap64 (wrap64 (x : Int) - wrap64 (y : Int)) < 0 then u else if wrap64 (wrap64 (x : Int) - wrap64 (y : Int)) > 0 then v else z) = if x < y then u else if y < x then v else z := by
  rw [wrap_nat (n := x) (by omega), wrap_nat (n := y) (by omega), i64_id (by omega) (by omega)]
  by_cases h1 : x < y
  · rw [if_pos (by omega), if_pos h1]
  · rw [if_neg (by omega), if_neg h1]
    by_cases h2 : y < x
    · rw [if_pos (by omega), if_pos h2]
    · rw [if_neg (by omega), if_neg h2]
theorem Cmp_nat (p q a b : Nat) (hq : 0 < q) (hq2 : q ≤ 1000000000) (hp2 : p ≤ 1000000000) (hg : Nat.gcd p q = 1) (hb : 0 < b) (hb2 : b ≤ 1000000000) (ha2 : a ≤ 1000000000) (hg2 : Nat.gcd a b = 1) :
    Ev (fun k => ratio_Cmp.f k (p : Int) (q : Int) (a : Int) (b : Int)) (cmpN p q a b) := by
  have h1 : p * b ≤ 1000000000 * 1000000000 := Nat.mul_le_mul hp2 hb2
  have h2 : a * q ≤ 1000000000 * 1000000000 := Nat.mul_le_mul ha2 hq2
  refine Ev.congr (fun k => by unfold ratio_Cmp.f; rfl) (Ev.bind (Valid_nat p q hq hq2 hp2 hg) ?_)
  refine Ev.congr (fun k => by rw [if_pos rfl]) (Ev.bind (Valid_nat a b hb hb2 ha2 hg2) ?_)
  refine Ev.step (f := fun _ => some (cmpN p q a b)) (fun k => ?_) (Ev.now _)
  simp only [ratio_Cmp.j0]
  rw [if_neg (by simp), ← Int.natCast_mul, ← Int.natCast_mul, cmp_arith _ _ (by omega) (by omega)]
  unfold cmpN
  (repeat' split) <;> rfl
end Go.Proofs.YtgomlpndoolllaaDoor.Pure
end
