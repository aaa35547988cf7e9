/- Parts of the proof of Lists: words, contracts and plain laws. -/
import Derived.Laws.Strings
import Derived.Test.YtiffkknhnmpgbaaDoorLists2
import Derived.Test.YtiffkknhnmpgbaaDoorLists16
import Derived.Test.YtiffkknhnmpgbaaDoorLists17
namespace Go.Proofs.YtiffkknhnmpgbaaDoor.Q
end Go.Proofs.YtiffkknhnmpgbaaDoor.Q
section
/- What the printed Edit tells: the edit distance. -/
namespace Go.Proofs.YtiffkknhnmpgbaaDoor.Pure
open Go Go.RowKit Go.Proofs.YtiffkknhnmpgbaaDoor.Q Go.Proofs.YtiffkknhnmpgbaaDoorW.PrintWords Go.Proofs.YtiffkknhnmpgbaaDoorW.PrintLast Go.Proofs.YtiffkknhnmpgbaaDoorW.PrintMore
set_option linter.unusedVariables false
set_option linter.unusedSimpArgs false

theorem wrap_id {n : Int} (h0 : -9223372036854775808 ≤ n) (h : n < 9223372036854775808) : wrap64 n = n := by unfold wrap64; omega
theorem wrap_succ (i : Nat) (h : i < 4611686018427387904) : wrap64 ((i : Int) + 1) = ((i + 1 : Nat) : Int) := by rw [wrap_id (by omega) (by omega)]; omega
@[simp] theorem tl_ofL (l : List UInt8) : (ofL l).toList = l := by rw [Go.ByteArray.toList_eq]; rfl
theorem tl_size (x : ByteArray) : x.toList.length = x.size := by rw [Go.ByteArray.toList_eq]; exact Array.length_toList
theorem bt_nat (s : ByteArray) (j : Nat) (h : j < s.toList.length) : Go.Proofs.YtiffkknhnmpgbaaDoorW.PrintWords.bt s (j : Int) = (s.toList[j].toNat : Int) := by
  have hs : j < s.size := by rwa [tl_size] at h
  unfold Go.Proofs.YtiffkknhnmpgbaaDoorW.PrintWords.bt
  rw [dif_pos (by simpa using hs)]
  have e : s.toList[j] = s[j] := by
    simp only [Go.ByteArray.toList_eq]
    rfl
  rw [e]
  rfl
theorem rd_get (xs : List Int) (j : Nat) (v : Int) (h : xs[j]? = some v) : rd xs (j : Int) = v := by
  simp [rd, List.getD_eq_getElem?_getD, h]
theorem least_f (n p q : Int) : Ev (fun k => measure_least.f k n [p, q]) (min n (min p q)) := by
  refine Ev.congr (fun k => rfl) (g := fun k => measure_least.f k n [p, q]) (f := fun k => measure_least.l0 k n [p, q] 2 0) ?_
  refine Ev.step (f := fun k => measure_least.l0 k (mn n p) [p, q] 2 1) (fun k => by simp [measure_least.l0, rd, wrap64]) ?_
  refine Ev.step (f := fun k => measure_least.l0 k (mn (mn n p) q) [p, q] 2 2) (fun k => by simp [measure_least.l0, rd, wrap64]) ?_
  refine Ev.step (f := fun _ => some (mn (mn n p) q)) (fun k => by simp [measure_least.l0]) ?_
  have e : mn (mn n p) q = min n (min p q) := by unfold mn; (repeat' split) <;> omega
  rw [e]
  exact Ev.now _

/-- The distance of two beginnings. -/
def D (a b : List UInt8) (i j : Nat) : Nat := lev (a.take i).reverse (b.take j).reverse
theorem D_zero_l (a b : List UInt8) (j : Nat) (h : j ≤ b.length) : D a b 0 j = j := by
  unfold D; rw [List.take_zero, List.reverse_nil, lev_nil_l, List.length_reverse, List.length_take]; omega
theorem D_zero_r (a b : List UInt8) (i : Nat) (h : i ≤ a.length) : D a b i 0 = i := by
  unfold D; rw [List.take_zero, List.reverse_nil, lev_nil_r, List.length_reverse, List.length_take]; omega
theorem D_step (a b : List UInt8) (i j : Nat) (hi : i < a.length) (hj : j < b.length) :
    D a b (i + 1) (j + 1) = min (D a b i j + if a[i] = b[j] then 0 else 1) (min (D a b (i + 1) j + 1) (D a b i (j + 1) + 1)) := by
  have ea : (a.take (i + 1)).reverse = a[i] :: (a.take i).reverse := by rw [List.take_succ_eq_append_getElem hi, List.reverse_append]; rfl
  have eb : (b.take (j + 1)).reverse = b[j] :: (b.take j).reverse := by rw [List.take_succ_eq_append_getElem hj, List.reverse_append]; rfl
  unfold D
  rw [ea, eb, lev_cons]
theorem D_le (a b : List UInt8) (i j : Nat) : D a b i j ≤ a.length + b.length := by
  have := (lev_bounds (a.take i).reverse (b.take j).reverse).2.2
  unfold D
  simp only [List.length_reverse, List.length_take] at this
  omega
def dist (a b : List UInt8) : Nat := lev a.reverse b.reverse
theorem D_end (a b : List UInt8) : D a b a.length b.length = dist a b := by unfold D dist; rw [List.take_length, List.take_length]

theorem edit_l0 (x0 x1 : ByteArray) (M : Nat) (hM : M ≤ 1000000) (v : Int)
    (next : ∀ R : List Int, R.length = M → (∀ j : Nat, j < M → R[j]? = some (j : Int)) → Ev (fun k => measure_Edit.l1 k x0 x1 R (x0.size : Int) 0) v) :
    ∀ (d i : Nat) (R : List Int), d + i = M → R.length = M → (∀ j : Nat, j < i → R[j]? = some (j : Int)) → Ev (fun k => measure_Edit.l0 k x0 x1 R (M : Int) i) v
  | 0, i, R, hd, hl, hR => Ev.step (fun k => by simp only [measure_Edit.l0]; rw [if_neg (by omega)]) (next R hl (fun j hj => hR j (by omega)))
  | d + 1, i, R, hd, hl, hR => by
    have := edit_l0 x0 x1 M hM v next d (i + 1) (R.set i (i : Int)) (by omega) (by rw [List.length_set]; exact hl) (fun j hj => by
      by_cases e : j = i
      · subst e; rw [List.getElem?_set_self (by omega)]
      · rw [List.getElem?_set_ne (fun h => e h.symm)]; exact hR j (by omega))
    refine Ev.step (fun k => ?_) this
    simp only [measure_Edit.l0]
    rw [if_pos (by omega), if_pos (by omega), if_pos (by omega), wrap_succ _ (by omega), Int.toNat_natCast]
theorem min_cast (p q r : Nat) : min (p : Int) (min ((q : Nat) : Int) ((r : Nat) : Int)) = ((min p (min q r) : Nat) : Int) := by omega
set_option maxHeartbeats 1000000 in
theorem edit_l2 (x0 x1 : ByteArray) (hx0 : x0.toList.length ≤ 1000) (hx1 : x1.toList.length ≤ 1000) (i : Nat) (hi : i < x0.toList.length) (v : Int)
    (next : ∀ R : List Int, R.length = x1.toList.length + 1 → (∀ j : Nat, j ≤ x1.toList.length → R[j]? = some (D x0.toList x1.toList (i + 1) j : Int)) → Ev (fun k => measure_Edit.l1 k x0 x1 R (x0.size : Int) ((i + 1 : Nat) : Int)) v) :
    ∀ (d j : Nat) (R : List Int), d + j = x1.toList.length → R.length = x1.toList.length + 1 → (∀ t : Nat, t ≤ j → R[t]? = some (D x0.toList x1.toList (i + 1) t : Int)) →
      (∀ t : Nat, j < t → t ≤ x1.toList.length → R[t]? = some (D x0.toList x1.toList i t : Int)) →
      Ev (fun k => measure_Edit.l2 k x0 x1 R i (D x0.toList x1.toList i j : Int) (x0.size : Int) i (x1.size : Int) j) v
  | 0, j, R, hd, hl, h1, h2 => by
    have e1 := tl_size x1
    refine Ev.step (fun k => ?_) (next R hl (fun t ht => h1 t (by omega)))
    simp only [measure_Edit.l2]
    rw [if_neg (by omega), wrap_succ _ (by omega)]
  | d + 1, j, R, hd, hl, h1, h2 => by
    have e0 := tl_size x0
    have e1 := tl_size x1
    have hj : j < x1.toList.length := by omega
    have b1 := D_le x0.toList x1.toList i j
    have b2 := D_le x0.toList x1.toList (i + 1) j
    have b3 := D_le x0.toList x1.toList i (j + 1)
    have hs := D_step x0.toList x1.toList i j hi hj
    have r1 := rd_get R j _ (h1 j (Nat.le_refl _))
    have r2 := rd_get R (j + 1) _ (h2 (j + 1) (by omega) (by omega))
    have hrec := edit_l2 x0 x1 hx0 hx1 i hi v next d (j + 1) (R.set (j + 1) (D x0.toList x1.toList (i + 1) (j + 1) : Int)) (by omega) (by rw [List.length_set]; exact hl)
      (fun t ht => by
        by_cases e : t = j + 1
        · subst e; rw [List.getElem?_set_self (by omega)]
        · rw [List.getElem?_set_ne (fun h => e h.symm)]; exact h1 t (by omega))
      (fun t ht ht2 => by rw [List.getElem?_set_ne (by omega)]; exact h2 t (by omega) ht2)
    have hw2 : wrap64 ((D x0.toList x1.toList (i + 1) j : Int) + 1) = ((D x0.toList x1.toList (i + 1) j + 1 : Nat) : Int) := wrap_succ _ (by omega)
    have hw3 : wrap64 ((D x0.toList x1.toList i (j + 1) : Int) + 1) = ((D x0.toList x1.toList i (j + 1) + 1 : Nat) : Int) := wrap_succ _ (by omega)
    have c0 := bt_nat x0 i hi
    have c1 := bt_nat x1 j hj
    by_cases hc : x0.toList[i] = x1.toList[j]
    · have hcb : Go.Proofs.YtiffkknhnmpgbaaDoorW.PrintWords.bt x0 (i : Int) = Go.Proofs.YtiffkknhnmpgbaaDoorW.PrintWords.bt x1 (j : Int) := by rw [c0, c1, hc]
      rw [if_pos hc] at hs
      simp only [Nat.add_zero] at hs
      have hw1 : wrap64 ((D x0.toList x1.toList i j : Int) + 0) = (D x0.toList x1.toList i j : Int) := by rw [Int.add_zero, wrap_id (by omega) (by omega)]
      have hl2 := least_f (D x0.toList x1.toList i j : Int) ((D x0.toList x1.toList (i + 1) j + 1 : Nat) : Int) ((D x0.toList x1.toList i (j + 1) + 1 : Nat) : Int)
      rw [min_cast, ← hs] at hl2
      refine Ev.step (fun k => ?_) (Ev.bind hl2 hrec (f := fun k t115 => measure_Edit.l2 k x0 x1 (R.set (j + 1) t115) i (D x0.toList x1.toList i (j + 1) : Int) (x0.size : Int) i (x1.size : Int) ((j + 1 : Nat) : Int)))
      simp only [measure_Edit.l2]
      rw [if_pos (by omega), if_pos (by omega), if_pos (by omega), if_pos (by omega), if_pos (by omega), if_pos hcb, wrap_succ j (by omega), if_pos (by omega), if_pos (by omega), if_pos (by omega), r1, r2, hw1, hw2, hw3, Int.toNat_natCast]
    · have hcb : ¬ Go.Proofs.YtiffkknhnmpgbaaDoorW.PrintWords.bt x0 (i : Int) = Go.Proofs.YtiffkknhnmpgbaaDoorW.PrintWords.bt x1 (j : Int) := by rw [c0, c1]; intro h; exact hc (UInt8.toNat_inj.1 (by omega))
      rw [if_neg hc] at hs
      have hw1 : wrap64 ((D x0.toList x1.toList i j : Int) + 1) = ((D x0.toList x1.toList i j + 1 : Nat) : Int) := wrap_succ _ (by omega)
      have hl2 := least_f ((D x0.toList x1.toList i j + 1 : Nat) : Int) ((D x0.toList x1.toList (i + 1) j + 1 : Nat) : Int) ((D x0.toList x1.toList i (j + 1) + 1 : Nat) : Int)
      rw [min_cast, ← hs] at hl2
      refine Ev.step (fun k => ?_) (Ev.bind hl2 hrec (f := fun k t115 => measure_Edit.l2 k x0 x1 (R.set (j + 1) t115) i (D x0.toList x1.toList i (j + 1) : Int) (x0.size : Int) i (x1.size : Int) ((j + 1 : Nat) : Int)))
      simp only [measure_Edit.l2]
      rw [if_pos (by omega), if_pos (by omega), if_pos (by omega), if_pos (by omega), if_pos (by omega), if_neg hcb, wrap_succ j (by omega), if_pos (by omega), if_pos (by omega), if_pos (by omega), r1, r2, hw1, hw2, hw3, Int.toNat_natCast]
theorem edit_l1 (x0 x1 : ByteArray) (hx0 : x0.toList.length ≤ 1000) (hx1 : x1.toList.length ≤ 1000) : ∀ (d i : Nat) (R : List Int), d + i = x0.toList.length → R.length = x1.toList.length + 1 →
    (∀ j : Nat, j ≤ x1.toList.length → R[j]? = some (D x0.toList x1.toList i j : Int)) → Ev (fun k => measure_Edit.l1 k x0 x1 R (x0.size : Int) i) (dist x0.toList x1.toList : Int)
  | 0, i, R, hd, hl, hR => by
    have e0 := tl_size x0
    have e1 := tl_size x1
    have r := rd_get R x1.toList.length _ (hR x1.toList.length (Nat.le_refl _))
    refine Ev.step (f := fun _ => some (dist x0.toList x1.toList : Int)) (fun k => ?_) (Ev.now _)
    simp only [measure_Edit.l1]
    rw [if_neg (by omega), if_pos (by omega), if_pos (by omega), ← e1, r, show i = x0.toList.length by omega, D_end]
  | d + 1, i, R, hd, hl, hR => by
    have e0 := tl_size x0
    have e1 := tl_size x1
    have hi : i < x0.toList.length := by omega
    have r := rd_get R 0 _ (hR 0 (Nat.zero_le _))
    have hrec := edit_l2 x0 x1 hx0 hx1 i hi (dist x0.toList x1.toList : Int) (fun R' hl' hR' => edit_l1 x0 x1 hx0 hx1 d (i + 1) R' (by omega) hl' hR') x1.toList.length 0 (R.set 0 ((i + 1 : Nat) : Int)) (by omega) (by rw [List.length_set]; exact hl)
      (fun t ht => by
        obtain rfl : t = 0 := by omega
        rw [List.getElem?_set_self (by omega), D_zero_r _ _ _ (by omega)])
      (fun t ht ht2 => by rw [List.getElem?_set_ne (by omega)]; exact hR t ht2)
    refine Ev.step (fun k => ?_) hrec
    simp only [measure_Edit.l1]
    rw [if_pos (by omega), if_pos (by omega), wrap_succ _ (by omega)]
    have r' : rd R 0 = (D x0.toList x1.toList i 0 : Int) := r
    rw [r']
    rfl
theorem edit_j0 (x0 x1 : ByteArray) (hx0 : x0.toList.length ≤ 1000) (hx1 : x1.toList.length ≤ 1000) : Ev (fun k => measure_Edit.j0 k x0 x1) (dist x0.toList x1.toList : Int) := by
  have e0 := tl_size x0
  have e1 := tl_size x1
  have hw : wrap64 ((x1.size : Int) + 1) = ((x1.toList.length + 1 : Nat) : Int) := by rw [← e1]; exact wrap_succ _ (by omega)
  have h0 := edit_l0 x0 x1 (x1.toList.length + 1) (by omega) (dist x0.toList x1.toList : Int) (fun R hl hR => edit_l1 x0 x1 hx0 hx1 x0.toList.length 0 R (by omega) hl (fun j hj => by rw [hR j (by omega), D_zero_l _ _ _ hj]))
    (x1.toList.length + 1) 0 (List.replicate (x1.toList.length + 1) 0) (by omega) (by simp) (fun j hj => by omega)
  refine Ev.step (fun k => ?_) h0
  simp only [measure_Edit.j0]
  rw [hw, if_pos (by omega), if_pos (by rw [Int.toNat_natCast]; omega), Int.toNat_natCast]
  simp only [Option.bind_some, List.length_replicate]
  rfl
theorem dist_symm (a b : List UInt8) : dist a b = dist b a := lev_symm _ _
theorem edit_f (x0 x1 : ByteArray) (hx0 : x0.toList.length ≤ 1000) (hx1 : x1.toList.length ≤ 1000) : Ev (fun k => measure_Edit.f k x0 x1) (dist x0.toList x1.toList : Int) := by
  by_cases h : (x0.size : Int) < (x1.size : Int)
  · rw [dist_symm]
    exact Ev.congr (fun k => by unfold measure_Edit.f; rw [if_pos h]) (edit_j0 x1 x0 hx1 hx0)
  · exact Ev.congr (fun k => by unfold measure_Edit.f; rw [if_neg h]) (edit_j0 x0 x1 hx0 hx1)
theorem dist_bounds (a b : List UInt8) : a.length ≤ b.length + dist a b ∧ b.length ≤ a.length + dist a b ∧ dist a b ≤ max a.length b.length := by
  have := lev_bounds a.reverse b.reverse
  simpa [dist] using this
end Go.Proofs.YtiffkknhnmpgbaaDoor.Pure
end

section
/- What the printed functions on quotients tell. -/
namespace Go.Proofs.YtiffkknhnmpgbaaDoor.Pure
open Go Go.RowKit Go.Proofs.YtiffkknhnmpgbaaDoor.Q Go.Proofs.YtiffkknhnmpgbaaDoorW.PrintWords Go.Proofs.YtiffkknhnmpgbaaDoorW.PrintLast Go.Proofs.YtiffkknhnmpgbaaDoorW.PrintMore
set_option linter.unusedVariables false
set_option linter.unusedSimpArgs false

theorem i64_id {n : Int} (h0 : -9223372036854775808 ≤ n) (h : n < 9223372036854775808) : wrap64 n = n := by unfold wrap64; omega
theorem u64_w (n : Int) : IntKind.u64.wrap n = n % 18446744073709551616 := by rfl
theorem u64_id {n : Int} (h0 : 0 ≤ n) (h : n < 18446744073709551616) : IntKind.u64.wrap n = n := by rw [u64_w]; omega
theorem i64_of {a : Int} (h : (Lit.int .i64 a).wf = true) : -9223372036854775808 ≤ a ∧ a < 9223372036854775808 := by
  simp only [Lit.wf, Bool.and_eq_true, decide_eq_true_eq] at h
  have h2 : -9223372036854775808 ≤ a ∧ a ≤ 9223372036854775807 := h
  omega
theorem mag_f (a : Int) (h : -9223372036854775808 ≤ a ∧ a < 9223372036854775808) : ratio_magnitude_int.f a = some ((a.natAbs : Nat) : Int) := by
  unfold ratio_magnitude_int.f
  by_cases hn : a < 0
  · rw [if_pos hn, u64_w, u64_w]; congr 1; omega
  · rw [if_neg hn, u64_w]; congr 1; omega
theorem common_l1 (xs : List Int) (n i v : Int) : ∀ (d x g : Nat), x ≤ d → Ev (fun k => ratio_common.l0 k ((Nat.gcd g x : Nat) : Int) xs n (wrap64 (i + 1))) v → Ev (fun k => ratio_common.l1 k (g : Int) (x : Int) xs n i) v
  | d, 0, g, hd, hv => by
    refine Ev.step (fun k => ?_) hv
    simp only [ratio_common.l1]
    rw [if_pos (by rfl), Nat.gcd_zero_right]
  | 0, x + 1, g, hd, hv => by omega
  | d + 1, x + 1, g, hd, hv => by
    have hlt := Nat.mod_lt g (show 0 < x + 1 by omega)
    have ih := common_l1 xs n i v d (g % (x + 1)) (x + 1) (by omega) (by rw [Nat.gcd_comm (x + 1), ← Nat.gcd_rec, Nat.gcd_comm]; exact hv)
    refine Ev.step (fun k => ?_) ih
    simp only [ratio_common.l1]
    rw [if_neg (by omega), Int.tmod_eq_emod_of_nonneg (by omega)]
    rfl
theorem common_f (a b : Nat) : Ev (fun k => ratio_common.f k [(a : Int), (b : Int)]) ((Nat.gcd a b : Nat) : Int) := by
  refine Ev.congr (g := fun k => ratio_common.f k [(a : Int), (b : Int)]) (f := fun k => ratio_common.l0 k 0 [(a : Int), (b : Int)] 2 0) (fun k => rfl) ?_
  refine Ev.step (f := fun k => ratio_common.l1 k ((0 : Nat) : Int) (a : Int) [(a : Int), (b : Int)] 2 0) (fun k => by simp [ratio_common.l0, rd]) ?_
  refine common_l1 _ _ _ _ a a 0 (Nat.le_refl _) ?_
  rw [Nat.gcd_zero_left]
  refine Ev.step (f := fun k => ratio_common.l1 k (a : Int) (b : Int) [(a : Int), (b : Int)] 2 1) (fun k => by simp [ratio_common.l0, rd, wrap64]) ?_
  refine common_l1 _ _ _ _ b b a (Nat.le_refl _) ?_
  exact Ev.step (f := fun _ => some ((Nat.gcd a b : Nat) : Int)) (fun k => by simp [ratio_common.l0, wrap64]) (Ev.now _)
theorem tdiv_cast (a b : Nat) : Int.tdiv (a : Int) (b : Int) = ((a / b : Nat) : Int) := by
  rw [Int.tdiv_eq_ediv_of_nonneg (by omega)]; rfl
theorem reduced_f (n d : Nat) (hd : 0 < d) (hn : n ≤ d) (hb : d ≤ 1000000000) : Ev (fun k => ratio_reduced.f k false (n : Int) (d : Int)) ((rat n d).1, (rat n d).2, 0) := by
  have h1 : n / Nat.gcd n d ≤ 1000000000 := Nat.le_trans (Nat.div_le_self _ _) (by omega)
  have h2 : d / Nat.gcd n d ≤ 1000000000 := Nat.le_trans (Nat.div_le_self _ _) hb
  have hg : 0 < Nat.gcd n d := Nat.gcd_pos_of_pos_right n hd
  refine Ev.congr (fun k => by unfold ratio_reduced.f; rfl) (Ev.bind (common_f n d) ?_)
  rw [tdiv_cast, tdiv_cast]
  unfold rat
  obtain ⟨p, hp⟩ : ∃ p, n / Nat.gcd n d = p := ⟨_, rfl⟩
  obtain ⟨q, hq⟩ : ∃ q, d / Nat.gcd n d = q := ⟨_, rfl⟩
  rw [hp] at h1 ⊢
  rw [hq] at h2 ⊢
  refine Ev.congr (f := fun k => ratio_reduced.j0 k false (p : Int) (q : Int) false) (fun k => ?_) (Ev.step (f := fun _ => some ((p : Int), (q : Int), 0)) (fun k => ?_) (Ev.now _))
  · rw [if_neg (by omega), u64_id (by omega) (by omega), u64_id (by omega) (by omega), if_neg (by omega), decide_eq_false (by omega)]
  · simp only [ratio_reduced.j0]
    rw [if_neg (by simp), if_neg (by simp), i64_id (by omega) (by omega), i64_id (by omega) (by omega)]
theorem Make_f (n d : Nat) (hd : 0 < d) (hn : n ≤ d) (hb : d ≤ 1000000000) : Ev (fun k => ratio_Make.f k (n : Int) (d : Int)) ((rat n d).1, (rat n d).2, 0) := by
  refine Ev.congr (f := fun k => (ratio_reduced.f k false (n : Int) (d : Int)).bind fun b => some (b.1, b.2.1, b.2.2)) (fun k => ?_) (Ev.bind (reduced_f n d hd hn hb) (Ev.now _))
  unfold ratio_Make.f
  rw [if_neg (by omega), mag_f _ (by omega), mag_f _ (by omega), Option.bind_some, Option.bind_some, decide_eq_false (by omega), decide_eq_false (by omega)]
  rfl
theorem share_f (n d : Nat) (hd : 0 < d) (hn : n ≤ d) (hb : d ≤ 1000000000) : Ev (fun k => measure_share.f k (n : Int) (d : Int)) (rat n d) :=
  Ev.congr (fun k => by unfold measure_share.f; rfl) (Ev.bind (Make_f n d hd hn hb) (Ev.congr (fun k => by rw [if_pos rfl]) (Ev.now _)))
/-- How near two numbers are. -/
def nearS (x y t : Int) : Int × Int := if 0 ≤ t ∧ t < 1000000000 ∧ ((x - y).natAbs : Int) ≤ t then rat (t.toNat + 1 - (x - y).natAbs) (t.toNat + 1) else (0, 1)
theorem near_f (x y t : Int) (hx : -9223372036854775808 ≤ x ∧ x < 9223372036854775808) (hy : -9223372036854775808 ≤ y ∧ y < 9223372036854775808) (ht : -9223372036854775808 ≤ t ∧ t < 9223372036854775808) :
    Ev (fun k => measure_Near.f k x y t) (nearS x y t) := by
  have hfar : ∀ (a b : Int), -9223372036854775808 ≤ a ∧ a < 9223372036854775808 → -9223372036854775808 ≤ b ∧ b < 9223372036854775808 → ¬ a < b → IntKind.u64.wrap (IntKind.u64.wrap a - IntKind.u64.wrap b) = a - b := by
    intro a b ha hb hab
    rw [u64_w, u64_w, u64_w]; omega
  have hbody : ∀ (d : Int), d = ((x - y).natAbs : Int) → 0 ≤ t → t < 1000000000 → Ev (fun k => if d ≤ IntKind.u64.wrap t then (measure_share.f k (wrap64 (wrap64 (t + 1) - wrap64 d)) (wrap64 (t + 1))).bind fun b => some (b.1, b.2) else some (0, 1)) (nearS x y t) := by
    intro d hd h0 h1
    unfold nearS
    rw [u64_id (n := t) h0 (by omega), ← hd, i64_id (n := t + 1) (by omega) (by omega)]
    by_cases h : d ≤ t
    · rw [if_pos ⟨h0, h1, h⟩]
      refine Ev.congr (fun k => by rw [if_pos h]) ?_
      rw [i64_id (n := d) (by omega) (by omega), i64_id (n := t + 1 - d) (by omega) (by omega)]
      have e1 : t + 1 - d = ((t.toNat + 1 - (x - y).natAbs : Nat) : Int) := by omega
      have e2 : t + 1 = ((t.toNat + 1 : Nat) : Int) := by omega
      rw [e1, e2]
      exact Ev.bind (share_f _ _ (by omega) (by omega) (by omega)) (Ev.now _)
    · rw [if_neg (fun k => h k.2.2)]
      exact Ev.congr (fun k => by rw [if_neg h]) (Ev.now _)
  unfold measure_Near.f
  by_cases h0 : t < 0
  · refine Ev.congr (fun k => by rw [if_pos h0]) (Ev.step (f := fun _ => some (0, 1)) (fun k => by simp only [measure_Near.j0]; rw [if_pos trivial]) ?_)
    unfold nearS; rw [if_neg (by omega)]; exact Ev.now _
  · refine Ev.congr (fun k => by rw [if_neg h0]) ?_
    by_cases h1 : t ≥ 1000000000
    · refine Ev.step (f := fun _ => some (0, 1)) (fun k => by simp only [measure_Near.j0]; rw [if_pos (decide_eq_true h1)]) ?_
      unfold nearS; rw [if_neg (by omega)]; exact Ev.now _
    · by_cases hxy : x > y
      · refine Ev.step (fun k => by simp only [measure_Near.j0]; rw [if_neg (by simp; omega), if_pos hxy, hfar x y hx hy (by omega)]) (hbody (x - y) (by omega) (by omega) (by omega))
      · refine Ev.step (fun k => by simp only [measure_Near.j0]; rw [if_neg (by simp; omega), if_neg hxy, hfar y x hy hx (by omega)]) (hbody (y - x) (by omega) (by omega) (by omega))
end Go.Proofs.YtiffkknhnmpgbaaDoor.Pure
end

section
/- What the printed Jaro tells: the greedy matching's measure. -/
namespace Go.Proofs.YtiffkknhnmpgbaaDoor.Pure
open Go Go.RowKit Go.Proofs.YtiffkknhnmpgbaaDoor.Q Go.Proofs.YtiffkknhnmpgbaaDoorW.PrintWords Go.Proofs.YtiffkknhnmpgbaaDoorW.PrintLast Go.Proofs.YtiffkknhnmpgbaaDoorW.PrintMore
set_option linter.unusedVariables false
set_option linter.unusedSimpArgs false

theorem wrap_nat {n : Nat} (h : n < 9223372036854775808) : wrap64 (n : Int) = (n : Int) := by unfold wrap64; omega
theorem wrap_suc (i : Nat) (h : i < 4611686018427387904) : wrap64 ((i : Int) + 1) = ((i + 1 : Nat) : Int) := by unfold wrap64; omega
theorem mx_nat (a b : Nat) : mx (a : Int) (b : Int) = ((max a b : Nat) : Int) := by unfold mx; split <;> omega
theorem rdOf_get {α : Type} {z : α} {T : List α} {j : Nat} {v : α} (h : T[j]? = some v) : rdOf z T (j : Int) = v := by simp [rdOf, List.getD_eq_getElem?_getD, h]
section
variable (x0 x1 : ByteArray)
abbrev jA (x : ByteArray) : Nat → Int := fun i => Go.Proofs.YtiffkknhnmpgbaaDoorW.PrintWords.bt x (i : Int)
abbrev jC : Nat → Nat → Bool := may (win x0.size x1.size) (jA x0) (jA x1)
def JSt1 (i : Nat) (T : List Bool) : Prop := T.length = x1.size ∧ ∀ t, t < x1.size → T[t]? = some (hasR (jC x0 x1) i t)
abbrev jL (i : Nat) : List Int := lefts (jC x0 x1) (jA x0) x1.size i
abbrev jR (j : Nat) : List Int := rights (jC x0 x1) (jA x1) x0.size j
theorem jC_iff (i j : Nat) : jC x0 x1 i j = true ↔ i ≤ j + win x0.size x1.size ∧ j ≤ i + win x0.size x1.size ∧ jA x0 i = jA x1 j := by
  unfold jC may
  simp only [Bool.and_eq_true, decide_eq_true_eq, and_assoc]
theorem jaro_l1 (h0 : x0.size ≤ 200) (h1 : x1.size ≤ 200) (i : Nat) (hi : i < x0.size) (T : List Bool) (hT : JSt1 x0 x1 i T) (v : Int × Int) (e : Nat) (he : e = min (i + win x0.size x1.size + 1) x1.size)
    (next : ∀ T', JSt1 x0 x1 (i + 1) T' → Ev (fun k => measure_Jaro.l0 k x0 x1 ((win x0.size x1.size : Nat) : Int) T' (jL x0 x1 (i + 1)) (x0.size : Int) ((i + 1 : Nat) : Int)) v) :
    ∀ (d j : Nat), e ≤ d + j → j ≤ 400 → i ≤ j + win x0.size x1.size → (∀ t, t < j → mt (jC x0 x1) i t = false) →
      Ev (fun k => measure_Jaro.l1 k x0 x1 ((win x0.size x1.size : Nat) : Int) T (jL x0 x1 i) (i : Int) ((e : Int) - 1) (j : Int) (x0.size : Int) (i : Int)) v := by
  intro d
  induction d with
  | zero =>
    intro j hd hj4 hw hz
    have hall : ∀ t, t < x1.size → mt (jC x0 x1) i t = false := by
      intro t ht
      by_cases htj : t < j
      · exact hz t htj
      · cases k : mt (jC x0 x1) i t with
        | false => rfl
        | true =>
          have := (jC_iff x0 x1 i t).1 ((mt_iff _ _ _).1 k).1
          omega
    have hL : jL x0 x1 (i + 1) = jL x0 x1 i := by
      show lefts _ _ _ _ = _
      rw [lefts_succ, if_neg (fun h => by obtain ⟨t, ht, hm⟩ := hasL_iff.1 h; rw [hall t ht] at hm; cases hm)]
    have hn := next T ⟨hT.1, fun t ht => by rw [hT.2 t ht, hasR_succ, hall t ht, Bool.or_false]⟩
    rw [hL] at hn
    refine Ev.step (fun k => ?_) hn
    simp only [measure_Jaro.l1]
    rw [if_neg (by omega), wrap_suc _ (by omega)]
  | succ d ih =>
    intro j hd hj4 hw hz
    by_cases hje : e ≤ j
    · have hall : ∀ t, t < x1.size → mt (jC x0 x1) i t = false := by
        intro t ht
        by_cases htj : t < j
        · exact hz t htj
        · cases k : mt (jC x0 x1) i t with
          | false => rfl
          | true =>
            have := (jC_iff x0 x1 i t).1 ((mt_iff _ _ _).1 k).1
            omega
      have hL : jL x0 x1 (i + 1) = jL x0 x1 i := by
        show lefts _ _ _ _ = _
        rw [lefts_succ, if_neg (fun h => by obtain ⟨t, ht, hm⟩ := hasL_iff.1 h; rw [hall t ht] at hm; cases hm)]
      have hn := next T ⟨hT.1, fun t ht => by rw [hT.2 t ht, hasR_succ, hall t ht, Bool.or_false]⟩
      rw [hL] at hn
      refine Ev.step (fun k => ?_) hn
      simp only [measure_Jaro.l1]
      rw [if_neg (by omega), wrap_suc _ (by omega)]
    · have hjb : j < x1.size := by omega
      have hr : rdOf false T (j : Int) = hasR (jC x0 x1) i j := rdOf_get (hT.2 j hjb)
      have hTl := hT.1
      have cont : mt (jC x0 x1) i j = false → Ev (fun k => measure_Jaro.l1 k x0 x1 ((win x0.size x1.size : Nat) : Int) T (jL x0 x1 i) (i : Int) ((e : Int) - 1) ((j + 1 : Nat) : Int) (x0.size : Int) (i : Int)) v := fun hm =>
        ih (j + 1) (by omega) (by omega) (by omega) (fun t ht => by
          by_cases hte : t = j
          · rw [hte]; exact hm
          · exact hz t (by omega))
      cases hb : hasR (jC x0 x1) i j with
      | true =>
        have hm : mt (jC x0 x1) i j = false := by
          obtain ⟨i', hi', hm'⟩ := hasR_iff.1 hb
          cases k : mt (jC x0 x1) i j with
          | false => rfl
          | true => have := ((mt_iff _ _ _).1 k).2.2 i' hi'; rw [this] at hm'; cases hm'
        refine Ev.step (fun k => ?_) (cont hm)
        simp only [measure_Jaro.l1]
        rw [if_pos (by omega), if_pos (by omega), if_pos (by omega), hr, hb, if_pos rfl, wrap_suc _ (by omega)]
      | false =>
        have hfree : ∀ t, t < i → mt (jC x0 x1) t j = false := fun t ht => by
          cases k : mt (jC x0 x1) t j with
          | false => rfl
          | true => have := hasR_iff.2 ⟨t, ht, k⟩; rw [hb] at this; cases this
        by_cases hq : Go.Proofs.YtiffkknhnmpgbaaDoorW.PrintWords.bt x0 (i : Int) = Go.Proofs.YtiffkknhnmpgbaaDoorW.PrintWords.bt x1 (j : Int)
        · have hm : mt (jC x0 x1) i j = true := (mt_iff _ _ _).2 ⟨(jC_iff x0 x1 i j).2 ⟨hw, by omega, hq⟩, hz, hfree⟩
          have hL : jL x0 x1 (i + 1) = jL x0 x1 i ++ [Go.Proofs.YtiffkknhnmpgbaaDoorW.PrintWords.bt x0 (i : Int)] := by
            show lefts _ _ _ _ = _
            rw [lefts_succ, if_pos (hasL_iff.2 ⟨j, hjb, hm⟩)]
          have hn := next (T.set j true) ⟨by rw [List.length_set]; exact hTl, fun t ht => by
            rw [hasR_succ]
            by_cases hte : t = j
            · subst hte; rw [hm, Bool.or_true, List.getElem?_set_self (by omega)]
            · rw [mt_row hm hte, Bool.or_false, List.getElem?_set_ne (fun h => hte h.symm)]; exact hT.2 t ht⟩
          rw [hL] at hn
          have hle := lefts_le (jC x0 x1) (jA x0) x1.size i
          have hle2 : (jL x0 x1 i).length ≤ i := hle
          refine Ev.step (fun k => ?_) hn
          simp only [measure_Jaro.l1]
          rw [if_pos (by omega), if_pos (by omega), if_pos (by omega), hr, hb, if_neg (by simp), if_pos (by omega), if_pos (by omega), if_pos (by omega), if_pos hq, if_pos (by omega), wrap_suc _ (by omega), Int.toNat_natCast]
        · have hm : mt (jC x0 x1) i j = false := by
            cases k : mt (jC x0 x1) i j with
            | false => rfl
            | true => exact absurd ((jC_iff x0 x1 i j).1 ((mt_iff _ _ _).1 k).1).2.2 hq
          refine Ev.step (fun k => ?_) (cont hm)
          simp only [measure_Jaro.l1]
          rw [if_pos (by omega), if_pos (by omega), if_pos (by omega), hr, hb, if_neg (by simp), if_pos (by omega), if_pos (by omega), if_pos (by omega), if_neg hq, wrap_suc _ (by omega)]
theorem jaro_l0 (h0 : x0.size ≤ 200) (h1 : x1.size ≤ 200) (v : Int × Int)
    (next : ∀ T', JSt1 x0 x1 x0.size T' → Ev (fun k => if ((jL x0 x1 x0.size).length : Int) = 0 then some (0, 1) else measure_Jaro.l2 k x0 x1 (jL x0 x1 x0.size) ((jL x0 x1 x0.size).length : Int) 0 0 T' (T'.length : Int) 0) v) :
    ∀ (d i : Nat) (T : List Bool), d + i = x0.size → JSt1 x0 x1 i T → Ev (fun k => measure_Jaro.l0 k x0 x1 ((win x0.size x1.size : Nat) : Int) T (jL x0 x1 i) (x0.size : Int) (i : Int)) v := by
  intro d
  induction d with
  | zero =>
    intro i T hd hT
    obtain rfl : i = x0.size := by omega
    refine Ev.step (fun k => ?_) (next T hT)
    simp only [measure_Jaro.l0]
    rw [if_neg (by omega)]
  | succ d ih =>
    intro i T hd hT
    have hww : win x0.size x1.size ≤ 200 := by unfold win; omega
    have hl := jaro_l1 x0 x1 h0 h1 i (by omega) T hT v (min (i + win x0.size x1.size + 1) x1.size) rfl (fun T' hT' => ih (i + 1) T' (by omega) hT') (min (i + win x0.size x1.size + 1) x1.size) (i - win x0.size x1.size) (by omega) (by omega) (by omega)
      (fun t ht => by
        cases k : mt (jC x0 x1) i t with
        | false => rfl
        | true =>
          have := (jC_iff x0 x1 i t).1 ((mt_iff _ _ _).1 k).1
          omega)
    refine Ev.step (fun k => ?_) hl
    simp only [measure_Jaro.l0]
    have e1 : mn (wrap64 ((i : Int) + ((win x0.size x1.size : Nat) : Int))) (wrap64 ((x1.size : Int) - 1)) = ((min (i + win x0.size x1.size + 1) x1.size : Nat) : Int) - 1 := by
      rw [i64_id (by omega) (by omega), i64_id (by omega) (by omega)]; unfold mn; split <;> omega
    have e2 : mx (wrap64 ((i : Int) - ((win x0.size x1.size : Nat) : Int))) 0 = ((i - win x0.size x1.size : Nat) : Int) := by
      rw [i64_id (by omega) (by omega)]; unfold mx; split <;> omega
    rw [if_pos (by omega), e1, e2]
theorem jaro_num (m la lb u : Nat) (hm : m ≤ 200) (ha : la ≤ 200) (hb : lb ≤ 200) (hu : u ≤ m) :
    wrap64 ((wrap64 ((wrap64 ((wrap64 (2 * (m : Int))) * (m : Int))) * (lb : Int))) + (wrap64 ((wrap64 ((wrap64 (2 * (m : Int))) * (m : Int))) * (la : Int)))) = ((2 * m * m * lb + 2 * m * m * la : Nat) : Int) ∧
    wrap64 ((wrap64 ((wrap64 ((wrap64 (2 * (m : Int))) - (u : Int))) * (la : Int))) * (lb : Int)) = (((2 * m - u) * la * lb : Nat) : Int) ∧
    wrap64 ((wrap64 ((wrap64 (6 * (la : Int))) * (lb : Int))) * (m : Int)) = ((6 * la * lb * m : Nat) : Int) := by
  have a1 : 2 * m * m ≤ 400 * 200 := Nat.mul_le_mul (by omega) hm
  have a2 : 2 * m * m * lb ≤ 400 * 200 * 200 := Nat.mul_le_mul a1 hb
  have a3 : 2 * m * m * la ≤ 400 * 200 * 200 := Nat.mul_le_mul a1 ha
  have a4 : (2 * m - u) * la ≤ 400 * 200 := Nat.mul_le_mul (by omega) ha
  have a5 : (2 * m - u) * la * lb ≤ 400 * 200 * 200 := Nat.mul_le_mul a4 hb
  have a6 : 6 * la * lb ≤ 1200 * 200 := Nat.mul_le_mul (by omega) hb
  have a7 : 6 * la * lb * m ≤ 1200 * 200 * 200 := Nat.mul_le_mul a6 hm
  have a8 : 2 * m ≤ 400 := by omega
  have a9 : 2 * m - u ≤ 400 := by omega
  have a0 : 6 * la ≤ 1200 := by omega
  have hu2 : u ≤ 2 * m := by omega
  have big : ∀ {n b : Nat}, n ≤ b → b ≤ 1000000000 → n < 9223372036854775808 := fun h k => by omega
  have w1 : wrap64 (2 * (m : Int)) = ((2 * m : Nat) : Int) := (congrArg wrap64 (Int.natCast_mul 2 m).symm).trans (wrap_nat (big a8 (by decide)))
  have w2 : wrap64 (((2 * m : Nat) : Int) * (m : Int)) = ((2 * m * m : Nat) : Int) := (congrArg wrap64 (Int.natCast_mul (2 * m) m).symm).trans (wrap_nat (big a1 (by decide)))
  have w3 : wrap64 (((2 * m * m : Nat) : Int) * (lb : Int)) = ((2 * m * m * lb : Nat) : Int) := (congrArg wrap64 (Int.natCast_mul (2 * m * m) lb).symm).trans (wrap_nat (big a2 (by decide)))
  have w4 : wrap64 (((2 * m * m : Nat) : Int) * (la : Int)) = ((2 * m * m * la : Nat) : Int) := (congrArg wrap64 (Int.natCast_mul (2 * m * m) la).symm).trans (wrap_nat (big a3 (by decide)))
  have w5 : wrap64 (((2 * m : Nat) : Int) - (u : Int)) = ((2 * m - u : Nat) : Int) := (congrArg wrap64 (Int.ofNat_sub hu2).symm).trans (wrap_nat (big a9 (by decide)))
  have w6 : wrap64 (((2 * m - u : Nat) : Int) * (la : Int)) = (((2 * m - u) * la : Nat) : Int) := (congrArg wrap64 (Int.natCast_mul (2 * m - u) la).symm).trans (wrap_nat (big a4 (by decide)))
  have w7 : wrap64 ((((2 * m - u) * la : Nat) : Int) * (lb : Int)) = (((2 * m - u) * la * lb : Nat) : Int) := (congrArg wrap64 (Int.natCast_mul ((2 * m - u) * la) lb).symm).trans (wrap_nat (big a5 (by decide)))
  have w8 : wrap64 (6 * (la : Int)) = ((6 * la : Nat) : Int) := (congrArg wrap64 (Int.natCast_mul 6 la).symm).trans (wrap_nat (big a0 (by decide)))
  have w9 : wrap64 (((6 * la : Nat) : Int) * (lb : Int)) = ((6 * la * lb : Nat) : Int) := (congrArg wrap64 (Int.natCast_mul (6 * la) lb).symm).trans (wrap_nat (big a6 (by decide)))
  have w10 : wrap64 (((6 * la * lb : Nat) : Int) * (m : Int)) = ((6 * la * lb * m : Nat) : Int) := (congrArg wrap64 (Int.natCast_mul (6 * la * lb) m).symm).trans (wrap_nat (big a7 (by decide)))
  refine ⟨?_, ?_, ?_⟩
  · rw [w1, w2, w3, w4]
    exact (congrArg wrap64 (Int.natCast_add _ _).symm).trans (wrap_nat (big (Nat.add_le_add a2 a3) (by decide)))
  · rw [w1, w5, w6, w7]
  · rw [w8, w9, w10]
theorem rights_mono (C : Nat → Nat → Bool) (B : Nat → Int) (la : Nat) : ∀ (d j : Nat), (rights C B la j).length ≤ (rights C B la (j + d)).length := by
  intro d
  induction d with
  | zero => intro j; exact Nat.le_refl _
  | succ d ih =>
    intro j
    refine Nat.le_trans (ih j) ?_
    rw [← Nat.add_assoc, rights_succ]
    split
    · rw [List.length_append]; omega
    · exact Nat.le_refl _
theorem jaro_l2 (h0 : x0.size ≤ 200) (h1 : x1.size ≤ 200) (hp0 : 0 < (jL x0 x1 x0.size).length) (T : List Bool) (hT : JSt1 x0 x1 x0.size T) :
    ∀ (d j : Nat), d + j = x1.size → Ev (fun k => measure_Jaro.l2 k x0 x1 (jL x0 x1 x0.size) ((jL x0 x1 x0.size).length : Int) ((unl (jL x0 x1 x0.size) (jR x0 x1 j) : Nat) : Int) (((jR x0 x1 j).length : Nat) : Int) T (x1.size : Int) (j : Int))
      (rat (2 * (jL x0 x1 x0.size).length * (jL x0 x1 x0.size).length * x1.size + 2 * (jL x0 x1 x0.size).length * (jL x0 x1 x0.size).length * x0.size + (2 * (jL x0 x1 x0.size).length - unl (jL x0 x1 x0.size) (jR x0 x1 x1.size)) * x0.size * x1.size) (6 * x0.size * x1.size * (jL x0 x1 x0.size).length)) := by
  have hm := lefts_le (jC x0 x1) (jA x0) x1.size x0.size
  have hR := rights_le (jC x0 x1) (jA x1) x0.size x1.size
  have hs := same_count (jC x0 x1) (jA x0) (jA x1) x1.size x0.size
  have hTl := hT.1
  intro d
  induction d with
  | zero =>
    intro j hd
    obtain rfl : j = x1.size := by omega
    have hu := unl_le (jL x0 x1 x0.size) (jR x0 x1 x1.size)
    obtain ⟨m, em⟩ : ∃ m, (jL x0 x1 x0.size).length = m := ⟨_, rfl⟩
    obtain ⟨u, eu⟩ : ∃ u, unl (jL x0 x1 x0.size) (jR x0 x1 x1.size) = u := ⟨_, rfl⟩
    have em' : (lefts (jC x0 x1) (jA x0) x1.size x0.size).length = m := em
    rw [em'] at hm hs
    rw [← hs] at hR
    rw [em] at hp0
    rw [em, eu] at hu
    rw [em, eu]
    obtain ⟨g1, g2, g3⟩ := jaro_num m x0.size x1.size u (by omega) h0 h1 hu
    have k1 : 2 * m * m * x1.size ≤ 2 * m * x0.size * x1.size := Nat.mul_le_mul_right _ (Nat.mul_le_mul_left (2 * m) hm)
    have k2 : 2 * m * m * x0.size ≤ 2 * m * x1.size * x0.size := Nat.mul_le_mul_right _ (Nat.mul_le_mul_left (2 * m) hR)
    have k3 : (2 * m - u) * x0.size * x1.size ≤ 2 * m * x0.size * x1.size := Nat.mul_le_mul_right _ (Nat.mul_le_mul_right _ (by omega))
    have e1 : 2 * m * x1.size * x0.size = 2 * m * x0.size * x1.size := Nat.mul_right_comm _ _ _
    have e2 : 6 * x0.size * x1.size * m = 3 * (2 * m * x0.size * x1.size) := by
      rw [show 6 = 3 * 2 from rfl, Nat.mul_assoc 3, Nat.mul_assoc 3, Nat.mul_assoc 3]
      congr 1
      rw [Nat.mul_right_comm 2 m, Nat.mul_right_comm (2 * x0.size) m]
    have p0 : 0 < 2 * m * x0.size * x1.size := Nat.mul_pos (Nat.mul_pos (by omega) (by omega)) (by omega)
    have p1 : 2 * m * x0.size * x1.size ≤ 2 * 200 * 200 * 200 := Nat.mul_le_mul (Nat.mul_le_mul (by omega) h0) h1
    have hsh := share_f (2 * m * m * x1.size + 2 * m * m * x0.size + (2 * m - u) * x0.size * x1.size) (6 * x0.size * x1.size * m) (by omega) (by omega) (by omega)
    refine Ev.step (fun k => ?_) (Ev.bind hsh (Ev.now _))
    simp only [measure_Jaro.l2]
    rw [if_neg (by omega), g1, g2, g3, ← Int.natCast_add, wrap_nat (by omega)]
  | succ d ih =>
    intro j hd
    have hr : rdOf false T (j : Int) = hasR (jC x0 x1) x0.size j := rdOf_get (hT.2 j (by omega))
    have ihj := ih (j + 1) (by omega)
    have hrs := rights_succ (jC x0 x1) (jA x1) x0.size j
    cases hb : hasR (jC x0 x1) x0.size j with
    | false =>
      rw [if_neg (by rw [hb]; simp)] at hrs
      have hrs2 : jR x0 x1 (j + 1) = jR x0 x1 j := hrs
      rw [hrs2] at ihj
      refine Ev.step (fun k => ?_) ihj
      simp only [measure_Jaro.l2]
      rw [if_pos (by omega), if_pos (by omega), if_pos (by omega), hr, hb, if_neg (by simp), wrap_suc _ (by omega)]
    | true =>
      rw [if_pos hb] at hrs
      have hmono := rights_mono (jC x0 x1) (jA x1) x0.size (x1.size - (j + 1)) (j + 1)
      rw [show j + 1 + (x1.size - (j + 1)) = x1.size by omega, hrs, List.length_append, ← hs] at hmono
      simp only [List.length_cons, List.length_nil] at hmono
      have hlt : (jR x0 x1 j).length < (jL x0 x1 x0.size).length := by
        show (rights _ _ _ _).length < (lefts _ _ _ _).length
        omega
      have hget : (jL x0 x1 x0.size)[(jR x0 x1 j).length]? = some ((jL x0 x1 x0.size)[(jR x0 x1 j).length]) := List.getElem?_eq_getElem hlt
      have hrd : rd (jL x0 x1 x0.size) (((jR x0 x1 j).length : Nat) : Int) = (jL x0 x1 x0.size)[(jR x0 x1 j).length] := by simp [rd, List.getD_eq_getElem?_getD, hget]
      have hun := unl_snoc (jA x1 j) (jL x0 x1 x0.size) (jR x0 x1 j) _ hget
      have hrs2 : jR x0 x1 (j + 1) = jR x0 x1 j ++ [jA x1 j] := hrs
      have hu := unl_le (jL x0 x1 x0.size) (jR x0 x1 j)
      have hm2 : (jL x0 x1 x0.size).length ≤ x0.size := hm
      rw [hrs2, hun, List.length_append] at ihj
      refine Ev.step (fun k => ?_) ihj
      simp only [measure_Jaro.l2]
      rw [if_pos (by omega), if_pos (by omega), if_pos (by omega), hr, hb, if_pos rfl, if_pos (by omega), if_pos (by omega), if_pos (by omega), hrd, wrap_suc _ (by omega), wrap_suc _ (by omega), wrap_suc _ (by omega)]
      by_cases hq : (jL x0 x1 x0.size)[(jR x0 x1 j).length] = jA x1 j
      · rw [if_pos hq, if_pos hq]; rfl
      · rw [if_neg hq, if_neg hq]; rfl
theorem jaro_f (h0 : x0.size ≤ 200) (h1 : x1.size ≤ 200) : Ev (fun k => measure_Jaro.f k x0 x1) (jaroN x0.size x1.size (jA x0) (jA x1)) := by
  have t0 : x0.toList = [] ↔ x0.size = 0 := by rw [← tl_size, List.length_eq_zero_iff]
  have t1 : x1.toList = [] ↔ x1.size = 0 := by rw [← tl_size, List.length_eq_zero_iff]
  have hj1 : ¬ (x0.size = 0 ∧ x1.size = 0) → Ev (fun k => measure_Jaro.j1 k x0 x1) (jaroN x0.size x1.size (jA x0) (jA x1)) := by
    intro hne
    have hl := jaro_l0 x0 x1 h0 h1 (jaroN x0.size x1.size (jA x0) (jA x1)) (fun T hT => by
      unfold jaroN
      rw [if_neg hne]
      dsimp only
      by_cases hm : (jL x0 x1 x0.size).length = 0
      · rw [if_pos hm]
        exact Ev.congr (fun k => by rw [if_pos (by omega)]) (Ev.now _)
      · rw [if_neg hm]
        have h2 := jaro_l2 x0 x1 h0 h1 (by omega) T hT x1.size 0 rfl
        have z1 : jR x0 x1 0 = [] := rfl
        have z2 : unl (jL x0 x1 x0.size) [] = 0 := by unfold unl; rw [List.zip_nil_right]; rfl
        rw [z1, z2] at h2
        refine Ev.congr (fun k => ?_) h2
        rw [if_neg (by omega), hT.1]
        rfl) x0.size 0 (List.replicate x1.size false) rfl ⟨List.length_replicate, fun t ht => by rw [List.getElem?_replicate, if_pos ht]; rfl⟩
    refine Ev.step (fun k => ?_) hl
    simp only [measure_Jaro.j1]
    have e1 : mx (wrap64 (wrap64 (mx (x0.size : Int) (x1.size : Int) / 2) - 1)) 0 = ((win x0.size x1.size : Nat) : Int) := by
      rw [mx_nat, i64_id (n := ((max x0.size x1.size : Nat) : Int) / 2) (by omega) (by omega), i64_id (by omega) (by omega)]
      unfold win mx
      split <;> omega
    rw [if_pos (by omega), if_pos (by omega), e1, Int.toNat_natCast]
    rfl
  have hj0 : Ev (fun k => measure_Jaro.j0 k x0 x1 false) (jaroN x0.size x1.size (jA x0) (jA x1)) := by
    by_cases hz0 : x0.size = 0
    · by_cases hz1 : x1.size = 0
      · refine Ev.step (f := fun _ => some (1, 1)) (fun k => ?_) ?_
        · simp only [measure_Jaro.j0]
          rw [if_neg (by simp), if_pos (t0.2 hz0), if_pos (t1.2 hz1)]
        · unfold jaroN; rw [if_pos ⟨hz0, hz1⟩]; exact Ev.now _
      · refine Ev.step (fun k => ?_) (hj1 (fun h => hz1 h.2))
        simp only [measure_Jaro.j0]
        rw [if_neg (by simp), if_pos (t0.2 hz0), if_neg (fun h => hz1 (t1.1 h))]
    · refine Ev.step (fun k => ?_) (hj1 (fun h => hz0 h.1))
      simp only [measure_Jaro.j0]
      rw [if_neg (by simp), if_neg (fun h => hz0 (t0.1 h))]
  refine Ev.congr (fun k => ?_) hj0
  unfold measure_Jaro.f
  rw [if_neg (by omega), decide_eq_false (by omega)]
theorem jaro_long (h : 200 < x0.size ∨ 200 < x1.size) : Ev (fun k => measure_Jaro.f k x0 x1) (0, 1) := by
  have hj : Ev (fun k => measure_Jaro.j0 k x0 x1 true) (0, 1) := Ev.step (f := fun _ => some (0, 1)) (fun k => by simp only [measure_Jaro.j0]; rw [if_pos trivial]) (Ev.now _)
  refine Ev.congr (fun k => ?_) hj
  unfold measure_Jaro.f
  by_cases h0 : (x0.size : Int) > 200
  · rw [if_pos h0]
  · rw [if_neg h0, decide_eq_true (by omega)]
end
end Go.Proofs.YtiffkknhnmpgbaaDoor.Pure
end

section
/- What the printed Valid, Cmp and unit tell about quotients in lowest terms. -/
namespace Go.Proofs.YtiffkknhnmpgbaaDoor.Pure
open Go Go.RowKit Go.Proofs.YtiffkknhnmpgbaaDoor.Q Go.Proofs.YtiffkknhnmpgbaaDoorW.PrintWords Go.Proofs.YtiffkknhnmpgbaaDoorW.PrintLast Go.Proofs.YtiffkknhnmpgbaaDoorW.PrintMore
set_option linter.unusedVariables false
set_option linter.unusedSimpArgs false

theorem Valid_nat (p q : Nat) (hq : 0 < q) (hq2 : q ≤ 1000000000) (hp2 : p ≤ 1000000000) (hg : Nat.gcd p q = 1) : Ev (fun k => ratio_Valid.f k (p : Int) (q : Int)) true := by
  refine Ev.congr (f := fun k => (ratio_common.f k [(p : Int), (q : Int)]).bind fun t => some (t == 1)) (fun k => ?_) (Ev.bind (common_f p q) ?_)
  · unfold ratio_Valid.f
    rw [if_pos (by omega), if_pos (by omega), mag_f _ (by omega), Option.bind_some, if_pos (by omega), mag_f _ (by omega), Option.bind_some, Option.bind_some]
    rfl
  · rw [hg]; exact Ev.now _
theorem refGcd_l0 : ∀ (d x g : Nat), x ≤ d → Ev (fun k => cleanseref01_Gcd.l0 k (g : Int) (x : Int)) ((Nat.gcd g x : Nat) : Int)
  | d, 0, g, hd => by
    refine Ev.step (f := fun _ => some (g : Int)) (fun k => ?_) (by rw [Nat.gcd_zero_right]; exact Ev.now _)
    simp only [cleanseref01_Gcd.l0]
    rw [if_neg (by omega)]
  | 0, x + 1, g, hd => by omega
  | d + 1, x + 1, g, hd => by
    have hlt := Nat.mod_lt g (show 0 < x + 1 by omega)
    have ih := refGcd_l0 d (g % (x + 1)) (x + 1) (by omega)
    rw [Nat.gcd_comm (x + 1), ← Nat.gcd_rec, Nat.gcd_comm] at ih
    refine Ev.step (fun k => ?_) ih
    simp only [cleanseref01_Gcd.l0]
    rw [if_pos (by omega), if_neg (by omega), Int.tmod_eq_emod_of_nonneg (by omega)]
    rfl
theorem refGcd_f (a b : Nat) : Ev (fun k => cleanseref01_Gcd.f k (a : Int) (b : Int)) ((Nat.gcd a b : Nat) : Int) := refGcd_l0 b b a (Nat.le_refl _)
theorem size_f (a : Int) (h : -9223372036854775808 ≤ a ∧ a < 9223372036854775808) : cleanseref01_size.f a = some ((a.natAbs : Nat) : Int) := mag_f a h
/-- How two quotients compare. -/
def cmpN (p q a b : Nat) : Int := if p * b < a * q then -1 else if a * q < p * b then 1 else 0
theorem cmp_arith (x y : Nat) (hx : x ≤ 1000000000000000000) (hy : y ≤ 1000000000000000000) {α : Type} (u v z : α) :
    (if wrap64 (wrap64 (x : Int) - wrap64 (y : Int)) < 0 then u else if wrap64 (wrap64 (x : Int) - wrap64 (y : Int)) > 0 then v else z) = if x < y then u else if y < x then v else z := by
  rw [wrap_nat (n := x) (by omega), wrap_nat (n := y) (by omega), i64_id (by omega) (by omega)]
  by_cases h1 : x < y
  · rw [if_pos (by omega), if_pos h1]
  · rw [if_neg (by omega), if_neg h1]
    by_cases h2 : y < x
    · rw [if_pos (by omega), if_pos h2]
    · rw [if_neg (by omega), if_neg h2]
theorem Cmp_nat (p q a b : Nat) (hq : 0 < q) (hq2 : q ≤ 1000000000) (hp2 : p ≤ 1000000000) (hg : Nat.gcd p q = 1) (hb : 0 < b) (hb2 : b ≤ 1000000000) (ha2 : a ≤ 1000000000) (hg2 : Nat.gcd a b = 1) :
    Ev (fun k => ratio_Cmp.f k (p : Int) (q : Int) (a : Int) (b : Int)) (cmpN p q a b) := by
  have h1 : p * b ≤ 1000000000 * 1000000000 := Nat.mul_le_mul hp2 hb2
  have h2 : a * q ≤ 1000000000 * 1000000000 := Nat.mul_le_mul ha2 hq2
  refine Ev.congr (fun k => by unfold ratio_Cmp.f; rfl) (Ev.bind (Valid_nat p q hq hq2 hp2 hg) ?_)
  refine Ev.congr (fun k => by rw [if_pos rfl]) (Ev.bind (Valid_nat a b hb hb2 ha2 hg2) ?_)
  refine Ev.step (f := fun _ => some (cmpN p q a b)) (fun k => ?_) (Ev.now _)
  simp only [ratio_Cmp.j0]
  rw [if_neg (by simp), ← Int.natCast_mul, ← Int.natCast_mul, cmp_arith _ _ (by omega) (by omega)]
  unfold cmpN
  (repeat' split) <;> rfl
theorem Cmp_low {r s : Int × Int} {p q a b : Nat} (h : Low r p q) (k : Low s a b) : Ev (fun n => ratio_Cmp.f n r.1 r.2 s.1 s.2) (cmpN p q a b) := by
  have h1 := h.le
  have h2 := h.big
  have k1 := k.le
  have k2 := k.big
  rw [h.fst, h.snd, k.fst, k.snd]
  exact Cmp_nat p q a b h.pos h.big (by omega) h.low k.pos k.big (by omega) k.low
end Go.Proofs.YtiffkknhnmpgbaaDoor.Pure
end
