/- What the printed Edit tells: the edit distance. -/
import Derived.Test.YtgomlpndoolllaaDoorM0
import Derived.Test.YtgomlpndoolllaaDoorQ2
import Derived.Test.YtgomlpndoolllaaDoorQ3
import Derived.Test.YtgomlpndoolllaaDoorQ10
import Derived.Test.YtgomlpndoolllaaDoorA5
import Derived.Laws.Strings
namespace Go.Proofs.YtgomlpndoolllaaDoor.Pure
open Go Go.RowKit Go.Proofs.YtgomlpndoolllaaDoor.Q Go.Proofs.YtgomlpndoolllaaDoorW.PrintWords Go.Proofs.YtgomlpndoolllaaDoorW.PrintLast Go.Proofs.YtgomlpndoolllaaDoorW.PrintMore
set_option linter.unusedVariables false
set_option linter.unusedSimpArgs false

theorem wrap_id {n : Int} (h0 : -9223372036854775808 ≤ n) (h : n < 9223372036854775808) : wrap64 n = n := by unfold wrap64; omega
theorem wrap_succ (i : Nat) (h : i < 4611686018427387904) : wrap64 ((i : Int) + 1) = ((i + 1 : Nat) : Int) := by rw [wrap_id (by omega) (by omega)]; omega
abbrev tl (x : ByteArray) : List UInt8 := x.toList
@[simp] theorem tl_ofL (l : List UInt8) : (ofL l).toList = l := by rw [Go.ByteArray.toList_eq]; rfl
theorem ofL_tl (x : ByteArray) : ofL x.toList = x := by rw [Go.ByteArray.toList_eq]; rfl
theorem tl_inj {x y : ByteArray} (h : x.toList = y.toList) : x = y := by rw [← ofL_tl x, h, ofL_tl]
theorem tl_size (x : ByteArray) : x.toList.length = x.size := by rw [Go.ByteArray.toList_eq]; exact Array.length_toList
theorem tl_append (a b : ByteArray) : (a ++ b).toList = a.toList ++ b.toList := by rw [Go.ByteArray.toList_eq, Go.ByteArray.toList_eq, Go.ByteArray.toList_eq]; simp
theorem bt_nat (s : ByteArray) (j : Nat) (h : j < s.toList.length) : Go.Proofs.YtgomlpndoolllaaDoorW.PrintWords.bt s (j : Int) = (s.toList[j].toNat : Int) := by
  have hs : j < s.size := by rwa [tl_size] at h
  unfold Go.Proofs.YtgomlpndoolllaaDoorW.PrintWords.bt
  rw [dif_pos (by simpa using hs)]
  have e : s.toList[j] = s[j] := by
    simp only [Go.ByteArray.toList_eq]
    rfl
  rw [e]
  rfl
theorem rd_get (xs : List Int) (j : Nat) (v : Int) (h : xs[j]? = some v) : rd xs (j : Int) = v := by
  simp [rd, List.getD_eq_getElem?_getD, h]
theorem short_l0 (n : Int) (xs : List ByteArray) (hn : xs.length < 1000) : ∀ (d i : Nat), d + i = xs.length → ∃ b, Ev (fun k => cleanseref04_Short.l0 k n xs i) b ∧ (b = true ↔ ∀ x ∈ xs.drop i, (x.size : Int) ≤ n)
  | 0, i, h => ⟨true, Ev.step (f := fun _ => some true) (fun k => by simp only [cleanseref04_Short.l0]; rw [if_neg (by omega)]) (Ev.now _), by rw [List.drop_eq_nil_of_le (by omega)]; simp⟩
  | d + 1, i, h => by
    have hi : i < xs.length := by omega
    have hr : rdOf ByteArray.empty xs (i : Int) = xs[i] := by simp [rdOf, List.getD_eq_getElem?_getD, hi]
    rw [List.drop_eq_getElem_cons hi]
    by_cases hb : (xs[i].size : Int) > n
    · refine ⟨false, Ev.step (f := fun _ => some false) (fun k => by simp only [cleanseref04_Short.l0]; rw [if_pos (by omega), if_pos (by omega), hr, if_pos hb]) (Ev.now _), ⟨fun h => (by cases h), fun h => ?_⟩⟩
      have := h _ List.mem_cons_self
      omega
    · obtain ⟨b, hb1, hb2⟩ := short_l0 n xs hn d (i + 1) (by omega)
      refine ⟨b, Ev.step (fun k => by simp only [cleanseref04_Short.l0]; rw [if_pos (by omega), if_pos (by omega), hr, if_neg hb, wrap_succ _ (by omega)]) hb1, hb2.trans ⟨fun h x hx => ?_, fun h x hx => h x (List.mem_cons_of_mem _ hx)⟩⟩
      rcases List.mem_cons.1 hx with e | e
      · subst e; omega
      · exact h x e
theorem short_f (n : Int) (xs : List ByteArray) (hn : xs.length < 1000) : ∃ b, Ev (fun k => cleanseref04_Short.f k n xs) b ∧ (b = true ↔ ∀ x ∈ xs, (x.size : Int) ≤ n) := short_l0 n xs hn xs.length 0 rfl

theorem least_f (n p q : Int) : Ev (fun k => measure_least.f k n [p, q]) (min n (min p q)) := by
  refine Ev.congr (fun k => rfl) (g := fun k => measure_least.f k n [p, q]) (f := fun k => measure_least.l0 k n [p, q] 2 0) ?_
  refine Ev.step (f := fun k => measure_least.l0 k (mn n p) [p, q] 2 1) (fun k => by simp [measure_least.l0, rd, wrap64]) ?_
  refine Ev.step (f := fun k => measure_least.l0 k (mn (mn n p) q) [p, q] 2 2) (fun k => by simp [measure_least.l0, rd, wrap64]) ?_
  refine Ev.step (f := fun _ => some (mn (mn n p) q)) (fun k => by simp [measure_least.l0]) ?_
  have e : mn (mn n p) q = min n (min p q) := by unfold mn; (repeat' split) <;> omega
  rw [e]
  exact Ev.now _

/-- The distance of two beginnings. -/
def D (a b : List UInt8) (i j : Nat) : Nat := lev (a.take i).reverse (b.take j).reverse
theorem D_zero_l (a b : List UInt8) (j : Nat) (h : j ≤ b.length) : D a b 0 j = j := by
  unfold D; rw [List.take_zero, List.reverse_nil, lev_nil_l, List.length_reverse, List.length_take]; omega
theorem D_zero_r (a b : List UInt8) (i : Nat) (h : i ≤ a.length) : D a b i 0 = i := by
  unfold D; rw [List.take_zero, List.reverse_nil, lev_nil_r, List.length_reverse, List.length_take]; omega
theorem D_step (a b : List UInt8) (i j : Nat) (hi : i < a.length) (hj : j < b.length) :
    D a b (i + 1) (j + 1) = min (D a b i j + if a[i] = b[j] then 0 else 1) (min (D a b (i + 1) j + 1) (D a b i (j + 1) + 1)) := by
  have ea : (a.take (i + 1)).reverse = a[i] :: (a.take i).reverse := by rw [List.take_succ_eq_append_getElem hi, List.reverse_append]; rfl
  have eb : (b.take (j + 1)).reverse = b[j] :: (b.take j).reverse := by rw [List.take_succ_eq_append_getElem hj, List.reverse_append]; rfl
  unfold D
  rw [ea, eb, lev_cons]
theorem D_le (a b : List UInt8) (i j : Nat) : D a b i j ≤ a.length + b.length := by
  have := (lev_bounds (a.take i).reverse (b.take j).reverse).2.2
  unfold D
  simp only [List.length_reverse, List.length_take] at this
  omega
def dist (a b : List UInt8) : Nat := lev a.reverse b.reverse
theorem D_end (a b : List UInt8) : D a b a.length b.length = dist a b := by unfold D dist; rw [List.take_length, List.take_length]

theorem edit_l0 (x0 x1 : ByteArray) (M : Nat) (hM : M ≤ 1000000) (v : Int)
    (next : ∀ R : List Int, R.length = M → (∀ j : Nat, j < M → R[j]? = some (j : Int)) → Ev (fun k => measure_Edit.l1 k x0 x1 R (x0.size : Int) 0) v) :
    ∀ (d i : Nat) (R : List Int), d + i = M → R.length = M → (∀ j : Nat, j < i → R[j]? = some (j : Int)) → Ev (fun k => measure_Edit.l0 k x0 x1 R (M : Int) i) v
  | 0, i, R, hd, hl, hR => Ev.step (fun k => by simp only [measure_Edit.l0]; rw [if_neg (by omega)]) (next R hl (fun j hj => hR j (by omega)))
  | d + 1, i, R, hd, hl, hR => by
    have := edit_l0 x0 x1 M hM v next d (i + 1) (R.set i (i : Int)) (by omega) (by rw [List.length_set]; exact hl) (fun j hj => by
      by_cases e : j = i
      · subst e; rw [List.getElem?_set_self (by omega)]
      · rw [List.getElem?_set_ne (fun h => e h.symm)]; exact hR j (by omega))
    refine Ev.step (fun k => ?_) this
    simp only [measure_Edit.l0]
    rw [if_pos (by omega), if_pos (by omega), if_pos (by omega), wrap_succ _ (by omega), Int.toNat_natCast]
theorem min_cast (p q r : Nat) : min (p : Int) (min ((q : Nat) : Int) ((r : Nat) : Int)) = ((min p (min q r) : Nat) : Int) := by omega
set_option maxHeartbeats 1000000 in
theorem edit_l2 (x0 x1 : ByteArray) (hx0 : x0.toList.length ≤ 1000) (hx1 : x1.toList.length ≤ 1000) (i : Nat) (hi : i < x0.toList.length) (v : Int)
    (next : ∀ R : List Int, R.length = x1.toList.length + 1 → (∀ j : Nat, j ≤ x1.toList.length → R[j]? = some (D x0.toList x1.toList (i + 1) j : Int)) → Ev (fun k => measure_Edit.l1 k x0 x1 R (x0.size : Int) ((i + 1 : Nat) : Int)) v) :
    ∀ (d j : Nat) (R : List Int), d + j = x1.toList.length → R.length = x1.toList.length + 1 → (∀ t : Nat, t ≤ j → R[t]? = some (D x0.toList x1.toList (i + 1) t : Int)) →
      (∀ t : Nat, j < t → t ≤ x1.toList.length → R[t]? = some (D x0.toList x1.toList i t : Int)) →
      Ev (fun k => measure_Edit.l2 k x0 x1 R i (D x0.toList x1.toList i j : Int) (x0.size : Int) i (x1.size : Int) j) v
  | 0, j, R, hd, hl, h1, h2 => by
    have e1 := tl_size x1
    refine Ev.step (fun k => ?_) (next R hl (fun t ht => h1 t (by omega)))
    simp only [measure_Edit.l2]
    rw [if_neg (by omega), wrap_succ _ (by omega)]
  | d + 1, j, R, hd, hl, h1, h2 => by
    have e0 := tl_size x0
    have e1 := tl_size x1
    have hj : j < x1.toList.length := by omega
    have b1 := D_le x0.toList x1.toList i j
    have b2 := D_le x0.toList x1.toList (i + 1) j
    have b3 := D_le x0.toList x1.toList i (j + 1)
    have hs := D_step x0.toList x1.toList i j hi hj
    have r1 := rd_get R j _ (h1 j (Nat.le_refl _))
    have r2 := rd_get R (j + 1) _ (h2 (j + 1) (by omega) (by omega))
    have hrec := edit_l2 x0 x1 hx0 hx1 i hi v next d (j + 1) (R.set (j + 1) (D x0.toList x1.toList (i + 1) (j + 1) : Int)) (by omega) (by rw [List.length_set]; exact hl)
      (fun t ht => by
        by_cases e : t = j + 1
        · subst e; rw [List.getElem?_set_self (by omega)]
        · rw [List.getElem?_set_ne (fun h => e h.symm)]; exact h1 t (by omega))
      (fun t ht ht2 => by rw [List.getElem?_set_ne (by omega)]; exact h2 t (by omega) ht2)
    have hw2 : wrap64 ((D x0.toList x1.toList (i + 1) j : Int) + 1) = ((D x0.toList x1.toList (i + 1) j + 1 : Nat) : Int) := wrap_succ _ (by omega)
    have hw3 : wrap64 ((D x0.toList x1.toList i (j + 1) : Int) + 1) = ((D x0.toList x1.toList i (j + 1) + 1 : Nat) : Int) := wrap_succ _ (by omega)
    have c0 := bt_nat x0 i hi
    have c1 := bt_nat x1 j hj
    by_cases hc : x0.toList[i] = x1.toList[j]
    · have hcb : Go.Proofs.YtgomlpndoolllaaDoorW.PrintWords.bt x0 (i : Int) = Go.Proofs.YtgomlpndoolllaaDoorW.PrintWords.bt x1 (j : Int) := by rw [c0, c1, hc]
      rw [if_pos hc] at hs
      simp only [Nat.add_zero] at hs
      have hw1 : wrap64 ((D x0.toList x1.toList i j : Int) + 0) = (D x0.toList x1.toList i j : Int) := by rw [Int.add_zero, wrap_id (by omega) (by omega)]
      have hl2 := least_f (D x0.toList x1.toList i j : Int) ((D x0.toList x1.toList (i + 1) j + 1 : Nat) : Int) ((D x0.toList x1.toList i (j + 1) + 1 : Nat) : Int)
      rw [min_cast, ← hs] at hl2
      refine Ev.step (fun k => ?_) (Ev.bind hl2 hrec (f := fun k t115 => measure_Edit.l2 k x0 x1 (R.set (j + 1) t115) i (D x0.toList x1.toList i (j + 1) : Int) (x0.size : Int) i (x1.size : Int) ((j + 1 : Nat) : Int)))
      simp only [measure_Edit.l2]
      rw [if_pos (by omega), if_pos (by omega), if_pos (by omega), if_pos (by omega), if_pos (by omega), if_pos hcb, wrap_succ j (by omega), if_pos (by omega), if_pos (by omega), if_pos (by omega), r1, r2, hw1, hw2, hw3, Int.toNat_natCast]
    · have hcb : ¬ Go.Proofs.YtgomlpndoolllaaDoorW.PrintWords.bt x0 (i : Int) = Go.Proofs.YtgomlpndoolllaaDoorW.PrintWords.bt x1 (j : Int) := by rw [c0, c1]; intro h; exact hc (UInt8.toNat_inj.1 (by omega))
      rw [if_neg hc] at hs
      have hw1 : wrap64 ((D x0.toList x1.toList i j : Int) + 1) = ((D x0.toList x1.toList i j + 1 : Nat) : Int) := wrap_succ _ (by omega)
      have hl2 := least_f ((D x0.toList x1.toList i j + 1 : Nat) : Int) ((D x0.toList x1.toList (i + 1) j + 1 : Nat) : Int) ((D x0.toList x1.toList i (j + 1) + 1 : Nat) : Int)
      rw [min_cast, ← hs] at hl2
      refine Ev.step (fun k => ?_) (Ev.bind hl2 hrec (f := fun k t115 => measure_Edit.l2 k x0 x1 (R.set (j + 1) t115) i (D x0.toList x1.toList i (j + 1) : Int) (x0.size : Int) i (x1.size : Int) ((j + 1 : Nat) : Int)))
      simp only [measure_Edit.l2]
      rw [if_pos (by omega), if_pos (by omega), if_pos (by omega), if_pos (by omega), if_pos (by omega), if_neg hcb, wrap_succ j (by omega), if_pos (by omega), if_pos (by omega), if_pos (by omega), r1, r2, hw1, hw2, hw3, Int.toNat_natCast]
theorem edit_l1 (x0 x1 : ByteArray) (hx0 : x0.toList.length ≤ 1000) (hx1 : x1.toList.length ≤ 1000) : ∀ (d i : Nat) (R : List Int), d + i = x0.toList.length → R.length = x1.toList.length + 1 →
    (∀ j : Nat, j ≤ x1.toList.length → R[j]? = some (D x0.toList x1.toList i j : Int)) → Ev (fun k => measure_Edit.l1 k x0 x1 R (x0.size : Int) i) (dist x0.toList x1.toList : Int)
  | 0, i, R, hd, hl, hR => by
    have e0 := tl_size x0
    have e1 := tl_size x1
    have r := rd_get R x1.toList.length _ (hR x1.toList.length (Nat.le_refl _))
    refine Ev.step (f := fun _ => some (dist x0.toList x1.toList : Int)) (fun k => ?_) (Ev.now _)
    simp only [measure_Edit.l1]
    rw [if_neg (by omega), if_pos (by omega), if_pos (by omega), ← e1, r, show i = x0.toList.length by omega, D_end]
  | d + 1, i, R, hd, hl, hR => by
    have e0 := tl_size x0
    have e1 := tl_size x1
    have hi : i < x0.toList.length := by omega
    have r := rd_get R 0 _ (hR 0 (Nat.zero_le _))
    have hrec := edit_l2 x0 x1 hx0 hx1 i hi (dist x0.toList x1.toList : Int) (fun R' hl' hR' => edit_l1 x0 x1 hx0 hx1 d (i + 1) R' (by omega) hl' hR') x1.toList.length 0 (R.set 0 ((i + 1 : Nat) : Int)) (by omega) (by rw [List.length_set]; exact hl)
      (fun t ht => by
        obtain rfl : t = 0 := by omega
        rw [List.getElem?_set_self (by omega), D_zero_r _ _ _ (by omega)])
      (fun t ht ht2 => by rw [List.getElem?_set_ne (by omega)]; exact hR t ht2)
    refine Ev.step (fun k => ?_) hrec
    simp only [measure_Edit.l1]
    rw [if_pos (by omega), if_pos (by omega), wrap_succ _ (by omega)]
    have r' : rd R 0 = (D x0.toList x1.toList i 0 : Int) := r
    rw [r']
    rfl
theorem edit_j0 (x0 x1 : ByteArray) (hx0 : x0.toList.length ≤ 1000) (hx1 : x1.toList.length ≤ 1000) : Ev (fun k => measure_Edit.j0 k x0 x1) (dist x0.toList x1.toList : Int) := by
  have e0 := tl_size x0
  have e1 := tl_size x1
  have hw : wrap64 ((x1.size : Int) + 1) = ((x1.toList.length + 1 : Nat) : Int) := by rw [← e1]; exact wrap_succ _ (by omega)
  have h0 := edit_l0 x0 x1 (x1.toList.length + 1) (by omega) (dist x0.toList x1.toList : Int) (fun R hl hR => edit_l1 x0 x1 hx0 hx1 x0.toList.length 0 R (by omega) hl (fun j hj => by rw [hR j (by omega), D_zero_l _ _ _ hj]))
    (x1.toList.length + 1) 0 (List.replicate (x1.toList.length + 1) 0) (by omega) (by simp) (fun j hj => by omega)
  refine Ev.step (fun k => ?_) h0
  simp only [measure_Edit.j0]
  rw [hw, if_pos (by omega), if_pos (by rw [Int.toNat_natCast]; omega), Int.toNat_natCast]
  simp only [Option.bind_some, List.length_replicate]
  rfl
theorem dist_symm (a b : List UInt8) : dist a b = dist b a := lev_symm _ _
theorem edit_f (x0 x1 : ByteArray) (hx0 : x0.toList.length ≤ 1000) (hx1 : x1.toList.length ≤ 1000) : Ev (fun k => measure_Edit.f k x0 x1) (dist x0.toList x1.toList : Int) := by
  by_cases h : (x0.size : Int) < (x1.size : Int)
  · rw [dist_symm]
    exact Ev.congr (fun k => by unfold measure_Edit.f; rw [if_pos h]) (edit_j0 x1 x0 hx1 hx0)
  · exact Ev.congr (fun k => by unfold measure_Edit.f; rw [if_neg h]) (edit_j0 x0 x1 hx0 hx1)
theorem dist_zero {a b : List UInt8} : dist a b = 0 ↔ a = b := by
  constructor
  · intro h
    have := lev_zero _ _ h
    rw [← List.reverse_reverse a, this, List.reverse_reverse]
  · intro h; rw [h]; exact lev_self _
theorem dist_tri (a c b : List UInt8) : dist a b ≤ dist a c + dist c b := lev_tri _ _ _
theorem dist_bounds (a b : List UInt8) : a.length ≤ b.length + dist a b ∧ b.length ≤ a.length + dist a b ∧ dist a b ≤ max a.length b.length := by
  have := lev_bounds a.reverse b.reverse
  simpa [dist] using this
end Go.Proofs.YtgomlpndoolllaaDoor.Pure
