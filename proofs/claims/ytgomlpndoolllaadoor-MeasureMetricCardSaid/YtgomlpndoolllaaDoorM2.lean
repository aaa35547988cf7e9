/- The plain law of MeasureMetric. -/
import Derived.Lib.Hide
import Derived.Test.YtgomlpndoolllaaDoorQ2
import Derived.Test.YtgomlpndoolllaaDoorQ3
import Derived.Test.YtgomlpndoolllaaDoorQ10
import Derived.Test.YtgomlpndoolllaaDoorA5
import Derived.Laws.Strings
import Derived.Test.YtgomlpndoolllaaDoorD5
import Derived.Test.YtgomlpndoolllaaDoorLMetric1
/- The edit distance of two lists, and that it is a metric; no program in sight. -/
namespace Go.Proofs.YtgomlpndoolllaaDoor
set_option linter.unusedVariables false

def lev : List UInt8 → List UInt8 → Nat
  | [], b => b.length
  | x :: a, [] => (x :: a).length
  | x :: a, y :: b => min (lev a b + if x = y then 0 else 1) (min (lev (x :: a) b + 1) (lev a (y :: b) + 1))
termination_by a b => a.length + b.length
theorem lev_nil_l (b : List UInt8) : lev [] b = b.length := by unfold lev; rfl
theorem lev_nil_r (a : List UInt8) : lev a [] = a.length := by cases a <;> (unfold lev; rfl)
theorem lev_cons (x y : UInt8) (a b : List UInt8) : lev (x :: a) (y :: b) = min (lev a b + if x = y then 0 else 1) (min (lev (x :: a) b + 1) (lev a (y :: b) + 1)) := by
  rw [lev]
theorem lev_symm (a b : List UInt8) : lev a b = lev b a := by
  match a, b with
  | [], b => rw [lev_nil_l, lev_nil_r]
  | x :: a, [] => rw [lev_nil_l, lev_nil_r]
  | x :: a, y :: b =>
    rw [lev_cons, lev_cons, lev_symm a b, lev_symm (x :: a) b, lev_symm a (y :: b)]
    by_cases h : x = y
    · rw [if_pos h, if_pos h.symm]; omega
    · rw [if_neg h, if_neg (fun e => h e.symm)]; omega
termination_by a.length + b.length
theorem lev_bounds (a b : List UInt8) : a.length ≤ b.length + lev a b ∧ b.length ≤ a.length + lev a b ∧ lev a b ≤ max a.length b.length := by
  match a, b with
  | [], b => rw [lev_nil_l]; simp
  | x :: a, [] => rw [lev_nil_r]; simp
  | x :: a, y :: b =>
    have h1 := lev_bounds a b
    have h2 := lev_bounds (x :: a) b
    have h3 := lev_bounds a (y :: b)
    rw [lev_cons]
    simp only [List.length_cons] at *
    split <;> omega
termination_by a.length + b.length
theorem lev_self : ∀ a : List UInt8, lev a a = 0
  | [] => by rw [lev_nil_l]; rfl
  | x :: a => by rw [lev_cons, lev_self a, if_pos rfl]; omega
theorem lev_zero (a b : List UInt8) (h : lev a b = 0) : a = b := by
  match a, b with
  | [], b => rw [lev_nil_l] at h; exact (List.eq_nil_of_length_eq_zero h).symm
  | x :: a, [] => rw [lev_nil_r] at h; simp at h
  | x :: a, y :: b =>
    rw [lev_cons] at h
    by_cases e : x = y
    · rw [if_pos e] at h
      rw [e, lev_zero a b (by omega)]
    · rw [if_neg e] at h; omega
termination_by a.length + b.length
theorem lev_tri (a c b : List UInt8) : lev a b ≤ lev a c + lev c b := by
  match a, c, b with
  | [], c, b => have := (lev_bounds c b).2.1; rw [lev_nil_l, lev_nil_l]; omega
  | x :: a, c, [] => have := (lev_bounds (x :: a) c).1; rw [lev_nil_r, lev_nil_r]; omega
  | x :: a, [], y :: b => have := (lev_bounds (x :: a) (y :: b)).2.2; rw [lev_nil_l, lev_nil_r]; omega
  | x :: a, z :: c, y :: b =>
    have t1 := lev_tri a c b
    have t2 := lev_tri a (z :: c) (y :: b)
    have t3 := lev_tri (x :: a) (z :: c) b
    have t4 := lev_tri (x :: a) c (y :: b)
    have t5 := lev_tri (x :: a) c b
    have t6 := lev_tri a c (y :: b)
    have e1 := lev_cons x z a c
    have e2 := lev_cons z y c b
    have e3 := lev_cons x y a b
    by_cases h1 : x = z
    · by_cases h2 : z = y
      · rw [if_pos h1] at e1; rw [if_pos h2] at e2; rw [if_pos (h1.trans h2)] at e3; omega
      · rw [if_pos h1] at e1; rw [if_neg h2] at e2; split at e3 <;> omega
    · rw [if_neg h1] at e1
      split at e2 <;> split at e3 <;> omega
termination_by a.length + c.length + b.length
theorem lev_pre : ∀ (c a b : List UInt8), lev (c ++ a) (c ++ b) = lev a b
  | [], a, b => rfl
  | x :: c, a, b => by
    have ih := lev_pre c a b
    have h1 : lev (c ++ a) (c ++ b) ≤ lev (x :: c ++ a) (c ++ b) + 1 := by
      have t := lev_tri (c ++ a) (x :: c ++ a) (c ++ b)
      have d : lev (c ++ a) (x :: c ++ a) ≤ 1 := by
        cases h : c ++ a with
        | nil => rw [List.cons_append, h, lev_nil_l]; simp
        | cons z r => rw [List.cons_append, h, lev_cons]; have := lev_self (z :: r); omega
      omega
    have h2 : lev (c ++ a) (c ++ b) ≤ lev (c ++ a) (x :: c ++ b) + 1 := by
      have t := lev_tri (c ++ a) (x :: c ++ b) (c ++ b)
      have d : lev (x :: c ++ b) (c ++ b) ≤ 1 := by
        rw [lev_symm]
        cases h : c ++ b with
        | nil => rw [List.cons_append, h, lev_nil_l]; simp
        | cons z r => rw [List.cons_append, h, lev_cons]; have := lev_self (z :: r); omega
      omega
    rw [List.cons_append, List.cons_append, lev_cons, if_pos rfl, ← ih]
    rw [List.cons_append] at h1 h2
    omega
/-- A byte put in at the front changes the distance by at most one. -/
theorem lev_one (x : UInt8) (a : List UInt8) : lev (x :: a) a ≤ 1 := by
  rw [lev_symm]
  cases a with
  | nil => rw [lev_nil_l]; simp
  | cons z r => rw [lev_cons]; have := lev_self (z :: r); omega
theorem lev_put (x : UInt8) (c a : List UInt8) : lev (c ++ x :: a) (c ++ a) ≤ 1 := by rw [lev_pre]; exact lev_one x a
theorem lev_suf1 (x : UInt8) (a b : List UInt8) : lev (a ++ [x]) (b ++ [x]) = lev a b := by
  match a, b with
  | [], [] => rw [List.nil_append, lev_self, lev_self]
  | [], y :: b =>
    have hb := lev_bounds ([] ++ [x]) (y :: b ++ [x])
    rw [lev_nil_l]
    have ih := lev_suf1 x [] b
    rw [lev_nil_l] at ih
    rw [List.nil_append, List.cons_append, lev_cons] at *
    rw [lev_nil_l, lev_nil_l] at *
    simp only [List.length_cons, List.length_append, List.length_nil] at *
    by_cases e : x = y
    · rw [if_pos e] at hb ⊢; omega
    · rw [if_neg e] at hb ⊢; omega
  | z :: a, [] =>
    have hb := lev_bounds (z :: a ++ [x]) ([] ++ [x])
    rw [lev_nil_r]
    have ih := lev_suf1 x a []
    rw [lev_nil_r] at ih
    rw [List.nil_append, List.cons_append, lev_cons] at *
    rw [lev_nil_r, lev_nil_r] at *
    simp only [List.length_cons, List.length_append, List.length_nil] at *
    by_cases e : z = x
    · rw [if_pos e] at hb ⊢; omega
    · rw [if_neg e] at hb ⊢; omega
  | z :: a, y :: b =>
    have i1 := lev_suf1 x a b
    have i2 := lev_suf1 x (z :: a) b
    have i3 := lev_suf1 x a (y :: b)
    rw [List.cons_append] at i2 i3
    rw [List.cons_append, List.cons_append, lev_cons, lev_cons, i1, i2, i3]
termination_by a.length + b.length
theorem lev_suf (c : List UInt8) : ∀ (a b : List UInt8), lev (a ++ c) (b ++ c) = lev a b := by
  induction c with
  | nil => intro a b; rw [List.append_nil, List.append_nil]
  | cons x c ih =>
    intro a b
    have h := ih (a ++ [x]) (b ++ [x])
    rw [List.append_assoc, List.append_assoc] at h
    exact h.trans (lev_suf1 x a b)
end Go.Proofs.YtgomlpndoolllaaDoor

/- What the printed Edit tells: the edit distance. -/
namespace Go.Proofs.YtgomlpndoolllaaDoor.Pure
open Go Go.RowKit Go.Proofs.YtgomlpndoolllaaDoor.Q Go.Proofs.YtgomlpndoolllaaDoorW.PrintWords Go.Proofs.YtgomlpndoolllaaDoorW.PrintLast Go.Proofs.YtgomlpndoolllaaDoorW.PrintMore
set_option linter.unusedVariables false
set_option linter.unusedSimpArgs false

theorem wrap_id {n : Int} (h0 : -9223372036854775808 ≤ n) (h : n < 9223372036854775808) : wrap64 n = n := by unfold wrap64; omega
theorem wrap_succ (i : Nat) (h : i < 4611686018427387904) : wrap64 ((i : Int) + 1) = ((i + 1 : Nat) : Int) := by rw [wrap_id (by omega) (by omega)]; omega
abbrev tl (x : ByteArray) : List UInt8 := x.toList
@[simp] theorem tl_ofL (l : List UInt8) : (ofL l).toList = l := by rw [Go.ByteArray.toList_eq]; rfl
theorem ofL_tl (x : ByteArray) : ofL x.toList = x := by rw [Go.ByteArray.toList_eq]; rfl
theorem tl_inj {x y : ByteArray} (h : x.toList = y.toList) : x = y := by rw [← ofL_tl x, h, ofL_tl]
theorem tl_size (x : ByteArray) : x.toList.length = x.size := by rw [Go.ByteArray.toList_eq]; exact Array.length_toList
theorem tl_append (a b : ByteArray) : (a ++ b).toList = a.toList ++ b.toList := by rw [Go.ByteArray.toList_eq, Go.ByteArray.toList_eq, Go.ByteArray.toList_eq]; simp
theorem bt_nat (s : ByteArray) (j : Nat) (h : j < s.toList.length) : Go.Proofs.YtgomlpndoolllaaDoorW.PrintWords.bt s (j : Int) = (s.toList[j].toNat : Int) := by
  have hs : j < s.size := by rwa [tl_size] at h
  unfold Go.Proofs.YtgomlpndoolllaaDoorW.PrintWords.bt
  rw [dif_pos (by simpa using hs)]
  have e : s.toList[j] = s[j] := by
    simp only [Go.ByteArray.toList_eq]
    rfl
  rw [e]
  rfl
theorem rd_get (xs : List Int) (j : Nat) (v : Int) (h : xs[j]? = some v) : rd xs (j : Int) = v := by
  simp [rd, List.getD_eq_getElem?_getD, h]
theorem short_l0 (n : Int) (xs : List ByteArray) (hn : xs.length < 1000) : ∀ (d i : Nat), d + i = xs.length → ∃ b, Ev (fun k => cleanseref04_Short.l0 k n xs i) b ∧ (b = true ↔ ∀ x ∈ xs.drop i, (x.size : Int) ≤ n)
  | 0, i, h => ⟨true, Ev.step (f := fun _ => some true) (fun k => by simp only [cleanseref04_Short.l0]; rw [if_neg (by omega)]) (Ev.now _), by rw [List.drop_eq_nil_of_le (by omega)]; simp⟩
  | d + 1, i, h => by
    have hi : i < xs.length := by omega
    have hr : rdOf ByteArray.empty xs (i : Int) = xs[i] := by simp [rdOf, List.getD_eq_getElem?_getD, hi]
    rw [List.drop_eq_getElem_cons hi]
    by_cases hb : (xs[i].size : Int) > n
    · refine ⟨false, Ev.step (f := fun _ => some false) (fun k => by simp only [cleanseref04_Short.l0]; rw [if_pos (by omega), if_pos (by omega), hr, if_pos hb]) (Ev.now _), ⟨fun h => (by cases h), fun h => ?_⟩⟩
      have := h _ List.mem_cons_self
      omega
    · obtain ⟨b, hb1, hb2⟩ := short_l0 n xs hn d (i + 1) (by omega)
      refine ⟨b, Ev.step (fun k => by simp only [cleanseref04_Short.l0]; rw [if_pos (by omega), if_pos (by omega), hr, if_neg hb, wrap_succ _ (by omega)]) hb1, hb2.trans ⟨fun h x hx => ?_, fun h x hx => h x (List.mem_cons_of_mem _ hx)⟩⟩
      rcases List.mem_cons.1 hx with e | e
      · subst e; omega
      · exact h x e
theorem short_f (n : Int) (xs : List ByteArray) (hn : xs.length < 1000) : ∃ b, Ev (fun k => cleanseref04_Short.f k n xs) b ∧ (b = true ↔ ∀ x ∈ xs, (x.size : Int) ≤ n) := short_l0 n xs hn xs.length 0 rfl

theorem least_f (n p q : Int) : Ev (fun k => measure_least.f k n [p, q]) (min n (min p q)) := by
  refine Ev.congr (fun k => rfl) (g := fun k => measure_least.f k n [p, q]) (f := fun k => measure_least.l0 k n [p, q] 2 0) ?_
  refine Ev.step (f := fun k => measure_least.l0 k (mn n p) [p, q] 2 1) (fun k => by simp [measure_least.l0, rd, wrap64]) ?_
  refine Ev.step (f := fun k => measure_least.l0 k (mn (mn n p) q) [p, q] 2 2) (fun k => by simp [measure_least.l0, rd, wrap64]) ?_
  refine Ev.step (f := fun _ => some (mn (mn n p) q)) (fun k => by simp [measure_least.l0]) ?_
  have e : mn (mn n p) q = min n (min p q) := by unfold mn; (repeat' split) <;> omega
  rw [e]
  exact Ev.now _

/-- The distance of two beginnings. -/
def D (a b : List UInt8) (i j : Nat) : Nat := lev (a.take i).reverse (b.take j).reverse
theorem D_zero_l (a b : List UInt8) (j : Nat) (h : j ≤ b.length) : D a b 0 j = j := by
  unfold D; rw [List.take_zero, List.reverse_nil, lev_nil_l, List.length_reverse, List.length_take]; omega
theorem D_zero_r (a b : List UInt8) (i : Nat) (h : i ≤ a.length) : D a b i 0 = i := by
  unfold D; rw [List.take_zero, List.reverse_nil, lev_nil_r, List.length_reverse, List.length_take]; omega
theorem D_step (a b : List UInt8) (i j : Nat) (hi : i < a.length) (hj : j < b.length) :
    D a b (i + 1) (j + 1) = min (D a b i j + if a[i] = b[j] then 0 else 1) (min (D a b (i + 1) j + 1) (D a b i (j + 1) + 1)) := by
  have ea : (a.take (i + 1)).reverse = a[i] :: (a.take i).reverse := by rw [List.take_succ_eq_append_getElem hi, List.reverse_append]; rfl
  have eb : (b.take (j + 1)).reverse = b[j] :: (b.take j).reverse := by rw [List.take_succ_eq_append_getElem hj, List.reverse_append]; rfl
  unfold D
  rw [ea, eb, lev_cons]
theorem D_le (a b : List UInt8) (i j : Nat) : D a b i j ≤ a.length + b.length := by
  have := (lev_bounds (a.take i).reverse (b.take j).reverse).2.2
  unfold D
  simp only [List.length_reverse, List.length_take] at this
  omega
def dist (a b : List UInt8) : Nat := lev a.reverse b.reverse
theorem D_end (a b : List UInt8) : D a b a.length b.length = dist a b := by unfold D dist; rw [List.take_length, List.take_length]

theorem edit_l0 (x0 x1 : ByteArray) (M : Nat) (hM : M ≤ 1000000) (v : Int)
    (next : ∀ R : List Int, R.length = M → (∀ j : Nat, j < M → R[j]? = some (j : Int)) → Ev (fun k => measure_Edit.l1 k x0 x1 R (x0.size : Int) 0) v) :
    ∀ (d i : Nat) (R : List Int), d + i = M → R.length = M → (∀ j : Nat, j < i → R[j]? = some (j : Int)) → Ev (fun k => measure_Edit.l0 k x0 x1 R (M : Int) i) v
  | 0, i, R, hd, hl, hR => Ev.step (fun k => by simp only [measure_Edit.l0]; rw [if_neg (by omega)]) (next R hl (fun j hj => hR j (by omega)))
  | d + 1, i, R, hd, hl, hR => by
    have := edit_l0 x0 x1 M hM v next d (i + 1) (R.set i (i : Int)) (by omega) (by rw [List.length_set]; exact hl) (fun j hj => by
      by_cases e : j = i
      · subst e; rw [List.getElem?_set_self (by omega)]
      · rw [List.getElem?_set_ne (fun h => e h.symm)]; exact hR j (by omega))
    refine Ev.step (fun k => ?_) this
    simp only [measure_Edit.l0]
    rw [if_pos (by omega), if_pos (by omega), if_pos (by omega), wrap_succ _ (by omega), Int.toNat_natCast]
theorem min_cast (p q r : Nat) : min (p : Int) (min ((q : Nat) : Int) ((r : Nat) : Int)) = ((min p (min q r) : Nat) : Int) := by omega
set_option maxHeartbeats 1000000 in
theorem edit_l2 (x0 x1 : ByteArray) (hx0 : x0.toList.length ≤ 1000) (hx1 : x1.toList.length ≤ 1000) (i : Nat) (hi : i < x0.toList.length) (v : Int)
    (next : ∀ R : List Int, R.length = x1.toList.length + 1 → (∀ j : Nat, j ≤ x1.toList.length → R[j]? = some (D x0.toList x1.toList (i + 1) j : Int)) → Ev (fun k => measure_Edit.l1 k x0 x1 R (x0.size : Int) ((i + 1 : Nat) : Int)) v) :
    ∀ (d j : Nat) (R : List Int), d + j = x1.toList.length → R.length = x1.toList.length + 1 → (∀ t : Nat, t ≤ j → R[t]? = some (D x0.toList x1.toList (i + 1) t : Int)) →
      (∀ t : Nat, j < t → t ≤ x1.toList.length → R[t]? = some (D x0.toList x1.toList i t : Int)) →
      Ev (fun k => measure_Edit.l2 k x0 x1 R i (D x0.toList x1.toList i j : Int) (x0.size : Int) i (x1.size : Int) j) v
  | 0, j, R, hd, hl, h1, h2 => by
    have e1 := tl_size x1
    refine Ev.step (fun k => ?_) (next R hl (fun t ht => h1 t (by omega)))
    simp only [measure_Edit.l2]
    rw [if_neg (by omega), wrap_succ _ (by omega)]
  | d + 1, j, R, hd, hl, h1, h2 => by
    have e0 := tl_size x0
    have e1 := tl_size x1
    have hj : j < x1.toList.length := by omega
    have b1 := D_le x0.toList x1.toList i j
    have b2 := D_le x0.toList x1.toList (i + 1) j
    have b3 := D_le x0.toList x1.toList i (j + 1)
    have hs := D_step x0.toList x1.toList i j hi hj
    have r1 := rd_get R j _ (h1 j (Nat.le_refl _))
    have r2 := rd_get R (j + 1) _ (h2 (j + 1) (by omega) (by omega))
    have hrec := edit_l2 x0 x1 hx0 hx1 i hi v next d (j + 1) (R.set (j + 1) (D x0.toList x1.toList (i + 1) (j + 1) : Int)) (by omega) (by rw [List.length_set]; exact hl)
      (fun t ht => by
        by_cases e : t = j + 1
        · subst e; rw [List.getElem?_set_self (by omega)]
        · rw [List.getElem?_set_ne (fun h => e h.symm)]; exact h1 t (by omega))
      (fun t ht ht2 => by rw [List.getElem?_set_ne (by omega)]; exact h2 t (by omega) ht2)
    have hw2 : wrap64 ((D x0.toList x1.toList (i + 1) j : Int) + 1) = ((D x0.toList x1.toList (i + 1) j + 1 : Nat) : Int) := wrap_succ _ (by omega)
    have hw3 : wrap64 ((D x0.toList x1.toList i (j + 1) : Int) + 1) = ((D x0.toList x1.toList i (j + 1) + 1 : Nat) : Int) := wrap_succ _ (by omega)
    have c0 := bt_nat x0 i hi
    have c1 := bt_nat x1 j hj
    by_cases hc : x0.toList[i] = x1.toList[j]
    · have hcb : Go.Proofs.YtgomlpndoolllaaDoorW.PrintWords.bt x0 (i : Int) = Go.Proofs.YtgomlpndoolllaaDoorW.PrintWords.bt x1 (j : Int) := by rw [c0, c1, hc]
      rw [if_pos hc] at hs
      simp only [Nat.add_zero] at hs
      have hw1 : wrap64 ((D x0.toList x1.toList i j : Int) + 0) = (D x0.toList x1.toList i j : Int) := by rw [Int.add_zero, wrap_id (by omega) (by omega)]
      have hl2 := least_f (D x0.toList x1.toList i j : Int) ((D x0.toList x1.toList (i + 1) j + 1 : Nat) : Int) ((D x0.toList x1.toList i (j + 1) + 1 : Nat) : Int)
      rw [min_cast, ← hs] at hl2
      refine Ev.step (fun k => ?_) (Ev.bind hl2 hrec (f := fun k t115 => measure_Edit.l2 k x0 x1 (R.set (j + 1) t115) i (D x0.toList x1.toList i (j + 1) : Int) (x0.size : Int) i (x1.size : Int) ((j + 1 : Nat) : Int)))
      simp only [measure_Edit.l2]
      rw [if_pos (by omega), if_pos (by omega), if_pos (by omega), if_pos (by omega), if_pos (by omega), if_pos hcb, wrap_succ j (by omega), if_pos (by omega), if_pos (by omega), if_pos (by omega), r1, r2, hw1, hw2, hw3, Int.toNat_natCast]
    · have hcb : ¬ Go.Proofs.YtgomlpndoolllaaDoorW.PrintWords.bt x0 (i : Int) = Go.Proofs.YtgomlpndoolllaaDoorW.PrintWords.bt x1 (j : Int) := by rw [c0, c1]; intro h; exact hc (UInt8.toNat_inj.1 (by omega))
      rw [if_neg hc] at hs
      have hw1 : wrap64 ((D x0.toList x1.toList i j : Int) + 1) = ((D x0.toList x1.toList i j + 1 : Nat) : Int) := wrap_succ _ (by omega)
      have hl2 := least_f ((D x0.toList x1.toList i j + 1 : Nat) : Int) ((D x0.toList x1.toList (i + 1) j + 1 : Nat) : Int) ((D x0.toList x1.toList i (j + 1) + 1 : Nat) : Int)
      rw [min_cast, ← hs] at hl2
      refine Ev.step (fun k => ?_) (Ev.bind hl2 hrec (f := fun k t115 => measure_Edit.l2 k x0 x1 (R.set (j + 1) t115) i (D x0.toList x1.toList i (j + 1) : Int) (x0.size : Int) i (x1.size : Int) ((j + 1 : Nat) : Int)))
      simp only [measure_Edit.l2]
      rw [if_pos (by omega), if_pos (by omega), if_pos (by omega), if_pos (by omega), if_pos (by omega), if_neg hcb, wrap_succ j (by omega), if_pos (by omega), if_pos (by omega), if_pos (by omega), r1, r2, hw1, hw2, hw3, Int.toNat_natCast]
theorem edit_l1 (x0 x1 : ByteArray) (hx0 : x0.toList.length ≤ 1000) (hx1 : x1.toList.length ≤ 1000) : ∀ (d i : Nat) (R : List Int), d + i = x0.toList.length → R.length = x1.toList.length + 1 →
    (∀ j : Nat, j ≤ x1.toList.length → R[j]? = some (D x0.toList x1.toList i j : Int)) → Ev (fun k => measure_Edit.l1 k x0 x1 R (x0.size : Int) i) (dist x0.toList x1.toList : Int)
  | 0, i, R, hd, hl, hR => by
    have e0 := tl_size x0
    have e1 := tl_size x1
    have r := rd_get R x1.toList.length _ (hR x1.toList.length (Nat.le_refl _))
    refine Ev.step (f := fun _ => some (dist x0.toList x1.toList : Int)) (fun k => ?_) (Ev.now _)
    simp only [measure_Edit.l1]
    rw [if_neg (by omega), if_pos (by omega), if_pos (by omega), ← e1, r, show i = x0.toList.length by omega, D_end]
  | d + 1, i, R, hd, hl, hR => by
    have e0 := tl_size x0
    have e1 := tl_size x1
    have hi : i < x0.toList.length := by omega
    have r := rd_get R 0 _ (hR 0 (Nat.zero_le _))
    have hrec := edit_l2 x0 x1 hx0 hx1 i hi (dist x0.toList x1.toList : Int) (fun R' hl' hR' => edit_l1 x0 x1 hx0 hx1 d (i + 1) R' (by omega) hl' hR') x1.toList.length 0 (R.set 0 ((i + 1 : Nat) : Int)) (by omega) (by rw [List.length_set]; exact hl)
      (fun t ht => by
        obtain rfl : t = 0 := by omega
        rw [List.getElem?_set_self (by omega), D_zero_r _ _ _ (by omega)])
      (fun t ht ht2 => by rw [List.getElem?_set_ne (by omega)]; exact hR t ht2)
    refine Ev.step (fun k => ?_) hrec
    simp only [measure_Edit.l1]
    rw [if_pos (by omega), if_pos (by omega), wrap_succ _ (by omega)]
    have r' : rd R 0 = (D x0.toList x1.toList i 0 : Int) := r
    rw [r']
    rfl
theorem edit_j0 (x0 x1 : ByteArray) (hx0 : x0.toList.length ≤ 1000) (hx1 : x1.toList.length ≤ 1000) : Ev (fun k => measure_Edit.j0 k x0 x1) (dist x0.toList x1.toList : Int) := by
  have e0 := tl_size x0
  have e1 := tl_size x1
  have hw : wrap64 ((x1.size : Int) + 1) = ((x1.toList.length + 1 : Nat) : Int) := by rw [← e1]; exact wrap_succ _ (by omega)
  have h0 := edit_l0 x0 x1 (x1.toList.length + 1) (by omega) (dist x0.toList x1.toList : Int) (fun R hl hR => edit_l1 x0 x1 hx0 hx1 x0.toList.length 0 R (by omega) hl (fun j hj => by rw [hR j (by omega), D_zero_l _ _ _ hj]))
    (x1.toList.length + 1) 0 (List.replicate (x1.toList.length + 1) 0) (by omega) (by simp) (fun j hj => by omega)
  refine Ev.step (fun k => ?_) h0
  simp only [measure_Edit.j0]
  rw [hw, if_pos (by omega), if_pos (by rw [Int.toNat_natCast]; omega), Int.toNat_natCast]
  simp only [Option.bind_some, List.length_replicate]
  rfl
theorem dist_symm (a b : List UInt8) : dist a b = dist b a := lev_symm _ _
theorem edit_f (x0 x1 : ByteArray) (hx0 : x0.toList.length ≤ 1000) (hx1 : x1.toList.length ≤ 1000) : Ev (fun k => measure_Edit.f k x0 x1) (dist x0.toList x1.toList : Int) := by
  by_cases h : (x0.size : Int) < (x1.size : Int)
  · rw [dist_symm]
    exact Ev.congr (fun k => by unfold measure_Edit.f; rw [if_pos h]) (edit_j0 x1 x0 hx1 hx0)
  · exact Ev.congr (fun k => by unfold measure_Edit.f; rw [if_neg h]) (edit_j0 x0 x1 hx0 hx1)
theorem dist_zero {a b : List UInt8} : dist a b = 0 ↔ a = b := by
  constructor
  · intro h
    have := lev_zero _ _ h
    rw [← List.reverse_reverse a, this, List.reverse_reverse]
  · intro h; rw [h]; exact lev_self _
theorem dist_tri (a c b : List UInt8) : dist a b ≤ dist a c + dist c b := lev_tri _ _ _
theorem dist_bounds (a b : List UInt8) : a.length ≤ b.length + dist a b ∧ b.length ≤ a.length + dist a b ∧ dist a b ≤ max a.length b.length := by
  have := lev_bounds a.reverse b.reverse
  simpa [dist] using this
end Go.Proofs.YtgomlpndoolllaaDoor.Pure

namespace Go.Proofs.YtgomlpndoolllaaDoor.Pure
open Go Go.RowKit Go.Proofs.YtgomlpndoolllaaDoor.Q Go.Proofs.YtgomlpndoolllaaDoor.LMetric Go.Proofs.YtgomlpndoolllaaDoorW.PrintWords Go.Proofs.YtgomlpndoolllaaDoorW.PrintLast Go.Proofs.YtgomlpndoolllaaDoorW.PrintMore
set_option linter.unusedVariables false
set_option linter.unusedSimpArgs false
theorem metric_arith (s0 s1 p q r : Nat) (h1 : s0 ≤ s1 + p) (h2 : s1 ≤ s0 + p) (h3 : p ≤ max s0 s1) (ht : p ≤ q + r) (b0 : s0 ≤ 300) (b1 : s1 ≤ 300) (bq : q ≤ 1000) (br : r ≤ 1000) :
    ¬ (p : Int) > wrap64 ((q : Int) + r) ∧ (p : Int) ≥ wrap64 (mx (s0 : Int) (s1 : Int) - mn (s0 : Int) (s1 : Int)) ∧ (p : Int) ≤ mx (s0 : Int) (s1 : Int) := by
  have hmx : mx (s0 : Int) (s1 : Int) = ((max s0 s1 : Nat) : Int) := by unfold mx; split <;> omega
  have hmn : mn (s0 : Int) (s1 : Int) = ((min s0 s1 : Nat) : Int) := by unfold mn; split <;> omega
  rw [hmx, hmn, wrap_id (by omega) (by omega), wrap_id (by omega) (by omega)]
  omega
theorem MeasureMetric : cleanselaw04_MeasureMetric.Pure := by
  intro a0 a1 a2 _ _ _
  refine Ev.rounds (g := fun k => cleanselaw04_MeasureMetric.f k a0 a1 a2) ?_
  obtain ⟨b, hb, hbi⟩ := short_f 300 [a0, a1, a2] (by simp)
  refine Ev.congr (fun k => by unfold cleanselaw04_MeasureMetric.f cleanselaw04_head.f; rw [Option.bind_some]) (Ev.bind hb ?_)
  cases b with
  | false => exact Ev.congr (fun k => by rw [if_neg (by simp)]) (Ev.now _)
  | true =>
    have hh := hbi.1 rfl
    have h0 := hh a0 (by simp)
    have h1 := hh a1 (by simp)
    have h2 := hh a2 (by simp)
    have s0 := tl_size a0
    have s1 := tl_size a1
    have s2 := tl_size a2
    have d01 := edit_f a0 a1 (by omega) (by omega)
    have d10 := edit_f a1 a0 (by omega) (by omega)
    have d02 := edit_f a0 a2 (by omega) (by omega)
    have d21 := edit_f a2 a1 (by omega) (by omega)
    rw [dist_symm] at d10
    have ht := dist_tri a0.toList a2.toList a1.toList
    have hbd := dist_bounds a0.toList a1.toList
    have hb2 := dist_bounds a0.toList a2.toList
    have hb3 := dist_bounds a2.toList a1.toList
    have hz := dist_zero (a := a0.toList) (b := a1.toList)
    obtain ⟨p, hp⟩ : ∃ p, dist a0.toList a1.toList = p := ⟨_, rfl⟩
    obtain ⟨q, hq⟩ : ∃ q, dist a0.toList a2.toList = q := ⟨_, rfl⟩
    obtain ⟨r, hr⟩ : ∃ r, dist a2.toList a1.toList = r := ⟨_, rfl⟩
    rw [hp] at d01 d10 ht hbd hz
    rw [hq] at d02 ht hb2
    rw [hr] at d21 ht hb3
    have hqr : q ≤ 1000 ∧ r ≤ 1000 := by omega
    refine Ev.congr (fun k => by rw [if_pos rfl]) (Ev.bind d01 ?_)
    have heq : (((p : Int) == 0) != (a0.toList == a1.toList)) = false := by
      by_cases e : p = 0
      · rw [e, beq_iff_eq.2 (hz.1 e)]; rfl
      · rw [beq_eq_false_iff_ne.2 (fun h => e (hz.2 h)), beq_eq_false_iff_ne.2 (show (p : Int) ≠ 0 by omega)]; rfl
    refine Ev.congr (fun k => by rw [if_neg (by rw [heq]; simp)]) (Ev.bind d10 ?_)
    refine Ev.congr (fun k => by rw [if_pos rfl]) (Ev.bind d02 (Ev.bind d21 ?_))
    rw [s0, s1] at hbd
    have b0 : a0.size ≤ 300 := by exact Int.ofNat_le.1 h0
    have b1 : a1.size ≤ 300 := by exact Int.ofNat_le.1 h1
    obtain ⟨g1, g2, g3⟩ := metric_arith a0.size a1.size p q r hbd.1 hbd.2.1 hbd.2.2 ht b0 b1 hqr.1 hqr.2
    refine Ev.congr (fun k => ?_) (Ev.now true)
    rw [if_neg g1, if_pos rfl, if_pos g2, decide_eq_true g3]
end Go.Proofs.YtgomlpndoolllaaDoor.Pure
