/- The edit distance of two lists, and that it is a metric; no program in sight. -/
import Derived.Lib.Hide
namespace Go.Proofs.YtgomlpndoolllaaDoor
set_option linter.unusedVariables false

def lev : List UInt8 → List UInt8 → Nat
  | [], b => b.length
  | x :: a, [] => (x :: a).length
  | x :: a, y :: b => min (lev a b + if x = y then 0 else 1) (min (lev (x :: a) b + 1) (lev a (y :: b) + 1))
termination_by a b => a.length + b.length
theorem lev_nil_l (b : List UInt8) : lev [] b = b.length := by unfold lev; rfl
theorem lev_nil_r (a : List UInt8) : lev a [] = a.length := by cases a <;> (unfold lev; rfl)
theorem lev_cons (x y : UInt8) (a b : List UInt8) : lev (x :: a) (y :: b) = min (lev a b + if x = y then 0 else 1) (min (lev (x :: a) b + 1) (lev a (y :: b) + 1)) := by
  rw [lev]
theorem lev_symm (a b : List UInt8) : lev a b = lev b a := by
  match a, b with
  | [], b => rw [lev_nil_l, lev_nil_r]
  | x :: a, [] => rw [lev_nil_l, lev_nil_r]
  | x :: a, y :: b =>
    rw [lev_cons, lev_cons, lev_symm a b, lev_symm (x :: a) b, lev_symm a (y :: b)]
    by_cases h : x = y
    · rw [if_pos h, if_pos h.symm]; omega
    · rw [if_neg h, if_neg (fun e => h e.symm)]; omega
termination_by a.length + b.length
theorem lev_bounds (a b : List UInt8) : a.length ≤ b.length + lev a b ∧ b.length ≤ a.length + lev a b ∧ lev a b ≤ max a.length b.length := by
  match a, b with
  | [], b => rw [lev_nil_l]; simp
  | x :: a, [] => rw [lev_nil_r]; simp
  | x :: a, y :: b =>
    have h1 := lev_bounds a b
    have h2 := lev_bounds (x :: a) b
    have h3 := lev_bounds a (y :: b)
    rw [lev_cons]
    simp only [List.length_cons] at *
    split <;> omega
termination_by a.length + b.length
theorem lev_self : ∀ a : List UInt8, lev a a = 0
  | [] => by rw [lev_nil_l]; rfl
  | x :: a => by rw [lev_cons, lev_self a, if_pos rfl]; omega
theorem lev_zero (a b : List UInt8) (h : lev a b = 0) : a = b := by
  match a, b with
  | [], b => rw [lev_nil_l] at h; exact (List.eq_nil_of_length_eq_zero h).symm
  | x :: a, [] => rw [lev_nil_r] at h; simp at h
  | x :: a, y :: b =>
    rw [lev_cons] at h
    by_cases e : x = y
    · rw [if_pos e] at h
      rw [e, lev_zero a b (by omega)]
    · rw [if_neg e] at h; omega
termination_by a.length + b.length
theorem lev_tri (a c b : List UInt8) : lev a b ≤ lev a c + lev c b := by
  match a, c, b with
  | [], c, b => have := (lev_bounds c b).2.1; rw [lev_nil_l, lev_nil_l]; omega
  | x :: a, c, [] => have := (lev_bounds (x :: a) c).1; rw [lev_nil_r, lev_nil_r]; omega
  | x :: a, [], y :: b => have := (lev_bounds (x :: a) (y :: b)).2.2; rw [lev_nil_l, lev_nil_r]; omega
  | x :: a, z :: c, y :: b =>
    have t1 := lev_tri a c b
    have t2 := lev_tri a (z :: c) (y :: b)
    have t3 := lev_tri (x :: a) (z :: c) b
    have t4 := lev_tri (x :: a) c (y :: b)
    have t5 := lev_tri (x :: a) c b
    have t6 := lev_tri a c (y :: b)
    have e1 := lev_cons x z a c
    have e2 := lev_cons z y c b
    have e3 := lev_cons x y a b
    by_cases h1 : x = z
    · by_cases h2 : z = y
      · rw [if_pos h1] at e1; rw [if_pos h2] at e2; rw [if_pos (h1.trans h2)] at e3; omega
      · rw [if_pos h1] at e1; rw [if_neg h2] at e2; split at e3 <;> omega
    · rw [if_neg h1] at e1
      split at e2 <;> split at e3 <;> omega
termination_by a.length + c.length + b.length
theorem lev_pre : ∀ (c a b : List UInt8), lev (c ++ a) (c ++ b) = lev a b
  | [], a, b => rfl
  | x :: c, a, b => by
    have ih := lev_pre c a b
    have h1 : lev (c ++ a) (c ++ b) ≤ lev (x :: c ++ a) (c ++ b) + 1 := by
      have t := lev_tri (c ++ a) (x :: c ++ a) (c ++ b)
      have d : lev (c ++ a) (x :: c ++ a) ≤ 1 := by
        cases h : c ++ a with
        | nil => rw [List.cons_append, h, lev_nil_l]; simp
        | cons z r => rw [List.cons_append, h, lev_cons]; have := lev_self (z :: r); omega
      omega
    have h2 : lev (c ++ a) (c ++ b) ≤ lev (c ++ a) (x :: c ++ b) + 1 := by
      have t := lev_tri (c ++ a) (x :: c ++ b) (c ++ b)
      have d : lev (x :: c ++ b) (c ++ b) ≤ 1 := by
        rw [lev_symm]
        cases h : c ++ b with
        | nil => rw [List.cons_append, h, lev_nil_l]; simp
        | cons z r => rw [List.cons_append, h, lev_cons]; have := lev_self (z :: r); omega
      omega
    rw [List.cons_append, List.cons_append, lev_cons, if_pos rfl, ← ih]
    rw [List.cons_append] at h1 h2
    omega
/-- A byte put in at the front changes the distance by at most one. -/
theorem lev_one (x : UInt8) (a : List UInt8) : lev (x :: a) a ≤ 1 := by
  rw [lev_symm]
  cases a with
  | nil => rw [lev_nil_l]; simp
  | cons z r => rw [lev_cons]; have := lev_self (z :: r); omega
theorem lev_put (x : UInt8) (c a : List UInt8) : lev (c ++ x :: a) (c ++ a) ≤ 1 := by rw [lev_pre]; exact lev_one x a
theorem lev_suf1 (x : UInt8) (a b : List UInt8) : lev (a ++ [x]) (b ++ [x]) = lev a b := by
  match a, b with
  | [], [] => rw [List.nil_append, lev_self, lev_self]
  | [], y :: b =>
    have hb := lev_bounds ([] ++ [x]) (y :: b ++ [x])
    rw [lev_nil_l]
    have ih := lev_suf1 x [] b
    rw [lev_nil_l] at ih
    rw [List.nil_append, List.cons_append, lev_cons] at *
    rw [lev_nil_l, lev_nil_l] at *
    simp only [List.length_cons, List.length_append, List.length_nil] at *
    by_cases e : x = y
    · rw [if_pos e] at hb ⊢; omega
    · rw [if_neg e] at hb ⊢; omega
  | z :: a, [] =>
    have hb := lev_bounds (z :: a ++ [x]) ([] ++ [x])
    rw [lev_nil_r]
    have ih := lev_suf1 x a []
    rw [lev_nil_r] at ih
    rw [List.nil_append, List.cons_append, lev_cons] at *
    rw [lev_nil_r, lev_nil_r] at *
    simp only [List.length_cons, List.length_append, List.length_nil] at *
    by_cases e : z = x
    · rw [if_pos e] at hb ⊢; omega
    · rw [if_neg e] at hb ⊢; omega
  | z :: a, y :: b =>
    have i1 := lev_suf1 x a b
    have i2 := lev_suf1 x (z :: a) b
    have i3 := lev_suf1 x a (y :: b)
    rw [List.cons_append] at i2 i3
    rw [List.cons_append, List.cons_append, lev_cons, lev_cons, i1, i2, i3]
termination_by a.length + b.length
theorem lev_suf (c : List UInt8) : ∀ (a b : List UInt8), lev (a ++ c) (b ++ c) = lev a b := by
  induction c with
  | nil => intro a b; rw [List.append_nil, List.append_nil]
  | cons x c ih =>
    intro a b
    have h := ih (a ++ [x]) (b ++ [x])
    rw [List.append_assoc, List.append_assoc] at h
    exact h.trans (lev_suf1 x a b)
end Go.Proofs.YtgomlpndoolllaaDoor
