/- Parts of the proof of Lists: words, contracts and plain laws. -/
import GoSem.Op.String
import Derived.Test.YtiffkknhnmpgbaaDoorLists2
/- The order of texts, and sorted lists without repetitions, as_ plain functions. -/
namespace Go.Proofs.YtiffkknhnmpgbaaDoor
open Go

abbrev bl : List UInt8 → List UInt8 → Bool := Op.bytesLess

theorem bl_nil_r (x : List UInt8) : bl x [] = false := by cases x <;> rfl
theorem bl_cons (a b : UInt8) (x y : List UInt8) : bl (a :: x) (b :: y) = (decide (a < b) || (a == b && bl x y)) := rfl
theorem bl_irrefl : ∀ x : List UInt8, bl x x = false
  | [] => rfl
  | a :: x => by rw [bl_cons, bl_irrefl x]; simp
theorem bl_trans : ∀ {x y z : List UInt8}, bl x y = true → bl y z = true → bl x z = true
  | _, [], _, h, _ => by rw [bl_nil_r] at h; cases h
  | _, _ :: _, [], _, h => by rw [bl_nil_r] at h; cases h
  | [], _ :: _, _ :: _, _, _ => rfl
  | a :: x, b :: y, c :: z, h, k => by
    rw [bl_cons] at h k ⊢
    simp only [Bool.or_eq_true, decide_eq_true_eq, Bool.and_eq_true, beq_iff_eq] at h k ⊢
    rcases h with h | ⟨rfl, h⟩
    · rcases k with k | ⟨rfl, k⟩
      · exact .inl (UInt8.lt_trans h k)
      · exact .inl h
    · rcases k with k | ⟨rfl, k⟩
      · exact .inl k
      · exact .inr ⟨rfl, bl_trans h k⟩
theorem bl_total : ∀ {x y : List UInt8}, x ≠ y → bl x y = true ∨ bl y x = true
  | [], [], h => absurd rfl h
  | [], _ :: _, _ => .inl rfl
  | _ :: _, [], _ => .inr rfl
  | a :: x, b :: y, h => by
    rw [bl_cons, bl_cons]
    simp only [Bool.or_eq_true, decide_eq_true_eq, Bool.and_eq_true, beq_iff_eq]
    by_cases hab : a = b
    · subst hab
      have hxy : x ≠ y := fun e => h (by rw [e])
      rcases bl_total hxy with k | k
      · exact .inl (.inr ⟨rfl, k⟩)
      · exact .inr (.inr ⟨rfl, k⟩)
    · have : a.toNat ≠ b.toNat := fun e => hab (UInt8.toNat_inj.1 e)
      rcases Nat.lt_or_gt_of_ne this with k | k
      · exact .inl (.inl (UInt8.lt_iff_toNat_lt.2 k))
      · exact .inr (.inl (UInt8.lt_iff_toNat_lt.2 k))
theorem bl_asymm {x y : List UInt8} (h : bl x y = true) : bl y x = false := by
  cases k : bl y x with
  | false => rfl
  | true => have := bl_trans h k; rw [bl_irrefl] at this; cases this
/-- Each element is less than all that follow. -/
def Inc (l : List (List UInt8)) : Prop := l.Pairwise fun x y => bl x y = true
theorem Inc.ext : ∀ {a b : List (List UInt8)}, Inc a → Inc b → (∀ x, x ∈ a ↔ x ∈ b) → a = b
  | [], [], _, _, _ => rfl
  | [], y :: b, _, _, h => absurd ((h y).2 (List.mem_cons_self)) (by simp)
  | x :: a, [], _, _, h => absurd ((h x).1 (List.mem_cons_self)) (by simp)
  | x :: a, y :: b, ha, hb, h => by
    have ha' := List.pairwise_cons.1 ha
    have hb' := List.pairwise_cons.1 hb
    have hxy : x = y := by
      rcases List.mem_cons.1 ((h x).1 List.mem_cons_self) with e | e
      · exact e
      · rcases List.mem_cons.1 ((h y).2 List.mem_cons_self) with e' | e'
        · exact e'.symm
        · have h1 := hb'.1 x e
          have h2 := ha'.1 y e'
          rw [bl_asymm h1] at h2; cases h2
    subst hxy
    congr 1
    refine Inc.ext ha'.2 hb'.2 (fun z => ?_)
    constructor
    · intro hz
      rcases List.mem_cons.1 ((h z).1 (List.mem_cons_of_mem _ hz)) with e | e
      · subst e; have := ha'.1 z hz; rw [bl_irrefl] at this; cases this
      · exact e
    · intro hz
      rcases List.mem_cons.1 ((h z).2 (List.mem_cons_of_mem _ hz)) with e | e
      · subst e; have := hb'.1 z hz; rw [bl_irrefl] at this; cases this
      · exact e
def insU (x : List UInt8) : List (List UInt8) → List (List UInt8)
  | [] => [x]
  | y :: r => if x = y then y :: r else if bl x y = true then x :: y :: r else y :: insU x r
def sortU : List (List UInt8) → List (List UInt8)
  | [] => []
  | x :: r => insU x (sortU r)
theorem mem_insU (x : List UInt8) : ∀ (l : List (List UInt8)) (z : List UInt8), z ∈ insU x l ↔ z = x ∨ z ∈ l
  | [], z => by simp [insU]
  | y :: r, z => by
    unfold insU
    split
    · rename_i h; subst h; simp
    · split
      · simp
      · rw [List.mem_cons, mem_insU x r z, List.mem_cons]
        constructor
        · rintro (h | h | h) <;> simp [h]
        · rintro (h | h | h) <;> simp [h]
theorem insU_inc (x : List UInt8) : ∀ (l : List (List UInt8)), Inc l → Inc (insU x l)
  | [], _ => List.pairwise_singleton _ _
  | y :: r, h => by
    have h' := List.pairwise_cons.1 h
    unfold insU
    split
    · exact h
    · rename_i hne
      split
      · rename_i hxy
        refine List.pairwise_cons.2 ⟨fun z hz => ?_, h⟩
        rcases List.mem_cons.1 hz with e | e
        · subst e; exact hxy
        · exact bl_trans hxy (h'.1 z e)
      · rename_i hxy
        refine List.pairwise_cons.2 ⟨fun z hz => ?_, insU_inc x r h'.2⟩
        rcases (mem_insU x r z).1 hz with e | e
        · subst e; exact (bl_total hne).resolve_left hxy
        · exact h'.1 z e
theorem sortU_inc : ∀ l, Inc (sortU l)
  | [] => List.Pairwise.nil
  | x :: r => insU_inc x _ (sortU_inc r)
theorem mem_sortU : ∀ (l : List (List UInt8)) (z : List UInt8), z ∈ sortU l ↔ z ∈ l
  | [], z => by simp [sortU]
  | x :: r, z => by rw [sortU, mem_insU, mem_sortU r z, List.mem_cons]
theorem sortU_eq {l t : List (List UInt8)} (ht : Inc t) (h : ∀ x, x ∈ t ↔ x ∈ l) : t = sortU l := ht.ext (sortU_inc l) (fun x => by rw [h, mem_sortU])
theorem insU_len (x : List UInt8) : ∀ l : List (List UInt8), (insU x l).length ≤ l.length + 1
  | [] => by simp [insU]
  | y :: r => by
    unfold insU
    split
    · simp
    · split
      · simp
      · have := insU_len x r; simp; omega
theorem sortU_len : ∀ l : List (List UInt8), (sortU l).length ≤ l.length
  | [] => by simp [sortU]
  | x :: r => by have := insU_len x (sortU r); have := sortU_len r; simp [sortU]; omega

/-- A list without repetitions, sorted by 'not greater'. -/
theorem merge_inc {ss : List (List UInt8)} (hn : ss.Nodup) (le : List UInt8 → List UInt8 → Bool) (hle : ∀ x y, le x y = !bl y x) : Inc (ss.mergeSort le) ∧ ∀ x, x ∈ ss.mergeSort le ↔ x ∈ ss := by
  have hp : (ss.mergeSort le).Perm ss := List.mergeSort_perm ss le
  refine ⟨?_, fun x => hp.mem_iff⟩
  have hs := List.pairwise_mergeSort (le := le) (fun a b c h1 h2 => by
    rw [hle] at h1 h2 ⊢
    by_cases hab : a = b
    · subst hab; exact h2
    · by_cases hbc : b = c
      · subst hbc; exact h1
      · simp only [Bool.not_eq_true'] at h1 h2 ⊢
        have k1 := (bl_total hab).resolve_right (by rw [h1]; simp)
        have k2 := (bl_total hbc).resolve_right (by rw [h2]; simp)
        exact bl_asymm (bl_trans k1 k2)) (fun a b => by
    rw [hle, hle]
    cases h : bl b a with
    | false => simp
    | true => rw [bl_asymm h]; simp) ss
  have hnd : (ss.mergeSort le).Nodup := hp.nodup_iff.2 hn
  refine (hs.and hnd).imp (fun {a b} h => ?_)
  have h1 := h.1
  rw [hle] at h1
  simp only [Bool.not_eq_true'] at h1
  exact (bl_total h.2).resolve_right (by rw [h1]; simp)

end Go.Proofs.YtiffkknhnmpgbaaDoor
