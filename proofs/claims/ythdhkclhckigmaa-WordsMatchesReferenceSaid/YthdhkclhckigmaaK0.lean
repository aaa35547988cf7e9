/- What the loops over lists of texts tell: same, in, increasing, in common; plain Lean over the printed functions. -/
import Derived.Test.YthdhkclhckigmaaQ1
import Derived.Test.YthdhkclhckigmaaQ2
import Derived.Test.YthdhkclhckigmaaQ8
import Derived.Test.YthdhkclhckigmaaS1
import Derived.Laws.Strings
namespace Go.Proofs.Ythdhkclhckigmaa.Pure
open Go Go.RowKit Go.Proofs.Ythdhkclhckigmaa.Q Go.Proofs.YthdhkclhckigmaaW.PrintWords Go.Proofs.YthdhkclhckigmaaW.PrintLast
set_option linter.unusedVariables false
set_option linter.unusedSimpArgs false

theorem wrap_id {n : Int} (h0 : -9223372036854775808 ≤ n) (h : n < 9223372036854775808) : wrap64 n = n := by unfold wrap64; omega
theorem wrap_succ (i : Nat) (h : i < 4611686018427387904) : wrap64 ((i : Int) + 1) = ((i + 1 : Nat) : Int) := by rw [wrap_id (by omega) (by omega)]; omega
abbrev tl (x : ByteArray) : List UInt8 := x.toList
theorem tl_data (x : ByteArray) : tl x = x.data.toList := Go.ByteArray.toList_eq x
@[simp] theorem tl_ofL (l : List UInt8) : (ofL l).toList = l := by rw [Go.ByteArray.toList_eq]; rfl
theorem ofL_tl (x : ByteArray) : ofL x.toList = x := by rw [Go.ByteArray.toList_eq]; rfl
theorem tl_inj {x y : ByteArray} (h : x.toList = y.toList) : x = y := by rw [← ofL_tl x, h, ofL_tl]
theorem ofL_inj {x y : List UInt8} (h : ofL x = ofL y) : x = y := by rw [← tl_ofL x, h, tl_ofL]
theorem map_tl_ofL (l : List (List UInt8)) : (l.map ofL).map tl = l := by
  rw [List.map_map]
  exact (List.map_congr_left (fun a _ => tl_ofL a)).trans (List.map_id l)
theorem map_ofL_tl (l : List ByteArray) : (l.map tl).map ofL = l := by
  rw [List.map_map]
  exact (List.map_congr_left (fun a _ => ofL_tl a)).trans (List.map_id l)
theorem rd_nat (xs : List ByteArray) (j : Nat) (h : j < xs.length) : rdOf ByteArray.empty xs (j : Int) = xs[j] := by
  simp [rdOf, List.getD_eq_getElem?_getD, h]
theorem rd_ofL (S : List (List UInt8)) (j : Nat) (h : j < S.length) : rdOf ByteArray.empty (S.map ofL) (j : Int) = ofL S[j] := by
  rw [rd_nat _ _ (by simpa using h)]; simp

theorem same_l0 (xs : List ByteArray) (hn : xs.length < 4611686018427387904) : ∀ (d i : Nat), d + i = xs.length → Ev (fun k => cleanseref03_Same.l0 k xs xs i) true
  | 0, i, h => Ev.step (f := fun _ => some true) (fun k => by simp only [cleanseref03_Same.l0]; rw [if_neg (by omega)]) (Ev.now _)
  | d + 1, i, h => Ev.step (fun k => by
      simp only [cleanseref03_Same.l0]
      rw [if_pos (by omega), if_pos (by omega), if_pos (by omega), if_true, wrap_succ _ (by omega)]) (same_l0 xs hn d (i + 1) (by omega))
theorem same_self (xs : List ByteArray) (hn : xs.length < 4611686018427387904) : Ev (fun k => cleanseref03_Same.f k xs xs) true :=
  Ev.congr (fun k => by unfold cleanseref03_Same.f; rw [if_pos rfl]; rfl) (same_l0 xs hn xs.length 0 rfl)
theorem same_of {xs ys : List ByteArray} (h : xs = ys) (hn : xs.length < 4611686018427387904) : Ev (fun k => cleanseref03_Same.f k xs ys) true := by subst h; exact same_self xs hn

theorem in_l0 (xs : List ByteArray) (x : ByteArray) (hn : xs.length < 4611686018427387904) : ∀ (d i : Nat), d + i = xs.length → x ∈ xs.drop i → Ev (fun k => cleanseref03_In.l0 k xs x i) true
  | 0, i, h, hm => by rw [List.drop_eq_nil_of_le (by omega)] at hm; cases hm
  | d + 1, i, h, hm => by
    have hi : i < xs.length := by omega
    rw [List.drop_eq_getElem_cons hi] at hm
    by_cases he : xs[i].toList = x.toList
    · refine Ev.step (f := fun _ => some true) (fun k => ?_) (Ev.now _)
      simp only [cleanseref03_In.l0]
      rw [if_pos (by omega), if_pos (by omega), rd_nat _ _ hi, if_pos he]
    · refine Ev.step (fun k => ?_) (in_l0 xs x hn d (i + 1) (by omega) ?_)
      · simp only [cleanseref03_In.l0]
        rw [if_pos (by omega), if_pos (by omega), rd_nat _ _ hi, if_neg he, wrap_succ _ (by omega)]
      · rcases List.mem_cons.1 hm with e | e
        · exact absurd (by rw [e]) he
        · exact e
theorem in_mem {xs : List ByteArray} {x : ByteArray} (h : x ∈ xs) (hn : xs.length < 4611686018427387904) : Ev (fun k => cleanseref03_In.f k xs x) true :=
  in_l0 xs x hn xs.length 0 rfl h

theorem inc_l0 (xs : List ByteArray) (hn : xs.length < 4611686018427387904) : ∀ (d i : Nat), 1 ≤ i → xs.length ≤ d + i → (∀ a b (hb : b < xs.length), b < i → (hab : a < b) → bl (tl (xs[a]'(by omega))) (tl xs[b]) = true) →
    ∃ r, Ev (fun k => cleanseref03_Increasing.l0 k xs i) r ∧ (r = true ↔ Inc (xs.map tl))
  | 0, i, h1, h, hp => ⟨true, Ev.step (f := fun _ => some true) (fun k => by simp only [cleanseref03_Increasing.l0]; rw [if_neg (by omega)]) (Ev.now _), by
      refine ⟨fun _ => List.pairwise_map.2 (List.pairwise_iff_getElem.2 fun a b ha hb hab => hp a b hb (by omega) hab), fun _ => rfl⟩⟩
  | d + 1, i, h1, h, hp => by
    by_cases hi : i < xs.length
    · have hw : wrap64 ((i : Int) - 1) = ((i - 1 : Nat) : Int) := by rw [wrap_id (by omega) (by omega)]; omega
      by_cases he : bl (tl xs[i - 1]) (tl xs[i]) = true
      · obtain ⟨r, hr, hiff⟩ := inc_l0 xs hn d (i + 1) (by omega) (by omega) (fun a b hb hbi hab => by
          by_cases hlt : b < i
          · exact hp a b hb hlt hab
          · obtain rfl : b = i := by omega
            by_cases hal : a = b - 1
            · subst hal; exact he
            · exact bl_trans (hp a (b - 1) (by omega) (by omega) (by omega)) he)
        refine ⟨r, Ev.step (fun k => ?_) hr, hiff⟩
        simp only [cleanseref03_Increasing.l0]
        rw [if_pos (by omega), hw, if_pos (by omega), if_pos (by omega), if_pos (by omega), rd_nat _ _ (by omega), rd_nat _ _ hi, if_pos he, wrap_succ _ (by omega)]
      · refine ⟨false, Ev.step (f := fun _ => some false) (fun k => ?_) (Ev.now _), ?_⟩
        · simp only [cleanseref03_Increasing.l0]
          rw [if_pos (by omega), hw, if_pos (by omega), if_pos (by omega), if_pos (by omega), rd_nat _ _ (by omega), rd_nat _ _ hi, if_neg he]
        · refine ⟨fun h => (by cases h), fun hI => ?_⟩
          exact absurd (List.pairwise_iff_getElem.1 (List.pairwise_map.1 hI) (i - 1) i (by omega) hi (by omega)) he
    · exact ⟨true, Ev.step (f := fun _ => some true) (fun k => by simp only [cleanseref03_Increasing.l0]; rw [if_neg (by omega)]) (Ev.now _), by
        refine ⟨fun _ => List.pairwise_map.2 (List.pairwise_iff_getElem.2 fun a b ha hb hab => hp a b hb (by omega) hab), fun _ => rfl⟩⟩
theorem inc_tells (xs : List ByteArray) (hn : xs.length < 4611686018427387904) : ∃ r, Ev (fun k => cleanseref03_Increasing.f k xs) r ∧ (r = true ↔ Inc (xs.map tl)) :=
  inc_l0 xs hn xs.length 1 (by omega) (by omega) (fun a b _ h hab => by omega)
theorem inc_true {xs : List ByteArray} (h : Inc (xs.map tl)) (hn : xs.length < 4611686018427387904) : Ev (fun k => cleanseref03_Increasing.f k xs) true := by
  obtain ⟨r, hr, hi⟩ := inc_tells xs hn
  rwa [hi.2 h] at hr
theorem incw_l0 : ∀ (k : Nat) (xs : List ByteArray) (i : Int), words_increasing.l0 k xs i = cleanseref03_Increasing.l0 k xs i
  | 0, _, _ => rfl
  | k + 1, xs, i => by simp only [words_increasing.l0, cleanseref03_Increasing.l0, incw_l0 k]
theorem incw_f (k : Nat) (xs : List ByteArray) : words_increasing.f k xs = cleanseref03_Increasing.f k xs := incw_l0 k xs 1

/-! ## How many two lists have in common -/
def cnt (x y : List (List UInt8)) : Nat := x.countP fun z => decide (z ∈ y)
theorem cnt_le (x y : List (List UInt8)) : cnt x y ≤ x.length := List.countP_le_length
theorem cnt_nil_r (x : List (List UInt8)) : cnt x [] = 0 := by simp [cnt]
theorem cnt_cons_in {a : List UInt8} {x y : List (List UInt8)} (h : a ∈ y) : cnt (a :: x) y = cnt x y + 1 := by simp [cnt, h]
theorem cnt_cons_out {a : List UInt8} {x y : List (List UInt8)} (h : ¬ a ∈ y) : cnt (a :: x) y = cnt x y := by simp [cnt, h]
theorem cnt_skip {b : List UInt8} {x y : List (List UInt8)} (h : ∀ z ∈ x, z ≠ b) : cnt x (b :: y) = cnt x y := by
  unfold cnt
  refine List.countP_congr fun z hz => ?_
  have := h z hz
  simp [this]
theorem inc_head {a : List UInt8} {x : List (List UInt8)} (h : Inc (a :: x)) : (∀ z ∈ x, bl a z = true) ∧ Inc x := List.pairwise_cons.1 h

theorem common_l0 (m : Nat) : ∀ (x y : List (List UInt8)) (n : Nat), x.length + y.length ≤ m → Inc x → Inc y → n + x.length < 4611686018427387904 → Ev (fun k => words_Common.l0 k (x.map ofL) (y.map ofL) n) ((n + cnt x y : Nat) : Int) := by
  induction m with
  | zero =>
    intro x y n hm hx hy hn
    obtain rfl : x = [] := List.eq_nil_of_length_eq_zero (by omega)
    refine Ev.step (f := fun k => words_Common.j2 k ([].map ofL) (y.map ofL) n false) (fun k => by simp [words_Common.l0]) (Ev.step (f := fun _ => some (n : Int)) (fun k => by simp [words_Common.j2]) ?_)
    simpa [cnt] using Ev.now (n : Int)
  | succ m ih =>
    intro x y n hm hx hy hn
    cases x with
    | nil =>
      refine Ev.step (f := fun k => words_Common.j2 k ([].map ofL) (y.map ofL) n false) (fun k => by simp [words_Common.l0]) (Ev.step (f := fun _ => some (n : Int)) (fun k => by simp [words_Common.j2]) ?_)
      simpa [cnt] using Ev.now (n : Int)
    | cons a x =>
      cases y with
      | nil =>
        refine Ev.step (f := fun k => words_Common.j2 k ((a :: x).map ofL) ([].map ofL) n false) (fun k => by simp [words_Common.l0]) (Ev.step (f := fun _ => some (n : Int)) (fun k => by simp [words_Common.j2]) ?_)
        rw [cnt_nil_r]
        exact Ev.now (n : Int)
      | cons b y =>
        obtain ⟨hxa, hx'⟩ := inc_head hx
        obtain ⟨hyb, hy'⟩ := inc_head hy
        simp only [List.length_cons] at hm hn
        refine Ev.step (f := fun k => words_Common.j2 k ((a :: x).map ofL) ((b :: y).map ofL) n true) (fun k => by
          simp only [words_Common.l0, List.map_cons, List.length_cons]
          rw [if_pos (by omega), decide_eq_true (by omega)]) ?_
        have e1 : rdOf ByteArray.empty ((a :: x).map ofL) 0 = ofL a := rfl
        have e2 : rdOf ByteArray.empty ((b :: y).map ofL) 0 = ofL b := rfl
        have l1 : (0 : Int) < (((a :: x).map ofL).length : Int) := by simp only [List.map_cons, List.length_cons]; omega
        have l2 : (0 : Int) < (((b :: y).map ofL).length : Int) := by simp only [List.map_cons, List.length_cons]; omega
        by_cases hab : bl a b = true
        · rw [cnt_cons_out (a := a) (x := x) (y := b :: y) (fun h => by
            rcases List.mem_cons.1 h with e | e
            · exact bl_ne hab e
            · have := bl_trans hab (hyb a e); rw [bl_irrefl] at this; cases this)]
          refine Ev.step (fun k => ?_) (ih x (b :: y) n (by simp only [List.length_cons]; omega) hx' hy (by omega))
          simp only [words_Common.j2, if_true]
          rw [if_pos l1, if_pos l2, e1, e2, tl_ofL, tl_ofL, if_pos hab, if_pos (by omega)]
          rfl
        · by_cases hba : bl b a = true
          · rw [cnt_skip (b := b) (x := a :: x) (y := y) (fun z hz => by
              rcases List.mem_cons.1 hz with e | e
              · subst e; exact (bl_ne hba).symm
              · exact (bl_ne (bl_trans hba (hxa z e))).symm)]
            refine Ev.step (fun k => ?_) (ih (a :: x) y n (by simp only [List.length_cons]; omega) hx hy' (by simp only [List.length_cons]; omega))
            simp only [words_Common.j2, if_true]
            rw [if_pos l1, if_pos l2, e1, e2, tl_ofL, tl_ofL, if_neg hab, if_pos hba, if_pos (by omega)]
            rfl
          · obtain rfl : a = b := by
              by_cases e : a = b
              · exact e
              · rcases bl_total e with h | h
                · exact absurd h hab
                · exact absurd h hba
            rw [cnt_cons_in List.mem_cons_self, cnt_skip (b := a) (x := x) (y := y) (fun z hz => (bl_ne (hxa z hz)).symm)]
            have := ih x y (n + 1) (by omega) hx' hy' (by omega)
            rw [show n + 1 + cnt x y = n + (cnt x y + 1) by omega] at this
            refine Ev.step (fun k => ?_) this
            simp only [words_Common.j2, if_true]
            rw [if_pos l1, if_pos l2, e1, e2, tl_ofL, if_neg hab, if_neg hba, if_pos (by omega), if_pos (by omega), wrap_succ _ (by omega)]
            rfl
theorem common_f {x y : List (List UInt8)} (hx : Inc x) (hy : Inc y) (hn : x.length < 4611686018427387904) (hm : y.length < 4611686018427387904) : Ev (fun k => words_Common.f k (x.map ofL) (y.map ofL)) (cnt x y : Int) := by
  have h1 : Ev (fun k => words_increasing.f k (x.map ofL)) true := Ev.congr (fun k => incw_f k _) (inc_true (by rw [map_tl_ofL]; exact hx) (by simpa using hn))
  have h2 : Ev (fun k => words_increasing.f k (y.map ofL)) true := Ev.congr (fun k => incw_f k _) (inc_true (by rw [map_tl_ofL]; exact hy) (by simpa using hm))
  have h3 := common_l0 (x.length + y.length) x y 0 (by omega) hx hy (by omega)
  rw [Nat.zero_add] at h3
  refine Ev.congr (fun k => by unfold words_Common.f; rfl) (Ev.bind h1 ?_)
  refine Ev.congr (fun k => by rw [if_pos rfl]) (Ev.bind h2 ?_)
  exact Ev.step (fun k => by simp [words_Common.j0]) h3

end Go.Proofs.Ythdhkclhckigmaa.Pure
