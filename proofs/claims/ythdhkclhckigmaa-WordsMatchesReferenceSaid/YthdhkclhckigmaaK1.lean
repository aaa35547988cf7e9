/- What the reference's sorted list is; the words of texts put together; plain Lean over the printed functions. -/
import Derived.Test.YthdhkclhckigmaaK0
import Derived.Test.YthdhkclhckigmaaQ3
import Derived.Test.YthdhkclhckigmaaQ6
namespace Go.Proofs.Ythdhkclhckigmaa.Pure
open Go Go.RowKit Go.Proofs.Ythdhkclhckigmaa.Q Go.Proofs.YthdhkclhckigmaaW.PrintWords Go.Proofs.YthdhkclhckigmaaW.PrintLast
set_option linter.unusedVariables false
set_option linter.unusedSimpArgs false

/-- An element put at its place. -/
theorem put_inc {S : List (List UInt8)} {x : List UInt8} {j : Nat} (hS : Inc S) (h1 : ∀ z ∈ S.take j, bl z x = true) (h2 : ∀ z ∈ S.drop j, bl x z = true) : Inc (S.take j ++ [x] ++ S.drop j) := by
  have hsplit : Inc (S.take j ++ S.drop j) := by rw [List.take_append_drop]; exact hS
  obtain ⟨ha, hb, hc⟩ := List.pairwise_append.1 hsplit
  refine List.pairwise_append.2 ⟨List.pairwise_append.2 ⟨ha, List.pairwise_singleton _ _, fun z hz y hy => by rw [List.mem_singleton.1 hy]; exact h1 z hz⟩, hb, fun z hz y hy => ?_⟩
  rcases List.mem_append.1 hz with hz | hz
  · exact hc z hz y hy
  · rw [List.mem_singleton.1 hz]; exact h2 y hy
theorem put_mem (S : List (List UInt8)) (x : List UInt8) (j : Nat) (z : List UInt8) : z ∈ S.take j ++ [x] ++ S.drop j ↔ z = x ∨ z ∈ S := by
  have : z ∈ S ↔ z ∈ S.take j ∨ z ∈ S.drop j := by rw [← List.mem_append, List.take_append_drop]
  rw [this]
  simp only [List.mem_append, List.mem_singleton]
  constructor
  · rintro ((h | h) | h)
    · exact .inr (.inl h)
    · exact .inl h
    · exact .inr (.inr h)
  · rintro (h | h | h)
    · exact .inl (.inr h)
    · exact .inl (.inl h)
    · exact .inr h

theorem sorted_l1 (xs : List ByteArray) (hn : xs.length ≤ 1000000) (i : Nat) (hi : i < xs.length) (S : List (List UInt8)) (hS : Inc S) (hl : S.length ≤ i) (r : List ByteArray)
    (next : ∀ T, Inc T → T.length ≤ i + 1 → (∀ z, z ∈ T ↔ z = tl xs[i] ∨ z ∈ S) → Ev (fun k => cleanseref03_Sorted.l0 k xs (T.map ofL) ((i + 1 : Nat) : Int)) r) :
    ∀ (d j : Nat), d + j = S.length → (∀ z ∈ S.take j, bl z (tl xs[i]) = true) → Ev (fun k => cleanseref03_Sorted.l1 k xs (S.map ofL) i j) r
  | 0, j, hd, hlt => by
    have hj : j = S.length := by omega
    have := next (S.take j ++ [tl xs[i]] ++ S.drop j) (put_inc hS hlt (by rw [List.drop_eq_nil_of_le (by omega)]; simp)) (by simp; omega) (put_mem S _ j)
    refine Ev.step (fun k => ?_) this
    simp only [cleanseref03_Sorted.l1]
    rw [if_neg (by simp; omega)]
    simp only [Option.bind_some, List.nil_append, List.length_nil, Nat.zero_add, Int.toNat_natCast]
    rw [if_pos (by omega), if_pos (by simp; omega), if_pos (by simp; omega), if_pos (by omega), if_pos (by omega), if_pos (by simp; omega), if_pos (by simp; omega), rd_nat _ _ hi, wrap_succ _ (by omega)]
    simp [List.map_append, List.map_take, List.map_drop, ofL_tl]
  | d + 1, j, hd, hlt => by
    have hj : j < S.length := by omega
    by_cases h1 : bl S[j] (tl xs[i]) = true
    · refine Ev.step (fun k => ?_) (sorted_l1 xs hn i hi S hS hl r next d (j + 1) (by omega) (fun z hz => ?_))
      · simp only [cleanseref03_Sorted.l1]
        rw [if_pos (by simp; omega), if_pos (by omega), if_pos (by omega), if_pos (by omega), rd_nat _ _ hi, rd_ofL _ _ hj, tl_ofL, if_pos h1, wrap_succ _ (by omega)]
      · rw [List.take_succ_eq_append_getElem hj] at hz
        rcases List.mem_append.1 hz with hz | hz
        · exact hlt z hz
        · rw [List.mem_singleton.1 hz]; exact h1
    · by_cases h2 : S[j] = tl xs[i]
      · have := next S hS (by omega) (fun z => ⟨.inr, fun h => by
          rcases h with h | h
          · rw [h, ← h2]; exact List.getElem_mem hj
          · exact h⟩)
        refine Ev.step (fun k => ?_) this
        simp only [cleanseref03_Sorted.l1]
        rw [if_pos (by simp; omega), if_pos (by omega), if_pos (by omega), if_pos (by omega), rd_nat _ _ hi, rd_ofL _ _ hj, tl_ofL, if_neg h1, if_pos h2, wrap_succ _ (by omega)]
      · have h3 : bl (tl xs[i]) S[j] = true := (bl_total h2).resolve_left h1
        have := next (S.take j ++ [tl xs[i]] ++ S.drop j) (put_inc hS hlt (fun z hz => by
          rw [List.drop_eq_getElem_cons hj] at hz
          rcases List.mem_cons.1 hz with e | e
          · rw [e]; exact h3
          · have hp : Inc (S.drop j) := List.Pairwise.sublist (List.drop_sublist _ _) hS
            rw [List.drop_eq_getElem_cons hj] at hp
            exact bl_trans h3 ((inc_head hp).1 z e))) (by simp; omega) (put_mem S _ j)
        refine Ev.step (fun k => ?_) this
        simp only [cleanseref03_Sorted.l1]
        rw [if_pos (by simp; omega), if_pos (by omega), if_pos (by omega), if_pos (by omega), rd_nat _ _ hi, rd_ofL _ _ hj, tl_ofL, if_neg h1, if_neg h2]
        simp only [Option.bind_some, List.nil_append, List.length_nil, Nat.zero_add, Int.toNat_natCast]
        rw [if_pos (by simp; omega), if_pos (by simp; omega), if_pos (by simp; omega), if_pos (by simp; omega), wrap_succ _ (by omega)]
        simp [List.map_append, List.map_take, List.map_drop, ofL_tl]
theorem sorted_l0 (xs : List ByteArray) (hn : xs.length ≤ 1000000) : ∀ (d i : Nat), d + i = xs.length → ∀ S : List (List UInt8), Inc S → S.length ≤ i →
    Ev (fun k => cleanseref03_Sorted.l0 k xs (S.map ofL) i) ((sortU (S ++ (xs.drop i).map tl)).map ofL)
  | 0, i, hd, S, hS, hl => by
    refine Ev.step (f := fun _ => some (S.map ofL)) (fun k => by simp only [cleanseref03_Sorted.l0]; rw [if_neg (by omega)]) ?_
    rw [List.drop_eq_nil_of_le (by omega), List.map_nil, List.append_nil, sortU_of_inc hS]
    exact Ev.now _
  | d + 1, i, hd, S, hS, hl => by
    have hi : i < xs.length := by omega
    refine Ev.step (f := fun k => cleanseref03_Sorted.l1 k xs (S.map ofL) i ((0 : Nat) : Int)) (fun k => by simp only [cleanseref03_Sorted.l0]; rw [if_pos (by omega)]; rfl) ?_
    refine sorted_l1 xs hn i hi S hS hl _ (fun T hT hTl hm => ?_) S.length 0 (by omega) (by simp)
    have := sorted_l0 xs hn d (i + 1) (by omega) T hT hTl
    rw [show sortU (S ++ (xs.drop i).map tl) = sortU (T ++ (xs.drop (i + 1)).map tl) from sortU_congr (fun z => by
      rw [List.drop_eq_getElem_cons hi, List.map_cons, List.mem_append, List.mem_append, List.mem_cons, hm z]
      constructor
      · rintro (h | h | h)
        · exact .inl (.inr h)
        · exact .inl (.inl h)
        · exact .inr h
      · rintro ((h | h) | h)
        · exact .inr (.inl h)
        · exact .inl h
        · exact .inr (.inr h))]
    exact this
theorem sorted_f (xs : List ByteArray) (hn : xs.length ≤ 1000000) : Ev (fun k => cleanseref03_Sorted.f k xs) ((sortU (xs.map tl)).map ofL) := by
  have := sorted_l0 xs hn xs.length 0 rfl [] List.Pairwise.nil (by simp)
  simp only [List.map_nil, List.nil_append, List.drop_zero] at this
  exact Ev.congr (fun k => rfl) this

/-! ## Words -/
/-- A byte that stands in a word. -/
def okC (c : UInt8) : Prop := lowC c = c ∧ c ≠ 0
theorem lowC_all : ∀ c : UInt8, lowC (lowC c) = lowC c ∧ (lowC c = 0 ∨ (97 ≤ lowC c ∧ lowC c ≤ 122) ∨ (48 ≤ lowC c ∧ lowC c ≤ 57)) := by
  have h : ∀ n : Fin 256, lowC (lowC (UInt8.ofFin n)) = lowC (UInt8.ofFin n) ∧ (lowC (UInt8.ofFin n) = 0 ∨ (97 ≤ lowC (UInt8.ofFin n) ∧ lowC (UInt8.ofFin n) ≤ 122) ∨ (48 ≤ lowC (UInt8.ofFin n) ∧ lowC (UInt8.ofFin n) ≤ 57)) := by decide +kernel
  intro c
  have := h c.toFin
  simpa using this
theorem okC_low {c : UInt8} (h : ¬ lowC c = 0) : okC (lowC c) := ⟨(lowC_all c).1, h⟩
theorem low_blank : lowC 32 = 0 := by decide
/-- What a word is. -/
def okW (w : List UInt8) : Prop := w ≠ [] ∧ ∀ c ∈ w, okC c
theorem scanW_ok (l : List UInt8) : (∀ w ∈ (scanW l).1, okW w) ∧ ∀ c ∈ (scanW l).2, okC c := by
  induction l using snocInd with
  | nil => simp [scanW]
  | snoc l c ih =>
    rw [scanW_snoc]
    unfold stepW
    split
    · dsimp only
      split
      · exact ⟨ih.1, by simp⟩
      · rename_i hne
        refine ⟨fun w hw => ?_, by simp⟩
        rcases List.mem_append.1 hw with hw | hw
        · exact ih.1 w hw
        · rw [List.mem_singleton.1 hw]; exact ⟨hne, ih.2⟩
    · rename_i h0
      refine ⟨ih.1, fun z hz => ?_⟩
      rcases List.mem_append.1 hz with hz | hz
      · exact ih.2 z hz
      · rw [List.mem_singleton.1 hz]; exact okC_low h0
theorem words_ok {l : List UInt8} {w : List UInt8} (h : w ∈ wordsL l) : okW w := by
  unfold wordsL flushW at h
  have hs := scanW_ok l
  split at h
  · exact hs.1 w h
  · rename_i hne
    rcases List.mem_append.1 h with h | h
    · exact hs.1 w h
    · rw [List.mem_singleton.1 h]; exact ⟨hne, hs.2⟩
/-- The words closed ahead stay. -/
theorem step_pre (p : List (List UInt8)) (s : List (List UInt8) × List UInt8) (c : UInt8) : stepW (p ++ s.1, s.2) c = (p ++ (stepW s c).1, (stepW s c).2) := by
  unfold stepW
  split
  · dsimp only
    split <;> simp
  · rfl
theorem fold_pre (p : List (List UInt8)) : ∀ (r : List UInt8) (s : List (List UInt8) × List UInt8), r.foldl stepW (p ++ s.1, s.2) = (p ++ (r.foldl stepW s).1, (r.foldl stepW s).2)
  | [], s => rfl
  | c :: r, s => by rw [List.foldl_cons, step_pre, List.foldl_cons, fold_pre p r (stepW s c)]
theorem flush_pre (p : List (List UInt8)) (s : List (List UInt8) × List UInt8) : flushW (p ++ s.1, s.2) = p ++ flushW s := by
  unfold flushW
  dsimp only
  split <;> simp
/-- At a byte between words a text falls into two. -/
theorem words_cut (a b : List UInt8) (c : UInt8) (h : lowC c = 0) : wordsL (a ++ c :: b) = wordsL a ++ wordsL b := by
  have h1 : scanW (a ++ c :: b) = b.foldl stepW (wordsL a ++ [], []) := by
    rw [scanW_append, List.foldl_cons]
    congr 1
    unfold stepW wordsL flushW
    rw [if_pos h, List.append_nil]
  unfold wordsL
  rw [h1, fold_pre (wordsL a) b ([], []), flush_pre]
  rfl
theorem words_nil : wordsL [] = [] := rfl
theorem fold_word : ∀ (w u : List UInt8), (∀ c ∈ w, okC c) → w.foldl stepW ([], u) = ([], u ++ w)
  | [], u, _ => by simp
  | c :: w, u, h => by
    have hc := h c List.mem_cons_self
    rw [List.foldl_cons]
    have : stepW ([], u) c = ([], u ++ [c]) := by
      unfold stepW
      rw [if_neg (by rw [hc.1]; exact hc.2), hc.1]
    rw [this, fold_word w (u ++ [c]) (fun z hz => h z (List.mem_cons_of_mem _ hz))]
    simp
theorem words_word {w : List UInt8} (h : okW w) : wordsL w = [w] := by
  unfold wordsL scanW
  rw [fold_word w [] h.2, List.nil_append]
  unfold flushW
  rw [if_neg h.1]
  rfl
theorem words_join : ∀ (ws : List (List UInt8)), (∀ w ∈ ws, okW w) → wordsL (joinB ws) = ws
  | [], _ => rfl
  | [x], h => words_word (h x List.mem_cons_self)
  | x :: y :: r, h => by
    show wordsL (x ++ 32 :: joinB (y :: r)) = _
    rw [words_cut _ _ _ low_blank, words_word (h x List.mem_cons_self), words_join (y :: r) (fun w hw => h w (List.mem_cons_of_mem _ hw))]
    rfl
theorem words_fold (l : List UInt8) : wordsL (foldL l) = wordsL l := words_join _ (fun _ h => words_ok h)
theorem fold_fold (l : List UInt8) : foldL (foldL l) = foldL l := by
  unfold foldL
  rw [words_join _ (fun _ h => words_ok h)]
theorem joinB_append : ∀ (a b : List (List UInt8)), a ≠ [] → b ≠ [] → joinB (a ++ b) = joinB a ++ 32 :: joinB b
  | [], _, h, _ => absurd rfl h
  | [x], [], _, h => absurd rfl h
  | [x], y :: r, _, _ => rfl
  | x :: y :: r, b, _, hb => by
    show x ++ 32 :: joinB ((y :: r) ++ b) = _
    rw [joinB_append (y :: r) b (by simp) hb]
    simp [joinB]
theorem joinB_nil {ws : List (List UInt8)} (h : ∀ w ∈ ws, okW w) : joinB ws = [] ↔ ws = [] := by
  refine ⟨fun h0 => ?_, fun h0 => by rw [h0]; rfl⟩
  have := words_join ws h
  rw [h0] at this
  exact this.symm
theorem foldL_nil (l : List UInt8) : foldL l = [] ↔ wordsL l = [] := joinB_nil (fun _ h => words_ok h)
theorem words_low (l : List UInt8) : ∀ l' : List UInt8, l.map lowC = l'.map lowC → wordsL l = wordsL l' := by
  have key : ∀ (l l' : List UInt8) (s : List (List UInt8) × List UInt8), l.map lowC = l'.map lowC → l.foldl stepW s = l'.foldl stepW s := by
    intro l
    induction l with
    | nil => intro l' s h; cases l' with
      | nil => rfl
      | cons a r => simp at h
    | cons c l ih => intro l' s h; cases l' with
      | nil => simp at h
      | cons c' l' =>
        rw [List.map_cons, List.map_cons] at h
        injection h with h1 h2
        rw [List.foldl_cons, List.foldl_cons]
        have : stepW s c = stepW s c' := by unfold stepW; rw [h1]
        rw [this]
        exact ih l' _ h2
  intro l' h
  unfold wordsL scanW
  rw [key l l' _ h]

/-! ## How many in common, once more -/
theorem cnt_one {b : List (List UInt8)} (hb : b.Nodup) (a : List UInt8) (x : List (List UInt8)) (ha : ¬ a ∈ x) : cnt b (a :: x) = cnt b x + if a ∈ b then 1 else 0 := by
  induction b with
  | nil => simp [cnt]
  | cons c b ih =>
    obtain ⟨h1, h2⟩ := List.nodup_cons.1 hb
    have ih := ih h2
    by_cases hca : c = a
    · subst hca
      rw [cnt_cons_in List.mem_cons_self, cnt_cons_out ha, ih, if_neg h1, if_pos List.mem_cons_self]
    · have hac : (a ∈ c :: b) ↔ a ∈ b := by simp [Ne.symm hca]
      by_cases hcx : c ∈ x
      · rw [cnt_cons_in (List.mem_cons_of_mem _ hcx), cnt_cons_in hcx, ih]
        simp only [hac]
        omega
      · rw [cnt_cons_out (fun h => (List.mem_cons.1 h).elim hca hcx), cnt_cons_out hcx, ih]
        simp only [hac]
theorem cnt_symm {b : List (List UInt8)} (hb : b.Nodup) : ∀ {a : List (List UInt8)}, a.Nodup → cnt a b = cnt b a
  | [], _ => by rw [cnt_nil_r]; rfl
  | x :: a, ha => by
    obtain ⟨h1, h2⟩ := List.nodup_cons.1 ha
    rw [cnt_one hb x a h1, ← cnt_symm hb h2]
    by_cases h : x ∈ b
    · rw [cnt_cons_in h, if_pos h]
    · rw [cnt_cons_out h, if_neg h]; rfl
theorem cnt_self {a : List (List UInt8)} : cnt a a = a.length := by
  unfold cnt
  rw [List.countP_eq_length]
  intro z hz
  exact decide_eq_true hz
theorem insU_len_eq (x : List UInt8) : ∀ l : List (List UInt8), Inc l → (insU x l).length = l.length + if x ∈ l then 0 else 1
  | [], _ => rfl
  | y :: r, h => by
    obtain ⟨h1, h2⟩ := inc_head h
    unfold insU
    split
    · rename_i e; subst e; simp
    · rename_i hne
      split
      · rename_i hlt
        rw [if_neg (fun hm => by
          rcases List.mem_cons.1 hm with e | e
          · exact hne e
          · have := bl_trans hlt (h1 x e); rw [bl_irrefl] at this; cases this)]
        rfl
      · have : (x ∈ y :: r) ↔ x ∈ r := by simp [hne]
        rw [List.length_cons, insU_len_eq x r h2, List.length_cons]
        simp only [this]
        omega
theorem sortU_both (y : List (List UInt8)) (hy : Inc y) : ∀ (x : List (List UInt8)), x.Nodup → (sortU (x ++ y)).length + cnt x y = x.length + y.length
  | [], _ => by rw [List.nil_append, sortU_of_inc hy]; simp [cnt]
  | a :: x, h => by
    obtain ⟨h1, h2⟩ := List.nodup_cons.1 h
    have ih := sortU_both y hy x h2
    show (insU a (sortU (x ++ y))).length + _ = _
    rw [insU_len_eq _ _ (sortU_inc _), List.length_cons]
    have hm : a ∈ sortU (x ++ y) ↔ a ∈ y := by rw [mem_sortU, List.mem_append]; simp [h1]
    by_cases ha : a ∈ y
    · rw [if_pos (hm.2 ha), cnt_cons_in ha]; omega
    · rw [if_neg (fun h => ha (hm.1 h)), cnt_cons_out ha]; omega

/-! ## The given examples -/
theorem head_true : Ev (fun k => cleanselaw03_head.f k) true := Ev.of (fun k => cleanselaw03_head.mono k) (k := 30) (by decide +kernel)

end Go.Proofs.Ythdhkclhckigmaa.Pure
