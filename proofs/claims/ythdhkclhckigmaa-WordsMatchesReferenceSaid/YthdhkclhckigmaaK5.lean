/- The plain law of the reference: what it tells is what the program tells. -/
import Derived.Test.YthdhkclhckigmaaK2
import Derived.Test.YthdhkclhckigmaaQ13
import Derived.Test.YthdhkclhckigmaaQ14
import Derived.Test.YthdhkclhckigmaaQ15
namespace Go.Proofs.Ythdhkclhckigmaa.Pure
open Go Go.RowKit Go.Proofs.Ythdhkclhckigmaa.Q Go.Proofs.YthdhkclhckigmaaW.PrintWords Go.Proofs.YthdhkclhckigmaaW.PrintLast
set_option linter.unusedVariables false
set_option linter.unusedSimpArgs false

theorem words_f {s : ByteArray} (h : s.size ≤ 1000000) : cleanseref03_Words.f s = some ((wordsL s.toList).map ofL) := by unfold cleanseref03_Words.f; rw [if_pos h, ← Go.ByteArray.toList_eq]
theorem joinB_le (m : Nat) : ∀ ws : List (List UInt8), (∀ w ∈ ws, w.length ≤ m) → (joinB ws).length ≤ ws.length * (m + 1)
  | [], _ => by simp [joinB]
  | [x], h => by have := h x List.mem_cons_self; simp [joinB]; omega
  | x :: y :: r, h => by
    have hx := h x List.mem_cons_self
    have ih := joinB_le m (y :: r) (fun w hw => h w (List.mem_cons_of_mem _ hw))
    show (x ++ 32 :: joinB (y :: r)).length ≤ _
    rw [List.length_append, List.length_cons, List.length_cons (a := x), Nat.add_mul, Nat.one_mul]
    omega
theorem joinB_take (ws : List (List UInt8)) (i : Nat) (h : i < ws.length) (h0 : 0 < i) : joinB (ws.take (i + 1)) = joinB (ws.take i) ++ 32 :: ws[i] := by
  rw [List.take_succ_eq_append_getElem h, joinB_append _ _ (fun e => by have := congrArg List.length e; rw [List.length_take, List.length_nil] at this; omega) (by simp)]
  rfl
theorem rfold_l0 (ws : List (List UInt8)) (hl : ws.length ≤ 1000000) (hm : ∀ w ∈ ws, w.length ≤ 1000000) : ∀ (d i : Nat), d + i = ws.length → Ev (fun k => cleanseref03_Fold.l0 k (ws.map ofL) (ofL (joinB (ws.take i))) i) (ofL (joinB ws))
  | 0, i, hd => by
    refine Ev.step (f := fun _ => some (ofL (joinB ws))) (fun k => ?_) (Ev.now _)
    simp only [cleanseref03_Fold.l0]
    rw [if_neg (by rw [List.length_map]; omega), List.take_of_length_le (by omega)]
  | d + 1, i, hd => by
    have hi : i < ws.length := by omega
    have ih := rfold_l0 ws hl hm d (i + 1) (by omega)
    have hb := joinB_le 1000000 (ws.take i) (fun w hw => hm w (List.mem_of_mem_take hw))
    have hb2 : (ws.take i).length * (1000000 + 1) ≤ 1000000 * (1000000 + 1) := Nat.mul_le_mul_right _ (by rw [List.length_take]; omega)
    have hwi := hm _ (List.getElem_mem hi)
    have hlb : (⟨#[32]⟩ : ByteArray) = ofL [32] := rfl
    refine Ev.step (fun k => ?_) ih
    simp only [cleanseref03_Fold.l0]
    rw [if_pos (by rw [List.length_map]; omega), rd_ofL _ _ hi, wrap_succ _ (by omega), hlb]
    by_cases h0 : 0 < i
    · have happ : ofL (joinB (ws.take i)) ++ ofL [32] ++ ofL ws[i] = ofL (joinB (ws.take (i + 1))) := tl_inj (by rw [tl_append, tl_append, tl_ofL, tl_ofL, tl_ofL, tl_ofL, joinB_take ws i hi h0]; simp)
      rw [if_pos (by omega), if_pos (by rw [ofL_size]; omega), if_pos (by omega), if_pos (by rw [← tl_size (_ ++ ofL [32]), tl_append, tl_ofL, tl_ofL, ofL_size]; simp; omega), happ]
    · obtain rfl : i = 0 := by omega
      have happ : ofL (joinB (ws.take 0)) ++ ofL (ws[0]'hi) = ofL (joinB (ws.take (0 + 1))) := tl_inj (by
        rw [tl_append, tl_ofL, tl_ofL, tl_ofL]
        cases ws with
        | nil => simp at hi
        | cons a r => simp [joinB])
      rw [if_neg (by omega), if_pos (by omega), if_pos (by rw [ofL_size, ofL_size]; omega), happ]
theorem rfold_f {s : ByteArray} (h : s.toList.length ≤ 1000) : Ev (fun k => cleanseref03_Fold.f k s) (ofL (foldL s.toList)) := by
  have e := tl_size s
  have hw := words_len s.toList
  refine Ev.congr (fun k => ?_) (rfold_l0 (wordsL s.toList) (by omega) (fun w hw => by have := word_len hw; omega) (wordsL s.toList).length 0 (by omega))
  unfold cleanseref03_Fold.f
  rw [words_f (by omega)]
  rfl
theorem rtokens_f {s : ByteArray} (h : s.toList.length ≤ 1000) : Ev (fun k => cleanseref03_Tokens.f k s) ((sortU (wordsL s.toList)).map ofL) := by
  have e := tl_size s
  have hw := words_len s.toList
  have hs := sorted_f ((wordsL s.toList).map ofL) (by rw [List.length_map]; omega)
  rw [map_tl_ofL] at hs
  refine Ev.congr (fun k => ?_) (Ev.bind hs (Ev.now _) (f := fun _ t => some t))
  unfold cleanseref03_Tokens.f
  rw [words_f (by omega)]
  rfl

/-! ## The parts -/
theorem rgrams_l0 (s : List UInt8) (hs : s.length ≤ 1000) (N : Nat) (hN : 1 ≤ N) (hN8 : N ≤ 8) : ∀ (d i : Nat), d + i = s.length + 1 - N →
    Ev (fun k => cleanseref03_Grams.l0 k N (ofL s) (((gramsL s N).take i).map ofL) i) ((sortU (gramsL s N)).map ofL)
  | 0, i, hd => by
    have hg := gramsL_length s N
    have hso := sorted_f ((gramsL s N).map ofL) (by rw [List.length_map]; omega)
    rw [map_tl_ofL] at hso
    refine Ev.step (fun k => ?_) (Ev.bind hso (Ev.now _) (f := fun _ t => some t))
    simp only [cleanseref03_Grams.l0]
    rw [wrap_id (by omega) (by omega), if_neg (by rw [ofL_size]; omega), List.take_of_length_le (by omega)]
  | d + 1, i, hd => by
    have hg := gramsL_length s N
    have hi : i < s.length + 1 - N := by omega
    have ih := rgrams_l0 s hs N hN hN8 d (i + 1) (by omega)
    have hw : wrap64 ((i : Int) + N) = ((i + N : Nat) : Int) := by rw [wrap_id (by omega) (by omega)]; omega
    have hx : (ofL s).extract (i : Int).toNat ((i + N : Nat) : Int).toNat = ofL ((s.drop i).take N) := tl_inj (by
      rw [tl_extract, tl_ofL, tl_ofL, Int.toNat_natCast, Int.toNat_natCast, Nat.add_sub_cancel_left])
    rw [gramsL_take s N i hi, List.map_append, List.map_cons, List.map_nil] at ih
    refine Ev.step (fun k => ?_) ih
    simp only [cleanseref03_Grams.l0]
    rw [hw, if_pos (by rw [ofL_size]; omega), if_pos (by omega), if_pos (by omega), if_pos (by rw [List.length_map, List.length_take]; omega), hx, wrap_succ _ (by omega)]
theorem rgrams_f {s : ByteArray} (n : Int) (h : s.toList.length ≤ 1000) : Ev (fun k => cleanseref03_Grams.f k s n) ((gramsF (foldL s.toList) n).map ofL) := by
  have e := tl_size s
  have hout : n < 1 ∨ n > 8 → Ev (fun k => cleanseref03_Grams.j0 k s n true) ((gramsF (foldL s.toList) n).map ofL) := fun hn => by
    refine Ev.step (f := fun _ => some []) (fun k => by simp only [cleanseref03_Grams.j0, if_true]) ?_
    unfold gramsF
    rw [if_pos hn]
    exact Ev.now _
  by_cases h1 : n < 1
  · exact Ev.congr (fun k => by unfold cleanseref03_Grams.f; rw [if_pos h1]) (hout (.inl h1))
  · by_cases h2 : n > 8
    · exact Ev.congr (fun k => by unfold cleanseref03_Grams.f; rw [if_neg h1, decide_eq_true h2]) (hout (.inr h2))
    · refine Ev.congr (fun k => by unfold cleanseref03_Grams.f; rw [if_neg h1, decide_eq_false h2]) ?_
      have hf := foldL_len s.toList
      have hrf := rfold_f h
      obtain ⟨N, rfl⟩ : ∃ N : Nat, n = (N : Int) := ⟨n.toNat, by omega⟩
      obtain ⟨u, hu⟩ : ∃ u, foldL s.toList = u := ⟨_, rfl⟩
      rw [hu] at hrf hf ⊢
      refine Ev.step (f := fun k => (cleanseref03_Fold.f k s).bind fun t345 => (if t345.toList = ([] : List UInt8) then (some ([] : List ByteArray)) else (if (t345.size : Int) < (N : Int) then (some (([t345] : List ByteArray))) else (cleanseref03_Grams.l0 k (N : Int) t345 ([] : List ByteArray) 0)))) (fun k => ?_) (Ev.bind hrf ?_)
      · simp only [cleanseref03_Grams.j0]
        rw [if_neg (by simp)]
      · rw [tl_ofL, ofL_size]
        unfold gramsF
        rw [if_neg (by omega)]
        by_cases h0 : u = []
        · simp only [if_pos h0]
          exact Ev.now _
        · simp only [if_neg h0]
          by_cases hlt : (u.length : Int) < (N : Int)
          · simp only [if_pos hlt]
            exact Ev.now _
          · simp only [if_neg hlt]
            rw [Int.toNat_natCast]
            have := rgrams_l0 u (by omega) N (by omega) (by omega) (u.length + 1 - N) 0 (by omega)
            rw [List.take_zero, List.map_nil] at this
            exact this

/-! ## In common -/
theorem drop_inc {x : List (List UInt8)} (h : Inc x) (i : Nat) : Inc (x.drop i) := List.Pairwise.sublist (List.drop_sublist _ _) h
theorem rcommon_l1 (x y : List (List UInt8)) (hx : Inc x) (hy : Inc y) (hxl : x.length ≤ 1000000) (hyl : y.length ≤ 1000000) (m : Nat) : ∀ (i j n : Nat), i < x.length → n ≤ i → (x.length - i) + (y.length - j) ≤ m →
    Ev (fun k => cleanseref03_Common.l1 k (x.map ofL) (y.map ofL) n j i) ((n + cnt (x.drop i) (y.drop j) : Nat) : Int) := by
  induction m with
  | zero => intro i j n hi hn hm; omega
  | succ m ih =>
    intro i j n hi hn hm
    have next : ∀ n' : Nat, n' ≤ i + 1 → Ev (fun k => cleanseref03_Common.l0 k (x.map ofL) (y.map ofL) n' j ((i + 1 : Nat) : Int)) ((n' + cnt (x.drop (i + 1)) (y.drop j) : Nat) : Int) := by
      intro n' hn'
      by_cases hlt : i + 1 < x.length
      · refine Ev.step (fun k => ?_) (ih (i + 1) j n' hlt hn' (by omega))
        simp only [cleanseref03_Common.l0]
        rw [if_pos (by rw [List.length_map]; omega)]
      · refine Ev.step (f := fun _ => some (n' : Int)) (fun k => ?_) ?_
        · simp only [cleanseref03_Common.l0]
          rw [if_neg (by rw [List.length_map]; omega)]
        · rw [List.drop_eq_nil_of_le (by omega)]
          exact Ev.now _
    rw [List.drop_eq_getElem_cons hi]
    have hxi := drop_inc hx i
    rw [List.drop_eq_getElem_cons hi] at hxi
    obtain ⟨hxa, hx'⟩ := inc_head hxi
    by_cases hj : j < y.length
    · have hyj := drop_inc hy j
      rw [List.drop_eq_getElem_cons hj] at hyj
      obtain ⟨hyb, hy'⟩ := inc_head hyj
      by_cases hlt : bl y[j] x[i] = true
      · have hrec := ih i (j + 1) n hi hn (by omega)
        rw [List.drop_eq_getElem_cons hi] at hrec
        rw [List.drop_eq_getElem_cons hj, cnt_skip (b := y[j]) (fun z hz => by
          rcases List.mem_cons.1 hz with e | e
          · subst e; exact (bl_ne hlt).symm
          · exact (bl_ne (bl_trans hlt (hxa z e))).symm)]
        refine Ev.step (fun k => ?_) hrec
        simp only [cleanseref03_Common.l1]
        rw [if_pos (by rw [List.length_map]; omega), if_pos (by omega), if_pos (by omega), if_pos (by rw [List.length_map]; omega), rd_ofL _ _ hj, rd_ofL _ _ hi, tl_ofL, tl_ofL, if_pos hlt, wrap_succ _ (by omega)]
      · by_cases heq : y[j] = x[i]
        · rw [cnt_cons_in (by rw [List.drop_eq_getElem_cons hj, heq]; exact List.mem_cons_self)]
          have hrec := next (n + 1) (by omega)
          rw [show n + 1 + cnt (x.drop (i + 1)) (y.drop j) = n + (cnt (x.drop (i + 1)) (y.drop j) + 1) by omega] at hrec
          refine Ev.step (fun k => ?_) hrec
          simp only [cleanseref03_Common.l1]
          rw [if_pos (by rw [List.length_map]; omega), if_pos (by omega), if_pos (by omega), if_pos (by rw [List.length_map]; omega), rd_ofL _ _ hj, rd_ofL _ _ hi, tl_ofL, tl_ofL, if_neg hlt, if_pos heq, wrap_succ _ (by omega), wrap_succ _ (by omega)]
        · have hgt : bl x[i] y[j] = true := (bl_total heq).resolve_left hlt
          rw [cnt_cons_out (fun h => by
            rw [List.drop_eq_getElem_cons hj] at h
            rcases List.mem_cons.1 h with e | e
            · exact heq e.symm
            · have := bl_trans hgt (hyb _ e); rw [bl_irrefl] at this; cases this)]
          refine Ev.step (fun k => ?_) (next n (by omega))
          simp only [cleanseref03_Common.l1]
          rw [if_pos (by rw [List.length_map]; omega), if_pos (by omega), if_pos (by omega), if_pos (by rw [List.length_map]; omega), rd_ofL _ _ hj, rd_ofL _ _ hi, tl_ofL, tl_ofL, if_neg hlt, if_neg heq, wrap_succ _ (by omega)]
    · rw [cnt_cons_out (by rw [List.drop_eq_nil_of_le (by omega)]; simp)]
      refine Ev.step (fun k => ?_) (next n (by omega))
      simp only [cleanseref03_Common.l1]
      rw [if_neg (by rw [List.length_map]; omega), wrap_succ _ (by omega)]
theorem common_both (l2 l3 : List ByteArray) (h2 : l2.length ≤ 200) (h3 : l3.length ≤ 200) : ∃ r, Ev (fun k => words_Common.f k l2 l3) r ∧ Ev (fun k => cleanseref03_Common.f k l2 l3) r := by
  obtain ⟨b2, hb2, hi2⟩ := inc_tells l2 (by omega)
  obtain ⟨b3, hb3, hi3⟩ := inc_tells l3 (by omega)
  have hw2 : Ev (fun k => words_increasing.f k l2) b2 := Ev.congr (fun k => incw_f k _) hb2
  have hw3 : Ev (fun k => words_increasing.f k l3) b3 := Ev.congr (fun k => incw_f k _) hb3
  have out1 : Ev (fun k => words_Common.j0 k l2 l3 true) 0 := Ev.step (f := fun _ => some 0) (fun k => by simp only [words_Common.j0, if_true]) (Ev.now _)
  have out2 : Ev (fun k => cleanseref03_Common.j0 k l2 l3 true) 0 := Ev.step (f := fun _ => some 0) (fun k => by simp only [cleanseref03_Common.j0, if_true]) (Ev.now _)
  cases b2 with
  | false => exact ⟨0, Ev.congr (fun k => rfl) (Ev.bind hw2 (Ev.congr (fun k => by rw [if_neg (by simp)]) out1)), Ev.congr (fun k => rfl) (Ev.bind hb2 (Ev.congr (fun k => by rw [if_neg (by simp)]) out2))⟩
  | true =>
    cases b3 with
    | false => exact ⟨0, Ev.congr (fun k => rfl) (Ev.bind hw2 (Ev.congr (fun k => by rw [if_pos rfl]) (Ev.bind hw3 out1))), Ev.congr (fun k => rfl) (Ev.bind hb2 (Ev.congr (fun k => by rw [if_pos rfl]) (Ev.bind hb3 out2)))⟩
    | true =>
      have hx := hi2.1 rfl
      have hy := hi3.1 rfl
      obtain ⟨x, hxe⟩ : ∃ x, l2.map tl = x := ⟨_, rfl⟩
      obtain ⟨y, hye⟩ : ∃ y, l3.map tl = y := ⟨_, rfl⟩
      have e2 : l2 = x.map ofL := by rw [← hxe, map_ofL_tl]
      have e3 : l3 = y.map ofL := by rw [← hye, map_ofL_tl]
      rw [hxe] at hx
      rw [hye] at hy
      have hxl : x.length ≤ 200 := by rw [← hxe, List.length_map]; exact h2
      have hyl : y.length ≤ 200 := by rw [← hye, List.length_map]; exact h3
      refine ⟨(cnt x y : Int), by rw [e2, e3]; exact common_f hx hy (by omega) (by omega), ?_⟩
      refine Ev.congr (fun k => rfl) (Ev.bind hb2 (Ev.congr (fun k => by rw [if_pos rfl]) (Ev.bind hb3 ?_)))
      refine Ev.step (f := fun k => cleanseref03_Common.l0 k l2 l3 0 0 0) (fun k => by simp only [cleanseref03_Common.j0]; rw [if_neg (by simp)]) ?_
      by_cases h0 : 0 < x.length
      · have := rcommon_l1 x y hx hy (by omega) (by omega) (x.length + y.length) 0 0 0 h0 (by omega) (by omega)
        rw [List.drop_zero, List.drop_zero, Nat.zero_add] at this
        rw [e2, e3]
        refine Ev.step (fun k => ?_) this
        simp only [cleanseref03_Common.l0]
        rw [if_pos (by rw [List.length_map]; omega)]
        rfl
      · have : x = [] := List.eq_nil_of_length_eq_zero (by omega)
        rw [e2, this]
        exact Ev.step (f := fun _ => some 0) (fun k => by simp [cleanseref03_Common.l0]) (Ev.now _)

theorem matches_true (a0 : ByteArray) (a1 : Int) (l2 l3 : List ByteArray) : ∃ k, cleanselaw03_WordsMatchesReference.f k a0 a1 l2 l3 = some true := by
  refine Ev.rounds (g := fun k => cleanselaw03_WordsMatchesReference.f k a0 a1 l2 l3) (Ev.congr (fun k => rfl) (Ev.bind head_true ?_))
  have hout : Ev (fun k => cleanselaw03_WordsMatchesReference.j0 k a0 a1 l2 l3 true true) true :=
    Ev.step (f := fun _ => some true) (fun k => by simp only [cleanselaw03_WordsMatchesReference.j0, if_true]) (Ev.now _)
  by_cases hs : (a0.size : Int) > 1000
  · exact Ev.congr (fun k => by rw [if_pos hs]) hout
  · by_cases h2 : (l2.length : Int) > 200
    · exact Ev.congr (fun k => by rw [if_neg hs, if_pos h2]) hout
    · by_cases h3 : (l3.length : Int) > 200
      · exact Ev.congr (fun k => by rw [if_neg hs, if_neg h2, decide_eq_true h3]) hout
      · refine Ev.congr (fun k => by rw [if_neg hs, if_neg h2, decide_eq_false h3]) ?_
        have e0 := tl_size a0
        have hl := sort_len a0.toList
        have hgl : (gramsF (foldL a0.toList) a1).length ≤ 1001 := by
          have hf := foldL_len a0.toList
          unfold gramsF
          split
          · simp
          · split
            · simp
            · split
              · simp
              · have := sortU_len (gramsL (foldL a0.toList) a1.toNat)
                have := gramsL_length' (foldL a0.toList) a1.toNat
                omega
        obtain ⟨r, hr1, hr2⟩ := common_both l2 l3 (by omega) (by omega)
        refine Ev.step (f := fun k => (cleanseref03_Fold.f k a0).bind fun t363 => (if (ofL (foldL a0.toList)).toList = t363.toList then ((cleanseref03_Tokens.f k a0).bind fun t367 => ((cleanseref03_Same.f k ((sortU (wordsL a0.toList)).map ofL) t367).bind fun t370 => (cleanselaw03_WordsMatchesReference.j1 k a0 a1 l2 l3 true t370))) else (cleanselaw03_WordsMatchesReference.j1 k a0 a1 l2 l3 true false))) (fun k => ?_) (Ev.bind (rfold_f (by omega)) ?_)
        · simp only [cleanselaw03_WordsMatchesReference.j0]
          rw [if_neg (by simp), fold_f (by omega), tokens_f (by omega)]
          simp only [Option.bind_some]
        · refine Ev.congr (fun k => by rw [if_pos rfl]) (Ev.bind (rtokens_f (by omega)) (Ev.bind (same_self ((sortU (wordsL a0.toList)).map ofL) (by rw [List.length_map]; omega)) ?_))
          refine Ev.step (f := fun k => (cleanseref03_Grams.f k a0 a1).bind fun t374 => ((cleanseref03_Same.f k ((gramsF (foldL a0.toList) a1).map ofL) t374).bind fun t377 => (if t377 = true then ((words_Common.f k l2 l3).bind fun t378 => ((cleanseref03_Common.f k l2 l3).bind fun t379 => (some (t378 == t379)))) else (some false)))) (fun k => ?_) (Ev.bind (rgrams_f a1 (by omega)) (Ev.bind (same_self ((gramsF (foldL a0.toList) a1).map ofL) (by rw [List.length_map]; omega)) ?_))
          · simp only [cleanselaw03_WordsMatchesReference.j1, if_true]
            rw [grams_f a1 (by omega)]
            simp only [Option.bind_some]
          · refine Ev.congr (fun k => by rw [if_pos rfl]) (Ev.bind hr1 (Ev.bind hr2 ?_))
            rw [beq_self_eq_true]
            exact Ev.now _

end Go.Proofs.Ythdhkclhckigmaa.Pure
