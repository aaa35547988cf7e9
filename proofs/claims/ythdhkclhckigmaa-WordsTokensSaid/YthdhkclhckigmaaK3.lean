/- The plain laws of the tokens: two texts with a byte between them, tokens in reverse order, tokens in common. -/
import Derived.Test.YthdhkclhckigmaaK2
import Derived.Test.YthdhkclhckigmaaC1
import Derived.Test.YthdhkclhckigmaaQ7
import Derived.Test.YthdhkclhckigmaaQ9
import Derived.Test.YthdhkclhckigmaaQ11
namespace Go.Proofs.Ythdhkclhckigmaa.Pure
open Go Go.RowKit Go.Proofs.Ythdhkclhckigmaa.Q Go.Proofs.YthdhkclhckigmaaW.PrintWords Go.Proofs.YthdhkclhckigmaaW.PrintLast
set_option linter.unusedVariables false
set_option linter.unusedSimpArgs false

/-! ## WordsJoins -/
theorem fold_joins (a b : List UInt8) (c : UInt8) (h : lowC c = 0) (ha : foldL a ≠ []) (hb : foldL b ≠ []) : foldL (a ++ c :: b) = foldL a ++ 32 :: foldL b := by
  unfold foldL
  rw [words_cut _ _ _ h, joinB_append _ _ (fun e => ha ((foldL_nil a).2 e)) (fun e => hb ((foldL_nil b).2 e))]
theorem fold_joins0 (a b : List UInt8) (c : UInt8) (h : lowC c = 0) (h0 : foldL a = [] ∨ foldL b = []) : foldL (a ++ c :: b) = foldL a ++ foldL b := by
  have e : foldL (a ++ c :: b) = joinB (wordsL a ++ wordsL b) := by unfold foldL; rw [words_cut _ _ _ h]
  rw [e]
  rcases h0 with h0 | h0
  · rw [h0, (foldL_nil a).1 h0]; rfl
  · rw [h0, (foldL_nil b).1 h0, List.append_nil, List.append_nil]; rfl
theorem joins_j2 (x0 x1 : ByteArray) (c : UInt8) (hc : lowC c = 0) (h0 : x0.size ≤ 500) (h1 : x1.size ≤ 500) (x8 x11 : ByteArray) (h8 : x8.toList = x0.toList ++ c :: x1.toList) (h11 : x11.toList = foldL x8.toList) :
    Ev (fun k => cleanselaw03_WordsJoins.j2 k x0 x1 true x8 x11) true := by
  have e0 := tl_size x0
  have e1 := tl_size x1
  have l0 := sort_len x0.toList
  have l1 := sort_len x1.toList
  have s8 : x8.size ≤ 1000000 := by rw [← tl_size, h8, List.length_append, List.length_cons]; omega
  have hs := sorted_f ((sortU (wordsL x0.toList)).map ofL ++ (sortU (wordsL x1.toList)).map ofL) (by rw [List.length_append, List.length_map, List.length_map]; omega)
  rw [List.map_append, map_tl_ofL, map_tl_ofL] at hs
  have he : sortU (sortU (wordsL x0.toList) ++ sortU (wordsL x1.toList)) = sortU (wordsL x8.toList) := sortU_congr (fun z => by
    rw [h8, words_cut _ _ _ hc, List.mem_append, List.mem_append, mem_sortU, mem_sortU])
  rw [he] at hs
  have l8 := sort_len x8.toList
  have hsz := tl_size x8
  refine Ev.step (f := fun k => (cleanseref03_Sorted.f k ((sortU (wordsL x0.toList)).map ofL ++ (sortU (wordsL x1.toList)).map ofL)).bind fun t245 => ((cleanseref03_Same.f k ((sortU (wordsL x8.toList)).map ofL) t245).bind fun t248 => some t248)) (fun k => ?_)
    (Ev.bind hs (Ev.bind (same_self _ (by rw [List.length_map]; omega)) (Ev.now _)))
  simp only [cleanselaw03_WordsJoins.j2]
  rw [tokens_f (by omega), tokens_f (by omega), fold_f s8, tokens_f s8]
  simp only [Option.bind_some, List.nil_append, List.length_nil, Nat.zero_add]
  rw [if_pos (by rw [List.length_map]; omega), if_pos (by rw [List.length_map, List.length_map]; omega), if_true, tl_ofL, if_pos h11.symm]
theorem joins_true : cleanselaw03_WordsJoins.Pure := by
  intro a0 a1 a2 _ _ ha2
  obtain ⟨c, rfl⟩ := u8_of ha2
  refine Ev.rounds (g := fun k => cleanselaw03_WordsJoins.f k a0 a1 (c.toNat : Int)) (Ev.congr (fun k => rfl) (Ev.bind head_true ?_))
  have hout : Ev (fun k => cleanselaw03_WordsJoins.j0 k a0 a1 (c.toNat : Int) true true) true :=
    Ev.step (f := fun _ => some true) (fun k => by simp only [cleanselaw03_WordsJoins.j0, if_true]) (Ev.now _)
  by_cases hs : (a0.size : Int) > 500
  · exact Ev.congr (fun k => by rw [if_pos hs]) hout
  · by_cases hs1 : (a1.size : Int) > 500
    · exact Ev.congr (fun k => by rw [if_neg hs, if_pos hs1]) hout
    · refine Ev.congr (fun k => by rw [if_neg hs, if_neg hs1]) (Ev.bind (low_f c) ?_)
      by_cases hb : lowC c = 0
      · have e0 := tl_size a0
        have e1 := tl_size a1
        have hf0 := foldL_len a0.toList
        have hf1 := foldL_len a1.toList
        have hc1 : strOfNums [(c.toNat : Int)] = ofL [c] := nums_str [c]
        have hz : (((lowC c).toNat : Int) != 0) = false := by simp [(low_zero c).2 hb]
        have h8 : (a0 ++ ofL [c] ++ a1).toList = a0.toList ++ c :: a1.toList := by rw [tl_append, tl_append, tl_ofL]; simp
        have hlt : (⟨#[32]⟩ : ByteArray) = ofL [32] := rfl
        have k1 : (a0.size + (ofL [c]).size ≤ 9223372036854775807) := by rw [ofL_size]; simp; omega
        have k2 : ((a0 ++ ofL [c]).size + a1.size ≤ 9223372036854775807) := by rw [← tl_size (a0 ++ ofL [c]), tl_append, tl_ofL]; simp; omega
        have k3 : (ofL (foldL a0.toList)).size + 1 ≤ 9223372036854775807 := by rw [ofL_size]; omega
        have k4 : (ofL (foldL a0.toList) ++ ofL [32]).size + (ofL (foldL a1.toList)).size ≤ 9223372036854775807 := by rw [← tl_size (_ ++ ofL [32]), tl_append, tl_ofL, tl_ofL, ofL_size]; simp; omega
        have k5 : (ofL (foldL a0.toList)).size + (ofL (foldL a1.toList)).size ≤ 9223372036854775807 := by rw [ofL_size, ofL_size]; omega
        by_cases hx : foldL a0.toList = [] ∨ foldL a1.toList = []
        · have hj := joins_j2 a0 a1 c hb (by omega) (by omega) (a0 ++ ofL [c] ++ a1) (ofL (foldL a0.toList) ++ ofL (foldL a1.toList)) h8 (by rw [h8, tl_append, tl_ofL, tl_ofL, fold_joins0 _ _ _ hb hx])
          refine Ev.step (f := fun k => cleanselaw03_WordsJoins.j1 k a0 a1 true (a0 ++ ofL [c] ++ a1) (ofL (foldL a0.toList)) (ofL (foldL a1.toList)) (ofL (foldL a0.toList) ++ ofL [32] ++ ofL (foldL a1.toList)) true) (fun k => ?_) (Ev.step (fun k => ?_) hj)
          · simp only [cleanselaw03_WordsJoins.j0, Option.bind_some]
            rw [hz, if_neg (by simp), hc1, if_pos k1, if_pos k2, fold_f (by omega), fold_f (by omega)]
            simp only [Option.bind_some, hlt]
            rw [if_pos k3, if_pos k4, tl_ofL, tl_ofL]
            by_cases h0 : foldL a0.toList = []
            · rw [if_pos h0]
            · rw [if_neg h0, beq_iff_eq.2 (hx.resolve_left h0)]
          · simp only [cleanselaw03_WordsJoins.j1, if_true]
            rw [if_pos k5]
        · have hx0 : foldL a0.toList ≠ [] := fun h => hx (.inl h)
          have hx1 : foldL a1.toList ≠ [] := fun h => hx (.inr h)
          have hj := joins_j2 a0 a1 c hb (by omega) (by omega) (a0 ++ ofL [c] ++ a1) (ofL (foldL a0.toList) ++ ofL [32] ++ ofL (foldL a1.toList)) h8 (by rw [h8, tl_append, tl_append, tl_ofL, tl_ofL, tl_ofL, fold_joins _ _ _ hb hx0 hx1]; simp)
          refine Ev.step (f := fun k => cleanselaw03_WordsJoins.j1 k a0 a1 true (a0 ++ ofL [c] ++ a1) (ofL (foldL a0.toList)) (ofL (foldL a1.toList)) (ofL (foldL a0.toList) ++ ofL [32] ++ ofL (foldL a1.toList)) false) (fun k => ?_) (Ev.step (fun k => ?_) hj)
          · simp only [cleanselaw03_WordsJoins.j0, Option.bind_some]
            rw [hz, if_neg (by simp), hc1, if_pos k1, if_pos k2, fold_f (by omega), fold_f (by omega)]
            simp only [Option.bind_some, hlt]
            rw [if_pos k3, if_pos k4, tl_ofL, tl_ofL, if_neg hx0, beq_eq_false_iff_ne.2 hx1]
          · simp only [cleanselaw03_WordsJoins.j1]
            rw [if_neg (by simp)]
      · refine Ev.congr (fun k => ?_) hout
        have : (((lowC c).toNat : Int) != 0) = true := bne_iff_ne.2 (fun h => hb ((low_zero c).1 h))
        rw [this]

/-! ## WordsTokens -/
theorem words_f {s : ByteArray} (h : s.size ≤ 1000000) : cleanseref03_Words.f s = some ((wordsL s.toList).map ofL) := by unfold cleanseref03_Words.f; rw [if_pos h, ← Go.ByteArray.toList_eq]
theorem words_turned : ∀ (ws : List (List UInt8)) (t : List UInt8), (∀ w ∈ ws, okW w) → wordsL (ws.foldl (fun t w => w ++ 44 :: t) t) = ws.reverse ++ wordsL t
  | [], t, _ => rfl
  | w :: ws, t, h => by
    rw [List.foldl_cons, words_turned ws _ (fun z hz => h z (List.mem_cons_of_mem _ hz)), words_cut _ _ _ (by decide), words_word (h w List.mem_cons_self), List.reverse_cons]
    simp
theorem turned_len : ∀ (ws : List (List UInt8)) (t : List UInt8) (m : Nat), (∀ w ∈ ws, w.length ≤ m) → (ws.foldl (fun t w => w ++ 44 :: t) t).length ≤ t.length + ws.length * (m + 1)
  | [], t, m, _ => by simp
  | w :: ws, t, m, h => by
    have := turned_len ws (w ++ 44 :: t) m (fun z hz => h z (List.mem_cons_of_mem _ hz))
    have hw := h w List.mem_cons_self
    rw [List.foldl_cons, List.length_cons, Nat.add_mul, Nat.one_mul]
    rw [List.length_append, List.length_cons] at this
    omega
theorem tokens_l1 (x0 : ByteArray) (hx : x0.toList.length ≤ 500) (x6 : ByteArray) (h6 : x6.size ≤ 1000000) (hw : sortU (wordsL x6.toList) = sortU (wordsL x0.toList)) : ∀ (d i : Nat), d + i = (wordsL x0.toList).length →
    Ev (fun k => cleanselaw03_WordsTokens.l1 k x0 true ((sortU (wordsL x0.toList)).map ofL) ((wordsL x0.toList).map ofL) x6 i) true
  | 0, i, hd => by
    have l0 := sort_len x0.toList
    have hsz := tl_size x0
    have hT : ((sortU (wordsL x0.toList)).map ofL).length < 4611686018427387904 := by rw [List.length_map]; omega
    have hI := inc_true (xs := (sortU (wordsL x0.toList)).map ofL) (by rw [map_tl_ofL]; exact sortU_inc _) hT
    have hS := same_self _ hT
    have hl : (⟨#[10]⟩ : ByteArray) = ofL [10] := rfl
    have hz : (x0 ++ ofL [10] ++ x0).toList = x0.toList ++ 10 :: x0.toList := by rw [tl_append, tl_append, tl_ofL]; simp
    have hzs : (x0 ++ ofL [10] ++ x0).size ≤ 1000000 := by rw [← tl_size, hz]; simp; omega
    have hzw : sortU (wordsL (x0 ++ ofL [10] ++ x0).toList) = sortU (wordsL x0.toList) := by
      rw [hz, words_cut _ _ _ (by decide)]
      exact sortU_congr (fun z => by rw [List.mem_append]; simp)
    refine Ev.step (f := fun k => (cleanseref03_Increasing.f k ((sortU (wordsL x0.toList)).map ofL)).bind fun t265 => (if t265 = true then (cleanseref03_Same.f k ((sortU (wordsL x0.toList)).map ofL) ((sortU (wordsL x0.toList)).map ofL)).bind fun t269 => (if t269 = true then (cleanseref03_Same.f k ((sortU (wordsL x0.toList)).map ofL) ((sortU (wordsL x0.toList)).map ofL)).bind fun t273 => some t273 else some false) else some false)) (fun k => ?_)
      (Ev.bind hI (Ev.congr (fun k => by rw [if_pos rfl]) (Ev.bind hS (Ev.congr (fun k => by rw [if_pos rfl]) (Ev.bind hS (Ev.now _))))))
    simp only [cleanselaw03_WordsTokens.l1, if_true]
    rw [if_neg (by rw [List.length_map]; omega), tokens_f h6, hl, if_pos (by omega), if_pos (by rw [← tl_size (_ ++ ofL [10]), tl_append, tl_ofL]; simp; omega), tokens_f hzs, hw, hzw]
    simp only [Option.bind_some]
  | d + 1, i, hd => by
    have hi : i < (wordsL x0.toList).length := by omega
    have hwl := words_len x0.toList
    have ih := tokens_l1 x0 hx x6 h6 hw d (i + 1) (by omega)
    have hm : ofL (wordsL x0.toList)[i] ∈ (sortU (wordsL x0.toList)).map ofL := List.mem_map.2 ⟨_, (mem_sortU _ _).2 (List.getElem_mem hi), rfl⟩
    have hin := in_mem hm (by rw [List.length_map]; have := sort_len x0.toList; omega)
    refine Ev.step (f := fun k => (cleanseref03_In.f k ((sortU (wordsL x0.toList)).map ofL) (ofL (wordsL x0.toList)[i])).bind fun t264 => (if t264 = true then cleanselaw03_WordsTokens.l1 k x0 true ((sortU (wordsL x0.toList)).map ofL) ((wordsL x0.toList).map ofL) x6 ((i + 1 : Nat) : Int) else some false)) (fun k => ?_)
      (Ev.bind hin (Ev.congr (fun k => by rw [if_pos rfl]) ih))
    simp only [cleanselaw03_WordsTokens.l1]
    rw [if_pos (by rw [List.length_map]; omega), if_pos (by omega), rd_ofL _ _ hi, wrap_succ _ (by omega)]
theorem tokens_l0 (x0 : ByteArray) (hx : x0.toList.length ≤ 500) : ∀ (d i : Nat), d + i = (sortU (wordsL x0.toList)).length →
    Ev (fun k => cleanselaw03_WordsTokens.l0 k x0 true ((sortU (wordsL x0.toList)).map ofL) ((wordsL x0.toList).map ofL) (ofL (((sortU (wordsL x0.toList)).take i).foldl (fun t w => w ++ 44 :: t) [])) i) true
  | 0, i, hd => by
    have l0 := sort_len x0.toList
    have hmem : ∀ w ∈ sortU (wordsL x0.toList), okW w ∧ w.length ≤ 500 := fun w hw => ⟨words_ok ((mem_sortU _ _).1 hw), Nat.le_trans (word_len ((mem_sortU _ _).1 hw)) hx⟩
    have hlen := turned_len (sortU (wordsL x0.toList)) [] 500 (fun w hw => (hmem w hw).2)
    have hm : (sortU (wordsL x0.toList)).length * (500 + 1) ≤ 500 * 501 := Nat.mul_le_mul (by omega) (by omega)
    rw [List.take_of_length_le (by omega)]
    refine Ev.step (fun k => ?_) (tokens_l1 x0 hx (ofL ((sortU (wordsL x0.toList)).foldl (fun t w => w ++ 44 :: t) [])) (by rw [ofL_size]; simp only [List.length_nil] at hlen; omega) ?_ (wordsL x0.toList).length 0 (by omega))
    · simp only [cleanselaw03_WordsTokens.l0]
      rw [if_neg (by rw [List.length_map]; omega)]
      rfl
    · rw [tl_ofL, words_turned _ _ (fun w hw => (hmem w hw).1)]
      exact (sortU_congr (fun z => by simp [wordsL, scanW, flushW])).trans (sortU_of_inc (sortU_inc _))
  | d + 1, i, hd => by
    have hi : i < (sortU (wordsL x0.toList)).length := by omega
    have l0 := sort_len x0.toList
    have hwl := words_len x0.toList
    have hmem : ∀ w ∈ sortU (wordsL x0.toList), w.length ≤ 500 := fun w hw => Nat.le_trans (word_len ((mem_sortU _ _).1 hw)) hx
    have hlen := turned_len ((sortU (wordsL x0.toList)).take i) [] 500 (fun w hw => hmem w (List.mem_of_mem_take hw))
    have hm : ((sortU (wordsL x0.toList)).take i).length * (500 + 1) ≤ 500 * 501 := Nat.mul_le_mul (by rw [List.length_take]; omega) (by omega)
    have hwi := hmem _ (List.getElem_mem hi)
    have ih := tokens_l0 x0 hx d (i + 1) (by omega)
    rw [List.take_succ_eq_append_getElem hi, List.foldl_append, List.foldl_cons, List.foldl_nil] at ih
    have hin := in_mem (xs := (wordsL x0.toList).map ofL) (x := ofL (sortU (wordsL x0.toList))[i]) (List.mem_map.2 ⟨_, (mem_sortU _ _).1 (List.getElem_mem hi), rfl⟩) (by rw [List.length_map]; omega)
    obtain ⟨u, hu⟩ : ∃ u, ((sortU (wordsL x0.toList)).take i).foldl (fun t w => w ++ 44 :: t) [] = u := ⟨_, rfl⟩
    rw [hu] at ih hlen ⊢
    simp only [List.length_nil] at hlen
    have hl : (⟨#[44]⟩ : ByteArray) = ofL [44] := rfl
    refine Ev.step (f := fun k => (cleanseref03_In.f k ((wordsL x0.toList).map ofL) (ofL (sortU (wordsL x0.toList))[i])).bind fun t261 => (if t261 = true then cleanselaw03_WordsTokens.l0 k x0 true ((sortU (wordsL x0.toList)).map ofL) ((wordsL x0.toList).map ofL) (ofL ((sortU (wordsL x0.toList))[i] ++ 44 :: u)) ((i + 1 : Nat) : Int) else some false)) (fun k => ?_)
      (Ev.bind hin (Ev.congr (fun k => by rw [if_pos rfl]) ih))
    simp only [cleanselaw03_WordsTokens.l0]
    have happ : ofL (sortU (wordsL x0.toList))[i] ++ ofL [44] ++ ofL u = ofL ((sortU (wordsL x0.toList))[i] ++ 44 :: u) := tl_inj (by rw [tl_append, tl_append, tl_ofL, tl_ofL, tl_ofL, tl_ofL]; simp)
    rw [if_pos (by rw [List.length_map]; omega), if_pos (by omega), rd_ofL _ _ hi, wrap_succ _ (by omega), hl, if_pos (by rw [ofL_size]; omega), if_pos (by rw [← tl_size (_ ++ ofL [44]), tl_append, tl_ofL, tl_ofL, ofL_size]; simp; omega), happ]
theorem tokens_true : cleanselaw03_WordsTokens.Pure := by
  intro a0 _
  refine Ev.rounds (g := fun k => cleanselaw03_WordsTokens.f k a0) (Ev.congr (fun k => rfl) (Ev.bind head_true ?_))
  by_cases hs : (a0.size : Int) > 500
  · exact Ev.congr (fun k => by rw [if_pos hs]) (Ev.now _)
  · have e0 := tl_size a0
    have hf := foldL_len a0.toList
    refine Ev.congr (fun k => ?_) (tokens_l0 a0 (by omega) (sortU (wordsL a0.toList)).length 0 (by omega))
    rw [if_neg hs, tokens_f (by omega), fold_f (by omega)]
    simp only [Option.bind_some]
    rw [words_f (by rw [ofL_size]; omega), tl_ofL, words_fold]
    rfl

/-! ## WordsCommon -/
theorem wcommon_true : cleanselaw03_WordsCommon.Pure := by
  intro a0 a1 _ _
  refine Ev.rounds (g := fun k => cleanselaw03_WordsCommon.f k a0 a1) (Ev.congr (fun k => rfl) (Ev.bind head_true ?_))
  have hout : Ev (fun k => cleanselaw03_WordsCommon.j0 k a0 a1 true true) true :=
    Ev.step (f := fun _ => some true) (fun k => by simp only [cleanselaw03_WordsCommon.j0, if_true]) (Ev.now _)
  by_cases hs : (a0.size : Int) > 500
  · exact Ev.congr (fun k => by rw [if_pos hs]) hout
  · by_cases hs1 : (a1.size : Int) > 500
    · exact Ev.congr (fun k => by rw [if_neg hs, decide_eq_true hs1]) hout
    · refine Ev.congr (fun k => by rw [if_neg hs, decide_eq_false hs1]) ?_
      have e0 := tl_size a0
      have e1 := tl_size a1
      have l0 := sort_len a0.toList
      have l1 := sort_len a1.toList
      have ix := sortU_inc (wordsL a0.toList)
      have iy := sortU_inc (wordsL a1.toList)
      have hT0 := tokens_f (s := a0) (by omega)
      have hT1 := tokens_f (s := a1) (by omega)
      obtain ⟨x, hx⟩ : ∃ x, sortU (wordsL a0.toList) = x := ⟨_, rfl⟩
      obtain ⟨y, hy⟩ : ∃ y, sortU (wordsL a1.toList) = y := ⟨_, rfl⟩
      rw [hx] at l0 ix hT0
      rw [hy] at l1 iy hT1
      have c1 := common_f ix iy (by omega) (by omega)
      have c2 := common_f iy ix (by omega) (by omega)
      have c3 := common_f ix ix (by omega) (by omega)
      rw [cnt_symm ix.nodup iy.nodup] at c2
      rw [cnt_self] at c3
      have hso := sorted_f (x.map ofL ++ y.map ofL) (by rw [List.length_append, List.length_map, List.length_map]; omega)
      rw [List.map_append, map_tl_ofL, map_tl_ofL] at hso
      have hb := sortU_both y iy x ix.nodup
      have hle := cnt_le x y
      have hle2 := cnt_le y x
      rw [cnt_symm ix.nodup iy.nodup] at hle2
      obtain ⟨n, hn⟩ : ∃ n, cnt x y = n := ⟨_, rfl⟩
      rw [hn] at c1 c2 hb hle hle2
      refine Ev.step (f := fun k => (words_Common.f k (x.map ofL) (y.map ofL)).bind fun t295 => (cleanseref03_Sorted.f k (x.map ofL ++ y.map ofL)).bind fun t305 => (if t295 ≥ 0 then (if t295 ≤ (mn ((x.map ofL).length : Int) ((y.map ofL).length : Int)) then ((words_Common.f k (y.map ofL) (x.map ofL)).bind fun t308 => (if t308 = t295 then (if (wrap64 (t295 + (t305.length : Int))) = (wrap64 (((x.map ofL).length : Int) + ((y.map ofL).length : Int))) then ((words_Common.f k (x.map ofL) (x.map ofL)).bind fun t309 => (some (t309 == ((x.map ofL).length : Int)))) else (some false)) else (some false))) else (some false)) else (some false))) (fun k => ?_) (Ev.bind c1 (Ev.bind hso ?_))
      · simp only [cleanselaw03_WordsCommon.j0]
        rw [if_neg (by simp), hT0, hT1]
        simp only [Option.bind_some, List.nil_append, List.length_nil, Nat.zero_add, if_true]
        congr 1
        funext t
        rw [if_pos (by rw [List.length_map]; omega), if_pos (by rw [List.length_map, List.length_map]; omega)]
      · refine Ev.congr (fun k => ?_) (Ev.bind c2 ?_ (f := fun k t308 => (if t308 = (n : Int) then ((words_Common.f k (x.map ofL) (x.map ofL)).bind fun t309 => (some (t309 == ((x.map ofL).length : Int)))) else (some false))))
        · rw [if_pos (by omega), if_pos (by unfold mn; simp only [List.length_map]; split <;> omega)]
          congr 1
          funext t
          by_cases ht : t = (n : Int)
          · rw [if_pos ht, if_pos ht, if_pos (by simp only [List.length_map]; congr 1; omega)]
          · rw [if_neg ht, if_neg ht]
        · refine Ev.congr (fun k => by rw [if_pos rfl]) (Ev.bind c3 ?_)
          simp only [List.length_map, beq_self_eq_true]
          exact Ev.now _

end Go.Proofs.Ythdhkclhckigmaa.Pure
