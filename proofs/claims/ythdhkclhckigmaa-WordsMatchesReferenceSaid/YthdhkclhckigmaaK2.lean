/- The summaries in rounds: what each function of the statements tells, from some number of rounds on. -/
import Derived.Test.YthdhkclhckigmaaK1
import Derived.Test.YthdhkclhckigmaaQ5
import Derived.Test.YthdhkclhckigmaaQ12
import Derived.Lib.LazyBuf
namespace Go.Proofs.Ythdhkclhckigmaa.Pure
open Go Go.RowKit Go.Proofs.Ythdhkclhckigmaa.Q Go.Proofs.YthdhkclhckigmaaW.PrintWords Go.Proofs.YthdhkclhckigmaaW.PrintLast
set_option linter.unusedVariables false
set_option linter.unusedSimpArgs false

theorem low_f (c : UInt8) : Ev (fun k => cleanseref03_Lower.f k (c.toNat : Int)) ((lowC c).toNat : Int) := by
  have h : ∀ n : Fin 256, cleanseref03_Lower.f 2 ((UInt8.ofFin n).toNat : Int) = some ((lowC (UInt8.ofFin n)).toNat : Int) := by decide +kernel
  refine Ev.of (k := 2) (fun k => cleanseref03_Lower.mono (c.toNat : Int) k) ?_
  have := h c.toFin
  simpa using this
theorem u8_of {a : Int} (h : (Lit.int .u8 a).wf = true) : ∃ c : UInt8, a = (c.toNat : Int) := by
  have h2 : 0 ≤ a ∧ a ≤ 255 := by
    simp only [Lit.wf, Bool.and_eq_true, decide_eq_true_eq] at h
    exact h
  refine ⟨UInt8.ofNat a.toNat, ?_⟩
  rw [UInt8.toNat_ofNat']
  omega
theorem low_zero (c : UInt8) : ((lowC c).toNat : Int) = 0 ↔ lowC c = 0 := by
  constructor
  · intro h
    exact UInt8.toNat_inj.1 (by simpa using h)
  · intro h; rw [h]; rfl
theorem tl_size (x : ByteArray) : x.toList.length = x.size := by rw [Go.ByteArray.toList_eq]; exact Array.length_toList
theorem fold_f {s : ByteArray} (h : s.size ≤ 1000000) : words_Fold.f s = some (ofL (foldL s.toList)) := by unfold words_Fold.f; rw [if_pos h, ← Go.ByteArray.toList_eq]
theorem tokens_f {s : ByteArray} (h : s.size ≤ 1000000) : words_Tokens.f s = some ((sortU (wordsL s.toList)).map ofL) := by unfold words_Tokens.f; rw [if_pos h, ← Go.ByteArray.toList_eq]
theorem grams_f {s : ByteArray} (n : Int) (h : s.size ≤ 1000000) : words_Grams.f s n = some ((gramsF (foldL s.toList) n).map ofL) := by unfold words_Grams.f; rw [if_pos h, ← Go.ByteArray.toList_eq]
theorem tl_append (a b : ByteArray) : (a ++ b).toList = a.toList ++ b.toList := by rw [Go.ByteArray.toList_eq, Go.ByteArray.toList_eq, Go.ByteArray.toList_eq]; simp
theorem tl_extract (a : ByteArray) (i j : Nat) : (a.extract i j).toList = (a.toList.drop i).take (j - i) := by
  have h := ByteArray.extract_mk a.toList i j
  have e : ByteArray.mk a.toList.toArray = a := ofL_tl a
  rw [e] at h
  rw [h]
  exact tl_ofL _
theorem bt_nat (s : ByteArray) (j : Nat) (h : j < s.toList.length) : bt s (j : Int) = (s.toList[j].toNat : Int) := by
  have hs : j < s.size := by rwa [tl_size] at h
  unfold bt
  rw [dif_pos (by simpa using hs)]
  have e : s.toList[j] = s[j] := by
    simp only [Go.ByteArray.toList_eq]
    rfl
  rw [e]
  rfl
theorem nums_str (l : List UInt8) : strOfNums (l.map fun b => (b.toNat : Int)) = ofL l := Go.Lib.Lz.strOfNums_map l
theorem sort_len (l : List UInt8) : (sortU (wordsL l)).length ≤ l.length := Nat.le_trans (sortU_len _) (words_len l)
theorem gramsL_length' (l : List UInt8) (n : Nat) : (gramsL l n).length ≤ l.length + 1 := by rw [gramsL_length]; omega

/-! ## WordsCase -/
def turnC (bw c : UInt8) : UInt8 := if lowC c = 0 then bw else if 97 ≤ c ∧ c ≤ 122 then c - 32 else c
theorem low_sub : ∀ c : UInt8, 97 ≤ c ∧ c ≤ 122 → lowC (c - 32) = lowC c ∧ ((c.toNat : Int) - 32) % 256 = ((c - 32).toNat : Int) := by
  have h : ∀ n : Fin 256, 97 ≤ UInt8.ofFin n ∧ UInt8.ofFin n ≤ 122 → lowC (UInt8.ofFin n - 32) = lowC (UInt8.ofFin n) ∧ (((UInt8.ofFin n).toNat : Int) - 32) % 256 = ((UInt8.ofFin n - 32).toNat : Int) := by decide +kernel
  intro c
  have := h c.toFin
  simpa using this
theorem low_turn {bw : UInt8} (hb : lowC bw = 0) (c : UInt8) : lowC (turnC bw c) = lowC c := by
  unfold turnC
  split
  · rename_i h; rw [hb, h]
  · split
    · rename_i h; exact (low_sub c h).1
    · rfl
theorem words_turn {bw : UInt8} (hb : lowC bw = 0) (l : List UInt8) : wordsL (l.map (turnC bw)) = wordsL l :=
  words_low _ _ (by rw [List.map_map]; exact List.map_congr_left fun c _ => low_turn hb c)
theorem case_l0 (x0 : ByteArray) (bw : UInt8) (hb : lowC bw = 0) (hx : x0.toList.length ≤ 500) : ∀ (d i : Nat), d + i = x0.toList.length →
    Ev (fun k => cleanselaw03_WordsCase.l0 k x0 (bw.toNat : Int) true (((x0.toList.take i).map (turnC bw)).map fun b => (b.toNat : Int)) i) true
  | 0, i, hd => by
    have hw := words_turn hb x0.toList
    have hs : (ofL (x0.toList.map (turnC bw))).size ≤ 1000000 := by rw [ofL_size, List.length_map]; omega
    have hs0 : x0.size ≤ 1000000 := by rw [← tl_size]; omega
    refine Ev.step (f := fun k => (cleanseref03_Same.f k ((sortU (wordsL x0.toList)).map ofL) ((sortU (wordsL x0.toList)).map ofL)).bind fun t333 => some t333) (fun k => ?_) (Ev.bind (same_self _ (by rw [List.length_map]; have := sort_len x0.toList; omega)) (Ev.now _))
    simp only [cleanselaw03_WordsCase.l0]
    rw [if_neg (by rw [← tl_size]; omega), List.take_of_length_le (by omega), nums_str, fold_f hs, fold_f hs0, tokens_f hs, tokens_f hs0, tl_ofL]
    unfold foldL
    rw [hw]
    simp only [if_true, Option.bind_some]
  | d + 1, i, hd => by
    have hi : i < x0.toList.length := by omega
    have hsz : x0.size = x0.toList.length := (tl_size x0).symm
    have ih := case_l0 x0 bw hb hx d (i + 1) (by omega)
    rw [List.take_succ_eq_append_getElem hi, List.map_append, List.map_append, List.map_cons, List.map_nil, List.map_cons, List.map_nil] at ih
    have hlow := low_f x0.toList[i]
    obtain ⟨c, hc⟩ : ∃ c, x0.toList[i] = c := ⟨_, rfl⟩
    rw [hc] at ih hlow
    refine Ev.step (f := fun k => (cleanseref03_Lower.f k (c.toNat : Int)).bind fun t312 => (if t312 = 0 then cleanselaw03_WordsCase.l0 k x0 (bw.toNat : Int) true ((((x0.toList.take i).map (turnC bw)).map fun b => (b.toNat : Int)) ++ [(bw.toNat : Int)]) ((i + 1 : Nat) : Int) else if 97 ≤ c ∧ c ≤ 122 then cleanselaw03_WordsCase.l0 k x0 (bw.toNat : Int) true ((((x0.toList.take i).map (turnC bw)).map fun b => (b.toNat : Int)) ++ [((c - 32).toNat : Int)]) ((i + 1 : Nat) : Int) else cleanselaw03_WordsCase.l0 k x0 (bw.toNat : Int) true ((((x0.toList.take i).map (turnC bw)).map fun b => (b.toNat : Int)) ++ [(c.toNat : Int)]) ((i + 1 : Nat) : Int))) (fun k => ?_) (Ev.bind hlow ?_)
    · simp only [cleanselaw03_WordsCase.l0]
      have hlen : ((((x0.toList.take i).map (turnC bw)).map fun b => (b.toNat : Int))).length < 140737488355328 := by simp; omega
      rw [if_pos (by omega), if_pos (by omega), bt_nat _ _ hi, hc, wrap_succ _ (by omega)]
      congr 1
      funext t
      by_cases ht : t = 0
      · rw [if_pos ht, if_pos ht, if_pos hlen]
      · rw [if_neg ht, if_neg ht]
        by_cases h1 : 97 ≤ c
        · have h1' : (c.toNat : Int) ≥ 97 := by have := UInt8.le_iff_toNat_le.1 h1; simp at this; omega
          by_cases h2 : c ≤ 122
          · have h2' : (c.toNat : Int) ≤ 122 := by have := UInt8.le_iff_toNat_le.1 h2; simp at this; omega
            rw [if_pos h1', if_pos h2', if_pos hlen, if_pos ⟨h1, h2⟩, (low_sub c ⟨h1, h2⟩).2]
          · have h2' : ¬ (c.toNat : Int) ≤ 122 := fun h => h2 (UInt8.le_iff_toNat_le.2 (by simp; omega))
            rw [if_pos h1', if_neg h2', if_pos hlen, if_neg (fun h => h2 h.2)]
        · have h1' : ¬ (c.toNat : Int) ≥ 97 := fun h => h1 (UInt8.le_iff_toNat_le.2 (by simp; omega))
          rw [if_neg h1', if_pos hlen, if_neg (fun h => h1 h.1)]
    · unfold turnC at ih ⊢
      by_cases h0 : lowC c = 0
      · refine Ev.congr (fun k => by rw [if_pos ((low_zero c).2 h0)]) ?_
        rwa [if_pos h0] at ih
      · rw [if_neg h0] at ih
        by_cases h1 : 97 ≤ c ∧ c ≤ 122
        · refine Ev.congr (fun k => by rw [if_neg (fun h => h0 ((low_zero c).1 h)), if_pos h1]) ?_
          rwa [if_pos h1] at ih
        · refine Ev.congr (fun k => by rw [if_neg (fun h => h0 ((low_zero c).1 h)), if_neg h1]) ?_
          rwa [if_neg h1] at ih
theorem case_true : cleanselaw03_WordsCase.Pure := by
  intro a0 a1 _ ha1
  obtain ⟨bw, rfl⟩ := u8_of ha1
  refine Ev.rounds (g := fun k => cleanselaw03_WordsCase.f k a0 (bw.toNat : Int)) (Ev.congr (fun k => rfl) (Ev.bind head_true ?_))
  by_cases hs : (a0.size : Int) > 500
  · refine Ev.congr (fun k => by rw [if_pos hs]) (Ev.step (f := fun _ => some true) (fun k => ?_) (Ev.now _))
    simp only [cleanselaw03_WordsCase.j0, if_true]
  · refine Ev.congr (fun k => by rw [if_neg hs]) (Ev.bind (low_f bw) ?_)
    by_cases hb : lowC bw = 0
    · refine Ev.step (fun k => ?_) (case_l0 a0 bw hb (by rw [tl_size]; omega) a0.toList.length 0 (by omega))
      simp only [cleanselaw03_WordsCase.j0]
      rw [if_neg (by simp [(low_zero bw).2 hb])]
      rfl
    · refine Ev.step (f := fun _ => some true) (fun k => ?_) (Ev.now _)
      simp only [cleanselaw03_WordsCase.j0]
      rw [if_pos (by simpa using fun h => hb ((low_zero bw).1 (by simpa using h)))]

end Go.Proofs.Ythdhkclhckigmaa.Pure
