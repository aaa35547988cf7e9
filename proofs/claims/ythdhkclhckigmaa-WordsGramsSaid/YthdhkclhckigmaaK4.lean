/- The plain laws of the folded text and of its parts. -/
import Derived.Test.YthdhkclhckigmaaK2
import Derived.Test.YthdhkclhckigmaaQ4
import Derived.Test.YthdhkclhckigmaaQ10
namespace Go.Proofs.Ythdhkclhckigmaa.Pure
open Go Go.RowKit Go.Proofs.Ythdhkclhckigmaa.Q Go.Proofs.YthdhkclhckigmaaW.PrintWords Go.Proofs.YthdhkclhckigmaaW.PrintLast
set_option linter.unusedVariables false
set_option linter.unusedSimpArgs false

/-! ## WordsFold -/
theorem ok_ne {c : UInt8} (h : okC c) : c ≠ 32 := fun e => by rw [e] at h; exact absurd h.1 (by decide)
theorem ok_range {c : UInt8} (h : okC c) : (97 ≤ (c.toNat : Int) ∧ (c.toNat : Int) ≤ 122) ∨ (48 ≤ (c.toNat : Int) ∧ (c.toNat : Int) ≤ 57) := by
  have := (lowC_all c).2
  rw [h.1] at this
  rcases this with h0 | ⟨h1, h2⟩ | ⟨h1, h2⟩
  · exact absurd h0 h.2
  · have := UInt8.le_iff_toNat_le.1 h1; have := UInt8.le_iff_toNat_le.1 h2; simp at *; omega
  · have := UInt8.le_iff_toNat_le.1 h1; have := UInt8.le_iff_toNat_le.1 h2; simp at *; omega
theorem join_good : ∀ (ws : List (List UInt8)), (∀ w ∈ ws, okW w) → (∀ c, (joinB ws)[0]? = some c → okC c) ∧
    ∀ i c, (joinB ws)[i]? = some c → okC c ∨ (c = 32 ∧ 0 < i ∧ ∃ e, (joinB ws)[i + 1]? = some e ∧ e ≠ 32)
  | [], _ => by simp [joinB]
  | [x], h => by
    have hx := h x List.mem_cons_self
    exact ⟨fun c hc => hx.2 c (List.mem_of_getElem? hc), fun i c hc => .inl (hx.2 c (List.mem_of_getElem? hc))⟩
  | x :: y :: r, h => by
    have hx := h x List.mem_cons_self
    obtain ⟨ih0, ih⟩ := join_good (y :: r) (fun w hw => h w (List.mem_cons_of_mem _ hw))
    have hne : joinB (y :: r) ≠ [] := fun e => by
      have := (joinB_nil (fun w hw => h w (List.mem_cons_of_mem _ hw))).1 e
      cases this
    show (∀ c, (x ++ 32 :: joinB (y :: r))[0]? = some c → okC c) ∧ ∀ i c, (x ++ 32 :: joinB (y :: r))[i]? = some c → okC c ∨ (c = 32 ∧ 0 < i ∧ ∃ e, (x ++ 32 :: joinB (y :: r))[i + 1]? = some e ∧ e ≠ 32)
    obtain ⟨v, hv⟩ : ∃ v, joinB (y :: r) = v := ⟨_, rfl⟩
    rw [hv] at ih0 ih hne ⊢
    have hxl : 0 < x.length := List.length_pos_iff.2 hx.1
    constructor
    · intro c hc
      rw [List.getElem?_append_left hxl] at hc
      exact hx.2 c (List.mem_of_getElem? hc)
    · intro i c hc
      by_cases h1 : i < x.length
      · rw [List.getElem?_append_left h1] at hc
        exact .inl (hx.2 c (List.mem_of_getElem? hc))
      · rw [List.getElem?_append_right (by omega)] at hc
        obtain ⟨j, hj⟩ : ∃ j, i = x.length + j := ⟨i - x.length, by omega⟩
        subst hj
        rw [Nat.add_sub_cancel_left] at hc
        have hnext : (x ++ 32 :: v)[x.length + j + 1]? = v[j]? := by
          rw [List.getElem?_append_right (by omega), show x.length + j + 1 - x.length = j + 1 by omega, List.getElem?_cons_succ]
        cases j with
        | zero =>
          refine .inr ⟨by simpa using hc.symm, by omega, ?_⟩
          rw [hnext]
          cases v with
          | nil => exact absurd rfl hne
          | cons e v => exact ⟨e, rfl, ok_ne (ih0 e rfl)⟩
        | succ j =>
          rw [List.getElem?_cons_succ] at hc
          rcases ih j c hc with h2 | ⟨h2, h3, e, h4, h5⟩
          · exact .inl h2
          · exact .inr ⟨h2, by omega, e, by rw [hnext]; exact h4, h5⟩
theorem fold_l0 (x0 x4 : ByteArray) (hx : x4.toList.length ≤ 1000) (hle : x4.size ≤ x0.size) (hff : foldL x4.toList = x4.toList)
    (hg : ∀ i c, x4.toList[i]? = some c → okC c ∨ (c = 32 ∧ 0 < i ∧ ∃ e, x4.toList[i + 1]? = some e ∧ e ≠ 32)) : ∀ (d i : Nat), d + i = x4.toList.length →
    Ev (fun k => cleanselaw03_WordsFold.l0 k x0 true x4 i) true
  | 0, i, hd => by
    have e4 := tl_size x4
    refine Ev.step (f := fun _ => some true) (fun k => ?_) (Ev.now _)
    simp only [cleanselaw03_WordsFold.l0, if_true]
    rw [if_neg (by omega), fold_f (by omega)]
    simp only [Option.bind_some]
    rw [tl_ofL, if_pos hff, decide_eq_true (by omega)]
  | d + 1, i, hd => by
    have e4 := tl_size x4
    have hi : i < x4.toList.length := by omega
    have ih := fold_l0 x0 x4 hx hle hff hg d (i + 1) (by omega)
    refine Ev.step (fun k => ?_) ih
    have hc := hg i x4.toList[i] (List.getElem?_eq_getElem hi)
    have hb := bt_nat x4 i hi
    simp only [cleanselaw03_WordsFold.l0]
    rw [wrap_succ i (by omega)]
    obtain ⟨b, hbe⟩ : ∃ b, bt x4 (i : Int) = b := ⟨_, rfl⟩
    rw [hbe] at hb ⊢
    rw [if_pos (by omega), if_pos (by omega)]
    rcases hc with hc | ⟨hc, h0, e, he, hne⟩
    · have hr := ok_range hc
      rw [← hb] at hr
      rcases hr with ⟨h1, h2⟩ | ⟨h1, h2⟩
      · rw [if_pos h1, if_pos h2, if_neg (by omega)]
      · rw [if_neg (by omega), if_pos h1, if_neg (by omega), if_pos h2]
    · have hb32 : b = 32 := by rw [hb, hc]; rfl
      have hi1 : i + 1 < x4.toList.length := by
        rcases Nat.lt_or_ge (i + 1) x4.toList.length with h | h
        · exact h
        · rw [List.getElem?_eq_none h] at he; cases he
      have he2 : x4.toList[i + 1] = e := by rw [List.getElem?_eq_getElem hi1] at he; exact Option.some.inj he
      have hb2 := bt_nat x4 (i + 1) hi1
      rw [he2] at hb2
      have hne2 : ¬ bt x4 ((i + 1 : Nat) : Int) = 32 := by
        rw [hb2]
        intro h
        exact hne (UInt8.toNat_inj.1 (by simp; omega))
      rw [if_neg (by omega), if_neg (by omega), if_pos hb32, if_pos (by omega), if_pos (by omega), if_pos (by omega), if_pos hne2]
theorem fold_true : cleanselaw03_WordsFold.Pure := by
  intro a0 _
  refine Ev.rounds (g := fun k => cleanselaw03_WordsFold.f k a0) (Ev.congr (fun k => rfl) (Ev.bind head_true ?_))
  by_cases hs : (a0.size : Int) > 1000
  · exact Ev.congr (fun k => by rw [if_pos hs]) (Ev.now _)
  · have e0 := tl_size a0
    have hf := foldL_len a0.toList
    refine Ev.congr (fun k => ?_) (fold_l0 a0 (ofL (foldL a0.toList)) (by rw [tl_ofL]; omega) (by rw [ofL_size]; omega) (by rw [tl_ofL, fold_fold]) (by rw [tl_ofL]; exact (join_good _ (fun _ h => words_ok h)).2) (ofL (foldL a0.toList)).toList.length 0 rfl)
    rw [if_neg hs, fold_f (by omega)]
    rfl

/-! ## WordsGrams -/
def gramI (s : List UInt8) (N i : Nat) : List UInt8 := (s.drop i).take N
theorem mem_grams (s : List UInt8) (N : Nat) (z : List UInt8) : z ∈ gramsL s N ↔ ∃ j, j < s.length + 1 - N ∧ z = gramI s N j := by
  unfold gramsL gramI
  rw [List.mem_map]
  constructor
  · rintro ⟨j, hj, rfl⟩; exact ⟨j, List.mem_range.1 hj, rfl⟩
  · rintro ⟨j, hj, rfl⟩; exact ⟨j, List.mem_range.2 hj, rfl⟩
theorem grams_l2 (G : List (List UInt8)) (hG : Inc G) (F : List Bool) (hl : F.length = G.length) (hm : G.length ≤ 1000) (hF : ∀ a : Nat, a < F.length → F[a]? = some true) : ∀ (d i : Nat), d + i = F.length →
    Ev (fun k => cleanselaw03_WordsGrams.l2 k true (G.map ofL) F i) true
  | 0, i, hd => by
    have hI := inc_true (xs := G.map ofL) (by rw [map_tl_ofL]; exact hG) (by rw [List.length_map]; omega)
    refine Ev.step (fun k => ?_) (Ev.bind hI (Ev.now _) (f := fun _ t => some t))
    simp only [cleanselaw03_WordsGrams.l2, if_true]
    rw [if_neg (by omega)]
  | d + 1, i, hd => by
    refine Ev.step (fun k => ?_) (grams_l2 G hG F hl hm hF d (i + 1) (by omega))
    simp only [cleanselaw03_WordsGrams.l2]
    have hr : rdOf false F (i : Int) = true := by
      have := hF i (by omega)
      simp [rdOf, List.getD_eq_getElem?_getD, this]
    rw [if_pos (by omega), if_pos (by omega), if_pos hr, wrap_succ _ (by omega)]
theorem grams_l1 (s : List UInt8) (hs : s.length ≤ 500) (N : Nat) (hN : 1 ≤ N) (G : List (List UInt8)) (hm : G.length ≤ 1000) (i : Nat) (hi : i + N ≤ s.length) (hin : gramI s N i ∈ G) :
    ∀ (d j : Nat) (F : List Bool) (b : Bool), d + j = G.length → F.length = G.length → ((∃ a : Nat, a < j ∧ G[a]? = some (gramI s N i)) → b = true) →
    (∀ F' : List Bool, F'.length = G.length → (∀ a : Nat, F[a]? = some true → F'[a]? = some true) → (∀ a : Nat, j ≤ a → G[a]? = some (gramI s N i) → F'[a]? = some true) → Ev (fun k => cleanselaw03_WordsGrams.l0 k true N (ofL s) (G.map ofL) F' ((i + 1 : Nat) : Int)) true) →
    Ev (fun k => cleanselaw03_WordsGrams.l1 k true N (ofL s) (G.map ofL) F i b j) true
  | 0, j, F, b, hd, hl, hb, next => by
    obtain ⟨a, ha, hga⟩ := List.getElem_of_mem hin
    have hbt : b = true := hb ⟨a, by omega, by rw [List.getElem?_eq_getElem ha, hga]⟩
    subst hbt
    refine Ev.step (fun k => ?_) (next F hl (fun _ h => h) (fun a ha hg => by rw [List.getElem?_eq_none (by omega)] at hg; cases hg))
    simp only [cleanselaw03_WordsGrams.l1, if_true]
    rw [if_neg (by rw [List.length_map]; omega), wrap_succ _ (by omega)]
  | d + 1, j, F, b, hd, hl, hb, next => by
    have hj : j < G.length := by omega
    have hw : wrap64 ((i : Int) + N) = ((i + N : Nat) : Int) := by rw [wrap_id (by omega) (by omega)]; omega
    have hx : ((ofL s).extract (i : Int).toNat ((i + N : Nat) : Int).toNat).toList = gramI s N i := by
      rw [tl_extract, tl_ofL, Int.toNat_natCast, Int.toNat_natCast, Nat.add_sub_cancel_left]; rfl
    have hsz : (ofL s).size = s.length := ofL_size s
    by_cases he : G[j] = gramI s N i
    · have hrec := grams_l1 s hs N hN G hm i hi hin d (j + 1) (F.set j true) true (by omega) (by rw [List.length_set]; exact hl) (fun _ => rfl) (fun F' hl' h1 h2 => next F' hl'
          (fun a ha => h1 a (by
            by_cases haj : a = j
            · subst haj; rw [List.getElem?_set_self (by omega)]
            · rw [List.getElem?_set_ne (fun h => haj h.symm)]; exact ha))
          (fun a ha hg => by
            by_cases haj : a = j
            · subst haj; exact h1 a (by rw [List.getElem?_set_self (by omega)])
            · exact h2 a (by omega) hg))
      refine Ev.step (fun k => ?_) hrec
      simp only [cleanselaw03_WordsGrams.l1]
      rw [hw, if_pos (by rw [List.length_map]; omega), if_pos (by omega), if_pos (by omega), if_pos (by omega), if_pos (by rw [hsz]; omega), rd_ofL _ _ hj, tl_ofL, hx, if_pos he, if_pos (by omega), wrap_succ _ (by omega), Int.toNat_natCast]
    · have hrec := grams_l1 s hs N hN G hm i hi hin d (j + 1) F b (by omega) hl (fun ⟨a, ha, hg⟩ => hb ⟨a, by
          by_cases haj : a = j
          · subst haj
            rw [List.getElem?_eq_getElem hj] at hg
            exact absurd (Option.some.inj hg) he
          · omega, hg⟩) (fun F' hl' h1 h2 => next F' hl' h1 (fun a ha hg => by
            by_cases haj : a = j
            · subst haj
              rw [List.getElem?_eq_getElem hj] at hg
              exact absurd (Option.some.inj hg) he
            · exact h2 a (by omega) hg))
      refine Ev.step (fun k => ?_) hrec
      simp only [cleanselaw03_WordsGrams.l1]
      rw [hw, if_pos (by rw [List.length_map]; omega), if_pos (by omega), if_pos (by omega), if_pos (by omega), if_pos (by rw [hsz]; omega), rd_ofL _ _ hj, tl_ofL, hx, if_neg he, wrap_succ _ (by omega)]
theorem grams_l0 (s : List UInt8) (hs : s.length ≤ 500) (N : Nat) (hN : 1 ≤ N) (hN8 : N ≤ 8) (G : List (List UInt8)) (hG : Inc G) (hm : G.length ≤ 1000) (hmem : ∀ z, z ∈ G ↔ z ∈ gramsL s N) :
    ∀ (d i : Nat) (F : List Bool), d + i = s.length + 1 - N → F.length = G.length → (∀ a j : Nat, j < i → G[a]? = some (gramI s N j) → F[a]? = some true) →
    Ev (fun k => cleanselaw03_WordsGrams.l0 k true N (ofL s) (G.map ofL) F i) true
  | 0, i, F, hd, hl, hF => by
    have hsz : (ofL s).size = s.length := ofL_size s
    refine Ev.step (fun k => ?_) (grams_l2 G hG F hl hm (fun a ha => ?_) F.length 0 (by omega))
    · simp only [cleanselaw03_WordsGrams.l0]
      rw [wrap_id (by omega) (by omega), if_neg (by omega)]
      rfl
    · have hg : G[a]'(by omega) ∈ G := List.getElem_mem _
      obtain ⟨j, hj, hgj⟩ := (mem_grams s N _).1 ((hmem _).1 hg)
      exact hF a j (by omega) (by rw [List.getElem?_eq_getElem (by omega), hgj])
  | d + 1, i, F, hd, hl, hF => by
    have hsz : (ofL s).size = s.length := ofL_size s
    have hin : gramI s N i ∈ G := (hmem _).2 ((mem_grams s N _).2 ⟨i, by omega, rfl⟩)
    refine Ev.step (fun k => ?_) (grams_l1 s hs N hN G hm i (by omega) hin G.length 0 F false (by omega) hl (fun ⟨a, ha, _⟩ => by omega) (fun F' hl' h1 h2 => grams_l0 s hs N hN hN8 G hG hm hmem d (i + 1) F' (by omega) hl' (fun a j hj hg => ?_)))
    · simp only [cleanselaw03_WordsGrams.l0]
      rw [wrap_id (by omega) (by omega), if_pos (by omega)]
      rfl
    · by_cases hji : j = i
      · subst hji; exact h2 a (by omega) hg
      · exact h1 a (hF a j (by omega) hg)
theorem wgrams_true : cleanselaw03_WordsGrams.Pure := by
  intro a0 a1 _ ha1
  obtain ⟨c, rfl⟩ := u8_of ha1
  refine Ev.rounds (g := fun k => cleanselaw03_WordsGrams.f k a0 (c.toNat : Int)) (Ev.congr (fun k => rfl) (Ev.bind head_true ?_))
  by_cases hs : (a0.size : Int) > 500
  · exact Ev.congr (fun k => by rw [if_pos hs]) (Ev.now _)
  · have e0 := tl_size a0
    have hf := foldL_len a0.toList
    obtain ⟨N, hN, hN8, hNe⟩ : ∃ N : Nat, 1 ≤ N ∧ N ≤ 8 ∧ wrap64 (1 + (Int.tmod (wrap64 (c.toNat : Int)) 8)) = (N : Int) := by
      have hc : c.toNat < 256 := c.toNat_lt
      refine ⟨1 + c.toNat % 8, by omega, by omega, ?_⟩
      rw [wrap_id (n := (c.toNat : Int)) (by omega) (by omega), Int.tmod_eq_emod_of_nonneg (by omega), wrap_id (by omega) (by omega)]
      omega
    have hgf := grams_f (s := a0) (N : Int) (by omega)
    have hfo := fold_f (s := a0) (by omega)
    obtain ⟨s, hse⟩ : ∃ s, foldL a0.toList = s := ⟨_, rfl⟩
    rw [hse] at hf hgf hfo
    have hsz : (ofL s).size = s.length := ofL_size s
    by_cases hlt : (s.length : Int) < N
    · refine Ev.congr (fun k => ?_) (Ev.now true)
      rw [if_neg hs, hfo, hNe, hgf]
      simp only [Option.bind_some, if_true]
      rw [hsz, if_pos hlt, tl_ofL]
      have hG0 : gramsF s N = if s = [] then [] else [s] := by
        unfold gramsF
        rw [if_neg (by omega)]
        by_cases h0 : s = []
        · rw [if_pos h0, if_pos h0]
        · rw [if_neg h0, if_neg h0, if_pos hlt]
      rw [hG0]
      by_cases h0 : s = []
      · rw [if_pos h0, if_pos h0]
        rfl
      · rw [if_neg h0, if_neg h0, if_pos (by rfl), if_pos (by simp)]
        simp [rdOf]
    · have hG : gramsF s N = sortU (gramsL s N) := by
        unfold gramsF
        rw [if_neg (by omega), if_neg (fun h => by rw [h] at hlt; simp at hlt; omega), if_neg hlt, Int.toNat_natCast]
      rw [hG] at hgf
      have hgl := sortU_len (gramsL s N)
      have hgl2 := gramsL_length' s N
      refine Ev.congr (fun k => ?_) (grams_l0 s (by omega) N hN hN8 (sortU (gramsL s N)) (sortU_inc _) (by omega) (fun z => mem_sortU _ z) (s.length + 1 - N) 0 (List.replicate (sortU (gramsL s N)).length false) (by omega) (by simp) (fun a j hj => by omega))
      rw [if_neg hs, hfo, hNe, hgf]
      simp only [Option.bind_some, if_true]
      rw [hsz, if_neg hlt, if_pos (by omega), if_pos (by rw [List.length_map]; omega), List.length_map]
      rfl

end Go.Proofs.Ythdhkclhckigmaa.Pure
