/- Parts of the proof of Lists: words, contracts and plain laws. -/
import Derived.StringKeys
import Derived.Test.YtiffkknhnmpgbaaDoorLists3
import Derived.Test.YtiffkknhnmpgbaaDoorLists23
/- words.Tokens: for every text of at most 1000000 bytes the words of the text, sorted, each once; in the form of the printed contracts. -/
namespace Go.Proofs.YtiffkknhnmpgbaaDoor
open Go Go.RowKit Go.Shelf Go.Maps Go.Sort Go.Proofs.YtiffkknhnmpgbaaDoorW.PrintWords
attribute [local go_sem] Oper.semAt_some
set_option linter.unusedVariables false
set_option linter.unusedSimpArgs false

theorem bl_lt : ∀ (x y : List UInt8), bl x y = true ↔ x < y
  | x, [] => by rw [bl_nil_r]; simp
  | [], y :: ys => by simp [bl, Op.bytesLess]
  | a :: x, b :: y => by
    rw [bl_cons, List.cons_lt_cons_iff, ← bl_lt x y]
    simp
theorem leB_bl (x y : List UInt8) : leB x y = !bl y x := by
  have h := bl_lt y x
  show decide (x ≤ y) = !bl y x
  by_cases hy : y < x
  · rw [h.2 hy]
    simp only [Bool.not_true, decide_eq_false_iff_not]
    exact List.not_le.2 hy
  · have : bl y x = false := by
      cases hb : bl y x with
      | false => rfl
      | true => exact absurd (h.1 hb) hy
    rw [this]
    simp only [Bool.not_false, decide_eq_true_eq]
    exact List.not_lt.1 hy

theorem ownsMap_turn {S : Nat → Obj → Prop} {W W' : World} {P : Program} {k : TypeId} {R : Value → Option (DataW Unit × List MemPlace)} {b n : Nat} {D : DataW Unit} (h : W.ownsMap P k R b n D) (ht : Turn S W W') (hS : ∀ es c, ¬ S b (.map es c)) : W'.ownsMap P k R b n D := by
  obtain ⟨es, clock, hb, F, hs, hD⟩ := h
  exact ⟨es, clock, ht.same b _ hb (hS es clock), F, hs, hD⟩

abbrev setD (l : List (List UInt8)) : DataW Unit := setOf (.lit (.bool true)) (l.map Lit.string)
theorem setD_size (l : List (List UInt8)) : Maps.size (setD l) ≤ l.length := by
  rw [size_setOf _ _ (fun x hx => by obtain ⟨y, _, rfl⟩ := List.mem_map.1 hx; trivial)]
  have key : ∀ (xs acc : List Lit), (xs.foldl addKey acc).length ≤ acc.length + xs.length := by
    intro xs
    induction xs with
    | nil => simp
    | cons x r ih =>
      intro acc
      refine Nat.le_trans (ih _) ?_
      unfold addKey
      split <;> simp <;> omega
  simpa using key (l.map Lit.string) []
theorem setD_has (l : List (List UInt8)) (x : List UInt8) : Maps.has (setD l) (.string x) = true ↔ x ∈ l := by
  rw [has_setOf _ _ _ (fun x hx => by obtain ⟨y, _, rfl⟩ := List.mem_map.1 hx; trivial), List.any_map, List.any_eq_true]
  constructor
  · rintro ⟨y, hy, he⟩
    simp only [Function.comp, Lit.sameKey, beq_iff_eq] at he
    subst he; exact hy
  · intro hx
    exact ⟨x, hx, by simp [Lit.sameKey]⟩

def words_Tokens.f (a0 : ByteArray) : Option (List ByteArray) := if a0.size ≤ 1000000 then some ((sortU (wordsL a0.data.toList)).map ofL) else none

theorem R_of_own {w : World} {base n : Nat} {v : Value} {t : List (List UInt8)} (h : w.ownsRow base 9 1 v n (t.map encStr)) (hn : n = t.length) : Kd.R Kd.string 9 w base (fun _ => True) v (t.map ofL) := by
  subst hn
  refine ⟨fun _ _ => trivial, t.map encStr, by rw [List.length_map]; exact h, ?_⟩
  refine ⟨by simp [Kd.string, Kd.scalar], fun j p hj => ?_⟩
  rw [List.getElem?_map] at hj
  cases ht : t[j]? with
  | none => rw [ht] at hj; cases hj
  | some x =>
    rw [ht] at hj
    simp at hj
    subst hj
    show ((t.map encStr).drop (j * 1)).take 1 = [Value.string (ofL x)]
    have hjl := (List.getElem?_eq_some_iff.1 ht)
    obtain ⟨hlt, he⟩ := hjl
    rw [Nat.mul_one, List.drop_eq_getElem_cons (by simpa using hlt)]
    simp [he, ofL]

set_option maxRecDepth 100000 in
set_option maxHeartbeats 1000000 in
theorem words_Tokens.calls (a0 : ByteArray) (r : List ByteArray) (w : World) (h : words_Tokens.f a0 = some r) :
    Calls Tryd.prog 40 #[.string a0] w fun e w' => ∃ v0_ : Value, e = .returned (v0_) ∧ Kd.R Kd.string 9 w' w.heap.size (fun _ => True) v0_ r ∧ Below w.heap.size w w' := by
  have hdd : ∀ k : Nat, (Fence.wide.depth.isSome = true → 1 ≤ k) := fun k h => by cases h
  unfold words_Tokens.f at h
  split at h
  · rename_i hs
    obtain rfl := Option.some.inj h
    clear h
    have hlen := words_len a0.data.toList
    have hll : a0.data.toList.length = a0.size := Array.length_toList
    rw [hll] at hlen
    have hwl : ∀ x, x ∈ wordsL a0.data.toList → x.length ≤ 1000000 := fun x hx => Nat.le_trans (word_len hx) (by rw [hll]; exact hs)
    obtain ⟨xs, hxs⟩ : ∃ xs, wordsL a0.data.toList = xs := ⟨_, rfl⟩
    have hmm := @run_makeMap Tryd.prog
    refine (callsIn_wide (n := 6)).1 ?_
    refine callsIn_of_wp_marks Tryd.func40 rfl trivial ?_ rfl
    simp only [Tryd.ntmps40, List.size_toArray, List.length_cons, List.length_nil, Nat.reduceAdd, Nat.reduceSub, Array.replicate_succ, Array.replicate_zero, List.push_toArray, List.append_toArray, List.nil_append, List.cons_append]
    gi_wp2_with ((first | refine ⟨trivial, hdd _, ?_⟩ | refine ⟨trivial, ?_⟩); gi_at_call 56; refine (callsIn_wide.2 (all_calls _ _)).mono ?_; rintro e w' ⟨rfl, rfl⟩)
    obtain ⟨W0, hW0⟩ : ∃ W0, ((w.alloc (.map #[] 0)).alloc (.cells #[.map (some w.heap.size)] 105)).alloc (.cells #[.string a0] 9) = W0 := ⟨_, rfl⟩
    rw [hW0]
    have hsz0 : W0.heap.size = w.heap.size + 3 := by rw [← hW0]; simp
    have hbox0 : Boxed W0 (w.heap.size + 1) 105 (.map (some w.heap.size)) := by
      rw [← hW0]
      have := (Boxed.new (w.alloc (.map #[] 0)) 105 (.map (some w.heap.size))).alloc (.cells #[.string a0] 9)
      rwa [World.size_alloc] at this
    have htxt0 : Boxed W0 (w.heap.size + 1 + 1) 9 (.string a0) := by
      rw [← hW0]
      have := Boxed.new ((w.alloc (.map #[] 0)).alloc (.cells #[.map (some w.heap.size)] 105)) 9 (.string a0)
      rwa [World.size_alloc, World.size_alloc] at this
    have hb0 : Below w.heap.size w W0 := by
      rw [← hW0]
      exact (((Below.refl _ w).alloc (Nat.le_refl _) _).alloc (by simp) _).alloc (by simp; omega) _
    have hmap0 : W0.ownsMap Tryd.prog 9 setElem w.heap.size 0 (setD []) := by
      rw [← hW0]
      exact ownsMap_turn (ownsMap_turn (World.ownsMap_made _ _ _ _) (Turn.alloc (S := fun _ _ => False) _ _) (fun _ _ h => h)) (Turn.alloc (S := fun _ _ => False) _ _) (fun _ _ h => h)
    clear hW0 hmm
    refine wpIn_rangeFunc_T (gf := 77) (lb := #[.pointer (some ⟨w.heap.size + 1 + 1, 0, none⟩)]) (xs := wordsL a0.data.toList) rfl (by omega) rfl trivial (enters_of Tryd.func77 (by kernel_rfl) rfl) (all_seq _ (w.heap.size + 1 + 1) a0 hs W0 htxt0) (Below.refl _ W0) (fun k hk => by rw [hk]; omega) (fun _ => rfl)
      (fun pre W => (Boxed W (w.heap.size + 1) 105 (.map (some w.heap.size)) ∧ W.ownsMap Tryd.prog 9 setElem w.heap.size pre.length (setD pre)) ∧ Below w.heap.size w W)
      ?hI1 ?hI2 ⟨⟨hbox0, hmap0⟩, hb0⟩
      (fun x => { tmps := #[.string a0, undef, .slice none 0 0, .pointer (some ⟨w.heap.size + 1, 0, none⟩), encW x, .map (some w.heap.size), .string a0, .func (.func 77) #[] #[.pointer (some ⟨w.heap.size + 1 + 1, 0, none⟩)], encW x, undef, undef, undef, undef], defers := [] }) ?assign ?body ?done
    case hI1 =>
      rintro pre W W' ⟨⟨h1, h2⟩, h3⟩ ht
      exact ⟨⟨Boxed.turn h1 ht not_NcS_cells, ownsMap_turn h2 ht (fun es c h => by have := h.1; omega)⟩, below_turn h3 ht (Nat.le_refl _) (fun k o hk h => by have := h.1; omega)⟩
    case hI2 =>
      rintro pre W W' ⟨⟨h1, h2⟩, h3⟩ ht
      exact ⟨⟨Boxed.turn h1 ht (fun h => absurd (TyS.cells.1 h).2 (by decide)), ownsMap_turn h2 ht (fun es c h => by obtain ⟨_, _, _, _, e, _⟩ := h; cases e)⟩, below_turn h3 ht (Nat.le_refl _) (fun k o hk h => by have := h.1; omega)⟩
    case assign =>
      intro l x W K hK
      gi_wp2
      exact hK
    case body =>
      rintro l pre x W ⟨⟨hbx, hown⟩, hb⟩ hpre
      have hxl : x.length ≤ 1000000 := hwl x (hpre.subset (by simp))
      have hpl : pre.length + 1 ≤ 1000000 := by have := hpre.length_le; simp at this; omega
      have hbc := hbx.cell
      have hkey : keyOf Tryd.prog 9 (encW x) = some (.string x) := Go.WideMaps.keyOf_string_mk (s := ofL x) Tryd.underlying9 (by simp [maxLen]; omega)
      have hval : setElem (.bool true) = some (.lit (.bool true), []) := plainElem_bool Tryd.underlying4 true
      gi_wp2_with (gi_at_mapUpdate; refine wpListIn_mapUpdate_own _ rfl _ _ _ 105 rfl 9 4 Klaw9 Tryd.underlying105 setElem w.heap.size pre.length (setD pre) rfl hown (by unfold maxLen; omega) _ _ _ rfl rfl hkey _ [] hval ?_; intro w1 hown1 hgrow1)
      have hnot : ∀ o : Obj, (∃ es c, o = .map es c) → ¬ (NcS W0.heap.size w.heap.size o ∨ w.heap.size = w.heap.size + 1 + 1 ∨ TyS IterTs W0.heap.size w.heap.size o) := by
        rintro o ⟨es, c, rfl⟩ (h | h | h)
        · have := h.1; omega
        · omega
        · obtain ⟨_, _, _, _, e, _⟩ := h; cases e
      obtain ⟨es, c, hbm, _⟩ := hown
      refine ⟨Keeps.of_grownBy hgrow1 (fun j o e ho => ?_), ⟨hbx.kept hgrow1 (by simp), ?_⟩, hb.grown hgrow1 hb.size (fun j e => by cases e; exact Nat.le_refl _)⟩
      · cases e
        rw [hbm] at ho; cases ho
        exact hnot _ ⟨_, _, rfl⟩
      · rw [show setD (pre ++ [x]) = (setD pre).put (.string x) (.lit (.bool true)) from by simp [setD, setOf_snoc]]
        simpa using hown1
    case done =>
      rintro D W hD ⟨⟨hbx, hown⟩, hb⟩ hK
      subst hxs
      have hbc := hbx.cell
      have hS := sorted_in 5 w.heap.size _ _ W hown (Nat.le_trans (setD_size _) (by omega))
      gi_wp2_with ((first | refine ⟨trivial, hdd _, ?_⟩ | refine ⟨trivial, ?_⟩); gi_at_call 57; refine hS.mono ?_; rintro e w' ⟨v, ss, rfl, ⟨hnd, hmem⟩, hrow, hb2⟩)
      have hDW : D < W.heap.size := (Array.getElem?_eq_some_iff.1 hK).1
      have hK2 := (hb2.block D hDW).trans hK
      refine ⟨by simp, .inl ⟨_, _, rfl, run_takeDeferred hK2, ?_⟩⟩
      have hbw := hb.size
      have hfin := merge_inc hnd leB leB_bl
      have hst : ss.mergeSort leB = sortU (wordsL a0.data.toList) := sortU_eq hfin.1 (fun x => by rw [hfin.2, hmem, setD_has])
      refine ⟨_, results_tmp rfl _ _ _, v, rfl, ?_, (hb.trans (hb2.mono hbw)).trans (belowK_b (w := w) (Nat.le_refl _) w' D _ _ (by omega) hK2 rfl rfl)⟩
      rw [hst] at hrow
      have hl : ss.length = (sortU (wordsL a0.data.toList)).length := by rw [← hst, List.length_mergeSort]
      exact Kd.R_lower (R_of_own (ownsRow_putObj hrow _ hK2 rfl) hl) hbw
  · cases h

end Go.Proofs.YtiffkknhnmpgbaaDoor
