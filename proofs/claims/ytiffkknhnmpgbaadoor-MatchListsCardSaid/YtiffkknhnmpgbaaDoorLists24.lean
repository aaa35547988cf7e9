/- Parts of the proof of Lists: words, contracts and plain laws. -/
import Derived.Maps.OwnOps
import Derived.Test.YtiffkknhnmpgbaaDoorLists23
/- A set of texts that the call has made (map[string]bool): what a look-up, a store, a deletion do to it. -/
namespace Go.Proofs.YtiffkknhnmpgbaaDoor
open Go Go.RowKit Go.Shelf Go.Maps Go.Sort Go.Proofs.YtiffkknhnmpgbaaDoorW.PrintWords
set_option linter.unusedVariables false
set_option linter.unusedSimpArgs false

/-- Block b holds a set, of just these texts. -/
def SetOn (W : World) (b n : Nat) (l : List (List UInt8)) : Prop := ∃ D : DataW Unit, W.ownsMap Tryd.prog 9 setElem b n D ∧ Tidy D ∧ l.Nodup ∧ (∀ x, has D (.string x) = decide (x ∈ l)) ∧
  (∀ x, D.atKey (.string x) (.lit (.bool false)) = .lit (.bool (decide (x ∈ l)))) ∧ Maps.size D = l.length
def addL (l : List (List UInt8)) (x : List UInt8) : List (List UInt8) := if x ∈ l then l else x :: l
theorem mem_addL {l : List (List UInt8)} {x z : List UInt8} : z ∈ addL l x ↔ z = x ∨ z ∈ l := by
  unfold addL
  split
  · rename_i h
    exact ⟨.inr, fun h2 => h2.elim (fun e => e ▸ h) id⟩
  · simp
theorem nodup_addL {l : List (List UInt8)} (h : l.Nodup) (x : List UInt8) : (addL l x).Nodup := by
  unfold addL
  split
  · exact h
  · rename_i hx
    exact List.nodup_cons.2 ⟨hx, h⟩
theorem isKey_str (x : List UInt8) : WideAt.IsKeyLit (Lit.string x) := trivial
theorem SetOn.made (w : World) : SetOn (w.alloc (.map #[] 0)) w.heap.size 0 [] :=
  ⟨.map [], World.ownsMap_made _ _ _ _, tidy_empty, List.nodup_nil, fun _ => by simp [has_eq], fun _ => by simp [DataW.atKey], rfl⟩
theorem str_ne {x y : List UInt8} (h : x ≠ y) : (Lit.string x) ≠ Lit.string y := fun e => h (by injection e)
theorem SetOn.kept {W W' : World} {b n : Nat} {l : List (List UInt8)} (h : SetOn W b n l) (hk : ∀ D : DataW Unit, W.ownsMap Tryd.prog 9 setElem b n D → W'.ownsMap Tryd.prog 9 setElem b n D) : SetOn W' b n l := by
  obtain ⟨D, h1, h2⟩ := h
  exact ⟨D, hk D h1, h2⟩
theorem key_str (s : ByteArray) (h : s.size ≤ 1000000) : keyOf Tryd.prog 9 (.string s) = some (.string s.data.toList) := Go.WideMaps.keyOf_string_mk (s := s) Tryd.underlying9 (by unfold maxLen; omega)
theorem put_facts {D : DataW Unit} {l : List (List UInt8)} (ht : Tidy D) (hn : l.Nodup) (hh : ∀ x, has D (.string x) = decide (x ∈ l)) (ha : ∀ x, D.atKey (.string x) (.lit (.bool false)) = .lit (.bool (decide (x ∈ l)))) (hs : Maps.size D = l.length) (x : List UInt8) :
    Tidy (D.put (.string x) (.lit (.bool true))) ∧ (addL l x).Nodup ∧ (∀ z, has (D.put (.string x) (.lit (.bool true))) (.string z) = decide (z ∈ addL l x)) ∧
    (∀ z, (D.put (.string x) (.lit (.bool true))).atKey (.string z) (.lit (.bool false)) = .lit (.bool (decide (z ∈ addL l x)))) ∧ Maps.size (D.put (.string x) (.lit (.bool true))) = (addL l x).length := by
  refine ⟨ht.put (isKey_str x) _, nodup_addL hn x, fun z => ?_, fun z => ?_, ?_⟩
  · by_cases hz : z = x
    · subst hz
      rw [has_put_same ht.isMap (isKey_str z)]
      exact (decide_eq_true (mem_addL.2 (.inl rfl))).symm
    · rw [has_put_other (str_ne hz), hh]
      simp only [mem_addL, hz, false_or]
  · by_cases hz : z = x
    · subst hz
      rw [atKey_put_same ht.isMap (isKey_str z), decide_eq_true (mem_addL.2 (.inl rfl))]
    · rw [atKey_put_other (str_ne hz), ha]
      simp only [mem_addL, hz, false_or]
  · rw [size_put ht, hh, hs]
    unfold addL
    by_cases hx : x ∈ l
    · rw [if_pos hx, if_pos (decide_eq_true hx)]
    · rw [if_neg hx, if_neg (by simp [hx])]; rfl
theorem del_facts {D : DataW Unit} {l : List (List UInt8)} (ht : Tidy D) (hn : l.Nodup) (hh : ∀ x, has D (.string x) = decide (x ∈ l)) (ha : ∀ x, D.atKey (.string x) (.lit (.bool false)) = .lit (.bool (decide (x ∈ l)))) (hs : Maps.size D = l.length) (x : List UInt8) :
    Tidy (D.del (.string x)) ∧ (l.erase x).Nodup ∧ (∀ z, has (D.del (.string x)) (.string z) = decide (z ∈ l.erase x)) ∧
    (∀ z, (D.del (.string x)).atKey (.string z) (.lit (.bool false)) = .lit (.bool (decide (z ∈ l.erase x)))) ∧ Maps.size (D.del (.string x)) = (l.erase x).length := by
  have hm : ∀ z, z ∈ l.erase x ↔ z ≠ x ∧ z ∈ l := fun z => hn.mem_erase_iff
  refine ⟨ht.del _, hn.erase x, fun z => ?_, fun z => ?_, ?_⟩
  · by_cases hz : z = x
    · subst hz
      rw [has_del_same]
      exact (decide_eq_false (fun h => ((hm z).1 h).1 rfl)).symm
    · rw [has_del_other (str_ne hz), hh]
      simp only [hm, hz, ne_eq, not_false_eq_true, true_and]
  · by_cases hz : z = x
    · subst hz
      rw [atKey_del_same, decide_eq_false (fun h => ((hm z).1 h).1 rfl)]
    · rw [atKey_del_other (str_ne hz), ha]
      simp only [hm, hz, ne_eq, not_false_eq_true, true_and]
  · have h1 := size_del ht (k := .string x)
    rw [hh, hs] at h1
    rw [List.length_erase]
    by_cases hx : x ∈ l
    · rw [if_pos (decide_eq_true hx)] at h1
      rw [if_pos hx]; omega
    · rw [if_neg (by simp [hx])] at h1
      rw [if_neg hx]; omega
theorem elem_bool_inv {P : Program} {e : TypeId} (he : P.underlying e = some .bool) {v : Value} {x : Bool} {ps : List MemPlace} (h : plainElem (H := Unit) P e v = some (.lit (.bool x), ps)) : v = .bool x := by
  unfold plainElem at h
  rw [he] at h
  cases v <;> simp at h
  rw [h.1]
theorem plainElem_bool_inv {v : Value} {x : Bool} {ps : List MemPlace} (h : setElem v = some (.lit (.bool x), ps)) : v = .bool x := elem_bool_inv Tryd.underlying4 h
section
variable {ops : Array Oper} {rest : List Oper} {o : Oper} {a : Act} {Q : Exit → Act → World → Prop} {w : World}
theorem SetOn.look {b n : Nat} {l : List (List UInt8)} (h : SetOn w b n l) (s : ByteArray) (hs : s.size ≤ 1000000) (t : TypeId) (ht : Tryd.prog.underlying t = some (.map 9 4)) :
    (Instr.lookup t (.map (some b)) (.string s) false).run Tryd.prog w = .ok (.bool (decide (s.data.toList ∈ l))) w := by
  obtain ⟨D, hown, _, _, _, ha, _⟩ := h
  obtain ⟨v, ps, hrun, hv⟩ := hown.lookup (z := .bool false) (zd := .lit (.bool false)) (zp := []) Klaw9 ht (by kernel_rfl) (plainElem_bool Tryd.underlying4 false) (key_str s hs)
  rw [ha] at hv
  rw [plainElem_bool_inv hv] at hrun
  exact hrun
theorem SetOn.len {b n : Nat} {l : List (List UInt8)} (h : SetOn w b n l) (t : TypeId) (ht : Tryd.prog.underlying t = some (.map 9 4)) (ty : TypeId) :
    (Builtin.len_ #[t] ty #[.map (some b)]).run Tryd.prog w = .ok (.int .i64 l.length) w := by
  obtain ⟨D, hown, _, _, _, _, h5⟩ := h
  rw [← h5]
  exact hown.len ht ty
theorem SetOn.lt {b n : Nat} {l : List (List UInt8)} (h : SetOn w b n l) : b < w.heap.size := by
  obtain ⟨D, hown, _⟩ := h
  exact hown.lt
theorem set_lookup (hg : o.guard = none) (m x : Operand) (t : TypeId) (hop : o.op = Op.lookup t m x false) (ht : Tryd.prog.underlying t = some (.map 9 4)) {b n : Nat} {l : List (List UInt8)}
    (hm : a.eval m = .map (some b)) (h : SetOn w b n l) (s : ByteArray) (hs : s.size ≤ 1000000) (hx : a.eval x = .string s) (bv : Bool) (hb : decide (s.data.toList ∈ l) = bv)
    (hK : wpList Tryd.prog ops Q rest (a.put o.dst (.bool bv)) w) : wpList Tryd.prog ops Q (o :: rest) a w := by
  refine wpList_plain hg fun K' hK' => ?_
  have hrun := h.look s hs t ht
  rw [hb] at hrun
  unfold Oper.wp
  simp [execOp, hop, hm, hx, hrun, Result.andThen]
  exact hK' _ _ hK
theorem set_add (hg : o.guard = none) (hd : o.dst = none) (m x v : Operand) (t : TypeId) (hop : o.op = Op.mapUpdate t m x v) (ht : Tryd.prog.underlying t = some (.map 9 4)) {b n : Nat} {l : List (List UInt8)} (hn : n ≤ 1000000)
    (hm : a.eval m = .map (some b)) (h : SetOn w b n l) (s : ByteArray) (hs : s.size ≤ 1000000) (hx : a.eval x = .string s) (hv : a.eval v = .bool true)
    (hK : ∀ w', SetOn w' b (n + 1) (addL l s.data.toList) → w.grownBy w' (some b) → wpList Tryd.prog ops Q rest a w') : wpList Tryd.prog ops Q (o :: rest) a w := by
  obtain ⟨D, hown, h1, h2, h3, h4, h5⟩ := h
  obtain ⟨g1, g2, g3, g4, g5⟩ := put_facts h1 h2 h3 h4 h5 s.data.toList
  refine wpList_mapUpdate_own _ hg _ _ _ t hop 9 4 Klaw9 ht setElem b n D hm hown (by unfold maxLen; omega) _ _ _ hx hv (key_str s hs) _ [] (plainElem_bool Tryd.underlying4 true) ?_
  intro w' hown' hgr
  have := hK w' ⟨_, hown', g1, g2, g3, g4, g5⟩ hgr
  rw [hd]
  exact this
theorem set_del (hg : o.guard = none) (hd : o.dst = none) (m x : Operand) (t : TypeId) (hop : o.op = Op.call { callee := Callee.builtin Builtin.delete, args := #[m, x], argTypes := #[t, 9] }) (ht : Tryd.prog.underlying t = some (.map 9 4)) {b n : Nat} {l : List (List UInt8)}
    (hm : a.eval m = .map (some b)) (h : SetOn w b n l) (s : ByteArray) (hs : s.size ≤ 1000000) (hx : a.eval x = .string s)
    (hK : ∀ w', SetOn w' b n (l.erase s.data.toList) → w.grownBy w' (some b) → wpList Tryd.prog ops Q rest a w') : wpList Tryd.prog ops Q (o :: rest) a w := by
  obtain ⟨D, hown, h1, h2, h3, h4, h5⟩ := h
  obtain ⟨g1, g2, g3, g4, g5⟩ := del_facts h1 h2 h3 h4 h5 s.data.toList
  refine wpList_delete_own _ hg _ _ t 9 hop 4 Klaw9 ht setElem b n D hm hown _ _ hx (key_str s hs) ?_
  intro w' hown' hgr
  have := hK w' ⟨_, hown', g1, g2, g3, g4, g5⟩ hgr.grown
  rw [hd]
  exact this
end
end Go.Proofs.YtiffkknhnmpgbaaDoor
