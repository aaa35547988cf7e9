/- Parts of the proof of Lists: words, contracts and plain laws. -/
import Derived.Maps.OwnOps
import Derived.Maps.OwnSet
import Derived.Maps.RangeWalk
import Derived.Maps.Views
import Derived.OwnWalk
import Derived.Sort.KeysCollected
import Derived.Test.YtiffkknhnmpgbaaDoorLists7
/- The map of the weights (map[[2]int]int): what a look-up and a store do to it. -/
namespace Go.Proofs.YtiffkknhnmpgbaaDoor
open Go Go.RowKit Go.Maps Go.Sort
set_option linter.unusedVariables false
set_option linter.unusedSimpArgs false
noncomputable abbrev wElem : Value → Option (DataW Unit × List MemPlace) := plainElem (H := Unit) Tryd.prog 3
/-- Block b holds a map of just these pairs, each with its weight. -/
def WOn (W : World) (b n : Nat) (ks : List (Int × Int)) (wt : Int × Int → Int) : Prop := ∃ D : DataW Unit, W.ownsMap Tryd.prog 57 wElem b n D ∧ Tidy D ∧ ks.Nodup ∧ (∀ p ∈ ks, wfp p) ∧
  (∀ p, wfp p → has D (pk p) = decide (p ∈ ks)) ∧ (∀ p ∈ ks, ∀ z, D.atKey (pk p) z = .lit (.int .i64 (wt p))) ∧ Maps.size D = ks.length ∧ ∀ kl, has D kl = true → ∃ p ∈ ks, kl = pk p
theorem isKey_pk (p : Int × Int) : WideAt.IsKeyLit (pk p) := trivial
theorem WOn.made (w : World) (wt : Int × Int → Int) : WOn (w.alloc (.map #[] 0)) w.heap.size 0 [] wt :=
  ⟨.map [], World.ownsMap_made _ _ _ _, tidy_empty, List.nodup_nil, (fun _ h => (by cases h)), (fun _ _ => (by simp [has_eq])), (fun _ h => (by cases h)), rfl, (fun kl h => (by simp [has_eq] at h))⟩
theorem WOn.kept {W W' : World} {b n : Nat} {ks : List (Int × Int)} {wt : Int × Int → Int} (h : WOn W b n ks wt) (hk : ∀ D : DataW Unit, W.ownsMap Tryd.prog 57 wElem b n D → W'.ownsMap Tryd.prog 57 wElem b n D) : WOn W' b n ks wt := by
  obtain ⟨D, h1, h2⟩ := h
  exact ⟨D, hk D h1, h2⟩
theorem put_pk {D : DataW Unit} {ks : List (Int × Int)} {wt : Int × Int → Int} (ht : Tidy D) (hn : ks.Nodup) (hw : ∀ p ∈ ks, wfp p) (hh : ∀ p, wfp p → has D (pk p) = decide (p ∈ ks)) (ha : ∀ p ∈ ks, ∀ z, D.atKey (pk p) z = .lit (.int .i64 (wt p))) (hs : Maps.size D = ks.length)
    (hb : ∀ kl, has D kl = true → ∃ p ∈ ks, kl = pk p) (x : Int × Int) (hx : wfp x) (hxn : x ∉ ks) :
    Tidy (D.put (pk x) (.lit (.int .i64 (wt x)))) ∧ (ks ++ [x]).Nodup ∧ (∀ p ∈ ks ++ [x], wfp p) ∧ (∀ p, wfp p → has (D.put (pk x) (.lit (.int .i64 (wt x)))) (pk p) = decide (p ∈ ks ++ [x])) ∧
    (∀ p ∈ ks ++ [x], ∀ z, (D.put (pk x) (.lit (.int .i64 (wt x)))).atKey (pk p) z = .lit (.int .i64 (wt p))) ∧ Maps.size (D.put (pk x) (.lit (.int .i64 (wt x)))) = (ks ++ [x]).length ∧ ∀ kl, has (D.put (pk x) (.lit (.int .i64 (wt x)))) kl = true → ∃ p ∈ ks ++ [x], kl = pk p := by
  refine ⟨ht.put (isKey_pk x) _, ?_, ?_, fun p hp => ?_, fun p hp z => ?_, ?_, fun kl hkl => ?_⟩
  · rw [List.nodup_append]
    exact ⟨hn, by simp, fun a ha b hb e => by simp at hb; subst hb; subst e; exact hxn ha⟩
  · intro p hp
    rcases List.mem_append.1 hp with h | h
    · exact hw p h
    · simp at h; subst h; exact hx
  · by_cases e : p = x
    · subst e
      rw [has_put_same ht.isMap (isKey_pk p)]
      simp
    · rw [has_put_other (fun h => e (pk_inj hp hx h)), hh p hp]
      simp [e]
  · by_cases e : p = x
    · subst e
      rw [atKey_put_same ht.isMap (isKey_pk p)]
    · have hp' : p ∈ ks := by
        rcases List.mem_append.1 hp with h | h
        · exact h
        · simp at h; exact absurd h e
      rw [atKey_put_other (fun h => e (pk_inj (hw p hp') hx h)), ha p hp']
  · rw [size_put ht, hh x hx, hs]
    simp [hxn]
  · by_cases e : kl = pk x
    · exact ⟨x, by simp, e⟩
    · rw [has_put_other e] at hkl
      obtain ⟨p, hp, h⟩ := hb kl hkl
      exact ⟨p, by simp [hp], h⟩
section
variable {ops : Array Oper} {rest : List Oper} {o : Oper} {a : Act} {Q : Exit → Act → World → Prop} {w : World}
theorem WOn.lt {b n : Nat} {ks : List (Int × Int)} {wt : Int × Int → Int} (h : WOn w b n ks wt) : b < w.heap.size := by
  obtain ⟨D, hown, _⟩ := h
  exact hown.lt
theorem w_lookup (hg : o.guard = none) (m x : Operand) (t : TypeId) (hop : o.op = Op.lookup t m x true) (ht : Tryd.prog.underlying t = some (.map 57 3)) (hz : (zeroValue 3).run Tryd.prog w = .ok (.int .i64 0) w) {b n : Nat} {ks : List (Int × Int)} {wt : Int × Int → Int}
    (hm : a.eval m = .map (some b)) (h : WOn w b n ks wt) (p : Int × Int) (hp : wfp p) (hx : a.eval x = pairV p)
    (hK : ∀ c : Int, wpList Tryd.prog ops Q rest (a.put o.dst (.tuple #[.int .i64 c, .bool (decide (p ∈ ks))])) w) : wpList Tryd.prog ops Q (o :: rest) a w := by
  obtain ⟨D, hown, h1, h2, h3, h4, h5⟩ := h
  refine wpList_lookup_own_ok_int w hg m x t hop 57 3 .i64 KlawP ht Tryd.underlying3 hz b n D hm hown (pairV p) (pk p) hx (key_pair hp) ?_
  intro c _ _
  rw [h4 p hp]
  exact hK c
theorem w_store (hg : o.guard = none) (hd : o.dst = none) (m x v : Operand) (t : TypeId) (hop : o.op = Op.mapUpdate t m x v) (ht : Tryd.prog.underlying t = some (.map 57 3)) {b n : Nat} {ks : List (Int × Int)} {wt : Int × Int → Int} (hn : n ≤ 1000000)
    (hm : a.eval m = .map (some b)) (h : WOn w b n ks wt) (p : Int × Int) (hp : wfp p) (hpn : p ∉ ks) (hx : a.eval x = pairV p) (hv : a.eval v = .int .i64 (wt p)) (hw : (Lit.int .i64 (wt p)).wf = true)
    (hK : ∀ w', WOn w' b (n + 1) (ks ++ [p]) wt → w.grownBy w' (some b) → wpList Tryd.prog ops Q rest a w') : wpList Tryd.prog ops Q (o :: rest) a w := by
  obtain ⟨D, hown, h1, h2, h3, h4, h5, h6, h7⟩ := h
  refine wpList_mapUpdate_own _ hg _ _ _ t hop 57 3 KlawP ht wElem b n D hm hown (by unfold maxLen; omega) _ _ _ hx hv (key_pair hp) _ [] (plainElem_int Tryd.underlying3 hw) ?_
  intro w' hown' hgr
  have := hK w' ⟨_, hown', put_pk h1 h2 h3 h4 h5 h6 h7 p hp hpn⟩ hgr
  rw [hd]
  exact this
end
end Go.Proofs.YtiffkknhnmpgbaaDoor
