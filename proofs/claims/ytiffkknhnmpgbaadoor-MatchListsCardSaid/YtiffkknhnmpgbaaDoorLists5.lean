/- Parts of the proof of Lists: words, contracts and plain laws. -/
import Derived.Shelf.SlSortCmp.NoneTotal
import Derived.Sort.OwnSorted
/- A slice of its own whose elements have k cells, sorted by slices.SortFunc: the row behind it. No program in sight. -/
namespace Go.Proofs.YtiffkknhnmpgbaaDoor
open Go Go.RowKit Go.Sort
set_option linter.unusedVariables false
set_option linter.unusedSimpArgs false
section
variable {α : Type} [Inhabited α] {enc : α → List Value} {k : Nat}
theorem flat_get (hk : ∀ x, (enc x).length = k) : ∀ (ds : List α) (t : Nat), (ds.flatMap enc)[t]? = if t < ds.length * k then some ((enc (ds.toArray[t / k]!))[t % k]!) else none
  | [], t => by simp
  | x :: ds, t => by
    rw [List.flatMap_cons, List.getElem?_append, hk]
    by_cases h : t < k
    · rw [if_pos h, if_pos (by rw [List.length_cons, Nat.add_mul]; omega), Nat.div_eq_of_lt h, Nat.mod_eq_of_lt h]
      rw [List.getElem?_eq_getElem (by rw [hk]; exact h)]
      simp [h, hk]
    · rw [if_neg h, flat_get hk ds (t - k)]
      have hk0 : k = 0 ∨ 0 < k := Nat.eq_zero_or_pos k
      rcases hk0 with rfl | hk0
      · simp
      · have e1 : t / k = (t - k) / k + 1 := by
          rw [Nat.div_eq_sub_div hk0 (by omega)]
        have e2 : t % k = (t - k) % k := by rw [Nat.mod_eq_sub_mod (by omega)]
        have e3 : (t - k < ds.length * k) ↔ (t < (x :: ds).length * k) := by rw [List.length_cons, Nat.add_mul]; omega
        rw [e1, e2]
        by_cases h2 : t - k < ds.length * k
        · rw [if_pos h2, if_pos (e3.1 h2)]
          simp
        · rw [if_neg h2, if_neg (fun h3 => h2 (e3.2 h3))]
theorem flat_list (hk : ∀ x, (enc x).length = k) (ds : List α) : (flatK enc k ds.toArray).toList = ds.flatMap enc := by
  apply List.ext_getElem?
  intro t
  rw [flat_get hk ds t]
  by_cases h : t < ds.length * k
  · rw [if_pos h, Array.getElem?_toList]
    have h1 := get_flatK enc k ds.toArray t (by simpa using h)
    rw [getElem!_pos _ t (by simpa using h)] at h1
    rw [Array.getElem?_eq_getElem (by simpa using h), h1]
  · rw [if_neg h, Array.getElem?_toList, Array.getElem?_eq_none (by simpa using h)]
theorem holdsK_of_block {w : World} {g : Nat} {cur : Array Value} {e : TypeId} {ds : List α} (hk : ∀ x, (enc x).length = k) (hb : w.heap[g]? = some (.cells cur e (0, 0))) (ht : cur.toList.take (ds.length * k) = ds.flatMap enc) : HoldsK enc k w g 0 ds.toArray := by
  intro j hj
  have hj' : j < ds.length * k := by simpa using hj
  refine ⟨?_, by simp [World.frozen?, hb]⟩
  have h1 : (cur.toList.take (ds.length * k))[j]? = (ds.flatMap enc)[j]? := by rw [ht]
  rw [List.getElem?_take_of_lt hj', ← flat_list hk, Array.getElem?_toList, Array.getElem?_toList, Array.getElem?_eq_getElem hj] at h1
  simp only [World.cell?, hb, Nat.zero_add]
  simp only [Option.isSome_none, Bool.false_eq_true, if_false]
  rw [h1, getElem!_pos _ j hj]
  rfl
theorem heap_sortedK {w : World} {g n : Nat} {os : Array Obj} {cur : Array Value} {e : TypeId} {fr : Nat × Nat} (d : Array α) (hb : w.heap[g]? = some (.cells cur e fr)) :
    (sortWorldK enc k w g 0 n d os).heap[g]? = some (.cells (putCells id 0 (flatK enc k d) cur) e fr) := by
  have hg : g < w.heap.size := (Array.getElem?_eq_some_iff.1 hb).1
  unfold sortWorldK putRowK
  rw [heap_grow_old _ _ (by simpa [putRow, mapBlock, Sort.ahead] using hg)]
  simp [putRow, mapBlock, Sort.ahead, Array.getElem?_modify, hb, onCells]
theorem grownBy_sortedK {w : World} {g n : Nat} {os : Array Obj} (d : Array α) : w.grownBy (sortWorldK enc k w g 0 n d os) (some g) := by
  unfold sortWorldK putRowK
  refine ⟨rfl, rfl, rfl, by simp [grow, putRow, mapBlock, Sort.ahead], fun j hj hne => ?_⟩
  rw [heap_grow_old _ _ (by simpa [putRow, mapBlock, Sort.ahead] using hj)]
  have : g ≠ j := fun e => hne (by rw [e])
  simp [putRow, mapBlock, Sort.ahead, Array.getElem?_modify, this]
theorem take_putCellsK (cur : Array Value) (F : Array Value) (h : F.size ≤ cur.size) : (putCells id 0 F cur).toList.take F.size = F.toList := by
  apply List.ext_getElem?
  intro j
  by_cases hj : j < F.size
  · rw [List.getElem?_take_of_lt hj, Array.getElem?_toList, Array.getElem?_toList]
    simp [putCells, hj, show j < cur.size by omega]
  · rw [List.getElem?_take_eq_none (by omega), Array.getElem?_toList, Array.getElem?_eq_none (by omega)]
/-- Behind the sort the same slice owns the sorted list. -/
theorem ownsRow_sortedK {w : World} {base g cap n : Nat} {e : TypeId} {os : Array Obj} {cur : Array Value} {ts : List α} {m : Nat} (hk : ∀ x, (enc x).length = k) (hl : ts.length = m) (hbase : base ≤ g) (hb : w.heap[g]? = some (.cells cur e (0, 0)))
    (h1 : m ≤ cap) (h2 : cap ≤ maxLen) (h3 : cur.size = cap * k) :
    (sortWorldK enc k w g 0 n ts.toArray os).ownsRow base e k (.slice (some ⟨g, 0, none⟩) m cap) m (ts.flatMap enc) := by
  subst hl
  have hle : ts.length * k ≤ cap * k := Nat.mul_le_mul_right k h1
  refine ⟨by rw [← flat_list hk]; simp, .inr ⟨g, cap, _, rfl, hbase, heap_sortedK _ hb, h1, h2, by simp [putCells, h3], ?_⟩⟩
  have h4 := take_putCellsK cur (flatK enc k ts.toArray) (by rw [size_flatK, h3]; simpa using hle)
  rw [size_flatK, flat_list hk] at h4
  simpa using h4
end
/-- slices.SortFunc at a slice of its own, whose closure parts whatever two elements that are not one: behind it the slice owns the sorted list. -/
theorem sortOwn {P : Program} {ρ : Go.Shelf.Ren} {α : Type} [Inhabited α] (L : SlLaysF0.n6 P ρ) (k : Nat) (aE : ∀ w, (isAgg (ρ.t 24)).run P w = .ok true w) (zE : ∀ w, (Go.sizeOf (ρ.t 24)).run P w = .ok k w) (enc : α → List Value) (hk : ∀ x, (enc x).length = k) (h1 : ∀ x, ∀ v ∈ enc x, v.oneCell' = true)
    (cf : α → α → Int) (hO : SWO (ltOf cf)) (hT : ∀ x y, (ltOf cf) x y = false → (ltOf cf) y x = false → x = y) (g : Nat) (cb : Array Value) (eg : ∀ args w, (callFunc g args).run P w = .ok (.enter g args) w)
    (hcmp : ∀ blk size w, CmpLays P g cb enc k cf blk 0 size w) {w : World} {base : Nat} {e : TypeId} {v : Value} {n : Nat} {ds : List α} (hown : w.ownsRow base e k v n (ds.flatMap enc)) (hn : ds.length = n) (hsz : n < 4611686018427387904) :
    Calls P (ρ.f 6) #[v, .func (.func g) #[] cb] w fun ex w' => ex = .returned (.tuple #[]) ∧ w'.ownsRow base e k v n ((ds.mergeSort fun x y => !(ltOf cf) y x).flatMap enc) ∧ w.grownBy w' v.ownBlock := by
  subst hn
  rcases hown.2 with ⟨rfl, h0⟩ | ⟨gb, cap, cur, rfl, hbase, hb, hcap, hmax, hcs, htk⟩
  · obtain rfl : ds = [] := List.eq_nil_of_length_eq_zero h0
    refine (AnyF.slices_SortFunc_none L none 0 _ w).mono ?_
    rintro ex w' ⟨rfl, rfl⟩
    exact ⟨rfl, by simpa using hown, ⟨rfl, rfl, rfl, Nat.le_refl _, fun _ _ _ => rfl⟩⟩
  · have hH : HoldsK enc k w gb 0 ds.toArray := holdsK_of_block hk hb htk
    have hcon := AnyQ.slices_SortFunc_total L k aE zE enc hk h1 cf hO g cb gb 0 cap ds.toArray w eg (hcmp gb _ w) hH (Array.getElem?_eq_some_iff.1 hb).1 (by simpa using hsz) hT
    refine hcon.mono ?_
    rintro ex w' ⟨rfl, m, os, rfl⟩
    refine ⟨rfl, ?_, grownBy_sortedK _⟩
    exact ownsRow_sortedK hk (by simp) hbase hb hcap hmax hcs
end Go.Proofs.YtiffkknhnmpgbaaDoor
