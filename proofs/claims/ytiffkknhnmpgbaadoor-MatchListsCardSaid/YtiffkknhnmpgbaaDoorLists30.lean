/- Parts of the proof of Lists: words, contracts and plain laws. -/
import Derived.Test.YtiffkknhnmpgbaaDoorLists5
import Derived.Test.YtiffkknhnmpgbaaDoorLists6
import Derived.Test.YtiffkknhnmpgbaaDoorLists29
/- slices.SortFunc at the edges of match.Edges: a row of its own, sorted by the two ends. -/
namespace Go.Proofs.YtiffkknhnmpgbaaDoor
open Go Go.RowKit Go.Sort
set_option linter.unusedVariables false
set_option linter.unusedSimpArgs false
def encE (wt : Int × Int → Int) (p : Int × Int) : List Value := [.int .i64 p.1, .int .i64 p.2, .int .i64 (wt p)]
theorem ltP (p q : Int × Int) : ltOf cmpP p q = decide (p.1 < q.1 ∨ p.1 = q.1 ∧ p.2 < q.2) := by
  unfold ltOf cmpP cmpI
  rcases Int.lt_trichotomy p.1 q.1 with h | h | h
  · simp [h]
  · rcases Int.lt_trichotomy p.2 q.2 with g | g | g
    · simp [h, g]
    · simp [h, g]
    · have g1 : ¬ p.2 < q.2 := by omega
      simp [h, g, g1]
  · have h1 : ¬ p.1 < q.1 := by omega
    have h2 : ¬ p.1 = q.1 := by omega
    simp [h, h1, h2]
theorem swoP : SWO (ltOf cmpP) where
  irrefl x := by rw [ltP]; simp
  trans x y z h1 h2 := by rw [ltP] at *; simp at *; omega
  ntrans x y z h1 h2 := by rw [ltP] at *; simp at *; omega
theorem totP (x y : Int × Int) (h1 : ltOf cmpP x y = false) (h2 : ltOf cmpP y x = false) : x = y := by
  rw [ltP] at h1 h2
  simp at h1 h2
  have e1 : x.1 = y.1 := by omega
  have e2 : x.2 = y.2 := by omega
  exact Prod.ext e1 e2
theorem sort_calls (wt : Int × Int → Int) {w : World} {base : Nat} {v : Value} {n : Nat} {ds : List (Int × Int)} (hown : w.ownsRow base 60 3 v n (ds.flatMap (encE wt))) (hn : ds.length = n) (hsz : n < 4611686018427387904) :
    Calls Tryd.prog 27 #[v, .func (.func 28) #[] #[]] w fun ex w' => ex = .returned (.tuple #[]) ∧ w'.ownsRow base 60 3 v n ((ds.mergeSort fun x y => !(ltOf cmpP) y x).flatMap (encE wt)) ∧ w.grownBy w' v.ownBlock := by
  have eg : ∀ args w, (callFunc 28 args).run Tryd.prog w = .ok (.enter 28 args) w := enters_of Tryd.func28 (by kernel_rfl) rfl
  exact sortOwn Tryd.sortEdge 3 Tryd.isAgg60 Tryd.sizeOf60 (encE wt) (fun _ => rfl) (fun x u hu => by simp [encE] at hu; rcases hu with rfl | rfl | rfl <;> rfl) cmpP swoP totP 28 #[] eg (fun blk size W m os dk hdk x y => edge_cmp x.1 x.2 (wt x) y.1 y.2 (wt y) _) hown hn hsz
/-- What the sort leaves is increasing and has the same members. -/
theorem sorted_pairs (ds : List (Int × Int)) (hnd : ds.Nodup) : (ds.mergeSort fun x y => !(ltOf cmpP) y x).Pairwise (fun p q => p.1 < q.1 ∨ p.1 = q.1 ∧ p.2 < q.2) ∧ ∀ p, p ∈ (ds.mergeSort fun x y => !(ltOf cmpP) y x) ↔ p ∈ ds := by
  have hp := List.mergeSort_perm ds (fun x y => !(ltOf cmpP) y x)
  have hs : (ds.mergeSort fun x y => !(ltOf cmpP) y x).Pairwise (fun x y => (!(ltOf cmpP) y x) = true) := List.pairwise_mergeSort (fun a b c h1 h2 => by
    simp only [ltP, Bool.not_eq_true', decide_eq_false_iff_not] at *
    omega) (fun a b => by
    simp only [ltP, Bool.or_eq_true, Bool.not_eq_true', decide_eq_false_iff_not]
    omega) ds
  have hnd2 : (ds.mergeSort fun x y => !(ltOf cmpP) y x).Nodup := hp.nodup_iff.2 hnd
  refine ⟨?_, fun p => hp.mem_iff⟩
  refine (List.Pairwise.and hs hnd2).imp ?_
  rintro a b ⟨h1, h2⟩
  simp only [ltP, Bool.not_eq_true', decide_eq_false_iff_not] at h1
  have h3 : ¬ (a.1 = b.1 ∧ a.2 = b.2) := fun h => h2 (Prod.ext h.1 h.2)
  omega
end Go.Proofs.YtiffkknhnmpgbaaDoor
