/- Parts of the proof of Lists: words, contracts and plain laws. -/
import Derived.Test.YtiffkknhnmpgbaaDoorLists9
import Derived.Test.YtiffkknhnmpgbaaDoorLists21
/- words.Fold: for every text of at most 1000000 bytes, the words of the text with one blank between them; in the form of the printed contracts. -/
namespace Go.Proofs.YtiffkknhnmpgbaaDoor
open Go Go.RowKit Go.Shelf Go.Proofs.YtiffkknhnmpgbaaDoorW.PrintWords
attribute [local go_sem] Oper.semAt_some
set_option linter.unusedVariables false
set_option linter.unusedSimpArgs false
set_option maxRecDepth 100000

theorem collect_in (n gf : Nat) (hn : 4 ≤ n) (lb : Array Value) (eg : ∀ args w, (callFunc gf args).run Tryd.prog w = .ok (.enter gf args) w) (Kb : Nat → Prop) (xs : List (List UInt8)) (w : World) (hKb : ∀ k, Kb k → k < w.heap.size)
    (hlen : xs.length ≤ 1000000) (hseq : ∀ m, SeqT Fence.wide m Tryd.prog gf lb (fun x : List UInt8 => #[encW x]) IterTs Kb xs w) :
    CallsIn Fence.wide n Tryd.prog 55 #[.func (.func gf) #[] lb] w fun e w' => ∃ v, e = .returned v ∧ w'.ownsRow w.heap.size 9 1 v xs.length (xs.map encW) ∧ Below w.heap.size w w' := by
  have hdd : ∀ k : Nat, (Fence.wide.depth.isSome = true → 1 ≤ k) := fun k h => by cases h
  refine callsIn_of_wp Tryd.func55 rfl trivial ?_ rfl
  simp only [Tryd.ntmps55, List.size_toArray, List.length_cons, List.length_nil, Nat.reduceAdd, Nat.reduceSub, Array.replicate_succ, Array.replicate_zero, List.push_toArray, List.append_toArray, List.nil_append, List.cons_append]
  gi_wp2_with (refine ⟨trivial, hdd _, ?_⟩; gi_at_call 76; refine (appendSeq_in (n - 1) gf (by omega) lb eg Kb xs w hKb hlen hseq).mono ?_; rintro e w' ⟨v, rfl, hrow, hb⟩)
  go_ret
  exact ⟨v, rfl, hrow, hb⟩

theorem joinB_lib (xs : List (List UInt8)) : Lib.join xs [32] = joinB xs := by
  induction xs with
  | nil => rfl
  | cons x r ih =>
    cases r with
    | nil => simp [joinB, Lib.join]
    | cons y r => simp [joinB, Lib.join] at ih ⊢; rw [← ih]

theorem join_own (xs : List (List UInt8)) (v : Value) (w : World) (base : Nat) (hrow : w.ownsRow base 9 1 v xs.length (xs.map encW)) (hxl : xs.length ≤ 1000000) (hjl : (joinB xs).length ≤ 1000000) :
    Calls Tryd.prog 54 #[v, .string ⟨#[32]⟩] w fun e w' => e = .returned (.string (ofL (joinB xs))) ∧ Below w.heap.size w w' := by
  have hmap : (xs.map ofL).map (fun x => x.data.toList) = xs := by rw [List.map_map]; exact List.map_id xs
  have hcells := hrow
  rcases hrow.2 with ⟨rfl, h0⟩ | ⟨g, cap, cur, rfl, hb, hg, hn, _⟩
  · obtain rfl : xs = [] := List.eq_nil_of_length_eq_zero h0
    exact (Tryd.strings_Join_none none 0 ⟨#[32]⟩ w).mono fun e w' ⟨he, hw⟩ => ⟨he, hw ▸ Below.refl _ _⟩
  · have hj := Tryd.strings_Join g 0 cap (xs.map ofL) ⟨#[32]⟩ w (fun j x hx => by
        have hc := hcells.cells (g := g) rfl j (.string x) (by
          rw [List.getElem?_map] at hx ⊢
          cases hxs : xs[j]? with
          | none => rw [hxs] at hx; cases hx
          | some y => rw [hxs] at hx; simp at hx; simp [hx])
        by_cases hj0 : j = 0 <;> simpa [Addr.add, hj0] using hc) (Array.getElem?_eq_some_iff.1 hg).1 (by simp; omega) (by simpa using hn) (by
        rw [hmap]
        have : (Lib.join xs [32]).length ≤ 1000000 := by rw [joinB_lib]; exact hjl
        exact Nat.le_trans this (by omega))
    rw [hmap, List.length_map] at hj
    refine hj.mono fun e w' ⟨he, hw⟩ => ⟨?_, hw⟩
    rw [he]
    have : Lib.join xs [32] = joinB xs := joinB_lib xs
    exact congrArg (fun z => Ending.returned (.string (ofL z))) this

def words_Fold.f (a0 : ByteArray) : Option ByteArray := if a0.size ≤ 1000000 then some (ofL (foldL a0.data.toList)) else none

theorem words_Fold.calls (a0 : ByteArray) (r : ByteArray) (w : World) (h : words_Fold.f a0 = some r) :
    Calls Tryd.prog 37 #[.string a0] w fun e w' => e = .returned (.string r) ∧ Below w.heap.size w w' := by
  have hdd : ∀ k : Nat, (Fence.wide.depth.isSome = true → 1 ≤ k) := fun k h => by cases h
  unfold words_Fold.f at h
  split at h
  · rename_i hs
    obtain rfl := Option.some.inj h
    clear h
    have hsz := hs
    have hlen := words_len a0.data.toList
    have hfl := foldL_len a0.data.toList
    have hll : a0.data.toList.length = a0.size := Array.length_toList
    rw [hll] at hlen hfl
    have HC := collect_in 5 77 (by omega) #[.pointer (some ⟨w.heap.size, 0, none⟩)] (enters_of Tryd.func77 (by kernel_rfl) rfl) (fun k => k = w.heap.size) (wordsL a0.data.toList) (w.alloc (.cells #[.string a0] 9))
      (fun k hk => by rw [hk]; simp) (by omega) (fun m => all_seq m w.heap.size a0 hs _ (Boxed.new w 9 _))
    obtain ⟨xs, hxs⟩ : ∃ xs, wordsL a0.data.toList = xs := ⟨_, rfl⟩
    have hjl : (joinB xs).length ≤ 1000000 := by rw [← hxs]; exact Nat.le_trans hfl (by omega)
    have hxl : xs.length ≤ 1000000 := by rw [← hxs]; omega
    have hfo : foldL a0.data.toList = joinB xs := by unfold foldL; rw [hxs]
    rw [hxs] at HC
    rw [hfo]
    clear hxs hfo hlen hfl
    have hmap : (xs.map ofL).map (fun x => x.data.toList) = xs := by rw [List.map_map]; exact List.map_id xs
    refine (callsIn_wide (n := 6)).1 ?_
    refine callsIn_of_wp Tryd.func37 rfl trivial ?_ rfl
    simp only [Tryd.ntmps37, List.size_toArray, List.length_cons, List.length_nil, Nat.reduceAdd, Nat.reduceSub, Array.replicate_succ, Array.replicate_zero, List.push_toArray, List.append_toArray, List.nil_append, List.cons_append]
    gi_wp2_with (first
      | ((first | refine ⟨trivial, hdd _, ?_⟩ | refine ⟨trivial, ?_⟩); gi_at_call 56; refine (callsIn_wide.2 (all_calls _ _)).mono ?_; rintro e w' ⟨rfl, rfl⟩)
      | ((first | refine ⟨trivial, hdd _, ?_⟩ | refine ⟨trivial, ?_⟩); gi_at_call 55; refine HC.mono ?_; clear HC; rintro e w' ⟨v, rfl, hrow, hb⟩))
    refine ⟨trivial, ?_⟩
    refine (callsIn_wide.2 (join_own xs v w' _ hrow hxl hjl)).mono ?_
    rintro e w2 ⟨rfl, hb2⟩
    gi_wp2
    go_ret
    exact ⟨rfl, ((Below.refl _ w).alloc (Nat.le_refl _) _).trans ((hb.trans (hb2.mono (by have := hb.size; omega))).mono (by simp))⟩
  · cases h

end Go.Proofs.YtiffkknhnmpgbaaDoor
