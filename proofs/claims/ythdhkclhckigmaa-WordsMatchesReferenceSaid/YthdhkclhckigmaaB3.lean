/- words.Grams: for every text of at most 1000000 bytes and every number, the parts of the folded text, sorted, each once; in the form of the printed contracts. -/
import Derived.Test.YthdhkclhckigmaaB2
import Derived.Test.YthdhkclhckigmaaA5
import Derived.Outline
namespace Go.Proofs.Ythdhkclhckigmaa
open Go Go.RowKit Go.Shelf Go.Maps Go.Sort Go.Proofs.YthdhkclhckigmaaW.PrintWords
set_option linter.unusedVariables false
set_option linter.unusedSimpArgs false

/-- The parts of n bytes. -/
def gramsL (l : List UInt8) (n : Nat) : List (List UInt8) := (List.range (l.length + 1 - n)).map fun i => (l.drop i).take n
def gramsF (l : List UInt8) (n : Int) : List (List UInt8) :=
  if n < 1 ∨ n > 8 then [] else if l = [] then [] else if (l.length : Int) < n then [l] else sortU (gramsL l n.toNat)
def words_Grams.f (a0 : ByteArray) (a1 : Int) : Option (List ByteArray) := if a0.size ≤ 1000000 then some ((gramsF (foldL a0.data.toList) a1).map ofL) else none

theorem sorted_calls (b nn : Nat) (D0 : DataW Unit) (w : World) (hown : w.ownsMap Try.prog 9 setElem b nn D0) (hsz : Maps.size D0 ≤ 1000000) :
    Calls Try.prog 28 #[.map (some b)] w fun e w' => ∃ (v : Value) (ss : List (List UInt8)), e = .returned v ∧ (ss.Nodup ∧ ∀ x, x ∈ ss ↔ Maps.has D0 (.string x) = true) ∧
      w'.ownsRow w.heap.size 9 1 v ss.length ((ss.mergeSort leB).map encStr) ∧ Below w.heap.size w w' := callsIn_wide.1 (sorted_in 5 b nn D0 w hown hsz)

theorem gramsL_take (l : List UInt8) (n k : Nat) (h : k < l.length + 1 - n) : (gramsL l n).take (k + 1) = (gramsL l n).take k ++ [(l.drop k).take n] := by
  unfold gramsL
  rw [List.take_succ_eq_append_getElem (by simpa using h)]
  simp
theorem gramsL_length (l : List UInt8) (n : Nat) : (gramsL l n).length = l.length + 1 - n := by simp [gramsL]

/-- What stands behind the fold: the parts of a text t that is neither empty nor too short. -/
theorem grams_ret {r : List (List UInt8)} {r' : List (List UInt8)} (h : r = r') {w w' : World} {v : Value} {base : Nat} (hr : w'.ownsRow base 9 1 v r.length (r.map encStr)) : Kd.R Kd.string 9 w' base (fun _ => True) v (r'.map ofL) := by
  subst h
  exact R_of_own hr rfl

set_option maxRecDepth 100000 in
set_option maxHeartbeats 1000000 in
theorem words_Grams.calls (a0 : ByteArray) (a1 : Int) (r : List ByteArray) (w : World) (h : words_Grams.f a0 a1 = some r) :
    Calls Try.prog 16 #[.string a0, .int .i64 a1] w fun e w' => ∃ v0_ : Value, e = .returned (v0_) ∧ Kd.R Kd.string 9 w' w.heap.size (fun _ => True) v0_ r ∧ Below w.heap.size w w' := by
  unfold words_Grams.f at h
  split at h
  · rename_i hs
    obtain rfl := Option.some.inj h
    clear h
    have hF := words_Fold.calls a0 (ofL (foldL a0.data.toList)) w (by unfold words_Fold.f; rw [if_pos hs])
    have hfl := foldL_len a0.data.toList
    have hll : a0.data.toList.length = a0.size := Array.length_toList
    rw [hll] at hfl
    obtain ⟨l, hl⟩ : ∃ l, foldL a0.data.toList = l := ⟨_, rfl⟩
    rw [hl] at hF hfl ⊢
    clear hl hll
    have hlen : l.length ≤ 1000000 := Nat.le_trans hfl hs
    obtain ⟨t, ht⟩ : ∃ t, ofL l = t := ⟨_, rfl⟩
    have hts : t.size = l.length := by rw [← ht]; rfl
    have htd : t.data.toList = l := by rw [← ht]; rfl
    have htl : t.toList = l := by rw [Go.ByteArray.toList_eq]; exact htd
    rw [ht] at hF
    have HT := Lib.hid ht
    have HTS := Lib.hid hts
    have HTL := Lib.hid htl
    have HTD := Lib.hid htd
    clear ht hts htl htd hfl
    have hmm := @run_makeMap Try.prog
    by_cases c1 : a1 < 1
    · go_enter Try.func16, Try.ntmps16
      go_wp2_with (go_at_call 11; refine hF.mono ?_; rintro e w1 ⟨rfl, hb⟩)
      go_ret
      refine ⟨_, rfl, ?_, hb⟩
      rw [show gramsF l a1 = [] by unfold gramsF; rw [if_pos (.inl c1)]]
      exact Kd.R_nil _ _ _ _ _
    · by_cases c2 : 8 < a1
      · go_enter Try.func16, Try.ntmps16
        go_wp2_with (go_at_call 11; refine hF.mono ?_; rintro e w1 ⟨rfl, hb⟩)
        go_ret
        refine ⟨_, rfl, ?_, hb⟩
        rw [show gramsF l a1 = [] by unfold gramsF; rw [if_pos (.inr c2)]]
        exact Kd.R_nil _ _ _ _ _
      · by_cases c3 : l = []
        · have c3' : t.toList = [] := by rw [HTL.out, c3]
          go_enter Try.func16, Try.ntmps16
          go_wp2_with (go_at_call 11; refine hF.mono ?_; rintro e w1 ⟨rfl, hb⟩)
          go_ret
          refine ⟨_, rfl, ?_, hb⟩
          rw [show gramsF l a1 = [] by unfold gramsF; rw [if_neg (by omega), if_pos c3]]
          exact Kd.R_nil _ _ _ _ _
        · have c3' : t.toList.isEmpty = false := by rw [HTL.out]; cases l with
            | nil => exact absurd rfl c3
            | cons => rfl
          obtain ⟨n, rfl⟩ : ∃ n : Nat, a1 = n := ⟨a1.toNat, by omega⟩
          by_cases c4 : t.size < n
          · go_enter Try.func16, Try.ntmps16
            go_wp2_with (go_at_call 11; refine hF.mono ?_; rintro e w1 ⟨rfl, hb⟩)
            go_ret
            have hrow : (w1.alloc (.cells #[.string t] 9)).ownsRow w.heap.size 9 1 (.slice (some ⟨w1.heap.size, 0, none⟩) 1 1) 1 [.string t] := by
              simpa using World.ownsRow_lit (base := w.heap.size) (e := 9) (size := 1) w1 #[.string t] 1 hb.size (by simp [maxLen]) (by simp)
            refine ⟨_, rfl, ?_, hb.alloc hb.size _⟩
            rw [show gramsF l n = [l] by unfold gramsF; rw [if_neg (by omega), if_neg c3, if_pos (by rw [← HTS.out]; omega)]]
            exact R_of_own (t := [l]) (by simpa [encStr, ← HT.out, ofL] using hrow) rfl
          · have hn : n ≤ t.size := by omega
            have hsub : IntKind.i64.wrap ((t.size : Int) - n) = t.size - n := by
              have := HTS.out
              exact IntWalk.i64_in _ (by omega)
            have hm : l.length + 1 - n = t.size + 1 - n := by rw [HTS.out]
            have htb : t.size ≤ 1000000 := by rw [HTS.out]; exact hlen
            have HM := Lib.hid hm
            clear hm hsub
            go_enter Try.func16, Try.ntmps16
            go_wp2_with (go_at_call 11; refine hF.mono ?_; rintro e w1 ⟨rfl, hb⟩)
            go_loopw [32] (fun c wr => ∃ k : Nat, k ≤ t.size + 1 - n ∧ c = .int .i64 k ∧ wr.ownsMap Try.prog 9 setElem w1.heap.size k (setD ((gramsL l n).take k)) ∧ Below w.heap.size w wr) (fun c _ => t.size + 1 - n - (intOf c).toNat)
            case atStart =>
              exact ⟨0, Nat.zero_le _, rfl, World.ownsMap_made _ _ _ _, hb.alloc hb.size _⟩
            case round =>
              obtain ⟨k, hk, rfl, hown, hbr⟩ := hrel
              by_cases hlt : k < t.size + 1 - n
              · have h1 : (k : Int) < (t.size : Int) - n + 1 := by omega
                have hkey : Go.keyOf Try.prog 9 (.string (t.extract k (k + n))) = some (.string ((l.drop k).take n)) := by
                  have hz := Go.WideMaps.keyOf_string_mk (s := t.extract k (k + n)) Try.underlying9 (by simp [maxLen]; omega)
                  rw [hz, Lib.extract_data, HTD.out]
                  simp [List.drop_take]
                have hsl : ∀ W : World, (Instr.slice 9 (.string t) (some (.int .i64 (k : Int))) (some (.int .i64 ((k : Int) + n))) none).run Try.prog W = .ok (.string (t.extract k (k + n))) W := fun W => by
                  have hz := run_slice_string (P := Try.prog) (w := W) 9 t .i64 .i64 (k : Int) ((k : Int) + n) Try.underlying9 (by omega) (by omega) (by omega)
                  rw [hz, show ((k : Int) + n).toNat = k + n by omega, show (k : Int).toNat = k by omega]
                have hval : setElem (.bool true) = some (.lit (.bool true), []) := plainElem_bool Try.underlying4 true
                go_wp2_with (at_mapUpdate; refine wpList_mapUpdate_own _ rfl _ _ _ 44 rfl 9 4 Klaw9 Try.underlying44 setElem w1.heap.size k _ rfl hown (by unfold maxLen; omega) _ _ _ rfl rfl hkey _ [] hval ?_; intro w2 hown2 hgrow2)
                go_roundw
                case rel =>
                  refine ⟨k + 1, by omega, by go_num, ?_, hbr.grown hgrow2 hbr.size (fun j e => by cases e; exact hb.size)⟩
                  rw [gramsL_take l n k (by rw [HM.out]; exact hlt), show setD ((gramsL l n).take k ++ [(l.drop k).take n]) = (setD ((gramsL l n).take k)).put (.string ((l.drop k).take n)) (.lit (.bool true)) from by simp [setD, setOf_snoc]]
                  exact hown2
                case measure => simp [intOf]; omega
              · obtain rfl : k = t.size + 1 - n := by omega
                have hall : (gramsL l n).take (t.size + 1 - n) = gramsL l n := by
                  rw [← HM.out, ← gramsL_length l n, List.take_length]
                rw [hall] at hown
                have hS := sorted_calls w1.heap.size _ _ wr hown (Nat.le_trans (setD_size _) (by rw [gramsL_length, HM.out]; omega))
                clear hall
                go_wp2_with (go_at_call 28; refine hS.mono ?_; rintro e w2 ⟨v, ss, rfl, ⟨hnd, hmem⟩, hrow, hb2⟩)
                go_ret
                have hfin := merge_inc hnd leB leB_bl
                have hst : ss.mergeSort leB = sortU (gramsL l n) := sortU_eq hfin.1 (fun x => by rw [hfin.2, hmem, setD_has])
                refine ⟨_, rfl, ?_, hbr.trans (hb2.mono hbr.size)⟩
                rw [show gramsF l n = ss.mergeSort leB by rw [hst]; unfold gramsF; rw [if_neg (by omega), if_neg c3, if_neg (by rw [← HTS.out]; omega), Int.toNat_natCast]]
                exact Kd.R_lower (R_of_own hrow (by rw [List.length_mergeSort])) hbr.size
  · cases h

end Go.Proofs.Ythdhkclhckigmaa
