/- Parts of the proof of MRef: words, contracts and plain laws. -/
import Derived.Laws.Runes
import Derived.Outline
import Derived.Test.YtgomlpndoolllaaDoorMRef21
/- The reference's Words: for every text of at most 1000000 bytes the words of the text, in order; in the form of the printed contracts. -/
namespace Go.Proofs.YtgomlpndoolllaaDoor
open Go Go.RowKit Go.Shelf Go.Maps Go.Sort Go.Proofs.YtgomlpndoolllaaDoorW.PrintWords
set_option linter.unusedVariables false
set_option linter.unusedSimpArgs false

theorem refLower_calls (c : Int) (w : World) (h0 : 0 ≤ c) (h1 : c ≤ 255) :
    Calls Tryd.prog 67 #[.int .u8 c] w fun e w' => e = .returned (.int .u8 (lowI c)) ∧ w = w' := by
  by_cases a1 : 65 ≤ c
  · by_cases a2 : c ≤ 90
    · go_enter Tryd.func67, Tryd.ntmps67
      go_wp2
      go_ret
      refine ⟨ret_int ?_, rfl⟩
      unfold lowI; rw [if_pos ⟨a1, a2⟩]; try omega
    · have a5 : 48 ≤ c := by omega
      have a6 : ¬ c ≤ 57 := by omega
      by_cases a3 : 97 ≤ c
      · by_cases a4 : c ≤ 122
        · go_enter Tryd.func67, Tryd.ntmps67
          go_wp2
          go_ret
          refine ⟨ret_int ?_, rfl⟩
          unfold lowI; rw [if_neg (by omega), if_pos (by omega)]
        · go_enter Tryd.func67, Tryd.ntmps67
          go_wp2
          go_ret
          refine ⟨ret_int ?_, rfl⟩
          unfold lowI; rw [if_neg (by omega), if_neg (by omega)]
      · go_enter Tryd.func67, Tryd.ntmps67
        go_wp2
        go_ret
        refine ⟨ret_int ?_, rfl⟩
        unfold lowI; rw [if_neg (by omega), if_neg (by omega)]
  · have a5 : ¬ 97 ≤ c := by omega
    by_cases a3 : 48 ≤ c
    · by_cases a4 : c ≤ 57
      · go_enter Tryd.func67, Tryd.ntmps67
        go_wp2
        go_ret
        refine ⟨ret_int ?_, rfl⟩
        unfold lowI; rw [if_neg (by omega), if_pos (by omega)]
      · go_enter Tryd.func67, Tryd.ntmps67
        go_wp2
        go_ret
        refine ⟨ret_int ?_, rfl⟩
        unfold lowI; rw [if_neg (by omega), if_neg (by omega)]
    · go_enter Tryd.func67, Tryd.ntmps67
      go_wp2
      go_ret
      refine ⟨ret_int ?_, rfl⟩
      unfold lowI; rw [if_neg (by omega), if_neg (by omega)]
theorem refLower_callsC (c : UInt8) (w : World) : Calls Tryd.prog 67 #[.int .u8 (c.toNat : Int)] w fun e w' => e = .returned (.int .u8 ((lowC c).toNat : Int)) ∧ w = w' := by
  rw [← lowI_lowC]
  have := c.toNat_lt
  exact refLower_calls _ w (by omega) (by omega)

theorem lowC_lt (c : UInt8) : (lowC c).toNat < 128 := by
  have h := lowI_lowC c
  have h2 := c.toNat_lt
  unfold lowI at h
  split at h
  · omega
  · split at h <;> omega
theorem encode_low (c : UInt8) : Utf8.encode ((lowC c).toNat : Int) = ofL [lowC c] := by
  have h := lowC_lt c
  unfold Utf8.encode
  have hv : Utf8.valid ((lowC c).toNat : Int) = true := by unfold Utf8.valid; simp; omega
  simp only [hv, if_true]
  rw [if_pos (by simp; omega)]
  simp [ofL]
theorem ofL_append (a b : List UInt8) : ofL a ++ ofL b = ofL (a ++ b) := by
  apply ByteArray.ext
  simp [ofL]

def cleanseref03_Words.f (a0 : ByteArray) : Option (List ByteArray) := if a0.size ≤ 1000000 then some ((wordsL a0.data.toList).map ofL) else none

set_option maxRecDepth 100000 in
set_option maxHeartbeats 1000000 in
theorem cleanseref03_Words.calls (a0 : ByteArray) (r : List ByteArray) (w : World) (h : cleanseref03_Words.f a0 = some r) :
    Calls Tryd.prog 56 #[.string a0] w fun e w' => ∃ v0_ : Value, e = .returned (v0_) ∧ Kd.R Kd.string 9 w' w.heap.size (fun _ => True) v0_ r ∧ Below w.heap.size w w' := by
  unfold cleanseref03_Words.f at h
  split at h
  · rename_i hs
    obtain rfl := Option.some.inj h
    clear h
    have hll : a0.data.toList.length = a0.size := Array.length_toList
    obtain ⟨i0, hi, hz0, hz1, hz2⟩ := info_parts Kinfo9
    go_enter Tryd.func56, Tryd.ntmps56
    go_wp2
    go_loopw [3, 4, 5] (fun o d c wr => ∃ k : Nat, k ≤ a0.size ∧ c = .int .i64 k ∧ d = .string (ofL (scanW (a0.data.toList.take k)).2) ∧
      wr.ownsRow w.heap.size 9 1 o (scanW (a0.data.toList.take k)).1.length ((scanW (a0.data.toList.take k)).1.map encStr) ∧ Below w.heap.size w wr) (fun _ _ c _ => a0.size - (intOf c).toNat)
    case atStart =>
      exact ⟨0, Nat.zero_le _, rfl, rfl, World.ownsRow_nil _ _ _ _, Below.refl _ _⟩
    case round =>
      obtain ⟨k, hk, rfl, rfl, hrow, hb⟩ := hrel
      obtain ⟨dn, cur, hdc⟩ : ∃ dn cur, scanW (a0.data.toList.take k) = (dn, cur) := ⟨_, _, rfl⟩
      have hcl : cur.length ≤ k := by have := scanW_take_len a0.data.toList k; rw [hdc] at this; exact this
      have hdl : dn.length ≤ 1000000 := by
        have h1 := (scanW_prefix a0.data.toList k).length_le
        have h2 := words_len a0.data.toList
        rw [hdc] at h1; rw [hll] at h2; dsimp only at h1; omega
      rw [hdc] at hrow
      dsimp only at hrow
      rw [hdc]
      dsimp only
      by_cases hlt : k < a0.size
      · have hlen : k < a0.data.toList.length := by rw [hll]; exact hlt
        have hget : a0.data.toList[k] = a0[k] := rfl
        by_cases hx : lowC a0[k] = 0
        · have hx0 : (((lowC a0[k]).toNat : Int) != 0) = false := by rw [hx]; rfl
          have hfl := flush_at a0.data.toList k hlen (by rw [hget]; exact hx)
          rw [hdc] at hfl
          have HFL := Lib.hid hfl
          clear hx hfl hdc
          cases cur with
          | nil =>
            rw [show ofL [] = (⟨#[]⟩ : ByteArray) from rfl]
            go_wp2_with (go_at_call 67; refine (refLower_callsC _ _).mono ?_; rintro e w' ⟨rfl, rfl⟩)
            go_roundw
            case rel => exact ⟨k + 1, by omega, by go_num, by rw [HFL.out]; rfl, by rw [HFL.out]; simpa [flushW] using hrow, hb⟩
            case measure => simp [intOf]; omega
          | cons y ys =>
            obtain ⟨t, ht⟩ : ∃ t, ofL (y :: ys) = t := ⟨_, rfl⟩
            rw [ht]
            have hc0 : t.toList.isEmpty = false := by rw [← ht, ofL_toList]; rfl
            have HT := Lib.hid ht
            clear ht
            go_wp2_with (first
              | (go_at_call 67; refine (refLower_callsC _ _).mono ?_; rintro e w' ⟨rfl, rfl⟩)
              | (at_builtin; refine wpList_append_own _ rfl _ _ 22 rfl w.heap.size 9 i0 (.string ⟨#[]⟩) 1 16 Tryd.underlying22 hi hz0 hz1 hz2 rfl (by decide) _ _ _ rfl (hrow.alloc _) ⟨_, 0, none⟩ 1 1 [.string t] rfl rfl (cell_one_new _ _ _) (by simp [Value.oneCell']) (by unfold maxLen at *; omega) (by omega) (by have := hb.size; simp; omega) ?_; intro v' w3 hown' hg3 hnil3))
            go_roundw
            case rel =>
              refine ⟨k + 1, by omega, by go_num, by rw [HFL.out]; rfl, ?_, ?_⟩
              · rw [HFL.out, show flushW (dn, y :: ys) = dn ++ [y :: ys] by simp [flushW], List.map_append, List.length_append]
                rw [← HT.out] at hown'
                exact hown'
              · exact (hb.alloc hb.size _).grown hg3 (by have := hb.size; simp; omega) (fun j hj => (hrow.lt j hj).1)
            case measure => simp [intOf]; omega
        · have hx0 : (((lowC a0[k]).toNat : Int) != 0) = true := by
            have : (lowC a0[k]).toNat ≠ 0 := fun h => hx (UInt8.toNat_inj.1 (by rw [h]; rfl))
            simp; omega
          have hlow := lowC_lt a0[k]
          have hle := letter_at a0.data.toList k hlen (by rw [hget]; exact hx)
          rw [hdc, hget] at hle
          have HLE := Lib.hid hle
          have HEN := Lib.hid (encode_low a0[k])
          have hsz : (ofL cur).size + (Utf8.encode ((lowC a0[k]).toNat : Int)).size ≤ 9223372036854775807 := by
            rw [HEN.out]; simp; omega
          clear hx hle hdc
          go_wp2_with (go_at_call 67; refine (refLower_callsC _ _).mono ?_; rintro e w' ⟨rfl, rfl⟩)
          go_roundw
          case rel => exact ⟨k + 1, by omega, by go_num, by rw [HLE.out, HEN.out, ofL_append], by rw [HLE.out]; exact hrow, hb⟩
          case measure => simp [intOf]; omega
      · obtain rfl : k = a0.size := by omega
        have hd2 : (dn, cur) = scanW a0.data.toList := by
          rw [← hdc, List.take_of_length_le (by rw [hll]; omega)]
        have hw : flushW (dn, cur) = wordsL a0.data.toList := by rw [hd2]; rfl
        have HW := Lib.hid hw
        clear hd2 hw hdc
        cases cur with
        | nil =>
          rw [show ofL [] = (⟨#[]⟩ : ByteArray) from rfl]
          go_wp2
          go_ret
          refine ⟨_, rfl, ?_, hb⟩
          rw [← HW.out]
          exact R_of_own (by simpa [flushW] using hrow) (by simp [flushW])
        | cons y ys =>
          obtain ⟨t, ht⟩ : ∃ t, ofL (y :: ys) = t := ⟨_, rfl⟩
          rw [ht]
          have hc0 : t.toList.isEmpty = false := by rw [← ht, ofL_toList]; rfl
          have HT := Lib.hid ht
          clear ht
          go_wp2_with (at_builtin; refine wpList_append_own _ rfl _ _ 22 rfl w.heap.size 9 i0 (.string ⟨#[]⟩) 1 16 Tryd.underlying22 hi hz0 hz1 hz2 rfl (by decide) _ _ _ rfl (hrow.alloc _) ⟨_, 0, none⟩ 1 1 [.string t] rfl rfl (cell_one_new _ _ _) (by simp [Value.oneCell']) (by unfold maxLen at *; omega) (by omega) (by have := hb.size; simp; omega) ?_; intro v' w3 hown' hg3 hnil3)
          go_ret
          refine ⟨_, rfl, ?_, (hb.alloc hb.size _).grown hg3 (by have := hb.size; simp; omega) (fun j hj => (hrow.lt j hj).1)⟩
          rw [← HW.out, show flushW (dn, y :: ys) = dn ++ [y :: ys] by simp [flushW]]
          rw [← HT.out] at hown'
          exact R_of_own (t := dn ++ [y :: ys]) (by rw [List.map_append]; exact hown') (by simp)
  · cases h

end Go.Proofs.YtgomlpndoolllaaDoor
