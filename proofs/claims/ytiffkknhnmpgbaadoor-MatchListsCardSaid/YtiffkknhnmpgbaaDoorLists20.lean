/- Parts of the proof of Lists: words, contracts and plain laws. -/
import Derived.Test.YtiffkknhnmpgbaaDoorProg
import Derived.Shelf.Abstract
import Derived.WalkKit
import Derived.OwnWalkIn
import Derived.TacticsInMore
import Derived.LoopNIn
import Derived.LoopIn
import Derived.Maps.AppendAt
import Derived.Test.YtiffkknhnmpgbaaDoorLists2
import Derived.Test.YtiffkknhnmpgbaaDoorLists10
import Derived.Test.YtiffkknhnmpgbaaDoorLists12
/- The iterator over the words of a text (words.all and its two closures): for every text of at most 1000000 bytes, and whatever a caller keeps between two rounds that abides writes to the iterator's own cells, the words of the text come, in order. -/
namespace Go.Proofs.YtiffkknhnmpgbaaDoor
open Go Go.RowKit Go.Shelf Go.Proofs.YtiffkknhnmpgbaaDoorW.PrintWords
attribute [local go_sem] Oper.semAt_some
set_option linter.unusedVariables false
set_option linter.unusedSimpArgs false

theorem Kinfo5 : (Tryd.prog.info? 5).map (fun i => (i.zero, i.size, i.bytes)) = some (some (.int .u8 0), 1, 1) := by kernel_rfl

def lowI (c : Int) : Int := if 65 ≤ c ∧ c ≤ 90 then c + 32 else if (97 ≤ c ∧ c ≤ 122) ∨ (48 ≤ c ∧ c ≤ 57) then c else 0

theorem ret_int {k : IntKind} {a b : Int} (h : a = b) : Ending.returned (.int k a) = .returned (.int k b) := by rw [h]
theorem lower_calls (c : Int) (w : World) (h0 : 0 ≤ c) (h1 : c ≤ 255) :
    Calls Tryd.prog 79 #[.int .u8 c] w fun e w' => e = .returned (.int .u8 (lowI c)) ∧ w = w' := by
  by_cases a1 : 65 ≤ c
  · by_cases a2 : c ≤ 90
    · go_enter Tryd.func79, Tryd.ntmps79
      go_wp2
      go_ret
      refine ⟨ret_int ?_, rfl⟩
      unfold lowI; rw [if_pos ⟨a1, a2⟩]; omega
    · have a5 : 48 ≤ c := by omega
      have a6 : ¬ c ≤ 57 := by omega
      by_cases a3 : 97 ≤ c
      · by_cases a4 : c ≤ 122
        · go_enter Tryd.func79, Tryd.ntmps79
          go_wp2
          go_ret
          refine ⟨ret_int ?_, rfl⟩
          unfold lowI; rw [if_neg (by omega), if_pos (by omega)]
        · go_enter Tryd.func79, Tryd.ntmps79
          go_wp2
          go_ret
          refine ⟨ret_int ?_, rfl⟩
          unfold lowI; rw [if_neg (by omega), if_neg (by omega)]
      · go_enter Tryd.func79, Tryd.ntmps79
        go_wp2
        go_ret
        refine ⟨ret_int ?_, rfl⟩
        unfold lowI; rw [if_neg (by omega), if_neg (by omega)]
  · have a5 : ¬ 97 ≤ c := by omega
    by_cases a3 : 48 ≤ c
    · by_cases a4 : c ≤ 57
      · go_enter Tryd.func79, Tryd.ntmps79
        go_wp2
        go_ret
        refine ⟨ret_int ?_, rfl⟩
        unfold lowI; rw [if_neg (by omega), if_pos (by omega)]
      · go_enter Tryd.func79, Tryd.ntmps79
        go_wp2
        go_ret
        refine ⟨ret_int ?_, rfl⟩
        unfold lowI; rw [if_neg (by omega), if_neg (by omega)]
    · go_enter Tryd.func79, Tryd.ntmps79
      go_wp2
      go_ret
      refine ⟨ret_int ?_, rfl⟩
      unfold lowI; rw [if_neg (by omega), if_neg (by omega)]

theorem all_calls (s : ByteArray) (w : World) :
    Calls Tryd.prog 56 #[.string s] w fun e w' => e = .returned (.func (.func 77) #[] #[.pointer (some ⟨w.heap.size, 0, none⟩)]) ∧ w' = w.alloc (.cells #[.string s] 9) := by
  go_enter Tryd.func56, Tryd.ntmps56
  go_wp2
  go_ret
  exact ⟨rfl, rfl⟩

end Go.Proofs.YtiffkknhnmpgbaaDoor
