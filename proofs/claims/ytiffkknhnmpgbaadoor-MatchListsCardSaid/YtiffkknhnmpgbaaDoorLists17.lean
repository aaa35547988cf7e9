/- Parts of the proof of Lists: words, contracts and plain laws. -/
import Derived.Test.YtiffkknhnmpgbaaDoorProg
import Derived.Below
import Derived.Deep.Draws
import Derived.Deep.AppendLies
import Derived.Maps.AppendAt
import Derived.OwnWalk
import Derived.Laws.BytesArg
import Derived.Laws.MakeOwn
import Derived.Laws.OwnMore
import Derived.Deep.OwnRows
import Derived.Tactics
import Derived.Lib.ConvBytes
import Derived.Laws.Slices
import Derived.WalkKit
import Derived.KernelRfl
import Derived.RowKit3
import Derived.Deep.LoopGhost
import Derived.Deep.QuietTactic
import Derived.BigQuiet
import Derived.WideLaws
import Derived.Deep.DeepCutAuto
import Derived.Deep.CutBlock
import Derived.Deep.RegionHeld3
import Derived.Laws.Rows
import Derived.Lib.AppendStr
import Derived.ArgAppend
import Derived.Laws.IdiomCopy
import Derived.OrdersHeld
import Derived.Laws.BitsLemmas
import Derived.RowKit
import Derived.Test.YtiffkknhnmpgbaaDoorLists1
import Derived.Test.YtiffkknhnmpgbaaDoorLists8
import Derived.Test.YtiffkknhnmpgbaaDoorLists12
import Derived.Test.YtiffkknhnmpgbaaDoorLists13
import Derived.Test.YtiffkknhnmpgbaaDoorLists14
import Derived.Test.YtiffkknhnmpgbaaDoorLists15
import Derived.Test.YtiffkknhnmpgbaaDoorLists16
namespace Go.Proofs.YtiffkknhnmpgbaaDoor.Q
end Go.Proofs.YtiffkknhnmpgbaaDoor.Q
namespace Go.Proofs.YtiffkknhnmpgbaaDoor.R
end Go.Proofs.YtiffkknhnmpgbaaDoor.R
namespace Go.Proofs.YtiffkknhnmpgbaaDoor.V
end Go.Proofs.YtiffkknhnmpgbaaDoor.V
section
/- match.valid: slices.ContainsFunc and slices.IndexFunc at the terms of a match, with the printed closure. -/
namespace Go.Proofs.YtiffkknhnmpgbaaDoor
open Go Go.RowKit Go.Proofs.YtiffkknhnmpgbaaDoor.R Go.Proofs.YtiffkknhnmpgbaaDoorW.PrintWords Go.Proofs.YtiffkknhnmpgbaaDoorW.PrintLast Go.Proofs.YtiffkknhnmpgbaaDoorW.PrintMore
set_option linter.unusedVariables false
set_option linter.unusedSimpArgs false

def bad (k : Nat) (t : S43) : Option Bool := match_valid_1.f k t.f0 t.f1 t.f2 t.f3.f0 t.f3.f1 t.f4 t.f5
def vIdx (k : Nat) : Nat → List S43 → Int → Option Int
  | 0, _, _ => none
  | j + 1, l, x => if x < (l.length : Int) then (if 0 ≤ x then ((bad k (rd_T43 l x)).bind fun t => if t = true then some x else vIdx k j l (wrap64 (x + 1))) else none) else some (-1)
def sIndexFunc.f (k : Nat) (l : List S43) : Option Int := vIdx k k l 0
set_option maxHeartbeats 4000000 in
set_option maxRecDepth 100000 in
theorem sIndexFunc.calls (k : Nat) (A0 : Option Addr) (c0 : Nat) (l0 : List S43) (r : Int) (w : World) (hr0 : Kd.C k43 w A0 l0.length l0) (hc0 : l0.length ≤ c0) (h : sIndexFunc.f k l0 = some r) :
    Calls Tryd.prog 69 #[.slice A0 l0.length c0, .func (.func 48) #[] #[]] w fun e w' => e = .returned (.int .i64 r) ∧ Below w.heap.size w w' := by
  have hu43 := Tryd.underlying43
  have HR0 := Aside0.mk hr0
  have HC0 := Aside0.mk hc0
  clear hr0 hc0
  have HB := Aside0.mk (Below.refl w.heap.size w)
  have H' := Aside0.mk h
  clear h
  go_enter Tryd.func69, Tryd.ntmps69
  go_wp2
  go_loopg [5, 8] k (fun kq v5 v8 w' => ∃ x : Int, v8 = .int .i64 x ∧ Aside0 (vIdx k kq l0 x = some r) ∧ Aside0 (kq ≤ k) ∧ Aside0 (Below w.heap.size w w'))
  case atStart => exact ⟨0, rfl, H', ⟨Nat.le_refl _⟩, HB⟩
  case round =>
    clear H'
    obtain ⟨x, rfl, HA, HK1, HB⟩ := hrel
    cases gk with
    | zero => exact absurd HA.out (by simp [vIdx])
    | succ k1 =>
      have H := HA.out
      clear HA
      simp only [vIdx] at H
      by_cases c4 : x < (l0.length : Int)
      · rw [if_pos c4] at H
        have c4b0 : decide (x < (l0.length : Int)) = true := decide_eq_true c4
        clear c4
        by_cases c5 : 0 ≤ x
        · rw [if_pos c5] at H
          have c5b0 : decide (0 ≤ x) = true := decide_eq_true c5
          clear c5
          replace H := Option.bind_eq_some_iff.mp H
          obtain ⟨t, A4, H⟩ := H
          have A4 := Aside0.mk A4
          have p := of_decide_eq_true c5b0
          have q := of_decide_eq_true c4b0
          obtain ⟨ad, e, hx0, hx1, hx2, hx3, hx4, hx5, hx6⟩ := at_T43 HR0.out x p q
          cases e
          replace hx0 := (HB.out.cell (World.block_lt_of_cell? w _ hx0)).trans hx0
          replace hx1 := (HB.out.cell (World.block_lt_of_cell? w _ hx1)).trans hx1
          replace hx2 := (HB.out.cell (World.block_lt_of_cell? w _ hx2)).trans hx2
          replace hx3 := (HB.out.cell (World.block_lt_of_cell? w _ hx3)).trans hx3
          replace hx4 := (HB.out.cell (World.block_lt_of_cell? w _ hx4)).trans hx4
          replace hx5 := (HB.out.cell (World.block_lt_of_cell? w _ hx5)).trans hx5
          replace hx6 := (HB.out.cell (World.block_lt_of_cell? w _ hx6)).trans hx6
          replace p := eq_true p
          replace q := eq_true q
          cases t with
          | true =>
            rw [if_pos rfl] at H
            obtain rfl := Option.some.inj H
            go_wp2_with (go_at_call 48; refine (match_valid_1.calls k _ _ _ _ _ _ _ true _ A4.out).mono ?_; rintro e w8 ⟨rfl, hb⟩)
            go_ret
            exact ⟨rfl, below_step HB.out hb⟩
          | false =>
            rw [if_neg (by decide)] at H
            have H' := Aside0.mk H
            clear H
            go_wp2_with (go_at_call 48; refine (match_valid_1.calls k _ _ _ _ _ _ _ false _ A4.out).mono ?_; rintro e w8 ⟨rfl, hb⟩)
            go_roundg k1
            case measure => have := HK1.out; omega
            case rel => exact ⟨wrap64 (x + 1), rfl, H', ⟨by have := HK1.out; omega⟩, ⟨below_step HB.out hb⟩⟩
        · rw [if_neg c5] at H
          exact absurd H (by simp)
      · rw [if_neg c4] at H
        have c4b0 : decide (x < (l0.length : Int)) = false := decide_eq_false c4
        clear c4
        obtain rfl := Option.some.inj H
        go_wp2
        go_ret
        exact ⟨rfl, HB.out⟩
def sContainsFunc.f (k : Nat) (l : List S43) : Option Bool := (sIndexFunc.f k l).bind fun i => some (decide (0 ≤ i))
set_option maxHeartbeats 4000000 in
theorem sContainsFunc.calls (k : Nat) (A0 : Option Addr) (c0 : Nat) (l0 : List S43) (r : Bool) (w : World) (hr0 : Kd.C k43 w A0 l0.length l0) (hc0 : l0.length ≤ c0) (h : sContainsFunc.f k l0 = some r) :
    Calls Tryd.prog 47 #[.slice A0 l0.length c0, .func (.func 48) #[] #[]] w fun e w' => e = .returned (.bool r) ∧ Below w.heap.size w w' := by
  obtain ⟨i, hi, h⟩ := Option.bind_eq_some_iff.mp h
  obtain rfl := Option.some.inj h
  go_enter Tryd.func47, Tryd.ntmps47
  go_wp2_with (go_at_call 69; refine (sIndexFunc.calls k _ _ _ i _ hr0 hc0 hi).mono ?_; rintro e w8 ⟨rfl, hb⟩)
  go_ret
  exact ⟨rfl, hb⟩
def match_valid.f (k : Nat) (a0_0 : ByteArray) (a0_1 a0_2 : Int) (l : List S43) : Option Bool :=
  if decide (0 ≤ a0_2) && decide (a0_2 ≤ 10000) && decide ((l.length : Int) ≤ 200) then (sContainsFunc.f k l).bind fun b => some (!b) else some false
end Go.Proofs.YtiffkknhnmpgbaaDoor
end

section
/- match.valid, in the form of the printed contracts. -/
namespace Go.Proofs.YtiffkknhnmpgbaaDoor
open Go Go.RowKit Go.Proofs.YtiffkknhnmpgbaaDoor.R Go.Proofs.YtiffkknhnmpgbaaDoorW.PrintWords Go.Proofs.YtiffkknhnmpgbaaDoorW.PrintLast Go.Proofs.YtiffkknhnmpgbaaDoorW.PrintMore
set_option linter.unusedVariables false
set_option linter.unusedSimpArgs false
theorem between_tot (a b c : Int) : Q.match_between.f a b c = some (decide (a ≤ b) && decide (b ≤ c)) := by
  unfold Q.match_between.f
  by_cases h : a ≤ b <;> simp [h]
theorem heap41 : Kd.Heap k41 := Kd.heap_iso _ (Kd.heap_pair (Kd.heap_int _) (Kd.heap_int _))
theorem heap43 : Kd.Heap k43 := Kd.heap_iso _ (Kd.heap_pair (Kd.heap_int _) (Kd.heap_pair (Kd.heap_int _) (Kd.heap_pair (Kd.heap_int _) (Kd.heap_pair heap41 (Kd.heap_pair (Kd.heap_int _) (Kd.heap_int _))))))
set_option maxHeartbeats 4000000 in
set_option maxRecDepth 100000 in
theorem match_valid.calls (k : Nat) (a0_0 : ByteArray) (a0_1 : Int) (a0_2 : Int) (A0_3 : Option Addr) (c0_3 : Nat) (l0_3 : List S43) (r : Bool) (w : World) (hr0_3 : Kd.C k43 w A0_3 l0_3.length l0_3) (hc0_3 : l0_3.length ≤ c0_3) (h : match_valid.f k a0_0 a0_1 a0_2 l0_3 = some r) :
    Calls Tryd.prog 31 #[.agg #[.string a0_0, .int .i64 a0_1, .int .i64 a0_2, .slice A0_3 l0_3.length c0_3]] w fun e w' => e = .returned (.bool r) ∧ Below w.heap.size w w' := by
  unfold match_valid.f at h
  by_cases h1 : 0 ≤ a0_2
  · have c1 : decide (0 ≤ a0_2) = true := decide_eq_true h1
    by_cases h2 : a0_2 ≤ 10000
    · have c2 : decide (a0_2 ≤ 10000) = true := decide_eq_true h2
      by_cases h3 : (l0_3.length : Int) ≤ 200
      · rw [c1, c2, decide_eq_true h3, if_pos (by rfl)] at h
        have c3 : decide ((200 : Int) < (l0_3.length : Int)) = false := decide_eq_false (by omega)
        obtain ⟨b, hb1, h⟩ := Option.bind_eq_some_iff.mp h
        obtain rfl := Option.some.inj h
        clear h h1 h2 h3
        have HR0 := Aside0.mk hr0_3
        have HC0 := Aside0.mk hc0_3
        have HB1 := Aside0.mk hb1
        have HX := Aside0.mk (fun (W : World) (hb : Below w.heap.size w W) => Kd.Heap.C heap43 (w1 := W) (fun q hq => hb.block q hq) hr0_3)
        clear hr0_3 hc0_3 hb1
        go_enter Tryd.func31, Tryd.ntmps31
        have hbt := Aside0.mk ((between_tot 0 a0_2 10000).trans (congrArg some (show (decide (0 ≤ a0_2) && decide (a0_2 ≤ 10000)) = true by rw [c1, c2]; rfl)))
        go_wp2_with (go_at_call 26; refine (Q.match_between.calls _ _ _ true _ hbt.out).mono ?_; rintro e w8 ⟨rfl, ⟨m1, rfl⟩⟩)
        go_wp2_with (go_at_call 47; refine (sContainsFunc.calls k A0_3 c0_3 l0_3 b _ (HX.out _ (pw_below_drewN (below_alloc (Below.refl _ w) _) _)) HC0.out HB1.out).mono ?_; rintro e w8 ⟨rfl, hb⟩)
        go_ret
        exact ⟨rfl, below_step (pw_below_drewN (below_alloc (Below.refl _ w) _) _) hb⟩
      · rw [decide_eq_false h3, Bool.and_false, if_neg (by decide)] at h
        obtain rfl := Option.some.inj h
        have c3 : decide ((200 : Int) < (l0_3.length : Int)) = true := decide_eq_true (by omega)
        clear hr0_3 hc0_3 h1 h2 h3 h
        go_enter Tryd.func31, Tryd.ntmps31
        go_wp2
        go_ret
        exact ⟨rfl, below_alloc (Below.refl _ _) _⟩
    · have c2 : decide (a0_2 ≤ 10000) = false := decide_eq_false h2
      rw [c2, Bool.and_false, Bool.false_and, if_neg (by decide)] at h
      obtain rfl := Option.some.inj h
      clear hr0_3 hc0_3 h1 h2 h
      go_enter Tryd.func31, Tryd.ntmps31
      go_wp2
      go_ret
      exact ⟨rfl, below_alloc (Below.refl _ _) _⟩
  · have c1 : decide (0 ≤ a0_2) = false := decide_eq_false h1
    rw [c1, Bool.false_and, Bool.false_and, if_neg (by decide)] at h
    obtain rfl := Option.some.inj h
    clear hr0_3 hc0_3 h1 h
    go_enter Tryd.func31, Tryd.ntmps31
    go_wp2
    go_ret
    exact ⟨rfl, below_alloc (Below.refl _ _) _⟩
end Go.Proofs.YtiffkknhnmpgbaaDoor
end

section
namespace Go.Proofs.YtiffkknhnmpgbaaDoor.V
open Go.RowKit Go.Proofs.YtiffkknhnmpgbaaDoor.Q Go.Proofs.YtiffkknhnmpgbaaDoor.R Go.Proofs.YtiffkknhnmpgbaaDoorW.PrintWords Go.Proofs.YtiffkknhnmpgbaaDoorW.PrintLast Go.Proofs.YtiffkknhnmpgbaaDoorW.PrintMore
attribute [local go_sem] max2_int min2_int max_two min_two max_three min_three max_four min_four   -- for this text's walks alone
set_option linter.unusedVariables false
set_option linter.unusedSimpArgs false

-- by hand: function 31 (match_valid)

/-! ### match_about: function 20 -/
def match_about.f (k : Nat) (a0_0 : ByteArray) (a0_1 : Int) (a0_2 : Int) (l0_3 : List (S43)) (a1_0 : Int) (a1_1 : ByteArray) (a1_2 : ByteArray) (a1_3 : Int) (a1_4 : Int) (l1_5 : List (S50)) (a2_0 : Int) (a2_1 : ByteArray) (a2_2 : ByteArray) (a2_3 : Int) (a2_4 : Int) (l2_5 : List (S50)) : Option (Bool) := if a0_1 = a1_3 then (if a0_1 = a2_3 then ((match_valid.f k a0_0 a0_1 a0_2 l0_3).bind fun t104 => (some t104)) else (some false)) else (some false)
set_option maxHeartbeats 8000000 in
set_option maxRecDepth 100000 in
theorem match_about.calls (k : Nat) (a0_0 : ByteArray) (a0_1 : Int) (a0_2 : Int) (A0_3 : Option Addr) (c0_3 : Nat) (l0_3 : List (S43)) (a1_0 : Int) (a1_1 : ByteArray) (a1_2 : ByteArray) (a1_3 : Int) (a1_4 : Int) (A1_5 : Option Addr) (c1_5 : Nat) (l1_5 : List (S50)) (a2_0 : Int) (a2_1 : ByteArray) (a2_2 : ByteArray) (a2_3 : Int) (a2_4 : Int) (A2_5 : Option Addr) (c2_5 : Nat) (l2_5 : List (S50)) (r : Bool) (w : World) (hr0_3 : Kd.C k43 w A0_3 l0_3.length l0_3) (hc0_3 : l0_3.length ≤ c0_3) (hr1_5 : Kd.C k50 w A1_5 l1_5.length l1_5) (hc1_5 : l1_5.length ≤ c1_5) (hr2_5 : Kd.C k50 w A2_5 l2_5.length l2_5) (hc2_5 : l2_5.length ≤ c2_5) (h : match_about.f k a0_0 a0_1 a0_2 l0_3 a1_0 a1_1 a1_2 a1_3 a1_4 l1_5 a2_0 a2_1 a2_2 a2_3 a2_4 l2_5 = some r) :
  Calls Tryd.prog 20 #[.agg #[.string a0_0, .int .i64 a0_1, .int .i64 a0_2, .slice A0_3 l0_3.length c0_3], .agg #[.int .i64 a1_0, .string a1_1, .string a1_2, .int .i64 a1_3, .int .i64 a1_4, .slice A1_5 l1_5.length c1_5], .agg #[.int .i64 a2_0, .string a2_1, .string a2_2, .int .i64 a2_3, .int .i64 a2_4, .slice A2_5 l2_5.length c2_5]] w fun e w' => e = .returned (.bool r) ∧ Below w.heap.size w w' := by
 have hu24 := Tryd.underlying24
 have hu29 := Tryd.underlying29
 have HR0_3 := Aside0.mk hr0_3
 have HC0_3 := Aside0.mk hc0_3
 clear hr0_3 hc0_3
 have HR1_5 := Aside0.mk hr1_5
 have HC1_5 := Aside0.mk hc1_5
 clear hr1_5 hc1_5
 have HR2_5 := Aside0.mk hr2_5
 have HC2_5 := Aside0.mk hc2_5
 clear hr2_5 hc2_5
 have HB := Aside0.mk (Below.refl w.heap.size w)
 have H : (if a0_1 = a1_3 then (if a0_1 = a2_3 then ((match_valid.f k a0_0 a0_1 a0_2 l0_3).bind fun t104 => (some t104)) else (some false)) else (some false)) = some r := h
 clear h
 by_cases c4 : a0_1 = a1_3
 ·rw [if_pos c4] at H
  have c4b0 : (a0_1 == a1_3) = true := beq_iff_eq.mpr c4
  have c4b1 : (a0_1 != a1_3) = false := bne_eq_false_iff_eq.mpr c4
  clear c4
  by_cases c5 : a0_1 = a2_3
  ·rw [if_pos c5] at H
   have c5b0 : (a0_1 == a2_3) = true := beq_iff_eq.mpr c5
   have c5b1 : (a0_1 != a2_3) = false := bne_eq_false_iff_eq.mpr c5
   clear c5
   replace H := Option.bind_eq_some_iff.mp H
   obtain ⟨t104, A60, H⟩ := H
   replace H : (some t104) = some r := H
   have A6 := Aside0.mk A60
   clear A60
   obtain rfl := Option.some.inj H
   go_enter Tryd.func20, Tryd.ntmps20
   go_wp2_with (first | ((with_reducible refine gate_dst (N := 3) rfl ?_); refine box_event ?hg (N := 3) ?hd (cs := #[.string a0_0, .int .i64 a0_1, .int .i64 a0_2, .slice A0_3 l0_3.length c0_3]) (t := 24) ?hr ?_; (case hd => rfl); (case hg => rfl); (case hr => (go_simp; done)); intro gb101 hg w7 hbox hb; have n0_ := Aside0.mk (below_step HB.out hb); have n1_ := Aside0.mk (hbox); clear HB; have HB := n0_; have BK101 := n1_; clear n0_ n1_; clear hb hbox hg) | ((with_reducible refine gate_dst (N := 4) rfl ?_); refine box_event ?hg (N := 4) ?hd (cs := #[.int .i64 a1_0, .string a1_1, .string a1_2, .int .i64 a1_3, .int .i64 a1_4, .slice A1_5 l1_5.length c1_5]) (t := 29) ?hr ?_; (case hd => rfl); (case hg => rfl); (case hr => (go_simp; done)); intro gb102 hg w8 hbox hb; have n0_ := Aside0.mk (blk_below (by exact BK101.out) hb); have n1_ := Aside0.mk (below_step HB.out hb); have n2_ := Aside0.mk (hbox); have n5_ := Aside0.mk ((by rw [hg]; exact Nat.ne_of_lt (blk_lt (by exact BK101.out)) : gb101 ≠ gb102)); have n6_ := Aside0.mk ((by rw [hg]; exact Nat.ne_of_gt (blk_lt (by exact BK101.out)) : gb102 ≠ gb101)); clear BK101; clear HB; have BK101 := n0_; have HB := n1_; have BK102 := n2_; have NB101_102 := n5_; have NB102_101 := n6_; clear n0_ n1_ n2_ n5_ n6_; clear hb hbox hg) | ((with_reducible refine gate_dst (N := 5) rfl ?_); refine box_event ?hg (N := 5) ?hd (cs := #[.int .i64 a2_0, .string a2_1, .string a2_2, .int .i64 a2_3, .int .i64 a2_4, .slice A2_5 l2_5.length c2_5]) (t := 29) ?hr ?_; (case hd => rfl); (case hg => rfl); (case hr => (go_simp; done)); intro gb103 hg w9 hbox hb; have n0_ := Aside0.mk (blk_below (by exact BK101.out) hb); have n1_ := Aside0.mk (blk_below (by exact BK102.out) hb); have n2_ := Aside0.mk (below_step HB.out hb); have n3_ := Aside0.mk (hbox); have n6_ := Aside0.mk ((by rw [hg]; exact Nat.ne_of_lt (blk_lt (by exact BK101.out)) : gb101 ≠ gb103)); have n7_ := Aside0.mk ((by rw [hg]; exact Nat.ne_of_gt (blk_lt (by exact BK101.out)) : gb103 ≠ gb101)); have n8_ := Aside0.mk ((by rw [hg]; exact Nat.ne_of_lt (blk_lt (by exact BK102.out)) : gb102 ≠ gb103)); have n9_ := Aside0.mk ((by rw [hg]; exact Nat.ne_of_gt (blk_lt (by exact BK102.out)) : gb103 ≠ gb102)); clear BK101; clear BK102; clear HB; have BK101 := n0_; have BK102 := n1_; have HB := n2_; have BK103 := n3_; have NB101_103 := n6_; have NB103_101 := n7_; have NB102_103 := n8_; have NB103_102 := n9_; clear n0_ n1_ n2_ n3_ n6_ n7_ n8_ n9_; clear hb hbox hg; have hnb10 := NB101_102.out; have hnc10 := NB102_101.out; have hnb11 := NB101_103.out; have hnc11 := NB103_101.out; have hcz12_0 := cel_ BK101.out 0 rfl; have hcz12_1 := cel_ BK101.out 1 rfl; have hcz12_2 := cel_ BK101.out 2 rfl; have hcz12_3 := cel_ BK101.out 3 rfl; have hfz12_0 := blk_frozen BK101.out 0; have hfz12_1 := blk_frozen BK101.out 1; have hfz12_2 := blk_frozen BK101.out 2; have hfz12_3 := blk_frozen BK101.out 3; have hnb13 := NB102_103.out; have hnc13 := NB103_102.out; have hcz14_0 := cel_ BK102.out 0 rfl; have hcz14_1 := cel_ BK102.out 1 rfl; have hcz14_2 := cel_ BK102.out 2 rfl; have hcz14_3 := cel_ BK102.out 3 rfl; have hcz14_4 := cel_ BK102.out 4 rfl; have hcz14_5 := cel_ BK102.out 5 rfl; have hfz14_0 := blk_frozen BK102.out 0; have hfz14_1 := blk_frozen BK102.out 1; have hfz14_2 := blk_frozen BK102.out 2; have hfz14_3 := blk_frozen BK102.out 3; have hfz14_4 := blk_frozen BK102.out 4; have hfz14_5 := blk_frozen BK102.out 5; have hcz15_0 := cel_ BK103.out 0 rfl; have hcz15_1 := cel_ BK103.out 1 rfl; have hcz15_2 := cel_ BK103.out 2 rfl; have hcz15_3 := cel_ BK103.out 3 rfl; have hcz15_4 := cel_ BK103.out 4 rfl; have hcz15_5 := cel_ BK103.out 5 rfl; have hfz15_0 := blk_frozen BK103.out 0; have hfz15_1 := blk_frozen BK103.out 1; have hfz15_2 := blk_frozen BK103.out 2; have hfz15_3 := blk_frozen BK103.out 3; have hfz15_4 := blk_frozen BK103.out 4; have hfz15_5 := blk_frozen BK103.out 5) | (go_at_call 31; (with_reducible refine (match_valid.calls k a0_0 a0_1 a0_2 _ _ l0_3 t104 _ ?side1 ?side2 A6.out).mono ?_); (case side1 => repeat ((exact (Kd.C_below HR0_3.out HB.out)))); (case side2 => exact HC0_3.out); rintro e w16 ⟨rfl, hb⟩; have n0_ := Aside0.mk (blk_below (by exact BK101.out) hb); have n1_ := Aside0.mk (blk_below (by exact BK102.out) hb); have n2_ := Aside0.mk (blk_below (by exact BK103.out) hb); have n3_ := Aside0.mk (below_step HB.out hb); clear BK101; clear BK102; clear BK103; clear HB; have BK101 := n0_; have BK102 := n1_; have BK103 := n2_; have HB := n3_; clear n0_ n1_ n2_ n3_; (try clear hb)))
   go_ret
   exact ⟨by rfl, by repeat ((with_reducible (exact HB.out)))⟩
  rw [if_neg c5] at H
  have c5b0 : (a0_1 == a2_3) = false := beq_eq_false_iff_ne.mpr c5
  have c5b1 : (a0_1 != a2_3) = true := bne_iff_ne.mpr c5
  obtain rfl := Option.some.inj H
  go_enter Tryd.func20, Tryd.ntmps20
  go_wp2_with (first | ((with_reducible refine gate_dst (N := 3) rfl ?_); refine box_event ?hg (N := 3) ?hd (cs := #[.string a0_0, .int .i64 a0_1, .int .i64 a0_2, .slice A0_3 l0_3.length c0_3]) (t := 24) ?hr ?_; (case hd => rfl); (case hg => rfl); (case hr => (go_simp; done)); intro gb101 hg w17 hbox hb; have n0_ := Aside0.mk (below_step HB.out hb); have n1_ := Aside0.mk (hbox); clear HB; have HB := n0_; have BK101 := n1_; clear n0_ n1_; clear hb hbox hg) | ((with_reducible refine gate_dst (N := 4) rfl ?_); refine box_event ?hg (N := 4) ?hd (cs := #[.int .i64 a1_0, .string a1_1, .string a1_2, .int .i64 a1_3, .int .i64 a1_4, .slice A1_5 l1_5.length c1_5]) (t := 29) ?hr ?_; (case hd => rfl); (case hg => rfl); (case hr => (go_simp; done)); intro gb102 hg w18 hbox hb; have n0_ := Aside0.mk (blk_below (by exact BK101.out) hb); have n1_ := Aside0.mk (below_step HB.out hb); have n2_ := Aside0.mk (hbox); have n5_ := Aside0.mk ((by rw [hg]; exact Nat.ne_of_lt (blk_lt (by exact BK101.out)) : gb101 ≠ gb102)); have n6_ := Aside0.mk ((by rw [hg]; exact Nat.ne_of_gt (blk_lt (by exact BK101.out)) : gb102 ≠ gb101)); clear BK101; clear HB; have BK101 := n0_; have HB := n1_; have BK102 := n2_; have NB101_102 := n5_; have NB102_101 := n6_; clear n0_ n1_ n2_ n5_ n6_; clear hb hbox hg) | ((with_reducible refine gate_dst (N := 5) rfl ?_); refine box_event ?hg (N := 5) ?hd (cs := #[.int .i64 a2_0, .string a2_1, .string a2_2, .int .i64 a2_3, .int .i64 a2_4, .slice A2_5 l2_5.length c2_5]) (t := 29) ?hr ?_; (case hd => rfl); (case hg => rfl); (case hr => (go_simp; done)); intro gb103 hg w19 hbox hb; have n0_ := Aside0.mk (blk_below (by exact BK101.out) hb); have n1_ := Aside0.mk (blk_below (by exact BK102.out) hb); have n2_ := Aside0.mk (below_step HB.out hb); have n3_ := Aside0.mk (hbox); have n6_ := Aside0.mk ((by rw [hg]; exact Nat.ne_of_lt (blk_lt (by exact BK101.out)) : gb101 ≠ gb103)); have n7_ := Aside0.mk ((by rw [hg]; exact Nat.ne_of_gt (blk_lt (by exact BK101.out)) : gb103 ≠ gb101)); have n8_ := Aside0.mk ((by rw [hg]; exact Nat.ne_of_lt (blk_lt (by exact BK102.out)) : gb102 ≠ gb103)); have n9_ := Aside0.mk ((by rw [hg]; exact Nat.ne_of_gt (blk_lt (by exact BK102.out)) : gb103 ≠ gb102)); clear BK101; clear BK102; clear HB; have BK101 := n0_; have BK102 := n1_; have HB := n2_; have BK103 := n3_; have NB101_103 := n6_; have NB103_101 := n7_; have NB102_103 := n8_; have NB103_102 := n9_; clear n0_ n1_ n2_ n3_ n6_ n7_ n8_ n9_; clear hb hbox hg; have hnb20 := NB101_102.out; have hnc20 := NB102_101.out; have hnb21 := NB101_103.out; have hnc21 := NB103_101.out; have hcz22_0 := cel_ BK101.out 0 rfl; have hcz22_1 := cel_ BK101.out 1 rfl; have hcz22_2 := cel_ BK101.out 2 rfl; have hcz22_3 := cel_ BK101.out 3 rfl; have hfz22_0 := blk_frozen BK101.out 0; have hfz22_1 := blk_frozen BK101.out 1; have hfz22_2 := blk_frozen BK101.out 2; have hfz22_3 := blk_frozen BK101.out 3; have hnb23 := NB102_103.out; have hnc23 := NB103_102.out; have hcz24_0 := cel_ BK102.out 0 rfl; have hcz24_1 := cel_ BK102.out 1 rfl; have hcz24_2 := cel_ BK102.out 2 rfl; have hcz24_3 := cel_ BK102.out 3 rfl; have hcz24_4 := cel_ BK102.out 4 rfl; have hcz24_5 := cel_ BK102.out 5 rfl; have hfz24_0 := blk_frozen BK102.out 0; have hfz24_1 := blk_frozen BK102.out 1; have hfz24_2 := blk_frozen BK102.out 2; have hfz24_3 := blk_frozen BK102.out 3; have hfz24_4 := blk_frozen BK102.out 4; have hfz24_5 := blk_frozen BK102.out 5; have hcz25_0 := cel_ BK103.out 0 rfl; have hcz25_1 := cel_ BK103.out 1 rfl; have hcz25_2 := cel_ BK103.out 2 rfl; have hcz25_3 := cel_ BK103.out 3 rfl; have hcz25_4 := cel_ BK103.out 4 rfl; have hcz25_5 := cel_ BK103.out 5 rfl; have hfz25_0 := blk_frozen BK103.out 0; have hfz25_1 := blk_frozen BK103.out 1; have hfz25_2 := blk_frozen BK103.out 2; have hfz25_3 := blk_frozen BK103.out 3; have hfz25_4 := blk_frozen BK103.out 4; have hfz25_5 := blk_frozen BK103.out 5))
  go_ret
  exact ⟨by rfl, by repeat ((with_reducible (exact HB.out)))⟩
 rw [if_neg c4] at H
 have c4b0 : (a0_1 == a1_3) = false := beq_eq_false_iff_ne.mpr c4
 have c4b1 : (a0_1 != a1_3) = true := bne_iff_ne.mpr c4
 obtain rfl := Option.some.inj H
 go_enter Tryd.func20, Tryd.ntmps20
 go_wp2_with (first | ((with_reducible refine gate_dst (N := 3) rfl ?_); refine box_event ?hg (N := 3) ?hd (cs := #[.string a0_0, .int .i64 a0_1, .int .i64 a0_2, .slice A0_3 l0_3.length c0_3]) (t := 24) ?hr ?_; (case hd => rfl); (case hg => rfl); (case hr => (go_simp; done)); intro gb101 hg w26 hbox hb; have n0_ := Aside0.mk (below_step HB.out hb); have n1_ := Aside0.mk (hbox); clear HB; have HB := n0_; have BK101 := n1_; clear n0_ n1_; clear hb hbox hg) | ((with_reducible refine gate_dst (N := 4) rfl ?_); refine box_event ?hg (N := 4) ?hd (cs := #[.int .i64 a1_0, .string a1_1, .string a1_2, .int .i64 a1_3, .int .i64 a1_4, .slice A1_5 l1_5.length c1_5]) (t := 29) ?hr ?_; (case hd => rfl); (case hg => rfl); (case hr => (go_simp; done)); intro gb102 hg w27 hbox hb; have n0_ := Aside0.mk (blk_below (by exact BK101.out) hb); have n1_ := Aside0.mk (below_step HB.out hb); have n2_ := Aside0.mk (hbox); have n5_ := Aside0.mk ((by rw [hg]; exact Nat.ne_of_lt (blk_lt (by exact BK101.out)) : gb101 ≠ gb102)); have n6_ := Aside0.mk ((by rw [hg]; exact Nat.ne_of_gt (blk_lt (by exact BK101.out)) : gb102 ≠ gb101)); clear BK101; clear HB; have BK101 := n0_; have HB := n1_; have BK102 := n2_; have NB101_102 := n5_; have NB102_101 := n6_; clear n0_ n1_ n2_ n5_ n6_; clear hb hbox hg) | ((with_reducible refine gate_dst (N := 5) rfl ?_); refine box_event ?hg (N := 5) ?hd (cs := #[.int .i64 a2_0, .string a2_1, .string a2_2, .int .i64 a2_3, .int .i64 a2_4, .slice A2_5 l2_5.length c2_5]) (t := 29) ?hr ?_; (case hd => rfl); (case hg => rfl); (case hr => (go_simp; done)); intro gb103 hg w28 hbox hb; have n0_ := Aside0.mk (blk_below (by exact BK101.out) hb); have n1_ := Aside0.mk (blk_below (by exact BK102.out) hb); have n2_ := Aside0.mk (below_step HB.out hb); have n3_ := Aside0.mk (hbox); have n6_ := Aside0.mk ((by rw [hg]; exact Nat.ne_of_lt (blk_lt (by exact BK101.out)) : gb101 ≠ gb103)); have n7_ := Aside0.mk ((by rw [hg]; exact Nat.ne_of_gt (blk_lt (by exact BK101.out)) : gb103 ≠ gb101)); have n8_ := Aside0.mk ((by rw [hg]; exact Nat.ne_of_lt (blk_lt (by exact BK102.out)) : gb102 ≠ gb103)); have n9_ := Aside0.mk ((by rw [hg]; exact Nat.ne_of_gt (blk_lt (by exact BK102.out)) : gb103 ≠ gb102)); clear BK101; clear BK102; clear HB; have BK101 := n0_; have BK102 := n1_; have HB := n2_; have BK103 := n3_; have NB101_103 := n6_; have NB103_101 := n7_; have NB102_103 := n8_; have NB103_102 := n9_; clear n0_ n1_ n2_ n3_ n6_ n7_ n8_ n9_; clear hb hbox hg; have hnb29 := NB101_102.out; have hnc29 := NB102_101.out; have hnb30 := NB101_103.out; have hnc30 := NB103_101.out; have hcz31_0 := cel_ BK101.out 0 rfl; have hcz31_1 := cel_ BK101.out 1 rfl; have hcz31_2 := cel_ BK101.out 2 rfl; have hcz31_3 := cel_ BK101.out 3 rfl; have hfz31_0 := blk_frozen BK101.out 0; have hfz31_1 := blk_frozen BK101.out 1; have hfz31_2 := blk_frozen BK101.out 2; have hfz31_3 := blk_frozen BK101.out 3; have hnb32 := NB102_103.out; have hnc32 := NB103_102.out; have hcz33_0 := cel_ BK102.out 0 rfl; have hcz33_1 := cel_ BK102.out 1 rfl; have hcz33_2 := cel_ BK102.out 2 rfl; have hcz33_3 := cel_ BK102.out 3 rfl; have hcz33_4 := cel_ BK102.out 4 rfl; have hcz33_5 := cel_ BK102.out 5 rfl; have hfz33_0 := blk_frozen BK102.out 0; have hfz33_1 := blk_frozen BK102.out 1; have hfz33_2 := blk_frozen BK102.out 2; have hfz33_3 := blk_frozen BK102.out 3; have hfz33_4 := blk_frozen BK102.out 4; have hfz33_5 := blk_frozen BK102.out 5))
 go_ret
 exact ⟨by rfl, by repeat ((with_reducible (exact HB.out)))⟩

end Go.Proofs.YtiffkknhnmpgbaaDoor.V
end

section
namespace Go.Proofs.YtiffkknhnmpgbaaDoor.Q
open Go.RowKit Go.Proofs.YtiffkknhnmpgbaaDoorW.PrintWords Go.Proofs.YtiffkknhnmpgbaaDoorW.PrintLast Go.Proofs.YtiffkknhnmpgbaaDoorW.PrintMore
attribute [local go_sem] max2_int min2_int max_two min_two max_three min_three max_four min_four   -- for this text's walks alone
set_option linter.unusedVariables false
set_option linter.unusedSimpArgs false

/-! ### measure_least: function 72 -/
def measure_least.l0 : Nat → Int → List Int → Int → Int → Option (Int)
 | 0, _, _, _, _ => none
 | k + 1, x0, x7, x8, x9 => if x9 < x8 then (if 0 ≤ x9 then (if x9 < (x7.length : Int) then (measure_least.l0 k (mn x0 (rd x7 x9)) x7 x8 (wrap64 (x9 + 1))) else (none)) else (none)) else (some x0)
def measure_least.f (k : Nat) (a0 : Int) (l1 : List Int) : Option (Int) := measure_least.l0 k a0 l1 (l1.length : Int) 0
set_option maxHeartbeats 8000000 in
set_option maxRecDepth 100000 in
theorem measure_least.calls (k : Nat) (a0 : Int) (A1 : Option Addr) (c1 : Nat) (l1 : List Int) (r : Int) (w : World) (hr1 : Kd.C (Kd.int .i64) w A1 l1.length l1) (hc1 : l1.length ≤ c1) (h : measure_least.f k a0 l1 = some r) :
  Calls Tryd.prog 72 #[.int .i64 a0, .slice A1 l1.length c1] w fun e w' => e = .returned (.int .i64 r) ∧ Below w.heap.size w w' := by
 have HR1 := Aside0.mk hr1
 have HC1 := Aside0.mk hc1
 clear hr1 hc1
 have HB := Aside0.mk (Below.refl w.heap.size w)
 have H : (measure_least.l0 k a0 l1 (l1.length : Int) 0) = some r := h
 clear h
 have H' := Aside0.mk H
 clear H
 go_enter Tryd.func72, Tryd.ntmps72
 go_wp2
 go_loopg [0, 9] k (fun kq v0 v9 w' => ∃ (x0_1 : Int) (x9_1 : Int), v0 = .int .i64 x0_1 ∧ v9 = .int .i64 x9_1 ∧ Aside0 (measure_least.l0 kq x0_1 l1 (l1.length : Int) x9_1 = some r) ∧ Aside0 (kq ≤ k) ∧ Aside0 (Below w.heap.size w w'))
 case atStart => exact ⟨(a0), (0), (by rfl), (by rfl), H', ⟨Nat.le_refl _⟩, ⟨by repeat ((with_reducible (exact HB.out)))⟩⟩
 clear H'
 obtain ⟨x0_1, x9_1, rfl, rfl, HA, HK1, HB⟩ := hrel
 cases gk with
 | zero => exact absurd HA.out (by simp [measure_least.l0])
 | succ k1 =>
  have H := HA.out
  clear HA
  simp only [measure_least.l0] at H
  by_cases c3 : x9_1 < (l1.length : Int)
  ·rw [if_pos c3] at H
   have c3b0 : decide (x9_1 < (l1.length : Int)) = true := decide_eq_true c3
   clear c3
   by_cases c4 : 0 ≤ x9_1
   ·rw [if_pos c4] at H
    have c4b0 : decide (0 ≤ x9_1) = true := decide_eq_true c4
    clear c4
    by_cases c5 : x9_1 < (l1.length : Int)
    ·rw [if_pos c5] at H
     have c5b0 : decide (x9_1 < (l1.length : Int)) = true := decide_eq_true c5
     clear c5
     obtain ⟨ji6, hji6⟩ : ∃ j_ : Int, (mn x0_1 (rd l1 x9_1)) = j_ := ⟨_, rfl⟩
     replace H : (measure_least.l0 k1 ji6 l1 (l1.length : Int) (wrap64 (x9_1 + 1))) = some r := by (rw [hji6] at H; exact H)
     have hji6_ : (if (rd l1 x9_1) < x0_1 then (rd l1 x9_1) else x0_1) = ji6 := hji6
     have H' := Aside0.mk H
     clear H
     have p101 : 0 ≤ (x9_1 : Int) := of_decide_eq_true (by (with_reducible assumption))
     have q101 : x9_1 < (l1.length : Int) := of_decide_eq_true (by (with_reducible assumption))
     obtain ⟨ad101, e101, hx101_0⟩ := Kd.at_int HR1.out x9_1 p101 q101
     cases e101
     replace hx101_0 := (HB.out.cell (World.block_lt_of_cell? w _ hx101_0)).trans hx101_0
     replace p101 := eq_true p101
     replace q101 := eq_true q101
     go_wp2
     go_roundg k1
     case measure => have := HK1.out; omega
     case rel => exact ⟨(ji6), (wrap64 (x9_1 + 1)), (by rfl), (by rfl), H', ⟨by have := HK1.out; omega⟩, ⟨by repeat ((with_reducible (exact HB.out)))⟩⟩
    rw [if_neg c5] at H
    exact absurd H (by simp)
   rw [if_neg c4] at H
   exact absurd H (by simp)
  rw [if_neg c3] at H
  have c3b0 : decide (x9_1 < (l1.length : Int)) = false := decide_eq_false c3
  clear c3
  obtain rfl := Option.some.inj H
  go_wp2
  go_ret
  exact ⟨by rfl, by repeat ((with_reducible (exact HB.out)))⟩

end Go.Proofs.YtiffkknhnmpgbaaDoor.Q
end

section
namespace Go.Proofs.YtiffkknhnmpgbaaDoor.Q
open Go.RowKit Go.Proofs.YtiffkknhnmpgbaaDoorW.PrintWords Go.Proofs.YtiffkknhnmpgbaaDoorW.PrintLast Go.Proofs.YtiffkknhnmpgbaaDoorW.PrintMore
attribute [local go_sem] max2_int min2_int max_two min_two max_three min_three max_four min_four   -- for this text's walks alone
set_option linter.unusedVariables false
set_option linter.unusedSimpArgs false

/-! ### measure_Edit: function 53 -/
mutual
def measure_Edit.j0 : Nat → ByteArray → ByteArray → Option (Int)
 | 0, _, _ => none
 | k + 1, x0, x1 => if 0 ≤ (wrap64 ((x1.size : Int) + 1)) then (if (wrap64 ((x1.size : Int) + 1) : Int).toNat ≤ 35184372088832 then ((some (List.replicate (wrap64 ((x1.size : Int) + 1) : Int).toNat 0 : List Int)).bind fun y102 => (measure_Edit.l0 k x0 x1 y102 (y102.length : Int) 0)) else (none)) else (none)
def measure_Edit.l0 : Nat → ByteArray → ByteArray → List Int → Int → Int → Option (Int)
 | 0, _, _, _, _, _ => none
 | k + 1, x0, x1, x5, x23, x24 => if x24 < x23 then (if 0 ≤ x24 then (if x24 < (x5.length : Int) then (measure_Edit.l0 k x0 x1 (x5.set (x24 : Int).toNat x24) x23 (wrap64 (x24 + 1))) else (none)) else (none)) else (measure_Edit.l1 k x0 x1 x5 (x0.size : Int) 0)
def measure_Edit.l1 : Nat → ByteArray → ByteArray → List Int → Int → Int → Option (Int)
 | 0, _, _, _, _, _ => none
 | k + 1, x0, x1, x5, x33, x34 => if x34 < x33 then (if 0 < (x5.length : Int) then (measure_Edit.l2 k x0 x1 (x5.set (0 : Int).toNat (wrap64 (x34 + 1))) x34 (rd x5 0) x33 x34 (x1.size : Int) 0) else (none)) else (if 0 ≤ (x1.size : Int) then (if (x1.size : Int) < (x5.length : Int) then (some (rd x5 (x1.size : Int))) else (none)) else (none))
def measure_Edit.l2 : Nat → ByteArray → ByteArray → List Int → Int → Int → Int → Int → Int → Int → Option (Int)
 | 0, _, _, _, _, _, _, _, _, _ => none
 | k + 1, x0, x1, x5, x7, x8, x33, x34, x45, x46 => if x46 < x45 then (if 0 ≤ x7 then (if x7 < (x0.size : Int) then (if 0 ≤ x46 then (if x46 < (x1.size : Int) then (if (bt x0 x7) = (bt x1 x46) then (if 0 ≤ (wrap64 (x46 + 1)) then (if (wrap64 (x46 + 1)) < (x5.length : Int) then (if x46 < (x5.length : Int) then ((measure_least.f k (wrap64 (x8 + 0)) (([wrap64 ((rd x5 x46) + 1), wrap64 ((rd x5 (wrap64 (x46 + 1))) + 1)] : List Int))).bind fun t115 => (measure_Edit.l2 k x0 x1 (x5.set ((wrap64 (x46 + 1)) : Int).toNat t115) x7 (rd x5 (wrap64 (x46 + 1))) x33 x34 x45 (wrap64 (x46 + 1)))) else (none)) else (none)) else (none)) else (if 0 ≤ (wrap64 (x46 + 1)) then (if (wrap64 (x46 + 1)) < (x5.length : Int) then (if x46 < (x5.length : Int) then ((measure_least.f k (wrap64 (x8 + 1)) (([wrap64 ((rd x5 x46) + 1), wrap64 ((rd x5 (wrap64 (x46 + 1))) + 1)] : List Int))).bind fun t123 => (measure_Edit.l2 k x0 x1 (x5.set ((wrap64 (x46 + 1)) : Int).toNat t123) x7 (rd x5 (wrap64 (x46 + 1))) x33 x34 x45 (wrap64 (x46 + 1)))) else (none)) else (none)) else (none))) else (none)) else (none)) else (none)) else (none)) else (measure_Edit.l1 k x0 x1 x5 x33 (wrap64 (x34 + 1)))
end
def measure_Edit.f (k : Nat) (a0 : ByteArray) (a1 : ByteArray) : Option (Int) := if (a0.size : Int) < (a1.size : Int) then (measure_Edit.j0 k a1 a0) else (measure_Edit.j0 k a0 a1)
def measure_Edit.T20 : Bool × List (List Nat × List Nat) := (true, [([], []), ([], []), ([1], [1]), ([], []), ([], []), ([4], [4]), ([3, 5], [3, 5]), ([6], [6]), ([], []), ([], []), ([8, 9], [8, 9]), ([], []), ([], []), ([11, 12], [11, 12]), ([13], [13]), ([14], [14]), ([], []), ([], []), ([17], [17]), ([16, 18], [16, 18]), ([19], [19]), ([20], [20]), ([15, 21], [15, 21]), ([10, 22], [10, 22]), ([7, 23, 3, 4, 5, 6, 7, 8], [7, 8]), ([0, 2, 0, 1, 2, 3, 4, 5, 6, 7, 8, 9, 10, 11, 12, 13, 14, 15, 16, 17, 18, 19, 20, 21, 22, 23, 24], [0, 2]), ([25, 23, 24, 0, 1, 2, 3, 4, 5, 6, 7, 8, 9, 10, 11, 12, 13, 14, 15, 16, 17, 18, 19, 20, 21, 22, 23, 24], [23, 25])])
def measure_Edit.B20 : List Nat := [0, 0, 2, 0, 0, 16, 56, 120, 0, 0, 768, 0, 0, 6144, 14336, 30720, 0, 0, 131072, 458752, 983040, 2031616, 4192256, 8388352, 16777208, 33554431, 67108863]
theorem measure_Edit.tab20 : rtab .any (opsOf Tryd.f53 20) = measure_Edit.T20 := by kernel_rfl
theorem measure_Edit.bits20 : waitsOk measure_Edit.T20.2 measure_Edit.B20 = true := by kernel_rfl
set_option maxHeartbeats 8000000 in
set_option maxRecDepth 100000 in
theorem measure_Edit.calls (k : Nat) (a0 : ByteArray) (a1 : ByteArray) (r : Int) (w : World) (h : measure_Edit.f k a0 a1 = some r) :
  Calls Tryd.prog 53 #[.string a0, .string a1] w fun e w' => e = .returned (.int .i64 r) ∧ Below w.heap.size w w' := by
 have HB := Aside0.mk (Below.refl w.heap.size w)
 have H : (if (a0.size : Int) < (a1.size : Int) then (measure_Edit.j0 k a1 a0) else (measure_Edit.j0 k a0 a1)) = some r := h
 clear h
 have HC3 := Aside0.mk H
 clear H
 go_enter Tryd.func53, Tryd.ntmps53
 go_upto_if 15 with (fail)
 go_cut [0, 1] (fun v0 v1 wc => ∃ (kq : Nat) (x0_2 : ByteArray) (x1_2 : ByteArray), v0 = .string x0_2 ∧ v1 = .string x1_2 ∧ Aside0 (measure_Edit.j0 kq x0_2 x1_2 = some r) ∧ Aside0 (kq ≤ k) ∧ Aside0 (Below w.heap.size w wc))
 case first =>
  have H := HC3.out
  clear HC3
  by_cases c4 : (a0.size : Int) < (a1.size : Int)
  ·rw [if_pos c4] at H
   have c4b0 : decide ((a0.size : Int) < (a1.size : Int)) = true := decide_eq_true c4
   have c4b1 : decide (a0.size < a1.size) = true := decide_eq_true (Int.ofNat_lt.mp c4)
   clear c4
   ((rw [c4b1]))
   have H' := Aside0.mk H
   clear H
   go_wp2
   go_meet
   case rel => exact ⟨_, (a1), (a0), (by rfl), (by rfl), H', ⟨by omega⟩, ⟨by repeat ((with_reducible (exact HB.out)))⟩⟩
  rw [if_neg c4] at H
  have c4b0 : decide ((a0.size : Int) < (a1.size : Int)) = false := decide_eq_false c4
  have c4b1 : decide (a0.size < a1.size) = false := decide_eq_false (fun h => c4 (Int.ofNat_lt.mpr h))
  clear c4
  ((rw [c4b1]))
  have H' := Aside0.mk H
  clear H
  go_wp2
  go_meet
  case rel => exact ⟨_, (a0), (a1), (by rfl), (by rfl), H', ⟨by omega⟩, ⟨by repeat ((with_reducible (exact HB.out)))⟩⟩
 clear HC3
 obtain ⟨kq, x0_2, x1_2, rfl, rfl, HA, HJ2, HB⟩ := hcut
 cases kq with
 | zero => exact absurd HA.out (by simp [measure_Edit.j0])
 | succ kj2 =>
  have H := HA.out
  clear HA
  simp only [measure_Edit.j0] at H
  obtain ⟨ji5, hji5⟩ : ∃ j_ : Int, (wrap64 ((x1_2.size : Int) + 1)) = j_ := ⟨_, rfl⟩
  replace H : (if 0 ≤ (ji5) then (if (ji5 : Int).toNat ≤ 35184372088832 then ((some (List.replicate (ji5 : Int).toNat 0 : List Int)).bind fun y102 => (measure_Edit.l0 kj2 x0_2 x1_2 y102 (y102.length : Int) 0)) else (none)) else (none)) = some r := by (rw [hji5] at H; exact H)
  have hji5w : (IntKind.i64.wrap ((x1_2.size : Int) + 1)) = ji5 := (i64_w _).trans hji5
  by_cases c6 : 0 ≤ (ji5)
  ·rw [if_pos c6] at H
   have c6b0 := eq_true c6
   have c6b1 : decide (0 ≤ (ji5)) = true := decide_eq_true c6
   clear c6
   by_cases c7 : (ji5 : Int).toNat ≤ 35184372088832
   ·rw [if_pos c7] at H
    have c7b0 := eq_true c7
    have c7b1 : decide ((ji5 : Int).toNat ≤ 35184372088832) = true := decide_eq_true c7
    clear c7
    obtain ⟨y102, hy102⟩ : ∃ y_ : List Int, y_ = (List.replicate (ji5 : Int).toNat 0) := ⟨_, rfl⟩
    replace H : (measure_Edit.l0 kj2 x0_2 x1_2 y102 (y102.length : Int) 0) = some r := by (have H2_ := (Option.bind_some _ _).symm.trans H; rw [hy102]; with_reducible exact H2_)
    have Ny102 := Aside0.mk hy102
    clear hy102
    have H' := Aside0.mk H
    clear H
    go_wp2_with (first | ((with_reducible refine gate_dst (N := 21) rfl ?_); refine Kd.R_make (Kd.int .i64) _ 3 rfl (N := 21) rfl 93 _ _ rfl ji5 rfl rfl Tryd.underlying93 (.int .i64 0) 8 info3 rfl (by decide) (by omega) 0 (ok := fun _ => True) (okp := fun _ => True) rfl (fun _ hk => hk) trivial (of_decide_eq_true (by (with_reducible assumption))) (Nat.le_trans (Nat.mul_le_mul_right _ (of_decide_eq_true (by (with_reducible assumption)) : ji5.toNat ≤ 35184372088832)) (by omega)) (Below.refl _ _) (Nat.le_refl _) ?_; intro v103 w8 ho9 hb hg_ hnew_; clear hg_ hnew_; ((rw [← Ny102.out] at ho9)); have n0_ := Aside0.mk (Kd.R_lower ho9 (below_size HB.out)); have n1_ := Aside0.mk (below_step HB.out hb); clear HB; have HO104 := n0_; have HB := n1_; clear n0_ n1_; clear hb ho9; obtain ⟨Ao10, co10, eo10⟩ := Kd.R_slice HO104.out; subst eo10))
    go_loopg [24] kj2 (fun kq v24 w' => ∃ (x5_2 : List Int) (x24_2 : Int), v24 = .int .i64 x24_2 ∧ Aside0 (measure_Edit.l0 kq x0_2 x1_2 x5_2 (y102.length : Int) x24_2 = some r) ∧ Aside0 (kq ≤ kj2) ∧ Aside0 (Kd.R (Kd.int .i64) 3 w' w.heap.size (fun _ => True) (.slice Ao10 y102.length co10) x5_2) ∧ Aside0 (Below w.heap.size w w'))
    case atStart => exact ⟨(y102), (0), (by rfl), H', ⟨Nat.le_refl _⟩, ⟨by exact HO104.out⟩, ⟨by repeat ((with_reducible (exact HB.out)))⟩⟩
    clear H'
    clear c6b0 c6b1
    clear c7b0 c7b1
    obtain ⟨x5_2, x24_2, rfl, HA, HK2, HO_5, HB⟩ := hrel
    have hl5_2 := (Kd.R_reads' HO_5.out).1
    rw [hl5_2] at HO_5
    (try simp only [hl5_2])
    cases gk with
    | zero => exact absurd HA.out (by simp [measure_Edit.l0])
    | succ k2 =>
     have H := HA.out
     clear HA
     simp only [measure_Edit.l0] at H
     by_cases c11 : x24_2 < (y102.length : Int)
     ·rw [if_pos c11] at H
      have c11b0 : decide (x24_2 < (y102.length : Int)) = true := decide_eq_true c11
      (try (have c11b0_hl5_2 := c11b0; rw [hl5_2] at c11b0_hl5_2))
      clear c11
      by_cases c12 : 0 ≤ x24_2
      ·rw [if_pos c12] at H
       have c12b0 : decide (0 ≤ x24_2) = true := decide_eq_true c12
       clear c12
       by_cases c13 : x24_2 < (x5_2.length : Int)
       ·rw [if_pos c13] at H
        have c13b0 : decide (x24_2 < (x5_2.length : Int)) = true := decide_eq_true c13
        clear c13
        obtain ⟨y105, hy105⟩ : ∃ y_ : List Int, y_ = (x5_2.set (x24_2 : Int).toNat x24_2) := ⟨_, rfl⟩
        replace H : (measure_Edit.l0 k2 x0_2 x1_2 y105 (y102.length : Int) (wrap64 (x24_2 + 1))) = some r := by (rw [hy105]; with_reducible exact H)
        have Ny105 := Aside0.mk hy105
        clear hy105
        have H' := Aside0.mk H
        clear H
        have p14 : 0 ≤ (x24_2 : Int) := of_decide_eq_true (by (with_reducible assumption))
        have q14 : (x24_2 : Int) < ((x5_2.length : Int) : Int) := of_decide_eq_true (by (with_reducible assumption))
        obtain ⟨go14, co14, eo14, gb14, gl14, cl14, HG14⟩ := Kd.R_form HO_5.out (by omega)
        (cases eo14)
        have GB14 := Aside0.mk gb14
        have GG14 := Aside0.mk HG14
        clear gb14 gl14 HG14
        obtain ⟨hx14_0, hf14_0⟩ := Kd.R_celln 0 HO_5.out (x24_2 : Int) p14 q14
        replace p14 := eq_true p14
        replace q14 := eq_true q14
        have HP15 := Kd.R_putg HO_5.out (x24_2 : Int) x24_2
        go_wp2_with (first | ((with_reducible refine gate_store (t := 3) (p := 30) rfl ?_); refine store_event (t := 3) (p := 30) (v := ?vo_w16) (w1 := (wr.setCell ⟨go14, (x24_2 : Int).toNat, none⟩ (.int .i64 x24_2))) ?hg ?ho ?hn ?hr ?_; (case ho => rfl); (case hg => rfl); (case hn => rfl); (case hr => (go_simp; done)); intro w16 hw; have hg : wr.grownBy w16 (some go14) := (by rw [hw]; exact HP15.2); have hp_ : Kd.R (Kd.int .i64) 3 w16 w.heap.size (fun _ => True) (.slice (some ⟨go14, 0, none⟩) x5_2.length co10) y105 := (by rw [hw, Ny105.out]; exact HP15.1); clear HP15; have n0_ := Aside0.mk (hp_); have n1_ := Aside0.mk ((by rw [hw]; exact below_set (HB.out) GB14.out : Below w.heap.size w w16)); clear HO_5; clear HB; have HO_5 := n0_; have HB := n1_; clear n0_ n1_; clear hg hw hp_))
        (try simp only [← hl5_2])
        go_roundg k2
        case measure => have := HJ2.out; have := HK2.out; omega
        case rel => exact ⟨(y105), (wrap64 (x24_2 + 1)), (by rfl), H', ⟨by have := HJ2.out; have := HK2.out; omega⟩, ⟨by (try simp only [hl5_2]); exact HO_5.out⟩, ⟨by repeat ((with_reducible (exact HB.out)))⟩⟩
       rw [if_neg c13] at H
       exact absurd H (by simp)
      rw [if_neg c12] at H
      exact absurd H (by simp)
     rw [if_neg c11] at H
     have c11b0 : decide (x24_2 < (y102.length : Int)) = false := decide_eq_false c11
     (try (have c11b0_hl5_2 := c11b0; rw [hl5_2] at c11b0_hl5_2))
     clear c11
     have H' := Aside0.mk H
     clear H
     go_wp2
     go_loopg [34] k2 (fun kq v34 w' => ∃ (x5_3 : List Int) (x34_3 : Int), v34 = .int .i64 x34_3 ∧ Aside0 (measure_Edit.l1 kq x0_2 x1_2 x5_3 (x0_2.size : Int) x34_3 = some r) ∧ Aside0 (kq ≤ k2) ∧ Aside0 (Kd.R (Kd.int .i64) 3 w' w.heap.size (fun _ => True) (.slice Ao10 x5_2.length co10) x5_3) ∧ Aside0 (Below w.heap.size w w'))
     case atStart => exact ⟨(x5_2), (0), (by rfl), H', ⟨Nat.le_refl _⟩, ⟨by exact HO_5.out⟩, ⟨by repeat ((with_reducible (exact HB.out)))⟩⟩
     clear H'
     clear c11b0
     obtain ⟨x5_3, x34_3, rfl, HA, HK3, HO_5, HB⟩ := hrel
     have hl5_3 := (Kd.R_reads' HO_5.out).1
     rw [hl5_3] at HO_5
     (try simp only [hl5_3])
     cases gk with
     | zero => exact absurd HA.out (by simp [measure_Edit.l1])
     | succ k3 =>
      have H := HA.out
      clear HA
      simp only [measure_Edit.l1] at H
      by_cases c17 : x34_3 < (x0_2.size : Int)
      ·rw [if_pos c17] at H
       have c17b0 : decide (x34_3 < (x0_2.size : Int)) = true := decide_eq_true c17
       clear c17
       by_cases c18 : 0 < (x5_3.length : Int)
       ·rw [if_pos c18] at H
        have c18b0 : decide (0 < (x5_3.length : Int)) = true := decide_eq_true c18
        have c18b1 : decide (0 < x5_3.length) = true := decide_eq_true (by omega)
        clear c18
        obtain ⟨y108, hy108⟩ : ∃ y_ : List Int, y_ = (x5_3.set (0 : Int).toNat (wrap64 (x34_3 + 1))) := ⟨_, rfl⟩
        replace H : (measure_Edit.l2 k3 x0_2 x1_2 y108 x34_3 (rd x5_3 0) (x0_2.size : Int) x34_3 (x1_2.size : Int) 0) = some r := by (rw [hy108]; with_reducible exact H)
        have Ny108 := Aside0.mk hy108
        clear hy108
        have H' := Aside0.mk H
        clear H
        have p107 : 0 ≤ (0 : Int) := (by omega)
        have q107 : 0 < (x5_3.length : Int) := of_decide_eq_true (by (with_reducible assumption))
        obtain ⟨ad107, e107, hx107_0⟩ := Kd.at_int (Kd.R_reads' HO_5.out).2.2 0 p107 q107
        cases e107
        have qi107 : (0 < x5_3.length) = True := eq_true (by omega)
        (try rw [show ((0 : Int)).toNat = 0 from rfl] at hx107_0)
        (try rw [Addr.add_zero'] at hx107_0)
        replace p107 := eq_true p107
        replace q107 := eq_true q107
        have p19 : 0 ≤ (0 : Int) := (by omega)
        have q19 : (0 : Int) < ((x5_3.length : Int) : Int) := of_decide_eq_true (by (with_reducible assumption))
        have qi19 : (0 < x5_3.length) = True := eq_true (by omega)
        obtain ⟨go19, co19, eo19, gb19, gl19, cl19, HG19⟩ := Kd.R_form HO_5.out (by omega)
        (cases eo19)
        have GB19 := Aside0.mk gb19
        have GG19 := Aside0.mk HG19
        clear gb19 gl19 HG19
        obtain ⟨hx19_0, hf19_0⟩ := Kd.R_celln 0 HO_5.out (0 : Int) p19 q19
        (try rw [show ((0 : Int)).toNat = 0 from rfl] at hx19_0)
        (try rw [show ((0 : Int)).toNat = 0 from rfl] at hf19_0)
        replace p19 := eq_true p19
        replace q19 := eq_true q19
        have HP20 := Kd.R_putg HO_5.out (0 : Int) (wrap64 (x34_3 + 1))
        go_wp2_with (first | ((with_reducible refine gate_store (t := 3) (p := 43) rfl ?_); refine store_event (t := 3) (p := 43) (v := ?vo_w21) (w1 := (wr.setCell ⟨go19, (0 : Int).toNat, none⟩ (.int .i64 (wrap64 (x34_3 + 1))))) ?hg ?ho ?hn ?hr ?_; (case ho => rfl); (case hg => rfl); (case hn => rfl); (case hr => (go_simp; done)); intro w21 hw; have hg : wr.grownBy w21 (some go19) := (by rw [hw]; exact HP20.2); have hp_ : Kd.R (Kd.int .i64) 3 w21 w.heap.size (fun _ => True) (.slice (some ⟨go19, 0, none⟩) x5_3.length co10) y108 := (by rw [hw, Ny108.out]; exact HP20.1); clear HP20; have n0_ := Aside0.mk (hp_); have n1_ := Aside0.mk ((by rw [hw]; exact below_set (HB.out) GB19.out : Below w.heap.size w w21)); clear HO_5; clear HB; have HO_5 := n0_; have HB := n1_; clear n0_ n1_; clear hg hw hp_))
        go_loopg [8, 46] k3 (fun kq v8 v46 w' => ∃ (x5_4 : List Int) (x8_4 : Int) (x46_4 : Int), v8 = .int .i64 x8_4 ∧ v46 = .int .i64 x46_4 ∧ Aside0 (measure_Edit.l2 kq x0_2 x1_2 x5_4 x34_3 x8_4 (x0_2.size : Int) x34_3 (x1_2.size : Int) x46_4 = some r) ∧ Aside0 (kq ≤ k3) ∧ Aside0 (Kd.R (Kd.int .i64) 3 w' w.heap.size (fun _ => True) (.slice (some ⟨go19, 0, none⟩) x5_3.length co10) x5_4) ∧ Aside0 (Below w.heap.size w w'))
        case atStart => exact ⟨(y108), (rd x5_3 0), (0), (by rfl), (by rfl), H', ⟨Nat.le_refl _⟩, ⟨by exact HO_5.out⟩, ⟨by repeat ((with_reducible (exact HB.out)))⟩⟩
        clear H'
        clear c17b0
        clear c18b0 c18b1 p19 q19
        clear qi19
        clear hx107_0
        clear hx19_0
        clear p107
        clear q107
        obtain ⟨x5_4, x8_4, x46_4, rfl, rfl, HA, HK4, HO_5, HB⟩ := hrel
        have hl5_4 := (Kd.R_reads' HO_5.out).1
        rw [hl5_4] at HO_5
        (try simp only [hl5_4])
        cases gk with
        | zero => exact absurd HA.out (by simp [measure_Edit.l2])
        | succ k4 =>
         have H := HA.out
         clear HA
         simp only [measure_Edit.l2] at H
         by_cases c22 : x46_4 < (x1_2.size : Int)
         ·rw [if_pos c22] at H
          have c22b0 : decide (x46_4 < (x1_2.size : Int)) = true := decide_eq_true c22
          clear c22
          by_cases c23 : 0 ≤ x34_3
          ·rw [if_pos c23] at H
           have c23b0 : decide (0 ≤ x34_3) = true := decide_eq_true c23
           clear c23
           by_cases c24 : x34_3 < (x0_2.size : Int)
           ·rw [if_pos c24] at H
            have c24b0 : decide (x34_3 < (x0_2.size : Int)) = true := decide_eq_true c24
            clear c24
            by_cases c26 : 0 ≤ x46_4
            ·rw [if_pos c26] at H
             have c26b0 : decide (0 ≤ x46_4) = true := decide_eq_true c26
             clear c26
             by_cases c27 : x46_4 < (x1_2.size : Int)
             ·rw [if_pos c27] at H
              have c27b0 : decide (x46_4 < (x1_2.size : Int)) = true := decide_eq_true c27
              clear c27
              by_cases c29 : (bt x0_2 x34_3) = (bt x1_2 x46_4)
              ·rw [if_pos c29] at H
               have c29b0 : ((bt x0_2 x34_3) == (bt x1_2 x46_4)) = true := beq_iff_eq.mpr c29
               have c29b1 : ((bt x0_2 x34_3) != (bt x1_2 x46_4)) = false := bne_eq_false_iff_eq.mpr c29
               clear c29
               obtain ⟨ji30, hji30⟩ : ∃ j_ : Int, (wrap64 (x46_4 + 1)) = j_ := ⟨_, rfl⟩
               replace H : (if 0 ≤ (ji30) then (if (ji30) < (x5_4.length : Int) then (if x46_4 < (x5_4.length : Int) then ((measure_least.f k4 (wrap64 (x8_4 + 0)) (([wrap64 ((rd x5_4 x46_4) + 1), wrap64 ((rd x5_4 (ji30)) + 1)] : List Int))).bind fun t115 => (measure_Edit.l2 k4 x0_2 x1_2 (x5_4.set ((ji30) : Int).toNat t115) x34_3 (rd x5_4 (ji30)) (x0_2.size : Int) x34_3 (x1_2.size : Int) ji30)) else (none)) else (none)) else (none)) = some r := by (rw [hji30] at H; exact H)
               have hji30w : (IntKind.i64.wrap (x46_4 + 1)) = ji30 := (i64_w _).trans hji30
               by_cases c31 : 0 ≤ (ji30)
               ·rw [if_pos c31] at H
                have c31b0 : decide (0 ≤ (ji30)) = true := decide_eq_true c31
                clear c31
                by_cases c32 : (ji30) < (x5_4.length : Int)
                ·rw [if_pos c32] at H
                 have c32b0 : decide ((ji30) < (x5_4.length : Int)) = true := decide_eq_true c32
                 clear c32
                 by_cases c33 : x46_4 < (x5_4.length : Int)
                 ·rw [if_pos c33] at H
                  have c33b0 : decide (x46_4 < (x5_4.length : Int)) = true := decide_eq_true c33
                  clear c33
                  obtain ⟨y112, hy112⟩ : ∃ y_ : List Int, y_ = (([wrap64 ((rd x5_4 x46_4) + 1), wrap64 ((rd x5_4 (ji30)) + 1)] : List Int)) := ⟨_, rfl⟩
                  replace H : ((measure_least.f k4 (wrap64 (x8_4 + 0)) y112).bind fun t115 => (measure_Edit.l2 k4 x0_2 x1_2 (x5_4.set ((ji30) : Int).toNat t115) x34_3 (rd x5_4 (ji30)) (x0_2.size : Int) x34_3 (x1_2.size : Int) ji30)) = some r := by (rw [hy112]; with_reducible exact H)
                  have Ny112 := Aside0.mk hy112
                  clear hy112
                  replace H := Option.bind_eq_some_iff.mp H
                  obtain ⟨t115, A340, H⟩ := H
                  replace H : (measure_Edit.l2 k4 x0_2 x1_2 (x5_4.set ((ji30) : Int).toNat t115) x34_3 (rd x5_4 (ji30)) (x0_2.size : Int) x34_3 (x1_2.size : Int) ji30) = some r := H
                  have A34 := Aside0.mk A340
                  clear A340
                  obtain ⟨y116, hy116⟩ : ∃ y_ : List Int, y_ = (x5_4.set ((ji30) : Int).toNat t115) := ⟨_, rfl⟩
                  replace H : (measure_Edit.l2 k4 x0_2 x1_2 y116 x34_3 (rd x5_4 (ji30)) (x0_2.size : Int) x34_3 (x1_2.size : Int) ji30) = some r := by (rw [hy116]; with_reducible exact H)
                  have Ny116 := Aside0.mk hy116
                  clear hy116
                  have H' := Aside0.mk H
                  clear H
                  try go_wp2
                  have n0_ := Aside0.mk (Kd.R_drew HO_5.out)
                  have n1_ := Aside0.mk (below_drew1 HB.out)
                  clear HO_5
                  clear HB
                  have HO_5 := n0_
                  have HB := n1_
                  clear n0_ n1_
                  have p25 : 0 ≤ (x34_3 : Int) := of_decide_eq_true (by (with_reducible assumption))
                  have q25 : x34_3 < (x0_2.size : Int) := of_decide_eq_true (by (with_reducible assumption))
                  have hx25 := bt_at x0_2 x34_3
                  replace p25 := eq_true p25
                  replace q25 := eq_true q25
                  have p28 : 0 ≤ (x46_4 : Int) := of_decide_eq_true (by (with_reducible assumption))
                  have q28 : x46_4 < (x1_2.size : Int) := of_decide_eq_true (by (with_reducible assumption))
                  have hx28 := bt_at x1_2 x46_4
                  replace p28 := eq_true p28
                  replace q28 := eq_true q28
                  refine start_ (n := 7) (S := fun w' => True) (ds := []) #[Z0,Z0,Z0,Z0,Z0,Z0,Z0] (by kernel_rfl) rfl rfl trivial (fun hHeld => ?_)
                  generalize wr.drew = w36 at HO_5 HB hHeld ⊢
                  refine pure_ (i := 0) (N := some 49) (v := ?_) (a' := ?_) #[Z1,Z0,Z0,Z0,Z0,Z0,Z0] rfl rfl (by kernel_rfl) (fun _ _ _ h => h) (Or.inl ⟨by rfl, ?_⟩) ?_ ?_
                  rotate_left; intro w'; go_simp; with_reducible rfl; rotate_left; simp only [Act.put, pS_, pZ_, pC_, i64_w, i32_w]; rfl
                  refine pure_ (i := 1) (N := some 50) (v := ?_) (a' := ?_) #[Z1,Z1,Z0,Z0,Z0,Z0,Z0] rfl rfl (by kernel_rfl) (fun _ _ _ h => h) (Or.inl ⟨by rfl, ?_⟩) ?_ ?_
                  rotate_left; intro w'; go_simp; with_reducible rfl; rotate_left; simp only [Act.put, pS_, pZ_, pC_, i64_w, i32_w]; rfl
                  refine pure_ (i := 3) (N := some 52) (v := ?_) (a' := ?_) #[Z1,Z1,Z0,Z1,Z0,Z0,Z0] rfl rfl (by kernel_rfl) (fun _ _ _ h => h) (Or.inl ⟨by rfl, ?_⟩) ?_ ?_
                  rotate_left; intro w'; go_simp; with_reducible rfl; rotate_left; simp only [Act.put, pS_, pZ_, pC_, i64_w, i32_w]; rfl
                  refine pure_ (i := 4) (N := some 53) (v := ?_) (a' := ?_) #[Z1,Z1,Z0,Z1,Z1,Z0,Z0] rfl rfl (by kernel_rfl) (fun _ _ _ h => h) (Or.inl ⟨by rfl, ?_⟩) ?_ ?_
                  rotate_left; intro w'; go_simp; with_reducible rfl; rotate_left; simp only [Act.put, pS_, pZ_, pC_, i64_w, i32_w]; rfl
                  refine take_ (i := 2) (N := some 51) (v := ?_) (a' := ?_) #[Z1,Z1,Z1,Z1,Z1,Z0,Z0] rfl rfl (by kernel_rfl) (fun _ _ _ h => h) (Or.inl ⟨by rfl, ?_⟩) hHeld ?_ ?_
                  rotate_left
                  ·intro w' _
                   go_simp
                   with_reducible rfl
                  rotate_left
                  ·simp only [Act.put, pS_, pZ_, pC_, i64_w, i32_w]
                   rfl
                  refine take_ (i := 5) (N := some 54) (v := ?_) (a' := ?_) #[Z1,Z1,Z1,Z1,Z1,Z1,Z0] rfl rfl (by kernel_rfl) (fun _ _ _ h => h) (Or.inl ⟨by rfl, ?_⟩) hHeld ?_ ?_
                  rotate_left
                  ·intro w' _
                   go_simp
                   with_reducible rfl
                  rotate_left
                  ·simp only [Act.put, pS_, pZ_, pC_, i64_w, i32_w]
                   rfl
                  refine pure_ (i := 6) (N := some 55) (v := ?_) (a' := ?_) #[Z1,Z1,Z1,Z1,Z1,Z1,Z1] rfl rfl (by kernel_rfl) (fun _ _ _ h => h) (Or.inl ⟨by rfl, ?_⟩) ?_ ?_
                  rotate_left; intro w'; go_simp; with_reducible rfl; rotate_left; simp only [Act.put, pS_, pZ_, pC_, i64_w, i32_w]; rfl
                  refine done_ (by kernel_rfl) ?_
                  try go_wp2
                  have n0_ := Aside0.mk (Kd.R_drew HO_5.out)
                  have n1_ := Aside0.mk (below_drew1 HB.out)
                  clear HO_5
                  clear HB
                  have HO_5 := n0_
                  have HB := n1_
                  clear n0_ n1_
                  have p109 : 0 ≤ ((ji30) : Int) := of_decide_eq_true (by (with_reducible assumption))
                  have q109 : (ji30) < (x5_4.length : Int) := of_decide_eq_true (by (with_reducible assumption))
                  obtain ⟨ad109, e109, hx109_0⟩ := Kd.at_int (Kd.R_reads' HO_5.out).2.2 (ji30) p109 q109
                  obtain rfl : (⟨go19, 0, none⟩ : Addr) = ad109 := (by injection e109)
                  ((simp only [add_plain] at hx109_0))
                  replace p109 := eq_true p109
                  replace q109 := eq_true q109
                  have p110 : 0 ≤ (x46_4 : Int) := of_decide_eq_true (by (with_reducible assumption))
                  have q110 : x46_4 < (x5_4.length : Int) := of_decide_eq_true (by (with_reducible assumption))
                  obtain ⟨ad110, e110, hx110_0⟩ := Kd.at_int (Kd.R_reads' HO_5.out).2.2 x46_4 p110 q110
                  obtain rfl : (⟨go19, 0, none⟩ : Addr) = ad110 := (by injection e110)
                  ((simp only [add_plain] at hx110_0))
                  replace p110 := eq_true p110
                  replace q110 := eq_true q110
                  have p111 : 0 ≤ ((ji30) : Int) := of_decide_eq_true (by (with_reducible assumption))
                  have q111 : (ji30) < (x5_4.length : Int) := of_decide_eq_true (by (with_reducible assumption))
                  obtain ⟨ad111, e111, hx111_0⟩ := Kd.at_int (Kd.R_reads' HO_5.out).2.2 (ji30) p111 q111
                  obtain rfl : (⟨go19, 0, none⟩ : Addr) = ad111 := (by injection e111)
                  ((simp only [add_plain] at hx111_0))
                  replace p111 := eq_true p111
                  replace q111 := eq_true q111
                  refine start_ (n := 27) (S := fun w' => w'.cell? ⟨go19, (ji30).toNat, none⟩ = some (.int .i64 (rd x5_4 (ji30))) ∧ w'.cell? ⟨go19, (x46_4).toNat, none⟩ = some (.int .i64 (rd x5_4 x46_4)) ∧ w'.cell? ⟨go19, (ji30).toNat, none⟩ = some (.int .i64 (rd x5_4 (ji30)))) (ds := [26]) #[Z0,Z0,Z0,Z0,Z0,Z0,Z0,Z0,Z0,Z0,Z0,Z0,Z0,Z0,Z0,Z0,Z0,Z0,Z0,Z0,Z0,Z0,Z0,Z0,Z0,Z0,Z0] (by kernel_rfl) rfl rfl ⟨hx109_0, hx110_0, hx111_0⟩ (fun hHeld => ?_); refine with_tabW measure_Edit.tab20 measure_Edit.bits20 (fun HT_ HW_ => ?_)
                  generalize w36.drew = w37 at HO_5 HB hx109_0 hx110_0 hx111_0 hHeld ⊢
                  refine pure_ (i := 0) (N := some 56) (v := ?_) (a' := ?_) #[Z1,Z0,Z0,Z0,Z0,Z0,Z0,Z0,Z0,Z0,Z0,Z0,Z0,Z0,Z0,Z0,Z0,Z0,Z0,Z0,Z0,Z0,Z0,Z0,Z0,Z0,Z0] rfl rfl (any_of HT_.out (by kernel_rfl)) (fun _ _ _ h => h) (Or.inl ⟨by rfl, ?_⟩) ?_ ?_
                  rotate_left; intro w'; go_simp; with_reducible rfl; rotate_left; simp only [Act.put, pS_, pZ_, pC_, i64_w, i32_w]; rfl
                  refine pure_ (i := 1) (N := some 57) (v := ?_) (a' := ?_) #[Z1,Z1,Z0,Z0,Z0,Z0,Z0,Z0,Z0,Z0,Z0,Z0,Z0,Z0,Z0,Z0,Z0,Z0,Z0,Z0,Z0,Z0,Z0,Z0,Z0,Z0,Z0] rfl rfl (any_of HT_.out (by kernel_rfl)) (fun _ _ _ h => h) (Or.inl ⟨by rfl, ?_⟩) ?_ ?_
                  rotate_left; intro w'; go_simp; with_reducible rfl; rotate_left; simp only [Act.put, pS_, pZ_, pC_, i64_w, i32_w]; rfl
                  refine pure_ (i := 2) (N := some 58) (v := ?_) (a' := ?_) #[Z1,Z1,Z1,Z0,Z0,Z0,Z0,Z0,Z0,Z0,Z0,Z0,Z0,Z0,Z0,Z0,Z0,Z0,Z0,Z0,Z0,Z0,Z0,Z0,Z0,Z0,Z0] rfl rfl (any_of HT_.out (by kernel_rfl)) (fun _ _ _ h => h) (Or.inl ⟨by rfl, ?_⟩) ?_ ?_
                  rotate_left; intro w'; go_simp; with_reducible rfl; rotate_left; simp only [Act.put, pS_, pZ_, pC_, i64_w, i32_w]; rfl
                  refine pure_ (i := 3) (N := some 59) (v := ?_) (a' := ?_) #[Z1,Z1,Z1,Z1,Z0,Z0,Z0,Z0,Z0,Z0,Z0,Z0,Z0,Z0,Z0,Z0,Z0,Z0,Z0,Z0,Z0,Z0,Z0,Z0,Z0,Z0,Z0] rfl rfl (any_of HT_.out (by kernel_rfl)) (fun _ _ _ h => h) (Or.inl ⟨by rfl, ?_⟩) ?_ ?_
                  rotate_left; intro w'; go_simp; with_reducible rfl; rotate_left; simp only [Act.put, pS_, pZ_, pC_, i64_w, i32_w]; rfl
                  refine pure_ (i := 4) (N := some 60) (v := ?_) (a' := ?_) #[Z1,Z1,Z1,Z1,Z1,Z0,Z0,Z0,Z0,Z0,Z0,Z0,Z0,Z0,Z0,Z0,Z0,Z0,Z0,Z0,Z0,Z0,Z0,Z0,Z0,Z0,Z0] rfl rfl (any_of HT_.out (by kernel_rfl)) (fun _ _ _ h => h) (Or.inl ⟨by rfl, ?_⟩) ?_ ?_
                  rotate_left; intro w'; go_simp; with_reducible rfl; rotate_left; simp only [Act.put, pS_, pZ_, pC_, i64_w, i32_w]; rfl
                  refine pure_ (i := 5) (N := some 61) (v := ?_) (a' := ?_) #[Z1,Z1,Z1,Z1,Z1,Z1,Z0,Z0,Z0,Z0,Z0,Z0,Z0,Z0,Z0,Z0,Z0,Z0,Z0,Z0,Z0,Z0,Z0,Z0,Z0,Z0,Z0] rfl rfl (any_of HT_.out (by kernel_rfl)) (fun _ _ _ h => h) (Or.inl ⟨by rfl, ?_⟩) ?_ ?_
                  rotate_left; intro w'; go_simp; with_reducible rfl; rotate_left; simp only [Act.put, pS_, pZ_, pC_, i64_w, i32_w]; rfl
                  refine pure_ (i := 6) (N := some 62) (v := ?_) (a' := ?_) #[Z1,Z1,Z1,Z1,Z1,Z1,Z1,Z0,Z0,Z0,Z0,Z0,Z0,Z0,Z0,Z0,Z0,Z0,Z0,Z0,Z0,Z0,Z0,Z0,Z0,Z0,Z0] rfl rfl (any_of HT_.out (by kernel_rfl)) (fun _ _ _ h => h) (Or.inl ⟨by rfl, ?_⟩) ?_ ?_
                  rotate_left; intro w'; go_simp; with_reducible rfl; rotate_left; simp only [Act.put, pS_, pZ_, pC_, i64_w, i32_w]; rfl
                  refine pure_ (i := 8) (N := some 64) (v := ?_) (a' := ?_) #[Z1,Z1,Z1,Z1,Z1,Z1,Z1,Z0,Z1,Z0,Z0,Z0,Z0,Z0,Z0,Z0,Z0,Z0,Z0,Z0,Z0,Z0,Z0,Z0,Z0,Z0,Z0] rfl rfl (any_of HT_.out (by kernel_rfl)) (fun _ _ _ h => h) (Or.inl ⟨by rfl, ?_⟩) ?_ ?_
                  rotate_left; intro w'; go_simp; with_reducible rfl; rotate_left; simp only [Act.put, pS_, pZ_, pC_, i64_w, i32_w]; rfl
                  refine pure_ (i := 9) (N := some 65) (v := ?_) (a' := ?_) #[Z1,Z1,Z1,Z1,Z1,Z1,Z1,Z0,Z1,Z1,Z0,Z0,Z0,Z0,Z0,Z0,Z0,Z0,Z0,Z0,Z0,Z0,Z0,Z0,Z0,Z0,Z0] rfl rfl (any_of HT_.out (by kernel_rfl)) (fun _ _ _ h => h) (Or.inl ⟨by rfl, ?_⟩) ?_ ?_
                  rotate_left; intro w'; go_simp; with_reducible rfl; rotate_left; simp only [Act.put, pS_, pZ_, pC_, i64_w, i32_w]; rfl
                  refine pure_ (i := 10) (N := some 66) (v := ?_) (a' := ?_) #[Z1,Z1,Z1,Z1,Z1,Z1,Z1,Z0,Z1,Z1,Z1,Z0,Z0,Z0,Z0,Z0,Z0,Z0,Z0,Z0,Z0,Z0,Z0,Z0,Z0,Z0,Z0] rfl rfl (any_of HT_.out (by kernel_rfl)) (fun _ _ _ h => h) (Or.inl ⟨by rfl, ?_⟩) ?_ ?_
                  rotate_left; intro w'; go_simp; with_reducible rfl; rotate_left; simp only [Act.put, pS_, pZ_, pC_, i64_w, i32_w]; rfl
                  refine pure_ (i := 11) (N := some 67) (v := ?_) (a' := ?_) #[Z1,Z1,Z1,Z1,Z1,Z1,Z1,Z0,Z1,Z1,Z1,Z1,Z0,Z0,Z0,Z0,Z0,Z0,Z0,Z0,Z0,Z0,Z0,Z0,Z0,Z0,Z0] rfl rfl (any_of HT_.out (by kernel_rfl)) (fun _ _ _ h => h) (Or.inl ⟨by rfl, ?_⟩) ?_ ?_
                  rotate_left; intro w'; go_simp; with_reducible rfl; rotate_left; simp only [Act.put, pS_, pZ_, pC_, i64_w, i32_w]; rfl
                  refine pure_ (i := 12) (N := some 68) (v := ?_) (a' := ?_) #[Z1,Z1,Z1,Z1,Z1,Z1,Z1,Z0,Z1,Z1,Z1,Z1,Z1,Z0,Z0,Z0,Z0,Z0,Z0,Z0,Z0,Z0,Z0,Z0,Z0,Z0,Z0] rfl rfl (any_of HT_.out (by kernel_rfl)) (fun _ _ _ h => h) (Or.inl ⟨by rfl, ?_⟩) ?_ ?_
                  rotate_left; intro w'; go_simp; with_reducible rfl; rotate_left; simp only [Act.put, pS_, pZ_, pC_, i64_w, i32_w]; rfl
                  refine pure_ (i := 13) (N := some 69) (v := ?_) (a' := ?_) #[Z1,Z1,Z1,Z1,Z1,Z1,Z1,Z0,Z1,Z1,Z1,Z1,Z1,Z1,Z0,Z0,Z0,Z0,Z0,Z0,Z0,Z0,Z0,Z0,Z0,Z0,Z0] rfl rfl (any_of HT_.out (by kernel_rfl)) (fun _ _ _ h => h) (Or.inl ⟨by rfl, ?_⟩) ?_ ?_
                  rotate_left; intro w'; go_simp; with_reducible rfl; rotate_left; simp only [Act.put, pS_, pZ_, pC_, i64_w, i32_w]; rfl
                  refine pure_ (i := 16) (N := some 72) (v := ?_) (a' := ?_) #[Z1,Z1,Z1,Z1,Z1,Z1,Z1,Z0,Z1,Z1,Z1,Z1,Z1,Z1,Z0,Z0,Z1,Z0,Z0,Z0,Z0,Z0,Z0,Z0,Z0,Z0,Z0] rfl rfl (any_of HT_.out (by kernel_rfl)) (fun _ _ _ h => h) (Or.inl ⟨by rfl, ?_⟩) ?_ ?_
                  rotate_left; intro w'; go_simp; with_reducible rfl; rotate_left; simp only [Act.put, pS_, pZ_, pC_, i64_w, i32_w]; rfl
                  refine pure_ (i := 17) (N := some 73) (v := ?_) (a' := ?_) #[Z1,Z1,Z1,Z1,Z1,Z1,Z1,Z0,Z1,Z1,Z1,Z1,Z1,Z1,Z0,Z0,Z1,Z1,Z0,Z0,Z0,Z0,Z0,Z0,Z0,Z0,Z0] rfl rfl (any_of HT_.out (by kernel_rfl)) (fun _ _ _ h => h) (Or.inl ⟨by rfl, ?_⟩) ?_ ?_
                  rotate_left; intro w'; go_simp; with_reducible rfl; rotate_left; simp only [Act.put, pS_, pZ_, pC_, i64_w, i32_w]; rfl
                  refine pure_ (i := 18) (N := some 74) (v := ?_) (a' := ?_) #[Z1,Z1,Z1,Z1,Z1,Z1,Z1,Z0,Z1,Z1,Z1,Z1,Z1,Z1,Z0,Z0,Z1,Z1,Z1,Z0,Z0,Z0,Z0,Z0,Z0,Z0,Z0] rfl rfl (any_of HT_.out (by kernel_rfl)) (fun _ _ _ h => h) (Or.inl ⟨by rfl, ?_⟩) ?_ ?_
                  rotate_left; intro w'; go_simp; with_reducible rfl; rotate_left; simp only [Act.put, pS_, pZ_, pC_, i64_w, i32_w]; rfl
                  refine pure_ (i := 19) (N := some 75) (v := ?_) (a' := ?_) #[Z1,Z1,Z1,Z1,Z1,Z1,Z1,Z0,Z1,Z1,Z1,Z1,Z1,Z1,Z0,Z0,Z1,Z1,Z1,Z1,Z0,Z0,Z0,Z0,Z0,Z0,Z0] rfl rfl (any_of HT_.out (by kernel_rfl)) (fun _ _ _ h => h) (Or.inl ⟨by rfl, ?_⟩) ?_ ?_
                  rotate_left; intro w'; go_simp; with_reducible rfl; rotate_left; simp only [Act.put, pS_, pZ_, pC_, i64_w, i32_w]; rfl
                  refine take_ (i := 7) (N := some 63) (v := ?_) (a' := ?_) #[Z1,Z1,Z1,Z1,Z1,Z1,Z1,Z1,Z1,Z1,Z1,Z1,Z1,Z1,Z0,Z0,Z1,Z1,Z1,Z1,Z0,Z0,Z0,Z0,Z0,Z0,Z0] rfl rfl (take_ofW HT_.out HW_.out (by kernel_rfl)) (fun _ _ _ h => h) (Or.inl ⟨by rfl, ?_⟩) hHeld ?_ ?_
                  rotate_left; rintro w' ⟨s0, s1, s2⟩; go_simp; with_reducible rfl; rotate_left; simp only [Act.put, pS_, pZ_, pC_, i64_w, i32_w]; rfl
                  refine take_ (i := 14) (N := some 70) (v := ?_) (a' := ?_) #[Z1,Z1,Z1,Z1,Z1,Z1,Z1,Z1,Z1,Z1,Z1,Z1,Z1,Z1,Z1,Z0,Z1,Z1,Z1,Z1,Z0,Z0,Z0,Z0,Z0,Z0,Z0] rfl rfl (take_ofW HT_.out HW_.out (by kernel_rfl)) (fun _ _ _ h => h) (Or.inl ⟨by rfl, ?_⟩) hHeld ?_ ?_
                  rotate_left; rintro w' ⟨s0, s1, s2⟩; go_simp; with_reducible rfl; rotate_left; simp only [Act.put, pS_, pZ_, pC_, i64_w, i32_w]; rfl
                  refine pure_ (i := 15) (N := some 71) (v := ?_) (a' := ?_) #[Z1,Z1,Z1,Z1,Z1,Z1,Z1,Z1,Z1,Z1,Z1,Z1,Z1,Z1,Z1,Z1,Z1,Z1,Z1,Z1,Z0,Z0,Z0,Z0,Z0,Z0,Z0] rfl rfl (any_of HT_.out (by kernel_rfl)) (fun _ _ _ h => h) (Or.inl ⟨by rfl, ?_⟩) ?_ ?_
                  rotate_left; intro w'; go_simp; with_reducible rfl; rotate_left; simp only [Act.put, pS_, pZ_, pC_, i64_w, i32_w]; rfl
                  refine take_ (i := 20) (N := some 76) (v := ?_) (a' := ?_) #[Z1,Z1,Z1,Z1,Z1,Z1,Z1,Z1,Z1,Z1,Z1,Z1,Z1,Z1,Z1,Z1,Z1,Z1,Z1,Z1,Z1,Z0,Z0,Z0,Z0,Z0,Z0] rfl rfl (take_ofW HT_.out HW_.out (by kernel_rfl)) (fun _ _ _ h => h) (Or.inl ⟨by rfl, ?_⟩) hHeld ?_ ?_
                  rotate_left; rintro w' ⟨s0, s1, s2⟩; go_simp; with_reducible rfl; rotate_left; simp only [Act.put, pS_, pZ_, pC_, i64_w, i32_w]; rfl
                  refine pure_ (i := 21) (N := some 77) (v := ?_) (a' := ?_) #[Z1,Z1,Z1,Z1,Z1,Z1,Z1,Z1,Z1,Z1,Z1,Z1,Z1,Z1,Z1,Z1,Z1,Z1,Z1,Z1,Z1,Z1,Z0,Z0,Z0,Z0,Z0] rfl rfl (any_of HT_.out (by kernel_rfl)) (fun _ _ _ h => h) (Or.inl ⟨by rfl, ?_⟩) ?_ ?_
                  rotate_left; intro w'; go_simp; with_reducible rfl; rotate_left; simp only [Act.put, pS_, pZ_, pC_, i64_w, i32_w]; rfl
                  refine one_ (i := 22) (N := some 78) #[Z1,Z1,Z1,Z1,Z1,Z1,Z1,Z1,Z1,Z1,Z1,Z1,Z1,Z1,Z1,Z1,Z1,Z1,Z1,Z1,Z1,Z1,Z1,Z0,Z0,Z0,Z0] rfl rfl (one_of HT_.out (by kernel_rfl)) (by decide) (fun K hK => ?_)
                  refine Kd.R_lit_step (Kd.int .i64) _ 3 ?hg (N := 78) ?hd (xs := ([wrap64 ((rd x5_4 x46_4) + 1), wrap64 ((rd x5_4 (ji30)) + 1)] : List Int)) (inner := [.int .i64 (wrap64 ((rd x5_4 x46_4) + 1)), .int .i64 (wrap64 ((rd x5_4 (ji30)) + 1))]) (ok := fun _ => True) (okp := fun _ => True) ?hr ?hp (fun _ hk => hk) trivial (Below.refl _ _) (Nat.le_refl _) (by simp) ?_; (case hd => rfl); (case hg => rfl); (case hr => (go_simp; done)); (case hp => exact (Reps.one (show Kd.M (Kd.int .i64) _ _ _ (wrap64 ((rd x5_4 x46_4) + 1)) [.int .i64 (wrap64 ((rd x5_4 x46_4) + 1))] from rfl) (Reps.one (show Kd.M (Kd.int .i64) _ _ _ (wrap64 ((rd x5_4 (ji30)) + 1)) [.int .i64 (wrap64 ((rd x5_4 (ji30)) + 1))] from rfl) (Reps.none _ _))))
                  intro v113 w38 ho39 hb hg_ hnew_
                  have HS0_ := (hb.cell (World.block_lt_of_cell? _ _ (hHeld.1))).trans (hHeld.1)
                  have HS1_ := (hb.cell (World.block_lt_of_cell? _ _ (hHeld.2.1))).trans (hHeld.2.1)
                  have HS2_ := (hb.cell (World.block_lt_of_cell? _ _ (hHeld.2.2))).trans (hHeld.2.2)
                  clear hg_ hnew_
                  ((rw [← Ny112.out] at ho39))
                  have n0_ := Aside0.mk (Kd.R_elder' (by exact HO_5.out) (Kd.R_base ho39) hb)
                  have n1_ := Aside0.mk (Kd.R_lower (Kd.R_new' ho39 (Kd.R_lt (by exact HO_5.out))) (below_size HB.out))
                  have n2_ := Aside0.mk (below_step HB.out hb)
                  clear HO_5
                  clear HB
                  have HO_5 := n0_
                  have HO114 := n1_
                  have HB := n2_
                  clear n0_ n1_ n2_
                  clear hb ho39
                  obtain ⟨Ao40, co40, eo40⟩ := Kd.R_slice HO114.out
                  (subst eo40)
                  refine hK.out _ _ ⟨HS0_, HS1_, HS2_⟩ (fun hHeld => ?_)
                  clear hK K
                  refine norm_ (a' := ?_) ?_ ?_
                  rotate_left; show Act.put _ (some 78) _ = _; simp only [Act.put, pS_, pZ_, pC_, i64_w, i32_w]; rfl
                  refine one_ (i := 23) (N := some 79) #[Z1,Z1,Z1,Z1,Z1,Z1,Z1,Z1,Z1,Z1,Z1,Z1,Z1,Z1,Z1,Z1,Z1,Z1,Z1,Z1,Z1,Z1,Z1,Z1,Z0,Z0,Z0] rfl rfl (one_of HT_.out (by kernel_rfl)) (by decide) (fun K hK => ?_)
                  refine goes_ Tryd.func72 (by kernel_rfl) rfl #[.int .i64 (wrap64 (x8_4 + 0)), .slice Ao40 y112.length co40] (by rfl) rfl rfl (by (try simp only [List.map_toArray, List.map_cons, List.map_nil]); (simp only [Int.add_zero]; rfl)) ?_
                  with_reducible refine (measure_least.calls k4 (wrap64 (x8_4 + 0)) _ _ y112 t115 _ ?side1 ?side2 A34.out).mono ?_
                  (case side1 => repeat ((exact (Kd.R_reads' HO114.out).2.2)))
                  (case side2 => exact (Kd.R_reads' HO114.out).2.1)
                  rintro e w41 ⟨rfl, hb⟩
                  have HS0_ := (hb.cell (World.block_lt_of_cell? _ _ (hHeld.1))).trans (hHeld.1)
                  have HS1_ := (hb.cell (World.block_lt_of_cell? _ _ (hHeld.2.1))).trans (hHeld.2.1)
                  have HS2_ := (hb.cell (World.block_lt_of_cell? _ _ (hHeld.2.2))).trans (hHeld.2.2)
                  refine ⟨_, rfl, ?_⟩
                  have n0_ := Aside0.mk (Kd.R_below (by exact HO_5.out) hb)
                  have n1_ := Aside0.mk (Kd.R_below (by exact HO114.out) hb)
                  have n2_ := Aside0.mk (below_step HB.out hb)
                  clear HO_5
                  clear HO114
                  clear HB
                  have HO_5 := n0_
                  have HO114 := n1_
                  have HB := n2_
                  clear n0_ n1_ n2_
                  (try clear hb)
                  have p35 : 0 ≤ ((ji30) : Int) := of_decide_eq_true (by (with_reducible assumption))
                  have q35 : ((ji30) : Int) < ((x5_4.length : Int) : Int) := of_decide_eq_true (by (with_reducible assumption))
                  obtain ⟨hx35_0, hf35_0⟩ := Kd.R_celln 0 HO_5.out ((ji30) : Int) p35 q35
                  replace p35 := eq_true p35
                  replace q35 := eq_true q35
                  have HP42 := Kd.R_putn HO_5.out ((ji30) : Int) t115
                  rw [← Ny116.out] at HP42
                  have HQ42 := Aside0.mk HP42
                  clear HP42
                  refine hK.out _ _ ⟨HS0_, HS1_, HS2_⟩ (fun hHeld => ?_)
                  clear hK K
                  refine norm_ (a' := ?_) ?_ ?_
                  rotate_left; show Act.put _ (some 79) _ = _; simp only [Act.put, pS_, pZ_, pC_, i64_w, i32_w]; rfl
                  refine pure_ (i := 24) (N := some 8) (v := ?_) (a' := ?_) #[Z1,Z1,Z1,Z1,Z1,Z1,Z1,Z1,Z1,Z1,Z1,Z1,Z1,Z1,Z1,Z1,Z1,Z1,Z1,Z1,Z1,Z1,Z1,Z1,Z1,Z0,Z0] rfl rfl (any_of HT_.out (by kernel_rfl)) (fun _ _ _ h => h) (Or.inl ⟨by rfl, ?_⟩) ?_ ?_
                  rotate_left; intro w'; go_simp; with_reducible rfl; rotate_left; simp only [Act.put, pS_, pZ_, pC_, i64_w, i32_w]; rfl
                  refine pure_ (i := 25) (N := some 80) (v := ?_) (a' := ?_) #[Z1,Z1,Z1,Z1,Z1,Z1,Z1,Z1,Z1,Z1,Z1,Z1,Z1,Z1,Z1,Z1,Z1,Z1,Z1,Z1,Z1,Z1,Z1,Z1,Z1,Z1,Z0] rfl rfl (any_of HT_.out (by kernel_rfl)) (fun _ _ _ h => h) (Or.inl ⟨by rfl, ?_⟩) ?_ ?_
                  rotate_left; intro w'; go_simp; with_reducible rfl; rotate_left; simp only [Act.put, pS_, pZ_, pC_, i64_w, i32_w]; rfl
                  refine last_ (i := 26) (N := none) #[Z1,Z1,Z1,Z1,Z1,Z1,Z1,Z1,Z1,Z1,Z1,Z1,Z1,Z1,Z1,Z1,Z1,Z1,Z1,Z1,Z1,Z1,Z1,Z1,Z1,Z1,Z1] rfl rfl (one_of HT_.out (by kernel_rfl)) (by decide) (fun K hK => ?_)
                  refine skip_ (w1 := ?_) (by rfl) rfl ?_ ?_
                  rotate_left
                  ·go_simp
                   rfl
                  refine hK.out _ _ ?_
                  clear hK K
                  refine done_ (done_of HT_.out (by kernel_rfl)) ?_
                  try go_wp2
                  (try simp only [← hl5_4])
                  go_roundg k4
                  case measure => have := HJ2.out; have := HK2.out; have := HK3.out; have := HK4.out; omega
                  case rel => exact ⟨(y116), (rd x5_4 (ji30)), (ji30), (by rfl), (by rfl), H', ⟨by have := HJ2.out; have := HK2.out; have := HK3.out; have := HK4.out; omega⟩, ⟨by (try simp only [hl5_4]); exact Kd.R_mono HQ42.out (fun _ hk => trivial)⟩, ⟨by repeat ((with_reducible first | exact HB.out | refine below_set ?_ GB19.out))⟩⟩
                 rw [if_neg c33] at H
                 exact absurd H (by simp)
                rw [if_neg c32] at H
                exact absurd H (by simp)
               rw [if_neg c31] at H
               exact absurd H (by simp)
              rw [if_neg c29] at H
              have c29b0 : ((bt x0_2 x34_3) == (bt x1_2 x46_4)) = false := beq_eq_false_iff_ne.mpr c29
              have c29b1 : ((bt x0_2 x34_3) != (bt x1_2 x46_4)) = true := bne_iff_ne.mpr c29
              obtain ⟨ji43, hji43⟩ : ∃ j_ : Int, (wrap64 (x46_4 + 1)) = j_ := ⟨_, rfl⟩
              replace H : (if 0 ≤ (ji43) then (if (ji43) < (x5_4.length : Int) then (if x46_4 < (x5_4.length : Int) then ((measure_least.f k4 (wrap64 (x8_4 + 1)) (([wrap64 ((rd x5_4 x46_4) + 1), wrap64 ((rd x5_4 (ji43)) + 1)] : List Int))).bind fun t123 => (measure_Edit.l2 k4 x0_2 x1_2 (x5_4.set ((ji43) : Int).toNat t123) x34_3 (rd x5_4 (ji43)) (x0_2.size : Int) x34_3 (x1_2.size : Int) ji43)) else (none)) else (none)) else (none)) = some r := by (rw [hji43] at H; exact H)
              have hji43w : (IntKind.i64.wrap (x46_4 + 1)) = ji43 := (i64_w _).trans hji43
              by_cases c44 : 0 ≤ (ji43)
              ·rw [if_pos c44] at H
               have c44b0 : decide (0 ≤ (ji43)) = true := decide_eq_true c44
               clear c44
               by_cases c45 : (ji43) < (x5_4.length : Int)
               ·rw [if_pos c45] at H
                have c45b0 : decide ((ji43) < (x5_4.length : Int)) = true := decide_eq_true c45
                clear c45
                by_cases c46 : x46_4 < (x5_4.length : Int)
                ·rw [if_pos c46] at H
                 have c46b0 : decide (x46_4 < (x5_4.length : Int)) = true := decide_eq_true c46
                 clear c46
                 obtain ⟨y120, hy120⟩ : ∃ y_ : List Int, y_ = (([wrap64 ((rd x5_4 x46_4) + 1), wrap64 ((rd x5_4 (ji43)) + 1)] : List Int)) := ⟨_, rfl⟩
                 replace H : ((measure_least.f k4 (wrap64 (x8_4 + 1)) y120).bind fun t123 => (measure_Edit.l2 k4 x0_2 x1_2 (x5_4.set ((ji43) : Int).toNat t123) x34_3 (rd x5_4 (ji43)) (x0_2.size : Int) x34_3 (x1_2.size : Int) ji43)) = some r := by (rw [hy120]; with_reducible exact H)
                 have Ny120 := Aside0.mk hy120
                 clear hy120
                 replace H := Option.bind_eq_some_iff.mp H
                 obtain ⟨t123, A470, H⟩ := H
                 replace H : (measure_Edit.l2 k4 x0_2 x1_2 (x5_4.set ((ji43) : Int).toNat t123) x34_3 (rd x5_4 (ji43)) (x0_2.size : Int) x34_3 (x1_2.size : Int) ji43) = some r := H
                 have A47 := Aside0.mk A470
                 clear A470
                 obtain ⟨y124, hy124⟩ : ∃ y_ : List Int, y_ = (x5_4.set ((ji43) : Int).toNat t123) := ⟨_, rfl⟩
                 replace H : (measure_Edit.l2 k4 x0_2 x1_2 y124 x34_3 (rd x5_4 (ji43)) (x0_2.size : Int) x34_3 (x1_2.size : Int) ji43) = some r := by (rw [hy124]; with_reducible exact H)
                 have Ny124 := Aside0.mk hy124
                 clear hy124
                 have H' := Aside0.mk H
                 clear H
                 try go_wp2
                 have n0_ := Aside0.mk (Kd.R_drew HO_5.out)
                 have n1_ := Aside0.mk (below_drew1 HB.out)
                 clear HO_5
                 clear HB
                 have HO_5 := n0_
                 have HB := n1_
                 clear n0_ n1_
                 have p25 : 0 ≤ (x34_3 : Int) := of_decide_eq_true (by (with_reducible assumption))
                 have q25 : x34_3 < (x0_2.size : Int) := of_decide_eq_true (by (with_reducible assumption))
                 have hx25 := bt_at x0_2 x34_3
                 replace p25 := eq_true p25
                 replace q25 := eq_true q25
                 have p28 : 0 ≤ (x46_4 : Int) := of_decide_eq_true (by (with_reducible assumption))
                 have q28 : x46_4 < (x1_2.size : Int) := of_decide_eq_true (by (with_reducible assumption))
                 have hx28 := bt_at x1_2 x46_4
                 replace p28 := eq_true p28
                 replace q28 := eq_true q28
                 refine start_ (n := 7) (S := fun w' => True) (ds := []) #[Z0,Z0,Z0,Z0,Z0,Z0,Z0] (by kernel_rfl) rfl rfl trivial (fun hHeld => ?_)
                 generalize wr.drew = w49 at HO_5 HB hHeld ⊢
                 refine pure_ (i := 0) (N := some 49) (v := ?_) (a' := ?_) #[Z1,Z0,Z0,Z0,Z0,Z0,Z0] rfl rfl (by kernel_rfl) (fun _ _ _ h => h) (Or.inl ⟨by rfl, ?_⟩) ?_ ?_
                 rotate_left; intro w'; go_simp; with_reducible rfl; rotate_left; simp only [Act.put, pS_, pZ_, pC_, i64_w, i32_w]; rfl
                 refine pure_ (i := 1) (N := some 50) (v := ?_) (a' := ?_) #[Z1,Z1,Z0,Z0,Z0,Z0,Z0] rfl rfl (by kernel_rfl) (fun _ _ _ h => h) (Or.inl ⟨by rfl, ?_⟩) ?_ ?_
                 rotate_left; intro w'; go_simp; with_reducible rfl; rotate_left; simp only [Act.put, pS_, pZ_, pC_, i64_w, i32_w]; rfl
                 refine pure_ (i := 3) (N := some 52) (v := ?_) (a' := ?_) #[Z1,Z1,Z0,Z1,Z0,Z0,Z0] rfl rfl (by kernel_rfl) (fun _ _ _ h => h) (Or.inl ⟨by rfl, ?_⟩) ?_ ?_
                 rotate_left; intro w'; go_simp; with_reducible rfl; rotate_left; simp only [Act.put, pS_, pZ_, pC_, i64_w, i32_w]; rfl
                 refine pure_ (i := 4) (N := some 53) (v := ?_) (a' := ?_) #[Z1,Z1,Z0,Z1,Z1,Z0,Z0] rfl rfl (by kernel_rfl) (fun _ _ _ h => h) (Or.inl ⟨by rfl, ?_⟩) ?_ ?_
                 rotate_left; intro w'; go_simp; with_reducible rfl; rotate_left; simp only [Act.put, pS_, pZ_, pC_, i64_w, i32_w]; rfl
                 refine take_ (i := 2) (N := some 51) (v := ?_) (a' := ?_) #[Z1,Z1,Z1,Z1,Z1,Z0,Z0] rfl rfl (by kernel_rfl) (fun _ _ _ h => h) (Or.inl ⟨by rfl, ?_⟩) hHeld ?_ ?_
                 rotate_left
                 ·intro w' _
                  go_simp
                  with_reducible rfl
                 rotate_left
                 ·simp only [Act.put, pS_, pZ_, pC_, i64_w, i32_w]
                  rfl
                 refine take_ (i := 5) (N := some 54) (v := ?_) (a' := ?_) #[Z1,Z1,Z1,Z1,Z1,Z1,Z0] rfl rfl (by kernel_rfl) (fun _ _ _ h => h) (Or.inl ⟨by rfl, ?_⟩) hHeld ?_ ?_
                 rotate_left
                 ·intro w' _
                  go_simp
                  with_reducible rfl
                 rotate_left
                 ·simp only [Act.put, pS_, pZ_, pC_, i64_w, i32_w]
                  rfl
                 refine pure_ (i := 6) (N := some 55) (v := ?_) (a' := ?_) #[Z1,Z1,Z1,Z1,Z1,Z1,Z1] rfl rfl (by kernel_rfl) (fun _ _ _ h => h) (Or.inl ⟨by rfl, ?_⟩) ?_ ?_
                 rotate_left; intro w'; go_simp; with_reducible rfl; rotate_left; simp only [Act.put, pS_, pZ_, pC_, i64_w, i32_w]; rfl
                 refine done_ (by kernel_rfl) ?_
                 try go_wp2
                 have n0_ := Aside0.mk (Kd.R_drew HO_5.out)
                 have n1_ := Aside0.mk (below_drew1 HB.out)
                 clear HO_5
                 clear HB
                 have HO_5 := n0_
                 have HB := n1_
                 clear n0_ n1_
                 have p117 : 0 ≤ ((ji43) : Int) := of_decide_eq_true (by (with_reducible assumption))
                 have q117 : (ji43) < (x5_4.length : Int) := of_decide_eq_true (by (with_reducible assumption))
                 obtain ⟨ad117, e117, hx117_0⟩ := Kd.at_int (Kd.R_reads' HO_5.out).2.2 (ji43) p117 q117
                 obtain rfl : (⟨go19, 0, none⟩ : Addr) = ad117 := (by injection e117)
                 ((simp only [add_plain] at hx117_0))
                 replace p117 := eq_true p117
                 replace q117 := eq_true q117
                 have p118 : 0 ≤ (x46_4 : Int) := of_decide_eq_true (by (with_reducible assumption))
                 have q118 : x46_4 < (x5_4.length : Int) := of_decide_eq_true (by (with_reducible assumption))
                 obtain ⟨ad118, e118, hx118_0⟩ := Kd.at_int (Kd.R_reads' HO_5.out).2.2 x46_4 p118 q118
                 obtain rfl : (⟨go19, 0, none⟩ : Addr) = ad118 := (by injection e118)
                 ((simp only [add_plain] at hx118_0))
                 replace p118 := eq_true p118
                 replace q118 := eq_true q118
                 have p119 : 0 ≤ ((ji43) : Int) := of_decide_eq_true (by (with_reducible assumption))
                 have q119 : (ji43) < (x5_4.length : Int) := of_decide_eq_true (by (with_reducible assumption))
                 obtain ⟨ad119, e119, hx119_0⟩ := Kd.at_int (Kd.R_reads' HO_5.out).2.2 (ji43) p119 q119
                 obtain rfl : (⟨go19, 0, none⟩ : Addr) = ad119 := (by injection e119)
                 ((simp only [add_plain] at hx119_0))
                 replace p119 := eq_true p119
                 replace q119 := eq_true q119
                 refine start_ (n := 27) (S := fun w' => w'.cell? ⟨go19, (ji43).toNat, none⟩ = some (.int .i64 (rd x5_4 (ji43))) ∧ w'.cell? ⟨go19, (x46_4).toNat, none⟩ = some (.int .i64 (rd x5_4 x46_4)) ∧ w'.cell? ⟨go19, (ji43).toNat, none⟩ = some (.int .i64 (rd x5_4 (ji43)))) (ds := [26]) #[Z0,Z0,Z0,Z0,Z0,Z0,Z0,Z0,Z0,Z0,Z0,Z0,Z0,Z0,Z0,Z0,Z0,Z0,Z0,Z0,Z0,Z0,Z0,Z0,Z0,Z0,Z0] (by kernel_rfl) rfl rfl ⟨hx117_0, hx118_0, hx119_0⟩ (fun hHeld => ?_); refine with_tabW measure_Edit.tab20 measure_Edit.bits20 (fun HT_ HW_ => ?_)
                 generalize w49.drew = w50 at HO_5 HB hx117_0 hx118_0 hx119_0 hHeld ⊢
                 refine pure_ (i := 0) (N := some 56) (v := ?_) (a' := ?_) #[Z1,Z0,Z0,Z0,Z0,Z0,Z0,Z0,Z0,Z0,Z0,Z0,Z0,Z0,Z0,Z0,Z0,Z0,Z0,Z0,Z0,Z0,Z0,Z0,Z0,Z0,Z0] rfl rfl (any_of HT_.out (by kernel_rfl)) (fun _ _ _ h => h) (Or.inl ⟨by rfl, ?_⟩) ?_ ?_
                 rotate_left; intro w'; go_simp; with_reducible rfl; rotate_left; simp only [Act.put, pS_, pZ_, pC_, i64_w, i32_w]; rfl
                 refine pure_ (i := 1) (N := some 57) (v := ?_) (a' := ?_) #[Z1,Z1,Z0,Z0,Z0,Z0,Z0,Z0,Z0,Z0,Z0,Z0,Z0,Z0,Z0,Z0,Z0,Z0,Z0,Z0,Z0,Z0,Z0,Z0,Z0,Z0,Z0] rfl rfl (any_of HT_.out (by kernel_rfl)) (fun _ _ _ h => h) (Or.inl ⟨by rfl, ?_⟩) ?_ ?_
                 rotate_left; intro w'; go_simp; with_reducible rfl; rotate_left; simp only [Act.put, pS_, pZ_, pC_, i64_w, i32_w]; rfl
                 refine pure_ (i := 2) (N := some 58) (v := ?_) (a' := ?_) #[Z1,Z1,Z1,Z0,Z0,Z0,Z0,Z0,Z0,Z0,Z0,Z0,Z0,Z0,Z0,Z0,Z0,Z0,Z0,Z0,Z0,Z0,Z0,Z0,Z0,Z0,Z0] rfl rfl (any_of HT_.out (by kernel_rfl)) (fun _ _ _ h => h) (Or.inl ⟨by rfl, ?_⟩) ?_ ?_
                 rotate_left; intro w'; go_simp; with_reducible rfl; rotate_left; simp only [Act.put, pS_, pZ_, pC_, i64_w, i32_w]; rfl
                 refine pure_ (i := 3) (N := some 59) (v := ?_) (a' := ?_) #[Z1,Z1,Z1,Z1,Z0,Z0,Z0,Z0,Z0,Z0,Z0,Z0,Z0,Z0,Z0,Z0,Z0,Z0,Z0,Z0,Z0,Z0,Z0,Z0,Z0,Z0,Z0] rfl rfl (any_of HT_.out (by kernel_rfl)) (fun _ _ _ h => h) (Or.inl ⟨by rfl, ?_⟩) ?_ ?_
                 rotate_left; intro w'; go_simp; with_reducible rfl; rotate_left; simp only [Act.put, pS_, pZ_, pC_, i64_w, i32_w]; rfl
                 refine pure_ (i := 4) (N := some 60) (v := ?_) (a' := ?_) #[Z1,Z1,Z1,Z1,Z1,Z0,Z0,Z0,Z0,Z0,Z0,Z0,Z0,Z0,Z0,Z0,Z0,Z0,Z0,Z0,Z0,Z0,Z0,Z0,Z0,Z0,Z0] rfl rfl (any_of HT_.out (by kernel_rfl)) (fun _ _ _ h => h) (Or.inl ⟨by rfl, ?_⟩) ?_ ?_
                 rotate_left; intro w'; go_simp; with_reducible rfl; rotate_left; simp only [Act.put, pS_, pZ_, pC_, i64_w, i32_w]; rfl
                 refine pure_ (i := 5) (N := some 61) (v := ?_) (a' := ?_) #[Z1,Z1,Z1,Z1,Z1,Z1,Z0,Z0,Z0,Z0,Z0,Z0,Z0,Z0,Z0,Z0,Z0,Z0,Z0,Z0,Z0,Z0,Z0,Z0,Z0,Z0,Z0] rfl rfl (any_of HT_.out (by kernel_rfl)) (fun _ _ _ h => h) (Or.inl ⟨by rfl, ?_⟩) ?_ ?_
                 rotate_left; intro w'; go_simp; with_reducible rfl; rotate_left; simp only [Act.put, pS_, pZ_, pC_, i64_w, i32_w]; rfl
                 refine pure_ (i := 6) (N := some 62) (v := ?_) (a' := ?_) #[Z1,Z1,Z1,Z1,Z1,Z1,Z1,Z0,Z0,Z0,Z0,Z0,Z0,Z0,Z0,Z0,Z0,Z0,Z0,Z0,Z0,Z0,Z0,Z0,Z0,Z0,Z0] rfl rfl (any_of HT_.out (by kernel_rfl)) (fun _ _ _ h => h) (Or.inl ⟨by rfl, ?_⟩) ?_ ?_
                 rotate_left; intro w'; go_simp; with_reducible rfl; rotate_left; simp only [Act.put, pS_, pZ_, pC_, i64_w, i32_w]; rfl
                 refine pure_ (i := 8) (N := some 64) (v := ?_) (a' := ?_) #[Z1,Z1,Z1,Z1,Z1,Z1,Z1,Z0,Z1,Z0,Z0,Z0,Z0,Z0,Z0,Z0,Z0,Z0,Z0,Z0,Z0,Z0,Z0,Z0,Z0,Z0,Z0] rfl rfl (any_of HT_.out (by kernel_rfl)) (fun _ _ _ h => h) (Or.inl ⟨by rfl, ?_⟩) ?_ ?_
                 rotate_left; intro w'; go_simp; with_reducible rfl; rotate_left; simp only [Act.put, pS_, pZ_, pC_, i64_w, i32_w]; rfl
                 refine pure_ (i := 9) (N := some 65) (v := ?_) (a' := ?_) #[Z1,Z1,Z1,Z1,Z1,Z1,Z1,Z0,Z1,Z1,Z0,Z0,Z0,Z0,Z0,Z0,Z0,Z0,Z0,Z0,Z0,Z0,Z0,Z0,Z0,Z0,Z0] rfl rfl (any_of HT_.out (by kernel_rfl)) (fun _ _ _ h => h) (Or.inl ⟨by rfl, ?_⟩) ?_ ?_
                 rotate_left; intro w'; go_simp; with_reducible rfl; rotate_left; simp only [Act.put, pS_, pZ_, pC_, i64_w, i32_w]; rfl
                 refine pure_ (i := 10) (N := some 66) (v := ?_) (a' := ?_) #[Z1,Z1,Z1,Z1,Z1,Z1,Z1,Z0,Z1,Z1,Z1,Z0,Z0,Z0,Z0,Z0,Z0,Z0,Z0,Z0,Z0,Z0,Z0,Z0,Z0,Z0,Z0] rfl rfl (any_of HT_.out (by kernel_rfl)) (fun _ _ _ h => h) (Or.inl ⟨by rfl, ?_⟩) ?_ ?_
                 rotate_left; intro w'; go_simp; with_reducible rfl; rotate_left; simp only [Act.put, pS_, pZ_, pC_, i64_w, i32_w]; rfl
                 refine pure_ (i := 11) (N := some 67) (v := ?_) (a' := ?_) #[Z1,Z1,Z1,Z1,Z1,Z1,Z1,Z0,Z1,Z1,Z1,Z1,Z0,Z0,Z0,Z0,Z0,Z0,Z0,Z0,Z0,Z0,Z0,Z0,Z0,Z0,Z0] rfl rfl (any_of HT_.out (by kernel_rfl)) (fun _ _ _ h => h) (Or.inl ⟨by rfl, ?_⟩) ?_ ?_
                 rotate_left; intro w'; go_simp; with_reducible rfl; rotate_left; simp only [Act.put, pS_, pZ_, pC_, i64_w, i32_w]; rfl
                 refine pure_ (i := 12) (N := some 68) (v := ?_) (a' := ?_) #[Z1,Z1,Z1,Z1,Z1,Z1,Z1,Z0,Z1,Z1,Z1,Z1,Z1,Z0,Z0,Z0,Z0,Z0,Z0,Z0,Z0,Z0,Z0,Z0,Z0,Z0,Z0] rfl rfl (any_of HT_.out (by kernel_rfl)) (fun _ _ _ h => h) (Or.inl ⟨by rfl, ?_⟩) ?_ ?_
                 rotate_left; intro w'; go_simp; with_reducible rfl; rotate_left; simp only [Act.put, pS_, pZ_, pC_, i64_w, i32_w]; rfl
                 refine pure_ (i := 13) (N := some 69) (v := ?_) (a' := ?_) #[Z1,Z1,Z1,Z1,Z1,Z1,Z1,Z0,Z1,Z1,Z1,Z1,Z1,Z1,Z0,Z0,Z0,Z0,Z0,Z0,Z0,Z0,Z0,Z0,Z0,Z0,Z0] rfl rfl (any_of HT_.out (by kernel_rfl)) (fun _ _ _ h => h) (Or.inl ⟨by rfl, ?_⟩) ?_ ?_
                 rotate_left; intro w'; go_simp; with_reducible rfl; rotate_left; simp only [Act.put, pS_, pZ_, pC_, i64_w, i32_w]; rfl
                 refine pure_ (i := 16) (N := some 72) (v := ?_) (a' := ?_) #[Z1,Z1,Z1,Z1,Z1,Z1,Z1,Z0,Z1,Z1,Z1,Z1,Z1,Z1,Z0,Z0,Z1,Z0,Z0,Z0,Z0,Z0,Z0,Z0,Z0,Z0,Z0] rfl rfl (any_of HT_.out (by kernel_rfl)) (fun _ _ _ h => h) (Or.inl ⟨by rfl, ?_⟩) ?_ ?_
                 rotate_left; intro w'; go_simp; with_reducible rfl; rotate_left; simp only [Act.put, pS_, pZ_, pC_, i64_w, i32_w]; rfl
                 refine pure_ (i := 17) (N := some 73) (v := ?_) (a' := ?_) #[Z1,Z1,Z1,Z1,Z1,Z1,Z1,Z0,Z1,Z1,Z1,Z1,Z1,Z1,Z0,Z0,Z1,Z1,Z0,Z0,Z0,Z0,Z0,Z0,Z0,Z0,Z0] rfl rfl (any_of HT_.out (by kernel_rfl)) (fun _ _ _ h => h) (Or.inl ⟨by rfl, ?_⟩) ?_ ?_
                 rotate_left; intro w'; go_simp; with_reducible rfl; rotate_left; simp only [Act.put, pS_, pZ_, pC_, i64_w, i32_w]; rfl
                 refine pure_ (i := 18) (N := some 74) (v := ?_) (a' := ?_) #[Z1,Z1,Z1,Z1,Z1,Z1,Z1,Z0,Z1,Z1,Z1,Z1,Z1,Z1,Z0,Z0,Z1,Z1,Z1,Z0,Z0,Z0,Z0,Z0,Z0,Z0,Z0] rfl rfl (any_of HT_.out (by kernel_rfl)) (fun _ _ _ h => h) (Or.inl ⟨by rfl, ?_⟩) ?_ ?_
                 rotate_left; intro w'; go_simp; with_reducible rfl; rotate_left; simp only [Act.put, pS_, pZ_, pC_, i64_w, i32_w]; rfl
                 refine pure_ (i := 19) (N := some 75) (v := ?_) (a' := ?_) #[Z1,Z1,Z1,Z1,Z1,Z1,Z1,Z0,Z1,Z1,Z1,Z1,Z1,Z1,Z0,Z0,Z1,Z1,Z1,Z1,Z0,Z0,Z0,Z0,Z0,Z0,Z0] rfl rfl (any_of HT_.out (by kernel_rfl)) (fun _ _ _ h => h) (Or.inl ⟨by rfl, ?_⟩) ?_ ?_
                 rotate_left; intro w'; go_simp; with_reducible rfl; rotate_left; simp only [Act.put, pS_, pZ_, pC_, i64_w, i32_w]; rfl
                 refine take_ (i := 7) (N := some 63) (v := ?_) (a' := ?_) #[Z1,Z1,Z1,Z1,Z1,Z1,Z1,Z1,Z1,Z1,Z1,Z1,Z1,Z1,Z0,Z0,Z1,Z1,Z1,Z1,Z0,Z0,Z0,Z0,Z0,Z0,Z0] rfl rfl (take_ofW HT_.out HW_.out (by kernel_rfl)) (fun _ _ _ h => h) (Or.inl ⟨by rfl, ?_⟩) hHeld ?_ ?_
                 rotate_left; rintro w' ⟨s0, s1, s2⟩; go_simp; with_reducible rfl; rotate_left; simp only [Act.put, pS_, pZ_, pC_, i64_w, i32_w]; rfl
                 refine take_ (i := 14) (N := some 70) (v := ?_) (a' := ?_) #[Z1,Z1,Z1,Z1,Z1,Z1,Z1,Z1,Z1,Z1,Z1,Z1,Z1,Z1,Z1,Z0,Z1,Z1,Z1,Z1,Z0,Z0,Z0,Z0,Z0,Z0,Z0] rfl rfl (take_ofW HT_.out HW_.out (by kernel_rfl)) (fun _ _ _ h => h) (Or.inl ⟨by rfl, ?_⟩) hHeld ?_ ?_
                 rotate_left; rintro w' ⟨s0, s1, s2⟩; go_simp; with_reducible rfl; rotate_left; simp only [Act.put, pS_, pZ_, pC_, i64_w, i32_w]; rfl
                 refine pure_ (i := 15) (N := some 71) (v := ?_) (a' := ?_) #[Z1,Z1,Z1,Z1,Z1,Z1,Z1,Z1,Z1,Z1,Z1,Z1,Z1,Z1,Z1,Z1,Z1,Z1,Z1,Z1,Z0,Z0,Z0,Z0,Z0,Z0,Z0] rfl rfl (any_of HT_.out (by kernel_rfl)) (fun _ _ _ h => h) (Or.inl ⟨by rfl, ?_⟩) ?_ ?_
                 rotate_left; intro w'; go_simp; with_reducible rfl; rotate_left; simp only [Act.put, pS_, pZ_, pC_, i64_w, i32_w]; rfl
                 refine take_ (i := 20) (N := some 76) (v := ?_) (a' := ?_) #[Z1,Z1,Z1,Z1,Z1,Z1,Z1,Z1,Z1,Z1,Z1,Z1,Z1,Z1,Z1,Z1,Z1,Z1,Z1,Z1,Z1,Z0,Z0,Z0,Z0,Z0,Z0] rfl rfl (take_ofW HT_.out HW_.out (by kernel_rfl)) (fun _ _ _ h => h) (Or.inl ⟨by rfl, ?_⟩) hHeld ?_ ?_
                 rotate_left; rintro w' ⟨s0, s1, s2⟩; go_simp; with_reducible rfl; rotate_left; simp only [Act.put, pS_, pZ_, pC_, i64_w, i32_w]; rfl
                 refine pure_ (i := 21) (N := some 77) (v := ?_) (a' := ?_) #[Z1,Z1,Z1,Z1,Z1,Z1,Z1,Z1,Z1,Z1,Z1,Z1,Z1,Z1,Z1,Z1,Z1,Z1,Z1,Z1,Z1,Z1,Z0,Z0,Z0,Z0,Z0] rfl rfl (any_of HT_.out (by kernel_rfl)) (fun _ _ _ h => h) (Or.inl ⟨by rfl, ?_⟩) ?_ ?_
                 rotate_left; intro w'; go_simp; with_reducible rfl; rotate_left; simp only [Act.put, pS_, pZ_, pC_, i64_w, i32_w]; rfl
                 refine one_ (i := 22) (N := some 78) #[Z1,Z1,Z1,Z1,Z1,Z1,Z1,Z1,Z1,Z1,Z1,Z1,Z1,Z1,Z1,Z1,Z1,Z1,Z1,Z1,Z1,Z1,Z1,Z0,Z0,Z0,Z0] rfl rfl (one_of HT_.out (by kernel_rfl)) (by decide) (fun K hK => ?_)
                 refine Kd.R_lit_step (Kd.int .i64) _ 3 ?hg (N := 78) ?hd (xs := ([wrap64 ((rd x5_4 x46_4) + 1), wrap64 ((rd x5_4 (ji43)) + 1)] : List Int)) (inner := [.int .i64 (wrap64 ((rd x5_4 x46_4) + 1)), .int .i64 (wrap64 ((rd x5_4 (ji43)) + 1))]) (ok := fun _ => True) (okp := fun _ => True) ?hr ?hp (fun _ hk => hk) trivial (Below.refl _ _) (Nat.le_refl _) (by simp) ?_; (case hd => rfl); (case hg => rfl); (case hr => (go_simp; done)); (case hp => exact (Reps.one (show Kd.M (Kd.int .i64) _ _ _ (wrap64 ((rd x5_4 x46_4) + 1)) [.int .i64 (wrap64 ((rd x5_4 x46_4) + 1))] from rfl) (Reps.one (show Kd.M (Kd.int .i64) _ _ _ (wrap64 ((rd x5_4 (ji43)) + 1)) [.int .i64 (wrap64 ((rd x5_4 (ji43)) + 1))] from rfl) (Reps.none _ _))))
                 intro v121 w51 ho52 hb hg_ hnew_
                 have HS0_ := (hb.cell (World.block_lt_of_cell? _ _ (hHeld.1))).trans (hHeld.1)
                 have HS1_ := (hb.cell (World.block_lt_of_cell? _ _ (hHeld.2.1))).trans (hHeld.2.1)
                 have HS2_ := (hb.cell (World.block_lt_of_cell? _ _ (hHeld.2.2))).trans (hHeld.2.2)
                 clear hg_ hnew_
                 ((rw [← Ny120.out] at ho52))
                 have n0_ := Aside0.mk (Kd.R_elder' (by exact HO_5.out) (Kd.R_base ho52) hb)
                 have n1_ := Aside0.mk (Kd.R_lower (Kd.R_new' ho52 (Kd.R_lt (by exact HO_5.out))) (below_size HB.out))
                 have n2_ := Aside0.mk (below_step HB.out hb)
                 clear HO_5
                 clear HB
                 have HO_5 := n0_
                 have HO122 := n1_
                 have HB := n2_
                 clear n0_ n1_ n2_
                 clear hb ho52
                 obtain ⟨Ao53, co53, eo53⟩ := Kd.R_slice HO122.out
                 (subst eo53)
                 refine hK.out _ _ ⟨HS0_, HS1_, HS2_⟩ (fun hHeld => ?_)
                 clear hK K
                 refine norm_ (a' := ?_) ?_ ?_
                 rotate_left; show Act.put _ (some 78) _ = _; simp only [Act.put, pS_, pZ_, pC_, i64_w, i32_w]; rfl
                 refine one_ (i := 23) (N := some 79) #[Z1,Z1,Z1,Z1,Z1,Z1,Z1,Z1,Z1,Z1,Z1,Z1,Z1,Z1,Z1,Z1,Z1,Z1,Z1,Z1,Z1,Z1,Z1,Z1,Z0,Z0,Z0] rfl rfl (one_of HT_.out (by kernel_rfl)) (by decide) (fun K hK => ?_)
                 refine goes_ Tryd.func72 (by kernel_rfl) rfl #[.int .i64 (wrap64 (x8_4 + 1)), .slice Ao53 y120.length co53] (by rfl) rfl rfl (by (try simp only [List.map_toArray, List.map_cons, List.map_nil]); rfl) ?_
                 with_reducible refine (measure_least.calls k4 (wrap64 (x8_4 + 1)) _ _ y120 t123 _ ?side1 ?side2 A47.out).mono ?_
                 (case side1 => repeat ((exact (Kd.R_reads' HO122.out).2.2)))
                 (case side2 => exact (Kd.R_reads' HO122.out).2.1)
                 rintro e w54 ⟨rfl, hb⟩
                 have HS0_ := (hb.cell (World.block_lt_of_cell? _ _ (hHeld.1))).trans (hHeld.1)
                 have HS1_ := (hb.cell (World.block_lt_of_cell? _ _ (hHeld.2.1))).trans (hHeld.2.1)
                 have HS2_ := (hb.cell (World.block_lt_of_cell? _ _ (hHeld.2.2))).trans (hHeld.2.2)
                 refine ⟨_, rfl, ?_⟩
                 have n0_ := Aside0.mk (Kd.R_below (by exact HO_5.out) hb)
                 have n1_ := Aside0.mk (Kd.R_below (by exact HO122.out) hb)
                 have n2_ := Aside0.mk (below_step HB.out hb)
                 clear HO_5
                 clear HO122
                 clear HB
                 have HO_5 := n0_
                 have HO122 := n1_
                 have HB := n2_
                 clear n0_ n1_ n2_
                 (try clear hb)
                 have p48 : 0 ≤ ((ji43) : Int) := of_decide_eq_true (by (with_reducible assumption))
                 have q48 : ((ji43) : Int) < ((x5_4.length : Int) : Int) := of_decide_eq_true (by (with_reducible assumption))
                 obtain ⟨hx48_0, hf48_0⟩ := Kd.R_celln 0 HO_5.out ((ji43) : Int) p48 q48
                 replace p48 := eq_true p48
                 replace q48 := eq_true q48
                 have HP55 := Kd.R_putn HO_5.out ((ji43) : Int) t123
                 rw [← Ny124.out] at HP55
                 have HQ55 := Aside0.mk HP55
                 clear HP55
                 refine hK.out _ _ ⟨HS0_, HS1_, HS2_⟩ (fun hHeld => ?_)
                 clear hK K
                 refine norm_ (a' := ?_) ?_ ?_
                 rotate_left; show Act.put _ (some 79) _ = _; simp only [Act.put, pS_, pZ_, pC_, i64_w, i32_w]; rfl
                 refine pure_ (i := 24) (N := some 8) (v := ?_) (a' := ?_) #[Z1,Z1,Z1,Z1,Z1,Z1,Z1,Z1,Z1,Z1,Z1,Z1,Z1,Z1,Z1,Z1,Z1,Z1,Z1,Z1,Z1,Z1,Z1,Z1,Z1,Z0,Z0] rfl rfl (any_of HT_.out (by kernel_rfl)) (fun _ _ _ h => h) (Or.inl ⟨by rfl, ?_⟩) ?_ ?_
                 rotate_left; intro w'; go_simp; with_reducible rfl; rotate_left; simp only [Act.put, pS_, pZ_, pC_, i64_w, i32_w]; rfl
                 refine pure_ (i := 25) (N := some 80) (v := ?_) (a' := ?_) #[Z1,Z1,Z1,Z1,Z1,Z1,Z1,Z1,Z1,Z1,Z1,Z1,Z1,Z1,Z1,Z1,Z1,Z1,Z1,Z1,Z1,Z1,Z1,Z1,Z1,Z1,Z0] rfl rfl (any_of HT_.out (by kernel_rfl)) (fun _ _ _ h => h) (Or.inl ⟨by rfl, ?_⟩) ?_ ?_
                 rotate_left; intro w'; go_simp; with_reducible rfl; rotate_left; simp only [Act.put, pS_, pZ_, pC_, i64_w, i32_w]; rfl
                 refine last_ (i := 26) (N := none) #[Z1,Z1,Z1,Z1,Z1,Z1,Z1,Z1,Z1,Z1,Z1,Z1,Z1,Z1,Z1,Z1,Z1,Z1,Z1,Z1,Z1,Z1,Z1,Z1,Z1,Z1,Z1] rfl rfl (one_of HT_.out (by kernel_rfl)) (by decide) (fun K hK => ?_)
                 refine skip_ (w1 := ?_) (by rfl) rfl ?_ ?_
                 rotate_left
                 ·go_simp
                  rfl
                 refine hK.out _ _ ?_
                 clear hK K
                 refine done_ (done_of HT_.out (by kernel_rfl)) ?_
                 try go_wp2
                 (try simp only [← hl5_4])
                 go_roundg k4
                 case measure => have := HJ2.out; have := HK2.out; have := HK3.out; have := HK4.out; omega
                 case rel => exact ⟨(y124), (rd x5_4 (ji43)), (ji43), (by rfl), (by rfl), H', ⟨by have := HJ2.out; have := HK2.out; have := HK3.out; have := HK4.out; omega⟩, ⟨by (try simp only [hl5_4]); exact Kd.R_mono HQ55.out (fun _ hk => trivial)⟩, ⟨by repeat ((with_reducible first | exact HB.out | refine below_set ?_ GB19.out))⟩⟩
                rw [if_neg c46] at H
                exact absurd H (by simp)
               rw [if_neg c45] at H
               exact absurd H (by simp)
              rw [if_neg c44] at H
              exact absurd H (by simp)
             rw [if_neg c27] at H
             exact absurd H (by simp)
            rw [if_neg c26] at H
            exact absurd H (by simp)
           rw [if_neg c24] at H
           exact absurd H (by simp)
          rw [if_neg c23] at H
          exact absurd H (by simp)
         rw [if_neg c22] at H
         have c22b0 : decide (x46_4 < (x1_2.size : Int)) = false := decide_eq_false c22
         clear c22
         have H' := Aside0.mk H
         clear H
         go_wp2
         (try simp only [← hl5_3, ← hl5_4])
         go_roundg k4
         case measure => have := HJ2.out; have := HK2.out; have := HK3.out; have := HK4.out; omega
         case rel => exact ⟨(x5_4), (wrap64 (x34_3 + 1)), (by rfl), H', ⟨by have := HJ2.out; have := HK2.out; have := HK3.out; have := HK4.out; omega⟩, ⟨by (try simp only [hl5_3]); (try simp only [hl5_4]); exact HO_5.out⟩, ⟨by repeat ((with_reducible (exact HB.out)))⟩⟩
       rw [if_neg c18] at H
       exact absurd H (by simp)
      rw [if_neg c17] at H
      have c17b0 : decide (x34_3 < (x0_2.size : Int)) = false := decide_eq_false c17
      clear c17
      by_cases c56 : 0 ≤ (x1_2.size : Int)
      ·rw [if_pos c56] at H
       have c56b0 : decide (0 ≤ (x1_2.size : Int)) = true := decide_eq_true c56
       have c56b1 : decide (0 ≤ x1_2.size) = true := decide_eq_true (by omega)
       clear c56
       by_cases c57 : (x1_2.size : Int) < (x5_3.length : Int)
       ·rw [if_pos c57] at H
        have c57b0 : decide ((x1_2.size : Int) < (x5_3.length : Int)) = true := decide_eq_true c57
        have c57b1 : decide (x1_2.size < x5_3.length) = true := decide_eq_true (Int.ofNat_lt.mp c57)
        clear c57
        obtain rfl := Option.some.inj H
        have p106 : 0 ≤ ((x1_2.size : Int) : Int) := of_decide_eq_true (by (with_reducible assumption))
        have q106 : (x1_2.size : Int) < (x5_3.length : Int) := of_decide_eq_true (by (with_reducible assumption))
        obtain ⟨ad106, e106, hx106_0⟩ := Kd.at_int (Kd.R_reads' HO_5.out).2.2 (x1_2.size : Int) p106 q106
        cases e106
        replace p106 := eq_true p106
        replace q106 := eq_true q106
        (try (have hx106_0n := hx106_0; simp only [Int.toNat_natCast] at hx106_0n)); (try (have q106_n := q106; simp only [Int.ofNat_lt] at q106_n))
        go_wp2
        go_ret
        exact ⟨by rfl, by repeat ((with_reducible (exact HB.out)))⟩
       rw [if_neg c57] at H
       exact absurd H (by simp)
      rw [if_neg c56] at H
      exact absurd H (by simp)
   rw [if_neg c7] at H
   exact absurd H (by simp)
  rw [if_neg c6] at H
  exact absurd H (by simp)

end Go.Proofs.YtiffkknhnmpgbaaDoor.Q
end

section
namespace Go.Proofs.YtiffkknhnmpgbaaDoor.Q
open Go.RowKit Go.Proofs.YtiffkknhnmpgbaaDoorW.PrintWords Go.Proofs.YtiffkknhnmpgbaaDoorW.PrintLast Go.Proofs.YtiffkknhnmpgbaaDoorW.PrintMore
attribute [local go_sem] max2_int min2_int max_two min_two max_three min_three max_four min_four   -- for this text's walks alone
set_option linter.unusedVariables false
set_option linter.unusedSimpArgs false

/-! ### ratio_reduced: function 81 -/
def ratio_reduced.j0 : Nat → Bool → Int → Int → Bool → Option (Int × Int × Int)
 | 0, _, _, _, _ => none
 | k + 1, x0, x1, x2, x19 => if x19 = true then (some (0, 0, 2)) else (if x0 = true then (some (wrap64 (-(wrap64 (x1))), wrap64 (x2), 0)) else (some (wrap64 (x1), wrap64 (x2), 0)))
def ratio_reduced.f (k : Nat) (a0 : Bool) (a1 : Int) (a2 : Int) : Option (Int × Int × Int) := (ratio_common.f k (([a1, a2] : List Int))).bind fun t130 => (if t130 = 0 then (none) else (if (IntKind.u64.wrap (Int.tdiv a1 t130)) > 1000000000 then (ratio_reduced.j0 k a0 (IntKind.u64.wrap (Int.tdiv a1 t130)) (IntKind.u64.wrap (Int.tdiv a2 t130)) true) else (ratio_reduced.j0 k a0 (IntKind.u64.wrap (Int.tdiv a1 t130)) (IntKind.u64.wrap (Int.tdiv a2 t130)) (decide ((IntKind.u64.wrap (Int.tdiv a2 t130)) > 1000000000)))))
set_option maxHeartbeats 8000000 in
set_option maxRecDepth 100000 in
theorem ratio_reduced.calls (k : Nat) (a0 : Bool) (a1 : Int) (a2 : Int) (r1 : Int) (r2 : Int) (r3 : Int) (w : World) (h : ratio_reduced.f k a0 a1 a2 = some (r1, r2, r3)) :
  Calls Tryd.prog 81 #[.bool a0, .int .u64 a1, .int .u64 a2] w fun e w' => e = .returned (.tuple #[.agg #[.int .i64 r1, .int .i64 r2], .int .i64 r3]) ∧ Below w.heap.size w w' := by
 have hu41 := Tryd.underlying41
 have HB := Aside0.mk (Below.refl w.heap.size w)
 have H : ((ratio_common.f k (([a1, a2] : List Int))).bind fun t130 => (if t130 = 0 then (none) else (if (IntKind.u64.wrap (Int.tdiv a1 t130)) > 1000000000 then (ratio_reduced.j0 k a0 (IntKind.u64.wrap (Int.tdiv a1 t130)) (IntKind.u64.wrap (Int.tdiv a2 t130)) true) else (ratio_reduced.j0 k a0 (IntKind.u64.wrap (Int.tdiv a1 t130)) (IntKind.u64.wrap (Int.tdiv a2 t130)) (decide ((IntKind.u64.wrap (Int.tdiv a2 t130)) > 1000000000)))))) = some (r1, r2, r3) := h
 clear h
 obtain ⟨y127, hy127⟩ : ∃ y_ : List Int, y_ = (([a1, a2] : List Int)) := ⟨_, rfl⟩
 replace H : ((ratio_common.f k y127).bind fun t130 => (if t130 = 0 then (none) else (if (IntKind.u64.wrap (Int.tdiv a1 t130)) > 1000000000 then (ratio_reduced.j0 k a0 (IntKind.u64.wrap (Int.tdiv a1 t130)) (IntKind.u64.wrap (Int.tdiv a2 t130)) true) else (ratio_reduced.j0 k a0 (IntKind.u64.wrap (Int.tdiv a1 t130)) (IntKind.u64.wrap (Int.tdiv a2 t130)) (decide ((IntKind.u64.wrap (Int.tdiv a2 t130)) > 1000000000)))))) = some (r1, r2, r3) := by (rw [hy127]; with_reducible exact H)
 have Ny127 := Aside0.mk hy127
 clear hy127
 replace H := Option.bind_eq_some_iff.mp H
 obtain ⟨t130, A40, H⟩ := H
 replace H : (if t130 = 0 then (none) else (if (IntKind.u64.wrap (Int.tdiv a1 t130)) > 1000000000 then (ratio_reduced.j0 k a0 (IntKind.u64.wrap (Int.tdiv a1 t130)) (IntKind.u64.wrap (Int.tdiv a2 t130)) true) else (ratio_reduced.j0 k a0 (IntKind.u64.wrap (Int.tdiv a1 t130)) (IntKind.u64.wrap (Int.tdiv a2 t130)) (decide ((IntKind.u64.wrap (Int.tdiv a2 t130)) > 1000000000))))) = some (r1, r2, r3) := H
 have A4 := Aside0.mk A40
 clear A40
 by_cases c5 : t130 = 0
 ·rw [if_pos c5] at H
  exact absurd H (by simp)
 rw [if_neg c5] at H
 have c5b0 : (t130 == 0) = false := beq_eq_false_iff_ne.mpr c5
 have c5b1 : (t130 != 0) = true := bne_iff_ne.mpr c5
 have HC6 := Aside0.mk H
 clear H
 go_enter Tryd.func81, Tryd.ntmps81
 go_upto_region 3 with (first | ((with_reducible refine gate_dst (N := 6) rfl ?_); refine box_event ?hg (N := 6) ?hd (cs := #[.int .i64 0, .int .i64 0]) (t := 41) ?hr ?_; (case hd => rfl); (case hg => rfl); (case hr => (go_simp; done)); intro gb126 hg w7 hbox hb; have n0_ := Aside0.mk (below_step HB.out hb); have n1_ := Aside0.mk (hbox); have n3_ := Aside0.mk ((by rw [hg]; exact (below_size HB.out) : w.heap.size ≤ gb126)); clear HB; have HB := n0_; have BK126 := n1_; have GE126 := n3_; clear n0_ n1_ n3_; clear hb hbox hg) | ((with_reducible refine gate_dst (N := 11) rfl ?_); refine Kd.R_lit (Kd.int .u64) _ 88 ?hg (N := 11) ?hd (xs := ([a1, a2] : List Int)) (inner := [.int .u64 a1, .int .u64 a2]) (ok := fun _ => True) (okp := fun _ => True) ?hr ?hp (fun _ hk => hk) trivial (Below.refl _ _) (Nat.le_refl _) (by simp) ?_; (case hd => rfl); (case hg => rfl); (case hr => (go_simp; done)); (case hp => exact (Reps.one (show Kd.M (Kd.int .u64) _ _ _ a1 [.int .u64 a1] from rfl) (Reps.one (show Kd.M (Kd.int .u64) _ _ _ a2 [.int .u64 a2] from rfl) (Reps.none _ _)))); intro v128 w8 ho9 hb hg_ hnew_; clear hg_ hnew_; ((rw [← Ny127.out] at ho9)); have n0_ := Aside0.mk (Kd.R_lower ho9 (below_size HB.out)); have n1_ := Aside0.mk (blk_below (by exact BK126.out) hb); have n2_ := Aside0.mk (below_step HB.out hb); clear BK126; clear HB; have HO129 := n0_; have BK126 := n1_; have HB := n2_; clear n0_ n1_ n2_; clear hb ho9; obtain ⟨Ao10, co10, eo10⟩ := Kd.R_slice HO129.out; subst eo10) | (go_at_call 71; (with_reducible refine (ratio_common.calls k _ _ y127 t130 _ ?side1 ?side2 A4.out).mono ?_); (case side1 => repeat ((exact (Kd.R_reads' HO129.out).2.2))); (case side2 => exact (Kd.R_reads' HO129.out).2.1); rintro e w' ⟨rfl, ⟨nd, rfl⟩⟩))
 repeat (go_quiet ((go_at_call 71; (with_reducible refine (ratio_common.calls k _ _ y127 t130 _ ?side1 ?side2 A4.out).mono ?_); (case side1 => skip); (case side2 => exact (Kd.R_reads' HO129.out).2.1); rintro e w' ⟨rfl, ⟨nd, rfl⟩⟩)); go_upto_region 3 with ((go_at_call 71; (with_reducible refine (ratio_common.calls k _ _ y127 t130 _ ?side1 ?side2 A4.out).mono ?_); (case side1 => skip); (case side2 => exact (Kd.R_reads' HO129.out).2.1); rintro e w' ⟨rfl, ⟨nd, rfl⟩⟩)))
 go_cut [19] (fun v19 wc => ∃ (kq : Nat) (x19_5 : Bool), v19 = .bool x19_5 ∧ Aside0 (ratio_reduced.j0 kq a0 (IntKind.u64.wrap (Int.tdiv a1 t130)) (IntKind.u64.wrap (Int.tdiv a2 t130)) x19_5 = some (r1, r2, r3)) ∧ Aside0 (kq ≤ k) ∧ Aside0 (wc.heap[gb126]? = some (.cells #[.int .i64 0, .int .i64 0] 41 (0, 0))) ∧ Aside0 (Below w.heap.size w wc))
 case first =>
  have H := HC6.out
  clear HC6
  by_cases c11 : (IntKind.u64.wrap (Int.tdiv a1 t130)) > 1000000000
  ·rw [if_pos c11] at H
   have c11b0 : decide (1000000000 < (IntKind.u64.wrap (Int.tdiv a1 t130))) = true := decide_eq_true c11
   clear c11
   have H' := Aside0.mk H
   clear H
   go_wp2
   go_meet
   case rel => exact ⟨_, (true), (by rfl), H', ⟨by omega⟩, ⟨by (with_reducible repeat ((refine blk_drewN ?_ _))); exact BK126.out⟩, ⟨by repeat ((with_reducible first | exact HB.out | apply pw_below_drewN))⟩⟩
  rw [if_neg c11] at H
  have c11b0 : decide (1000000000 < (IntKind.u64.wrap (Int.tdiv a1 t130))) = false := decide_eq_false c11
  clear c11
  have H' := Aside0.mk H
  clear H
  go_wp2
  go_meet
  case rel => exact ⟨_, (decide ((IntKind.u64.wrap (Int.tdiv a2 t130)) > 1000000000)), (by rfl), H', ⟨by omega⟩, ⟨by (with_reducible repeat ((refine blk_drewN ?_ _))); exact BK126.out⟩, ⟨by repeat ((with_reducible first | exact HB.out | apply pw_below_drewN))⟩⟩
 clear HC6
 clear c5 c5b0 c5b1
 obtain ⟨kq, x19_5, rfl, HA, HJ5, BK126, HB⟩ := hcut
 cases kq with
 | zero => exact absurd HA.out (by simp [ratio_reduced.j0])
 | succ kj5 =>
  have H := HA.out
  clear HA
  simp only [ratio_reduced.j0] at H
  by_cases c12 : x19_5 = true
  ·subst c12
   have H1 : (some (0, 0, 2)) = some (r1, r2, r3) := by rw [if_pos rfl] at H; exact H
   clear H
   have H := H1
   clear H1
   simp only [Option.some.injEq, Prod.mk.injEq] at H
   obtain ⟨rfl, rfl, rfl⟩ := H
   have hcz13_0 := cel_ BK126.out 0 rfl
   have hcz13_1 := cel_ BK126.out 1 rfl
   have hfz13_0 := blk_frozen BK126.out 0
   have hfz13_1 := blk_frozen BK126.out 1
   go_wp2
   refine bodyPost_ret (results_ct rfl _ _ gb126 41 #[.int .i64 0, .int .i64 0] (0, 0) _ rfl (by refine blk_put (cs := #[.int .i64 0, .int .i64 0]) ?_ 1 _ rfl; refine blk_put (cs := #[.int .i64 0, .int .i64 0]) ?_ 0 _ rfl; exact BK126.out) Tryd.underlying41 rfl (by kernel_rfl)) rfl ?_
   exact ⟨by rfl, by repeat ((with_reducible first | exact HB.out | refine below_set ?_ GE126.out))⟩
  replace c12 := Bool.eq_false_iff.mpr c12
  subst c12
  have H1 : (if a0 = true then (some (wrap64 (-(wrap64 ((IntKind.u64.wrap (Int.tdiv a1 t130))))), wrap64 ((IntKind.u64.wrap (Int.tdiv a2 t130))), 0)) else (some (wrap64 ((IntKind.u64.wrap (Int.tdiv a1 t130))), wrap64 ((IntKind.u64.wrap (Int.tdiv a2 t130))), 0))) = some (r1, r2, r3) := by rw [if_neg (show ¬ (false = true) by decide)] at H; exact H
  clear H
  have H := H1
  clear H1
  by_cases c14 : a0 = true
  ·subst c14
   have H1 : (some (wrap64 (-(wrap64 ((IntKind.u64.wrap (Int.tdiv a1 t130))))), wrap64 ((IntKind.u64.wrap (Int.tdiv a2 t130))), 0)) = some (r1, r2, r3) := by rw [if_pos rfl] at H; exact H
   clear H
   have H := H1
   clear H1
   simp only [Option.some.injEq, Prod.mk.injEq] at H
   obtain ⟨rfl, rfl, rfl⟩ := H
   have hcz15_0 := cel_ BK126.out 0 rfl
   have hcz15_1 := cel_ BK126.out 1 rfl
   have hfz15_0 := blk_frozen BK126.out 0
   have hfz15_1 := blk_frozen BK126.out 1
   go_wp2
   refine bodyPost_ret (results_ct rfl _ _ gb126 41 #[.int .i64 (wrap64 (-(wrap64 ((IntKind.u64.wrap (Int.tdiv a1 t130)))))), .int .i64 (wrap64 ((IntKind.u64.wrap (Int.tdiv a2 t130))))] (0, 0) _ rfl (by refine blk_put (cs := #[.int .i64 (wrap64 (-(wrap64 ((IntKind.u64.wrap (Int.tdiv a1 t130)))))), .int .i64 0]) ?_ 1 _ rfl; refine blk_put (cs := #[.int .i64 0, .int .i64 0]) ?_ 0 _ rfl; exact BK126.out) Tryd.underlying41 rfl (by kernel_rfl)) rfl ?_
   exact ⟨by rfl, by repeat ((with_reducible first | exact HB.out | refine below_set ?_ GE126.out))⟩
  replace c14 := Bool.eq_false_iff.mpr c14
  subst c14
  have H1 : (some (wrap64 ((IntKind.u64.wrap (Int.tdiv a1 t130))), wrap64 ((IntKind.u64.wrap (Int.tdiv a2 t130))), 0)) = some (r1, r2, r3) := by rw [if_neg (show ¬ (false = true) by decide)] at H; exact H
  clear H
  have H := H1
  clear H1
  simp only [Option.some.injEq, Prod.mk.injEq] at H
  obtain ⟨rfl, rfl, rfl⟩ := H
  have hcz16_0 := cel_ BK126.out 0 rfl
  have hcz16_1 := cel_ BK126.out 1 rfl
  have hfz16_0 := blk_frozen BK126.out 0
  have hfz16_1 := blk_frozen BK126.out 1
  go_wp2
  refine bodyPost_ret (results_ct rfl _ _ gb126 41 #[.int .i64 (wrap64 ((IntKind.u64.wrap (Int.tdiv a1 t130)))), .int .i64 (wrap64 ((IntKind.u64.wrap (Int.tdiv a2 t130))))] (0, 0) _ rfl (by refine blk_put (cs := #[.int .i64 (wrap64 ((IntKind.u64.wrap (Int.tdiv a1 t130)))), .int .i64 0]) ?_ 1 _ rfl; refine blk_put (cs := #[.int .i64 0, .int .i64 0]) ?_ 0 _ rfl; exact BK126.out) Tryd.underlying41 rfl (by kernel_rfl)) rfl ?_
  exact ⟨by rfl, by repeat ((with_reducible first | exact HB.out | refine below_set ?_ GE126.out))⟩

/-! ### ratio_Make: function 58 -/
def ratio_Make.f (k : Nat) (a0 : Int) (a1 : Int) : Option (Int × Int × Int) := if a1 = 0 then (some (0, 0, 1)) else ((ratio_magnitude_int.f a0).bind fun t132 => ((ratio_magnitude_int.f a1).bind fun t133 => ((ratio_reduced.f k ((decide (a0 < 0)) != (decide (a1 < 0))) t132 t133).bind fun bt134 => (some (bt134.1, bt134.2.1, bt134.2.2)))))
set_option maxHeartbeats 8000000 in
set_option maxRecDepth 100000 in
theorem ratio_Make.calls (k : Nat) (a0 : Int) (a1 : Int) (r1 : Int) (r2 : Int) (r3 : Int) (w : World) (h : ratio_Make.f k a0 a1 = some (r1, r2, r3)) :
  Calls Tryd.prog 58 #[.int .i64 a0, .int .i64 a1] w fun e w' => e = .returned (.tuple #[.agg #[.int .i64 r1, .int .i64 r2], .int .i64 r3]) ∧ Below w.heap.size w w' := by
 have hu41 := Tryd.underlying41
 have HB := Aside0.mk (Below.refl w.heap.size w)
 have H : (if a1 = 0 then (some (0, 0, 1)) else ((ratio_magnitude_int.f a0).bind fun t132 => ((ratio_magnitude_int.f a1).bind fun t133 => ((ratio_reduced.f k ((decide (a0 < 0)) != (decide (a1 < 0))) t132 t133).bind fun bt134 => (some (bt134.1, bt134.2.1, bt134.2.2)))))) = some (r1, r2, r3) := h
 clear h
 by_cases c3 : a1 = 0
 ·rw [if_pos c3] at H
  have c3b0 : (a1 == 0) = true := beq_iff_eq.mpr c3
  have c3b1 : (a1 != 0) = false := bne_eq_false_iff_eq.mpr c3
  clear c3
  simp only [Option.some.injEq, Prod.mk.injEq] at H
  obtain ⟨rfl, rfl, rfl⟩ := H
  go_enter Tryd.func58, Tryd.ntmps58
  go_wp2_with (first | ((with_reducible refine gate_dst (N := 4) rfl ?_); refine box_event ?hg (N := 4) ?hd (cs := #[.int .i64 0, .int .i64 0]) (t := 41) ?hr ?_; (case hd => rfl); (case hg => rfl); (case hr => (go_simp; done)); intro gb131 hg w4 hbox hb; have n0_ := Aside0.mk (below_step HB.out hb); have n1_ := Aside0.mk (hbox); have n3_ := Aside0.mk ((by rw [hg]; exact (below_size HB.out) : w.heap.size ≤ gb131)); clear HB; have HB := n0_; have BK131 := n1_; have GE131 := n3_; clear n0_ n1_ n3_; clear hb hbox hg; have hcz5_0 := cel_ BK131.out 0 rfl; have hcz5_1 := cel_ BK131.out 1 rfl; have hfz5_0 := blk_frozen BK131.out 0; have hfz5_1 := blk_frozen BK131.out 1))
  refine bodyPost_ret (results_ct rfl _ _ gb131 41 #[.int .i64 0, .int .i64 0] (0, 0) _ rfl (by refine blk_put (cs := #[.int .i64 0, .int .i64 0]) ?_ 1 _ rfl; refine blk_put (cs := #[.int .i64 0, .int .i64 0]) ?_ 0 _ rfl; exact BK131.out) Tryd.underlying41 rfl (by kernel_rfl)) rfl ?_
  exact ⟨by rfl, by repeat ((with_reducible first | exact HB.out | refine below_set ?_ GE131.out))⟩
 rw [if_neg c3] at H
 have c3b0 : (a1 == 0) = false := beq_eq_false_iff_ne.mpr c3
 have c3b1 : (a1 != 0) = true := bne_iff_ne.mpr c3
 replace H := Option.bind_eq_some_iff.mp H
 obtain ⟨t132, A60, H⟩ := H
 replace H : ((ratio_magnitude_int.f a1).bind fun t133 => ((ratio_reduced.f k ((decide (a0 < 0)) != (decide (a1 < 0))) t132 t133).bind fun bt134 => (some (bt134.1, bt134.2.1, bt134.2.2)))) = some (r1, r2, r3) := H
 have A6 := Aside0.mk A60
 clear A60
 replace H := Option.bind_eq_some_iff.mp H
 obtain ⟨t133, A70, H⟩ := H
 replace H : ((ratio_reduced.f k ((decide (a0 < 0)) != (decide (a1 < 0))) t132 t133).bind fun bt134 => (some (bt134.1, bt134.2.1, bt134.2.2))) = some (r1, r2, r3) := H
 have A7 := Aside0.mk A70
 clear A70
 replace H := Option.bind_eq_some_iff.mp H
 obtain ⟨⟨t134, t135, t136⟩, A80, H⟩ := H
 replace H : (some (t134, t135, t136)) = some (r1, r2, r3) := H
 have A8 := Aside0.mk A80
 clear A80
 simp only [Option.some.injEq, Prod.mk.injEq] at H
 obtain ⟨rfl, rfl, rfl⟩ := H
 go_enter Tryd.func58, Tryd.ntmps58
 go_wp2_with (first | ((with_reducible refine gate_dst (N := 4) rfl ?_); refine box_event ?hg (N := 4) ?hd (cs := #[.int .i64 0, .int .i64 0]) (t := 41) ?hr ?_; (case hd => rfl); (case hg => rfl); (case hr => (go_simp; done)); intro gb131 hg w9 hbox hb; have n0_ := Aside0.mk (below_step HB.out hb); have n1_ := Aside0.mk (hbox); have n3_ := Aside0.mk ((by rw [hg]; exact (below_size HB.out) : w.heap.size ≤ gb131)); clear HB; have HB := n0_; have BK131 := n1_; have GE131 := n3_; clear n0_ n1_ n3_; clear hb hbox hg) | ((with_reducible refine gate_callee (f := 70) rfl ?_); refine goesL_ (some 15) rfl rfl Tryd.func70 (by kernel_rfl) rfl #[.int .i64 a0] rfl (by (try simp only [List.map_toArray, List.map_cons, List.map_nil]); rfl) ?_; (with_reducible refine (ratio_magnitude_int.calls a0 t132 _ A6.out).mono ?_); rintro e w' ⟨rfl, ⟨nd, rfl⟩⟩; refine ⟨_, rfl, ?_⟩; (try (rw [drewN_self w9]; generalize hq_ : World.drewN w9 _ = w9; have n0_ : Aside0 (w9.heap[gb131]? = some (.cells #[.int .i64 0, .int .i64 0] 41 (0, 0))) := ⟨by rw [← hq_]; exact (by (with_reducible repeat ((refine blk_drewN ?_ _))); exact BK131.out)⟩; have n1_ : Aside0 (Below w.heap.size w w9) := ⟨by rw [← hq_]; exact (by repeat ((with_reducible first | exact HB.out | apply pw_below_drewN)))⟩; clear BK131 HB hq_; have BK131 := n0_; have HB := n1_; clear n0_ n1_))) | ((with_reducible refine gate_callee (f := 70) rfl ?_); refine goesL_ (some 17) rfl rfl Tryd.func70 (by kernel_rfl) rfl #[.int .i64 a1] rfl (by (try simp only [List.map_toArray, List.map_cons, List.map_nil]); rfl) ?_; (with_reducible refine (ratio_magnitude_int.calls a1 t133 _ A7.out).mono ?_); rintro e w' ⟨rfl, ⟨nd, rfl⟩⟩; refine ⟨_, rfl, ?_⟩; (try (rw [drewN_self w9]; generalize hq_ : World.drewN w9 _ = w9; have n0_ : Aside0 (w9.heap[gb131]? = some (.cells #[.int .i64 0, .int .i64 0] 41 (0, 0))) := ⟨by rw [← hq_]; exact (by (with_reducible repeat ((refine blk_drewN ?_ _))); exact BK131.out)⟩; have n1_ : Aside0 (Below w.heap.size w w9) := ⟨by rw [← hq_]; exact (by repeat ((with_reducible first | exact HB.out | apply pw_below_drewN)))⟩; clear BK131 HB hq_; have BK131 := n0_; have HB := n1_; clear n0_ n1_))) | ((with_reducible refine gate_callee (f := 81) rfl ?_); refine goesL_ (some 18) rfl rfl Tryd.func81 (by kernel_rfl) rfl #[.bool ((decide (a0 < 0)) != (decide (a1 < 0))), .int .u64 t132, .int .u64 t133] rfl (by (try simp only [List.map_toArray, List.map_cons, List.map_nil]); rfl) ?_; (with_reducible refine (ratio_reduced.calls k ((decide (a0 < 0)) != (decide (a1 < 0))) t132 t133 t134 t135 t136 _ A8.out).mono ?_); rintro e w10 ⟨rfl, hb⟩; refine ⟨_, rfl, ?_⟩; have n0_ := Aside0.mk (blk_below (by exact BK131.out) hb); have n1_ := Aside0.mk (below_step HB.out hb); clear BK131; clear HB; have BK131 := n0_; have HB := n1_; clear n0_ n1_; (try clear hb); have hcz11_0 := cel_ BK131.out 0 rfl; have hcz11_1 := cel_ BK131.out 1 rfl; have hfz11_0 := blk_frozen BK131.out 0; have hfz11_1 := blk_frozen BK131.out 1))
 refine bodyPost_ret (results_ct rfl _ _ gb131 41 #[.int .i64 t134, .int .i64 t135] (0, 0) _ rfl (by refine blk_put (cs := #[.int .i64 t134, .int .i64 0]) ?_ 1 _ rfl; refine blk_put (cs := #[.int .i64 0, .int .i64 0]) ?_ 0 _ rfl; exact BK131.out) Tryd.underlying41 rfl (by kernel_rfl)) rfl ?_
 exact ⟨by rfl, by repeat ((with_reducible first | exact HB.out | refine below_set ?_ GE131.out))⟩

/-! ### measure_share: function 43 -/
def measure_share.f (k : Nat) (a0 : Int) (a1 : Int) : Option (Int × Int) := (ratio_Make.f k a0 a1).bind fun bt138 => (if bt138.2.2 = 0 then (some (bt138.1, bt138.2.1)) else (some (0, 1)))
set_option maxHeartbeats 8000000 in
set_option maxRecDepth 100000 in
theorem measure_share.calls (k : Nat) (a0 : Int) (a1 : Int) (r1 : Int) (r2 : Int) (w : World) (hG : Gl w) (h : measure_share.f k a0 a1 = some (r1, r2)) :
  Calls Tryd.prog 43 #[.int .i64 a0, .int .i64 a1] w fun e w' => e = .returned (.agg #[.int .i64 r1, .int .i64 r2]) ∧ Below w.heap.size w w' := by
 have HGl := Aside0.mk hG
 clear hG
 have hu41 := Tryd.underlying41
 have HB := Aside0.mk (Below.refl w.heap.size w)
 have H : ((ratio_Make.f k a0 a1).bind fun bt138 => (if bt138.2.2 = 0 then (some (bt138.1, bt138.2.1)) else (some (0, 1)))) = some (r1, r2) := h
 clear h
 replace H := Option.bind_eq_some_iff.mp H
 obtain ⟨⟨t138, t139, t140⟩, A30, H⟩ := H
 replace H : (if t140 = 0 then (some (t138, t139)) else (some (0, 1))) = some (r1, r2) := H
 have A3 := Aside0.mk A30
 clear A30
 by_cases c4 : t140 = 0
 ·rw [if_pos c4] at H
  have c4b0 : (t140 == 0) = true := beq_iff_eq.mpr c4
  have c4b1 : (t140 != 0) = false := bne_eq_false_iff_eq.mpr c4
  clear c4
  simp only [Option.some.injEq, Prod.mk.injEq] at H
  obtain ⟨rfl, rfl⟩ := H
  go_enter Tryd.func43, Tryd.ntmps43
  go_wp2_with (first | ((with_reducible refine gate_dst (N := 4) rfl ?_); refine box_event ?hg (N := 4) ?hd (cs := #[.int .i64 0, .int .i64 0]) (t := 41) ?hr ?_; (case hd => rfl); (case hg => rfl); (case hr => (go_simp; done)); intro gb137 hg w5 hbox hb; have n0_ := Aside0.mk (below_step HB.out hb); have n1_ := Aside0.mk (hbox); have n3_ := Aside0.mk ((by rw [hg]; exact (below_size HB.out) : w.heap.size ≤ gb137)); clear HB; have HB := n0_; have BK137 := n1_; have GE137 := n3_; clear n0_ n1_ n3_; clear hb hbox hg) | ((with_reducible refine gate_callee (f := 58) rfl ?_); refine goesL_ (some 10) rfl rfl Tryd.func58 (by kernel_rfl) rfl #[.int .i64 a0, .int .i64 a1] rfl (by (try simp only [List.map_toArray, List.map_cons, List.map_nil]); rfl) ?_; (with_reducible refine (ratio_Make.calls k a0 a1 t138 t139 t140 _ A3.out).mono ?_); rintro e w6 ⟨rfl, hb⟩; refine ⟨_, rfl, ?_⟩; have n0_ := Aside0.mk (blk_below (by exact BK137.out) hb); have n1_ := Aside0.mk (below_step HB.out hb); clear BK137; clear HB; have BK137 := n0_; have HB := n1_; clear n0_ n1_; (try clear hb)) | ((with_reducible refine gate_dst (N := 5) rfl ?_); refine box_event ?hg (N := 5) ?hd (cs := #[.int .i64 0, .int .i64 0]) (t := 41) ?hr ?_; (case hd => rfl); (case hg => rfl); (case hr => (go_simp; done)); intro gb141 hg w7 hbox hb; have n0_ := Aside0.mk (blk_below (by exact BK137.out) hb); have n1_ := Aside0.mk (below_step HB.out hb); have n2_ := Aside0.mk (hbox); have n4_ := Aside0.mk ((by rw [hg]; exact (below_size HB.out) : w.heap.size ≤ gb141)); have n5_ := Aside0.mk ((by rw [hg]; exact Nat.ne_of_lt (blk_lt (by exact BK137.out)) : gb137 ≠ gb141)); have n6_ := Aside0.mk ((by rw [hg]; exact Nat.ne_of_gt (blk_lt (by exact BK137.out)) : gb141 ≠ gb137)); clear BK137; clear HB; have BK137 := n0_; have HB := n1_; have BK141 := n2_; have GE141 := n4_; have NB137_141 := n5_; have NB141_137 := n6_; clear n0_ n1_ n2_ n4_ n5_ n6_; clear hb hbox hg; have hnb8 := NB141_137.out; have hnc8 := NB137_141.out; have hcz9_0 := cel_ BK141.out 0 rfl; have hcz9_1 := cel_ BK141.out 1 rfl; have hfz9_0 := blk_frozen BK141.out 0; have hfz9_1 := blk_frozen BK141.out 1; have hcz10_0 := cel_ BK137.out 0 rfl; have hcz10_1 := cel_ BK137.out 1 rfl; have hfz10_0 := blk_frozen BK137.out 0; have hfz10_1 := blk_frozen BK137.out 1))
  refine bodyPost_ret (results_cell_row rfl _ _ gb137 41 #[.int .i64 t138, .int .i64 t139] (0, 0) _ rfl (by refine blk_put (cs := #[.int .i64 t138, .int .i64 0]) ?_ 1 _ rfl; refine blk_put (cs := #[.int .i64 0, .int .i64 0]) ?_ 0 _ rfl; refine blk_far ?_ NB137_141.out _; refine blk_far ?_ NB137_141.out _; exact BK137.out) Tryd.underlying41 rfl (by kernel_rfl)) rfl ?_
  exact ⟨by rfl, by repeat ((with_reducible first | exact HB.out | refine below_set ?_ GE137.out | refine below_set ?_ GE141.out))⟩
 rw [if_neg c4] at H
 have c4b0 : (t140 == 0) = false := beq_eq_false_iff_ne.mpr c4
 have c4b1 : (t140 != 0) = true := bne_iff_ne.mpr c4
 simp only [Option.some.injEq, Prod.mk.injEq] at H
 obtain ⟨rfl, rfl⟩ := H
 go_enter Tryd.func43, Tryd.ntmps43
 go_wp2_with (first | ((with_reducible refine gate_op (op := .load 41 (.global 0)) rfl ?_); refine gl0_event rfl rfl rfl ?hGl ?_; (case hGl => exact Gl.below HGl.out (by repeat ((with_reducible first | exact HB.out | refine below_set ?_ (Aside0.out (by assumption))))))) | ((with_reducible refine gate_dst (N := 4) rfl ?_); refine box_event ?hg (N := 4) ?hd (cs := #[.int .i64 0, .int .i64 0]) (t := 41) ?hr ?_; (case hd => rfl); (case hg => rfl); (case hr => (go_simp; done)); intro gb137 hg w11 hbox hb; have n0_ := Aside0.mk (below_step HB.out hb); have n1_ := Aside0.mk (hbox); have n3_ := Aside0.mk ((by rw [hg]; exact (below_size HB.out) : w.heap.size ≤ gb137)); clear HB; have HB := n0_; have BK137 := n1_; have GE137 := n3_; clear n0_ n1_ n3_; clear hb hbox hg) | ((with_reducible refine gate_callee (f := 58) rfl ?_); refine goesL_ (some 10) rfl rfl Tryd.func58 (by kernel_rfl) rfl #[.int .i64 a0, .int .i64 a1] rfl (by (try simp only [List.map_toArray, List.map_cons, List.map_nil]); rfl) ?_; (with_reducible refine (ratio_Make.calls k a0 a1 t138 t139 t140 _ A3.out).mono ?_); rintro e w12 ⟨rfl, hb⟩; refine ⟨_, rfl, ?_⟩; have n0_ := Aside0.mk (blk_below (by exact BK137.out) hb); have n1_ := Aside0.mk (below_step HB.out hb); clear BK137; clear HB; have BK137 := n0_; have HB := n1_; clear n0_ n1_; (try clear hb)) | ((with_reducible refine gate_dst (N := 5) rfl ?_); refine box_event ?hg (N := 5) ?hd (cs := #[.int .i64 0, .int .i64 0]) (t := 41) ?hr ?_; (case hd => rfl); (case hg => rfl); (case hr => (go_simp; done)); intro gb141 hg w13 hbox hb; have n0_ := Aside0.mk (blk_below (by exact BK137.out) hb); have n1_ := Aside0.mk (below_step HB.out hb); have n2_ := Aside0.mk (hbox); have n4_ := Aside0.mk ((by rw [hg]; exact (below_size HB.out) : w.heap.size ≤ gb141)); have n5_ := Aside0.mk ((by rw [hg]; exact Nat.ne_of_lt (blk_lt (by exact BK137.out)) : gb137 ≠ gb141)); have n6_ := Aside0.mk ((by rw [hg]; exact Nat.ne_of_gt (blk_lt (by exact BK137.out)) : gb141 ≠ gb137)); clear BK137; clear HB; have BK137 := n0_; have HB := n1_; have BK141 := n2_; have GE141 := n4_; have NB137_141 := n5_; have NB141_137 := n6_; clear n0_ n1_ n2_ n4_ n5_ n6_; clear hb hbox hg; have hnb14 := NB141_137.out; have hnc14 := NB137_141.out; have hcz15_0 := cel_ BK141.out 0 rfl; have hcz15_1 := cel_ BK141.out 1 rfl; have hfz15_0 := blk_frozen BK141.out 0; have hfz15_1 := blk_frozen BK141.out 1; have hcz16_0 := cel_ BK137.out 0 rfl; have hcz16_1 := cel_ BK137.out 1 rfl; have hfz16_0 := blk_frozen BK137.out 0; have hfz16_1 := blk_frozen BK137.out 1))
 refine bodyPost_ret (results_cell_row rfl _ _ gb137 41 #[.int .i64 0, .int .i64 1] (0, 0) _ rfl (by refine blk_put (cs := #[.int .i64 0, .int .i64 0]) ?_ 1 _ rfl; refine blk_put (cs := #[.int .i64 0, .int .i64 0]) ?_ 0 _ rfl; refine blk_far ?_ NB137_141.out _; refine blk_far ?_ NB137_141.out _; exact BK137.out) Tryd.underlying41 rfl (by kernel_rfl)) rfl ?_
 exact ⟨by rfl, by repeat ((with_reducible first | exact HB.out | refine below_set ?_ GE137.out | refine below_set ?_ GE141.out))⟩

end Go.Proofs.YtiffkknhnmpgbaaDoor.Q
end

section
namespace Go.Proofs.YtiffkknhnmpgbaaDoor.Q
open Go.RowKit Go.Proofs.YtiffkknhnmpgbaaDoorW.PrintWords Go.Proofs.YtiffkknhnmpgbaaDoorW.PrintLast Go.Proofs.YtiffkknhnmpgbaaDoorW.PrintMore
attribute [local go_sem] max2_int min2_int max_two min_two max_three min_three max_four min_four   -- for this text's walks alone
set_option linter.unusedVariables false
set_option linter.unusedSimpArgs false

/-! ### measure_Alike: function 36 -/
def measure_Alike.f (k : Nat) (a0 : ByteArray) (a1 : ByteArray) : Option (Int × Int) := if (mx (a0.size : Int) (a1.size : Int)) = 0 then (some (1, 1)) else ((measure_Edit.f k a0 a1).bind fun t143 => ((measure_share.f k (wrap64 ((mx (a0.size : Int) (a1.size : Int)) - t143)) (mx (a0.size : Int) (a1.size : Int))).bind fun bt144 => (some (bt144.1, bt144.2))))
set_option maxHeartbeats 8000000 in
set_option maxRecDepth 100000 in
theorem measure_Alike.calls (k : Nat) (a0 : ByteArray) (a1 : ByteArray) (r1 : Int) (r2 : Int) (w : World) (hG : Gl w) (h : measure_Alike.f k a0 a1 = some (r1, r2)) :
  Calls Tryd.prog 36 #[.string a0, .string a1] w fun e w' => e = .returned (.agg #[.int .i64 r1, .int .i64 r2]) ∧ Below w.heap.size w w' := by
 have HGl := Aside0.mk hG
 clear hG
 have hu41 := Tryd.underlying41
 have HB := Aside0.mk (Below.refl w.heap.size w)
 have H : (if (mx (a0.size : Int) (a1.size : Int)) = 0 then (some (1, 1)) else ((measure_Edit.f k a0 a1).bind fun t143 => ((measure_share.f k (wrap64 ((mx (a0.size : Int) (a1.size : Int)) - t143)) (mx (a0.size : Int) (a1.size : Int))).bind fun bt144 => (some (bt144.1, bt144.2))))) = some (r1, r2) := h
 clear h
 obtain ⟨ji3, hji3⟩ : ∃ j_ : Int, (mx (a0.size : Int) (a1.size : Int)) = j_ := ⟨_, rfl⟩
 replace H : (if (ji3) = 0 then (some (1, 1)) else ((measure_Edit.f k a0 a1).bind fun t143 => ((measure_share.f k (wrap64 ((ji3) - t143)) (ji3)).bind fun bt144 => (some (bt144.1, bt144.2))))) = some (r1, r2) := by (rw [hji3] at H; exact H)
 (try (have hji3l : 0 ≤ ji3 := by (rw [← hji3]; unfold mx; (repeat' split) <;> omega)))
 (try (have hji3m : 0 ≤ ji3 := by omega))
 have hji3_ : (if (a0.size : Int) < (a1.size : Int) then (a1.size : Int) else (a0.size : Int)) = ji3 := hji3
 (try (have hji3n_ := hji3_; simp only [Int.ofNat_lt] at hji3n_))
 by_cases c4 : (ji3) = 0
 ·rw [if_pos c4] at H
  have c4b0 : ((ji3) == 0) = true := beq_iff_eq.mpr c4
  have c4b1 : ((ji3) != 0) = false := bne_eq_false_iff_eq.mpr c4
  clear c4
  simp only [Option.some.injEq, Prod.mk.injEq] at H
  obtain ⟨rfl, rfl⟩ := H
  go_enter Tryd.func36, Tryd.ntmps36
  go_wp2_with (first | ((with_reducible refine gate_op (op := .load 41 (.global 1)) rfl ?_); refine gl1_event rfl rfl rfl ?hGl ?_; (case hGl => exact Gl.below HGl.out HB.out)) | ((with_reducible refine gate_dst (N := 4) rfl ?_); refine box_event ?hg (N := 4) ?hd (cs := #[.int .i64 0, .int .i64 0]) (t := 41) ?hr ?_; (case hd => rfl); (case hg => rfl); (case hr => (go_simp; done)); intro gb142 hg w5 hbox hb; have n0_ := Aside0.mk (below_step HB.out hb); have n1_ := Aside0.mk (hbox); have n3_ := Aside0.mk ((by rw [hg]; exact (below_size HB.out) : w.heap.size ≤ gb142)); clear HB; have HB := n0_; have BK142 := n1_; have GE142 := n3_; clear n0_ n1_ n3_; clear hb hbox hg; have hcz6_0 := cel_ BK142.out 0 rfl; have hcz6_1 := cel_ BK142.out 1 rfl; have hfz6_0 := blk_frozen BK142.out 0; have hfz6_1 := blk_frozen BK142.out 1))
  refine bodyPost_ret (results_cell_row rfl _ _ gb142 41 #[.int .i64 1, .int .i64 1] (0, 0) _ rfl (by refine blk_put (cs := #[.int .i64 1, .int .i64 0]) ?_ 1 _ rfl; refine blk_put (cs := #[.int .i64 0, .int .i64 0]) ?_ 0 _ rfl; exact BK142.out) Tryd.underlying41 rfl (by kernel_rfl)) rfl ?_
  exact ⟨by rfl, by repeat ((with_reducible first | exact HB.out | refine below_set ?_ GE142.out))⟩
 rw [if_neg c4] at H
 have c4b0 : ((ji3) == 0) = false := beq_eq_false_iff_ne.mpr c4
 have c4b1 : ((ji3) != 0) = true := bne_iff_ne.mpr c4
 replace H := Option.bind_eq_some_iff.mp H
 obtain ⟨t143, A70, H⟩ := H
 replace H : ((measure_share.f k (wrap64 ((ji3) - t143)) (ji3)).bind fun bt144 => (some (bt144.1, bt144.2))) = some (r1, r2) := H
 have A7 := Aside0.mk A70
 clear A70
 replace H := Option.bind_eq_some_iff.mp H
 obtain ⟨⟨t144, t145⟩, A80, H⟩ := H
 replace H : (some (t144, t145)) = some (r1, r2) := H
 have A8 := Aside0.mk A80
 clear A80
 simp only [Option.some.injEq, Prod.mk.injEq] at H
 obtain ⟨rfl, rfl⟩ := H
 go_enter Tryd.func36, Tryd.ntmps36
 go_wp2_with (first | ((with_reducible refine gate_dst (N := 4) rfl ?_); refine box_event ?hg (N := 4) ?hd (cs := #[.int .i64 0, .int .i64 0]) (t := 41) ?hr ?_; (case hd => rfl); (case hg => rfl); (case hr => (go_simp; done)); intro gb142 hg w9 hbox hb; have n0_ := Aside0.mk (below_step HB.out hb); have n1_ := Aside0.mk (hbox); have n3_ := Aside0.mk ((by rw [hg]; exact (below_size HB.out) : w.heap.size ≤ gb142)); clear HB; have HB := n0_; have BK142 := n1_; have GE142 := n3_; clear n0_ n1_ n3_; clear hb hbox hg) | ((with_reducible refine gate_callee (f := 53) rfl ?_); refine goesL_ (some 17) rfl rfl Tryd.func53 (by kernel_rfl) rfl #[.string a0, .string a1] rfl (by (try simp only [List.map_toArray, List.map_cons, List.map_nil]); rfl) ?_; (with_reducible refine (measure_Edit.calls k a0 a1 t143 _ A7.out).mono ?_); rintro e w10 ⟨rfl, hb⟩; refine ⟨_, rfl, ?_⟩; have n0_ := Aside0.mk (blk_below (by exact BK142.out) hb); have n1_ := Aside0.mk (below_step HB.out hb); clear BK142; clear HB; have BK142 := n0_; have HB := n1_; clear n0_ n1_; (try clear hb)) | ((with_reducible refine gate_callee (f := 43) rfl ?_); refine goesL_ (some 20) rfl rfl Tryd.func43 (by kernel_rfl) rfl #[.int .i64 (wrap64 ((ji3) - t143)), .int .i64 ji3] rfl (by (try simp only [List.map_toArray, List.map_cons, List.map_nil]); rfl) ?_; (with_reducible refine (measure_share.calls k (wrap64 ((ji3) - t143)) ji3 t144 t145 _ ?sGl A8.out).mono ?_); (case sGl => exact Gl.below HGl.out HB.out); rintro e w11 ⟨rfl, hb⟩; refine ⟨_, rfl, ?_⟩; have n0_ := Aside0.mk (blk_below (by exact BK142.out) hb); have n1_ := Aside0.mk (below_step HB.out hb); clear BK142; clear HB; have BK142 := n0_; have HB := n1_; clear n0_ n1_; (try clear hb); have hcz12_0 := cel_ BK142.out 0 rfl; have hcz12_1 := cel_ BK142.out 1 rfl; have hfz12_0 := blk_frozen BK142.out 0; have hfz12_1 := blk_frozen BK142.out 1))
 refine bodyPost_ret (results_cell_row rfl _ _ gb142 41 #[.int .i64 t144, .int .i64 t145] (0, 0) _ rfl (by refine blk_put (cs := #[.int .i64 t144, .int .i64 0]) ?_ 1 _ rfl; refine blk_put (cs := #[.int .i64 0, .int .i64 0]) ?_ 0 _ rfl; exact BK142.out) Tryd.underlying41 rfl (by kernel_rfl)) rfl ?_
 exact ⟨by rfl, by repeat ((with_reducible first | exact HB.out | refine below_set ?_ GE142.out))⟩

end Go.Proofs.YtiffkknhnmpgbaaDoor.Q
end

section
namespace Go.Proofs.YtiffkknhnmpgbaaDoor.CL
open Go.RowKit Go.Proofs.YtiffkknhnmpgbaaDoor.Q Go.Proofs.YtiffkknhnmpgbaaDoorW.PrintWords Go.Proofs.YtiffkknhnmpgbaaDoorW.PrintLast Go.Proofs.YtiffkknhnmpgbaaDoorW.PrintMore
attribute [local go_sem] max2_int min2_int max_two min_two max_three min_three max_four min_four   -- for this text's walks alone
set_option linter.unusedVariables false
set_option linter.unusedSimpArgs false



def errW : Option Int → Value
  | none => .nilIface
  | some c => .iface 0 (.int .i64 c)
theorem errW_none : errW none = .nilIface := rfl
theorem errW_some (c : Int) : errW (some c) = .iface 0 (.int .i64 c) := rfl

-- the values' own types
/-! #### struct type 41 -/
structure S41 where
  f0 : Int
  f1 : Int
def z41 : S41 := ⟨(0 : Int), (0 : Int)⟩
def k41 : Kd S41 := Kd.iso (Kd.pair (Kd.int .i64) (Kd.int .i64)) (fun x : S41 => (x.f0, x.f1))
theorem k41_open {w : World} {x : S41} {cs : List Value} (h : k41.K w x cs) : cs = [.int .i64 x.f0, .int .i64 x.f1] := by
  obtain ⟨_, _, rfl, rfl, rfl⟩ := h
  exact rfl
theorem k41_mk (w : World) (x : S41)  : k41.K w x [.int .i64 x.f0, .int .i64 x.f1] := ⟨[.int .i64 x.f0], [.int .i64 x.f1], rfl, rfl, rfl⟩
end Go.Proofs.YtiffkknhnmpgbaaDoor.CL
end

section
namespace Go.Proofs.YtiffkknhnmpgbaaDoor.Q
open Go.RowKit Go.Proofs.YtiffkknhnmpgbaaDoorW.PrintWords Go.Proofs.YtiffkknhnmpgbaaDoorW.PrintLast Go.Proofs.YtiffkknhnmpgbaaDoorW.PrintMore
attribute [local go_sem] max2_int min2_int max_two min_two max_three min_three max_four min_four   -- for this text's walks alone
set_option linter.unusedVariables false
set_option linter.unusedSimpArgs false

/-! ### measure_Jaro: function 42 -/
mutual
def measure_Jaro.j1 : Nat → ByteArray → ByteArray → Option (Int × Int)
 | 0, _, _ => none
 | k + 1, x0, x1 => if 0 ≤ (x1.size : Int) then (if ((x1.size : Int) : Int).toNat ≤ 281474976710656 then (measure_Jaro.l0 k x0 x1 (mx (wrap64 ((wrap64 ((mx (x0.size : Int) (x1.size : Int)) / 2)) - 1)) 0) (List.replicate ((x1.size : Int) : Int).toNat false) ([] : List Int) (x0.size : Int) 0) else (none)) else (none)
def measure_Jaro.l0 : Nat → ByteArray → ByteArray → Int → List Bool → List Int → Int → Int → Option (Int × Int)
 | 0, _, _, _, _, _, _, _ => none
 | k + 1, x0, x1, x5, x6, x7, x49, x50 => if x50 < x49 then (measure_Jaro.l1 k x0 x1 x5 x6 x7 x50 (mn (wrap64 (x50 + x5)) (wrap64 ((x1.size : Int) - 1))) (mx (wrap64 (x50 - x5)) 0) x49 x50) else (if (x7.length : Int) = 0 then (some (0, 1)) else (measure_Jaro.l2 k x0 x1 x7 (x7.length : Int) 0 0 x6 (x6.length : Int) 0))
def measure_Jaro.l1 : Nat → ByteArray → ByteArray → Int → List Bool → List Int → Int → Int → Int → Int → Int → Option (Int × Int)
 | 0, _, _, _, _, _, _, _, _, _, _ => none
 | k + 1, x0, x1, x5, x6, x7, x8, x10, x11, x49, x50 => if x11 ≤ x10 then (if 0 ≤ x11 then (if x11 < (x6.length : Int) then (if rdOf false x6 x11 = true then (measure_Jaro.l1 k x0 x1 x5 x6 x7 x8 x10 (wrap64 (x11 + 1)) x49 x50) else (if 0 ≤ x8 then (if x8 < (x0.size : Int) then (if x11 < (x1.size : Int) then (if (bt x0 x8) = (bt x1 x11) then (if x7.length < 140737488355328 then (measure_Jaro.l0 k x0 x1 x5 (x6.set (x11 : Int).toNat true) (x7 ++ [bt x0 x8]) x49 (wrap64 (x50 + 1))) else (none)) else (measure_Jaro.l1 k x0 x1 x5 x6 x7 x8 x10 (wrap64 (x11 + 1)) x49 x50)) else (none)) else (none)) else (none))) else (none)) else (none)) else (measure_Jaro.l0 k x0 x1 x5 x6 x7 x49 (wrap64 (x50 + 1)))
def measure_Jaro.l2 : Nat → ByteArray → ByteArray → List Int → Int → Int → Int → List Bool → Int → Int → Option (Int × Int)
 | 0, _, _, _, _, _, _, _, _, _ => none
 | k + 1, x0, x1, x7, x12, x13, x14, x99, x100, x101 => if x101 < x100 then (if 0 ≤ x101 then (if x101 < (x99.length : Int) then (if rdOf false x99 x101 = true then (if 0 ≤ x14 then (if x14 < (x7.length : Int) then (if x101 < (x1.size : Int) then (if (rd x7 x14) = (bt x1 x101) then (measure_Jaro.l2 k x0 x1 x7 x12 x13 (wrap64 (x14 + 1)) x99 x100 (wrap64 (x101 + 1))) else (measure_Jaro.l2 k x0 x1 x7 x12 (wrap64 (x13 + 1)) (wrap64 (x14 + 1)) x99 x100 (wrap64 (x101 + 1)))) else (none)) else (none)) else (none)) else (measure_Jaro.l2 k x0 x1 x7 x12 x13 x14 x99 x100 (wrap64 (x101 + 1)))) else (none)) else (none)) else ((measure_share.f k (wrap64 ((wrap64 ((wrap64 ((wrap64 ((wrap64 (2 * x12)) * x12)) * (x1.size : Int))) + (wrap64 ((wrap64 ((wrap64 (2 * x12)) * x12)) * (x0.size : Int))))) + (wrap64 ((wrap64 ((wrap64 ((wrap64 (2 * x12)) - x13)) * (x0.size : Int))) * (x1.size : Int))))) (wrap64 ((wrap64 ((wrap64 (6 * (x0.size : Int))) * (x1.size : Int))) * x12))).bind fun bt155 => (some (bt155.1, bt155.2)))
def measure_Jaro.j0 : Nat → ByteArray → ByteArray → Bool → Option (Int × Int)
 | 0, _, _, _ => none
 | k + 1, x0, x1, x19 => if x19 = true then (some (0, 1)) else (if x0.toList = ([] : List UInt8) then (if x1.toList = ([] : List UInt8) then (some (1, 1)) else (measure_Jaro.j1 k x0 x1)) else (measure_Jaro.j1 k x0 x1))
end
def measure_Jaro.f (k : Nat) (a0 : ByteArray) (a1 : ByteArray) : Option (Int × Int) := if (a0.size : Int) > 200 then (measure_Jaro.j0 k a0 a1 true) else (measure_Jaro.j0 k a0 a1 (decide ((a1.size : Int) > 200)))
set_option maxHeartbeats 8000000 in
set_option maxRecDepth 100000 in
theorem measure_Jaro.calls (k : Nat) (a0 : ByteArray) (a1 : ByteArray) (r1 : Int) (r2 : Int) (w : World) (hG : Gl w) (h : measure_Jaro.f k a0 a1 = some (r1, r2)) :
  Calls Tryd.prog 42 #[.string a0, .string a1] w fun e w' => e = .returned (.agg #[.int .i64 r1, .int .i64 r2]) ∧ Below w.heap.size w w' := by
 have HGl := Aside0.mk hG
 clear hG
 have hu41 := Tryd.underlying41
 have HB := Aside0.mk (Below.refl w.heap.size w)
 have H : (if (a0.size : Int) > 200 then (measure_Jaro.j0 k a0 a1 true) else (measure_Jaro.j0 k a0 a1 (decide ((a1.size : Int) > 200)))) = some (r1, r2) := h
 clear h
 have HC3 := Aside0.mk H
 clear H
 go_enter Tryd.func42, Tryd.ntmps42
 go_upto_block 0 with (first | ((with_reducible refine gate_dst (N := 4) rfl ?_); (try (refine gate_guard (by rfl) ?_; dsimp only)); refine box_event ?hg (N := 4) ?hd (cs := #[.int .i64 0, .int .i64 0]) (t := 41) ?hr ?_; (case hd => rfl); (case hg => rfl); (case hr => (go_simp; done)); intro gb146 hg w4 hbox hb; have n0_ := Aside0.mk (below_step HB.out hb); have n1_ := Aside0.mk (hbox); have n3_ := Aside0.mk ((by rw [hg]; exact (below_size HB.out) : w.heap.size ≤ gb146)); clear HB; have HB := n0_; have BK146 := n1_; have GE146 := n3_; clear n0_ n1_ n3_; clear hb hbox hg))
 (try simp only [Act.put, pS_, pZ_, pC_])
 go_cut [] (fun wc => ∃ (kq : Nat) (x147000_2 : Int) (x147001_2 : Int), Aside0 (measure_Jaro.j1 kq a0 a1 = some (r1, r2)) ∧ Aside0 (kq ≤ k) ∧ Aside0 (wc.heap[gb146]? = some (.cells #[.int .i64 x147000_2, .int .i64 x147001_2] 41 (0, 0))) ∧ Aside0 (Below w.heap.size w wc))
 case first =>
  have H := HC3.out
  clear HC3
  have HC5 := Aside0.mk H
  clear H
  go_upto_region 1 with (fail)
  go_cut [19] (fun v19 wc => ∃ (kq : Nat) (x19_4 : Bool), v19 = .bool x19_4 ∧ Aside0 (measure_Jaro.j0 kq a0 a1 x19_4 = some (r1, r2)) ∧ Aside0 (kq ≤ k) ∧ Aside0 (wc.heap[gb146]? = some (.cells #[.int .i64 0, .int .i64 0] 41 (0, 0))) ∧ Aside0 (Below w.heap.size w wc))
  case first =>
   have H := HC5.out
   clear HC5
   by_cases c6 : (a0.size : Int) > 200
   ·rw [if_pos c6] at H
    have c6b0 : decide (200 < (a0.size : Int)) = true := decide_eq_true c6
    have c6b1 : decide (200 < a0.size) = true := decide_eq_true (by omega)
    clear c6
    have H' := Aside0.mk H
    clear H
    go_wp2_with (((with_reducible refine gate_op (op := .load 41 (.global 0)) rfl ?_); refine gl0_event rfl rfl rfl ?hGl ?_; (case hGl => exact Gl.below HGl.out (by skip))))
    go_meet
    case rel => exact ⟨_, (true), (by rfl), H', ⟨by omega⟩, ⟨by exact BK146.out⟩, ⟨by repeat ((with_reducible (exact HB.out)))⟩⟩
   rw [if_neg c6] at H
   have c6b0 : decide (200 < (a0.size : Int)) = false := decide_eq_false c6
   have c6b1 : decide (200 < a0.size) = false := decide_eq_false (by omega)
   clear c6
   have H' := Aside0.mk H
   clear H
   go_wp2_with (((with_reducible refine gate_op (op := .load 41 (.global 0)) rfl ?_); refine gl0_event rfl rfl rfl ?hGl ?_; (case hGl => exact Gl.below HGl.out (by skip))))
   go_meet
   case rel => exact ⟨_, (decide ((a1.size : Int) > 200)), (by rfl), H', ⟨by omega⟩, ⟨by exact BK146.out⟩, ⟨by repeat ((with_reducible (exact HB.out)))⟩⟩
  clear HC5
  obtain ⟨kq, x19_4, rfl, HA, HJ4, BK146, HB⟩ := hcut
  cases kq with
  | zero => exact absurd HA.out (by simp [measure_Jaro.j0])
  | succ kj4 =>
   have H := HA.out
   clear HA
   simp only [measure_Jaro.j0] at H
   by_cases c7 : x19_4 = true
   ·subst c7
    have H1 : (some (0, 1)) = some (r1, r2) := by rw [if_pos rfl] at H; exact H
    clear H
    have H := H1
    clear H1
    simp only [Option.some.injEq, Prod.mk.injEq] at H
    obtain ⟨rfl, rfl⟩ := H
    have hcz8_0 := cel_ BK146.out 0 rfl
    have hcz8_1 := cel_ BK146.out 1 rfl
    have hfz8_0 := blk_frozen BK146.out 0
    have hfz8_1 := blk_frozen BK146.out 1
    go_wp2_with (((with_reducible refine gate_op (op := .load 41 (.global 0)) rfl ?_); refine gl0_event rfl rfl rfl ?hGl ?_; (case hGl => exact Gl.below HGl.out HB.out)))
    refine bodyPost_ret (results_cell_row rfl _ _ gb146 41 #[.int .i64 0, .int .i64 1] (0, 0) _ rfl (by refine blk_put (cs := #[.int .i64 0, .int .i64 0]) ?_ 1 _ rfl; refine blk_put (cs := #[.int .i64 0, .int .i64 0]) ?_ 0 _ rfl; exact BK146.out) Tryd.underlying41 rfl (by kernel_rfl)) rfl ?_
    exact ⟨by rfl, by repeat ((with_reducible first | exact HB.out | refine below_set ?_ GE146.out))⟩
   replace c7 := Bool.eq_false_iff.mpr c7
   subst c7
   have H1 : (if a0.toList = ([] : List UInt8) then (if a1.toList = ([] : List UInt8) then (some (1, 1)) else (measure_Jaro.j1 kj4 a0 a1)) else (measure_Jaro.j1 kj4 a0 a1)) = some (r1, r2) := by rw [if_neg (show ¬ (false = true) by decide)] at H; exact H
   clear H
   have H := H1
   clear H1
   by_cases c9 : a0.toList = ([] : List UInt8)
   ·rw [if_pos c9] at H
    have c9b0 : (a0.toList == ([] : List UInt8)) = true := beq_iff_eq.mpr c9
    have c9b1 : (a0.toList != ([] : List UInt8)) = false := bne_eq_false_iff_eq.mpr c9
    clear c9
    by_cases c10 : a1.toList = ([] : List UInt8)
    ·rw [if_pos c10] at H
     have c10b0 : (a1.toList == ([] : List UInt8)) = true := beq_iff_eq.mpr c10
     have c10b1 : (a1.toList != ([] : List UInt8)) = false := bne_eq_false_iff_eq.mpr c10
     clear c10
     simp only [Option.some.injEq, Prod.mk.injEq] at H
     obtain ⟨rfl, rfl⟩ := H
     have hcz11_0 := cel_ BK146.out 0 rfl
     have hcz11_1 := cel_ BK146.out 1 rfl
     have hfz11_0 := blk_frozen BK146.out 0
     have hfz11_1 := blk_frozen BK146.out 1
     go_wp2_with (((with_reducible refine gate_op (op := .load 41 (.global 1)) rfl ?_); refine gl1_event rfl rfl rfl ?hGl ?_; (case hGl => exact Gl.below HGl.out HB.out)))
     refine bodyPost_ret (results_cell_row rfl _ _ gb146 41 #[.int .i64 1, .int .i64 1] (0, 0) _ rfl (by refine blk_put (cs := #[.int .i64 1, .int .i64 0]) ?_ 1 _ rfl; refine blk_put (cs := #[.int .i64 0, .int .i64 0]) ?_ 0 _ rfl; exact BK146.out) Tryd.underlying41 rfl (by kernel_rfl)) rfl ?_
     exact ⟨by rfl, by repeat ((with_reducible first | exact HB.out | refine below_set ?_ GE146.out))⟩
    rw [if_neg c10] at H
    have c10b0 : (a1.toList == ([] : List UInt8)) = false := beq_eq_false_iff_ne.mpr c10
    have c10b1 : (a1.toList != ([] : List UInt8)) = true := bne_iff_ne.mpr c10
    have H' := Aside0.mk H
    clear H
    go_wp2_with (((with_reducible refine gate_op (op := .load 41 (.global 0)) rfl ?_); refine gl0_event rfl rfl rfl ?hGl ?_; (case hGl => exact Gl.below HGl.out (by skip))))
    go_meet
    case rel => exact ⟨_, (0), (0), H', ⟨by have := HJ4.out; omega⟩, ⟨by exact BK146.out⟩, ⟨by repeat ((with_reducible (exact HB.out)))⟩⟩
   rw [if_neg c9] at H
   have c9b0 : (a0.toList == ([] : List UInt8)) = false := beq_eq_false_iff_ne.mpr c9
   have c9b1 : (a0.toList != ([] : List UInt8)) = true := bne_iff_ne.mpr c9
   have H' := Aside0.mk H
   clear H
   go_wp2_with (((with_reducible refine gate_op (op := .load 41 (.global 0)) rfl ?_); refine gl0_event rfl rfl rfl ?hGl ?_; (case hGl => exact Gl.below HGl.out (by skip))))
   go_meet
   case rel => exact ⟨_, (0), (0), H', ⟨by have := HJ4.out; omega⟩, ⟨by exact BK146.out⟩, ⟨by repeat ((with_reducible (exact HB.out)))⟩⟩
 clear HC3
 obtain ⟨kq, x147000_2, x147001_2, HA, HJ2, BK146, HB⟩ := hcut
 cases kq with
 | zero => exact absurd HA.out (by simp [measure_Jaro.j1])
 | succ kj2 =>
  have H := HA.out
  clear HA
  simp only [measure_Jaro.j1] at H
  obtain ⟨ji12, hji12⟩ : ∃ j_ : Int, (mx (a0.size : Int) (a1.size : Int)) = j_ := ⟨_, rfl⟩
  replace H : (if 0 ≤ (a1.size : Int) then (if ((a1.size : Int) : Int).toNat ≤ 281474976710656 then (measure_Jaro.l0 kj2 a0 a1 (mx (wrap64 ((wrap64 ((ji12) / 2)) - 1)) 0) (List.replicate ((a1.size : Int) : Int).toNat false) ([] : List Int) (a0.size : Int) 0) else (none)) else (none)) = some (r1, r2) := by (rw [hji12] at H; exact H)
  (try (have hji12l : 0 ≤ ji12 := by (rw [← hji12]; unfold mx; (repeat' split) <;> omega)))
  (try (have hji12m : 0 ≤ ji12 := by omega))
  have hji12_ : (if (a0.size : Int) < (a1.size : Int) then (a1.size : Int) else (a0.size : Int)) = ji12 := hji12
  (try (have hji12n_ := hji12_; simp only [Int.ofNat_lt] at hji12n_))
  obtain ⟨ji13, hji13⟩ : ∃ j_ : Int, (mx (wrap64 ((wrap64 ((ji12) / 2)) - 1)) 0) = j_ := ⟨_, rfl⟩
  replace H : (if 0 ≤ (a1.size : Int) then (if ((a1.size : Int) : Int).toNat ≤ 281474976710656 then (measure_Jaro.l0 kj2 a0 a1 ji13 (List.replicate ((a1.size : Int) : Int).toNat false) ([] : List Int) (a0.size : Int) 0) else (none)) else (none)) = some (r1, r2) := by (rw [hji13] at H; exact H)
  have hji13_ : (if (wrap64 ((wrap64 ((ji12) / 2)) - 1)) < 0 then 0 else (wrap64 ((wrap64 ((ji12) / 2)) - 1))) = ji13 := hji13
  (try (have hji13_t := hji13_; rw [show ji12 / 2 = ji12.tdiv 2 from (Int.tdiv_eq_ediv_of_nonneg (by omega)).symm] at hji13_t))
  by_cases c14 : 0 ≤ (a1.size : Int)
  ·rw [if_pos c14] at H
   have c14b0 := eq_true c14
   have c14b1 : decide (0 ≤ (a1.size : Int)) = true := decide_eq_true c14
   clear c14
   by_cases c15 : ((a1.size : Int) : Int).toNat ≤ 281474976710656
   ·rw [if_pos c15] at H
    have c15b0 := eq_true c15
    have c15b1 : decide (((a1.size : Int) : Int).toNat ≤ 281474976710656) = true := decide_eq_true c15
    clear c15
    obtain ⟨y147, hy147⟩ : ∃ y_ : List Bool, y_ = (List.replicate ((a1.size : Int) : Int).toNat false) := ⟨_, rfl⟩
    replace H : (measure_Jaro.l0 kj2 a0 a1 ji13 y147 ([] : List Int) (a0.size : Int) 0) = some (r1, r2) := by (rw [hy147]; with_reducible exact H)
    have Ny147 := Aside0.mk hy147
    clear hy147
    have H' := Aside0.mk H
    clear H
    go_wp2_with (((with_reducible refine gate_dst (N := 47) rfl ?_); (try (refine gate_guard (by rfl) ?_; dsimp only)); refine Kd.R_make Kd.bool _ 4 rfl (N := 47) rfl 34 _ _ rfl (a1.size : Int) rfl rfl Tryd.underlying34 (.bool false) 1 info4 rfl (by decide) (by omega) false (ok := fun _ => True) (okp := fun _ => True) rfl (fun _ hk => hk) trivial (of_decide_eq_true (by (with_reducible assumption))) (Nat.le_trans (Nat.mul_le_mul_right _ (of_decide_eq_true (by (with_reducible assumption)) : (a1.size : Int).toNat ≤ 281474976710656)) (by omega)) (Below.refl _ _) (Nat.le_refl _) ?_; intro v148 w16 ho17 hb hg_ hnew_; clear hg_ hnew_; ((rw [← Ny147.out] at ho17)); have n0_ := Aside0.mk (Kd.R_lower ho17 (below_size HB.out)); have n1_ := Aside0.mk (blk_below (by exact BK146.out) hb); have n2_ := Aside0.mk (below_step HB.out hb); clear BK146; clear HB; have HO149 := n0_; have BK146 := n1_; have HB := n2_; clear n0_ n1_ n2_; clear hb ho17))
    go_loopg [7, 50] kj2 (fun kq v7 v50 w' => ∃ (x6_2 : List Bool) (x7_2 : List Int) (x50_2 : Int), v50 = .int .i64 x50_2 ∧ Aside0 (measure_Jaro.l0 kq a0 a1 ji13 x6_2 x7_2 (a0.size : Int) x50_2 = some (r1, r2)) ∧ Aside0 (kq ≤ kj2) ∧ Aside0 (Kd.R Kd.bool 4 w' w.heap.size (fun _ => True) v148 x6_2) ∧ Aside0 (Kd.R (Kd.int .u8) 5 w' w.heap.size (fun _ => True) v7 x7_2) ∧ Aside0 (w'.heap[gb146]? = some (.cells #[.int .i64 x147000_2, .int .i64 x147001_2] 41 (0, 0))) ∧ Aside0 (Below w.heap.size w w'))
    case atStart => exact ⟨(y147), (([] : List Int)), (0), (by rfl), H', ⟨Nat.le_refl _⟩, ⟨by exact HO149.out⟩, ⟨by (exact Kd.R_nil _ _ _ _ _)⟩, ⟨by exact BK146.out⟩, ⟨by repeat ((with_reducible (exact HB.out)))⟩⟩
    clear H'
    clear c14b0 c14b1
    clear c15b0 c15b1
    obtain ⟨x6_2, x7_2, x50_2, rfl, HA, HK2, HO_6, HO_7, BK146, HB⟩ := hrel
    cases gk with
    | zero => exact absurd HA.out (by simp [measure_Jaro.l0])
    | succ k2 =>
     have H := HA.out
     clear HA
     simp only [measure_Jaro.l0] at H
     by_cases c18 : x50_2 < (a0.size : Int)
     ·rw [if_pos c18] at H
      have c18b0 : decide (x50_2 < (a0.size : Int)) = true := decide_eq_true c18
      clear c18
      obtain ⟨ji19, hji19⟩ : ∃ j_ : Int, (mx (wrap64 (x50_2 - ji13)) 0) = j_ := ⟨_, rfl⟩
      replace H : (measure_Jaro.l1 k2 a0 a1 ji13 x6_2 x7_2 x50_2 (mn (wrap64 (x50_2 + ji13)) (wrap64 ((a1.size : Int) - 1))) ji19 (a0.size : Int) x50_2) = some (r1, r2) := by (rw [hji19] at H; exact H)
      have hji19_ : (if (wrap64 (x50_2 - ji13)) < 0 then 0 else (wrap64 (x50_2 - ji13))) = ji19 := hji19
      obtain ⟨ji20, hji20⟩ : ∃ j_ : Int, (mn (wrap64 (x50_2 + ji13)) (wrap64 ((a1.size : Int) - 1))) = j_ := ⟨_, rfl⟩
      replace H : (measure_Jaro.l1 k2 a0 a1 ji13 x6_2 x7_2 x50_2 ji20 ji19 (a0.size : Int) x50_2) = some (r1, r2) := by (rw [hji20] at H; exact H)
      have hji20_ : (if (wrap64 ((a1.size : Int) - 1)) < (wrap64 (x50_2 + ji13)) then (wrap64 ((a1.size : Int) - 1)) else (wrap64 (x50_2 + ji13))) = ji20 := hji20
      have H' := Aside0.mk H
      clear H
      go_wp2_with (((with_reducible refine gate_op (op := .load 41 (.global 0)) rfl ?_); refine gl0_event rfl rfl rfl ?hGl ?_; (case hGl => exact Gl.below HGl.out (by skip))))
      go_loopg [7, 11] k2 (fun kq v7 v11 w' => ∃ (x6_3 : List Bool) (x7_3 : List Int) (x11_3 : Int), v11 = .int .i64 x11_3 ∧ Aside0 (measure_Jaro.l1 kq a0 a1 ji13 x6_3 x7_3 x50_2 ji20 x11_3 (a0.size : Int) x50_2 = some (r1, r2)) ∧ Aside0 (kq ≤ k2) ∧ Aside0 (Kd.R Kd.bool 4 w' w.heap.size (fun _ => True) v148 x6_3) ∧ Aside0 (Kd.R (Kd.int .u8) 5 w' w.heap.size (fun _ => True) v7 x7_3) ∧ Aside0 (w'.heap[gb146]? = some (.cells #[.int .i64 x147000_2, .int .i64 x147001_2] 41 (0, 0))) ∧ Aside0 (Below w.heap.size w w'))
      case atStart => exact ⟨(x6_2), (x7_2), (ji19), (by rfl), H', ⟨Nat.le_refl _⟩, ⟨by exact HO_6.out⟩, ⟨by exact HO_7.out⟩, ⟨by exact BK146.out⟩, ⟨by repeat ((with_reducible (exact HB.out)))⟩⟩
      clear H'
      clear c18b0
      obtain ⟨x6_3, x7_3, x11_3, rfl, HA, HK3, HO_6, HO_7, BK146, HB⟩ := hrel
      cases gk with
      | zero => exact absurd HA.out (by simp [measure_Jaro.l1])
      | succ k3 =>
       have H := HA.out
       clear HA
       simp only [measure_Jaro.l1] at H
       by_cases c21 : x11_3 ≤ ji20
       ·rw [if_pos c21] at H
        have c21b0 : decide (x11_3 ≤ ji20) = true := decide_eq_true c21
        clear c21
        by_cases c22 : 0 ≤ x11_3
        ·rw [if_pos c22] at H
         have c22b0 : decide (0 ≤ x11_3) = true := decide_eq_true c22
         clear c22
         by_cases c23 : x11_3 < (x6_3.length : Int)
         ·rw [if_pos c23] at H
          have c23b0 : decide (x11_3 < (x6_3.length : Int)) = true := decide_eq_true c23
          clear c23
          obtain ⟨bq24, hbq24⟩ : ∃ b_ : Bool, b_ = (rdOf false x6_3 x11_3) := ⟨_, rfl⟩
          replace H : (if bq24 = true then (measure_Jaro.l1 k3 a0 a1 ji13 x6_3 x7_3 x50_2 ji20 (wrap64 (x11_3 + 1)) (a0.size : Int) x50_2) else (if 0 ≤ x50_2 then (if x50_2 < (a0.size : Int) then (if x11_3 < (a1.size : Int) then (if (bt a0 x50_2) = (bt a1 x11_3) then (if x7_3.length < 140737488355328 then (measure_Jaro.l0 k3 a0 a1 ji13 (x6_3.set (x11_3 : Int).toNat true) (x7_3 ++ [bt a0 x50_2]) (a0.size : Int) (wrap64 (x50_2 + 1))) else (none)) else (measure_Jaro.l1 k3 a0 a1 ji13 x6_3 x7_3 x50_2 ji20 (wrap64 (x11_3 + 1)) (a0.size : Int) x50_2)) else (none)) else (none)) else (none))) = some (r1, r2) := by rw [← hbq24] at H; exact H
          have Nbq24 := Aside0.mk hbq24
          clear hbq24
          by_cases c25 : bq24 = true
          ·subst c25
           have H1 : (measure_Jaro.l1 k3 a0 a1 ji13 x6_3 x7_3 x50_2 ji20 (wrap64 (x11_3 + 1)) (a0.size : Int) x50_2) = some (r1, r2) := by rw [if_pos rfl] at H; exact H
           clear H
           have H := H1
           clear H1
           have H' := Aside0.mk H
           clear H
           obtain ⟨Ao26, co26, eo26⟩ := Kd.R_slice HO_6.out
           subst eo26
           have p150 : 0 ≤ (x11_3 : Int) := of_decide_eq_true (by (with_reducible assumption))
           have q150 : x11_3 < (x6_3.length : Int) := of_decide_eq_true (by (with_reducible assumption))
           obtain ⟨ad150, e150, hx150_0⟩ := Kd.at_bool (Kd.R_reads' HO_6.out).2.2 x11_3 p150 q150
           (try rw [← Nbq24.out] at hx150_0)
           cases e150
           replace p150 := eq_true p150
           replace q150 := eq_true q150
           go_wp2_with (((with_reducible refine gate_op (op := .load 41 (.global 0)) rfl ?_); refine gl0_event rfl rfl rfl ?hGl ?_; (case hGl => exact Gl.below HGl.out (by skip))))
           repeat (go_quiet (((with_reducible refine gate_op (op := .load 41 (.global 0)) rfl ?_); refine gl0_event rfl rfl rfl ?hGl ?_; (case hGl => exact Gl.below HGl.out (by skip)))); try go_wp2_with (((with_reducible refine gate_op (op := .load 41 (.global 0)) rfl ?_); refine gl0_event rfl rfl rfl ?hGl ?_; (case hGl => exact Gl.below HGl.out (by skip)))))
           go_roundg k3
           case measure => have := HJ2.out; have := HK2.out; have := HK3.out; omega
           case rel => exact ⟨(x6_3), (x7_3), (wrap64 (x11_3 + 1)), (by rfl), H', ⟨by have := HJ2.out; have := HK2.out; have := HK3.out; omega⟩, ⟨by (with_reducible repeat ((apply Kd.R_drewN))); exact HO_6.out⟩, ⟨by (with_reducible repeat ((apply Kd.R_drewN))); exact HO_7.out⟩, ⟨by (with_reducible repeat ((refine blk_drewN ?_ _))); exact BK146.out⟩, ⟨by repeat ((with_reducible first | exact HB.out | apply pw_below_drewN))⟩⟩
          replace c25 := Bool.eq_false_iff.mpr c25
          subst c25
          have H1 : (if 0 ≤ x50_2 then (if x50_2 < (a0.size : Int) then (if x11_3 < (a1.size : Int) then (if (bt a0 x50_2) = (bt a1 x11_3) then (if x7_3.length < 140737488355328 then (measure_Jaro.l0 k3 a0 a1 ji13 (x6_3.set (x11_3 : Int).toNat true) (x7_3 ++ [bt a0 x50_2]) (a0.size : Int) (wrap64 (x50_2 + 1))) else (none)) else (measure_Jaro.l1 k3 a0 a1 ji13 x6_3 x7_3 x50_2 ji20 (wrap64 (x11_3 + 1)) (a0.size : Int) x50_2)) else (none)) else (none)) else (none)) = some (r1, r2) := by rw [if_neg (show ¬ (false = true) by decide)] at H; exact H
          clear H
          have H := H1
          clear H1
          by_cases c27 : 0 ≤ x50_2
          ·rw [if_pos c27] at H
           have c27b0 : decide (0 ≤ x50_2) = true := decide_eq_true c27
           clear c27
           by_cases c28 : x50_2 < (a0.size : Int)
           ·rw [if_pos c28] at H
            have c28b0 : decide (x50_2 < (a0.size : Int)) = true := decide_eq_true c28
            clear c28
            by_cases c30 : x11_3 < (a1.size : Int)
            ·rw [if_pos c30] at H
             have c30b0 : decide (x11_3 < (a1.size : Int)) = true := decide_eq_true c30
             clear c30
             by_cases c32 : (bt a0 x50_2) = (bt a1 x11_3)
             ·rw [if_pos c32] at H
              have c32b0 : ((bt a0 x50_2) == (bt a1 x11_3)) = true := beq_iff_eq.mpr c32
              have c32b1 : ((bt a0 x50_2) != (bt a1 x11_3)) = false := bne_eq_false_iff_eq.mpr c32
              clear c32
              by_cases c34 : x7_3.length < 140737488355328
              ·rw [if_pos c34] at H
               have LMc34 := Aside0.mk c34
               clear c34
               obtain ⟨y151, hy151⟩ : ∃ y_ : List Int, y_ = (x7_3 ++ [bt a0 x50_2]) := ⟨_, rfl⟩
               replace H : (measure_Jaro.l0 k3 a0 a1 ji13 (x6_3.set (x11_3 : Int).toNat true) y151 (a0.size : Int) (wrap64 (x50_2 + 1))) = some (r1, r2) := by (rw [hy151]; with_reducible exact H)
               have Ny151 := Aside0.mk hy151
               clear hy151
               obtain ⟨y154, hy154⟩ : ∃ y_ : List Bool, y_ = (x6_3.set (x11_3 : Int).toNat true) := ⟨_, rfl⟩
               replace H : (measure_Jaro.l0 k3 a0 a1 ji13 y154 y151 (a0.size : Int) (wrap64 (x50_2 + 1))) = some (r1, r2) := by (rw [hy154]; with_reducible exact H)
               have Ny154 := Aside0.mk hy154
               clear hy154
               have H' := Aside0.mk H
               clear H
               obtain ⟨Ao36, co36, eo36⟩ := Kd.R_slice HO_6.out
               subst eo36
               have p150 : 0 ≤ (x11_3 : Int) := of_decide_eq_true (by (with_reducible assumption))
               have q150 : x11_3 < (x6_3.length : Int) := of_decide_eq_true (by (with_reducible assumption))
               obtain ⟨ad150, e150, hx150_0⟩ := Kd.at_bool (Kd.R_reads' HO_6.out).2.2 x11_3 p150 q150
               (try rw [← Nbq24.out] at hx150_0)
               cases e150
               replace p150 := eq_true p150
               replace q150 := eq_true q150
               have p29 : 0 ≤ (x50_2 : Int) := of_decide_eq_true (by (with_reducible assumption))
               have q29 : x50_2 < (a0.size : Int) := of_decide_eq_true (by (with_reducible assumption))
               have hx29 := bt_at a0 x50_2
               replace p29 := eq_true p29
               replace q29 := eq_true q29
               have p31 : 0 ≤ (x11_3 : Int) := of_decide_eq_true (by (with_reducible assumption))
               have q31 : x11_3 < (a1.size : Int) := of_decide_eq_true (by (with_reducible assumption))
               have hx31 := bt_at a1 x11_3
               replace p31 := eq_true p31
               replace q31 := eq_true q31
               have p33 : 0 ≤ (x50_2 : Int) := of_decide_eq_true (by (with_reducible assumption))
               have q33 : x50_2 < (a0.size : Int) := of_decide_eq_true (by (with_reducible assumption))
               have hx33 := bt_at a0 x50_2
               replace p33 := eq_true p33
               replace q33 := eq_true q33
               go_wp2_with (((with_reducible refine gate_op (op := .load 41 (.global 0)) rfl ?_); refine gl0_event rfl rfl rfl ?hGl ?_; (case hGl => exact Gl.below HGl.out (by skip))))
               repeat (go_quiet (((with_reducible refine gate_op (op := .load 41 (.global 0)) rfl ?_); refine gl0_event rfl rfl rfl ?hGl ?_; (case hGl => exact Gl.below HGl.out (by skip)))); try go_wp2_with (first | ((with_reducible refine gate_builtin (b := .append) (xs := #[.tmp 86, .tmp 90]) rfl ?_); (try (refine gate_guard (by rfl) ?_; dsimp only)); at_builtin; refine Kd.R_append (Kd.int .u8) (w0 := w) w.heap.size rfl (.tmp 86) (.tmp 90) 107 5 (.int .u8 0) 1 rfl Tryd.underlying107 info5 rfl (by decide) (by omega) u7 x7_3 (bt a0 x50_2) [.int .u8 (bt a0 x50_2)] (fun _ => True) (fun _ => False) rfl rfl ?aP (fun _ hk => hk.elim) ?aF ?aO ?aB ?aS ?aL ?_; (case aP => exact rfl); (case aB => exact (by repeat ((with_reducible first | exact HB.out | apply pw_below_drewN)))); (case aF => exact (fun _ _ => trivial)); (case aO => exact (by (with_reducible repeat ((apply Kd.R_drewN))); exact HO_7.out)); (case aS => exact (below_size (by repeat ((with_reducible first | exact HB.out | apply pw_below_drewN))))); (case aL => have := LMc34.out; omega); intro v152 w37 ho hb hg hat; rw [← Ny151.out] at ho; have n0_ := Aside0.mk (Kd.R_over' (by (with_reducible repeat ((apply Kd.R_drewN))); exact HO_6.out) (Kd.R_typed (by (with_reducible repeat ((apply Kd.R_drewN))); exact HO_7.out)) (by decide) hg); have n1_ := Aside0.mk (blk_grown (by (with_reducible repeat ((refine blk_drewN ?_ _))); exact BK146.out) hg (Kd.R_ne HO_7.out BK146.out (by decide))); have n2_ := Aside0.mk (hb); have n3_ := Aside0.mk (ho); clear HO_6; clear BK146; clear HB; clear HO_7; have HO_6 := n0_; have BK146 := n1_; have HB := n2_; have HO153 := n3_; clear n0_ n1_ n2_ n3_; clear ho hb hg hat; have p35 : 0 ≤ (x11_3 : Int) := of_decide_eq_true (by (with_reducible assumption)); have q35 : (x11_3 : Int) < ((x6_3.length : Int) : Int) := of_decide_eq_true (by (with_reducible assumption)); obtain ⟨go35, co35, eo35, gb35, gl35, cl35, HG35⟩ := Kd.R_form HO_6.out (by omega); (cases eo35); have GB35 := Aside0.mk gb35; have GG35 := Aside0.mk HG35; clear gb35 gl35 HG35; ((simp only [add_plain] at hx150_0)); obtain ⟨hx35_0, hf35_0⟩ := Kd.R_celln false HO_6.out (x11_3 : Int) p35 q35; replace p35 := eq_true p35; replace q35 := eq_true q35; obtain ⟨hy38_, hz38_⟩ := Kd.R_celln false HO_6.out (x11_3 : Int) (of_decide_eq_true (by (with_reducible assumption))) (of_decide_eq_true (by (with_reducible assumption))); have HP38 := Kd.R_putg HO_6.out (x11_3 : Int) true) | ((with_reducible refine gate_store (t := 4) (p := 92) rfl ?_); refine store_event (t := 4) (p := 92) (v := ?vo_w39) (w1 := (w37.setCell ⟨go35, (x11_3 : Int).toNat, none⟩ (.bool true))) ?hg ?ho ?hn ?hr ?_; (case ho => rfl); (case hg => rfl); (case hn => rfl); (case hr => (go_simp; done)); intro w39 hw; have hg : w37.grownBy w39 (some go35) := (by rw [hw]; exact HP38.2); have hp_ : Kd.R Kd.bool 4 w39 w.heap.size (fun _ => True) (.slice (some ⟨go35, 0, none⟩) x6_3.length co36) y154 := (by rw [hw, Ny154.out]; exact HP38.1); clear HP38; have n0_ := Aside0.mk (hp_); have n1_ := Aside0.mk (blk_grown (by exact BK146.out) hg (Kd.R_ne HO_6.out BK146.out (by decide))); have n2_ := Aside0.mk (Kd.R_over' (v := (.slice (some ⟨go35, 0, none⟩) x6_3.length co36)) (by exact HO153.out) (Kd.R_typed HO_6.out) (by decide) hg); have n3_ := Aside0.mk ((by rw [hw]; exact below_set (HB.out) GB35.out : Below w.heap.size w w39)); clear HO_6; clear BK146; clear HO153; clear HB; have HO_6 := n0_; have BK146 := n1_; have HO153 := n2_; have HB := n3_; clear n0_ n1_ n2_ n3_; clear hg hw hp_)))
               go_roundg k3
               case measure => have := HJ2.out; have := HK2.out; have := HK3.out; omega
               case rel => exact ⟨(y154), (y151), (wrap64 (x50_2 + 1)), (by rfl), H', ⟨by have := HJ2.out; have := HK2.out; have := HK3.out; omega⟩, ⟨by exact HO_6.out⟩, ⟨by exact HO153.out⟩, ⟨by exact BK146.out⟩, ⟨by repeat ((with_reducible (exact HB.out)))⟩⟩
              rw [if_neg c34] at H
              exact absurd H (by simp)
             rw [if_neg c32] at H
             have c32b0 : ((bt a0 x50_2) == (bt a1 x11_3)) = false := beq_eq_false_iff_ne.mpr c32
             have c32b1 : ((bt a0 x50_2) != (bt a1 x11_3)) = true := bne_iff_ne.mpr c32
             have H' := Aside0.mk H
             clear H
             obtain ⟨Ao40, co40, eo40⟩ := Kd.R_slice HO_6.out
             subst eo40
             have p150 : 0 ≤ (x11_3 : Int) := of_decide_eq_true (by (with_reducible assumption))
             have q150 : x11_3 < (x6_3.length : Int) := of_decide_eq_true (by (with_reducible assumption))
             obtain ⟨ad150, e150, hx150_0⟩ := Kd.at_bool (Kd.R_reads' HO_6.out).2.2 x11_3 p150 q150
             (try rw [← Nbq24.out] at hx150_0)
             cases e150
             replace p150 := eq_true p150
             replace q150 := eq_true q150
             have p29 : 0 ≤ (x50_2 : Int) := of_decide_eq_true (by (with_reducible assumption))
             have q29 : x50_2 < (a0.size : Int) := of_decide_eq_true (by (with_reducible assumption))
             have hx29 := bt_at a0 x50_2
             replace p29 := eq_true p29
             replace q29 := eq_true q29
             have p31 : 0 ≤ (x11_3 : Int) := of_decide_eq_true (by (with_reducible assumption))
             have q31 : x11_3 < (a1.size : Int) := of_decide_eq_true (by (with_reducible assumption))
             have hx31 := bt_at a1 x11_3
             replace p31 := eq_true p31
             replace q31 := eq_true q31
             go_wp2_with (((with_reducible refine gate_op (op := .load 41 (.global 0)) rfl ?_); refine gl0_event rfl rfl rfl ?hGl ?_; (case hGl => exact Gl.below HGl.out (by skip))))
             repeat (go_quiet (((with_reducible refine gate_op (op := .load 41 (.global 0)) rfl ?_); refine gl0_event rfl rfl rfl ?hGl ?_; (case hGl => exact Gl.below HGl.out (by skip)))); try go_wp2_with (((with_reducible refine gate_op (op := .load 41 (.global 0)) rfl ?_); refine gl0_event rfl rfl rfl ?hGl ?_; (case hGl => exact Gl.below HGl.out (by skip)))))
             go_roundg k3
             case measure => have := HJ2.out; have := HK2.out; have := HK3.out; omega
             case rel => exact ⟨(x6_3), (x7_3), (wrap64 (x11_3 + 1)), (by rfl), H', ⟨by have := HJ2.out; have := HK2.out; have := HK3.out; omega⟩, ⟨by (with_reducible repeat ((apply Kd.R_drewN))); exact HO_6.out⟩, ⟨by (with_reducible repeat ((apply Kd.R_drewN))); exact HO_7.out⟩, ⟨by (with_reducible repeat ((refine blk_drewN ?_ _))); exact BK146.out⟩, ⟨by repeat ((with_reducible first | exact HB.out | apply pw_below_drewN))⟩⟩
            rw [if_neg c30] at H
            exact absurd H (by simp)
           rw [if_neg c28] at H
           exact absurd H (by simp)
          rw [if_neg c27] at H
          exact absurd H (by simp)
         rw [if_neg c23] at H
         exact absurd H (by simp)
        rw [if_neg c22] at H
        exact absurd H (by simp)
       rw [if_neg c21] at H
       have c21b0 : decide (x11_3 ≤ ji20) = false := decide_eq_false c21
       clear c21
       have H' := Aside0.mk H
       clear H
       go_wp2_with (((with_reducible refine gate_op (op := .load 41 (.global 0)) rfl ?_); refine gl0_event rfl rfl rfl ?hGl ?_; (case hGl => exact Gl.below HGl.out (by skip))))
       go_roundg k3
       case measure => have := HJ2.out; have := HK2.out; have := HK3.out; omega
       case rel => exact ⟨(x6_3), (x7_3), (wrap64 (x50_2 + 1)), (by rfl), H', ⟨by have := HJ2.out; have := HK2.out; have := HK3.out; omega⟩, ⟨by exact HO_6.out⟩, ⟨by exact HO_7.out⟩, ⟨by exact BK146.out⟩, ⟨by repeat ((with_reducible (exact HB.out)))⟩⟩
     rw [if_neg c18] at H
     have c18b0 : decide (x50_2 < (a0.size : Int)) = false := decide_eq_false c18
     clear c18
     by_cases c41 : (x7_2.length : Int) = 0
     ·rw [if_pos c41] at H
      have c41b0 : ((x7_2.length : Int) == 0) = true := beq_iff_eq.mpr c41
      have c41b1 : ((x7_2.length : Int) != 0) = false := bne_eq_false_iff_eq.mpr c41
      clear c41
      simp only [Option.some.injEq, Prod.mk.injEq] at H
      obtain ⟨rfl, rfl⟩ := H
      obtain ⟨Ao42, co42, eo42⟩ := Kd.R_slice HO_7.out
      subst eo42
      have hcz43_0 := cel_ BK146.out 0 rfl
      have hcz43_1 := cel_ BK146.out 1 rfl
      have hfz43_0 := blk_frozen BK146.out 0
      have hfz43_1 := blk_frozen BK146.out 1
      go_wp2_with (((with_reducible refine gate_op (op := .load 41 (.global 0)) rfl ?_); refine gl0_event rfl rfl rfl ?hGl ?_; (case hGl => exact Gl.below HGl.out HB.out)))
      refine bodyPost_ret (results_cell_row rfl _ _ gb146 41 #[.int .i64 0, .int .i64 1] (0, 0) _ rfl (by refine blk_put (cs := #[.int .i64 0, .int .i64 x147001_2]) ?_ 1 _ rfl; refine blk_put (cs := #[.int .i64 x147000_2, .int .i64 x147001_2]) ?_ 0 _ rfl; exact BK146.out) Tryd.underlying41 rfl (by kernel_rfl)) rfl ?_
      exact ⟨by rfl, by repeat ((with_reducible first | exact HB.out | refine below_set ?_ GE146.out))⟩
     rw [if_neg c41] at H
     have c41b0 : ((x7_2.length : Int) == 0) = false := beq_eq_false_iff_ne.mpr c41
     have c41b1 : ((x7_2.length : Int) != 0) = true := bne_iff_ne.mpr c41
     have c41b2 : ¬ (x7_2 = []) := fun h_ => c41 (by rw [h_]; rfl)
     have H' := Aside0.mk H
     clear H
     obtain ⟨Ao44, co44, eo44⟩ := Kd.R_slice HO_7.out
     subst eo44
     obtain ⟨Ao45, co45, eo45⟩ := Kd.R_slice HO_6.out
     subst eo45
     go_wp2_with (((with_reducible refine gate_op (op := .load 41 (.global 0)) rfl ?_); refine gl0_event rfl rfl rfl ?hGl ?_; (case hGl => exact Gl.below HGl.out (by skip))))
     go_loopg [13, 14, 101] k2 (fun kq v13 v14 v101 w' => ∃ (x13_3 : Int) (x14_3 : Int) (x101_3 : Int), v13 = .int .i64 x13_3 ∧ v14 = .int .i64 x14_3 ∧ v101 = .int .i64 x101_3 ∧ Aside0 (measure_Jaro.l2 kq a0 a1 x7_2 (x7_2.length : Int) x13_3 x14_3 x6_2 (x6_2.length : Int) x101_3 = some (r1, r2)) ∧ Aside0 (kq ≤ k2) ∧ Aside0 (Kd.R (Kd.int .u8) 5 w' w.heap.size (fun _ => True) (.slice Ao44 x7_2.length co44) x7_2) ∧ Aside0 (Kd.R Kd.bool 4 w' w.heap.size (fun _ => True) (.slice Ao45 x6_2.length co45) x6_2) ∧ Aside0 (w'.heap[gb146]? = some (.cells #[.int .i64 x147000_2, .int .i64 x147001_2] 41 (0, 0))) ∧ Aside0 (Below w.heap.size w w'))
     case atStart => exact ⟨(0), (0), (0), (by rfl), (by rfl), (by rfl), H', ⟨Nat.le_refl _⟩, ⟨by exact HO_7.out⟩, ⟨by exact HO_6.out⟩, ⟨by exact BK146.out⟩, ⟨by repeat ((with_reducible (exact HB.out)))⟩⟩
     clear H'
     clear c18b0
     clear c41 c41b0 c41b1 c41b2
     obtain ⟨x13_3, x14_3, x101_3, rfl, rfl, rfl, HA, HK3, HO_7, HO_99, BK146, HB⟩ := hrel
     cases gk with
     | zero => exact absurd HA.out (by simp [measure_Jaro.l2])
     | succ k3 =>
      have H := HA.out
      clear HA
      simp only [measure_Jaro.l2] at H
      by_cases c46 : x101_3 < (x6_2.length : Int)
      ·rw [if_pos c46] at H
       have c46b0 : decide (x101_3 < (x6_2.length : Int)) = true := decide_eq_true c46
       clear c46
       by_cases c47 : 0 ≤ x101_3
       ·rw [if_pos c47] at H
        have c47b0 : decide (0 ≤ x101_3) = true := decide_eq_true c47
        clear c47
        by_cases c48 : x101_3 < (x6_2.length : Int)
        ·rw [if_pos c48] at H
         have c48b0 : decide (x101_3 < (x6_2.length : Int)) = true := decide_eq_true c48
         clear c48
         obtain ⟨bq49, hbq49⟩ : ∃ b_ : Bool, b_ = (rdOf false x6_2 x101_3) := ⟨_, rfl⟩
         replace H : (if bq49 = true then (if 0 ≤ x14_3 then (if x14_3 < (x7_2.length : Int) then (if x101_3 < (a1.size : Int) then (if (rd x7_2 x14_3) = (bt a1 x101_3) then (measure_Jaro.l2 k3 a0 a1 x7_2 (x7_2.length : Int) x13_3 (wrap64 (x14_3 + 1)) x6_2 (x6_2.length : Int) (wrap64 (x101_3 + 1))) else (measure_Jaro.l2 k3 a0 a1 x7_2 (x7_2.length : Int) (wrap64 (x13_3 + 1)) (wrap64 (x14_3 + 1)) x6_2 (x6_2.length : Int) (wrap64 (x101_3 + 1)))) else (none)) else (none)) else (none)) else (measure_Jaro.l2 k3 a0 a1 x7_2 (x7_2.length : Int) x13_3 x14_3 x6_2 (x6_2.length : Int) (wrap64 (x101_3 + 1)))) = some (r1, r2) := by rw [← hbq49] at H; exact H
         have Nbq49 := Aside0.mk hbq49
         clear hbq49
         by_cases c50 : bq49 = true
         ·subst c50
          have H1 : (if 0 ≤ x14_3 then (if x14_3 < (x7_2.length : Int) then (if x101_3 < (a1.size : Int) then (if (rd x7_2 x14_3) = (bt a1 x101_3) then (measure_Jaro.l2 k3 a0 a1 x7_2 (x7_2.length : Int) x13_3 (wrap64 (x14_3 + 1)) x6_2 (x6_2.length : Int) (wrap64 (x101_3 + 1))) else (measure_Jaro.l2 k3 a0 a1 x7_2 (x7_2.length : Int) (wrap64 (x13_3 + 1)) (wrap64 (x14_3 + 1)) x6_2 (x6_2.length : Int) (wrap64 (x101_3 + 1)))) else (none)) else (none)) else (none)) = some (r1, r2) := by rw [if_pos rfl] at H; exact H
          clear H
          have H := H1
          clear H1
          by_cases c51 : 0 ≤ x14_3
          ·rw [if_pos c51] at H
           have c51b0 : decide (0 ≤ x14_3) = true := decide_eq_true c51
           clear c51
           by_cases c52 : x14_3 < (x7_2.length : Int)
           ·rw [if_pos c52] at H
            have c52b0 : decide (x14_3 < (x7_2.length : Int)) = true := decide_eq_true c52
            clear c52
            by_cases c53 : x101_3 < (a1.size : Int)
            ·rw [if_pos c53] at H
             have c53b0 : decide (x101_3 < (a1.size : Int)) = true := decide_eq_true c53
             clear c53
             by_cases c55 : (rd x7_2 x14_3) = (bt a1 x101_3)
             ·rw [if_pos c55] at H
              have c55b0 : ((rd x7_2 x14_3) == (bt a1 x101_3)) = true := beq_iff_eq.mpr c55
              have c55b1 : ((rd x7_2 x14_3) != (bt a1 x101_3)) = false := bne_eq_false_iff_eq.mpr c55
              clear c55
              have H' := Aside0.mk H
              clear H
              have p157 : 0 ≤ (x101_3 : Int) := of_decide_eq_true (by (with_reducible assumption))
              have q157 : x101_3 < (x6_2.length : Int) := of_decide_eq_true (by (with_reducible assumption))
              obtain ⟨ad157, e157, hx157_0⟩ := Kd.at_bool (Kd.R_reads' HO_99.out).2.2 x101_3 p157 q157
              (try rw [← Nbq49.out] at hx157_0)
              cases e157
              replace p157 := eq_true p157
              replace q157 := eq_true q157
              have p158 : 0 ≤ (x14_3 : Int) := of_decide_eq_true (by (with_reducible assumption))
              have q158 : x14_3 < (x7_2.length : Int) := of_decide_eq_true (by (with_reducible assumption))
              obtain ⟨ad158, e158, hx158_0⟩ := Kd.at_int (Kd.R_reads' HO_7.out).2.2 x14_3 p158 q158
              cases e158
              replace p158 := eq_true p158
              replace q158 := eq_true q158
              have p54 : 0 ≤ (x101_3 : Int) := of_decide_eq_true (by (with_reducible assumption))
              have q54 : x101_3 < (a1.size : Int) := of_decide_eq_true (by (with_reducible assumption))
              have hx54 := bt_at a1 x101_3
              replace p54 := eq_true p54
              replace q54 := eq_true q54
              go_wp2_with (((with_reducible refine gate_op (op := .load 41 (.global 0)) rfl ?_); refine gl0_event rfl rfl rfl ?hGl ?_; (case hGl => exact Gl.below HGl.out (by skip))))
              repeat (go_quiet (((with_reducible refine gate_op (op := .load 41 (.global 0)) rfl ?_); refine gl0_event rfl rfl rfl ?hGl ?_; (case hGl => exact Gl.below HGl.out (by skip)))); try go_wp2_with (((with_reducible refine gate_op (op := .load 41 (.global 0)) rfl ?_); refine gl0_event rfl rfl rfl ?hGl ?_; (case hGl => exact Gl.below HGl.out (by skip)))))
              go_roundg k3
              case measure => have := HJ2.out; have := HK2.out; have := HK3.out; omega
              case rel => exact ⟨(x13_3), (wrap64 (x14_3 + 1)), (wrap64 (x101_3 + 1)), (by rfl), (by rfl), (by rfl), H', ⟨by have := HJ2.out; have := HK2.out; have := HK3.out; omega⟩, ⟨by (with_reducible repeat ((apply Kd.R_drewN))); exact HO_7.out⟩, ⟨by (with_reducible repeat ((apply Kd.R_drewN))); exact HO_99.out⟩, ⟨by (with_reducible repeat ((refine blk_drewN ?_ _))); exact BK146.out⟩, ⟨by repeat ((with_reducible first | exact HB.out | apply pw_below_drewN))⟩⟩
             rw [if_neg c55] at H
             have c55b0 : ((rd x7_2 x14_3) == (bt a1 x101_3)) = false := beq_eq_false_iff_ne.mpr c55
             have c55b1 : ((rd x7_2 x14_3) != (bt a1 x101_3)) = true := bne_iff_ne.mpr c55
             have H' := Aside0.mk H
             clear H
             have p157 : 0 ≤ (x101_3 : Int) := of_decide_eq_true (by (with_reducible assumption))
             have q157 : x101_3 < (x6_2.length : Int) := of_decide_eq_true (by (with_reducible assumption))
             obtain ⟨ad157, e157, hx157_0⟩ := Kd.at_bool (Kd.R_reads' HO_99.out).2.2 x101_3 p157 q157
             (try rw [← Nbq49.out] at hx157_0)
             cases e157
             replace p157 := eq_true p157
             replace q157 := eq_true q157
             have p158 : 0 ≤ (x14_3 : Int) := of_decide_eq_true (by (with_reducible assumption))
             have q158 : x14_3 < (x7_2.length : Int) := of_decide_eq_true (by (with_reducible assumption))
             obtain ⟨ad158, e158, hx158_0⟩ := Kd.at_int (Kd.R_reads' HO_7.out).2.2 x14_3 p158 q158
             cases e158
             replace p158 := eq_true p158
             replace q158 := eq_true q158
             have p54 : 0 ≤ (x101_3 : Int) := of_decide_eq_true (by (with_reducible assumption))
             have q54 : x101_3 < (a1.size : Int) := of_decide_eq_true (by (with_reducible assumption))
             have hx54 := bt_at a1 x101_3
             replace p54 := eq_true p54
             replace q54 := eq_true q54
             go_wp2_with (((with_reducible refine gate_op (op := .load 41 (.global 0)) rfl ?_); refine gl0_event rfl rfl rfl ?hGl ?_; (case hGl => exact Gl.below HGl.out (by skip))))
             repeat (go_quiet (((with_reducible refine gate_op (op := .load 41 (.global 0)) rfl ?_); refine gl0_event rfl rfl rfl ?hGl ?_; (case hGl => exact Gl.below HGl.out (by skip)))); try go_wp2_with (((with_reducible refine gate_op (op := .load 41 (.global 0)) rfl ?_); refine gl0_event rfl rfl rfl ?hGl ?_; (case hGl => exact Gl.below HGl.out (by skip)))))
             go_roundg k3
             case measure => have := HJ2.out; have := HK2.out; have := HK3.out; omega
             case rel => exact ⟨(wrap64 (x13_3 + 1)), (wrap64 (x14_3 + 1)), (wrap64 (x101_3 + 1)), (by rfl), (by rfl), (by rfl), H', ⟨by have := HJ2.out; have := HK2.out; have := HK3.out; omega⟩, ⟨by (with_reducible repeat ((apply Kd.R_drewN))); exact HO_7.out⟩, ⟨by (with_reducible repeat ((apply Kd.R_drewN))); exact HO_99.out⟩, ⟨by (with_reducible repeat ((refine blk_drewN ?_ _))); exact BK146.out⟩, ⟨by repeat ((with_reducible first | exact HB.out | apply pw_below_drewN))⟩⟩
            rw [if_neg c53] at H
            exact absurd H (by simp)
           rw [if_neg c52] at H
           exact absurd H (by simp)
          rw [if_neg c51] at H
          exact absurd H (by simp)
         replace c50 := Bool.eq_false_iff.mpr c50
         subst c50
         have H1 : (measure_Jaro.l2 k3 a0 a1 x7_2 (x7_2.length : Int) x13_3 x14_3 x6_2 (x6_2.length : Int) (wrap64 (x101_3 + 1))) = some (r1, r2) := by rw [if_neg (show ¬ (false = true) by decide)] at H; exact H
         clear H
         have H := H1
         clear H1
         have H' := Aside0.mk H
         clear H
         have p157 : 0 ≤ (x101_3 : Int) := of_decide_eq_true (by (with_reducible assumption))
         have q157 : x101_3 < (x6_2.length : Int) := of_decide_eq_true (by (with_reducible assumption))
         obtain ⟨ad157, e157, hx157_0⟩ := Kd.at_bool (Kd.R_reads' HO_99.out).2.2 x101_3 p157 q157
         (try rw [← Nbq49.out] at hx157_0)
         cases e157
         replace p157 := eq_true p157
         replace q157 := eq_true q157
         go_wp2_with (((with_reducible refine gate_op (op := .load 41 (.global 0)) rfl ?_); refine gl0_event rfl rfl rfl ?hGl ?_; (case hGl => exact Gl.below HGl.out (by skip))))
         go_roundg k3
         case measure => have := HJ2.out; have := HK2.out; have := HK3.out; omega
         case rel => exact ⟨(x13_3), (x14_3), (wrap64 (x101_3 + 1)), (by rfl), (by rfl), (by rfl), H', ⟨by have := HJ2.out; have := HK2.out; have := HK3.out; omega⟩, ⟨by exact HO_7.out⟩, ⟨by exact HO_99.out⟩, ⟨by exact BK146.out⟩, ⟨by repeat ((with_reducible (exact HB.out)))⟩⟩
        rw [if_neg c48] at H
        exact absurd H (by simp)
       rw [if_neg c47] at H
       exact absurd H (by simp)
      rw [if_neg c46] at H
      have c46b0 : decide (x101_3 < (x6_2.length : Int)) = false := decide_eq_false c46
      clear c46
      replace H := Option.bind_eq_some_iff.mp H
      obtain ⟨⟨t155, t156⟩, A560, H⟩ := H
      replace H : (some (t155, t156)) = some (r1, r2) := H
      have A56 := Aside0.mk A560
      clear A560
      simp only [Option.some.injEq, Prod.mk.injEq] at H
      obtain ⟨rfl, rfl⟩ := H
      go_wp2_with ((go_at_call 43; (with_reducible refine (measure_share.calls k3 (wrap64 ((wrap64 ((wrap64 ((wrap64 ((wrap64 (2 * (x7_2.length : Int))) * (x7_2.length : Int))) * (a1.size : Int))) + (wrap64 ((wrap64 ((wrap64 (2 * (x7_2.length : Int))) * (x7_2.length : Int))) * (a0.size : Int))))) + (wrap64 ((wrap64 ((wrap64 ((wrap64 (2 * (x7_2.length : Int))) - x13_3)) * (a0.size : Int))) * (a1.size : Int))))) (wrap64 ((wrap64 ((wrap64 (6 * (a0.size : Int))) * (a1.size : Int))) * (x7_2.length : Int))) t155 t156 _ ?sGl A56.out).mono ?_); (case sGl => exact Gl.below HGl.out HB.out); rintro e w57 ⟨rfl, hb⟩; have n0_ := Aside0.mk (Kd.R_below (by exact HO_7.out) hb); have n1_ := Aside0.mk (Kd.R_below (by exact HO_99.out) hb); have n2_ := Aside0.mk (blk_below (by exact BK146.out) hb); have n3_ := Aside0.mk (below_step HB.out hb); clear HO_7; clear HO_99; clear BK146; clear HB; have HO_7 := n0_; have HO_99 := n1_; have BK146 := n2_; have HB := n3_; clear n0_ n1_ n2_ n3_; (try clear hb); have hcz58_0 := cel_ BK146.out 0 rfl; have hcz58_1 := cel_ BK146.out 1 rfl; have hfz58_0 := blk_frozen BK146.out 0; have hfz58_1 := blk_frozen BK146.out 1))
      refine bodyPost_ret (results_cell_row rfl _ _ gb146 41 #[.int .i64 t155, .int .i64 t156] (0, 0) _ rfl (by refine blk_put (cs := #[.int .i64 t155, .int .i64 x147001_2]) ?_ 1 _ rfl; refine blk_put (cs := #[.int .i64 x147000_2, .int .i64 x147001_2]) ?_ 0 _ rfl; exact BK146.out) Tryd.underlying41 rfl (by kernel_rfl)) rfl ?_
      exact ⟨by rfl, by repeat ((with_reducible first | exact HB.out | refine below_set ?_ GE146.out))⟩
   rw [if_neg c15] at H
   exact absurd H (by simp)
  rw [if_neg c14] at H
  exact absurd H (by simp)

end Go.Proofs.YtiffkknhnmpgbaaDoor.Q
end

section
namespace Go.Proofs.YtiffkknhnmpgbaaDoor.Q
open Go.RowKit Go.Proofs.YtiffkknhnmpgbaaDoorW.PrintWords Go.Proofs.YtiffkknhnmpgbaaDoorW.PrintLast Go.Proofs.YtiffkknhnmpgbaaDoorW.PrintMore
attribute [local go_sem] max2_int min2_int max_two min_two max_three min_three max_four min_four   -- for this text's walks alone
set_option linter.unusedVariables false
set_option linter.unusedSimpArgs false

/-! ### value_Valid: function 24 -/
def value_Valid.j0 : Nat → Bool → Int → Int → ByteArray → Option (Bool)
 | 0, _, _, _, _ => none
 | k + 1, x12, x165000, x165001, x165002 => if x12 = true then (some false) else (if x165000 = 0 then (if 0 ≤ x165001 then (some (decide (x165001 ≤ 0))) else (some false)) else (if x165000 = 1 then (if (x165002.size : Int) > 200 then (some false) else (if 0 ≤ x165001 then (some (decide (x165001 ≤ 0))) else (some false))) else (if x165000 = 2 then (if (-1000000000) ≤ x165001 then (some (decide (x165001 ≤ 1000000000))) else (some false)) else (if x165000 = 3 then (if 0 ≤ x165001 then (some (decide (x165001 ≤ 73048))) else (some false)) else (if x165000 = 4 then (if 0 ≤ x165001 then (some (decide (x165001 ≤ 1))) else (some false)) else (some false))))))
def value_Valid.f (k : Nat) (a0_0 : Int) (a0_1 : Int) (a0_2 : ByteArray) : Option (Bool) := if a0_0 = 1 then (value_Valid.j0 k false a0_0 a0_1 a0_2) else (value_Valid.j0 k (a0_2.toList != ([] : List UInt8)) a0_0 a0_1 a0_2)
set_option maxHeartbeats 8000000 in
set_option maxRecDepth 100000 in
theorem value_Valid.calls (k : Nat) (a0_0 : Int) (a0_1 : Int) (a0_2 : ByteArray) (r : Bool) (w : World) (h : value_Valid.f k a0_0 a0_1 a0_2 = some r) :
  Calls Tryd.prog 24 #[.agg #[.int .i64 a0_0, .int .i64 a0_1, .string a0_2]] w fun e w' => e = .returned (.bool r) ∧ Below w.heap.size w w' := by
 have hu48 := Tryd.underlying48
 have HB := Aside0.mk (Below.refl w.heap.size w)
 have H : (if a0_0 = 1 then (value_Valid.j0 k false a0_0 a0_1 a0_2) else (value_Valid.j0 k (a0_2.toList != ([] : List UInt8)) a0_0 a0_1 a0_2)) = some r := h
 clear h
 have HC2 := Aside0.mk H
 clear H
 go_enter Tryd.func24, Tryd.ntmps24
 go_upto_region 1 with (first | ((with_reducible refine gate_dst (N := 1) rfl ?_); refine box_event ?hg (N := 1) ?hd (cs := #[.int .i64 a0_0, .int .i64 a0_1, .string a0_2]) (t := 48) ?hr ?_; (case hd => rfl); (case hg => rfl); (case hr => (go_simp; done)); intro gb164 hg w3 hbox hb; have n0_ := Aside0.mk (below_step HB.out hb); have n1_ := Aside0.mk (hbox); clear HB; have HB := n0_; have BK164 := n1_; clear n0_ n1_; clear hb hbox hg))
 go_cut [12] (fun v12 wc => ∃ (kq : Nat) (x12_1 : Bool), v12 = .bool x12_1 ∧ Aside0 (value_Valid.j0 kq x12_1 a0_0 a0_1 a0_2 = some r) ∧ Aside0 (kq ≤ k) ∧ Aside0 (wc.heap[gb164]? = some (.cells #[.int .i64 a0_0, .int .i64 a0_1, .string a0_2] 48 (0, 0))) ∧ Aside0 (Below w.heap.size w wc))
 case first =>
  have H := HC2.out
  clear HC2
  by_cases c4 : a0_0 = 1
  ·rw [if_pos c4] at H
   have c4b0 : (a0_0 == 1) = true := beq_iff_eq.mpr c4
   have c4b1 : (a0_0 != 1) = false := bne_eq_false_iff_eq.mpr c4
   clear c4
   have H' := Aside0.mk H
   clear H
   have hcz5_0 := cel_ BK164.out 0 rfl
   have hcz5_1 := cel_ BK164.out 1 rfl
   have hcz5_2 := cel_ BK164.out 2 rfl
   have hfz5_0 := blk_frozen BK164.out 0
   have hfz5_1 := blk_frozen BK164.out 1
   have hfz5_2 := blk_frozen BK164.out 2
   go_wp2
   go_meet
   case rel => exact ⟨_, (false), (by rfl), H', ⟨by omega⟩, ⟨by exact BK164.out⟩, ⟨by repeat ((with_reducible (exact HB.out)))⟩⟩
  rw [if_neg c4] at H
  have c4b0 : (a0_0 == 1) = false := beq_eq_false_iff_ne.mpr c4
  have c4b1 : (a0_0 != 1) = true := bne_iff_ne.mpr c4
  have H' := Aside0.mk H
  clear H
  have hcz6_0 := cel_ BK164.out 0 rfl
  have hcz6_1 := cel_ BK164.out 1 rfl
  have hcz6_2 := cel_ BK164.out 2 rfl
  have hfz6_0 := blk_frozen BK164.out 0
  have hfz6_1 := blk_frozen BK164.out 1
  have hfz6_2 := blk_frozen BK164.out 2
  go_wp2
  go_meet
  case rel => exact ⟨_, ((a0_2.toList != ([] : List UInt8))), (by (simp [bne_nil_isEmpty]; done)), H', ⟨by omega⟩, ⟨by exact BK164.out⟩, ⟨by repeat ((with_reducible (exact HB.out)))⟩⟩
 clear HC2
 obtain ⟨kq, x12_1, rfl, HA, HJ1, BK164, HB⟩ := hcut
 cases kq with
 | zero => exact absurd HA.out (by simp [value_Valid.j0])
 | succ kj1 =>
  have H := HA.out
  clear HA
  simp only [value_Valid.j0] at H
  by_cases c7 : x12_1 = true
  ·subst c7
   have H1 : (some false) = some r := by rw [if_pos rfl] at H; exact H
   clear H
   have H := H1
   clear H1
   obtain rfl := Option.some.inj H
   go_wp2
   go_ret
   exact ⟨by rfl, by repeat ((with_reducible (exact HB.out)))⟩
  replace c7 := Bool.eq_false_iff.mpr c7
  subst c7
  have H1 : (if a0_0 = 0 then (if 0 ≤ a0_1 then (some (decide (a0_1 ≤ 0))) else (some false)) else (if a0_0 = 1 then (if (a0_2.size : Int) > 200 then (some false) else (if 0 ≤ a0_1 then (some (decide (a0_1 ≤ 0))) else (some false))) else (if a0_0 = 2 then (if (-1000000000) ≤ a0_1 then (some (decide (a0_1 ≤ 1000000000))) else (some false)) else (if a0_0 = 3 then (if 0 ≤ a0_1 then (some (decide (a0_1 ≤ 73048))) else (some false)) else (if a0_0 = 4 then (if 0 ≤ a0_1 then (some (decide (a0_1 ≤ 1))) else (some false)) else (some false)))))) = some r := by rw [if_neg (show ¬ (false = true) by decide)] at H; exact H
  clear H
  have H := H1
  clear H1
  by_cases c8 : a0_0 = 0
  ·rw [if_pos c8] at H
   have c8b0 : (a0_0 == 0) = true := beq_iff_eq.mpr c8
   have c8b1 : (a0_0 != 0) = false := bne_eq_false_iff_eq.mpr c8
   clear c8
   by_cases c9 : 0 ≤ a0_1
   ·rw [if_pos c9] at H
    have c9b0 : decide (0 ≤ a0_1) = true := decide_eq_true c9
    clear c9
    obtain rfl := Option.some.inj H
    have hcz10_0 := cel_ BK164.out 0 rfl
    have hcz10_1 := cel_ BK164.out 1 rfl
    have hcz10_2 := cel_ BK164.out 2 rfl
    have hfz10_0 := blk_frozen BK164.out 0
    have hfz10_1 := blk_frozen BK164.out 1
    have hfz10_2 := blk_frozen BK164.out 2
    go_wp2
    go_ret
    exact ⟨by rfl, by repeat ((with_reducible (exact HB.out)))⟩
   rw [if_neg c9] at H
   have c9b0 : decide (0 ≤ a0_1) = false := decide_eq_false c9
   clear c9
   obtain rfl := Option.some.inj H
   have hcz11_0 := cel_ BK164.out 0 rfl
   have hcz11_1 := cel_ BK164.out 1 rfl
   have hcz11_2 := cel_ BK164.out 2 rfl
   have hfz11_0 := blk_frozen BK164.out 0
   have hfz11_1 := blk_frozen BK164.out 1
   have hfz11_2 := blk_frozen BK164.out 2
   go_wp2
   go_ret
   exact ⟨by rfl, by repeat ((with_reducible (exact HB.out)))⟩
  rw [if_neg c8] at H
  have c8b0 : (a0_0 == 0) = false := beq_eq_false_iff_ne.mpr c8
  have c8b1 : (a0_0 != 0) = true := bne_iff_ne.mpr c8
  by_cases c12 : a0_0 = 1
  ·rw [if_pos c12] at H
   have c12b0 : (a0_0 == 1) = true := beq_iff_eq.mpr c12
   have c12b1 : (a0_0 != 1) = false := bne_eq_false_iff_eq.mpr c12
   clear c12
   by_cases c13 : (a0_2.size : Int) > 200
   ·rw [if_pos c13] at H
    have c13b0 : decide (200 < (a0_2.size : Int)) = true := decide_eq_true c13
    have c13b1 : decide (200 < a0_2.size) = true := decide_eq_true (by omega)
    clear c13
    obtain rfl := Option.some.inj H
    have hcz14_0 := cel_ BK164.out 0 rfl
    have hcz14_1 := cel_ BK164.out 1 rfl
    have hcz14_2 := cel_ BK164.out 2 rfl
    have hfz14_0 := blk_frozen BK164.out 0
    have hfz14_1 := blk_frozen BK164.out 1
    have hfz14_2 := blk_frozen BK164.out 2
    go_wp2
    go_ret
    exact ⟨by rfl, by repeat ((with_reducible (exact HB.out)))⟩
   rw [if_neg c13] at H
   have c13b0 : decide (200 < (a0_2.size : Int)) = false := decide_eq_false c13
   have c13b1 : decide (200 < a0_2.size) = false := decide_eq_false (by omega)
   clear c13
   by_cases c15 : 0 ≤ a0_1
   ·rw [if_pos c15] at H
    have c15b0 : decide (0 ≤ a0_1) = true := decide_eq_true c15
    clear c15
    obtain rfl := Option.some.inj H
    have hcz16_0 := cel_ BK164.out 0 rfl
    have hcz16_1 := cel_ BK164.out 1 rfl
    have hcz16_2 := cel_ BK164.out 2 rfl
    have hfz16_0 := blk_frozen BK164.out 0
    have hfz16_1 := blk_frozen BK164.out 1
    have hfz16_2 := blk_frozen BK164.out 2
    go_wp2
    go_ret
    exact ⟨by rfl, by repeat ((with_reducible (exact HB.out)))⟩
   rw [if_neg c15] at H
   have c15b0 : decide (0 ≤ a0_1) = false := decide_eq_false c15
   clear c15
   obtain rfl := Option.some.inj H
   have hcz17_0 := cel_ BK164.out 0 rfl
   have hcz17_1 := cel_ BK164.out 1 rfl
   have hcz17_2 := cel_ BK164.out 2 rfl
   have hfz17_0 := blk_frozen BK164.out 0
   have hfz17_1 := blk_frozen BK164.out 1
   have hfz17_2 := blk_frozen BK164.out 2
   go_wp2
   go_ret
   exact ⟨by rfl, by repeat ((with_reducible (exact HB.out)))⟩
  rw [if_neg c12] at H
  have c12b0 : (a0_0 == 1) = false := beq_eq_false_iff_ne.mpr c12
  have c12b1 : (a0_0 != 1) = true := bne_iff_ne.mpr c12
  by_cases c18 : a0_0 = 2
  ·rw [if_pos c18] at H
   have c18b0 : (a0_0 == 2) = true := beq_iff_eq.mpr c18
   have c18b1 : (a0_0 != 2) = false := bne_eq_false_iff_eq.mpr c18
   clear c18
   by_cases c19 : (-1000000000) ≤ a0_1
   ·rw [if_pos c19] at H
    have c19b0 : decide ((-1000000000) ≤ a0_1) = true := decide_eq_true c19
    clear c19
    obtain rfl := Option.some.inj H
    have hcz20_0 := cel_ BK164.out 0 rfl
    have hcz20_1 := cel_ BK164.out 1 rfl
    have hcz20_2 := cel_ BK164.out 2 rfl
    have hfz20_0 := blk_frozen BK164.out 0
    have hfz20_1 := blk_frozen BK164.out 1
    have hfz20_2 := blk_frozen BK164.out 2
    go_wp2
    go_ret
    exact ⟨by rfl, by repeat ((with_reducible (exact HB.out)))⟩
   rw [if_neg c19] at H
   have c19b0 : decide ((-1000000000) ≤ a0_1) = false := decide_eq_false c19
   clear c19
   obtain rfl := Option.some.inj H
   have hcz21_0 := cel_ BK164.out 0 rfl
   have hcz21_1 := cel_ BK164.out 1 rfl
   have hcz21_2 := cel_ BK164.out 2 rfl
   have hfz21_0 := blk_frozen BK164.out 0
   have hfz21_1 := blk_frozen BK164.out 1
   have hfz21_2 := blk_frozen BK164.out 2
   go_wp2
   go_ret
   exact ⟨by rfl, by repeat ((with_reducible (exact HB.out)))⟩
  rw [if_neg c18] at H
  have c18b0 : (a0_0 == 2) = false := beq_eq_false_iff_ne.mpr c18
  have c18b1 : (a0_0 != 2) = true := bne_iff_ne.mpr c18
  by_cases c22 : a0_0 = 3
  ·rw [if_pos c22] at H
   have c22b0 : (a0_0 == 3) = true := beq_iff_eq.mpr c22
   have c22b1 : (a0_0 != 3) = false := bne_eq_false_iff_eq.mpr c22
   clear c22
   by_cases c23 : 0 ≤ a0_1
   ·rw [if_pos c23] at H
    have c23b0 : decide (0 ≤ a0_1) = true := decide_eq_true c23
    clear c23
    obtain rfl := Option.some.inj H
    have hcz24_0 := cel_ BK164.out 0 rfl
    have hcz24_1 := cel_ BK164.out 1 rfl
    have hcz24_2 := cel_ BK164.out 2 rfl
    have hfz24_0 := blk_frozen BK164.out 0
    have hfz24_1 := blk_frozen BK164.out 1
    have hfz24_2 := blk_frozen BK164.out 2
    go_wp2
    go_ret
    exact ⟨by rfl, by repeat ((with_reducible (exact HB.out)))⟩
   rw [if_neg c23] at H
   have c23b0 : decide (0 ≤ a0_1) = false := decide_eq_false c23
   clear c23
   obtain rfl := Option.some.inj H
   have hcz25_0 := cel_ BK164.out 0 rfl
   have hcz25_1 := cel_ BK164.out 1 rfl
   have hcz25_2 := cel_ BK164.out 2 rfl
   have hfz25_0 := blk_frozen BK164.out 0
   have hfz25_1 := blk_frozen BK164.out 1
   have hfz25_2 := blk_frozen BK164.out 2
   go_wp2
   go_ret
   exact ⟨by rfl, by repeat ((with_reducible (exact HB.out)))⟩
  rw [if_neg c22] at H
  have c22b0 : (a0_0 == 3) = false := beq_eq_false_iff_ne.mpr c22
  have c22b1 : (a0_0 != 3) = true := bne_iff_ne.mpr c22
  by_cases c26 : a0_0 = 4
  ·rw [if_pos c26] at H
   have c26b0 : (a0_0 == 4) = true := beq_iff_eq.mpr c26
   have c26b1 : (a0_0 != 4) = false := bne_eq_false_iff_eq.mpr c26
   clear c26
   by_cases c27 : 0 ≤ a0_1
   ·rw [if_pos c27] at H
    have c27b0 : decide (0 ≤ a0_1) = true := decide_eq_true c27
    clear c27
    obtain rfl := Option.some.inj H
    have hcz28_0 := cel_ BK164.out 0 rfl
    have hcz28_1 := cel_ BK164.out 1 rfl
    have hcz28_2 := cel_ BK164.out 2 rfl
    have hfz28_0 := blk_frozen BK164.out 0
    have hfz28_1 := blk_frozen BK164.out 1
    have hfz28_2 := blk_frozen BK164.out 2
    go_wp2
    go_ret
    exact ⟨by rfl, by repeat ((with_reducible (exact HB.out)))⟩
   rw [if_neg c27] at H
   have c27b0 : decide (0 ≤ a0_1) = false := decide_eq_false c27
   clear c27
   obtain rfl := Option.some.inj H
   have hcz29_0 := cel_ BK164.out 0 rfl
   have hcz29_1 := cel_ BK164.out 1 rfl
   have hcz29_2 := cel_ BK164.out 2 rfl
   have hfz29_0 := blk_frozen BK164.out 0
   have hfz29_1 := blk_frozen BK164.out 1
   have hfz29_2 := blk_frozen BK164.out 2
   go_wp2
   go_ret
   exact ⟨by rfl, by repeat ((with_reducible (exact HB.out)))⟩
  rw [if_neg c26] at H
  have c26b0 : (a0_0 == 4) = false := beq_eq_false_iff_ne.mpr c26
  have c26b1 : (a0_0 != 4) = true := bne_iff_ne.mpr c26
  obtain rfl := Option.some.inj H
  have hcz30_0 := cel_ BK164.out 0 rfl
  have hcz30_1 := cel_ BK164.out 1 rfl
  have hcz30_2 := cel_ BK164.out 2 rfl
  have hfz30_0 := blk_frozen BK164.out 0
  have hfz30_1 := blk_frozen BK164.out 1
  have hfz30_2 := blk_frozen BK164.out 2
  go_wp2
  go_ret
  exact ⟨by rfl, by repeat ((with_reducible (exact HB.out)))⟩

end Go.Proofs.YtiffkknhnmpgbaaDoor.Q
end

section
namespace Go.Proofs.YtiffkknhnmpgbaaDoor.Q
open Go.RowKit Go.Proofs.YtiffkknhnmpgbaaDoorW.PrintWords Go.Proofs.YtiffkknhnmpgbaaDoorW.PrintLast Go.Proofs.YtiffkknhnmpgbaaDoorW.PrintMore
attribute [local go_sem] max2_int min2_int max_two min_two max_three min_three max_four min_four   -- for this text's walks alone
set_option linter.unusedVariables false
set_option linter.unusedSimpArgs false

/-! ### measure_Near: function 25 -/
def measure_Near.j0 : Nat → Int → Int → Int → Bool → Option (Int × Int)
 | 0, _, _, _, _ => none
 | k + 1, x0, x1, x2, x13 => if x13 = true then (some (0, 1)) else (if x0 > x1 then (if (IntKind.u64.wrap ((IntKind.u64.wrap (x0)) - (IntKind.u64.wrap (x1)))) ≤ (IntKind.u64.wrap (x2)) then ((measure_share.f k (wrap64 ((wrap64 (x2 + 1)) - (wrap64 (IntKind.u64.wrap ((IntKind.u64.wrap (x0)) - (IntKind.u64.wrap (x1))))))) (wrap64 (x2 + 1))).bind fun bt160 => (some (bt160.1, bt160.2))) else (some (0, 1))) else (if (IntKind.u64.wrap ((IntKind.u64.wrap (x1)) - (IntKind.u64.wrap (x0)))) ≤ (IntKind.u64.wrap (x2)) then ((measure_share.f k (wrap64 ((wrap64 (x2 + 1)) - (wrap64 (IntKind.u64.wrap ((IntKind.u64.wrap (x1)) - (IntKind.u64.wrap (x0))))))) (wrap64 (x2 + 1))).bind fun bt162 => (some (bt162.1, bt162.2))) else (some (0, 1))))
def measure_Near.f (k : Nat) (a0 : Int) (a1 : Int) (a2 : Int) : Option (Int × Int) := if a2 < 0 then (measure_Near.j0 k a0 a1 a2 true) else (measure_Near.j0 k a0 a1 a2 (decide (a2 ≥ 1000000000)))
set_option maxHeartbeats 8000000 in
set_option maxRecDepth 100000 in
theorem measure_Near.calls (k : Nat) (a0 : Int) (a1 : Int) (a2 : Int) (r1 : Int) (r2 : Int) (w : World) (hG : Gl w) (h : measure_Near.f k a0 a1 a2 = some (r1, r2)) :
  Calls Tryd.prog 25 #[.int .i64 a0, .int .i64 a1, .int .i64 a2] w fun e w' => e = .returned (.agg #[.int .i64 r1, .int .i64 r2]) ∧ Below w.heap.size w w' := by
 have HGl := Aside0.mk hG
 clear hG
 have hu41 := Tryd.underlying41
 have HB := Aside0.mk (Below.refl w.heap.size w)
 have H : (if a2 < 0 then (measure_Near.j0 k a0 a1 a2 true) else (measure_Near.j0 k a0 a1 a2 (decide (a2 ≥ 1000000000)))) = some (r1, r2) := h
 clear h
 have HC4 := Aside0.mk H
 clear H
 go_enter Tryd.func25, Tryd.ntmps25
 go_upto_region 1 with (first | ((with_reducible refine gate_dst (N := 6) rfl ?_); refine box_event ?hg (N := 6) ?hd (cs := #[.int .i64 0, .int .i64 0]) (t := 41) ?hr ?_; (case hd => rfl); (case hg => rfl); (case hr => (go_simp; done)); intro gb159 hg w5 hbox hb; have n0_ := Aside0.mk (below_step HB.out hb); have n1_ := Aside0.mk (hbox); have n3_ := Aside0.mk ((by rw [hg]; exact (below_size HB.out) : w.heap.size ≤ gb159)); clear HB; have HB := n0_; have BK159 := n1_; have GE159 := n3_; clear n0_ n1_ n3_; clear hb hbox hg))
 (try simp only [Act.put, pS_, pZ_, pC_])
 go_cut [13] (fun v13 wc => ∃ (kq : Nat) (x13_3 : Bool), v13 = .bool x13_3 ∧ Aside0 (measure_Near.j0 kq a0 a1 a2 x13_3 = some (r1, r2)) ∧ Aside0 (kq ≤ k) ∧ Aside0 (wc.heap[gb159]? = some (.cells #[.int .i64 0, .int .i64 0] 41 (0, 0))) ∧ Aside0 (Below w.heap.size w wc))
 case first =>
  have H := HC4.out
  clear HC4
  by_cases c6 : a2 < 0
  ·rw [if_pos c6] at H
   have c6b0 : decide (a2 < 0) = true := decide_eq_true c6
   clear c6
   have H' := Aside0.mk H
   clear H
   go_wp2_with (((with_reducible refine gate_op (op := .load 41 (.global 0)) rfl ?_); refine gl0_event rfl rfl rfl ?hGl ?_; (case hGl => exact Gl.below HGl.out (by skip))))
   go_meet
   case rel => exact ⟨_, (true), (by rfl), H', ⟨by omega⟩, ⟨by exact BK159.out⟩, ⟨by repeat ((with_reducible (exact HB.out)))⟩⟩
  rw [if_neg c6] at H
  have c6b0 : decide (a2 < 0) = false := decide_eq_false c6
  clear c6
  have H' := Aside0.mk H
  clear H
  go_wp2_with (((with_reducible refine gate_op (op := .load 41 (.global 0)) rfl ?_); refine gl0_event rfl rfl rfl ?hGl ?_; (case hGl => exact Gl.below HGl.out (by skip))))
  go_meet
  case rel => exact ⟨_, (decide (a2 ≥ 1000000000)), (by rfl), H', ⟨by omega⟩, ⟨by exact BK159.out⟩, ⟨by repeat ((with_reducible (exact HB.out)))⟩⟩
 clear HC4
 obtain ⟨kq, x13_3, rfl, HA, HJ3, BK159, HB⟩ := hcut
 cases kq with
 | zero => exact absurd HA.out (by simp [measure_Near.j0])
 | succ kj3 =>
  have H := HA.out
  clear HA
  simp only [measure_Near.j0] at H
  by_cases c7 : x13_3 = true
  ·subst c7
   have H1 : (some (0, 1)) = some (r1, r2) := by rw [if_pos rfl] at H; exact H
   clear H
   have H := H1
   clear H1
   simp only [Option.some.injEq, Prod.mk.injEq] at H
   obtain ⟨rfl, rfl⟩ := H
   have hcz8_0 := cel_ BK159.out 0 rfl
   have hcz8_1 := cel_ BK159.out 1 rfl
   have hfz8_0 := blk_frozen BK159.out 0
   have hfz8_1 := blk_frozen BK159.out 1
   go_wp2_with (((with_reducible refine gate_op (op := .load 41 (.global 0)) rfl ?_); refine gl0_event rfl rfl rfl ?hGl ?_; (case hGl => exact Gl.below HGl.out HB.out)))
   refine bodyPost_ret (results_cell_row rfl _ _ gb159 41 #[.int .i64 0, .int .i64 1] (0, 0) _ rfl (by refine blk_put (cs := #[.int .i64 0, .int .i64 0]) ?_ 1 _ rfl; refine blk_put (cs := #[.int .i64 0, .int .i64 0]) ?_ 0 _ rfl; exact BK159.out) Tryd.underlying41 rfl (by kernel_rfl)) rfl ?_
   exact ⟨by rfl, by repeat ((with_reducible first | exact HB.out | refine below_set ?_ GE159.out))⟩
  replace c7 := Bool.eq_false_iff.mpr c7
  subst c7
  have H1 : (if a0 > a1 then (if (IntKind.u64.wrap ((IntKind.u64.wrap (a0)) - (IntKind.u64.wrap (a1)))) ≤ (IntKind.u64.wrap (a2)) then ((measure_share.f kj3 (wrap64 ((wrap64 (a2 + 1)) - (wrap64 (IntKind.u64.wrap ((IntKind.u64.wrap (a0)) - (IntKind.u64.wrap (a1))))))) (wrap64 (a2 + 1))).bind fun bt160 => (some (bt160.1, bt160.2))) else (some (0, 1))) else (if (IntKind.u64.wrap ((IntKind.u64.wrap (a1)) - (IntKind.u64.wrap (a0)))) ≤ (IntKind.u64.wrap (a2)) then ((measure_share.f kj3 (wrap64 ((wrap64 (a2 + 1)) - (wrap64 (IntKind.u64.wrap ((IntKind.u64.wrap (a1)) - (IntKind.u64.wrap (a0))))))) (wrap64 (a2 + 1))).bind fun bt162 => (some (bt162.1, bt162.2))) else (some (0, 1)))) = some (r1, r2) := by rw [if_neg (show ¬ (false = true) by decide)] at H; exact H
  clear H
  have H := H1
  clear H1
  by_cases c9 : a0 > a1
  ·rw [if_pos c9] at H
   have c9b0 : decide (a1 < a0) = true := decide_eq_true c9
   clear c9
   by_cases c10 : (IntKind.u64.wrap ((IntKind.u64.wrap (a0)) - (IntKind.u64.wrap (a1)))) ≤ (IntKind.u64.wrap (a2))
   ·rw [if_pos c10] at H
    have c10b0 : decide ((IntKind.u64.wrap ((IntKind.u64.wrap (a0)) - (IntKind.u64.wrap (a1)))) ≤ (IntKind.u64.wrap (a2))) = true := decide_eq_true c10
    clear c10
    replace H := Option.bind_eq_some_iff.mp H
    obtain ⟨⟨t160, t161⟩, A110, H⟩ := H
    replace H : (some (t160, t161)) = some (r1, r2) := H
    have A11 := Aside0.mk A110
    clear A110
    simp only [Option.some.injEq, Prod.mk.injEq] at H
    obtain ⟨rfl, rfl⟩ := H
    go_wp2_with (((with_reducible refine gate_callee (f := 43) rfl ?_); refine goesL_ (some 36) rfl rfl Tryd.func43 (by kernel_rfl) rfl #[.int .i64 (wrap64 ((wrap64 (a2 + 1)) - (wrap64 (IntKind.u64.wrap ((IntKind.u64.wrap (a0)) - (IntKind.u64.wrap (a1))))))), .int .i64 (wrap64 (a2 + 1))] rfl (by (try simp only [List.map_toArray, List.map_cons, List.map_nil]); rfl) ?_; (with_reducible refine (measure_share.calls kj3 (wrap64 ((wrap64 (a2 + 1)) - (wrap64 (IntKind.u64.wrap ((IntKind.u64.wrap (a0)) - (IntKind.u64.wrap (a1))))))) (wrap64 (a2 + 1)) t160 t161 _ ?sGl A11.out).mono ?_); (case sGl => exact Gl.below HGl.out HB.out); rintro e w12 ⟨rfl, hb⟩; refine ⟨_, rfl, ?_⟩; have n0_ := Aside0.mk (blk_below (by exact BK159.out) hb); have n1_ := Aside0.mk (below_step HB.out hb); clear BK159; clear HB; have BK159 := n0_; have HB := n1_; clear n0_ n1_; (try clear hb); have hcz13_0 := cel_ BK159.out 0 rfl; have hcz13_1 := cel_ BK159.out 1 rfl; have hfz13_0 := blk_frozen BK159.out 0; have hfz13_1 := blk_frozen BK159.out 1))
    refine bodyPost_ret (results_cell_row rfl _ _ gb159 41 #[.int .i64 t160, .int .i64 t161] (0, 0) _ rfl (by refine blk_put (cs := #[.int .i64 t160, .int .i64 0]) ?_ 1 _ rfl; refine blk_put (cs := #[.int .i64 0, .int .i64 0]) ?_ 0 _ rfl; exact BK159.out) Tryd.underlying41 rfl (by kernel_rfl)) rfl ?_
    exact ⟨by rfl, by repeat ((with_reducible first | exact HB.out | refine below_set ?_ GE159.out))⟩
   rw [if_neg c10] at H
   have c10b0 : decide ((IntKind.u64.wrap ((IntKind.u64.wrap (a0)) - (IntKind.u64.wrap (a1)))) ≤ (IntKind.u64.wrap (a2))) = false := decide_eq_false c10
   clear c10
   simp only [Option.some.injEq, Prod.mk.injEq] at H
   obtain ⟨rfl, rfl⟩ := H
   have hcz14_0 := cel_ BK159.out 0 rfl
   have hcz14_1 := cel_ BK159.out 1 rfl
   have hfz14_0 := blk_frozen BK159.out 0
   have hfz14_1 := blk_frozen BK159.out 1
   go_wp2_with (((with_reducible refine gate_op (op := .load 41 (.global 0)) rfl ?_); refine gl0_event rfl rfl rfl ?hGl ?_; (case hGl => exact Gl.below HGl.out HB.out)))
   refine bodyPost_ret (results_cell_row rfl _ _ gb159 41 #[.int .i64 0, .int .i64 1] (0, 0) _ rfl (by refine blk_put (cs := #[.int .i64 0, .int .i64 0]) ?_ 1 _ rfl; refine blk_put (cs := #[.int .i64 0, .int .i64 0]) ?_ 0 _ rfl; exact BK159.out) Tryd.underlying41 rfl (by kernel_rfl)) rfl ?_
   exact ⟨by rfl, by repeat ((with_reducible first | exact HB.out | refine below_set ?_ GE159.out))⟩
  rw [if_neg c9] at H
  have c9b0 : decide (a1 < a0) = false := decide_eq_false c9
  clear c9
  by_cases c15 : (IntKind.u64.wrap ((IntKind.u64.wrap (a1)) - (IntKind.u64.wrap (a0)))) ≤ (IntKind.u64.wrap (a2))
  ·rw [if_pos c15] at H
   have c15b0 : decide ((IntKind.u64.wrap ((IntKind.u64.wrap (a1)) - (IntKind.u64.wrap (a0)))) ≤ (IntKind.u64.wrap (a2))) = true := decide_eq_true c15
   clear c15
   replace H := Option.bind_eq_some_iff.mp H
   obtain ⟨⟨t162, t163⟩, A160, H⟩ := H
   replace H : (some (t162, t163)) = some (r1, r2) := H
   have A16 := Aside0.mk A160
   clear A160
   simp only [Option.some.injEq, Prod.mk.injEq] at H
   obtain ⟨rfl, rfl⟩ := H
   go_wp2_with (((with_reducible refine gate_callee (f := 43) rfl ?_); refine goesL_ (some 36) rfl rfl Tryd.func43 (by kernel_rfl) rfl #[.int .i64 (wrap64 ((wrap64 (a2 + 1)) - (wrap64 (IntKind.u64.wrap ((IntKind.u64.wrap (a1)) - (IntKind.u64.wrap (a0))))))), .int .i64 (wrap64 (a2 + 1))] rfl (by (try simp only [List.map_toArray, List.map_cons, List.map_nil]); rfl) ?_; (with_reducible refine (measure_share.calls kj3 (wrap64 ((wrap64 (a2 + 1)) - (wrap64 (IntKind.u64.wrap ((IntKind.u64.wrap (a1)) - (IntKind.u64.wrap (a0))))))) (wrap64 (a2 + 1)) t162 t163 _ ?sGl A16.out).mono ?_); (case sGl => exact Gl.below HGl.out HB.out); rintro e w17 ⟨rfl, hb⟩; refine ⟨_, rfl, ?_⟩; have n0_ := Aside0.mk (blk_below (by exact BK159.out) hb); have n1_ := Aside0.mk (below_step HB.out hb); clear BK159; clear HB; have BK159 := n0_; have HB := n1_; clear n0_ n1_; (try clear hb); have hcz18_0 := cel_ BK159.out 0 rfl; have hcz18_1 := cel_ BK159.out 1 rfl; have hfz18_0 := blk_frozen BK159.out 0; have hfz18_1 := blk_frozen BK159.out 1))
   refine bodyPost_ret (results_cell_row rfl _ _ gb159 41 #[.int .i64 t162, .int .i64 t163] (0, 0) _ rfl (by refine blk_put (cs := #[.int .i64 t162, .int .i64 0]) ?_ 1 _ rfl; refine blk_put (cs := #[.int .i64 0, .int .i64 0]) ?_ 0 _ rfl; exact BK159.out) Tryd.underlying41 rfl (by kernel_rfl)) rfl ?_
   exact ⟨by rfl, by repeat ((with_reducible first | exact HB.out | refine below_set ?_ GE159.out))⟩
  rw [if_neg c15] at H
  have c15b0 : decide ((IntKind.u64.wrap ((IntKind.u64.wrap (a1)) - (IntKind.u64.wrap (a0)))) ≤ (IntKind.u64.wrap (a2))) = false := decide_eq_false c15
  clear c15
  simp only [Option.some.injEq, Prod.mk.injEq] at H
  obtain ⟨rfl, rfl⟩ := H
  have hcz19_0 := cel_ BK159.out 0 rfl
  have hcz19_1 := cel_ BK159.out 1 rfl
  have hfz19_0 := blk_frozen BK159.out 0
  have hfz19_1 := blk_frozen BK159.out 1
  go_wp2_with (((with_reducible refine gate_op (op := .load 41 (.global 0)) rfl ?_); refine gl0_event rfl rfl rfl ?hGl ?_; (case hGl => exact Gl.below HGl.out HB.out)))
  refine bodyPost_ret (results_cell_row rfl _ _ gb159 41 #[.int .i64 0, .int .i64 1] (0, 0) _ rfl (by refine blk_put (cs := #[.int .i64 0, .int .i64 0]) ?_ 1 _ rfl; refine blk_put (cs := #[.int .i64 0, .int .i64 0]) ?_ 0 _ rfl; exact BK159.out) Tryd.underlying41 rfl (by kernel_rfl)) rfl ?_
  exact ⟨by rfl, by repeat ((with_reducible first | exact HB.out | refine below_set ?_ GE159.out))⟩

end Go.Proofs.YtiffkknhnmpgbaaDoor.Q
end

section
namespace Go.Proofs.YtiffkknhnmpgbaaDoor.U
open Go.RowKit Go.Proofs.YtiffkknhnmpgbaaDoor.Q Go.Proofs.YtiffkknhnmpgbaaDoor.R Go.Proofs.YtiffkknhnmpgbaaDoor.V Go.Proofs.YtiffkknhnmpgbaaDoorW.PrintWords Go.Proofs.YtiffkknhnmpgbaaDoorW.PrintLast Go.Proofs.YtiffkknhnmpgbaaDoorW.PrintMore
attribute [local go_sem] max2_int min2_int max_two min_two max_three min_three max_four min_four   -- for this text's walks alone
set_option linter.unusedVariables false
set_option linter.unusedSimpArgs false

/-! ### cmp_Or_int: function 29 -/
def cmp_Or_int.l0 : Nat → Int → List Int → Int → Int → Option (Int)
 | 0, _, _, _, _ => none
 | k + 1, x3, x6, x7, x8 => if x8 < x7 then (if 0 ≤ x8 then (if x8 < (x6.length : Int) then (if (rd x6 x8) = x3 then (cmp_Or_int.l0 k x3 x6 x7 (wrap64 (x8 + 1))) else (some (rd x6 x8))) else (none)) else (none)) else (some x3)
def cmp_Or_int.f (k : Nat) (l0 : List Int) : Option (Int) := cmp_Or_int.l0 k 0 l0 (l0.length : Int) 0
set_option maxHeartbeats 8000000 in
set_option maxRecDepth 100000 in
theorem cmp_Or_int.calls (k : Nat) (A0 : Option Addr) (c0 : Nat) (l0 : List Int) (r : Int) (w : World) (hr0 : Kd.C (Kd.int .i64) w A0 l0.length l0) (hc0 : l0.length ≤ c0) (h : cmp_Or_int.f k l0 = some r) :
  Calls Tryd.prog 29 #[.slice A0 l0.length c0] w fun e w' => e = .returned (.int .i64 r) ∧ Drawn0 w w' := by
 have HR0 := Aside0.mk hr0
 have HC0 := Aside0.mk hc0
 clear hr0 hc0
 have H : (cmp_Or_int.l0 k 0 l0 (l0.length : Int) 0) = some r := h
 clear h
 have H' := Aside0.mk H
 clear H
 go_enter Tryd.func29, Tryd.ntmps29
 go_wp2
 go_loopg [8] k (fun kq v8 w' => ∃ (x8_1 : Int), v8 = .int .i64 x8_1 ∧ Aside0 (cmp_Or_int.l0 kq 0 l0 (l0.length : Int) x8_1 = some r) ∧ Aside0 (kq ≤ k) ∧ Drawn0 w w')
 case atStart => exact ⟨(0), (by rfl), H', ⟨Nat.le_refl _⟩, by exact Drawn0.refl _⟩
 clear H'
 obtain ⟨x8_1, rfl, HA, HK1, ⟨m1, rfl⟩⟩ := hrel
 cases gk with
 | zero => exact absurd HA.out (by simp [cmp_Or_int.l0])
 | succ k1 =>
  have H := HA.out
  clear HA
  simp only [cmp_Or_int.l0] at H
  by_cases c2 : x8_1 < (l0.length : Int)
  ·rw [if_pos c2] at H
   have c2b0 : decide (x8_1 < (l0.length : Int)) = true := decide_eq_true c2
   clear c2
   by_cases c3 : 0 ≤ x8_1
   ·rw [if_pos c3] at H
    have c3b0 : decide (0 ≤ x8_1) = true := decide_eq_true c3
    clear c3
    by_cases c4 : x8_1 < (l0.length : Int)
    ·rw [if_pos c4] at H
     have c4b0 : decide (x8_1 < (l0.length : Int)) = true := decide_eq_true c4
     clear c4
     by_cases c5 : (rd l0 x8_1) = 0
     ·rw [if_pos c5] at H
      have c5b0 : ((rd l0 x8_1) == 0) = true := beq_iff_eq.mpr c5
      have c5b1 : ((rd l0 x8_1) != 0) = false := bne_eq_false_iff_eq.mpr c5
      clear c5
      have H' := Aside0.mk H
      clear H
      have p112 : 0 ≤ (x8_1 : Int) := of_decide_eq_true (by (with_reducible assumption))
      have q112 : x8_1 < (l0.length : Int) := of_decide_eq_true (by (with_reducible assumption))
      obtain ⟨ad112, e112, hx112_0⟩ := Kd.at_int HR0.out x8_1 p112 q112
      cases e112
      replace p112 := eq_true p112
      replace q112 := eq_true q112
      go_wp2
      go_roundg k1
      case measure => have := HK1.out; omega
      case rel => exact ⟨(wrap64 (x8_1 + 1)), (by rfl), H', ⟨by have := HK1.out; omega⟩, by repeat (first | exact Drawn0.refl _ | apply Drawn0.step)⟩
     rw [if_neg c5] at H
     have c5b0 : ((rd l0 x8_1) == 0) = false := beq_eq_false_iff_ne.mpr c5
     have c5b1 : ((rd l0 x8_1) != 0) = true := bne_iff_ne.mpr c5
     obtain rfl := Option.some.inj H
     have p112 : 0 ≤ (x8_1 : Int) := of_decide_eq_true (by (with_reducible assumption))
     have q112 : x8_1 < (l0.length : Int) := of_decide_eq_true (by (with_reducible assumption))
     obtain ⟨ad112, e112, hx112_0⟩ := Kd.at_int HR0.out x8_1 p112 q112
     cases e112
     replace p112 := eq_true p112
     replace q112 := eq_true q112
     go_wp2
     go_ret
     exact ⟨by rfl, by repeat (first | exact Drawn0.refl _ | apply Drawn0.step)⟩
    rw [if_neg c4] at H
    exact absurd H (by simp)
   rw [if_neg c3] at H
   exact absurd H (by simp)
  rw [if_neg c2] at H
  have c2b0 : decide (x8_1 < (l0.length : Int)) = false := decide_eq_false c2
  clear c2
  obtain rfl := Option.some.inj H
  go_wp2
  go_ret
  exact ⟨by rfl, by repeat (first | exact Drawn0.refl _ | apply Drawn0.step)⟩

end Go.Proofs.YtiffkknhnmpgbaaDoor.U
end

section
/- Pairs of two integers ([2]int), as_ the printed texts tell a struct of two integers. -/
namespace Go.Proofs.YtiffkknhnmpgbaaDoor.R
open Go Go.RowKit Go.Proofs.YtiffkknhnmpgbaaDoor.Q Go.Proofs.YtiffkknhnmpgbaaDoorW.PrintWords Go.Proofs.YtiffkknhnmpgbaaDoorW.PrintLast Go.Proofs.YtiffkknhnmpgbaaDoorW.PrintMore
set_option linter.unusedVariables false
set_option linter.unusedSimpArgs false
structure S57 where
  f0 : Int
  f1 : Int
def k57 : Kd S57 := Kd.iso (Kd.pair (Kd.int .i64) (Kd.int .i64)) (fun x : S57 => (x.f0, x.f1))
theorem k57_mk (w : World) (x : S57)  : k57.K w x [.int .i64 x.f0, .int .i64 x.f1] := ⟨[.int .i64 x.f0], [.int .i64 x.f1], rfl, rfl, rfl⟩
end Go.Proofs.YtiffkknhnmpgbaaDoor.R
end

section
namespace Go.Proofs.YtiffkknhnmpgbaaDoor.R
open Go.RowKit Go.Proofs.YtiffkknhnmpgbaaDoor.Q Go.Proofs.YtiffkknhnmpgbaaDoorW.PrintWords Go.Proofs.YtiffkknhnmpgbaaDoorW.PrintLast Go.Proofs.YtiffkknhnmpgbaaDoorW.PrintMore
attribute [local go_sem] max2_int min2_int max_two min_two max_three min_three max_four min_four   -- for this text's walks alone
set_option linter.unusedVariables false
set_option linter.unusedSimpArgs false

theorem eqA60 (d : Nat) (w : World) (x0 y0 : Int) (x1 y1 : Int) (x2 y2 : Int) :
  (Op.equalIn (d + 2) 60 (.agg #[.int .i64 x0, .int .i64 x1, .int .i64 x2]) (.agg #[.int .i64 y0, .int .i64 y1, .int .i64 y2])).run Tryd.prog w = .ok (x0 == y0 && (x1 == y1 && (x2 == y2))) w := by
 refine eqA_of Tryd.underlying60 (by kernel_rfl) ?_
 refine eqf_cons (by rfl) (by go_simp; rfl) (by go_simp; rfl) (by go_simp) ?_
 refine eqf_cons (by rfl) (by go_simp; rfl) (by go_simp; rfl) (by go_simp) ?_
 exact eqf_last (by rfl) (by go_simp; rfl) (by go_simp; rfl) (by go_simp)
end Go.Proofs.YtiffkknhnmpgbaaDoor.R
end

section
namespace Go.Proofs.YtiffkknhnmpgbaaDoor.R
open Go.RowKit Go.Proofs.YtiffkknhnmpgbaaDoor.Q Go.Proofs.YtiffkknhnmpgbaaDoorW.PrintWords Go.Proofs.YtiffkknhnmpgbaaDoorW.PrintLast Go.Proofs.YtiffkknhnmpgbaaDoorW.PrintMore
attribute [local go_sem] max2_int min2_int max_two min_two max_three min_three max_four min_four   -- for this text's walks alone
set_option linter.unusedVariables false
set_option linter.unusedSimpArgs false

attribute [local go_sem high] eqA60
/-! ### cleanseref20_Same: function 17 -/
def cleanseref20_Same.l0 : Nat → List (S60) → List (S60) → Int → Option (Bool)
 | 0, _, _, _ => none
 | k + 1, x0, x1, x5 => if x5 < (x0.length : Int) then (if 0 ≤ x5 then (if x5 < (x1.length : Int) then (if (!(((rd_T60 x0 x5).f0) == ((rd_T60 x1 x5).f0)) || (!(((rd_T60 x0 x5).f1) == ((rd_T60 x1 x5).f1)) || (!(((rd_T60 x0 x5).f2) == ((rd_T60 x1 x5).f2))))) = true then (some false) else (cleanseref20_Same.l0 k x0 x1 (wrap64 (x5 + 1)))) else (none)) else (none)) else (some true)
def cleanseref20_Same.f (k : Nat) (l0 : List (S60)) (l1 : List (S60)) : Option (Bool) := if (l0.length : Int) = (l1.length : Int) then (cleanseref20_Same.l0 k l0 l1 0) else (some false)
set_option maxHeartbeats 8000000 in
set_option maxRecDepth 100000 in
theorem cleanseref20_Same.calls (k : Nat) (A0 : Option Addr) (c0 : Nat) (l0 : List (S60)) (A1 : Option Addr) (c1 : Nat) (l1 : List (S60)) (r : Bool) (w : World) (hr0 : Kd.C k60 w A0 l0.length l0) (hc0 : l0.length ≤ c0) (hr1 : Kd.C k60 w A1 l1.length l1) (hc1 : l1.length ≤ c1) (h : cleanseref20_Same.f k l0 l1 = some r) :
  Calls Tryd.prog 17 #[.slice A0 l0.length c0, .slice A1 l1.length c1] w fun e w' => e = .returned (.bool r) ∧ Drawn0 w w' := by
 have hu60 := Tryd.underlying60
 have HR0 := Aside0.mk hr0
 have HC0 := Aside0.mk hc0
 clear hr0 hc0
 have HR1 := Aside0.mk hr1
 have HC1 := Aside0.mk hc1
 clear hr1 hc1
 have H : (if (l0.length : Int) = (l1.length : Int) then (cleanseref20_Same.l0 k l0 l1 0) else (some false)) = some r := h
 clear h
 by_cases c3 : (l0.length : Int) = (l1.length : Int)
 ·rw [if_pos c3] at H
  have c3b0 : ((l0.length : Int) == (l1.length : Int)) = true := beq_iff_eq.mpr c3
  have c3b1 : ((l0.length : Int) != (l1.length : Int)) = false := bne_eq_false_iff_eq.mpr c3
  have c3b2 : (l0.length == l1.length) = true := by (simp at c3 ⊢; omega)
  clear c3
  have H' := Aside0.mk H
  clear H
  go_enter Tryd.func17, Tryd.ntmps17
  go_wp2
  go_loopg [5] k (fun kq v5 w' => ∃ (x5_1 : Int), v5 = .int .i64 x5_1 ∧ Aside0 (cleanseref20_Same.l0 kq l0 l1 x5_1 = some r) ∧ Aside0 (kq ≤ k) ∧ Drawn0 w w')
  case atStart => exact ⟨(0), (by rfl), H', ⟨Nat.le_refl _⟩, by exact Drawn0.refl _⟩
  clear H'
  clear c3b0 c3b1 c3b2
  obtain ⟨x5_1, rfl, HA, HK1, ⟨m1, rfl⟩⟩ := hrel
  cases gk with
  | zero => exact absurd HA.out (by simp [cleanseref20_Same.l0])
  | succ k1 =>
   have H := HA.out
   clear HA
   simp only [cleanseref20_Same.l0] at H
   by_cases c4 : x5_1 < (l0.length : Int)
   ·rw [if_pos c4] at H
    have c4b0 : decide (x5_1 < (l0.length : Int)) = true := decide_eq_true c4
    clear c4
    by_cases c5 : 0 ≤ x5_1
    ·rw [if_pos c5] at H
     have c5b0 : decide (0 ≤ x5_1) = true := decide_eq_true c5
     clear c5
     by_cases c6 : x5_1 < (l1.length : Int)
     ·rw [if_pos c6] at H
      have c6b0 : decide (x5_1 < (l1.length : Int)) = true := decide_eq_true c6
      clear c6
      by_cases c7 : (!(((rd_T60 l0 x5_1).f0) == ((rd_T60 l1 x5_1).f0)) || (!(((rd_T60 l0 x5_1).f1) == ((rd_T60 l1 x5_1).f1)) || (!(((rd_T60 l0 x5_1).f2) == ((rd_T60 l1 x5_1).f2))))) = true
      ·rw [if_pos c7] at H
       have c7b0 : (!(((rd_T60 l0 x5_1).f0) == ((rd_T60 l1 x5_1).f0)) || (!(((rd_T60 l0 x5_1).f1) == ((rd_T60 l1 x5_1).f1)) || (!(((rd_T60 l0 x5_1).f2) == ((rd_T60 l1 x5_1).f2))))) = true := c7
       clear c7
       obtain rfl := Option.some.inj H
       have p129 : 0 ≤ (x5_1 : Int) := of_decide_eq_true (by (with_reducible assumption))
       have q129 : x5_1 < (l0.length : Int) := of_decide_eq_true (by (with_reducible assumption))
       obtain ⟨ad129, e129, hx129_0, hx129_1, hx129_2⟩ := at_T60 HR0.out x5_1 p129 q129
       cases e129
       replace p129 := eq_true p129
       replace q129 := eq_true q129
       have p130 : 0 ≤ (x5_1 : Int) := of_decide_eq_true (by (with_reducible assumption))
       have q130 : x5_1 < (l1.length : Int) := of_decide_eq_true (by (with_reducible assumption))
       obtain ⟨ad130, e130, hx130_0, hx130_1, hx130_2⟩ := at_T60 HR1.out x5_1 p130 q130
       cases e130
       replace p130 := eq_true p130
       replace q130 := eq_true q130
       go_wp2
       repeat (go_quiet (fail); try go_wp2)
       go_ret
       exact ⟨by rfl, by repeat (first | exact Drawn0.refl _ | apply Drawn0.step)⟩
      rw [if_neg c7] at H
      have c7b0 : (!(((rd_T60 l0 x5_1).f0) == ((rd_T60 l1 x5_1).f0)) || (!(((rd_T60 l0 x5_1).f1) == ((rd_T60 l1 x5_1).f1)) || (!(((rd_T60 l0 x5_1).f2) == ((rd_T60 l1 x5_1).f2))))) = false := by simpa using c7
      clear c7
      have H' := Aside0.mk H
      clear H
      have p129 : 0 ≤ (x5_1 : Int) := of_decide_eq_true (by (with_reducible assumption))
      have q129 : x5_1 < (l0.length : Int) := of_decide_eq_true (by (with_reducible assumption))
      obtain ⟨ad129, e129, hx129_0, hx129_1, hx129_2⟩ := at_T60 HR0.out x5_1 p129 q129
      cases e129
      replace p129 := eq_true p129
      replace q129 := eq_true q129
      have p130 : 0 ≤ (x5_1 : Int) := of_decide_eq_true (by (with_reducible assumption))
      have q130 : x5_1 < (l1.length : Int) := of_decide_eq_true (by (with_reducible assumption))
      obtain ⟨ad130, e130, hx130_0, hx130_1, hx130_2⟩ := at_T60 HR1.out x5_1 p130 q130
      cases e130
      replace p130 := eq_true p130
      replace q130 := eq_true q130
      go_wp2
      repeat (go_quiet (fail); try go_wp2)
      go_roundg k1
      case measure => have := HK1.out; omega
      case rel => exact ⟨(wrap64 (x5_1 + 1)), (by rfl), H', ⟨by have := HK1.out; omega⟩, by repeat (first | exact Drawn0.refl _ | apply Drawn0.step)⟩
     rw [if_neg c6] at H
     exact absurd H (by simp)
    rw [if_neg c5] at H
    exact absurd H (by simp)
   rw [if_neg c4] at H
   have c4b0 : decide (x5_1 < (l0.length : Int)) = false := decide_eq_false c4
   clear c4
   obtain rfl := Option.some.inj H
   go_wp2
   go_ret
   exact ⟨by rfl, by repeat (first | exact Drawn0.refl _ | apply Drawn0.step)⟩
 rw [if_neg c3] at H
 have c3b0 : ((l0.length : Int) == (l1.length : Int)) = false := beq_eq_false_iff_ne.mpr c3
 have c3b1 : ((l0.length : Int) != (l1.length : Int)) = true := bne_iff_ne.mpr c3
 have c3b2 : (l0.length == l1.length) = false := by (simp at c3 ⊢; omega)
 obtain rfl := Option.some.inj H
 go_enter Tryd.func17, Tryd.ntmps17
 go_wp2
 go_ret
 exact ⟨by rfl, by exact Drawn0.refl _⟩

end Go.Proofs.YtiffkknhnmpgbaaDoor.R
end
