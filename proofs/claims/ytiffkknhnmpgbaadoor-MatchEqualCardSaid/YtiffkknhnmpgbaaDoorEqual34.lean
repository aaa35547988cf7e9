/- Parts of the proof of Equal: words, contracts and plain laws. -/
import Derived.Test.YtiffkknhnmpgbaaDoorEqual16
import Derived.Test.YtiffkknhnmpgbaaDoorEqual17
import Derived.Test.YtiffkknhnmpgbaaDoorEqual28
import Derived.Test.YtiffkknhnmpgbaaDoorEqual29
import Derived.Test.YtiffkknhnmpgbaaDoorEqual33
namespace Go.Proofs.YtiffkknhnmpgbaaDoor.LEqual
end Go.Proofs.YtiffkknhnmpgbaaDoor.LEqual
namespace Go.Proofs.YtiffkknhnmpgbaaDoor.Q
end Go.Proofs.YtiffkknhnmpgbaaDoor.Q
namespace Go.Proofs.YtiffkknhnmpgbaaDoor.R
end Go.Proofs.YtiffkknhnmpgbaaDoor.R
namespace Go.Proofs.YtiffkknhnmpgbaaDoor.U
end Go.Proofs.YtiffkknhnmpgbaaDoor.U
section
namespace Go.Proofs.YtiffkknhnmpgbaaDoor.LEqual
open Go.RowKit Go.Proofs.YtiffkknhnmpgbaaDoor.Q Go.Proofs.YtiffkknhnmpgbaaDoor.R Go.Proofs.YtiffkknhnmpgbaaDoor.U Go.Proofs.YtiffkknhnmpgbaaDoorW.PrintWords Go.Proofs.YtiffkknhnmpgbaaDoorW.PrintLast Go.Proofs.YtiffkknhnmpgbaaDoorW.PrintMore
attribute [local go_sem] max2_int min2_int max_two min_two max_three min_three max_four min_four   -- for this text's walks alone
set_option linter.unusedVariables false
set_option linter.unusedSimpArgs false

/-! ### cleanselaw20_MatchEqual: function 6 -/
mutual
def cleanselaw20_MatchEqual.j0 : Nat → Bool → Bool → ByteArray → Int → Int → List (S43) → Int → ByteArray → ByteArray → Int → Int → List (S50) → Option (Bool)
 | 0, _, _, _, _, _, _, _, _, _, _, _, _ => none
 | k + 1, x5, x27, x102000, x102001, x102002, x102003, x103000, x103001, x103002, x103003, x103004, x103005 => if x27 = true then (some x5) else ((match_Score.f k x102000 x102001 x102002 x102003 x103000 x103001 x103002 x103003 x103004 x103005 x103000 x103001 x103002 x103003 x103004 x103005).bind fun bt112 => (if (bt112.2.length : Int) = (x102003.length : Int) then (cleanselaw20_MatchEqual.l0 k x5 bt112.2 0 x102000 x102001 x102002 x102003 x103000 x103001 x103002 x103003 x103004 x103005) else (some false)))
def cleanselaw20_MatchEqual.l0 : Nat → Bool → List Bool → Int → ByteArray → Int → Int → List (S43) → Int → ByteArray → ByteArray → Int → Int → List (S50) → Option (Bool)
 | 0, _, _, _, _, _, _, _, _, _, _, _, _, _ => none
 | k + 1, x5, x7, x8, x102000, x102001, x102002, x102003, x103000, x103001, x103002, x103003, x103004, x103005 => if x8 < (x7.length : Int) then (if 0 ≤ x8 then (if x8 < (x102003.length : Int) then (if ((rd_T43 x102003 x8).f0) < 0 then (cleanselaw20_MatchEqual.j2 k x5 x7 x8 true x102000 x102001 x102002 x102003 x103000 x103001 x103002 x103003 x103004 x103005 ((rd_T43 x102003 x8).f0) ((rd_T43 x102003 x8).f1) ((rd_T43 x102003 x8).f2) ((rd_T43 x102003 x8).f3.f0) ((rd_T43 x102003 x8).f3.f1) ((rd_T43 x102003 x8).f4) ((rd_T43 x102003 x8).f5)) else (cleanselaw20_MatchEqual.j2 k x5 x7 x8 (decide (((rd_T43 x102003 x8).f0) ≥ (x103005.length : Int))) x102000 x102001 x102002 x102003 x103000 x103001 x103002 x103003 x103004 x103005 ((rd_T43 x102003 x8).f0) ((rd_T43 x102003 x8).f1) ((rd_T43 x102003 x8).f2) ((rd_T43 x102003 x8).f3.f0) ((rd_T43 x102003 x8).f3.f1) ((rd_T43 x102003 x8).f4) ((rd_T43 x102003 x8).f5))) else (none)) else (none)) else (some x5)
def cleanselaw20_MatchEqual.j2 : Nat → Bool → List Bool → Int → Bool → ByteArray → Int → Int → List (S43) → Int → ByteArray → ByteArray → Int → Int → List (S50) → Int → Int → Int → Int → Int → Int → Int → Option (Bool)
 | 0, _, _, _, _, _, _, _, _, _, _, _, _, _, _, _, _, _, _, _, _, _ => none
 | k + 1, x5, x7, x8, x63, x102000, x102001, x102002, x102003, x103000, x103001, x103002, x103003, x103004, x103005, x118000, x118001, x118002, x118003, x118004, x118005, x118006 => if x63 = true then (if 0 ≤ x8 then (if x8 < (x7.length : Int) then (if rdOf false x7 x8 = true then (some false) else (cleanselaw20_MatchEqual.l0 k x5 x7 (wrap64 (x8 + 1)) x102000 x102001 x102002 x102003 x103000 x103001 x103002 x103003 x103004 x103005)) else (none)) else (none)) else (if 0 ≤ x118000 then (if x118000 < (x103005.length : Int) then ((measure_Of.f k 1 0 ((rd_T50 x103005 x118000).f0.f0) ((rd_T50 x103005 x118000).f0.f1) ((rd_T50 x103005 x118000).f0.f2) ((rd_T50 x103005 x118000).f0.f0) ((rd_T50 x103005 x118000).f0.f1) ((rd_T50 x103005 x118000).f0.f2)).bind fun bt121 => (if bt121.2.2 = 0 then (cleanselaw20_MatchEqual.j3 k x5 x7 x8 (bt121.1 == 1) x102000 x102001 x102002 x102003 x103000 x103001 x103002 x103003 x103004 x103005 x118000 x118001 x118002 x118003 x118004 x118005 x118006 ((rd_T50 x103005 x118000).f0.f0) ((rd_T50 x103005 x118000).f0.f1) ((rd_T50 x103005 x118000).f0.f2)) else (cleanselaw20_MatchEqual.j3 k x5 x7 x8 false x102000 x102001 x102002 x102003 x103000 x103001 x103002 x103003 x103004 x103005 x118000 x118001 x118002 x118003 x118004 x118005 x118006 ((rd_T50 x103005 x118000).f0.f0) ((rd_T50 x103005 x118000).f0.f1) ((rd_T50 x103005 x118000).f0.f2)))) else (none)) else (none))
def cleanselaw20_MatchEqual.j3 : Nat → Bool → List Bool → Int → Bool → ByteArray → Int → Int → List (S43) → Int → ByteArray → ByteArray → Int → Int → List (S50) → Int → Int → Int → Int → Int → Int → Int → Int → Int → ByteArray → Option (Bool)
 | 0, _, _, _, _, _, _, _, _, _, _, _, _, _, _, _, _, _, _, _, _, _, _, _, _ => none
 | k + 1, x5, x7, x8, x13, x102000, x102001, x102002, x102003, x103000, x103001, x103002, x103003, x103004, x103005, x118000, x118001, x118002, x118003, x118004, x118005, x118006, x121000, x121001, x121002 => if x118001 = 5 then (if x13 = true then (if x121000 = 2 then (if x118002 < 1000000000 then (if 0 ≤ x8 then (if x8 < (x7.length : Int) then (if rdOf false x7 x8 = true then (cleanselaw20_MatchEqual.l0 k x5 x7 (wrap64 (x8 + 1)) x102000 x102001 x102002 x102003 x103000 x103001 x103002 x103003 x103004 x103005) else (some false)) else (none)) else (none)) else (if 0 ≤ x8 then (if x8 < (x7.length : Int) then (if rdOf false x7 x8 = true then (if x118003 > 0 then (some false) else (cleanselaw20_MatchEqual.l0 k x5 x7 (wrap64 (x8 + 1)) x102000 x102001 x102002 x102003 x103000 x103001 x103002 x103003 x103004 x103005)) else (cleanselaw20_MatchEqual.l0 k x5 x7 (wrap64 (x8 + 1)) x102000 x102001 x102002 x102003 x103000 x103001 x103002 x103003 x103004 x103005)) else (none)) else (none))) else (if x121000 = 3 then (if x118002 < 1000000000 then (if 0 ≤ x8 then (if x8 < (x7.length : Int) then (if rdOf false x7 x8 = true then (cleanselaw20_MatchEqual.l0 k x5 x7 (wrap64 (x8 + 1)) x102000 x102001 x102002 x102003 x103000 x103001 x103002 x103003 x103004 x103005) else (some false)) else (none)) else (none)) else (if 0 ≤ x8 then (if x8 < (x7.length : Int) then (if rdOf false x7 x8 = true then (if x118003 > 0 then (some false) else (cleanselaw20_MatchEqual.l0 k x5 x7 (wrap64 (x8 + 1)) x102000 x102001 x102002 x102003 x103000 x103001 x103002 x103003 x103004 x103005)) else (cleanselaw20_MatchEqual.l0 k x5 x7 (wrap64 (x8 + 1)) x102000 x102001 x102002 x102003 x103000 x103001 x103002 x103003 x103004 x103005)) else (none)) else (none))) else (if 0 ≤ x8 then (if x8 < (x7.length : Int) then (if rdOf false x7 x8 = true then (if x118003 > 0 then (some false) else (cleanselaw20_MatchEqual.l0 k x5 x7 (wrap64 (x8 + 1)) x102000 x102001 x102002 x102003 x103000 x103001 x103002 x103003 x103004 x103005)) else (cleanselaw20_MatchEqual.l0 k x5 x7 (wrap64 (x8 + 1)) x102000 x102001 x102002 x102003 x103000 x103001 x103002 x103003 x103004 x103005)) else (none)) else (none)))) else (if 0 ≤ x8 then (if x8 < (x7.length : Int) then (if rdOf false x7 x8 = true then (if x118003 > 0 then (some false) else (cleanselaw20_MatchEqual.l0 k x5 x7 (wrap64 (x8 + 1)) x102000 x102001 x102002 x102003 x103000 x103001 x103002 x103003 x103004 x103005)) else (cleanselaw20_MatchEqual.l0 k x5 x7 (wrap64 (x8 + 1)) x102000 x102001 x102002 x102003 x103000 x103001 x103002 x103003 x103004 x103005)) else (none)) else (none))) else (if x118001 = 1 then (if x13 = true then (if 0 ≤ x8 then (if x8 < (x7.length : Int) then (if rdOf false x7 x8 = true then (cleanselaw20_MatchEqual.l0 k x5 x7 (wrap64 (x8 + 1)) x102000 x102001 x102002 x102003 x103000 x103001 x103002 x103003 x103004 x103005) else (some false)) else (none)) else (none)) else (if 0 ≤ x8 then (if x8 < (x7.length : Int) then (if rdOf false x7 x8 = true then (if x118003 > 0 then (some false) else (cleanselaw20_MatchEqual.l0 k x5 x7 (wrap64 (x8 + 1)) x102000 x102001 x102002 x102003 x103000 x103001 x103002 x103003 x103004 x103005)) else (cleanselaw20_MatchEqual.l0 k x5 x7 (wrap64 (x8 + 1)) x102000 x102001 x102002 x102003 x103000 x103001 x103002 x103003 x103004 x103005)) else (none)) else (none))) else (if x13 = true then (if x121000 = 1 then (if 0 ≤ x8 then (if x8 < (x7.length : Int) then (if rdOf false x7 x8 = true then (cleanselaw20_MatchEqual.l0 k x5 x7 (wrap64 (x8 + 1)) x102000 x102001 x102002 x102003 x103000 x103001 x103002 x103003 x103004 x103005) else (some false)) else (none)) else (none)) else (if 0 ≤ x8 then (if x8 < (x7.length : Int) then (if rdOf false x7 x8 = true then (if x118003 > 0 then (some false) else (cleanselaw20_MatchEqual.l0 k x5 x7 (wrap64 (x8 + 1)) x102000 x102001 x102002 x102003 x103000 x103001 x103002 x103003 x103004 x103005)) else (cleanselaw20_MatchEqual.l0 k x5 x7 (wrap64 (x8 + 1)) x102000 x102001 x102002 x102003 x103000 x103001 x103002 x103003 x103004 x103005)) else (none)) else (none))) else (if 0 ≤ x8 then (if x8 < (x7.length : Int) then (if rdOf false x7 x8 = true then (if x118003 > 0 then (some false) else (cleanselaw20_MatchEqual.l0 k x5 x7 (wrap64 (x8 + 1)) x102000 x102001 x102002 x102003 x103000 x103001 x103002 x103003 x103004 x103005)) else (cleanselaw20_MatchEqual.l0 k x5 x7 (wrap64 (x8 + 1)) x102000 x102001 x102002 x102003 x103000 x103001 x103002 x103003 x103004 x103005)) else (none)) else (none))))
end
def cleanselaw20_MatchEqual.f (k : Nat) (a0_0 : ByteArray) (a0_1 : Int) (a0_2 : Int) (l0_3 : List (S43)) (a1_0 : Int) (a1_1 : ByteArray) (a1_2 : ByteArray) (a1_3 : Int) (a1_4 : Int) (l1_5 : List (S50)) : Option (Bool) := (cleanselaw20_head.f).bind fun t103 => ((cleanseref20_Few.f k (([(⟨a0_0, a0_1, a0_2, l0_3⟩ : S24)] : List (S24))) (([(⟨(⟨a1_0, a1_1, a1_2⟩ : S26), a1_3, a1_4, l1_5⟩ : S29)] : List (S29))) 1).bind fun t110 => (if t110 = true then ((cleanseref20_About.f k a0_0 a0_1 a0_2 l0_3 a1_0 a1_1 a1_2 a1_3 a1_4 l1_5 a1_0 a1_1 a1_2 a1_3 a1_4 l1_5).bind fun t111 => (cleanselaw20_MatchEqual.j0 k t103 (!t111) a0_0 a0_1 a0_2 l0_3 a1_0 a1_1 a1_2 a1_3 a1_4 l1_5)) else (cleanselaw20_MatchEqual.j0 k t103 true a0_0 a0_1 a0_2 l0_3 a1_0 a1_1 a1_2 a1_3 a1_4 l1_5)))
set_option maxHeartbeats 8000000 in
set_option maxRecDepth 100000 in
theorem cleanselaw20_MatchEqual.calls (k : Nat) (a0_0 : ByteArray) (a0_1 : Int) (a0_2 : Int) (P0_3_ : Nat → Prop) (A0_3 : Option Addr) (c0_3 : Nat) (l0_3 : List (S43)) (a1_0 : Int) (a1_1 : ByteArray) (a1_2 : ByteArray) (a1_3 : Int) (a1_4 : Int) (P1_5_ : Nat → Prop) (A1_5 : Option Addr) (c1_5 : Nat) (l1_5 : List (S50)) (r : Bool) (w : World) (hs0_3 : Kd.V k43 43 w w.heap.size (fun k_ => P0_3_ k_) (.slice A0_3 l0_3.length c0_3) l0_3) (hs1_5 : Kd.V k50 50 w w.heap.size (fun k_ => P1_5_ k_) (.slice A1_5 l1_5.length c1_5) l1_5) (hG : Gl w) (hT : r = true) (h : cleanselaw20_MatchEqual.f k a0_0 a0_1 a0_2 l0_3 a1_0 a1_1 a1_2 a1_3 a1_4 l1_5 = some r) :
  Calls Tryd.prog 6 #[.agg #[.string a0_0, .int .i64 a0_1, .int .i64 a0_2, .slice A0_3 l0_3.length c0_3], .agg #[.int .i64 a1_0, .string a1_1, .string a1_2, .int .i64 a1_3, .int .i64 a1_4, .slice A1_5 l1_5.length c1_5]] w fun e w' => e = .returned (.bool r) ∧ Below w.heap.size w w' := by
 have HGl := Aside0.mk hG
 clear hG
 have HT := Aside0.mk hT
 clear hT
 have hu24 := Tryd.underlying24
 have hu29 := Tryd.underlying29
 have hu43 := Tryd.underlying43
 have hu48 := Tryd.underlying48
 have hu41 := Tryd.underlying41
 have HO0_3 := Aside0.mk (show Kd.V k43 43 w w.heap.size (fun k_ => ((P0_3_ k_ ∨ P1_5_ k_) ∨ w.heap.size ≤ k_)) (.slice A0_3 l0_3.length c0_3) l0_3 from Kd.V_mono hs0_3 (fun k_ hk => .inl (.inl hk)))
 have HO1_5 := Aside0.mk (show Kd.V k50 50 w w.heap.size (fun k_ => ((P0_3_ k_ ∨ P1_5_ k_) ∨ w.heap.size ≤ k_)) (.slice A1_5 l1_5.length c1_5) l1_5 from Kd.V_mono hs1_5 (fun k_ hk => .inl (.inr hk)))
 have HB := Aside0.mk (Below.refl w.heap.size w)
 have H : ((cleanselaw20_head.f).bind fun t103 => ((cleanseref20_Few.f k (([(⟨a0_0, a0_1, a0_2, l0_3⟩ : S24)] : List (S24))) (([(⟨(⟨a1_0, a1_1, a1_2⟩ : S26), a1_3, a1_4, l1_5⟩ : S29)] : List (S29))) 1).bind fun t110 => (if t110 = true then ((cleanseref20_About.f k a0_0 a0_1 a0_2 l0_3 a1_0 a1_1 a1_2 a1_3 a1_4 l1_5 a1_0 a1_1 a1_2 a1_3 a1_4 l1_5).bind fun t111 => (cleanselaw20_MatchEqual.j0 k t103 (!t111) a0_0 a0_1 a0_2 l0_3 a1_0 a1_1 a1_2 a1_3 a1_4 l1_5)) else (cleanselaw20_MatchEqual.j0 k t103 true a0_0 a0_1 a0_2 l0_3 a1_0 a1_1 a1_2 a1_3 a1_4 l1_5)))) = some r := h
 clear h
 replace H := Option.bind_eq_some_iff.mp H
 obtain ⟨t103, A30, H⟩ := H
 replace H : ((cleanseref20_Few.f k (([(⟨a0_0, a0_1, a0_2, l0_3⟩ : S24)] : List (S24))) (([(⟨(⟨a1_0, a1_1, a1_2⟩ : S26), a1_3, a1_4, l1_5⟩ : S29)] : List (S29))) 1).bind fun t110 => (if t110 = true then ((cleanseref20_About.f k a0_0 a0_1 a0_2 l0_3 a1_0 a1_1 a1_2 a1_3 a1_4 l1_5 a1_0 a1_1 a1_2 a1_3 a1_4 l1_5).bind fun t111 => (cleanselaw20_MatchEqual.j0 k t103 (!t111) a0_0 a0_1 a0_2 l0_3 a1_0 a1_1 a1_2 a1_3 a1_4 l1_5)) else (cleanselaw20_MatchEqual.j0 k t103 true a0_0 a0_1 a0_2 l0_3 a1_0 a1_1 a1_2 a1_3 a1_4 l1_5))) = some r := H
 have A3 := Aside0.mk A30
 clear A30
 have HC4 := Aside0.mk H
 clear H
 go_enter Tryd.func6, Tryd.ntmps6
 go_upto_region 2 with (first | ((with_reducible refine gate_dst (N := 2) rfl ?_); (try (refine gate_guard (by rfl) ?_; dsimp only)); refine box_event ?hg (N := 2) ?hd (cs := #[.string a0_0, .int .i64 a0_1, .int .i64 a0_2, .slice A0_3 l0_3.length c0_3]) (t := 24) ?hr ?_; (case hd => rfl); (case hg => rfl); (case hr => (go_simp; done)); intro gb101 hg w5 hbox hb; have n0_ := Aside0.mk (Kd.V_below (Kd.V_elderB (by exact HO0_3.out) gb101 (Nat.le_of_eq hg.symm)) hb); have n1_ := Aside0.mk (Kd.V_below (Kd.V_elderB (by exact HO1_5.out) gb101 (Nat.le_of_eq hg.symm)) hb); have n2_ := Aside0.mk (below_step HB.out hb); have n3_ := Aside0.mk (hbox); clear HO0_3; clear HO1_5; clear HB; have HO0_3 := n0_; have HO1_5 := n1_; have HB := n2_; have BK101 := n3_; clear n0_ n1_ n2_ n3_; clear hb hbox hg) | ((with_reducible refine gate_dst (N := 3) rfl ?_); (try (refine gate_guard (by rfl) ?_; dsimp only)); refine box_event ?hg (N := 3) ?hd (cs := #[.int .i64 a1_0, .string a1_1, .string a1_2, .int .i64 a1_3, .int .i64 a1_4, .slice A1_5 l1_5.length c1_5]) (t := 29) ?hr ?_; (case hd => rfl); (case hg => rfl); (case hr => (go_simp; done)); intro gb102 hg w6 hbox hb; have n0_ := Aside0.mk (Kd.V_below (Kd.V_elderB (by exact HO0_3.out) gb102 (Nat.le_of_eq hg.symm)) hb); have n1_ := Aside0.mk (Kd.V_below (Kd.V_elderB (by exact HO1_5.out) gb102 (Nat.le_of_eq hg.symm)) hb); have n2_ := Aside0.mk (blk_below (g := gb101) (o := .cells #[.string a0_0, .int .i64 a0_1, .int .i64 a0_2, .slice A0_3 l0_3.length c0_3] 24 (0, 0)) (by exact BK101.out) hb); have n3_ := Aside0.mk (below_step HB.out hb); have n4_ := Aside0.mk (hbox); have n7_ := Aside0.mk ((by rw [hg]; exact Nat.ne_of_lt (blk_lt (g := gb101) (o := .cells #[.string a0_0, .int .i64 a0_1, .int .i64 a0_2, .slice A0_3 l0_3.length c0_3] 24 (0, 0)) (by exact BK101.out)) : gb101 ≠ gb102)); have n8_ := Aside0.mk ((by rw [hg]; exact Nat.ne_of_gt (blk_lt (g := gb101) (o := .cells #[.string a0_0, .int .i64 a0_1, .int .i64 a0_2, .slice A0_3 l0_3.length c0_3] 24 (0, 0)) (by exact BK101.out)) : gb102 ≠ gb101)); clear HO0_3; clear HO1_5; clear BK101; clear HB; have HO0_3 := n0_; have HO1_5 := n1_; have BK101 := n2_; have HB := n3_; have BK102 := n4_; have NB101_102 := n7_; have NB102_101 := n8_; clear n0_ n1_ n2_ n3_ n4_ n7_ n8_; clear hb hbox hg) | ((with_reducible refine gate_callee (f := 9) rfl ?_); refine goesL_ (some 14) rfl rfl Tryd.func9 (by kernel_rfl) rfl #[] rfl (by (try simp only [List.map_toArray, List.map_cons, List.map_nil]); done) ?_; (with_reducible refine (cleanselaw20_head.calls  t103 _ ?sGl A3.out).mono ?_); (case sGl => exact Gl.below HGl.out HB.out); rintro e w7 ⟨rfl, hb⟩; refine ⟨_, rfl, ?_⟩; have n0_ := Aside0.mk (Kd.V_below (by exact HO0_3.out) hb); have n1_ := Aside0.mk (Kd.V_below (by exact HO1_5.out) hb); have n2_ := Aside0.mk (blk_below (g := gb101) (o := .cells #[.string a0_0, .int .i64 a0_1, .int .i64 a0_2, .slice A0_3 l0_3.length c0_3] 24 (0, 0)) (by exact BK101.out) hb); have n3_ := Aside0.mk (blk_below (g := gb102) (o := .cells #[.int .i64 a1_0, .string a1_1, .string a1_2, .int .i64 a1_3, .int .i64 a1_4, .slice A1_5 l1_5.length c1_5] 29 (0, 0)) (by exact BK102.out) hb); have n4_ := Aside0.mk (below_step HB.out hb); clear HO0_3; clear HO1_5; clear BK101; clear BK102; clear HB; have HO0_3 := n0_; have HO1_5 := n1_; have BK101 := n2_; have BK102 := n3_; have HB := n4_; clear n0_ n1_ n2_ n3_ n4_; (try clear hb)))
 go_cut [27] (fun v27 wc => ∃ (kq : Nat) (x27_3 : Bool), v27 = .bool x27_3 ∧ Aside0 (cleanselaw20_MatchEqual.j0 kq t103 x27_3 a0_0 a0_1 a0_2 l0_3 a1_0 a1_1 a1_2 a1_3 a1_4 l1_5 = some r) ∧ Aside0 (kq ≤ k) ∧ Aside0 (Kd.V k43 43 wc w.heap.size (fun k_ => ((P0_3_ k_ ∨ P1_5_ k_) ∨ w.heap.size ≤ k_) ∧ k_ ≠ gb101 ∧ k_ ≠ gb102) (.slice A0_3 l0_3.length c0_3) l0_3) ∧ Aside0 (Kd.V k50 50 wc w.heap.size (fun k_ => ((P0_3_ k_ ∨ P1_5_ k_) ∨ w.heap.size ≤ k_) ∧ k_ ≠ gb101 ∧ k_ ≠ gb102) (.slice A1_5 l1_5.length c1_5) l1_5) ∧ Aside0 (wc.heap[gb101]? = some (.cells #[.string a0_0, .int .i64 a0_1, .int .i64 a0_2, (.slice A0_3 l0_3.length c0_3)] 24 (0, 0))) ∧ Aside0 (wc.heap[gb102]? = some (.cells #[.int .i64 a1_0, .string a1_1, .string a1_2, .int .i64 a1_3, .int .i64 a1_4, (.slice A1_5 l1_5.length c1_5)] 29 (0, 0))) ∧ Aside0 (Below w.heap.size w wc))
 case first =>
  have H := HC4.out
  clear HC4
  obtain ⟨y104, hy104⟩ : ∃ y_ : List (S24), y_ = (([(⟨a0_0, a0_1, a0_2, l0_3⟩ : S24)] : List (S24))) := ⟨_, rfl⟩
  replace H : ((cleanseref20_Few.f k y104 (([(⟨(⟨a1_0, a1_1, a1_2⟩ : S26), a1_3, a1_4, l1_5⟩ : S29)] : List (S29))) 1).bind fun t110 => (if t110 = true then ((cleanseref20_About.f k a0_0 a0_1 a0_2 l0_3 a1_0 a1_1 a1_2 a1_3 a1_4 l1_5 a1_0 a1_1 a1_2 a1_3 a1_4 l1_5).bind fun t111 => (cleanselaw20_MatchEqual.j0 k t103 (!t111) a0_0 a0_1 a0_2 l0_3 a1_0 a1_1 a1_2 a1_3 a1_4 l1_5)) else (cleanselaw20_MatchEqual.j0 k t103 true a0_0 a0_1 a0_2 l0_3 a1_0 a1_1 a1_2 a1_3 a1_4 l1_5))) = some r := by (rw [hy104]; with_reducible exact H)
  have Ny104 := Aside0.mk hy104
  clear hy104
  obtain ⟨y107, hy107⟩ : ∃ y_ : List (S29), y_ = (([(⟨(⟨a1_0, a1_1, a1_2⟩ : S26), a1_3, a1_4, l1_5⟩ : S29)] : List (S29))) := ⟨_, rfl⟩
  replace H : ((cleanseref20_Few.f k y104 y107 1).bind fun t110 => (if t110 = true then ((cleanseref20_About.f k a0_0 a0_1 a0_2 l0_3 a1_0 a1_1 a1_2 a1_3 a1_4 l1_5 a1_0 a1_1 a1_2 a1_3 a1_4 l1_5).bind fun t111 => (cleanselaw20_MatchEqual.j0 k t103 (!t111) a0_0 a0_1 a0_2 l0_3 a1_0 a1_1 a1_2 a1_3 a1_4 l1_5)) else (cleanselaw20_MatchEqual.j0 k t103 true a0_0 a0_1 a0_2 l0_3 a1_0 a1_1 a1_2 a1_3 a1_4 l1_5))) = some r := by (rw [hy107]; with_reducible exact H)
  have Ny107 := Aside0.mk hy107
  clear hy107
  replace H := Option.bind_eq_some_iff.mp H
  obtain ⟨t110, A80, H⟩ := H
  replace H : (if t110 = true then ((cleanseref20_About.f k a0_0 a0_1 a0_2 l0_3 a1_0 a1_1 a1_2 a1_3 a1_4 l1_5 a1_0 a1_1 a1_2 a1_3 a1_4 l1_5).bind fun t111 => (cleanselaw20_MatchEqual.j0 k t103 (!t111) a0_0 a0_1 a0_2 l0_3 a1_0 a1_1 a1_2 a1_3 a1_4 l1_5)) else (cleanselaw20_MatchEqual.j0 k t103 true a0_0 a0_1 a0_2 l0_3 a1_0 a1_1 a1_2 a1_3 a1_4 l1_5)) = some r := H
  have A8 := Aside0.mk A80
  clear A80
  by_cases c9 : t110 = true
  ·subst c9
   have H1 : ((cleanseref20_About.f k a0_0 a0_1 a0_2 l0_3 a1_0 a1_1 a1_2 a1_3 a1_4 l1_5 a1_0 a1_1 a1_2 a1_3 a1_4 l1_5).bind fun t111 => (cleanselaw20_MatchEqual.j0 k t103 (!t111) a0_0 a0_1 a0_2 l0_3 a1_0 a1_1 a1_2 a1_3 a1_4 l1_5)) = some r := by rw [if_pos rfl] at H; exact H
   clear H
   have H := H1
   clear H1
   replace H := Option.bind_eq_some_iff.mp H
   obtain ⟨t111, A100, H⟩ := H
   replace H : (cleanselaw20_MatchEqual.j0 k t103 (!t111) a0_0 a0_1 a0_2 l0_3 a1_0 a1_1 a1_2 a1_3 a1_4 l1_5) = some r := H
   have A10 := Aside0.mk A100
   clear A100
   have H' := Aside0.mk H
   clear H
   have hnb11 := NB101_102.out
   have hnc11 := NB102_101.out
   have hcz12_0 := cel_ BK101.out 0 rfl
   have hcz12_1 := cel_ BK101.out 1 rfl
   have hcz12_2 := cel_ BK101.out 2 rfl
   have hcz12_3 := cel_ BK101.out 3 rfl
   have hfz12_0 := blk_frozen BK101.out 0
   have hfz12_1 := blk_frozen BK101.out 1
   have hfz12_2 := blk_frozen BK101.out 2
   have hfz12_3 := blk_frozen BK101.out 3
   go_wp2_with (first | ((with_reducible refine gate_dst (N := 16) rfl ?_); (try (refine gate_guard (by rfl) ?_; dsimp only)); refine Kd.N_lit k24 _ 24 ?hg (N' := 16) ?hd (xs := ([(⟨a0_0, a0_1, a0_2, l0_3⟩ : S24)] : List (S24))) (inner := [.string a0_0, .int .i64 a0_1, .int .i64 a0_2, .slice A0_3 l0_3.length c0_3]) (ok := (fun k_ => ((P0_3_ k_ ∨ P1_5_ k_) ∨ w.heap.size ≤ k_) ∧ k_ ≠ gb101 ∧ k_ ≠ gb102)) (okp := (fun k_ => ((P0_3_ k_ ∨ P1_5_ k_) ∨ w.heap.size ≤ k_) ∧ k_ ≠ gb101 ∧ k_ ≠ gb102)) ?hr ?hp (fun _ hk => hk) ((show ∀ k_, w7.heap.size ≤ k_ → (fun k_ => ((P0_3_ k_ ∨ P1_5_ k_) ∨ w.heap.size ≤ k_) ∧ k_ ≠ gb101 ∧ k_ ≠ gb102) k_ from fun k_ hk => ⟨(.inr (Nat.le_trans (below_size HB.out) hk)), Kd.freshB (g := gb101) (o := .cells #[.string a0_0, .int .i64 a0_1, .int .i64 a0_2, .slice A0_3 l0_3.length c0_3] 24 (0, 0)) (by exact BK101.out) k_ hk, Kd.freshB (g := gb102) (o := .cells #[.int .i64 a1_0, .string a1_1, .string a1_2, .int .i64 a1_3, .int .i64 a1_4, .slice A1_5 l1_5.length c1_5] 29 (0, 0)) (by exact BK102.out) k_ hk⟩) _ (Nat.le_refl _)) (Below.refl _ _) (Nat.le_refl _) (by simp) ?_; (case hd => rfl); (case hg => rfl); (case hr => (go_simp; done)); (case hp => exact (Reps.c4 (show Kd.FK k24 _ _ (⟨a0_0, a0_1, a0_2, l0_3⟩ : S24) [.string a0_0, .int .i64 a0_1, .int .i64 a0_2, .slice A0_3 l0_3.length c0_3] from (k24_mkF _ _ (⟨a0_0, a0_1, a0_2, l0_3⟩ : S24) (Kd.V_reads' (Kd.V_mono (ok' := (fun k_ => ((P0_3_ k_ ∨ P1_5_ k_) ∨ w.heap.size ≤ k_) ∧ k_ ≠ gb101 ∧ k_ ≠ gb102)) (HO0_3.out) (fun k_ hk => ⟨hk.1.1, ⟨hk.1.2, hk.2⟩⟩))).2.1 (Kd.V_F (Kd.V_mono (ok' := (fun k_ => ((P0_3_ k_ ∨ P1_5_ k_) ∨ w.heap.size ≤ k_) ∧ k_ ≠ gb101 ∧ k_ ≠ gb102)) (HO0_3.out) (fun k_ hk => ⟨hk.1.1, ⟨hk.1.2, hk.2⟩⟩))))) (Reps.none _ _))); intro v105 w13 ho14 hb hg_ hnew_; clear hg_ hnew_; ((rw [← Ny104.out] at ho14)); have n0_ := Aside0.mk (Kd.V_elder' (by exact HO0_3.out) (Kd.N_base ho14) hb); have n1_ := Aside0.mk (Kd.V_elder' (by exact HO1_5.out) (Kd.N_base ho14) hb); have n2_ := Aside0.mk (Kd.N_lower ho14 (below_size HB.out)); have n3_ := Aside0.mk (blk_below (g := gb101) (o := .cells #[.string a0_0, .int .i64 a0_1, .int .i64 a0_2, .slice A0_3 l0_3.length c0_3] 24 (0, 0)) (by exact BK101.out) hb); have n4_ := Aside0.mk (blk_below (g := gb102) (o := .cells #[.int .i64 a1_0, .string a1_1, .string a1_2, .int .i64 a1_3, .int .i64 a1_4, .slice A1_5 l1_5.length c1_5] 29 (0, 0)) (by exact BK102.out) hb); have n5_ := Aside0.mk (below_step HB.out hb); clear HO0_3; clear HO1_5; clear BK101; clear BK102; clear HB; have HO0_3 := n0_; have HO1_5 := n1_; have HO106 := n2_; have BK101 := n3_; have BK102 := n4_; have HB := n5_; clear n0_ n1_ n2_ n3_ n4_ n5_; clear hb ho14; have hcz15_0 := cel_ BK102.out 0 rfl; have hcz15_1 := cel_ BK102.out 1 rfl; have hcz15_2 := cel_ BK102.out 2 rfl; have hcz15_3 := cel_ BK102.out 3 rfl; have hcz15_4 := cel_ BK102.out 4 rfl; have hcz15_5 := cel_ BK102.out 5 rfl; have hfz15_0 := blk_frozen BK102.out 0; have hfz15_1 := blk_frozen BK102.out 1; have hfz15_2 := blk_frozen BK102.out 2; have hfz15_3 := blk_frozen BK102.out 3; have hfz15_4 := blk_frozen BK102.out 4; have hfz15_5 := blk_frozen BK102.out 5) | ((with_reducible refine gate_dst (N := 18) rfl ?_); (try (refine gate_guard (by rfl) ?_; dsimp only)); refine Kd.N_lit k29 _ 29 ?hg (N' := 18) ?hd (xs := ([(⟨(⟨a1_0, a1_1, a1_2⟩ : S26), a1_3, a1_4, l1_5⟩ : S29)] : List (S29))) (inner := [.int .i64 a1_0, .string a1_1, .string a1_2, .int .i64 a1_3, .int .i64 a1_4, .slice A1_5 l1_5.length c1_5]) (ok := (fun k_ => ((P0_3_ k_ ∨ P1_5_ k_) ∨ w.heap.size ≤ k_) ∧ some k_ ≠ (v105 : Value).ownBlock ∧ k_ ≠ gb101 ∧ k_ ≠ gb102)) (okp := (fun k_ => ((P0_3_ k_ ∨ P1_5_ k_) ∨ w.heap.size ≤ k_) ∧ some k_ ≠ (v105 : Value).ownBlock ∧ k_ ≠ gb101 ∧ k_ ≠ gb102)) ?hr ?hp (fun _ hk => hk) ((show ∀ k_, w13.heap.size ≤ k_ → (fun k_ => ((P0_3_ k_ ∨ P1_5_ k_) ∨ w.heap.size ≤ k_) ∧ some k_ ≠ (v105 : Value).ownBlock ∧ k_ ≠ gb101 ∧ k_ ≠ gb102) k_ from fun k_ hk => ⟨(.inr (Nat.le_trans (below_size HB.out) hk)), Kd.fresh' (Kd.N_lt (by exact HO106.out)) k_ hk, Kd.freshB (g := gb101) (o := .cells #[.string a0_0, .int .i64 a0_1, .int .i64 a0_2, .slice A0_3 l0_3.length c0_3] 24 (0, 0)) (by exact BK101.out) k_ hk, Kd.freshB (g := gb102) (o := .cells #[.int .i64 a1_0, .string a1_1, .string a1_2, .int .i64 a1_3, .int .i64 a1_4, .slice A1_5 l1_5.length c1_5] 29 (0, 0)) (by exact BK102.out) k_ hk⟩) _ (Nat.le_refl _)) (Below.refl _ _) (Nat.le_refl _) (by simp) ?_; (case hd => rfl); (case hg => rfl); (case hr => (go_simp; done)); (case hp => exact (Reps.c6 (show Kd.FK k29 _ _ (⟨(⟨a1_0, a1_1, a1_2⟩ : S26), a1_3, a1_4, l1_5⟩ : S29) [.int .i64 a1_0, .string a1_1, .string a1_2, .int .i64 a1_3, .int .i64 a1_4, .slice A1_5 l1_5.length c1_5] from (k29_mkF _ _ (⟨(⟨a1_0, a1_1, a1_2⟩ : S26), a1_3, a1_4, l1_5⟩ : S29) (Kd.V_reads' (Kd.V_mono (ok' := (fun k_ => ((P0_3_ k_ ∨ P1_5_ k_) ∨ w.heap.size ≤ k_) ∧ some k_ ≠ (v105 : Value).ownBlock ∧ k_ ≠ gb101 ∧ k_ ≠ gb102)) (HO1_5.out) (fun k_ hk => ⟨hk.1.1.1, ⟨hk.2, ⟨hk.1.1.2, hk.1.2⟩⟩⟩))).2.1 (Kd.V_F (Kd.V_mono (ok' := (fun k_ => ((P0_3_ k_ ∨ P1_5_ k_) ∨ w.heap.size ≤ k_) ∧ some k_ ≠ (v105 : Value).ownBlock ∧ k_ ≠ gb101 ∧ k_ ≠ gb102)) (HO1_5.out) (fun k_ hk => ⟨hk.1.1.1, ⟨hk.2, ⟨hk.1.1.2, hk.1.2⟩⟩⟩))))) (Reps.none _ _))); intro v108 w16 ho17 hb hg_ hnew_; clear hg_ hnew_; ((rw [← Ny107.out] at ho17)); have n0_ := Aside0.mk (Kd.V_elder' (by exact HO0_3.out) (Kd.N_base ho17) hb); have n1_ := Aside0.mk (Kd.V_elder' (by exact HO1_5.out) (Kd.N_base ho17) hb); have n2_ := Aside0.mk (Kd.N_elder' (by exact HO106.out) (Kd.N_base ho17) hb); have n3_ := Aside0.mk (Kd.N_lower ho17 (below_size HB.out)); have n4_ := Aside0.mk (blk_below (g := gb101) (o := .cells #[.string a0_0, .int .i64 a0_1, .int .i64 a0_2, .slice A0_3 l0_3.length c0_3] 24 (0, 0)) (by exact BK101.out) hb); have n5_ := Aside0.mk (blk_below (g := gb102) (o := .cells #[.int .i64 a1_0, .string a1_1, .string a1_2, .int .i64 a1_3, .int .i64 a1_4, .slice A1_5 l1_5.length c1_5] 29 (0, 0)) (by exact BK102.out) hb); have n6_ := Aside0.mk (below_step HB.out hb); clear HO0_3; clear HO1_5; clear HO106; clear BK101; clear BK102; clear HB; have HO0_3 := n0_; have HO1_5 := n1_; have HO106 := n2_; have HO109 := n3_; have BK101 := n4_; have BK102 := n5_; have HB := n6_; clear n0_ n1_ n2_ n3_ n4_ n5_ n6_; clear hb ho17; obtain ⟨Ao18, co18, eo18⟩ := Kd.N_slice HO106.out; subst eo18; obtain ⟨Ao19, co19, eo19⟩ := Kd.N_slice HO109.out; subst eo19) | ((with_reducible refine gate_callee (f := 10) rfl ?_); refine goesL_ (some 19) rfl rfl Tryd.func10 (by kernel_rfl) rfl #[.slice Ao18 y104.length co18, .slice Ao19 y107.length co19, .int .i64 1] rfl (by (try simp only [List.map_toArray, List.map_cons, List.map_nil]); rfl) ?_; (with_reducible refine (cleanseref20_Few.calls k _ _ y104 _ _ y107 1 true _ ?side1 ?side2 ?side3 ?side4 A8.out).mono ?_); (case side1 => repeat ((exact (Kd.N_reads' HO106.out).2.2))); (case side2 => exact (Kd.N_reads' HO106.out).2.1); (case side3 => repeat ((exact (Kd.N_reads' HO109.out).2.2))); (case side4 => exact (Kd.N_reads' HO109.out).2.1); rintro e w' ⟨rfl, ⟨nd, rfl⟩⟩; refine ⟨_, rfl, ?_⟩; have hcz20_0 := cel_ BK101.out 0 rfl; have hcz20_1 := cel_ BK101.out 1 rfl; have hcz20_2 := cel_ BK101.out 2 rfl; have hcz20_3 := cel_ BK101.out 3 rfl; have hfz20_0 := blk_frozen BK101.out 0; have hfz20_1 := blk_frozen BK101.out 1; have hfz20_2 := blk_frozen BK101.out 2; have hfz20_3 := blk_frozen BK101.out 3; have hcz21_0 := cel_ BK102.out 0 rfl; have hcz21_1 := cel_ BK102.out 1 rfl; have hcz21_2 := cel_ BK102.out 2 rfl; have hcz21_3 := cel_ BK102.out 3 rfl; have hcz21_4 := cel_ BK102.out 4 rfl; have hcz21_5 := cel_ BK102.out 5 rfl; have hfz21_0 := blk_frozen BK102.out 0; have hfz21_1 := blk_frozen BK102.out 1; have hfz21_2 := blk_frozen BK102.out 2; have hfz21_3 := blk_frozen BK102.out 3; have hfz21_4 := blk_frozen BK102.out 4; have hfz21_5 := blk_frozen BK102.out 5) | (go_at_call 14; (with_reducible refine (cleanseref20_About.calls k a0_0 a0_1 a0_2 _ _ l0_3 a1_0 a1_1 a1_2 a1_3 a1_4 _ _ l1_5 a1_0 a1_1 a1_2 a1_3 a1_4 _ _ l1_5 t111 _ ?side1 ?side2 ?side3 ?side4 ?side5 ?side6 A10.out).mono ?_); (case side1 => repeat ((exact (Kd.V_reads' HO0_3.out).2.2))); (case side2 => exact (Kd.V_reads' HO0_3.out).2.1); (case side3 => repeat ((exact (Kd.V_reads' HO1_5.out).2.2))); (case side4 => exact (Kd.V_reads' HO1_5.out).2.1); (case side5 => repeat ((exact (Kd.V_reads' HO1_5.out).2.2))); (case side6 => exact (Kd.V_reads' HO1_5.out).2.1); rintro e w22 ⟨rfl, hb⟩; have n0_ := Aside0.mk (Kd.V_below (by (with_reducible repeat ((apply Kd.V_drewN))); exact HO0_3.out) hb); have n1_ := Aside0.mk (Kd.V_below (by (with_reducible repeat ((apply Kd.V_drewN))); exact HO1_5.out) hb); have n2_ := Aside0.mk (Kd.N_below (by (with_reducible repeat ((apply Kd.N_drewN))); exact HO106.out) hb); have n3_ := Aside0.mk (Kd.N_below (by (with_reducible repeat ((apply Kd.N_drewN))); exact HO109.out) hb); have n4_ := Aside0.mk (blk_below (g := gb101) (o := .cells #[.string a0_0, .int .i64 a0_1, .int .i64 a0_2, .slice A0_3 l0_3.length c0_3] 24 (0, 0)) (by (with_reducible repeat ((refine blk_drewN ?_ _))); exact BK101.out) hb); have n5_ := Aside0.mk (blk_below (g := gb102) (o := .cells #[.int .i64 a1_0, .string a1_1, .string a1_2, .int .i64 a1_3, .int .i64 a1_4, .slice A1_5 l1_5.length c1_5] 29 (0, 0)) (by (with_reducible repeat ((refine blk_drewN ?_ _))); exact BK102.out) hb); have n6_ := Aside0.mk (below_step (by repeat ((with_reducible first | exact HB.out | apply pw_below_drewN))) hb); clear HO0_3; clear HO1_5; clear HO106; clear HO109; clear BK101; clear BK102; clear HB; have HO0_3 := n0_; have HO1_5 := n1_; have HO106 := n2_; have HO109 := n3_; have BK101 := n4_; have BK102 := n5_; have HB := n6_; clear n0_ n1_ n2_ n3_ n4_ n5_ n6_; (try clear hb)))
   go_meet
   case rel => exact ⟨_, (!t111), (by rfl), H', ⟨by omega⟩, ⟨by exact Kd.V_mono HO0_3.out (fun _ hk => ⟨hk.1.1.1.1, ⟨hk.1.1.1.2, hk.1.1.2⟩⟩)⟩, ⟨by exact Kd.V_mono HO1_5.out (fun _ hk => ⟨hk.1.1.1.1, ⟨hk.1.1.1.2, hk.1.1.2⟩⟩)⟩, ⟨by exact BK101.out⟩, ⟨by exact BK102.out⟩, ⟨by repeat ((with_reducible (exact HB.out)))⟩⟩
  replace c9 := Bool.eq_false_iff.mpr c9
  subst c9
  have H1 : (cleanselaw20_MatchEqual.j0 k t103 true a0_0 a0_1 a0_2 l0_3 a1_0 a1_1 a1_2 a1_3 a1_4 l1_5) = some r := by rw [if_neg (show ¬ (false = true) by decide)] at H; exact H
  clear H
  have H := H1
  clear H1
  have H' := Aside0.mk H
  clear H
  have hnb23 := NB101_102.out
  have hnc23 := NB102_101.out
  have hcz24_0 := cel_ BK101.out 0 rfl
  have hcz24_1 := cel_ BK101.out 1 rfl
  have hcz24_2 := cel_ BK101.out 2 rfl
  have hcz24_3 := cel_ BK101.out 3 rfl
  have hfz24_0 := blk_frozen BK101.out 0
  have hfz24_1 := blk_frozen BK101.out 1
  have hfz24_2 := blk_frozen BK101.out 2
  have hfz24_3 := blk_frozen BK101.out 3
  go_wp2_with (first | ((with_reducible refine gate_dst (N := 16) rfl ?_); (try (refine gate_guard (by rfl) ?_; dsimp only)); refine Kd.N_lit k24 _ 24 ?hg (N' := 16) ?hd (xs := ([(⟨a0_0, a0_1, a0_2, l0_3⟩ : S24)] : List (S24))) (inner := [.string a0_0, .int .i64 a0_1, .int .i64 a0_2, .slice A0_3 l0_3.length c0_3]) (ok := (fun k_ => ((P0_3_ k_ ∨ P1_5_ k_) ∨ w.heap.size ≤ k_) ∧ k_ ≠ gb101 ∧ k_ ≠ gb102)) (okp := (fun k_ => ((P0_3_ k_ ∨ P1_5_ k_) ∨ w.heap.size ≤ k_) ∧ k_ ≠ gb101 ∧ k_ ≠ gb102)) ?hr ?hp (fun _ hk => hk) ((show ∀ k_, w7.heap.size ≤ k_ → (fun k_ => ((P0_3_ k_ ∨ P1_5_ k_) ∨ w.heap.size ≤ k_) ∧ k_ ≠ gb101 ∧ k_ ≠ gb102) k_ from fun k_ hk => ⟨(.inr (Nat.le_trans (below_size HB.out) hk)), Kd.freshB (g := gb101) (o := .cells #[.string a0_0, .int .i64 a0_1, .int .i64 a0_2, .slice A0_3 l0_3.length c0_3] 24 (0, 0)) (by exact BK101.out) k_ hk, Kd.freshB (g := gb102) (o := .cells #[.int .i64 a1_0, .string a1_1, .string a1_2, .int .i64 a1_3, .int .i64 a1_4, .slice A1_5 l1_5.length c1_5] 29 (0, 0)) (by exact BK102.out) k_ hk⟩) _ (Nat.le_refl _)) (Below.refl _ _) (Nat.le_refl _) (by simp) ?_; (case hd => rfl); (case hg => rfl); (case hr => (go_simp; done)); (case hp => exact (Reps.c4 (show Kd.FK k24 _ _ (⟨a0_0, a0_1, a0_2, l0_3⟩ : S24) [.string a0_0, .int .i64 a0_1, .int .i64 a0_2, .slice A0_3 l0_3.length c0_3] from (k24_mkF _ _ (⟨a0_0, a0_1, a0_2, l0_3⟩ : S24) (Kd.V_reads' (Kd.V_mono (ok' := (fun k_ => ((P0_3_ k_ ∨ P1_5_ k_) ∨ w.heap.size ≤ k_) ∧ k_ ≠ gb101 ∧ k_ ≠ gb102)) (HO0_3.out) (fun k_ hk => ⟨hk.1.1, ⟨hk.1.2, hk.2⟩⟩))).2.1 (Kd.V_F (Kd.V_mono (ok' := (fun k_ => ((P0_3_ k_ ∨ P1_5_ k_) ∨ w.heap.size ≤ k_) ∧ k_ ≠ gb101 ∧ k_ ≠ gb102)) (HO0_3.out) (fun k_ hk => ⟨hk.1.1, ⟨hk.1.2, hk.2⟩⟩))))) (Reps.none _ _))); intro v105 w25 ho26 hb hg_ hnew_; clear hg_ hnew_; ((rw [← Ny104.out] at ho26)); have n0_ := Aside0.mk (Kd.V_elder' (by exact HO0_3.out) (Kd.N_base ho26) hb); have n1_ := Aside0.mk (Kd.V_elder' (by exact HO1_5.out) (Kd.N_base ho26) hb); have n2_ := Aside0.mk (Kd.N_lower ho26 (below_size HB.out)); have n3_ := Aside0.mk (blk_below (g := gb101) (o := .cells #[.string a0_0, .int .i64 a0_1, .int .i64 a0_2, .slice A0_3 l0_3.length c0_3] 24 (0, 0)) (by exact BK101.out) hb); have n4_ := Aside0.mk (blk_below (g := gb102) (o := .cells #[.int .i64 a1_0, .string a1_1, .string a1_2, .int .i64 a1_3, .int .i64 a1_4, .slice A1_5 l1_5.length c1_5] 29 (0, 0)) (by exact BK102.out) hb); have n5_ := Aside0.mk (below_step HB.out hb); clear HO0_3; clear HO1_5; clear BK101; clear BK102; clear HB; have HO0_3 := n0_; have HO1_5 := n1_; have HO106 := n2_; have BK101 := n3_; have BK102 := n4_; have HB := n5_; clear n0_ n1_ n2_ n3_ n4_ n5_; clear hb ho26; have hcz27_0 := cel_ BK102.out 0 rfl; have hcz27_1 := cel_ BK102.out 1 rfl; have hcz27_2 := cel_ BK102.out 2 rfl; have hcz27_3 := cel_ BK102.out 3 rfl; have hcz27_4 := cel_ BK102.out 4 rfl; have hcz27_5 := cel_ BK102.out 5 rfl; have hfz27_0 := blk_frozen BK102.out 0; have hfz27_1 := blk_frozen BK102.out 1; have hfz27_2 := blk_frozen BK102.out 2; have hfz27_3 := blk_frozen BK102.out 3; have hfz27_4 := blk_frozen BK102.out 4; have hfz27_5 := blk_frozen BK102.out 5) | ((with_reducible refine gate_dst (N := 18) rfl ?_); (try (refine gate_guard (by rfl) ?_; dsimp only)); refine Kd.N_lit k29 _ 29 ?hg (N' := 18) ?hd (xs := ([(⟨(⟨a1_0, a1_1, a1_2⟩ : S26), a1_3, a1_4, l1_5⟩ : S29)] : List (S29))) (inner := [.int .i64 a1_0, .string a1_1, .string a1_2, .int .i64 a1_3, .int .i64 a1_4, .slice A1_5 l1_5.length c1_5]) (ok := (fun k_ => ((P0_3_ k_ ∨ P1_5_ k_) ∨ w.heap.size ≤ k_) ∧ some k_ ≠ (v105 : Value).ownBlock ∧ k_ ≠ gb101 ∧ k_ ≠ gb102)) (okp := (fun k_ => ((P0_3_ k_ ∨ P1_5_ k_) ∨ w.heap.size ≤ k_) ∧ some k_ ≠ (v105 : Value).ownBlock ∧ k_ ≠ gb101 ∧ k_ ≠ gb102)) ?hr ?hp (fun _ hk => hk) ((show ∀ k_, w25.heap.size ≤ k_ → (fun k_ => ((P0_3_ k_ ∨ P1_5_ k_) ∨ w.heap.size ≤ k_) ∧ some k_ ≠ (v105 : Value).ownBlock ∧ k_ ≠ gb101 ∧ k_ ≠ gb102) k_ from fun k_ hk => ⟨(.inr (Nat.le_trans (below_size HB.out) hk)), Kd.fresh' (Kd.N_lt (by exact HO106.out)) k_ hk, Kd.freshB (g := gb101) (o := .cells #[.string a0_0, .int .i64 a0_1, .int .i64 a0_2, .slice A0_3 l0_3.length c0_3] 24 (0, 0)) (by exact BK101.out) k_ hk, Kd.freshB (g := gb102) (o := .cells #[.int .i64 a1_0, .string a1_1, .string a1_2, .int .i64 a1_3, .int .i64 a1_4, .slice A1_5 l1_5.length c1_5] 29 (0, 0)) (by exact BK102.out) k_ hk⟩) _ (Nat.le_refl _)) (Below.refl _ _) (Nat.le_refl _) (by simp) ?_; (case hd => rfl); (case hg => rfl); (case hr => (go_simp; done)); (case hp => exact (Reps.c6 (show Kd.FK k29 _ _ (⟨(⟨a1_0, a1_1, a1_2⟩ : S26), a1_3, a1_4, l1_5⟩ : S29) [.int .i64 a1_0, .string a1_1, .string a1_2, .int .i64 a1_3, .int .i64 a1_4, .slice A1_5 l1_5.length c1_5] from (k29_mkF _ _ (⟨(⟨a1_0, a1_1, a1_2⟩ : S26), a1_3, a1_4, l1_5⟩ : S29) (Kd.V_reads' (Kd.V_mono (ok' := (fun k_ => ((P0_3_ k_ ∨ P1_5_ k_) ∨ w.heap.size ≤ k_) ∧ some k_ ≠ (v105 : Value).ownBlock ∧ k_ ≠ gb101 ∧ k_ ≠ gb102)) (HO1_5.out) (fun k_ hk => ⟨hk.1.1.1, ⟨hk.2, ⟨hk.1.1.2, hk.1.2⟩⟩⟩))).2.1 (Kd.V_F (Kd.V_mono (ok' := (fun k_ => ((P0_3_ k_ ∨ P1_5_ k_) ∨ w.heap.size ≤ k_) ∧ some k_ ≠ (v105 : Value).ownBlock ∧ k_ ≠ gb101 ∧ k_ ≠ gb102)) (HO1_5.out) (fun k_ hk => ⟨hk.1.1.1, ⟨hk.2, ⟨hk.1.1.2, hk.1.2⟩⟩⟩))))) (Reps.none _ _))); intro v108 w28 ho29 hb hg_ hnew_; clear hg_ hnew_; ((rw [← Ny107.out] at ho29)); have n0_ := Aside0.mk (Kd.V_elder' (by exact HO0_3.out) (Kd.N_base ho29) hb); have n1_ := Aside0.mk (Kd.V_elder' (by exact HO1_5.out) (Kd.N_base ho29) hb); have n2_ := Aside0.mk (Kd.N_elder' (by exact HO106.out) (Kd.N_base ho29) hb); have n3_ := Aside0.mk (Kd.N_lower ho29 (below_size HB.out)); have n4_ := Aside0.mk (blk_below (g := gb101) (o := .cells #[.string a0_0, .int .i64 a0_1, .int .i64 a0_2, .slice A0_3 l0_3.length c0_3] 24 (0, 0)) (by exact BK101.out) hb); have n5_ := Aside0.mk (blk_below (g := gb102) (o := .cells #[.int .i64 a1_0, .string a1_1, .string a1_2, .int .i64 a1_3, .int .i64 a1_4, .slice A1_5 l1_5.length c1_5] 29 (0, 0)) (by exact BK102.out) hb); have n6_ := Aside0.mk (below_step HB.out hb); clear HO0_3; clear HO1_5; clear HO106; clear BK101; clear BK102; clear HB; have HO0_3 := n0_; have HO1_5 := n1_; have HO106 := n2_; have HO109 := n3_; have BK101 := n4_; have BK102 := n5_; have HB := n6_; clear n0_ n1_ n2_ n3_ n4_ n5_ n6_; clear hb ho29; obtain ⟨Ao30, co30, eo30⟩ := Kd.N_slice HO106.out; subst eo30; obtain ⟨Ao31, co31, eo31⟩ := Kd.N_slice HO109.out; subst eo31) | ((with_reducible refine gate_callee (f := 10) rfl ?_); refine goesL_ (some 19) rfl rfl Tryd.func10 (by kernel_rfl) rfl #[.slice Ao30 y104.length co30, .slice Ao31 y107.length co31, .int .i64 1] rfl (by (try simp only [List.map_toArray, List.map_cons, List.map_nil]); rfl) ?_; (with_reducible refine (cleanseref20_Few.calls k _ _ y104 _ _ y107 1 false _ ?side1 ?side2 ?side3 ?side4 A8.out).mono ?_); (case side1 => repeat ((exact (Kd.N_reads' HO106.out).2.2))); (case side2 => exact (Kd.N_reads' HO106.out).2.1); (case side3 => repeat ((exact (Kd.N_reads' HO109.out).2.2))); (case side4 => exact (Kd.N_reads' HO109.out).2.1); rintro e w' ⟨rfl, ⟨nd, rfl⟩⟩; refine ⟨_, rfl, ?_⟩))
  go_meet
  case rel => exact ⟨_, (true), (by rfl), H', ⟨by omega⟩, ⟨by (with_reducible repeat ((apply Kd.V_drewN))); exact Kd.V_mono HO0_3.out (fun _ hk => ⟨hk.1.1.1.1, ⟨hk.1.1.1.2, hk.1.1.2⟩⟩)⟩, ⟨by (with_reducible repeat ((apply Kd.V_drewN))); exact Kd.V_mono HO1_5.out (fun _ hk => ⟨hk.1.1.1.1, ⟨hk.1.1.1.2, hk.1.1.2⟩⟩)⟩, ⟨by (with_reducible repeat ((refine blk_drewN ?_ _))); exact BK101.out⟩, ⟨by (with_reducible repeat ((refine blk_drewN ?_ _))); exact BK102.out⟩, ⟨by repeat ((with_reducible first | exact HB.out | apply pw_below_drewN))⟩⟩
 clear HC4
 obtain ⟨kq, x27_3, rfl, HA, HJ3, HO_102003, HO_103005, BK101, BK102, HB⟩ := hcut
 cases kq with
 | zero => exact absurd HA.out (by simp [cleanselaw20_MatchEqual.j0])
 | succ kj3 =>
  have H := HA.out
  clear HA
  simp only [cleanselaw20_MatchEqual.j0] at H
  by_cases c32 : x27_3 = true
  ·subst c32
   have H1 : (some t103) = some r := by rw [if_pos rfl] at H; exact H
   clear H
   have H := H1
   clear H1
   obtain rfl := Option.some.inj H
   go_wp2
   go_ret
   exact ⟨by rfl, by repeat ((with_reducible (exact HB.out)))⟩
  replace c32 := Bool.eq_false_iff.mpr c32
  subst c32
  have H1 : ((match_Score.f kj3 a0_0 a0_1 a0_2 l0_3 a1_0 a1_1 a1_2 a1_3 a1_4 l1_5 a1_0 a1_1 a1_2 a1_3 a1_4 l1_5).bind fun bt112 => (if (bt112.2.length : Int) = (l0_3.length : Int) then (cleanselaw20_MatchEqual.l0 kj3 t103 bt112.2 0 a0_0 a0_1 a0_2 l0_3 a1_0 a1_1 a1_2 a1_3 a1_4 l1_5) else (some false))) = some r := by rw [if_neg (show ¬ (false = true) by decide)] at H; exact H
  clear H
  have H := H1
  clear H1
  replace H := Option.bind_eq_some_iff.mp H
  obtain ⟨⟨t112, t113⟩, A330, H⟩ := H
  replace H : (if (t113.length : Int) = (l0_3.length : Int) then (cleanselaw20_MatchEqual.l0 kj3 t103 t113 0 a0_0 a0_1 a0_2 l0_3 a1_0 a1_1 a1_2 a1_3 a1_4 l1_5) else (some false)) = some r := H
  have A33 := Aside0.mk A330
  clear A330
  by_cases c34 : (t113.length : Int) = (l0_3.length : Int)
  ·rw [if_pos c34] at H
   have c34b0 : ((t113.length : Int) == (l0_3.length : Int)) = true := beq_iff_eq.mpr c34
   have c34b1 : ((t113.length : Int) != (l0_3.length : Int)) = false := bne_eq_false_iff_eq.mpr c34
   have c34b2 : (t113.length == l0_3.length) = true := by (simp at c34 ⊢; omega)
   clear c34
   have H' := Aside0.mk H
   clear H
   have hnb35 := NB101_102.out
   have hnc35 := NB102_101.out
   have hcz36_0 := cel_ BK101.out 0 rfl
   have hcz36_1 := cel_ BK101.out 1 rfl
   have hcz36_2 := cel_ BK101.out 2 rfl
   have hcz36_3 := cel_ BK101.out 3 rfl
   have hfz36_0 := blk_frozen BK101.out 0
   have hfz36_1 := blk_frozen BK101.out 1
   have hfz36_2 := blk_frozen BK101.out 2
   have hfz36_3 := blk_frozen BK101.out 3
   have hcz37_0 := cel_ BK102.out 0 rfl
   have hcz37_1 := cel_ BK102.out 1 rfl
   have hcz37_2 := cel_ BK102.out 2 rfl
   have hcz37_3 := cel_ BK102.out 3 rfl
   have hcz37_4 := cel_ BK102.out 4 rfl
   have hcz37_5 := cel_ BK102.out 5 rfl
   have hfz37_0 := blk_frozen BK102.out 0
   have hfz37_1 := blk_frozen BK102.out 1
   have hfz37_2 := blk_frozen BK102.out 2
   have hfz37_3 := blk_frozen BK102.out 3
   have hfz37_4 := blk_frozen BK102.out 4
   have hfz37_5 := blk_frozen BK102.out 5
   go_wp2_with (first | ((with_reducible refine gate_callee (f := 11) rfl ?_); refine goesL_ (some 33) rfl rfl Tryd.func11 (by kernel_rfl) rfl #[.agg #[.string a0_0, .int .i64 a0_1, .int .i64 a0_2, .slice A0_3 l0_3.length c0_3], .agg #[.int .i64 a1_0, .string a1_1, .string a1_2, .int .i64 a1_3, .int .i64 a1_4, .slice A1_5 l1_5.length c1_5], .agg #[.int .i64 a1_0, .string a1_1, .string a1_2, .int .i64 a1_3, .int .i64 a1_4, .slice A1_5 l1_5.length c1_5]] rfl (by (try simp only [List.map_toArray, List.map_cons, List.map_nil]); rfl) ?_; (with_reducible refine (match_Score.calls kj3 a0_0 a0_1 a0_2 _ _ l0_3 a1_0 a1_1 a1_2 a1_3 a1_4 _ _ l1_5 a1_0 a1_1 a1_2 a1_3 a1_4 _ _ l1_5 t112 t113 _ ?side1 ?side2 ?side3 ?side4 ?side5 ?side6 ?sGl A33.out).mono ?_); (case sGl => exact Gl.below HGl.out HB.out); (case side1 => repeat ((exact (Kd.V_reads' HO_102003.out).2.2))); (case side2 => exact (Kd.V_reads' HO_102003.out).2.1); (case side3 => repeat ((exact (Kd.V_reads' HO_103005.out).2.2))); (case side4 => exact (Kd.V_reads' HO_103005.out).2.1); (case side5 => repeat ((exact (Kd.V_reads' HO_103005.out).2.2))); (case side6 => exact (Kd.V_reads' HO_103005.out).2.1); rintro e w38 ⟨v114, rfl, ho0, hb⟩; refine ⟨_, rfl, ?_⟩; have n0_ := Aside0.mk (Kd.V_elder' (by exact HO_102003.out) (Kd.R_base ho0) hb); have n1_ := Aside0.mk (Kd.V_elder' (by exact HO_103005.out) (Kd.R_base ho0) hb); have n2_ := Aside0.mk (Kd.R_lower (Kd.R_newM (M := fun k_ => (w.heap.size ≤ k_)) ho0 (below_size HB.out) (fun k_ h_ => h_)) (below_size HB.out)); have n3_ := Aside0.mk (blk_below (g := gb101) (o := .cells #[.string a0_0, .int .i64 a0_1, .int .i64 a0_2, .slice A0_3 l0_3.length c0_3] 24 (0, 0)) (by exact BK101.out) hb); have n4_ := Aside0.mk (blk_below (g := gb102) (o := .cells #[.int .i64 a1_0, .string a1_1, .string a1_2, .int .i64 a1_3, .int .i64 a1_4, .slice A1_5 l1_5.length c1_5] 29 (0, 0)) (by exact BK102.out) hb); have n5_ := Aside0.mk (below_step HB.out hb); clear HO_102003; clear HO_103005; clear BK101; clear BK102; clear HB; have HO_102003 := n0_; have HO_103005 := n1_; have HO115 := n2_; have BK101 := n3_; have BK102 := n4_; have HB := n5_; clear n0_ n1_ n2_ n3_ n4_ n5_; (try clear hb); (try clear ho0); obtain ⟨Ao39, co39, eo39⟩ := Kd.R_slice HO115.out; subst eo39; have hcz40_0 := cel_ BK101.out 0 rfl; have hcz40_1 := cel_ BK101.out 1 rfl; have hcz40_2 := cel_ BK101.out 2 rfl; have hcz40_3 := cel_ BK101.out 3 rfl; have hfz40_0 := blk_frozen BK101.out 0; have hfz40_1 := blk_frozen BK101.out 1; have hfz40_2 := blk_frozen BK101.out 2; have hfz40_3 := blk_frozen BK101.out 3))
   go_loopg [8] kj3 (fun kq v8 w' => ∃ (x8_2 : Int), v8 = .int .i64 x8_2 ∧ Aside0 (cleanselaw20_MatchEqual.l0 kq t103 t113 x8_2 a0_0 a0_1 a0_2 l0_3 a1_0 a1_1 a1_2 a1_3 a1_4 l1_5 = some r) ∧ Aside0 (kq ≤ kj3) ∧ Aside0 (Kd.R Kd.bool 4 w' w.heap.size (fun k_ => (w.heap.size ≤ k_)) (.slice Ao39 t113.length co39) t113) ∧ Aside0 (Kd.V k43 43 w' w.heap.size (fun k_ => ((P0_3_ k_ ∨ P1_5_ k_) ∨ w.heap.size ≤ k_) ∧ some k_ ≠ ((.slice Ao39 t113.length co39) : Value).ownBlock ∧ k_ ≠ gb101 ∧ k_ ≠ gb102) (.slice A0_3 l0_3.length c0_3) l0_3) ∧ Aside0 (Kd.V k50 50 w' w.heap.size (fun k_ => ((P0_3_ k_ ∨ P1_5_ k_) ∨ w.heap.size ≤ k_) ∧ some k_ ≠ ((.slice Ao39 t113.length co39) : Value).ownBlock ∧ k_ ≠ gb101 ∧ k_ ≠ gb102) (.slice A1_5 l1_5.length c1_5) l1_5) ∧ Aside0 (w'.heap[gb101]? = some (.cells #[.string a0_0, .int .i64 a0_1, .int .i64 a0_2, (.slice A0_3 l0_3.length c0_3)] 24 (0, 0))) ∧ Aside0 (w'.heap[gb102]? = some (.cells #[.int .i64 a1_0, .string a1_1, .string a1_2, .int .i64 a1_3, .int .i64 a1_4, (.slice A1_5 l1_5.length c1_5)] 29 (0, 0))) ∧ Aside0 (Below w.heap.size w w'))
   case atStart => exact ⟨(0), (by rfl), H', ⟨Nat.le_refl _⟩, ⟨by exact Kd.R_mono HO115.out (fun _ hk => hk.1)⟩, ⟨by exact Kd.V_mono HO_102003.out (fun _ hk => ⟨hk.1.1, ⟨hk.2, ⟨hk.1.2.1, hk.1.2.2⟩⟩⟩)⟩, ⟨by exact Kd.V_mono HO_103005.out (fun _ hk => ⟨hk.1.1, ⟨hk.2, ⟨hk.1.2.1, hk.1.2.2⟩⟩⟩)⟩, ⟨by exact BK101.out⟩, ⟨by exact BK102.out⟩, ⟨by repeat ((with_reducible (exact HB.out)))⟩⟩
   clear H'
   clear c34b0 c34b1 c34b2
   clear hcz36_0 hcz36_1 hcz36_2 hcz36_3 hcz37_0 hcz37_1 hcz37_2 hcz37_3 hcz37_4 hcz37_5 hcz40_0 hcz40_1 hcz40_2 hcz40_3
   clear hfz36_0 hfz36_1 hfz36_2 hfz36_3 hfz37_0 hfz37_1 hfz37_2 hfz37_3 hfz37_4 hfz37_5 hfz40_0 hfz40_1 hfz40_2 hfz40_3
   obtain ⟨x8_2, rfl, HA, HK2, HO_7, HO_102003, HO_103005, BK101, BK102, HB⟩ := hrel
   cases gk with
   | zero => exact absurd HA.out (by simp [cleanselaw20_MatchEqual.l0])
   | succ k2 =>
    have H := HA.out
    clear HA
    simp only [cleanselaw20_MatchEqual.l0] at H
    by_cases c41 : x8_2 < (t113.length : Int)
    ·rw [if_pos c41] at H
     have c41b0 : decide (x8_2 < (t113.length : Int)) = true := decide_eq_true c41
     clear c41
     by_cases c42 : 0 ≤ x8_2
     ·rw [if_pos c42] at H
      have c42b0 : decide (0 ≤ x8_2) = true := decide_eq_true c42
      clear c42
      by_cases c43 : x8_2 < (l0_3.length : Int)
      ·rw [if_pos c43] at H
       have c43b0 : decide (x8_2 < (l0_3.length : Int)) = true := decide_eq_true c43
       clear c43
       have HC44 := Aside0.mk H
       clear H
       have hnb45 := NB101_102.out
       have hnc45 := NB102_101.out
       have hcz46_0 := cel_ BK101.out 0 rfl
       have hcz46_1 := cel_ BK101.out 1 rfl
       have hcz46_2 := cel_ BK101.out 2 rfl
       have hcz46_3 := cel_ BK101.out 3 rfl
       have hfz46_0 := blk_frozen BK101.out 0
       have hfz46_1 := blk_frozen BK101.out 1
       have hfz46_2 := blk_frozen BK101.out 2
       have hfz46_3 := blk_frozen BK101.out 3
       have p116 : 0 ≤ (x8_2 : Int) := of_decide_eq_true (by (with_reducible assumption))
       have q116 : x8_2 < (l0_3.length : Int) := of_decide_eq_true (by (with_reducible assumption))
       obtain ⟨ad116, e116, hx116_0, hx116_1, hx116_2, hx116_3, hx116_4, hx116_5, hx116_6⟩ := at_T43 (Kd.V_reads' HO_102003.out).2.2 x8_2 p116 q116
       cases e116
       replace p116 := eq_true p116
       replace q116 := eq_true q116
       go_upto_region 11 with (first | ((with_reducible refine gate_dst (N := 9) rfl ?_); (try (refine gate_guard (by rfl) ?_; dsimp only)); refine box_event ?hg (N := 9) ?hd (cs := #[.int .i64 0, .int .i64 0, .int .i64 0, .int .i64 0, .int .i64 0, .int .i64 0, .int .i64 0]) (t := 43) ?hr ?_; (case hd => rfl); (case hg => rfl); (case hr => (go_simp; done)); intro gb117 hg w47 hbox hb; have n0_ := Aside0.mk (Kd.R_below (by exact HO_7.out) hb); have n1_ := Aside0.mk (Kd.V_below (Kd.V_elderB (by exact HO_102003.out) gb117 (Nat.le_of_eq hg.symm)) hb); have n2_ := Aside0.mk (Kd.V_below (Kd.V_elderB (by exact HO_103005.out) gb117 (Nat.le_of_eq hg.symm)) hb); have n3_ := Aside0.mk (blk_below (g := gb101) (o := .cells #[.string a0_0, .int .i64 a0_1, .int .i64 a0_2, .slice (some ad116) l0_3.length c0_3] 24 (0, 0)) (by exact BK101.out) hb); have n4_ := Aside0.mk (blk_below (g := gb102) (o := .cells #[.int .i64 a1_0, .string a1_1, .string a1_2, .int .i64 a1_3, .int .i64 a1_4, .slice A1_5 l1_5.length c1_5] 29 (0, 0)) (by exact BK102.out) hb); have n5_ := Aside0.mk (below_step HB.out hb); have n6_ := Aside0.mk (hbox); have n8_ := Aside0.mk ((by rw [hg]; exact (below_size HB.out) : w.heap.size ≤ gb117)); have n9_ := Aside0.mk ((by rw [hg]; exact Nat.ne_of_lt (blk_lt (g := gb101) (o := .cells #[.string a0_0, .int .i64 a0_1, .int .i64 a0_2, .slice (some ad116) l0_3.length c0_3] 24 (0, 0)) (by exact BK101.out)) : gb101 ≠ gb117)); have n10_ := Aside0.mk ((by rw [hg]; exact Nat.ne_of_gt (blk_lt (g := gb101) (o := .cells #[.string a0_0, .int .i64 a0_1, .int .i64 a0_2, .slice (some ad116) l0_3.length c0_3] 24 (0, 0)) (by exact BK101.out)) : gb117 ≠ gb101)); have n11_ := Aside0.mk ((by rw [hg]; exact Nat.ne_of_lt (blk_lt (g := gb102) (o := .cells #[.int .i64 a1_0, .string a1_1, .string a1_2, .int .i64 a1_3, .int .i64 a1_4, .slice A1_5 l1_5.length c1_5] 29 (0, 0)) (by exact BK102.out)) : gb102 ≠ gb117)); have n12_ := Aside0.mk ((by rw [hg]; exact Nat.ne_of_gt (blk_lt (g := gb102) (o := .cells #[.int .i64 a1_0, .string a1_1, .string a1_2, .int .i64 a1_3, .int .i64 a1_4, .slice A1_5 l1_5.length c1_5] 29 (0, 0)) (by exact BK102.out)) : gb117 ≠ gb102)); clear HO_7; clear HO_102003; clear HO_103005; clear BK101; clear BK102; clear HB; have HO_7 := n0_; have HO_102003 := n1_; have HO_103005 := n2_; have BK101 := n3_; have BK102 := n4_; have HB := n5_; have BK117 := n6_; have GE117 := n8_; have NB101_117 := n9_; have NB117_101 := n10_; have NB102_117 := n11_; have NB117_102 := n12_; clear n0_ n1_ n2_ n3_ n4_ n5_ n6_ n8_ n9_ n10_ n11_ n12_; clear hb hbox hg; have hnb48 := NB117_101.out; have hnc48 := NB101_117.out; have hnb49 := NB117_102.out; have hnc49 := NB102_117.out; have hcz50_0 := cel_ BK117.out 0 rfl; have hcz50_1 := cel_ BK117.out 1 rfl; have hcz50_2 := cel_ BK117.out 2 rfl; have hcz50_3 := cel_ BK117.out 3 rfl; have hcz50_4 := cel_ BK117.out 4 rfl; have hcz50_5 := cel_ BK117.out 5 rfl; have hcz50_6 := cel_ BK117.out 6 rfl; have hfz50_0 := blk_frozen BK117.out 0; have hfz50_1 := blk_frozen BK117.out 1; have hfz50_2 := blk_frozen BK117.out 2; have hfz50_3 := blk_frozen BK117.out 3; have hfz50_4 := blk_frozen BK117.out 4; have hfz50_5 := blk_frozen BK117.out 5; have hfz50_6 := blk_frozen BK117.out 6))
       go_cut [63] (fun v63 wc => ∃ (kq : Nat) (x63_43 : Bool), v63 = .bool x63_43 ∧ Aside0 (cleanselaw20_MatchEqual.j2 kq t103 t113 x8_2 x63_43 a0_0 a0_1 a0_2 l0_3 a1_0 a1_1 a1_2 a1_3 a1_4 l1_5 ((rd_T43 l0_3 x8_2).f0) ((rd_T43 l0_3 x8_2).f1) ((rd_T43 l0_3 x8_2).f2) ((rd_T43 l0_3 x8_2).f3.f0) ((rd_T43 l0_3 x8_2).f3.f1) ((rd_T43 l0_3 x8_2).f4) ((rd_T43 l0_3 x8_2).f5) = some r) ∧ Aside0 (kq ≤ k2) ∧ Aside0 (Kd.R Kd.bool 4 wc w.heap.size (fun k_ => (w.heap.size ≤ k_)) (.slice Ao39 t113.length co39) t113) ∧ Aside0 (Kd.V k43 43 wc w.heap.size (fun k_ => ((P0_3_ k_ ∨ P1_5_ k_) ∨ w.heap.size ≤ k_) ∧ some k_ ≠ ((.slice Ao39 t113.length co39) : Value).ownBlock ∧ k_ ≠ gb101 ∧ k_ ≠ gb102 ∧ k_ ≠ gb117) (.slice (some ad116) l0_3.length c0_3) l0_3) ∧ Aside0 (Kd.V k50 50 wc w.heap.size (fun k_ => ((P0_3_ k_ ∨ P1_5_ k_) ∨ w.heap.size ≤ k_) ∧ some k_ ≠ ((.slice Ao39 t113.length co39) : Value).ownBlock ∧ k_ ≠ gb101 ∧ k_ ≠ gb102 ∧ k_ ≠ gb117) (.slice A1_5 l1_5.length c1_5) l1_5) ∧ Aside0 (wc.heap[gb101]? = some (.cells #[.string a0_0, .int .i64 a0_1, .int .i64 a0_2, (.slice (some ad116) l0_3.length c0_3)] 24 (0, 0))) ∧ Aside0 (wc.heap[gb102]? = some (.cells #[.int .i64 a1_0, .string a1_1, .string a1_2, .int .i64 a1_3, .int .i64 a1_4, (.slice A1_5 l1_5.length c1_5)] 29 (0, 0))) ∧ Aside0 (wc.heap[gb117]? = some (.cells #[.int .i64 ((rd_T43 l0_3 x8_2).f0), .int .i64 ((rd_T43 l0_3 x8_2).f1), .int .i64 ((rd_T43 l0_3 x8_2).f2), .int .i64 ((rd_T43 l0_3 x8_2).f3.f0), .int .i64 ((rd_T43 l0_3 x8_2).f3.f1), .int .i64 ((rd_T43 l0_3 x8_2).f4), .int .i64 ((rd_T43 l0_3 x8_2).f5)] 43 (0, 0))) ∧ Aside0 (Below w.heap.size w wc))
       case first =>
        have H := HC44.out
        clear HC44
        by_cases c51 : ((rd_T43 l0_3 x8_2).f0) < 0
        ·rw [if_pos c51] at H
         have c51b0 : decide (((rd_T43 l0_3 x8_2).f0) < 0) = true := decide_eq_true c51
         clear c51
         have H' := Aside0.mk H
         clear H
         have hnb52 := NB117_101.out
         have hnc52 := NB101_117.out
         have hnb53 := NB117_102.out
         have hnc53 := NB102_117.out
         have hcz54_0 := cel_ BK117.out 0 rfl
         have hcz54_1 := cel_ BK117.out 1 rfl
         have hcz54_2 := cel_ BK117.out 2 rfl
         have hcz54_3 := cel_ BK117.out 3 rfl
         have hcz54_4 := cel_ BK117.out 4 rfl
         have hcz54_5 := cel_ BK117.out 5 rfl
         have hcz54_6 := cel_ BK117.out 6 rfl
         have hfz54_0 := blk_frozen BK117.out 0
         have hfz54_1 := blk_frozen BK117.out 1
         have hfz54_2 := blk_frozen BK117.out 2
         have hfz54_3 := blk_frozen BK117.out 3
         have hfz54_4 := blk_frozen BK117.out 4
         have hfz54_5 := blk_frozen BK117.out 5
         have hfz54_6 := blk_frozen BK117.out 6
         go_wp2
         go_meet
         case rel => exact ⟨_, (true), (by rfl), H', ⟨by have := HJ3.out; have := HK2.out; omega⟩, ⟨by exact Kd.R_mono (Kd.R_far (p := ⟨gb117, 6, none⟩) (Kd.R_far (p := ⟨gb117, 5, none⟩) (Kd.R_far (p := ⟨gb117, 4, none⟩) (Kd.R_far (p := ⟨gb117, 3, none⟩) (Kd.R_far (p := ⟨gb117, 2, none⟩) (Kd.R_far (p := ⟨gb117, 1, none⟩) (Kd.R_far (p := ⟨gb117, 0, none⟩) (Kd.R_types HO_7.out BK117.out (by decide)) (fun _ hk => hk.2) (.int .i64 ((rd_T43 l0_3 x8_2).f0))) (fun _ hk => hk.2) (.int .i64 ((rd_T43 l0_3 x8_2).f1))) (fun _ hk => hk.2) (.int .i64 ((rd_T43 l0_3 x8_2).f2))) (fun _ hk => hk.2) (.int .i64 ((rd_T43 l0_3 x8_2).f3.f0))) (fun _ hk => hk.2) (.int .i64 ((rd_T43 l0_3 x8_2).f3.f1))) (fun _ hk => hk.2) (.int .i64 ((rd_T43 l0_3 x8_2).f4))) (fun _ hk => hk.2) (.int .i64 ((rd_T43 l0_3 x8_2).f5))) (fun _ hk => hk.1)⟩, ⟨by exact Kd.V_mono (Kd.V_far (p := ⟨gb117, 6, none⟩) (Kd.V_far (p := ⟨gb117, 5, none⟩) (Kd.V_far (p := ⟨gb117, 4, none⟩) (Kd.V_far (p := ⟨gb117, 3, none⟩) (Kd.V_far (p := ⟨gb117, 2, none⟩) (Kd.V_far (p := ⟨gb117, 1, none⟩) (Kd.V_far (p := ⟨gb117, 0, none⟩) (Kd.V_mono HO_102003.out (fun k_ hk => (⟨hk, hk.2⟩ : _ ∧ k_ ≠ gb117))) (fun _ hk => hk.2) (.int .i64 ((rd_T43 l0_3 x8_2).f0))) (fun _ hk => hk.2) (.int .i64 ((rd_T43 l0_3 x8_2).f1))) (fun _ hk => hk.2) (.int .i64 ((rd_T43 l0_3 x8_2).f2))) (fun _ hk => hk.2) (.int .i64 ((rd_T43 l0_3 x8_2).f3.f0))) (fun _ hk => hk.2) (.int .i64 ((rd_T43 l0_3 x8_2).f3.f1))) (fun _ hk => hk.2) (.int .i64 ((rd_T43 l0_3 x8_2).f4))) (fun _ hk => hk.2) (.int .i64 ((rd_T43 l0_3 x8_2).f5))) (fun _ hk => ⟨hk.1.1.1, ⟨hk.1.1.2.1, ⟨hk.1.1.2.2.1, ⟨hk.1.1.2.2.2, hk.1.2⟩⟩⟩⟩)⟩, ⟨by exact Kd.V_mono (Kd.V_far (p := ⟨gb117, 6, none⟩) (Kd.V_far (p := ⟨gb117, 5, none⟩) (Kd.V_far (p := ⟨gb117, 4, none⟩) (Kd.V_far (p := ⟨gb117, 3, none⟩) (Kd.V_far (p := ⟨gb117, 2, none⟩) (Kd.V_far (p := ⟨gb117, 1, none⟩) (Kd.V_far (p := ⟨gb117, 0, none⟩) (Kd.V_mono HO_103005.out (fun k_ hk => (⟨hk, hk.2⟩ : _ ∧ k_ ≠ gb117))) (fun _ hk => hk.2) (.int .i64 ((rd_T43 l0_3 x8_2).f0))) (fun _ hk => hk.2) (.int .i64 ((rd_T43 l0_3 x8_2).f1))) (fun _ hk => hk.2) (.int .i64 ((rd_T43 l0_3 x8_2).f2))) (fun _ hk => hk.2) (.int .i64 ((rd_T43 l0_3 x8_2).f3.f0))) (fun _ hk => hk.2) (.int .i64 ((rd_T43 l0_3 x8_2).f3.f1))) (fun _ hk => hk.2) (.int .i64 ((rd_T43 l0_3 x8_2).f4))) (fun _ hk => hk.2) (.int .i64 ((rd_T43 l0_3 x8_2).f5))) (fun _ hk => ⟨hk.1.1.1, ⟨hk.1.1.2.1, ⟨hk.1.1.2.2.1, ⟨hk.1.1.2.2.2, hk.1.2⟩⟩⟩⟩)⟩, ⟨by refine blk_far ?_ NB101_117.out _; refine blk_far ?_ NB101_117.out _; refine blk_far ?_ NB101_117.out _; refine blk_far ?_ NB101_117.out _; refine blk_far ?_ NB101_117.out _; refine blk_far ?_ NB101_117.out _; refine blk_far ?_ NB101_117.out _; exact BK101.out⟩, ⟨by refine blk_far ?_ NB102_117.out _; refine blk_far ?_ NB102_117.out _; refine blk_far ?_ NB102_117.out _; refine blk_far ?_ NB102_117.out _; refine blk_far ?_ NB102_117.out _; refine blk_far ?_ NB102_117.out _; refine blk_far ?_ NB102_117.out _; exact BK102.out⟩, ⟨by refine blk_put (cs := #[.int .i64 ((rd_T43 l0_3 x8_2).f0), .int .i64 ((rd_T43 l0_3 x8_2).f1), .int .i64 ((rd_T43 l0_3 x8_2).f2), .int .i64 ((rd_T43 l0_3 x8_2).f3.f0), .int .i64 ((rd_T43 l0_3 x8_2).f3.f1), .int .i64 ((rd_T43 l0_3 x8_2).f4), .int .i64 0]) ?_ 6 _ rfl; refine blk_put (cs := #[.int .i64 ((rd_T43 l0_3 x8_2).f0), .int .i64 ((rd_T43 l0_3 x8_2).f1), .int .i64 ((rd_T43 l0_3 x8_2).f2), .int .i64 ((rd_T43 l0_3 x8_2).f3.f0), .int .i64 ((rd_T43 l0_3 x8_2).f3.f1), .int .i64 0, .int .i64 0]) ?_ 5 _ rfl; refine blk_put (cs := #[.int .i64 ((rd_T43 l0_3 x8_2).f0), .int .i64 ((rd_T43 l0_3 x8_2).f1), .int .i64 ((rd_T43 l0_3 x8_2).f2), .int .i64 ((rd_T43 l0_3 x8_2).f3.f0), .int .i64 0, .int .i64 0, .int .i64 0]) ?_ 4 _ rfl; refine blk_put (cs := #[.int .i64 ((rd_T43 l0_3 x8_2).f0), .int .i64 ((rd_T43 l0_3 x8_2).f1), .int .i64 ((rd_T43 l0_3 x8_2).f2), .int .i64 0, .int .i64 0, .int .i64 0, .int .i64 0]) ?_ 3 _ rfl; refine blk_put (cs := #[.int .i64 ((rd_T43 l0_3 x8_2).f0), .int .i64 ((rd_T43 l0_3 x8_2).f1), .int .i64 0, .int .i64 0, .int .i64 0, .int .i64 0, .int .i64 0]) ?_ 2 _ rfl; refine blk_put (cs := #[.int .i64 ((rd_T43 l0_3 x8_2).f0), .int .i64 0, .int .i64 0, .int .i64 0, .int .i64 0, .int .i64 0, .int .i64 0]) ?_ 1 _ rfl; refine blk_put (cs := #[.int .i64 0, .int .i64 0, .int .i64 0, .int .i64 0, .int .i64 0, .int .i64 0, .int .i64 0]) ?_ 0 _ rfl; exact BK117.out⟩, ⟨by repeat ((with_reducible first | exact HB.out | refine below_set ?_ GE117.out))⟩⟩
        rw [if_neg c51] at H
        have c51b0 : decide (((rd_T43 l0_3 x8_2).f0) < 0) = false := decide_eq_false c51
        clear c51
        have H' := Aside0.mk H
        clear H
        have hnb55 := NB117_101.out
        have hnc55 := NB101_117.out
        have hnb56 := NB117_102.out
        have hnc56 := NB102_117.out
        have hcz57_0 := cel_ BK117.out 0 rfl
        have hcz57_1 := cel_ BK117.out 1 rfl
        have hcz57_2 := cel_ BK117.out 2 rfl
        have hcz57_3 := cel_ BK117.out 3 rfl
        have hcz57_4 := cel_ BK117.out 4 rfl
        have hcz57_5 := cel_ BK117.out 5 rfl
        have hcz57_6 := cel_ BK117.out 6 rfl
        have hfz57_0 := blk_frozen BK117.out 0
        have hfz57_1 := blk_frozen BK117.out 1
        have hfz57_2 := blk_frozen BK117.out 2
        have hfz57_3 := blk_frozen BK117.out 3
        have hfz57_4 := blk_frozen BK117.out 4
        have hfz57_5 := blk_frozen BK117.out 5
        have hfz57_6 := blk_frozen BK117.out 6
        have hnb58 := NB102_101.out
        have hnc58 := NB101_102.out
        have hcz59_0 := cel_ BK102.out 0 rfl
        have hcz59_1 := cel_ BK102.out 1 rfl
        have hcz59_2 := cel_ BK102.out 2 rfl
        have hcz59_3 := cel_ BK102.out 3 rfl
        have hcz59_4 := cel_ BK102.out 4 rfl
        have hcz59_5 := cel_ BK102.out 5 rfl
        have hfz59_0 := blk_frozen BK102.out 0
        have hfz59_1 := blk_frozen BK102.out 1
        have hfz59_2 := blk_frozen BK102.out 2
        have hfz59_3 := blk_frozen BK102.out 3
        have hfz59_4 := blk_frozen BK102.out 4
        have hfz59_5 := blk_frozen BK102.out 5
        go_wp2
        go_meet
        case rel => exact ⟨_, (decide (((rd_T43 l0_3 x8_2).f0) ≥ (l1_5.length : Int))), (by rfl), H', ⟨by have := HJ3.out; have := HK2.out; omega⟩, ⟨by exact Kd.R_mono (Kd.R_far (p := ⟨gb117, 6, none⟩) (Kd.R_far (p := ⟨gb117, 5, none⟩) (Kd.R_far (p := ⟨gb117, 4, none⟩) (Kd.R_far (p := ⟨gb117, 3, none⟩) (Kd.R_far (p := ⟨gb117, 2, none⟩) (Kd.R_far (p := ⟨gb117, 1, none⟩) (Kd.R_far (p := ⟨gb117, 0, none⟩) (Kd.R_types HO_7.out BK117.out (by decide)) (fun _ hk => hk.2) (.int .i64 ((rd_T43 l0_3 x8_2).f0))) (fun _ hk => hk.2) (.int .i64 ((rd_T43 l0_3 x8_2).f1))) (fun _ hk => hk.2) (.int .i64 ((rd_T43 l0_3 x8_2).f2))) (fun _ hk => hk.2) (.int .i64 ((rd_T43 l0_3 x8_2).f3.f0))) (fun _ hk => hk.2) (.int .i64 ((rd_T43 l0_3 x8_2).f3.f1))) (fun _ hk => hk.2) (.int .i64 ((rd_T43 l0_3 x8_2).f4))) (fun _ hk => hk.2) (.int .i64 ((rd_T43 l0_3 x8_2).f5))) (fun _ hk => hk.1)⟩, ⟨by exact Kd.V_mono (Kd.V_far (p := ⟨gb117, 6, none⟩) (Kd.V_far (p := ⟨gb117, 5, none⟩) (Kd.V_far (p := ⟨gb117, 4, none⟩) (Kd.V_far (p := ⟨gb117, 3, none⟩) (Kd.V_far (p := ⟨gb117, 2, none⟩) (Kd.V_far (p := ⟨gb117, 1, none⟩) (Kd.V_far (p := ⟨gb117, 0, none⟩) (Kd.V_mono HO_102003.out (fun k_ hk => (⟨hk, hk.2⟩ : _ ∧ k_ ≠ gb117))) (fun _ hk => hk.2) (.int .i64 ((rd_T43 l0_3 x8_2).f0))) (fun _ hk => hk.2) (.int .i64 ((rd_T43 l0_3 x8_2).f1))) (fun _ hk => hk.2) (.int .i64 ((rd_T43 l0_3 x8_2).f2))) (fun _ hk => hk.2) (.int .i64 ((rd_T43 l0_3 x8_2).f3.f0))) (fun _ hk => hk.2) (.int .i64 ((rd_T43 l0_3 x8_2).f3.f1))) (fun _ hk => hk.2) (.int .i64 ((rd_T43 l0_3 x8_2).f4))) (fun _ hk => hk.2) (.int .i64 ((rd_T43 l0_3 x8_2).f5))) (fun _ hk => ⟨hk.1.1.1, ⟨hk.1.1.2.1, ⟨hk.1.1.2.2.1, ⟨hk.1.1.2.2.2, hk.1.2⟩⟩⟩⟩)⟩, ⟨by exact Kd.V_mono (Kd.V_far (p := ⟨gb117, 6, none⟩) (Kd.V_far (p := ⟨gb117, 5, none⟩) (Kd.V_far (p := ⟨gb117, 4, none⟩) (Kd.V_far (p := ⟨gb117, 3, none⟩) (Kd.V_far (p := ⟨gb117, 2, none⟩) (Kd.V_far (p := ⟨gb117, 1, none⟩) (Kd.V_far (p := ⟨gb117, 0, none⟩) (Kd.V_mono HO_103005.out (fun k_ hk => (⟨hk, hk.2⟩ : _ ∧ k_ ≠ gb117))) (fun _ hk => hk.2) (.int .i64 ((rd_T43 l0_3 x8_2).f0))) (fun _ hk => hk.2) (.int .i64 ((rd_T43 l0_3 x8_2).f1))) (fun _ hk => hk.2) (.int .i64 ((rd_T43 l0_3 x8_2).f2))) (fun _ hk => hk.2) (.int .i64 ((rd_T43 l0_3 x8_2).f3.f0))) (fun _ hk => hk.2) (.int .i64 ((rd_T43 l0_3 x8_2).f3.f1))) (fun _ hk => hk.2) (.int .i64 ((rd_T43 l0_3 x8_2).f4))) (fun _ hk => hk.2) (.int .i64 ((rd_T43 l0_3 x8_2).f5))) (fun _ hk => ⟨hk.1.1.1, ⟨hk.1.1.2.1, ⟨hk.1.1.2.2.1, ⟨hk.1.1.2.2.2, hk.1.2⟩⟩⟩⟩)⟩, ⟨by refine blk_far ?_ NB101_117.out _; refine blk_far ?_ NB101_117.out _; refine blk_far ?_ NB101_117.out _; refine blk_far ?_ NB101_117.out _; refine blk_far ?_ NB101_117.out _; refine blk_far ?_ NB101_117.out _; refine blk_far ?_ NB101_117.out _; exact BK101.out⟩, ⟨by refine blk_far ?_ NB102_117.out _; refine blk_far ?_ NB102_117.out _; refine blk_far ?_ NB102_117.out _; refine blk_far ?_ NB102_117.out _; refine blk_far ?_ NB102_117.out _; refine blk_far ?_ NB102_117.out _; refine blk_far ?_ NB102_117.out _; exact BK102.out⟩, ⟨by refine blk_put (cs := #[.int .i64 ((rd_T43 l0_3 x8_2).f0), .int .i64 ((rd_T43 l0_3 x8_2).f1), .int .i64 ((rd_T43 l0_3 x8_2).f2), .int .i64 ((rd_T43 l0_3 x8_2).f3.f0), .int .i64 ((rd_T43 l0_3 x8_2).f3.f1), .int .i64 ((rd_T43 l0_3 x8_2).f4), .int .i64 0]) ?_ 6 _ rfl; refine blk_put (cs := #[.int .i64 ((rd_T43 l0_3 x8_2).f0), .int .i64 ((rd_T43 l0_3 x8_2).f1), .int .i64 ((rd_T43 l0_3 x8_2).f2), .int .i64 ((rd_T43 l0_3 x8_2).f3.f0), .int .i64 ((rd_T43 l0_3 x8_2).f3.f1), .int .i64 0, .int .i64 0]) ?_ 5 _ rfl; refine blk_put (cs := #[.int .i64 ((rd_T43 l0_3 x8_2).f0), .int .i64 ((rd_T43 l0_3 x8_2).f1), .int .i64 ((rd_T43 l0_3 x8_2).f2), .int .i64 ((rd_T43 l0_3 x8_2).f3.f0), .int .i64 0, .int .i64 0, .int .i64 0]) ?_ 4 _ rfl; refine blk_put (cs := #[.int .i64 ((rd_T43 l0_3 x8_2).f0), .int .i64 ((rd_T43 l0_3 x8_2).f1), .int .i64 ((rd_T43 l0_3 x8_2).f2), .int .i64 0, .int .i64 0, .int .i64 0, .int .i64 0]) ?_ 3 _ rfl; refine blk_put (cs := #[.int .i64 ((rd_T43 l0_3 x8_2).f0), .int .i64 ((rd_T43 l0_3 x8_2).f1), .int .i64 0, .int .i64 0, .int .i64 0, .int .i64 0, .int .i64 0]) ?_ 2 _ rfl; refine blk_put (cs := #[.int .i64 ((rd_T43 l0_3 x8_2).f0), .int .i64 0, .int .i64 0, .int .i64 0, .int .i64 0, .int .i64 0, .int .i64 0]) ?_ 1 _ rfl; refine blk_put (cs := #[.int .i64 0, .int .i64 0, .int .i64 0, .int .i64 0, .int .i64 0, .int .i64 0, .int .i64 0]) ?_ 0 _ rfl; exact BK117.out⟩, ⟨by repeat ((with_reducible first | exact HB.out | refine below_set ?_ GE117.out))⟩⟩
       clear HC44
       clear c41b0
       clear c42b0
       clear c43b0
       clear hcz46_0 hcz46_1 hcz46_2 hcz46_3 hcz50_0 hcz50_1 hcz50_2 hcz50_3 hcz50_4 hcz50_5 hcz50_6
       clear hfz46_0 hfz46_1 hfz46_2 hfz46_3 hfz50_0 hfz50_1 hfz50_2 hfz50_3 hfz50_4 hfz50_5 hfz50_6
       clear hx116_0 hx116_1 hx116_2 hx116_3 hx116_4 hx116_5 hx116_6 p116
       clear q116
       obtain ⟨kq, x63_43, rfl, HA, HJ43, HO_7, HO_102003, HO_103005, BK101, BK102, BK117, HB⟩ := hcut
       cases kq with
       | zero => exact absurd HA.out (by simp [cleanselaw20_MatchEqual.j2])
       | succ kj43 =>
        have H := HA.out
        clear HA
        simp only [cleanselaw20_MatchEqual.j2] at H
        by_cases c60 : x63_43 = true
        ·subst c60
         have H1 : (if 0 ≤ x8_2 then (if x8_2 < (t113.length : Int) then (if rdOf false t113 x8_2 = true then (some false) else (cleanselaw20_MatchEqual.l0 kj43 t103 t113 (wrap64 (x8_2 + 1)) a0_0 a0_1 a0_2 l0_3 a1_0 a1_1 a1_2 a1_3 a1_4 l1_5)) else (none)) else (none)) = some r := by rw [if_pos rfl] at H; exact H
         clear H
         have H := H1
         clear H1
         by_cases c61 : 0 ≤ x8_2
         ·rw [if_pos c61] at H
          have c61b0 : decide (0 ≤ x8_2) = true := decide_eq_true c61
          clear c61
          by_cases c62 : x8_2 < (t113.length : Int)
          ·rw [if_pos c62] at H
           have c62b0 : decide (x8_2 < (t113.length : Int)) = true := decide_eq_true c62
           clear c62
           obtain ⟨bq63, hbq63⟩ : ∃ b_ : Bool, b_ = (rdOf false t113 x8_2) := ⟨_, rfl⟩
           replace H : (if bq63 = true then (some false) else (cleanselaw20_MatchEqual.l0 kj43 t103 t113 (wrap64 (x8_2 + 1)) a0_0 a0_1 a0_2 l0_3 a1_0 a1_1 a1_2 a1_3 a1_4 l1_5)) = some r := by rw [← hbq63] at H; exact H
           have Nbq63 := Aside0.mk hbq63
           clear hbq63
           by_cases c64 : bq63 = true
           ·subst c64
            have H1 : (some false) = some r := by rw [if_pos rfl] at H; exact H
            clear H
            have H := H1
            clear H1
            exact absurd ((Option.some.inj H).trans HT.out) (by decide)
           replace c64 := Bool.eq_false_iff.mpr c64
           subst c64
           have H1 : (cleanselaw20_MatchEqual.l0 kj43 t103 t113 (wrap64 (x8_2 + 1)) a0_0 a0_1 a0_2 l0_3 a1_0 a1_1 a1_2 a1_3 a1_4 l1_5) = some r := by rw [if_neg (show ¬ (false = true) by decide)] at H; exact H
           clear H
           have H := H1
           clear H1
           have H' := Aside0.mk H
           clear H
           have p118 : 0 ≤ (x8_2 : Int) := of_decide_eq_true (by (with_reducible assumption))
           have q118 : x8_2 < (t113.length : Int) := of_decide_eq_true (by (with_reducible assumption))
           obtain ⟨ad118, e118, hx118_0⟩ := Kd.at_bool (Kd.R_reads' HO_7.out).2.2 x8_2 p118 q118
           (try rw [← Nbq63.out] at hx118_0)
           cases e118
           replace p118 := eq_true p118
           replace q118 := eq_true q118
           go_wp2
           go_roundg kj43
           case measure => have := HJ3.out; have := HK2.out; have := HJ43.out; omega
           case rel => exact ⟨(wrap64 (x8_2 + 1)), (by rfl), H', ⟨by have := HJ3.out; have := HK2.out; have := HJ43.out; omega⟩, ⟨by exact HO_7.out⟩, ⟨by exact Kd.V_mono HO_102003.out (fun _ hk => ⟨hk.1, ⟨hk.2.1, ⟨hk.2.2.1, hk.2.2.2.1⟩⟩⟩)⟩, ⟨by exact Kd.V_mono HO_103005.out (fun _ hk => ⟨hk.1, ⟨hk.2.1, ⟨hk.2.2.1, hk.2.2.2.1⟩⟩⟩)⟩, ⟨by exact BK101.out⟩, ⟨by exact BK102.out⟩, ⟨by repeat ((with_reducible (exact HB.out)))⟩⟩
          rw [if_neg c62] at H
          exact absurd H (by simp)
         rw [if_neg c61] at H
         exact absurd H (by simp)
        replace c60 := Bool.eq_false_iff.mpr c60
        subst c60
        have H1 : (if 0 ≤ ((rd_T43 l0_3 x8_2).f0) then (if ((rd_T43 l0_3 x8_2).f0) < (l1_5.length : Int) then ((measure_Of.f kj43 1 0 ((rd_T50 l1_5 ((rd_T43 l0_3 x8_2).f0)).f0.f0) ((rd_T50 l1_5 ((rd_T43 l0_3 x8_2).f0)).f0.f1) ((rd_T50 l1_5 ((rd_T43 l0_3 x8_2).f0)).f0.f2) ((rd_T50 l1_5 ((rd_T43 l0_3 x8_2).f0)).f0.f0) ((rd_T50 l1_5 ((rd_T43 l0_3 x8_2).f0)).f0.f1) ((rd_T50 l1_5 ((rd_T43 l0_3 x8_2).f0)).f0.f2)).bind fun bt121 => (if bt121.2.2 = 0 then (cleanselaw20_MatchEqual.j3 kj43 t103 t113 x8_2 (bt121.1 == 1) a0_0 a0_1 a0_2 l0_3 a1_0 a1_1 a1_2 a1_3 a1_4 l1_5 ((rd_T43 l0_3 x8_2).f0) ((rd_T43 l0_3 x8_2).f1) ((rd_T43 l0_3 x8_2).f2) ((rd_T43 l0_3 x8_2).f3.f0) ((rd_T43 l0_3 x8_2).f3.f1) ((rd_T43 l0_3 x8_2).f4) ((rd_T43 l0_3 x8_2).f5) ((rd_T50 l1_5 ((rd_T43 l0_3 x8_2).f0)).f0.f0) ((rd_T50 l1_5 ((rd_T43 l0_3 x8_2).f0)).f0.f1) ((rd_T50 l1_5 ((rd_T43 l0_3 x8_2).f0)).f0.f2)) else (cleanselaw20_MatchEqual.j3 kj43 t103 t113 x8_2 false a0_0 a0_1 a0_2 l0_3 a1_0 a1_1 a1_2 a1_3 a1_4 l1_5 ((rd_T43 l0_3 x8_2).f0) ((rd_T43 l0_3 x8_2).f1) ((rd_T43 l0_3 x8_2).f2) ((rd_T43 l0_3 x8_2).f3.f0) ((rd_T43 l0_3 x8_2).f3.f1) ((rd_T43 l0_3 x8_2).f4) ((rd_T43 l0_3 x8_2).f5) ((rd_T50 l1_5 ((rd_T43 l0_3 x8_2).f0)).f0.f0) ((rd_T50 l1_5 ((rd_T43 l0_3 x8_2).f0)).f0.f1) ((rd_T50 l1_5 ((rd_T43 l0_3 x8_2).f0)).f0.f2)))) else (none)) else (none)) = some r := by rw [if_neg (show ¬ (false = true) by decide)] at H; exact H
        clear H
        have H := H1
        clear H1
        by_cases c65 : 0 ≤ ((rd_T43 l0_3 x8_2).f0)
        ·rw [if_pos c65] at H
         have c65b0 : decide (0 ≤ ((rd_T43 l0_3 x8_2).f0)) = true := decide_eq_true c65
         clear c65
         by_cases c66 : ((rd_T43 l0_3 x8_2).f0) < (l1_5.length : Int)
         ·rw [if_pos c66] at H
          have c66b0 : decide (((rd_T43 l0_3 x8_2).f0) < (l1_5.length : Int)) = true := decide_eq_true c66
          clear c66
          replace H := Option.bind_eq_some_iff.mp H
          obtain ⟨⟨t121, t122, t123⟩, A670, H⟩ := H
          replace H : (if t123 = 0 then (cleanselaw20_MatchEqual.j3 kj43 t103 t113 x8_2 (t121 == 1) a0_0 a0_1 a0_2 l0_3 a1_0 a1_1 a1_2 a1_3 a1_4 l1_5 ((rd_T43 l0_3 x8_2).f0) ((rd_T43 l0_3 x8_2).f1) ((rd_T43 l0_3 x8_2).f2) ((rd_T43 l0_3 x8_2).f3.f0) ((rd_T43 l0_3 x8_2).f3.f1) ((rd_T43 l0_3 x8_2).f4) ((rd_T43 l0_3 x8_2).f5) ((rd_T50 l1_5 ((rd_T43 l0_3 x8_2).f0)).f0.f0) ((rd_T50 l1_5 ((rd_T43 l0_3 x8_2).f0)).f0.f1) ((rd_T50 l1_5 ((rd_T43 l0_3 x8_2).f0)).f0.f2)) else (cleanselaw20_MatchEqual.j3 kj43 t103 t113 x8_2 false a0_0 a0_1 a0_2 l0_3 a1_0 a1_1 a1_2 a1_3 a1_4 l1_5 ((rd_T43 l0_3 x8_2).f0) ((rd_T43 l0_3 x8_2).f1) ((rd_T43 l0_3 x8_2).f2) ((rd_T43 l0_3 x8_2).f3.f0) ((rd_T43 l0_3 x8_2).f3.f1) ((rd_T43 l0_3 x8_2).f4) ((rd_T43 l0_3 x8_2).f5) ((rd_T50 l1_5 ((rd_T43 l0_3 x8_2).f0)).f0.f0) ((rd_T50 l1_5 ((rd_T43 l0_3 x8_2).f0)).f0.f1) ((rd_T50 l1_5 ((rd_T43 l0_3 x8_2).f0)).f0.f2))) = some r := H
          have A67 := Aside0.mk A670
          clear A670
          have HC68 := Aside0.mk H
          clear H
          have hnb69 := NB102_101.out
          have hnc69 := NB101_102.out
          have hnb70 := NB102_117.out
          have hnc70 := NB117_102.out
          have hcz71_0 := cel_ BK102.out 0 rfl
          have hcz71_1 := cel_ BK102.out 1 rfl
          have hcz71_2 := cel_ BK102.out 2 rfl
          have hcz71_3 := cel_ BK102.out 3 rfl
          have hcz71_4 := cel_ BK102.out 4 rfl
          have hcz71_5 := cel_ BK102.out 5 rfl
          have hfz71_0 := blk_frozen BK102.out 0
          have hfz71_1 := blk_frozen BK102.out 1
          have hfz71_2 := blk_frozen BK102.out 2
          have hfz71_3 := blk_frozen BK102.out 3
          have hfz71_4 := blk_frozen BK102.out 4
          have hfz71_5 := blk_frozen BK102.out 5
          have hnb72 := NB117_101.out
          have hnc72 := NB101_117.out
          have hcz73_0 := cel_ BK117.out 0 rfl
          have hcz73_1 := cel_ BK117.out 1 rfl
          have hcz73_2 := cel_ BK117.out 2 rfl
          have hcz73_3 := cel_ BK117.out 3 rfl
          have hcz73_4 := cel_ BK117.out 4 rfl
          have hcz73_5 := cel_ BK117.out 5 rfl
          have hcz73_6 := cel_ BK117.out 6 rfl
          have hfz73_0 := blk_frozen BK117.out 0
          have hfz73_1 := blk_frozen BK117.out 1
          have hfz73_2 := blk_frozen BK117.out 2
          have hfz73_3 := blk_frozen BK117.out 3
          have hfz73_4 := blk_frozen BK117.out 4
          have hfz73_5 := blk_frozen BK117.out 5
          have hfz73_6 := blk_frozen BK117.out 6
          have p119 : 0 ≤ (((rd_T43 l0_3 x8_2).f0) : Int) := of_decide_eq_true (by (with_reducible assumption))
          have q119 : ((rd_T43 l0_3 x8_2).f0) < (l1_5.length : Int) := of_decide_eq_true (by (with_reducible assumption))
          obtain ⟨ad119, e119, hx119_0, hx119_1, hx119_2, hx119_3, hx119_4⟩ := at_T50 (Kd.V_reads' HO_103005.out).2.2 ((rd_T43 l0_3 x8_2).f0) p119 q119
          cases e119
          replace p119 := eq_true p119
          replace q119 := eq_true q119
          go_upto_region 16 with (first | ((with_reducible refine gate_dst (N := 10) rfl ?_); (try (refine gate_guard (by rfl) ?_; dsimp only)); refine box_event ?hg (N := 10) ?hd (cs := #[.int .i64 0, .int .i64 0, .string (⟨#[]⟩ : ByteArray)]) (t := 48) ?hr ?_; (case hd => rfl); (case hg => rfl); (case hr => (go_simp; done)); intro gb120 hg w74 hbox hb; have n0_ := Aside0.mk (Kd.R_below (by exact HO_7.out) hb); have n1_ := Aside0.mk (Kd.V_below (Kd.V_elderB (by exact HO_102003.out) gb120 (Nat.le_of_eq hg.symm)) hb); have n2_ := Aside0.mk (Kd.V_below (Kd.V_elderB (by exact HO_103005.out) gb120 (Nat.le_of_eq hg.symm)) hb); have n3_ := Aside0.mk (blk_below (g := gb101) (o := .cells #[.string a0_0, .int .i64 a0_1, .int .i64 a0_2, .slice (some ad116) l0_3.length c0_3] 24 (0, 0)) (by exact BK101.out) hb); have n4_ := Aside0.mk (blk_below (g := gb102) (o := .cells #[.int .i64 a1_0, .string a1_1, .string a1_2, .int .i64 a1_3, .int .i64 a1_4, .slice (some ad119) l1_5.length c1_5] 29 (0, 0)) (by exact BK102.out) hb); have n5_ := Aside0.mk (blk_below (g := gb117) (o := .cells #[.int .i64 ((rd_T43 l0_3 x8_2).f0), .int .i64 ((rd_T43 l0_3 x8_2).f1), .int .i64 ((rd_T43 l0_3 x8_2).f2), .int .i64 ((rd_T43 l0_3 x8_2).f3.f0), .int .i64 ((rd_T43 l0_3 x8_2).f3.f1), .int .i64 ((rd_T43 l0_3 x8_2).f4), .int .i64 ((rd_T43 l0_3 x8_2).f5)] 43 (0, 0)) (by exact BK117.out) hb); have n6_ := Aside0.mk (below_step HB.out hb); have n7_ := Aside0.mk (hbox); have n9_ := Aside0.mk ((by rw [hg]; exact (below_size HB.out) : w.heap.size ≤ gb120)); have n10_ := Aside0.mk ((by rw [hg]; exact Nat.ne_of_lt (blk_lt (g := gb101) (o := .cells #[.string a0_0, .int .i64 a0_1, .int .i64 a0_2, .slice (some ad116) l0_3.length c0_3] 24 (0, 0)) (by exact BK101.out)) : gb101 ≠ gb120)); have n11_ := Aside0.mk ((by rw [hg]; exact Nat.ne_of_gt (blk_lt (g := gb101) (o := .cells #[.string a0_0, .int .i64 a0_1, .int .i64 a0_2, .slice (some ad116) l0_3.length c0_3] 24 (0, 0)) (by exact BK101.out)) : gb120 ≠ gb101)); have n12_ := Aside0.mk ((by rw [hg]; exact Nat.ne_of_lt (blk_lt (g := gb102) (o := .cells #[.int .i64 a1_0, .string a1_1, .string a1_2, .int .i64 a1_3, .int .i64 a1_4, .slice (some ad119) l1_5.length c1_5] 29 (0, 0)) (by exact BK102.out)) : gb102 ≠ gb120)); have n13_ := Aside0.mk ((by rw [hg]; exact Nat.ne_of_gt (blk_lt (g := gb102) (o := .cells #[.int .i64 a1_0, .string a1_1, .string a1_2, .int .i64 a1_3, .int .i64 a1_4, .slice (some ad119) l1_5.length c1_5] 29 (0, 0)) (by exact BK102.out)) : gb120 ≠ gb102)); have n14_ := Aside0.mk ((by rw [hg]; exact Nat.ne_of_lt (blk_lt (g := gb117) (o := .cells #[.int .i64 ((rd_T43 l0_3 x8_2).f0), .int .i64 ((rd_T43 l0_3 x8_2).f1), .int .i64 ((rd_T43 l0_3 x8_2).f2), .int .i64 ((rd_T43 l0_3 x8_2).f3.f0), .int .i64 ((rd_T43 l0_3 x8_2).f3.f1), .int .i64 ((rd_T43 l0_3 x8_2).f4), .int .i64 ((rd_T43 l0_3 x8_2).f5)] 43 (0, 0)) (by exact BK117.out)) : gb117 ≠ gb120)); have n15_ := Aside0.mk ((by rw [hg]; exact Nat.ne_of_gt (blk_lt (g := gb117) (o := .cells #[.int .i64 ((rd_T43 l0_3 x8_2).f0), .int .i64 ((rd_T43 l0_3 x8_2).f1), .int .i64 ((rd_T43 l0_3 x8_2).f2), .int .i64 ((rd_T43 l0_3 x8_2).f3.f0), .int .i64 ((rd_T43 l0_3 x8_2).f3.f1), .int .i64 ((rd_T43 l0_3 x8_2).f4), .int .i64 ((rd_T43 l0_3 x8_2).f5)] 43 (0, 0)) (by exact BK117.out)) : gb120 ≠ gb117)); clear HO_7; clear HO_102003; clear HO_103005; clear BK101; clear BK102; clear BK117; clear HB; have HO_7 := n0_; have HO_102003 := n1_; have HO_103005 := n2_; have BK101 := n3_; have BK102 := n4_; have BK117 := n5_; have HB := n6_; have BK120 := n7_; have GE120 := n9_; have NB101_120 := n10_; have NB120_101 := n11_; have NB102_120 := n12_; have NB120_102 := n13_; have NB117_120 := n14_; have NB120_117 := n15_; clear n0_ n1_ n2_ n3_ n4_ n5_ n6_ n7_ n9_ n10_ n11_ n12_ n13_ n14_ n15_; clear hb hbox hg; have hnb75 := NB120_101.out; have hnc75 := NB101_120.out; have hnb76 := NB120_102.out; have hnc76 := NB102_120.out; have hnb77 := NB120_117.out; have hnc77 := NB117_120.out; have hcz78_0 := cel_ BK120.out 0 rfl; have hcz78_1 := cel_ BK120.out 1 rfl; have hcz78_2 := cel_ BK120.out 2 rfl; have hfz78_0 := blk_frozen BK120.out 0; have hfz78_1 := blk_frozen BK120.out 1; have hfz78_2 := blk_frozen BK120.out 2) | ((with_reducible refine gate_callee (f := 15) rfl ?_); refine goesL_ (some 78) rfl rfl Tryd.func15 (by kernel_rfl) rfl #[.int .i64 1, .int .i64 0, .agg #[.int .i64 ((rd_T50 l1_5 ((rd_T43 l0_3 x8_2).f0)).f0.f0), .int .i64 ((rd_T50 l1_5 ((rd_T43 l0_3 x8_2).f0)).f0.f1), .string ((rd_T50 l1_5 ((rd_T43 l0_3 x8_2).f0)).f0.f2)], .agg #[.int .i64 ((rd_T50 l1_5 ((rd_T43 l0_3 x8_2).f0)).f0.f0), .int .i64 ((rd_T50 l1_5 ((rd_T43 l0_3 x8_2).f0)).f0.f1), .string ((rd_T50 l1_5 ((rd_T43 l0_3 x8_2).f0)).f0.f2)]] rfl (by (try simp only [List.map_toArray, List.map_cons, List.map_nil]); rfl) ?_; (with_reducible refine (measure_Of.calls kj43 1 0 ((rd_T50 l1_5 ((rd_T43 l0_3 x8_2).f0)).f0.f0) ((rd_T50 l1_5 ((rd_T43 l0_3 x8_2).f0)).f0.f1) ((rd_T50 l1_5 ((rd_T43 l0_3 x8_2).f0)).f0.f2) ((rd_T50 l1_5 ((rd_T43 l0_3 x8_2).f0)).f0.f0) ((rd_T50 l1_5 ((rd_T43 l0_3 x8_2).f0)).f0.f1) ((rd_T50 l1_5 ((rd_T43 l0_3 x8_2).f0)).f0.f2) t121 t122 t123 _ ?sGl A67.out).mono ?_); (case sGl => exact Gl.below HGl.out (by repeat ((with_reducible first | exact HB.out | refine below_set ?_ (Aside0.out (by assumption)))))); rintro e w79 ⟨rfl, hb⟩; refine ⟨_, rfl, ?_⟩; have n0_ := Aside0.mk (Kd.R_below (by exact (Kd.R_mono (Kd.R_far (p := ⟨gb120, 2, none⟩) (Kd.R_far (p := ⟨gb120, 1, none⟩) (Kd.R_far (p := ⟨gb120, 0, none⟩) (Kd.R_types HO_7.out BK120.out (by decide)) (fun _ hk => hk.2) (.int .i64 ((rd_T50 l1_5 ((rd_T43 l0_3 x8_2).f0)).f0.f0))) (fun _ hk => hk.2) (.int .i64 ((rd_T50 l1_5 ((rd_T43 l0_3 x8_2).f0)).f0.f1))) (fun _ hk => hk.2) (.string ((rd_T50 l1_5 ((rd_T43 l0_3 x8_2).f0)).f0.f2))) (fun _ h_ => h_.1))) hb); have n1_ := Aside0.mk (Kd.V_below (by exact (Kd.V_mono (Kd.V_far (p := ⟨gb120, 2, none⟩) (Kd.V_far (p := ⟨gb120, 1, none⟩) (Kd.V_far (p := ⟨gb120, 0, none⟩) (Kd.V_mono HO_102003.out (fun k_ hk => (⟨hk, hk.2⟩ : _ ∧ k_ ≠ gb120))) (fun _ hk => hk.2) (.int .i64 ((rd_T50 l1_5 ((rd_T43 l0_3 x8_2).f0)).f0.f0))) (fun _ hk => hk.2) (.int .i64 ((rd_T50 l1_5 ((rd_T43 l0_3 x8_2).f0)).f0.f1))) (fun _ hk => hk.2) (.string ((rd_T50 l1_5 ((rd_T43 l0_3 x8_2).f0)).f0.f2))) (fun _ h_ => h_.1))) hb); have n2_ := Aside0.mk (Kd.V_below (by exact (Kd.V_mono (Kd.V_far (p := ⟨gb120, 2, none⟩) (Kd.V_far (p := ⟨gb120, 1, none⟩) (Kd.V_far (p := ⟨gb120, 0, none⟩) (Kd.V_mono HO_103005.out (fun k_ hk => (⟨hk, hk.2⟩ : _ ∧ k_ ≠ gb120))) (fun _ hk => hk.2) (.int .i64 ((rd_T50 l1_5 ((rd_T43 l0_3 x8_2).f0)).f0.f0))) (fun _ hk => hk.2) (.int .i64 ((rd_T50 l1_5 ((rd_T43 l0_3 x8_2).f0)).f0.f1))) (fun _ hk => hk.2) (.string ((rd_T50 l1_5 ((rd_T43 l0_3 x8_2).f0)).f0.f2))) (fun _ h_ => h_.1))) hb); have n3_ := Aside0.mk (blk_below (g := gb101) (o := .cells #[.string a0_0, .int .i64 a0_1, .int .i64 a0_2, .slice (some ad116) l0_3.length c0_3] 24 (0, 0)) (by refine blk_far ?_ NB101_120.out _; refine blk_far ?_ NB101_120.out _; refine blk_far ?_ NB101_120.out _; exact BK101.out) hb); have n4_ := Aside0.mk (blk_below (g := gb102) (o := .cells #[.int .i64 a1_0, .string a1_1, .string a1_2, .int .i64 a1_3, .int .i64 a1_4, .slice (some ad119) l1_5.length c1_5] 29 (0, 0)) (by refine blk_far ?_ NB102_120.out _; refine blk_far ?_ NB102_120.out _; refine blk_far ?_ NB102_120.out _; exact BK102.out) hb); have n5_ := Aside0.mk (blk_below (g := gb117) (o := .cells #[.int .i64 ((rd_T43 l0_3 x8_2).f0), .int .i64 ((rd_T43 l0_3 x8_2).f1), .int .i64 ((rd_T43 l0_3 x8_2).f2), .int .i64 ((rd_T43 l0_3 x8_2).f3.f0), .int .i64 ((rd_T43 l0_3 x8_2).f3.f1), .int .i64 ((rd_T43 l0_3 x8_2).f4), .int .i64 ((rd_T43 l0_3 x8_2).f5)] 43 (0, 0)) (by refine blk_far ?_ NB117_120.out _; refine blk_far ?_ NB117_120.out _; refine blk_far ?_ NB117_120.out _; exact BK117.out) hb); have n6_ := Aside0.mk (blk_below (g := gb120) (o := .cells #[.int .i64 ((rd_T50 l1_5 ((rd_T43 l0_3 x8_2).f0)).f0.f0), .int .i64 ((rd_T50 l1_5 ((rd_T43 l0_3 x8_2).f0)).f0.f1), .string ((rd_T50 l1_5 ((rd_T43 l0_3 x8_2).f0)).f0.f2)] 48 (0, 0)) (by refine blk_put (cs := #[.int .i64 ((rd_T50 l1_5 ((rd_T43 l0_3 x8_2).f0)).f0.f0), .int .i64 ((rd_T50 l1_5 ((rd_T43 l0_3 x8_2).f0)).f0.f1), .string (⟨#[]⟩ : ByteArray)]) ?_ 2 _ rfl; refine blk_put (cs := #[.int .i64 ((rd_T50 l1_5 ((rd_T43 l0_3 x8_2).f0)).f0.f0), .int .i64 0, .string (⟨#[]⟩ : ByteArray)]) ?_ 1 _ rfl; refine blk_put (cs := #[.int .i64 0, .int .i64 0, .string (⟨#[]⟩ : ByteArray)]) ?_ 0 _ rfl; exact BK120.out) hb); have n7_ := Aside0.mk (below_step (by repeat ((with_reducible first | exact HB.out | refine below_set ?_ GE120.out))) hb); clear HO_7; clear HO_102003; clear HO_103005; clear BK101; clear BK102; clear BK117; clear BK120; clear HB; have HO_7 := n0_; have HO_102003 := n1_; have HO_103005 := n2_; have BK101 := n3_; have BK102 := n4_; have BK117 := n5_; have BK120 := n6_; have HB := n7_; clear n0_ n1_ n2_ n3_ n4_ n5_ n6_ n7_; (try clear hb)) | ((with_reducible refine gate_dst (N := 11) rfl ?_); (try (refine gate_guard (by rfl) ?_; dsimp only)); refine box_event ?hg (N := 11) ?hd (cs := #[.int .i64 0, .int .i64 0]) (t := 41) ?hr ?_; (case hd => rfl); (case hg => rfl); (case hr => (go_simp; done)); intro gb124 hg w80 hbox hb; have n0_ := Aside0.mk (Kd.R_below (by exact HO_7.out) hb); have n1_ := Aside0.mk (Kd.V_below (Kd.V_elderB (by exact HO_102003.out) gb124 (Nat.le_of_eq hg.symm)) hb); have n2_ := Aside0.mk (Kd.V_below (Kd.V_elderB (by exact HO_103005.out) gb124 (Nat.le_of_eq hg.symm)) hb); have n3_ := Aside0.mk (blk_below (g := gb101) (o := .cells #[.string a0_0, .int .i64 a0_1, .int .i64 a0_2, .slice (some ad116) l0_3.length c0_3] 24 (0, 0)) (by exact BK101.out) hb); have n4_ := Aside0.mk (blk_below (g := gb102) (o := .cells #[.int .i64 a1_0, .string a1_1, .string a1_2, .int .i64 a1_3, .int .i64 a1_4, .slice (some ad119) l1_5.length c1_5] 29 (0, 0)) (by exact BK102.out) hb); have n5_ := Aside0.mk (blk_below (g := gb117) (o := .cells #[.int .i64 ((rd_T43 l0_3 x8_2).f0), .int .i64 ((rd_T43 l0_3 x8_2).f1), .int .i64 ((rd_T43 l0_3 x8_2).f2), .int .i64 ((rd_T43 l0_3 x8_2).f3.f0), .int .i64 ((rd_T43 l0_3 x8_2).f3.f1), .int .i64 ((rd_T43 l0_3 x8_2).f4), .int .i64 ((rd_T43 l0_3 x8_2).f5)] 43 (0, 0)) (by exact BK117.out) hb); have n6_ := Aside0.mk (blk_below (g := gb120) (o := .cells #[.int .i64 ((rd_T50 l1_5 ((rd_T43 l0_3 x8_2).f0)).f0.f0), .int .i64 ((rd_T50 l1_5 ((rd_T43 l0_3 x8_2).f0)).f0.f1), .string ((rd_T50 l1_5 ((rd_T43 l0_3 x8_2).f0)).f0.f2)] 48 (0, 0)) (by exact BK120.out) hb); have n7_ := Aside0.mk (below_step HB.out hb); have n8_ := Aside0.mk (hbox); have n10_ := Aside0.mk ((by rw [hg]; exact (below_size HB.out) : w.heap.size ≤ gb124)); have n11_ := Aside0.mk ((by rw [hg]; exact Nat.ne_of_lt (blk_lt (g := gb101) (o := .cells #[.string a0_0, .int .i64 a0_1, .int .i64 a0_2, .slice (some ad116) l0_3.length c0_3] 24 (0, 0)) (by exact BK101.out)) : gb101 ≠ gb124)); have n12_ := Aside0.mk ((by rw [hg]; exact Nat.ne_of_gt (blk_lt (g := gb101) (o := .cells #[.string a0_0, .int .i64 a0_1, .int .i64 a0_2, .slice (some ad116) l0_3.length c0_3] 24 (0, 0)) (by exact BK101.out)) : gb124 ≠ gb101)); have n13_ := Aside0.mk ((by rw [hg]; exact Nat.ne_of_lt (blk_lt (g := gb102) (o := .cells #[.int .i64 a1_0, .string a1_1, .string a1_2, .int .i64 a1_3, .int .i64 a1_4, .slice (some ad119) l1_5.length c1_5] 29 (0, 0)) (by exact BK102.out)) : gb102 ≠ gb124)); have n14_ := Aside0.mk ((by rw [hg]; exact Nat.ne_of_gt (blk_lt (g := gb102) (o := .cells #[.int .i64 a1_0, .string a1_1, .string a1_2, .int .i64 a1_3, .int .i64 a1_4, .slice (some ad119) l1_5.length c1_5] 29 (0, 0)) (by exact BK102.out)) : gb124 ≠ gb102)); have n15_ := Aside0.mk ((by rw [hg]; exact Nat.ne_of_lt (blk_lt (g := gb117) (o := .cells #[.int .i64 ((rd_T43 l0_3 x8_2).f0), .int .i64 ((rd_T43 l0_3 x8_2).f1), .int .i64 ((rd_T43 l0_3 x8_2).f2), .int .i64 ((rd_T43 l0_3 x8_2).f3.f0), .int .i64 ((rd_T43 l0_3 x8_2).f3.f1), .int .i64 ((rd_T43 l0_3 x8_2).f4), .int .i64 ((rd_T43 l0_3 x8_2).f5)] 43 (0, 0)) (by exact BK117.out)) : gb117 ≠ gb124)); have n16_ := Aside0.mk ((by rw [hg]; exact Nat.ne_of_gt (blk_lt (g := gb117) (o := .cells #[.int .i64 ((rd_T43 l0_3 x8_2).f0), .int .i64 ((rd_T43 l0_3 x8_2).f1), .int .i64 ((rd_T43 l0_3 x8_2).f2), .int .i64 ((rd_T43 l0_3 x8_2).f3.f0), .int .i64 ((rd_T43 l0_3 x8_2).f3.f1), .int .i64 ((rd_T43 l0_3 x8_2).f4), .int .i64 ((rd_T43 l0_3 x8_2).f5)] 43 (0, 0)) (by exact BK117.out)) : gb124 ≠ gb117)); have n17_ := Aside0.mk ((by rw [hg]; exact Nat.ne_of_lt (blk_lt (g := gb120) (o := .cells #[.int .i64 ((rd_T50 l1_5 ((rd_T43 l0_3 x8_2).f0)).f0.f0), .int .i64 ((rd_T50 l1_5 ((rd_T43 l0_3 x8_2).f0)).f0.f1), .string ((rd_T50 l1_5 ((rd_T43 l0_3 x8_2).f0)).f0.f2)] 48 (0, 0)) (by exact BK120.out)) : gb120 ≠ gb124)); have n18_ := Aside0.mk ((by rw [hg]; exact Nat.ne_of_gt (blk_lt (g := gb120) (o := .cells #[.int .i64 ((rd_T50 l1_5 ((rd_T43 l0_3 x8_2).f0)).f0.f0), .int .i64 ((rd_T50 l1_5 ((rd_T43 l0_3 x8_2).f0)).f0.f1), .string ((rd_T50 l1_5 ((rd_T43 l0_3 x8_2).f0)).f0.f2)] 48 (0, 0)) (by exact BK120.out)) : gb124 ≠ gb120)); clear HO_7; clear HO_102003; clear HO_103005; clear BK101; clear BK102; clear BK117; clear BK120; clear HB; have HO_7 := n0_; have HO_102003 := n1_; have HO_103005 := n2_; have BK101 := n3_; have BK102 := n4_; have BK117 := n5_; have BK120 := n6_; have HB := n7_; have BK124 := n8_; have GE124 := n10_; have NB101_124 := n11_; have NB124_101 := n12_; have NB102_124 := n13_; have NB124_102 := n14_; have NB117_124 := n15_; have NB124_117 := n16_; have NB120_124 := n17_; have NB124_120 := n18_; clear n0_ n1_ n2_ n3_ n4_ n5_ n6_ n7_ n8_ n10_ n11_ n12_ n13_ n14_ n15_ n16_ n17_ n18_; clear hb hbox hg; have hnb81 := NB124_101.out; have hnc81 := NB101_124.out; have hnb82 := NB124_102.out; have hnc82 := NB102_124.out; have hnb83 := NB124_117.out; have hnc83 := NB117_124.out; have hnb84 := NB124_120.out; have hnc84 := NB120_124.out; have hcz85_0 := cel_ BK124.out 0 rfl; have hcz85_1 := cel_ BK124.out 1 rfl; have hfz85_0 := blk_frozen BK124.out 0; have hfz85_1 := blk_frozen BK124.out 1))
          go_cut [13] (fun v13 wc => ∃ (kq : Nat) (x13_67 : Bool), v13 = .bool x13_67 ∧ Aside0 (cleanselaw20_MatchEqual.j3 kq t103 t113 x8_2 x13_67 a0_0 a0_1 a0_2 l0_3 a1_0 a1_1 a1_2 a1_3 a1_4 l1_5 ((rd_T43 l0_3 x8_2).f0) ((rd_T43 l0_3 x8_2).f1) ((rd_T43 l0_3 x8_2).f2) ((rd_T43 l0_3 x8_2).f3.f0) ((rd_T43 l0_3 x8_2).f3.f1) ((rd_T43 l0_3 x8_2).f4) ((rd_T43 l0_3 x8_2).f5) ((rd_T50 l1_5 ((rd_T43 l0_3 x8_2).f0)).f0.f0) ((rd_T50 l1_5 ((rd_T43 l0_3 x8_2).f0)).f0.f1) ((rd_T50 l1_5 ((rd_T43 l0_3 x8_2).f0)).f0.f2) = some r) ∧ Aside0 (kq ≤ kj43) ∧ Aside0 (Kd.R Kd.bool 4 wc w.heap.size (fun k_ => (w.heap.size ≤ k_)) (.slice Ao39 t113.length co39) t113) ∧ Aside0 (Kd.V k43 43 wc w.heap.size (fun k_ => ((P0_3_ k_ ∨ P1_5_ k_) ∨ w.heap.size ≤ k_) ∧ some k_ ≠ ((.slice Ao39 t113.length co39) : Value).ownBlock ∧ k_ ≠ gb101 ∧ k_ ≠ gb102 ∧ k_ ≠ gb117 ∧ k_ ≠ gb120 ∧ k_ ≠ gb124) (.slice (some ad116) l0_3.length c0_3) l0_3) ∧ Aside0 (Kd.V k50 50 wc w.heap.size (fun k_ => ((P0_3_ k_ ∨ P1_5_ k_) ∨ w.heap.size ≤ k_) ∧ some k_ ≠ ((.slice Ao39 t113.length co39) : Value).ownBlock ∧ k_ ≠ gb101 ∧ k_ ≠ gb102 ∧ k_ ≠ gb117 ∧ k_ ≠ gb120 ∧ k_ ≠ gb124) (.slice (some ad119) l1_5.length c1_5) l1_5) ∧ Aside0 (wc.heap[gb101]? = some (.cells #[.string a0_0, .int .i64 a0_1, .int .i64 a0_2, (.slice (some ad116) l0_3.length c0_3)] 24 (0, 0))) ∧ Aside0 (wc.heap[gb102]? = some (.cells #[.int .i64 a1_0, .string a1_1, .string a1_2, .int .i64 a1_3, .int .i64 a1_4, (.slice (some ad119) l1_5.length c1_5)] 29 (0, 0))) ∧ Aside0 (wc.heap[gb117]? = some (.cells #[.int .i64 ((rd_T43 l0_3 x8_2).f0), .int .i64 ((rd_T43 l0_3 x8_2).f1), .int .i64 ((rd_T43 l0_3 x8_2).f2), .int .i64 ((rd_T43 l0_3 x8_2).f3.f0), .int .i64 ((rd_T43 l0_3 x8_2).f3.f1), .int .i64 ((rd_T43 l0_3 x8_2).f4), .int .i64 ((rd_T43 l0_3 x8_2).f5)] 43 (0, 0))) ∧ Aside0 (wc.heap[gb120]? = some (.cells #[.int .i64 ((rd_T50 l1_5 ((rd_T43 l0_3 x8_2).f0)).f0.f0), .int .i64 ((rd_T50 l1_5 ((rd_T43 l0_3 x8_2).f0)).f0.f1), .string ((rd_T50 l1_5 ((rd_T43 l0_3 x8_2).f0)).f0.f2)] 48 (0, 0))) ∧ Aside0 (wc.heap[gb124]? = some (.cells #[.int .i64 t121, .int .i64 t122] 41 (0, 0))) ∧ Aside0 (Below w.heap.size w wc))
          case first =>
           have H := HC68.out
           clear HC68
           by_cases c86 : t123 = 0
           ·rw [if_pos c86] at H
            have c86b0 : (t123 == 0) = true := beq_iff_eq.mpr c86
            have c86b1 : (t123 != 0) = false := bne_eq_false_iff_eq.mpr c86
            clear c86
            have H' := Aside0.mk H
            clear H
            have hnb87 := NB124_101.out
            have hnc87 := NB101_124.out
            have hnb88 := NB124_102.out
            have hnc88 := NB102_124.out
            have hnb89 := NB124_117.out
            have hnc89 := NB117_124.out
            have hnb90 := NB124_120.out
            have hnc90 := NB120_124.out
            have hcz91_0 := cel_ BK124.out 0 rfl
            have hcz91_1 := cel_ BK124.out 1 rfl
            have hfz91_0 := blk_frozen BK124.out 0
            have hfz91_1 := blk_frozen BK124.out 1
            go_wp2
            go_meet
            case rel => exact ⟨_, ((t121 == 1)), (by rfl), H', ⟨by have := HJ3.out; have := HK2.out; have := HJ43.out; omega⟩, ⟨by exact Kd.R_mono (Kd.R_far (p := ⟨gb124, 1, none⟩) (Kd.R_far (p := ⟨gb124, 0, none⟩) (Kd.R_types HO_7.out BK124.out (by decide)) (fun _ hk => hk.2) (.int .i64 t121)) (fun _ hk => hk.2) (.int .i64 t122)) (fun _ hk => hk.1)⟩, ⟨by exact Kd.V_mono (Kd.V_far (p := ⟨gb124, 1, none⟩) (Kd.V_far (p := ⟨gb124, 0, none⟩) (Kd.V_mono HO_102003.out (fun k_ hk => (⟨hk, hk.2⟩ : _ ∧ k_ ≠ gb124))) (fun _ hk => hk.2) (.int .i64 t121)) (fun _ hk => hk.2) (.int .i64 t122)) (fun _ hk => ⟨hk.1.1.1.1, ⟨hk.1.1.1.2.1, ⟨hk.1.1.1.2.2.1, ⟨hk.1.1.1.2.2.2.1, ⟨hk.1.1.1.2.2.2.2, ⟨hk.1.1.2, hk.1.2⟩⟩⟩⟩⟩⟩)⟩, ⟨by exact Kd.V_mono (Kd.V_far (p := ⟨gb124, 1, none⟩) (Kd.V_far (p := ⟨gb124, 0, none⟩) (Kd.V_mono HO_103005.out (fun k_ hk => (⟨hk, hk.2⟩ : _ ∧ k_ ≠ gb124))) (fun _ hk => hk.2) (.int .i64 t121)) (fun _ hk => hk.2) (.int .i64 t122)) (fun _ hk => ⟨hk.1.1.1.1, ⟨hk.1.1.1.2.1, ⟨hk.1.1.1.2.2.1, ⟨hk.1.1.1.2.2.2.1, ⟨hk.1.1.1.2.2.2.2, ⟨hk.1.1.2, hk.1.2⟩⟩⟩⟩⟩⟩)⟩, ⟨by refine blk_far ?_ NB101_124.out _; refine blk_far ?_ NB101_124.out _; exact BK101.out⟩, ⟨by refine blk_far ?_ NB102_124.out _; refine blk_far ?_ NB102_124.out _; exact BK102.out⟩, ⟨by refine blk_far ?_ NB117_124.out _; refine blk_far ?_ NB117_124.out _; exact BK117.out⟩, ⟨by refine blk_far ?_ NB120_124.out _; refine blk_far ?_ NB120_124.out _; exact BK120.out⟩, ⟨by refine blk_put (cs := #[.int .i64 t121, .int .i64 0]) ?_ 1 _ rfl; refine blk_put (cs := #[.int .i64 0, .int .i64 0]) ?_ 0 _ rfl; exact BK124.out⟩, ⟨by repeat ((with_reducible first | exact HB.out | refine below_set ?_ GE124.out))⟩⟩
           rw [if_neg c86] at H
           have c86b0 : (t123 == 0) = false := beq_eq_false_iff_ne.mpr c86
           have c86b1 : (t123 != 0) = true := bne_iff_ne.mpr c86
           have H' := Aside0.mk H
           clear H
           go_wp2
           go_meet
           case rel => exact ⟨_, (false), (by rfl), H', ⟨by have := HJ3.out; have := HK2.out; have := HJ43.out; omega⟩, ⟨by exact Kd.R_mono (Kd.R_far (p := ⟨gb124, 1, none⟩) (Kd.R_far (p := ⟨gb124, 0, none⟩) (Kd.R_types HO_7.out BK124.out (by decide)) (fun _ hk => hk.2) (.int .i64 t121)) (fun _ hk => hk.2) (.int .i64 t122)) (fun _ hk => hk.1)⟩, ⟨by exact Kd.V_mono (Kd.V_far (p := ⟨gb124, 1, none⟩) (Kd.V_far (p := ⟨gb124, 0, none⟩) (Kd.V_mono HO_102003.out (fun k_ hk => (⟨hk, hk.2⟩ : _ ∧ k_ ≠ gb124))) (fun _ hk => hk.2) (.int .i64 t121)) (fun _ hk => hk.2) (.int .i64 t122)) (fun _ hk => ⟨hk.1.1.1.1, ⟨hk.1.1.1.2.1, ⟨hk.1.1.1.2.2.1, ⟨hk.1.1.1.2.2.2.1, ⟨hk.1.1.1.2.2.2.2, ⟨hk.1.1.2, hk.1.2⟩⟩⟩⟩⟩⟩)⟩, ⟨by exact Kd.V_mono (Kd.V_far (p := ⟨gb124, 1, none⟩) (Kd.V_far (p := ⟨gb124, 0, none⟩) (Kd.V_mono HO_103005.out (fun k_ hk => (⟨hk, hk.2⟩ : _ ∧ k_ ≠ gb124))) (fun _ hk => hk.2) (.int .i64 t121)) (fun _ hk => hk.2) (.int .i64 t122)) (fun _ hk => ⟨hk.1.1.1.1, ⟨hk.1.1.1.2.1, ⟨hk.1.1.1.2.2.1, ⟨hk.1.1.1.2.2.2.1, ⟨hk.1.1.1.2.2.2.2, ⟨hk.1.1.2, hk.1.2⟩⟩⟩⟩⟩⟩)⟩, ⟨by refine blk_far ?_ NB101_124.out _; refine blk_far ?_ NB101_124.out _; exact BK101.out⟩, ⟨by refine blk_far ?_ NB102_124.out _; refine blk_far ?_ NB102_124.out _; exact BK102.out⟩, ⟨by refine blk_far ?_ NB117_124.out _; refine blk_far ?_ NB117_124.out _; exact BK117.out⟩, ⟨by refine blk_far ?_ NB120_124.out _; refine blk_far ?_ NB120_124.out _; exact BK120.out⟩, ⟨by refine blk_put (cs := #[.int .i64 t121, .int .i64 0]) ?_ 1 _ rfl; refine blk_put (cs := #[.int .i64 0, .int .i64 0]) ?_ 0 _ rfl; exact BK124.out⟩, ⟨by repeat ((with_reducible first | exact HB.out | refine below_set ?_ GE124.out))⟩⟩
          clear HC68
          clear c65b0
          clear c66b0
          clear hcz71_0 hcz71_1 hcz71_2 hcz71_3 hcz71_4 hcz71_5 hcz73_0 hcz73_1 hcz73_2 hcz73_3 hcz73_4 hcz73_5 hcz73_6 hcz78_0 hcz78_1 hcz78_2 hcz85_0 hcz85_1
          clear hfz71_0 hfz71_1 hfz71_2 hfz71_3 hfz71_4 hfz71_5 hfz73_0 hfz73_1 hfz73_2 hfz73_3 hfz73_4 hfz73_5 hfz73_6 hfz78_0 hfz78_1 hfz78_2 hfz85_0 hfz85_1
          clear hx119_0 hx119_1 hx119_2 hx119_3 hx119_4
          clear p119
          clear q119
          obtain ⟨kq, x13_67, rfl, HA, HJ67, HO_7, HO_102003, HO_103005, BK101, BK102, BK117, BK120, BK124, HB⟩ := hcut
          cases kq with
          | zero => exact absurd HA.out (by simp [cleanselaw20_MatchEqual.j3])
          | succ kj67 =>
           have H := HA.out
           clear HA
           simp only [cleanselaw20_MatchEqual.j3] at H
           by_cases c92 : ((rd_T43 l0_3 x8_2).f1) = 5
           ·rw [if_pos c92] at H
            have c92b0 : (((rd_T43 l0_3 x8_2).f1) == 5) = true := beq_iff_eq.mpr c92
            have c92b1 : (((rd_T43 l0_3 x8_2).f1) != 5) = false := bne_eq_false_iff_eq.mpr c92
            clear c92
            by_cases c93 : x13_67 = true
            ·subst c93
             have H1 : (if ((rd_T50 l1_5 ((rd_T43 l0_3 x8_2).f0)).f0.f0) = 2 then (if ((rd_T43 l0_3 x8_2).f2) < 1000000000 then (if 0 ≤ x8_2 then (if x8_2 < (t113.length : Int) then (if rdOf false t113 x8_2 = true then (cleanselaw20_MatchEqual.l0 kj67 t103 t113 (wrap64 (x8_2 + 1)) a0_0 a0_1 a0_2 l0_3 a1_0 a1_1 a1_2 a1_3 a1_4 l1_5) else (some false)) else (none)) else (none)) else (if 0 ≤ x8_2 then (if x8_2 < (t113.length : Int) then (if rdOf false t113 x8_2 = true then (if ((rd_T43 l0_3 x8_2).f3.f0) > 0 then (some false) else (cleanselaw20_MatchEqual.l0 kj67 t103 t113 (wrap64 (x8_2 + 1)) a0_0 a0_1 a0_2 l0_3 a1_0 a1_1 a1_2 a1_3 a1_4 l1_5)) else (cleanselaw20_MatchEqual.l0 kj67 t103 t113 (wrap64 (x8_2 + 1)) a0_0 a0_1 a0_2 l0_3 a1_0 a1_1 a1_2 a1_3 a1_4 l1_5)) else (none)) else (none))) else (if ((rd_T50 l1_5 ((rd_T43 l0_3 x8_2).f0)).f0.f0) = 3 then (if ((rd_T43 l0_3 x8_2).f2) < 1000000000 then (if 0 ≤ x8_2 then (if x8_2 < (t113.length : Int) then (if rdOf false t113 x8_2 = true then (cleanselaw20_MatchEqual.l0 kj67 t103 t113 (wrap64 (x8_2 + 1)) a0_0 a0_1 a0_2 l0_3 a1_0 a1_1 a1_2 a1_3 a1_4 l1_5) else (some false)) else (none)) else (none)) else (if 0 ≤ x8_2 then (if x8_2 < (t113.length : Int) then (if rdOf false t113 x8_2 = true then (if ((rd_T43 l0_3 x8_2).f3.f0) > 0 then (some false) else (cleanselaw20_MatchEqual.l0 kj67 t103 t113 (wrap64 (x8_2 + 1)) a0_0 a0_1 a0_2 l0_3 a1_0 a1_1 a1_2 a1_3 a1_4 l1_5)) else (cleanselaw20_MatchEqual.l0 kj67 t103 t113 (wrap64 (x8_2 + 1)) a0_0 a0_1 a0_2 l0_3 a1_0 a1_1 a1_2 a1_3 a1_4 l1_5)) else (none)) else (none))) else (if 0 ≤ x8_2 then (if x8_2 < (t113.length : Int) then (if rdOf false t113 x8_2 = true then (if ((rd_T43 l0_3 x8_2).f3.f0) > 0 then (some false) else (cleanselaw20_MatchEqual.l0 kj67 t103 t113 (wrap64 (x8_2 + 1)) a0_0 a0_1 a0_2 l0_3 a1_0 a1_1 a1_2 a1_3 a1_4 l1_5)) else (cleanselaw20_MatchEqual.l0 kj67 t103 t113 (wrap64 (x8_2 + 1)) a0_0 a0_1 a0_2 l0_3 a1_0 a1_1 a1_2 a1_3 a1_4 l1_5)) else (none)) else (none)))) = some r := by rw [if_pos rfl] at H; exact H
             clear H
             have H := H1
             clear H1
             by_cases c94 : ((rd_T50 l1_5 ((rd_T43 l0_3 x8_2).f0)).f0.f0) = 2
             ·rw [if_pos c94] at H
              have c94b0 : (((rd_T50 l1_5 ((rd_T43 l0_3 x8_2).f0)).f0.f0) == 2) = true := beq_iff_eq.mpr c94
              have c94b1 : (((rd_T50 l1_5 ((rd_T43 l0_3 x8_2).f0)).f0.f0) != 2) = false := bne_eq_false_iff_eq.mpr c94
              clear c94
              by_cases c95 : ((rd_T43 l0_3 x8_2).f2) < 1000000000
              ·rw [if_pos c95] at H
               have c95b0 : decide (((rd_T43 l0_3 x8_2).f2) < 1000000000) = true := decide_eq_true c95
               clear c95
               by_cases c96 : 0 ≤ x8_2
               ·rw [if_pos c96] at H
                have c96b0 : decide (0 ≤ x8_2) = true := decide_eq_true c96
                clear c96
                by_cases c97 : x8_2 < (t113.length : Int)
                ·rw [if_pos c97] at H
                 have c97b0 : decide (x8_2 < (t113.length : Int)) = true := decide_eq_true c97
                 clear c97
                 obtain ⟨bq98, hbq98⟩ : ∃ b_ : Bool, b_ = (rdOf false t113 x8_2) := ⟨_, rfl⟩
                 replace H : (if bq98 = true then (cleanselaw20_MatchEqual.l0 kj67 t103 t113 (wrap64 (x8_2 + 1)) a0_0 a0_1 a0_2 l0_3 a1_0 a1_1 a1_2 a1_3 a1_4 l1_5) else (some false)) = some r := by rw [← hbq98] at H; exact H
                 have Nbq98 := Aside0.mk hbq98
                 clear hbq98
                 by_cases c99 : bq98 = true
                 ·subst c99
                  have H1 : (cleanselaw20_MatchEqual.l0 kj67 t103 t113 (wrap64 (x8_2 + 1)) a0_0 a0_1 a0_2 l0_3 a1_0 a1_1 a1_2 a1_3 a1_4 l1_5) = some r := by rw [if_pos rfl] at H; exact H
                  clear H
                  have H := H1
                  clear H1
                  have H' := Aside0.mk H
                  clear H
                  have hnb100 := NB117_101.out
                  have hnc100 := NB101_117.out
                  have hnb101 := NB117_102.out
                  have hnc101 := NB102_117.out
                  have hnb102 := NB117_120.out
                  have hnc102 := NB120_117.out
                  have hnb103 := NB117_124.out
                  have hnc103 := NB124_117.out
                  have hcz104_0 := cel_ BK117.out 0 rfl
                  have hcz104_1 := cel_ BK117.out 1 rfl
                  have hcz104_2 := cel_ BK117.out 2 rfl
                  have hcz104_3 := cel_ BK117.out 3 rfl
                  have hcz104_4 := cel_ BK117.out 4 rfl
                  have hcz104_5 := cel_ BK117.out 5 rfl
                  have hcz104_6 := cel_ BK117.out 6 rfl
                  have hfz104_0 := blk_frozen BK117.out 0
                  have hfz104_1 := blk_frozen BK117.out 1
                  have hfz104_2 := blk_frozen BK117.out 2
                  have hfz104_3 := blk_frozen BK117.out 3
                  have hfz104_4 := blk_frozen BK117.out 4
                  have hfz104_5 := blk_frozen BK117.out 5
                  have hfz104_6 := blk_frozen BK117.out 6
                  have hnb105 := NB120_101.out
                  have hnc105 := NB101_120.out
                  have hnb106 := NB120_102.out
                  have hnc106 := NB102_120.out
                  have hnb107 := NB120_124.out
                  have hnc107 := NB124_120.out
                  have hcz108_0 := cel_ BK120.out 0 rfl
                  have hcz108_1 := cel_ BK120.out 1 rfl
                  have hcz108_2 := cel_ BK120.out 2 rfl
                  have hfz108_0 := blk_frozen BK120.out 0
                  have hfz108_1 := blk_frozen BK120.out 1
                  have hfz108_2 := blk_frozen BK120.out 2
                  have p125 : 0 ≤ (x8_2 : Int) := of_decide_eq_true (by (with_reducible assumption))
                  have q125 : x8_2 < (t113.length : Int) := of_decide_eq_true (by (with_reducible assumption))
                  obtain ⟨ad125, e125, hx125_0⟩ := Kd.at_bool (Kd.R_reads' HO_7.out).2.2 x8_2 p125 q125
                  (try rw [← Nbq98.out] at hx125_0)
                  cases e125
                  replace p125 := eq_true p125
                  replace q125 := eq_true q125
                  go_wp2
                  go_roundg kj67
                  case measure => have := HJ3.out; have := HK2.out; have := HJ43.out; have := HJ67.out; omega
                  case rel => exact ⟨(wrap64 (x8_2 + 1)), (by rfl), H', ⟨by have := HJ3.out; have := HK2.out; have := HJ43.out; have := HJ67.out; omega⟩, ⟨by exact HO_7.out⟩, ⟨by exact Kd.V_mono HO_102003.out (fun _ hk => ⟨hk.1, ⟨hk.2.1, ⟨hk.2.2.1, hk.2.2.2.1⟩⟩⟩)⟩, ⟨by exact Kd.V_mono HO_103005.out (fun _ hk => ⟨hk.1, ⟨hk.2.1, ⟨hk.2.2.1, hk.2.2.2.1⟩⟩⟩)⟩, ⟨by exact BK101.out⟩, ⟨by exact BK102.out⟩, ⟨by repeat ((with_reducible (exact HB.out)))⟩⟩
                 replace c99 := Bool.eq_false_iff.mpr c99
                 subst c99
                 have H1 : (some false) = some r := by rw [if_neg (show ¬ (false = true) by decide)] at H; exact H
                 clear H
                 have H := H1
                 clear H1
                 exact absurd ((Option.some.inj H).trans HT.out) (by decide)
                rw [if_neg c97] at H
                exact absurd H (by simp)
               rw [if_neg c96] at H
               exact absurd H (by simp)
              rw [if_neg c95] at H
              have c95b0 : decide (((rd_T43 l0_3 x8_2).f2) < 1000000000) = false := decide_eq_false c95
              clear c95
              by_cases c109 : 0 ≤ x8_2
              ·rw [if_pos c109] at H
               have c109b0 : decide (0 ≤ x8_2) = true := decide_eq_true c109
               clear c109
               by_cases c110 : x8_2 < (t113.length : Int)
               ·rw [if_pos c110] at H
                have c110b0 : decide (x8_2 < (t113.length : Int)) = true := decide_eq_true c110
                clear c110
                obtain ⟨bq111, hbq111⟩ : ∃ b_ : Bool, b_ = (rdOf false t113 x8_2) := ⟨_, rfl⟩
                replace H : (if bq111 = true then (if ((rd_T43 l0_3 x8_2).f3.f0) > 0 then (some false) else (cleanselaw20_MatchEqual.l0 kj67 t103 t113 (wrap64 (x8_2 + 1)) a0_0 a0_1 a0_2 l0_3 a1_0 a1_1 a1_2 a1_3 a1_4 l1_5)) else (cleanselaw20_MatchEqual.l0 kj67 t103 t113 (wrap64 (x8_2 + 1)) a0_0 a0_1 a0_2 l0_3 a1_0 a1_1 a1_2 a1_3 a1_4 l1_5)) = some r := by rw [← hbq111] at H; exact H
                have Nbq111 := Aside0.mk hbq111
                clear hbq111
                by_cases c112 : bq111 = true
                ·subst c112
                 have H1 : (if ((rd_T43 l0_3 x8_2).f3.f0) > 0 then (some false) else (cleanselaw20_MatchEqual.l0 kj67 t103 t113 (wrap64 (x8_2 + 1)) a0_0 a0_1 a0_2 l0_3 a1_0 a1_1 a1_2 a1_3 a1_4 l1_5)) = some r := by rw [if_pos rfl] at H; exact H
                 clear H
                 have H := H1
                 clear H1
                 by_cases c113 : ((rd_T43 l0_3 x8_2).f3.f0) > 0
                 ·rw [if_pos c113] at H
                  have c113b0 : decide (0 < ((rd_T43 l0_3 x8_2).f3.f0)) = true := decide_eq_true c113
                  clear c113
                  exact absurd ((Option.some.inj H).trans HT.out) (by decide)
                 rw [if_neg c113] at H
                 have c113b0 : decide (0 < ((rd_T43 l0_3 x8_2).f3.f0)) = false := decide_eq_false c113
                 clear c113
                 have H' := Aside0.mk H
                 clear H
                 have hnb114 := NB117_101.out
                 have hnc114 := NB101_117.out
                 have hnb115 := NB117_102.out
                 have hnc115 := NB102_117.out
                 have hnb116 := NB117_120.out
                 have hnc116 := NB120_117.out
                 have hnb117 := NB117_124.out
                 have hnc117 := NB124_117.out
                 have hcz118_0 := cel_ BK117.out 0 rfl
                 have hcz118_1 := cel_ BK117.out 1 rfl
                 have hcz118_2 := cel_ BK117.out 2 rfl
                 have hcz118_3 := cel_ BK117.out 3 rfl
                 have hcz118_4 := cel_ BK117.out 4 rfl
                 have hcz118_5 := cel_ BK117.out 5 rfl
                 have hcz118_6 := cel_ BK117.out 6 rfl
                 have hfz118_0 := blk_frozen BK117.out 0
                 have hfz118_1 := blk_frozen BK117.out 1
                 have hfz118_2 := blk_frozen BK117.out 2
                 have hfz118_3 := blk_frozen BK117.out 3
                 have hfz118_4 := blk_frozen BK117.out 4
                 have hfz118_5 := blk_frozen BK117.out 5
                 have hfz118_6 := blk_frozen BK117.out 6
                 have hnb119 := NB120_101.out
                 have hnc119 := NB101_120.out
                 have hnb120 := NB120_102.out
                 have hnc120 := NB102_120.out
                 have hnb121 := NB120_124.out
                 have hnc121 := NB124_120.out
                 have hcz122_0 := cel_ BK120.out 0 rfl
                 have hcz122_1 := cel_ BK120.out 1 rfl
                 have hcz122_2 := cel_ BK120.out 2 rfl
                 have hfz122_0 := blk_frozen BK120.out 0
                 have hfz122_1 := blk_frozen BK120.out 1
                 have hfz122_2 := blk_frozen BK120.out 2
                 have p126 : 0 ≤ (x8_2 : Int) := of_decide_eq_true (by (with_reducible assumption))
                 have q126 : x8_2 < (t113.length : Int) := of_decide_eq_true (by (with_reducible assumption))
                 obtain ⟨ad126, e126, hx126_0⟩ := Kd.at_bool (Kd.R_reads' HO_7.out).2.2 x8_2 p126 q126
                 (try rw [← Nbq111.out] at hx126_0)
                 cases e126
                 replace p126 := eq_true p126
                 replace q126 := eq_true q126
                 go_wp2
                 go_roundg kj67
                 case measure => have := HJ3.out; have := HK2.out; have := HJ43.out; have := HJ67.out; omega
                 case rel => exact ⟨(wrap64 (x8_2 + 1)), (by rfl), H', ⟨by have := HJ3.out; have := HK2.out; have := HJ43.out; have := HJ67.out; omega⟩, ⟨by exact HO_7.out⟩, ⟨by exact Kd.V_mono HO_102003.out (fun _ hk => ⟨hk.1, ⟨hk.2.1, ⟨hk.2.2.1, hk.2.2.2.1⟩⟩⟩)⟩, ⟨by exact Kd.V_mono HO_103005.out (fun _ hk => ⟨hk.1, ⟨hk.2.1, ⟨hk.2.2.1, hk.2.2.2.1⟩⟩⟩)⟩, ⟨by exact BK101.out⟩, ⟨by exact BK102.out⟩, ⟨by repeat ((with_reducible (exact HB.out)))⟩⟩
                replace c112 := Bool.eq_false_iff.mpr c112
                subst c112
                have H1 : (cleanselaw20_MatchEqual.l0 kj67 t103 t113 (wrap64 (x8_2 + 1)) a0_0 a0_1 a0_2 l0_3 a1_0 a1_1 a1_2 a1_3 a1_4 l1_5) = some r := by rw [if_neg (show ¬ (false = true) by decide)] at H; exact H
                clear H
                have H := H1
                clear H1
                have H' := Aside0.mk H
                clear H
                have hnb123 := NB117_101.out
                have hnc123 := NB101_117.out
                have hnb124 := NB117_102.out
                have hnc124 := NB102_117.out
                have hnb125 := NB117_120.out
                have hnc125 := NB120_117.out
                have hnb126 := NB117_124.out
                have hnc126 := NB124_117.out
                have hcz127_0 := cel_ BK117.out 0 rfl
                have hcz127_1 := cel_ BK117.out 1 rfl
                have hcz127_2 := cel_ BK117.out 2 rfl
                have hcz127_3 := cel_ BK117.out 3 rfl
                have hcz127_4 := cel_ BK117.out 4 rfl
                have hcz127_5 := cel_ BK117.out 5 rfl
                have hcz127_6 := cel_ BK117.out 6 rfl
                have hfz127_0 := blk_frozen BK117.out 0
                have hfz127_1 := blk_frozen BK117.out 1
                have hfz127_2 := blk_frozen BK117.out 2
                have hfz127_3 := blk_frozen BK117.out 3
                have hfz127_4 := blk_frozen BK117.out 4
                have hfz127_5 := blk_frozen BK117.out 5
                have hfz127_6 := blk_frozen BK117.out 6
                have hnb128 := NB120_101.out
                have hnc128 := NB101_120.out
                have hnb129 := NB120_102.out
                have hnc129 := NB102_120.out
                have hnb130 := NB120_124.out
                have hnc130 := NB124_120.out
                have hcz131_0 := cel_ BK120.out 0 rfl
                have hcz131_1 := cel_ BK120.out 1 rfl
                have hcz131_2 := cel_ BK120.out 2 rfl
                have hfz131_0 := blk_frozen BK120.out 0
                have hfz131_1 := blk_frozen BK120.out 1
                have hfz131_2 := blk_frozen BK120.out 2
                have p126 : 0 ≤ (x8_2 : Int) := of_decide_eq_true (by (with_reducible assumption))
                have q126 : x8_2 < (t113.length : Int) := of_decide_eq_true (by (with_reducible assumption))
                obtain ⟨ad126, e126, hx126_0⟩ := Kd.at_bool (Kd.R_reads' HO_7.out).2.2 x8_2 p126 q126
                (try rw [← Nbq111.out] at hx126_0)
                cases e126
                replace p126 := eq_true p126
                replace q126 := eq_true q126
                go_wp2
                go_roundg kj67
                case measure => have := HJ3.out; have := HK2.out; have := HJ43.out; have := HJ67.out; omega
                case rel => exact ⟨(wrap64 (x8_2 + 1)), (by rfl), H', ⟨by have := HJ3.out; have := HK2.out; have := HJ43.out; have := HJ67.out; omega⟩, ⟨by exact HO_7.out⟩, ⟨by exact Kd.V_mono HO_102003.out (fun _ hk => ⟨hk.1, ⟨hk.2.1, ⟨hk.2.2.1, hk.2.2.2.1⟩⟩⟩)⟩, ⟨by exact Kd.V_mono HO_103005.out (fun _ hk => ⟨hk.1, ⟨hk.2.1, ⟨hk.2.2.1, hk.2.2.2.1⟩⟩⟩)⟩, ⟨by exact BK101.out⟩, ⟨by exact BK102.out⟩, ⟨by repeat ((with_reducible (exact HB.out)))⟩⟩
               rw [if_neg c110] at H
               exact absurd H (by simp)
              rw [if_neg c109] at H
              exact absurd H (by simp)
             rw [if_neg c94] at H
             have c94b0 : (((rd_T50 l1_5 ((rd_T43 l0_3 x8_2).f0)).f0.f0) == 2) = false := beq_eq_false_iff_ne.mpr c94
             have c94b1 : (((rd_T50 l1_5 ((rd_T43 l0_3 x8_2).f0)).f0.f0) != 2) = true := bne_iff_ne.mpr c94
             by_cases c132 : ((rd_T50 l1_5 ((rd_T43 l0_3 x8_2).f0)).f0.f0) = 3
             ·rw [if_pos c132] at H
              have c132b0 : (((rd_T50 l1_5 ((rd_T43 l0_3 x8_2).f0)).f0.f0) == 3) = true := beq_iff_eq.mpr c132
              have c132b1 : (((rd_T50 l1_5 ((rd_T43 l0_3 x8_2).f0)).f0.f0) != 3) = false := bne_eq_false_iff_eq.mpr c132
              clear c132
              by_cases c133 : ((rd_T43 l0_3 x8_2).f2) < 1000000000
              ·rw [if_pos c133] at H
               have c133b0 : decide (((rd_T43 l0_3 x8_2).f2) < 1000000000) = true := decide_eq_true c133
               clear c133
               by_cases c134 : 0 ≤ x8_2
               ·rw [if_pos c134] at H
                have c134b0 : decide (0 ≤ x8_2) = true := decide_eq_true c134
                clear c134
                by_cases c135 : x8_2 < (t113.length : Int)
                ·rw [if_pos c135] at H
                 have c135b0 : decide (x8_2 < (t113.length : Int)) = true := decide_eq_true c135
                 clear c135
                 obtain ⟨bq136, hbq136⟩ : ∃ b_ : Bool, b_ = (rdOf false t113 x8_2) := ⟨_, rfl⟩
                 replace H : (if bq136 = true then (cleanselaw20_MatchEqual.l0 kj67 t103 t113 (wrap64 (x8_2 + 1)) a0_0 a0_1 a0_2 l0_3 a1_0 a1_1 a1_2 a1_3 a1_4 l1_5) else (some false)) = some r := by rw [← hbq136] at H; exact H
                 have Nbq136 := Aside0.mk hbq136
                 clear hbq136
                 by_cases c137 : bq136 = true
                 ·subst c137
                  have H1 : (cleanselaw20_MatchEqual.l0 kj67 t103 t113 (wrap64 (x8_2 + 1)) a0_0 a0_1 a0_2 l0_3 a1_0 a1_1 a1_2 a1_3 a1_4 l1_5) = some r := by rw [if_pos rfl] at H; exact H
                  clear H
                  have H := H1
                  clear H1
                  have H' := Aside0.mk H
                  clear H
                  have hnb138 := NB117_101.out
                  have hnc138 := NB101_117.out
                  have hnb139 := NB117_102.out
                  have hnc139 := NB102_117.out
                  have hnb140 := NB117_120.out
                  have hnc140 := NB120_117.out
                  have hnb141 := NB117_124.out
                  have hnc141 := NB124_117.out
                  have hcz142_0 := cel_ BK117.out 0 rfl
                  have hcz142_1 := cel_ BK117.out 1 rfl
                  have hcz142_2 := cel_ BK117.out 2 rfl
                  have hcz142_3 := cel_ BK117.out 3 rfl
                  have hcz142_4 := cel_ BK117.out 4 rfl
                  have hcz142_5 := cel_ BK117.out 5 rfl
                  have hcz142_6 := cel_ BK117.out 6 rfl
                  have hfz142_0 := blk_frozen BK117.out 0
                  have hfz142_1 := blk_frozen BK117.out 1
                  have hfz142_2 := blk_frozen BK117.out 2
                  have hfz142_3 := blk_frozen BK117.out 3
                  have hfz142_4 := blk_frozen BK117.out 4
                  have hfz142_5 := blk_frozen BK117.out 5
                  have hfz142_6 := blk_frozen BK117.out 6
                  have hnb143 := NB120_101.out
                  have hnc143 := NB101_120.out
                  have hnb144 := NB120_102.out
                  have hnc144 := NB102_120.out
                  have hnb145 := NB120_124.out
                  have hnc145 := NB124_120.out
                  have hcz146_0 := cel_ BK120.out 0 rfl
                  have hcz146_1 := cel_ BK120.out 1 rfl
                  have hcz146_2 := cel_ BK120.out 2 rfl
                  have hfz146_0 := blk_frozen BK120.out 0
                  have hfz146_1 := blk_frozen BK120.out 1
                  have hfz146_2 := blk_frozen BK120.out 2
                  have p127 : 0 ≤ (x8_2 : Int) := of_decide_eq_true (by (with_reducible assumption))
                  have q127 : x8_2 < (t113.length : Int) := of_decide_eq_true (by (with_reducible assumption))
                  obtain ⟨ad127, e127, hx127_0⟩ := Kd.at_bool (Kd.R_reads' HO_7.out).2.2 x8_2 p127 q127
                  (try rw [← Nbq136.out] at hx127_0)
                  cases e127
                  replace p127 := eq_true p127
                  replace q127 := eq_true q127
                  go_wp2
                  go_roundg kj67
                  case measure => have := HJ3.out; have := HK2.out; have := HJ43.out; have := HJ67.out; omega
                  case rel => exact ⟨(wrap64 (x8_2 + 1)), (by rfl), H', ⟨by have := HJ3.out; have := HK2.out; have := HJ43.out; have := HJ67.out; omega⟩, ⟨by exact HO_7.out⟩, ⟨by exact Kd.V_mono HO_102003.out (fun _ hk => ⟨hk.1, ⟨hk.2.1, ⟨hk.2.2.1, hk.2.2.2.1⟩⟩⟩)⟩, ⟨by exact Kd.V_mono HO_103005.out (fun _ hk => ⟨hk.1, ⟨hk.2.1, ⟨hk.2.2.1, hk.2.2.2.1⟩⟩⟩)⟩, ⟨by exact BK101.out⟩, ⟨by exact BK102.out⟩, ⟨by repeat ((with_reducible (exact HB.out)))⟩⟩
                 replace c137 := Bool.eq_false_iff.mpr c137
                 subst c137
                 have H1 : (some false) = some r := by rw [if_neg (show ¬ (false = true) by decide)] at H; exact H
                 clear H
                 have H := H1
                 clear H1
                 exact absurd ((Option.some.inj H).trans HT.out) (by decide)
                rw [if_neg c135] at H
                exact absurd H (by simp)
               rw [if_neg c134] at H
               exact absurd H (by simp)
              rw [if_neg c133] at H
              have c133b0 : decide (((rd_T43 l0_3 x8_2).f2) < 1000000000) = false := decide_eq_false c133
              clear c133
              by_cases c147 : 0 ≤ x8_2
              ·rw [if_pos c147] at H
               have c147b0 : decide (0 ≤ x8_2) = true := decide_eq_true c147
               clear c147
               by_cases c148 : x8_2 < (t113.length : Int)
               ·rw [if_pos c148] at H
                have c148b0 : decide (x8_2 < (t113.length : Int)) = true := decide_eq_true c148
                clear c148
                obtain ⟨bq149, hbq149⟩ : ∃ b_ : Bool, b_ = (rdOf false t113 x8_2) := ⟨_, rfl⟩
                replace H : (if bq149 = true then (if ((rd_T43 l0_3 x8_2).f3.f0) > 0 then (some false) else (cleanselaw20_MatchEqual.l0 kj67 t103 t113 (wrap64 (x8_2 + 1)) a0_0 a0_1 a0_2 l0_3 a1_0 a1_1 a1_2 a1_3 a1_4 l1_5)) else (cleanselaw20_MatchEqual.l0 kj67 t103 t113 (wrap64 (x8_2 + 1)) a0_0 a0_1 a0_2 l0_3 a1_0 a1_1 a1_2 a1_3 a1_4 l1_5)) = some r := by rw [← hbq149] at H; exact H
                have Nbq149 := Aside0.mk hbq149
                clear hbq149
                by_cases c150 : bq149 = true
                ·subst c150
                 have H1 : (if ((rd_T43 l0_3 x8_2).f3.f0) > 0 then (some false) else (cleanselaw20_MatchEqual.l0 kj67 t103 t113 (wrap64 (x8_2 + 1)) a0_0 a0_1 a0_2 l0_3 a1_0 a1_1 a1_2 a1_3 a1_4 l1_5)) = some r := by rw [if_pos rfl] at H; exact H
                 clear H
                 have H := H1
                 clear H1
                 by_cases c151 : ((rd_T43 l0_3 x8_2).f3.f0) > 0
                 ·rw [if_pos c151] at H
                  have c151b0 : decide (0 < ((rd_T43 l0_3 x8_2).f3.f0)) = true := decide_eq_true c151
                  clear c151
                  exact absurd ((Option.some.inj H).trans HT.out) (by decide)
                 rw [if_neg c151] at H
                 have c151b0 : decide (0 < ((rd_T43 l0_3 x8_2).f3.f0)) = false := decide_eq_false c151
                 clear c151
                 have H' := Aside0.mk H
                 clear H
                 have hnb152 := NB117_101.out
                 have hnc152 := NB101_117.out
                 have hnb153 := NB117_102.out
                 have hnc153 := NB102_117.out
                 have hnb154 := NB117_120.out
                 have hnc154 := NB120_117.out
                 have hnb155 := NB117_124.out
                 have hnc155 := NB124_117.out
                 have hcz156_0 := cel_ BK117.out 0 rfl
                 have hcz156_1 := cel_ BK117.out 1 rfl
                 have hcz156_2 := cel_ BK117.out 2 rfl
                 have hcz156_3 := cel_ BK117.out 3 rfl
                 have hcz156_4 := cel_ BK117.out 4 rfl
                 have hcz156_5 := cel_ BK117.out 5 rfl
                 have hcz156_6 := cel_ BK117.out 6 rfl
                 have hfz156_0 := blk_frozen BK117.out 0
                 have hfz156_1 := blk_frozen BK117.out 1
                 have hfz156_2 := blk_frozen BK117.out 2
                 have hfz156_3 := blk_frozen BK117.out 3
                 have hfz156_4 := blk_frozen BK117.out 4
                 have hfz156_5 := blk_frozen BK117.out 5
                 have hfz156_6 := blk_frozen BK117.out 6
                 have hnb157 := NB120_101.out
                 have hnc157 := NB101_120.out
                 have hnb158 := NB120_102.out
                 have hnc158 := NB102_120.out
                 have hnb159 := NB120_124.out
                 have hnc159 := NB124_120.out
                 have hcz160_0 := cel_ BK120.out 0 rfl
                 have hcz160_1 := cel_ BK120.out 1 rfl
                 have hcz160_2 := cel_ BK120.out 2 rfl
                 have hfz160_0 := blk_frozen BK120.out 0
                 have hfz160_1 := blk_frozen BK120.out 1
                 have hfz160_2 := blk_frozen BK120.out 2
                 have p128 : 0 ≤ (x8_2 : Int) := of_decide_eq_true (by (with_reducible assumption))
                 have q128 : x8_2 < (t113.length : Int) := of_decide_eq_true (by (with_reducible assumption))
                 obtain ⟨ad128, e128, hx128_0⟩ := Kd.at_bool (Kd.R_reads' HO_7.out).2.2 x8_2 p128 q128
                 (try rw [← Nbq149.out] at hx128_0)
                 cases e128
                 replace p128 := eq_true p128
                 replace q128 := eq_true q128
                 go_wp2
                 go_roundg kj67
                 case measure => have := HJ3.out; have := HK2.out; have := HJ43.out; have := HJ67.out; omega
                 case rel => exact ⟨(wrap64 (x8_2 + 1)), (by rfl), H', ⟨by have := HJ3.out; have := HK2.out; have := HJ43.out; have := HJ67.out; omega⟩, ⟨by exact HO_7.out⟩, ⟨by exact Kd.V_mono HO_102003.out (fun _ hk => ⟨hk.1, ⟨hk.2.1, ⟨hk.2.2.1, hk.2.2.2.1⟩⟩⟩)⟩, ⟨by exact Kd.V_mono HO_103005.out (fun _ hk => ⟨hk.1, ⟨hk.2.1, ⟨hk.2.2.1, hk.2.2.2.1⟩⟩⟩)⟩, ⟨by exact BK101.out⟩, ⟨by exact BK102.out⟩, ⟨by repeat ((with_reducible (exact HB.out)))⟩⟩
                replace c150 := Bool.eq_false_iff.mpr c150
                subst c150
                have H1 : (cleanselaw20_MatchEqual.l0 kj67 t103 t113 (wrap64 (x8_2 + 1)) a0_0 a0_1 a0_2 l0_3 a1_0 a1_1 a1_2 a1_3 a1_4 l1_5) = some r := by rw [if_neg (show ¬ (false = true) by decide)] at H; exact H
                clear H
                have H := H1
                clear H1
                have H' := Aside0.mk H
                clear H
                have hnb161 := NB117_101.out
                have hnc161 := NB101_117.out
                have hnb162 := NB117_102.out
                have hnc162 := NB102_117.out
                have hnb163 := NB117_120.out
                have hnc163 := NB120_117.out
                have hnb164 := NB117_124.out
                have hnc164 := NB124_117.out
                have hcz165_0 := cel_ BK117.out 0 rfl
                have hcz165_1 := cel_ BK117.out 1 rfl
                have hcz165_2 := cel_ BK117.out 2 rfl
                have hcz165_3 := cel_ BK117.out 3 rfl
                have hcz165_4 := cel_ BK117.out 4 rfl
                have hcz165_5 := cel_ BK117.out 5 rfl
                have hcz165_6 := cel_ BK117.out 6 rfl
                have hfz165_0 := blk_frozen BK117.out 0
                have hfz165_1 := blk_frozen BK117.out 1
                have hfz165_2 := blk_frozen BK117.out 2
                have hfz165_3 := blk_frozen BK117.out 3
                have hfz165_4 := blk_frozen BK117.out 4
                have hfz165_5 := blk_frozen BK117.out 5
                have hfz165_6 := blk_frozen BK117.out 6
                have hnb166 := NB120_101.out
                have hnc166 := NB101_120.out
                have hnb167 := NB120_102.out
                have hnc167 := NB102_120.out
                have hnb168 := NB120_124.out
                have hnc168 := NB124_120.out
                have hcz169_0 := cel_ BK120.out 0 rfl
                have hcz169_1 := cel_ BK120.out 1 rfl
                have hcz169_2 := cel_ BK120.out 2 rfl
                have hfz169_0 := blk_frozen BK120.out 0
                have hfz169_1 := blk_frozen BK120.out 1
                have hfz169_2 := blk_frozen BK120.out 2
                have p128 : 0 ≤ (x8_2 : Int) := of_decide_eq_true (by (with_reducible assumption))
                have q128 : x8_2 < (t113.length : Int) := of_decide_eq_true (by (with_reducible assumption))
                obtain ⟨ad128, e128, hx128_0⟩ := Kd.at_bool (Kd.R_reads' HO_7.out).2.2 x8_2 p128 q128
                (try rw [← Nbq149.out] at hx128_0)
                cases e128
                replace p128 := eq_true p128
                replace q128 := eq_true q128
                go_wp2
                go_roundg kj67
                case measure => have := HJ3.out; have := HK2.out; have := HJ43.out; have := HJ67.out; omega
                case rel => exact ⟨(wrap64 (x8_2 + 1)), (by rfl), H', ⟨by have := HJ3.out; have := HK2.out; have := HJ43.out; have := HJ67.out; omega⟩, ⟨by exact HO_7.out⟩, ⟨by exact Kd.V_mono HO_102003.out (fun _ hk => ⟨hk.1, ⟨hk.2.1, ⟨hk.2.2.1, hk.2.2.2.1⟩⟩⟩)⟩, ⟨by exact Kd.V_mono HO_103005.out (fun _ hk => ⟨hk.1, ⟨hk.2.1, ⟨hk.2.2.1, hk.2.2.2.1⟩⟩⟩)⟩, ⟨by exact BK101.out⟩, ⟨by exact BK102.out⟩, ⟨by repeat ((with_reducible (exact HB.out)))⟩⟩
               rw [if_neg c148] at H
               exact absurd H (by simp)
              rw [if_neg c147] at H
              exact absurd H (by simp)
             rw [if_neg c132] at H
             have c132b0 : (((rd_T50 l1_5 ((rd_T43 l0_3 x8_2).f0)).f0.f0) == 3) = false := beq_eq_false_iff_ne.mpr c132
             have c132b1 : (((rd_T50 l1_5 ((rd_T43 l0_3 x8_2).f0)).f0.f0) != 3) = true := bne_iff_ne.mpr c132
             by_cases c170 : 0 ≤ x8_2
             ·rw [if_pos c170] at H
              have c170b0 : decide (0 ≤ x8_2) = true := decide_eq_true c170
              clear c170
              by_cases c171 : x8_2 < (t113.length : Int)
              ·rw [if_pos c171] at H
               have c171b0 : decide (x8_2 < (t113.length : Int)) = true := decide_eq_true c171
               clear c171
               obtain ⟨bq172, hbq172⟩ : ∃ b_ : Bool, b_ = (rdOf false t113 x8_2) := ⟨_, rfl⟩
               replace H : (if bq172 = true then (if ((rd_T43 l0_3 x8_2).f3.f0) > 0 then (some false) else (cleanselaw20_MatchEqual.l0 kj67 t103 t113 (wrap64 (x8_2 + 1)) a0_0 a0_1 a0_2 l0_3 a1_0 a1_1 a1_2 a1_3 a1_4 l1_5)) else (cleanselaw20_MatchEqual.l0 kj67 t103 t113 (wrap64 (x8_2 + 1)) a0_0 a0_1 a0_2 l0_3 a1_0 a1_1 a1_2 a1_3 a1_4 l1_5)) = some r := by rw [← hbq172] at H; exact H
               have Nbq172 := Aside0.mk hbq172
               clear hbq172
               by_cases c173 : bq172 = true
               ·subst c173
                have H1 : (if ((rd_T43 l0_3 x8_2).f3.f0) > 0 then (some false) else (cleanselaw20_MatchEqual.l0 kj67 t103 t113 (wrap64 (x8_2 + 1)) a0_0 a0_1 a0_2 l0_3 a1_0 a1_1 a1_2 a1_3 a1_4 l1_5)) = some r := by rw [if_pos rfl] at H; exact H
                clear H
                have H := H1
                clear H1
                by_cases c174 : ((rd_T43 l0_3 x8_2).f3.f0) > 0
                ·rw [if_pos c174] at H
                 have c174b0 : decide (0 < ((rd_T43 l0_3 x8_2).f3.f0)) = true := decide_eq_true c174
                 clear c174
                 exact absurd ((Option.some.inj H).trans HT.out) (by decide)
                rw [if_neg c174] at H
                have c174b0 : decide (0 < ((rd_T43 l0_3 x8_2).f3.f0)) = false := decide_eq_false c174
                clear c174
                have H' := Aside0.mk H
                clear H
                have hnb175 := NB117_101.out
                have hnc175 := NB101_117.out
                have hnb176 := NB117_102.out
                have hnc176 := NB102_117.out
                have hnb177 := NB117_120.out
                have hnc177 := NB120_117.out
                have hnb178 := NB117_124.out
                have hnc178 := NB124_117.out
                have hcz179_0 := cel_ BK117.out 0 rfl
                have hcz179_1 := cel_ BK117.out 1 rfl
                have hcz179_2 := cel_ BK117.out 2 rfl
                have hcz179_3 := cel_ BK117.out 3 rfl
                have hcz179_4 := cel_ BK117.out 4 rfl
                have hcz179_5 := cel_ BK117.out 5 rfl
                have hcz179_6 := cel_ BK117.out 6 rfl
                have hfz179_0 := blk_frozen BK117.out 0
                have hfz179_1 := blk_frozen BK117.out 1
                have hfz179_2 := blk_frozen BK117.out 2
                have hfz179_3 := blk_frozen BK117.out 3
                have hfz179_4 := blk_frozen BK117.out 4
                have hfz179_5 := blk_frozen BK117.out 5
                have hfz179_6 := blk_frozen BK117.out 6
                have hnb180 := NB120_101.out
                have hnc180 := NB101_120.out
                have hnb181 := NB120_102.out
                have hnc181 := NB102_120.out
                have hnb182 := NB120_124.out
                have hnc182 := NB124_120.out
                have hcz183_0 := cel_ BK120.out 0 rfl
                have hcz183_1 := cel_ BK120.out 1 rfl
                have hcz183_2 := cel_ BK120.out 2 rfl
                have hfz183_0 := blk_frozen BK120.out 0
                have hfz183_1 := blk_frozen BK120.out 1
                have hfz183_2 := blk_frozen BK120.out 2
                have p129 : 0 ≤ (x8_2 : Int) := of_decide_eq_true (by (with_reducible assumption))
                have q129 : x8_2 < (t113.length : Int) := of_decide_eq_true (by (with_reducible assumption))
                obtain ⟨ad129, e129, hx129_0⟩ := Kd.at_bool (Kd.R_reads' HO_7.out).2.2 x8_2 p129 q129
                (try rw [← Nbq172.out] at hx129_0)
                cases e129
                replace p129 := eq_true p129
                replace q129 := eq_true q129
                go_wp2
                go_roundg kj67
                case measure => have := HJ3.out; have := HK2.out; have := HJ43.out; have := HJ67.out; omega
                case rel => exact ⟨(wrap64 (x8_2 + 1)), (by rfl), H', ⟨by have := HJ3.out; have := HK2.out; have := HJ43.out; have := HJ67.out; omega⟩, ⟨by exact HO_7.out⟩, ⟨by exact Kd.V_mono HO_102003.out (fun _ hk => ⟨hk.1, ⟨hk.2.1, ⟨hk.2.2.1, hk.2.2.2.1⟩⟩⟩)⟩, ⟨by exact Kd.V_mono HO_103005.out (fun _ hk => ⟨hk.1, ⟨hk.2.1, ⟨hk.2.2.1, hk.2.2.2.1⟩⟩⟩)⟩, ⟨by exact BK101.out⟩, ⟨by exact BK102.out⟩, ⟨by repeat ((with_reducible (exact HB.out)))⟩⟩
               replace c173 := Bool.eq_false_iff.mpr c173
               subst c173
               have H1 : (cleanselaw20_MatchEqual.l0 kj67 t103 t113 (wrap64 (x8_2 + 1)) a0_0 a0_1 a0_2 l0_3 a1_0 a1_1 a1_2 a1_3 a1_4 l1_5) = some r := by rw [if_neg (show ¬ (false = true) by decide)] at H; exact H
               clear H
               have H := H1
               clear H1
               have H' := Aside0.mk H
               clear H
               have hnb184 := NB117_101.out
               have hnc184 := NB101_117.out
               have hnb185 := NB117_102.out
               have hnc185 := NB102_117.out
               have hnb186 := NB117_120.out
               have hnc186 := NB120_117.out
               have hnb187 := NB117_124.out
               have hnc187 := NB124_117.out
               have hcz188_0 := cel_ BK117.out 0 rfl
               have hcz188_1 := cel_ BK117.out 1 rfl
               have hcz188_2 := cel_ BK117.out 2 rfl
               have hcz188_3 := cel_ BK117.out 3 rfl
               have hcz188_4 := cel_ BK117.out 4 rfl
               have hcz188_5 := cel_ BK117.out 5 rfl
               have hcz188_6 := cel_ BK117.out 6 rfl
               have hfz188_0 := blk_frozen BK117.out 0
               have hfz188_1 := blk_frozen BK117.out 1
               have hfz188_2 := blk_frozen BK117.out 2
               have hfz188_3 := blk_frozen BK117.out 3
               have hfz188_4 := blk_frozen BK117.out 4
               have hfz188_5 := blk_frozen BK117.out 5
               have hfz188_6 := blk_frozen BK117.out 6
               have hnb189 := NB120_101.out
               have hnc189 := NB101_120.out
               have hnb190 := NB120_102.out
               have hnc190 := NB102_120.out
               have hnb191 := NB120_124.out
               have hnc191 := NB124_120.out
               have hcz192_0 := cel_ BK120.out 0 rfl
               have hcz192_1 := cel_ BK120.out 1 rfl
               have hcz192_2 := cel_ BK120.out 2 rfl
               have hfz192_0 := blk_frozen BK120.out 0
               have hfz192_1 := blk_frozen BK120.out 1
               have hfz192_2 := blk_frozen BK120.out 2
               have p129 : 0 ≤ (x8_2 : Int) := of_decide_eq_true (by (with_reducible assumption))
               have q129 : x8_2 < (t113.length : Int) := of_decide_eq_true (by (with_reducible assumption))
               obtain ⟨ad129, e129, hx129_0⟩ := Kd.at_bool (Kd.R_reads' HO_7.out).2.2 x8_2 p129 q129
               (try rw [← Nbq172.out] at hx129_0)
               cases e129
               replace p129 := eq_true p129
               replace q129 := eq_true q129
               go_wp2
               go_roundg kj67
               case measure => have := HJ3.out; have := HK2.out; have := HJ43.out; have := HJ67.out; omega
               case rel => exact ⟨(wrap64 (x8_2 + 1)), (by rfl), H', ⟨by have := HJ3.out; have := HK2.out; have := HJ43.out; have := HJ67.out; omega⟩, ⟨by exact HO_7.out⟩, ⟨by exact Kd.V_mono HO_102003.out (fun _ hk => ⟨hk.1, ⟨hk.2.1, ⟨hk.2.2.1, hk.2.2.2.1⟩⟩⟩)⟩, ⟨by exact Kd.V_mono HO_103005.out (fun _ hk => ⟨hk.1, ⟨hk.2.1, ⟨hk.2.2.1, hk.2.2.2.1⟩⟩⟩)⟩, ⟨by exact BK101.out⟩, ⟨by exact BK102.out⟩, ⟨by repeat ((with_reducible (exact HB.out)))⟩⟩
              rw [if_neg c171] at H
              exact absurd H (by simp)
             rw [if_neg c170] at H
             exact absurd H (by simp)
            replace c93 := Bool.eq_false_iff.mpr c93
            subst c93
            have H1 : (if 0 ≤ x8_2 then (if x8_2 < (t113.length : Int) then (if rdOf false t113 x8_2 = true then (if ((rd_T43 l0_3 x8_2).f3.f0) > 0 then (some false) else (cleanselaw20_MatchEqual.l0 kj67 t103 t113 (wrap64 (x8_2 + 1)) a0_0 a0_1 a0_2 l0_3 a1_0 a1_1 a1_2 a1_3 a1_4 l1_5)) else (cleanselaw20_MatchEqual.l0 kj67 t103 t113 (wrap64 (x8_2 + 1)) a0_0 a0_1 a0_2 l0_3 a1_0 a1_1 a1_2 a1_3 a1_4 l1_5)) else (none)) else (none)) = some r := by rw [if_neg (show ¬ (false = true) by decide)] at H; exact H
            clear H
            have H := H1
            clear H1
            by_cases c193 : 0 ≤ x8_2
            ·rw [if_pos c193] at H
             have c193b0 : decide (0 ≤ x8_2) = true := decide_eq_true c193
             clear c193
             by_cases c194 : x8_2 < (t113.length : Int)
             ·rw [if_pos c194] at H
              have c194b0 : decide (x8_2 < (t113.length : Int)) = true := decide_eq_true c194
              clear c194
              obtain ⟨bq195, hbq195⟩ : ∃ b_ : Bool, b_ = (rdOf false t113 x8_2) := ⟨_, rfl⟩
              replace H : (if bq195 = true then (if ((rd_T43 l0_3 x8_2).f3.f0) > 0 then (some false) else (cleanselaw20_MatchEqual.l0 kj67 t103 t113 (wrap64 (x8_2 + 1)) a0_0 a0_1 a0_2 l0_3 a1_0 a1_1 a1_2 a1_3 a1_4 l1_5)) else (cleanselaw20_MatchEqual.l0 kj67 t103 t113 (wrap64 (x8_2 + 1)) a0_0 a0_1 a0_2 l0_3 a1_0 a1_1 a1_2 a1_3 a1_4 l1_5)) = some r := by rw [← hbq195] at H; exact H
              have Nbq195 := Aside0.mk hbq195
              clear hbq195
              by_cases c196 : bq195 = true
              ·subst c196
               have H1 : (if ((rd_T43 l0_3 x8_2).f3.f0) > 0 then (some false) else (cleanselaw20_MatchEqual.l0 kj67 t103 t113 (wrap64 (x8_2 + 1)) a0_0 a0_1 a0_2 l0_3 a1_0 a1_1 a1_2 a1_3 a1_4 l1_5)) = some r := by rw [if_pos rfl] at H; exact H
               clear H
               have H := H1
               clear H1
               by_cases c197 : ((rd_T43 l0_3 x8_2).f3.f0) > 0
               ·rw [if_pos c197] at H
                have c197b0 : decide (0 < ((rd_T43 l0_3 x8_2).f3.f0)) = true := decide_eq_true c197
                clear c197
                exact absurd ((Option.some.inj H).trans HT.out) (by decide)
               rw [if_neg c197] at H
               have c197b0 : decide (0 < ((rd_T43 l0_3 x8_2).f3.f0)) = false := decide_eq_false c197
               clear c197
               have H' := Aside0.mk H
               clear H
               have hnb198 := NB117_101.out
               have hnc198 := NB101_117.out
               have hnb199 := NB117_102.out
               have hnc199 := NB102_117.out
               have hnb200 := NB117_120.out
               have hnc200 := NB120_117.out
               have hnb201 := NB117_124.out
               have hnc201 := NB124_117.out
               have hcz202_0 := cel_ BK117.out 0 rfl
               have hcz202_1 := cel_ BK117.out 1 rfl
               have hcz202_2 := cel_ BK117.out 2 rfl
               have hcz202_3 := cel_ BK117.out 3 rfl
               have hcz202_4 := cel_ BK117.out 4 rfl
               have hcz202_5 := cel_ BK117.out 5 rfl
               have hcz202_6 := cel_ BK117.out 6 rfl
               have hfz202_0 := blk_frozen BK117.out 0
               have hfz202_1 := blk_frozen BK117.out 1
               have hfz202_2 := blk_frozen BK117.out 2
               have hfz202_3 := blk_frozen BK117.out 3
               have hfz202_4 := blk_frozen BK117.out 4
               have hfz202_5 := blk_frozen BK117.out 5
               have hfz202_6 := blk_frozen BK117.out 6
               have p130 : 0 ≤ (x8_2 : Int) := of_decide_eq_true (by (with_reducible assumption))
               have q130 : x8_2 < (t113.length : Int) := of_decide_eq_true (by (with_reducible assumption))
               obtain ⟨ad130, e130, hx130_0⟩ := Kd.at_bool (Kd.R_reads' HO_7.out).2.2 x8_2 p130 q130
               (try rw [← Nbq195.out] at hx130_0)
               cases e130
               replace p130 := eq_true p130
               replace q130 := eq_true q130
               go_wp2
               go_roundg kj67
               case measure => have := HJ3.out; have := HK2.out; have := HJ43.out; have := HJ67.out; omega
               case rel => exact ⟨(wrap64 (x8_2 + 1)), (by rfl), H', ⟨by have := HJ3.out; have := HK2.out; have := HJ43.out; have := HJ67.out; omega⟩, ⟨by exact HO_7.out⟩, ⟨by exact Kd.V_mono HO_102003.out (fun _ hk => ⟨hk.1, ⟨hk.2.1, ⟨hk.2.2.1, hk.2.2.2.1⟩⟩⟩)⟩, ⟨by exact Kd.V_mono HO_103005.out (fun _ hk => ⟨hk.1, ⟨hk.2.1, ⟨hk.2.2.1, hk.2.2.2.1⟩⟩⟩)⟩, ⟨by exact BK101.out⟩, ⟨by exact BK102.out⟩, ⟨by repeat ((with_reducible (exact HB.out)))⟩⟩
              replace c196 := Bool.eq_false_iff.mpr c196
              subst c196
              have H1 : (cleanselaw20_MatchEqual.l0 kj67 t103 t113 (wrap64 (x8_2 + 1)) a0_0 a0_1 a0_2 l0_3 a1_0 a1_1 a1_2 a1_3 a1_4 l1_5) = some r := by rw [if_neg (show ¬ (false = true) by decide)] at H; exact H
              clear H
              have H := H1
              clear H1
              have H' := Aside0.mk H
              clear H
              have hnb203 := NB117_101.out
              have hnc203 := NB101_117.out
              have hnb204 := NB117_102.out
              have hnc204 := NB102_117.out
              have hnb205 := NB117_120.out
              have hnc205 := NB120_117.out
              have hnb206 := NB117_124.out
              have hnc206 := NB124_117.out
              have hcz207_0 := cel_ BK117.out 0 rfl
              have hcz207_1 := cel_ BK117.out 1 rfl
              have hcz207_2 := cel_ BK117.out 2 rfl
              have hcz207_3 := cel_ BK117.out 3 rfl
              have hcz207_4 := cel_ BK117.out 4 rfl
              have hcz207_5 := cel_ BK117.out 5 rfl
              have hcz207_6 := cel_ BK117.out 6 rfl
              have hfz207_0 := blk_frozen BK117.out 0
              have hfz207_1 := blk_frozen BK117.out 1
              have hfz207_2 := blk_frozen BK117.out 2
              have hfz207_3 := blk_frozen BK117.out 3
              have hfz207_4 := blk_frozen BK117.out 4
              have hfz207_5 := blk_frozen BK117.out 5
              have hfz207_6 := blk_frozen BK117.out 6
              have p130 : 0 ≤ (x8_2 : Int) := of_decide_eq_true (by (with_reducible assumption))
              have q130 : x8_2 < (t113.length : Int) := of_decide_eq_true (by (with_reducible assumption))
              obtain ⟨ad130, e130, hx130_0⟩ := Kd.at_bool (Kd.R_reads' HO_7.out).2.2 x8_2 p130 q130
              (try rw [← Nbq195.out] at hx130_0)
              cases e130
              replace p130 := eq_true p130
              replace q130 := eq_true q130
              go_wp2
              go_roundg kj67
              case measure => have := HJ3.out; have := HK2.out; have := HJ43.out; have := HJ67.out; omega
              case rel => exact ⟨(wrap64 (x8_2 + 1)), (by rfl), H', ⟨by have := HJ3.out; have := HK2.out; have := HJ43.out; have := HJ67.out; omega⟩, ⟨by exact HO_7.out⟩, ⟨by exact Kd.V_mono HO_102003.out (fun _ hk => ⟨hk.1, ⟨hk.2.1, ⟨hk.2.2.1, hk.2.2.2.1⟩⟩⟩)⟩, ⟨by exact Kd.V_mono HO_103005.out (fun _ hk => ⟨hk.1, ⟨hk.2.1, ⟨hk.2.2.1, hk.2.2.2.1⟩⟩⟩)⟩, ⟨by exact BK101.out⟩, ⟨by exact BK102.out⟩, ⟨by repeat ((with_reducible (exact HB.out)))⟩⟩
             rw [if_neg c194] at H
             exact absurd H (by simp)
            rw [if_neg c193] at H
            exact absurd H (by simp)
           rw [if_neg c92] at H
           have c92b0 : (((rd_T43 l0_3 x8_2).f1) == 5) = false := beq_eq_false_iff_ne.mpr c92
           have c92b1 : (((rd_T43 l0_3 x8_2).f1) != 5) = true := bne_iff_ne.mpr c92
           by_cases c208 : ((rd_T43 l0_3 x8_2).f1) = 1
           ·rw [if_pos c208] at H
            have c208b0 : (((rd_T43 l0_3 x8_2).f1) == 1) = true := beq_iff_eq.mpr c208
            have c208b1 : (((rd_T43 l0_3 x8_2).f1) != 1) = false := bne_eq_false_iff_eq.mpr c208
            clear c208
            by_cases c209 : x13_67 = true
            ·subst c209
             have H1 : (if 0 ≤ x8_2 then (if x8_2 < (t113.length : Int) then (if rdOf false t113 x8_2 = true then (cleanselaw20_MatchEqual.l0 kj67 t103 t113 (wrap64 (x8_2 + 1)) a0_0 a0_1 a0_2 l0_3 a1_0 a1_1 a1_2 a1_3 a1_4 l1_5) else (some false)) else (none)) else (none)) = some r := by rw [if_pos rfl] at H; exact H
             clear H
             have H := H1
             clear H1
             by_cases c210 : 0 ≤ x8_2
             ·rw [if_pos c210] at H
              have c210b0 : decide (0 ≤ x8_2) = true := decide_eq_true c210
              clear c210
              by_cases c211 : x8_2 < (t113.length : Int)
              ·rw [if_pos c211] at H
               have c211b0 : decide (x8_2 < (t113.length : Int)) = true := decide_eq_true c211
               clear c211
               obtain ⟨bq212, hbq212⟩ : ∃ b_ : Bool, b_ = (rdOf false t113 x8_2) := ⟨_, rfl⟩
               replace H : (if bq212 = true then (cleanselaw20_MatchEqual.l0 kj67 t103 t113 (wrap64 (x8_2 + 1)) a0_0 a0_1 a0_2 l0_3 a1_0 a1_1 a1_2 a1_3 a1_4 l1_5) else (some false)) = some r := by rw [← hbq212] at H; exact H
               have Nbq212 := Aside0.mk hbq212
               clear hbq212
               by_cases c213 : bq212 = true
               ·subst c213
                have H1 : (cleanselaw20_MatchEqual.l0 kj67 t103 t113 (wrap64 (x8_2 + 1)) a0_0 a0_1 a0_2 l0_3 a1_0 a1_1 a1_2 a1_3 a1_4 l1_5) = some r := by rw [if_pos rfl] at H; exact H
                clear H
                have H := H1
                clear H1
                have H' := Aside0.mk H
                clear H
                have hnb214 := NB117_101.out
                have hnc214 := NB101_117.out
                have hnb215 := NB117_102.out
                have hnc215 := NB102_117.out
                have hnb216 := NB117_120.out
                have hnc216 := NB120_117.out
                have hnb217 := NB117_124.out
                have hnc217 := NB124_117.out
                have hcz218_0 := cel_ BK117.out 0 rfl
                have hcz218_1 := cel_ BK117.out 1 rfl
                have hcz218_2 := cel_ BK117.out 2 rfl
                have hcz218_3 := cel_ BK117.out 3 rfl
                have hcz218_4 := cel_ BK117.out 4 rfl
                have hcz218_5 := cel_ BK117.out 5 rfl
                have hcz218_6 := cel_ BK117.out 6 rfl
                have hfz218_0 := blk_frozen BK117.out 0
                have hfz218_1 := blk_frozen BK117.out 1
                have hfz218_2 := blk_frozen BK117.out 2
                have hfz218_3 := blk_frozen BK117.out 3
                have hfz218_4 := blk_frozen BK117.out 4
                have hfz218_5 := blk_frozen BK117.out 5
                have hfz218_6 := blk_frozen BK117.out 6
                have p131 : 0 ≤ (x8_2 : Int) := of_decide_eq_true (by (with_reducible assumption))
                have q131 : x8_2 < (t113.length : Int) := of_decide_eq_true (by (with_reducible assumption))
                obtain ⟨ad131, e131, hx131_0⟩ := Kd.at_bool (Kd.R_reads' HO_7.out).2.2 x8_2 p131 q131
                (try rw [← Nbq212.out] at hx131_0)
                cases e131
                replace p131 := eq_true p131
                replace q131 := eq_true q131
                go_wp2
                go_roundg kj67
                case measure => have := HJ3.out; have := HK2.out; have := HJ43.out; have := HJ67.out; omega
                case rel => exact ⟨(wrap64 (x8_2 + 1)), (by rfl), H', ⟨by have := HJ3.out; have := HK2.out; have := HJ43.out; have := HJ67.out; omega⟩, ⟨by exact HO_7.out⟩, ⟨by exact Kd.V_mono HO_102003.out (fun _ hk => ⟨hk.1, ⟨hk.2.1, ⟨hk.2.2.1, hk.2.2.2.1⟩⟩⟩)⟩, ⟨by exact Kd.V_mono HO_103005.out (fun _ hk => ⟨hk.1, ⟨hk.2.1, ⟨hk.2.2.1, hk.2.2.2.1⟩⟩⟩)⟩, ⟨by exact BK101.out⟩, ⟨by exact BK102.out⟩, ⟨by repeat ((with_reducible (exact HB.out)))⟩⟩
               replace c213 := Bool.eq_false_iff.mpr c213
               subst c213
               have H1 : (some false) = some r := by rw [if_neg (show ¬ (false = true) by decide)] at H; exact H
               clear H
               have H := H1
               clear H1
               exact absurd ((Option.some.inj H).trans HT.out) (by decide)
              rw [if_neg c211] at H
              exact absurd H (by simp)
             rw [if_neg c210] at H
             exact absurd H (by simp)
            replace c209 := Bool.eq_false_iff.mpr c209
            subst c209
            have H1 : (if 0 ≤ x8_2 then (if x8_2 < (t113.length : Int) then (if rdOf false t113 x8_2 = true then (if ((rd_T43 l0_3 x8_2).f3.f0) > 0 then (some false) else (cleanselaw20_MatchEqual.l0 kj67 t103 t113 (wrap64 (x8_2 + 1)) a0_0 a0_1 a0_2 l0_3 a1_0 a1_1 a1_2 a1_3 a1_4 l1_5)) else (cleanselaw20_MatchEqual.l0 kj67 t103 t113 (wrap64 (x8_2 + 1)) a0_0 a0_1 a0_2 l0_3 a1_0 a1_1 a1_2 a1_3 a1_4 l1_5)) else (none)) else (none)) = some r := by rw [if_neg (show ¬ (false = true) by decide)] at H; exact H
            clear H
            have H := H1
            clear H1
            by_cases c219 : 0 ≤ x8_2
            ·rw [if_pos c219] at H
             have c219b0 : decide (0 ≤ x8_2) = true := decide_eq_true c219
             clear c219
             by_cases c220 : x8_2 < (t113.length : Int)
             ·rw [if_pos c220] at H
              have c220b0 : decide (x8_2 < (t113.length : Int)) = true := decide_eq_true c220
              clear c220
              obtain ⟨bq221, hbq221⟩ : ∃ b_ : Bool, b_ = (rdOf false t113 x8_2) := ⟨_, rfl⟩
              replace H : (if bq221 = true then (if ((rd_T43 l0_3 x8_2).f3.f0) > 0 then (some false) else (cleanselaw20_MatchEqual.l0 kj67 t103 t113 (wrap64 (x8_2 + 1)) a0_0 a0_1 a0_2 l0_3 a1_0 a1_1 a1_2 a1_3 a1_4 l1_5)) else (cleanselaw20_MatchEqual.l0 kj67 t103 t113 (wrap64 (x8_2 + 1)) a0_0 a0_1 a0_2 l0_3 a1_0 a1_1 a1_2 a1_3 a1_4 l1_5)) = some r := by rw [← hbq221] at H; exact H
              have Nbq221 := Aside0.mk hbq221
              clear hbq221
              by_cases c222 : bq221 = true
              ·subst c222
               have H1 : (if ((rd_T43 l0_3 x8_2).f3.f0) > 0 then (some false) else (cleanselaw20_MatchEqual.l0 kj67 t103 t113 (wrap64 (x8_2 + 1)) a0_0 a0_1 a0_2 l0_3 a1_0 a1_1 a1_2 a1_3 a1_4 l1_5)) = some r := by rw [if_pos rfl] at H; exact H
               clear H
               have H := H1
               clear H1
               by_cases c223 : ((rd_T43 l0_3 x8_2).f3.f0) > 0
               ·rw [if_pos c223] at H
                have c223b0 : decide (0 < ((rd_T43 l0_3 x8_2).f3.f0)) = true := decide_eq_true c223
                clear c223
                exact absurd ((Option.some.inj H).trans HT.out) (by decide)
               rw [if_neg c223] at H
               have c223b0 : decide (0 < ((rd_T43 l0_3 x8_2).f3.f0)) = false := decide_eq_false c223
               clear c223
               have H' := Aside0.mk H
               clear H
               have hnb224 := NB117_101.out
               have hnc224 := NB101_117.out
               have hnb225 := NB117_102.out
               have hnc225 := NB102_117.out
               have hnb226 := NB117_120.out
               have hnc226 := NB120_117.out
               have hnb227 := NB117_124.out
               have hnc227 := NB124_117.out
               have hcz228_0 := cel_ BK117.out 0 rfl
               have hcz228_1 := cel_ BK117.out 1 rfl
               have hcz228_2 := cel_ BK117.out 2 rfl
               have hcz228_3 := cel_ BK117.out 3 rfl
               have hcz228_4 := cel_ BK117.out 4 rfl
               have hcz228_5 := cel_ BK117.out 5 rfl
               have hcz228_6 := cel_ BK117.out 6 rfl
               have hfz228_0 := blk_frozen BK117.out 0
               have hfz228_1 := blk_frozen BK117.out 1
               have hfz228_2 := blk_frozen BK117.out 2
               have hfz228_3 := blk_frozen BK117.out 3
               have hfz228_4 := blk_frozen BK117.out 4
               have hfz228_5 := blk_frozen BK117.out 5
               have hfz228_6 := blk_frozen BK117.out 6
               have p132 : 0 ≤ (x8_2 : Int) := of_decide_eq_true (by (with_reducible assumption))
               have q132 : x8_2 < (t113.length : Int) := of_decide_eq_true (by (with_reducible assumption))
               obtain ⟨ad132, e132, hx132_0⟩ := Kd.at_bool (Kd.R_reads' HO_7.out).2.2 x8_2 p132 q132
               (try rw [← Nbq221.out] at hx132_0)
               cases e132
               replace p132 := eq_true p132
               replace q132 := eq_true q132
               go_wp2
               go_roundg kj67
               case measure => have := HJ3.out; have := HK2.out; have := HJ43.out; have := HJ67.out; omega
               case rel => exact ⟨(wrap64 (x8_2 + 1)), (by rfl), H', ⟨by have := HJ3.out; have := HK2.out; have := HJ43.out; have := HJ67.out; omega⟩, ⟨by exact HO_7.out⟩, ⟨by exact Kd.V_mono HO_102003.out (fun _ hk => ⟨hk.1, ⟨hk.2.1, ⟨hk.2.2.1, hk.2.2.2.1⟩⟩⟩)⟩, ⟨by exact Kd.V_mono HO_103005.out (fun _ hk => ⟨hk.1, ⟨hk.2.1, ⟨hk.2.2.1, hk.2.2.2.1⟩⟩⟩)⟩, ⟨by exact BK101.out⟩, ⟨by exact BK102.out⟩, ⟨by repeat ((with_reducible (exact HB.out)))⟩⟩
              replace c222 := Bool.eq_false_iff.mpr c222
              subst c222
              have H1 : (cleanselaw20_MatchEqual.l0 kj67 t103 t113 (wrap64 (x8_2 + 1)) a0_0 a0_1 a0_2 l0_3 a1_0 a1_1 a1_2 a1_3 a1_4 l1_5) = some r := by rw [if_neg (show ¬ (false = true) by decide)] at H; exact H
              clear H
              have H := H1
              clear H1
              have H' := Aside0.mk H
              clear H
              have hnb229 := NB117_101.out
              have hnc229 := NB101_117.out
              have hnb230 := NB117_102.out
              have hnc230 := NB102_117.out
              have hnb231 := NB117_120.out
              have hnc231 := NB120_117.out
              have hnb232 := NB117_124.out
              have hnc232 := NB124_117.out
              have hcz233_0 := cel_ BK117.out 0 rfl
              have hcz233_1 := cel_ BK117.out 1 rfl
              have hcz233_2 := cel_ BK117.out 2 rfl
              have hcz233_3 := cel_ BK117.out 3 rfl
              have hcz233_4 := cel_ BK117.out 4 rfl
              have hcz233_5 := cel_ BK117.out 5 rfl
              have hcz233_6 := cel_ BK117.out 6 rfl
              have hfz233_0 := blk_frozen BK117.out 0
              have hfz233_1 := blk_frozen BK117.out 1
              have hfz233_2 := blk_frozen BK117.out 2
              have hfz233_3 := blk_frozen BK117.out 3
              have hfz233_4 := blk_frozen BK117.out 4
              have hfz233_5 := blk_frozen BK117.out 5
              have hfz233_6 := blk_frozen BK117.out 6
              have p132 : 0 ≤ (x8_2 : Int) := of_decide_eq_true (by (with_reducible assumption))
              have q132 : x8_2 < (t113.length : Int) := of_decide_eq_true (by (with_reducible assumption))
              obtain ⟨ad132, e132, hx132_0⟩ := Kd.at_bool (Kd.R_reads' HO_7.out).2.2 x8_2 p132 q132
              (try rw [← Nbq221.out] at hx132_0)
              cases e132
              replace p132 := eq_true p132
              replace q132 := eq_true q132
              go_wp2
              go_roundg kj67
              case measure => have := HJ3.out; have := HK2.out; have := HJ43.out; have := HJ67.out; omega
              case rel => exact ⟨(wrap64 (x8_2 + 1)), (by rfl), H', ⟨by have := HJ3.out; have := HK2.out; have := HJ43.out; have := HJ67.out; omega⟩, ⟨by exact HO_7.out⟩, ⟨by exact Kd.V_mono HO_102003.out (fun _ hk => ⟨hk.1, ⟨hk.2.1, ⟨hk.2.2.1, hk.2.2.2.1⟩⟩⟩)⟩, ⟨by exact Kd.V_mono HO_103005.out (fun _ hk => ⟨hk.1, ⟨hk.2.1, ⟨hk.2.2.1, hk.2.2.2.1⟩⟩⟩)⟩, ⟨by exact BK101.out⟩, ⟨by exact BK102.out⟩, ⟨by repeat ((with_reducible (exact HB.out)))⟩⟩
             rw [if_neg c220] at H
             exact absurd H (by simp)
            rw [if_neg c219] at H
            exact absurd H (by simp)
           rw [if_neg c208] at H
           have c208b0 : (((rd_T43 l0_3 x8_2).f1) == 1) = false := beq_eq_false_iff_ne.mpr c208
           have c208b1 : (((rd_T43 l0_3 x8_2).f1) != 1) = true := bne_iff_ne.mpr c208
           by_cases c234 : x13_67 = true
           ·subst c234
            have H1 : (if ((rd_T50 l1_5 ((rd_T43 l0_3 x8_2).f0)).f0.f0) = 1 then (if 0 ≤ x8_2 then (if x8_2 < (t113.length : Int) then (if rdOf false t113 x8_2 = true then (cleanselaw20_MatchEqual.l0 kj67 t103 t113 (wrap64 (x8_2 + 1)) a0_0 a0_1 a0_2 l0_3 a1_0 a1_1 a1_2 a1_3 a1_4 l1_5) else (some false)) else (none)) else (none)) else (if 0 ≤ x8_2 then (if x8_2 < (t113.length : Int) then (if rdOf false t113 x8_2 = true then (if ((rd_T43 l0_3 x8_2).f3.f0) > 0 then (some false) else (cleanselaw20_MatchEqual.l0 kj67 t103 t113 (wrap64 (x8_2 + 1)) a0_0 a0_1 a0_2 l0_3 a1_0 a1_1 a1_2 a1_3 a1_4 l1_5)) else (cleanselaw20_MatchEqual.l0 kj67 t103 t113 (wrap64 (x8_2 + 1)) a0_0 a0_1 a0_2 l0_3 a1_0 a1_1 a1_2 a1_3 a1_4 l1_5)) else (none)) else (none))) = some r := by rw [if_pos rfl] at H; exact H
            clear H
            have H := H1
            clear H1
            by_cases c235 : ((rd_T50 l1_5 ((rd_T43 l0_3 x8_2).f0)).f0.f0) = 1
            ·rw [if_pos c235] at H
             have c235b0 : (((rd_T50 l1_5 ((rd_T43 l0_3 x8_2).f0)).f0.f0) == 1) = true := beq_iff_eq.mpr c235
             have c235b1 : (((rd_T50 l1_5 ((rd_T43 l0_3 x8_2).f0)).f0.f0) != 1) = false := bne_eq_false_iff_eq.mpr c235
             clear c235
             by_cases c236 : 0 ≤ x8_2
             ·rw [if_pos c236] at H
              have c236b0 : decide (0 ≤ x8_2) = true := decide_eq_true c236
              clear c236
              by_cases c237 : x8_2 < (t113.length : Int)
              ·rw [if_pos c237] at H
               have c237b0 : decide (x8_2 < (t113.length : Int)) = true := decide_eq_true c237
               clear c237
               obtain ⟨bq238, hbq238⟩ : ∃ b_ : Bool, b_ = (rdOf false t113 x8_2) := ⟨_, rfl⟩
               replace H : (if bq238 = true then (cleanselaw20_MatchEqual.l0 kj67 t103 t113 (wrap64 (x8_2 + 1)) a0_0 a0_1 a0_2 l0_3 a1_0 a1_1 a1_2 a1_3 a1_4 l1_5) else (some false)) = some r := by rw [← hbq238] at H; exact H
               have Nbq238 := Aside0.mk hbq238
               clear hbq238
               by_cases c239 : bq238 = true
               ·subst c239
                have H1 : (cleanselaw20_MatchEqual.l0 kj67 t103 t113 (wrap64 (x8_2 + 1)) a0_0 a0_1 a0_2 l0_3 a1_0 a1_1 a1_2 a1_3 a1_4 l1_5) = some r := by rw [if_pos rfl] at H; exact H
                clear H
                have H := H1
                clear H1
                have H' := Aside0.mk H
                clear H
                have hnb240 := NB117_101.out
                have hnc240 := NB101_117.out
                have hnb241 := NB117_102.out
                have hnc241 := NB102_117.out
                have hnb242 := NB117_120.out
                have hnc242 := NB120_117.out
                have hnb243 := NB117_124.out
                have hnc243 := NB124_117.out
                have hcz244_0 := cel_ BK117.out 0 rfl
                have hcz244_1 := cel_ BK117.out 1 rfl
                have hcz244_2 := cel_ BK117.out 2 rfl
                have hcz244_3 := cel_ BK117.out 3 rfl
                have hcz244_4 := cel_ BK117.out 4 rfl
                have hcz244_5 := cel_ BK117.out 5 rfl
                have hcz244_6 := cel_ BK117.out 6 rfl
                have hfz244_0 := blk_frozen BK117.out 0
                have hfz244_1 := blk_frozen BK117.out 1
                have hfz244_2 := blk_frozen BK117.out 2
                have hfz244_3 := blk_frozen BK117.out 3
                have hfz244_4 := blk_frozen BK117.out 4
                have hfz244_5 := blk_frozen BK117.out 5
                have hfz244_6 := blk_frozen BK117.out 6
                have hnb245 := NB120_101.out
                have hnc245 := NB101_120.out
                have hnb246 := NB120_102.out
                have hnc246 := NB102_120.out
                have hnb247 := NB120_124.out
                have hnc247 := NB124_120.out
                have hcz248_0 := cel_ BK120.out 0 rfl
                have hcz248_1 := cel_ BK120.out 1 rfl
                have hcz248_2 := cel_ BK120.out 2 rfl
                have hfz248_0 := blk_frozen BK120.out 0
                have hfz248_1 := blk_frozen BK120.out 1
                have hfz248_2 := blk_frozen BK120.out 2
                have p133 : 0 ≤ (x8_2 : Int) := of_decide_eq_true (by (with_reducible assumption))
                have q133 : x8_2 < (t113.length : Int) := of_decide_eq_true (by (with_reducible assumption))
                obtain ⟨ad133, e133, hx133_0⟩ := Kd.at_bool (Kd.R_reads' HO_7.out).2.2 x8_2 p133 q133
                (try rw [← Nbq238.out] at hx133_0)
                cases e133
                replace p133 := eq_true p133
                replace q133 := eq_true q133
                go_wp2
                go_roundg kj67
                case measure => have := HJ3.out; have := HK2.out; have := HJ43.out; have := HJ67.out; omega
                case rel => exact ⟨(wrap64 (x8_2 + 1)), (by rfl), H', ⟨by have := HJ3.out; have := HK2.out; have := HJ43.out; have := HJ67.out; omega⟩, ⟨by exact HO_7.out⟩, ⟨by exact Kd.V_mono HO_102003.out (fun _ hk => ⟨hk.1, ⟨hk.2.1, ⟨hk.2.2.1, hk.2.2.2.1⟩⟩⟩)⟩, ⟨by exact Kd.V_mono HO_103005.out (fun _ hk => ⟨hk.1, ⟨hk.2.1, ⟨hk.2.2.1, hk.2.2.2.1⟩⟩⟩)⟩, ⟨by exact BK101.out⟩, ⟨by exact BK102.out⟩, ⟨by repeat ((with_reducible (exact HB.out)))⟩⟩
               replace c239 := Bool.eq_false_iff.mpr c239
               subst c239
               have H1 : (some false) = some r := by rw [if_neg (show ¬ (false = true) by decide)] at H; exact H
               clear H
               have H := H1
               clear H1
               exact absurd ((Option.some.inj H).trans HT.out) (by decide)
              rw [if_neg c237] at H
              exact absurd H (by simp)
             rw [if_neg c236] at H
             exact absurd H (by simp)
            rw [if_neg c235] at H
            have c235b0 : (((rd_T50 l1_5 ((rd_T43 l0_3 x8_2).f0)).f0.f0) == 1) = false := beq_eq_false_iff_ne.mpr c235
            have c235b1 : (((rd_T50 l1_5 ((rd_T43 l0_3 x8_2).f0)).f0.f0) != 1) = true := bne_iff_ne.mpr c235
            by_cases c249 : 0 ≤ x8_2
            ·rw [if_pos c249] at H
             have c249b0 : decide (0 ≤ x8_2) = true := decide_eq_true c249
             clear c249
             by_cases c250 : x8_2 < (t113.length : Int)
             ·rw [if_pos c250] at H
              have c250b0 : decide (x8_2 < (t113.length : Int)) = true := decide_eq_true c250
              clear c250
              obtain ⟨bq251, hbq251⟩ : ∃ b_ : Bool, b_ = (rdOf false t113 x8_2) := ⟨_, rfl⟩
              replace H : (if bq251 = true then (if ((rd_T43 l0_3 x8_2).f3.f0) > 0 then (some false) else (cleanselaw20_MatchEqual.l0 kj67 t103 t113 (wrap64 (x8_2 + 1)) a0_0 a0_1 a0_2 l0_3 a1_0 a1_1 a1_2 a1_3 a1_4 l1_5)) else (cleanselaw20_MatchEqual.l0 kj67 t103 t113 (wrap64 (x8_2 + 1)) a0_0 a0_1 a0_2 l0_3 a1_0 a1_1 a1_2 a1_3 a1_4 l1_5)) = some r := by rw [← hbq251] at H; exact H
              have Nbq251 := Aside0.mk hbq251
              clear hbq251
              by_cases c252 : bq251 = true
              ·subst c252
               have H1 : (if ((rd_T43 l0_3 x8_2).f3.f0) > 0 then (some false) else (cleanselaw20_MatchEqual.l0 kj67 t103 t113 (wrap64 (x8_2 + 1)) a0_0 a0_1 a0_2 l0_3 a1_0 a1_1 a1_2 a1_3 a1_4 l1_5)) = some r := by rw [if_pos rfl] at H; exact H
               clear H
               have H := H1
               clear H1
               by_cases c253 : ((rd_T43 l0_3 x8_2).f3.f0) > 0
               ·rw [if_pos c253] at H
                have c253b0 : decide (0 < ((rd_T43 l0_3 x8_2).f3.f0)) = true := decide_eq_true c253
                clear c253
                exact absurd ((Option.some.inj H).trans HT.out) (by decide)
               rw [if_neg c253] at H
               have c253b0 : decide (0 < ((rd_T43 l0_3 x8_2).f3.f0)) = false := decide_eq_false c253
               clear c253
               have H' := Aside0.mk H
               clear H
               have hnb254 := NB117_101.out
               have hnc254 := NB101_117.out
               have hnb255 := NB117_102.out
               have hnc255 := NB102_117.out
               have hnb256 := NB117_120.out
               have hnc256 := NB120_117.out
               have hnb257 := NB117_124.out
               have hnc257 := NB124_117.out
               have hcz258_0 := cel_ BK117.out 0 rfl
               have hcz258_1 := cel_ BK117.out 1 rfl
               have hcz258_2 := cel_ BK117.out 2 rfl
               have hcz258_3 := cel_ BK117.out 3 rfl
               have hcz258_4 := cel_ BK117.out 4 rfl
               have hcz258_5 := cel_ BK117.out 5 rfl
               have hcz258_6 := cel_ BK117.out 6 rfl
               have hfz258_0 := blk_frozen BK117.out 0
               have hfz258_1 := blk_frozen BK117.out 1
               have hfz258_2 := blk_frozen BK117.out 2
               have hfz258_3 := blk_frozen BK117.out 3
               have hfz258_4 := blk_frozen BK117.out 4
               have hfz258_5 := blk_frozen BK117.out 5
               have hfz258_6 := blk_frozen BK117.out 6
               have hnb259 := NB120_101.out
               have hnc259 := NB101_120.out
               have hnb260 := NB120_102.out
               have hnc260 := NB102_120.out
               have hnb261 := NB120_124.out
               have hnc261 := NB124_120.out
               have hcz262_0 := cel_ BK120.out 0 rfl
               have hcz262_1 := cel_ BK120.out 1 rfl
               have hcz262_2 := cel_ BK120.out 2 rfl
               have hfz262_0 := blk_frozen BK120.out 0
               have hfz262_1 := blk_frozen BK120.out 1
               have hfz262_2 := blk_frozen BK120.out 2
               have p134 : 0 ≤ (x8_2 : Int) := of_decide_eq_true (by (with_reducible assumption))
               have q134 : x8_2 < (t113.length : Int) := of_decide_eq_true (by (with_reducible assumption))
               obtain ⟨ad134, e134, hx134_0⟩ := Kd.at_bool (Kd.R_reads' HO_7.out).2.2 x8_2 p134 q134
               (try rw [← Nbq251.out] at hx134_0)
               cases e134
               replace p134 := eq_true p134
               replace q134 := eq_true q134
               go_wp2
               go_roundg kj67
               case measure => have := HJ3.out; have := HK2.out; have := HJ43.out; have := HJ67.out; omega
               case rel => exact ⟨(wrap64 (x8_2 + 1)), (by rfl), H', ⟨by have := HJ3.out; have := HK2.out; have := HJ43.out; have := HJ67.out; omega⟩, ⟨by exact HO_7.out⟩, ⟨by exact Kd.V_mono HO_102003.out (fun _ hk => ⟨hk.1, ⟨hk.2.1, ⟨hk.2.2.1, hk.2.2.2.1⟩⟩⟩)⟩, ⟨by exact Kd.V_mono HO_103005.out (fun _ hk => ⟨hk.1, ⟨hk.2.1, ⟨hk.2.2.1, hk.2.2.2.1⟩⟩⟩)⟩, ⟨by exact BK101.out⟩, ⟨by exact BK102.out⟩, ⟨by repeat ((with_reducible (exact HB.out)))⟩⟩
              replace c252 := Bool.eq_false_iff.mpr c252
              subst c252
              have H1 : (cleanselaw20_MatchEqual.l0 kj67 t103 t113 (wrap64 (x8_2 + 1)) a0_0 a0_1 a0_2 l0_3 a1_0 a1_1 a1_2 a1_3 a1_4 l1_5) = some r := by rw [if_neg (show ¬ (false = true) by decide)] at H; exact H
              clear H
              have H := H1
              clear H1
              have H' := Aside0.mk H
              clear H
              have hnb263 := NB117_101.out
              have hnc263 := NB101_117.out
              have hnb264 := NB117_102.out
              have hnc264 := NB102_117.out
              have hnb265 := NB117_120.out
              have hnc265 := NB120_117.out
              have hnb266 := NB117_124.out
              have hnc266 := NB124_117.out
              have hcz267_0 := cel_ BK117.out 0 rfl
              have hcz267_1 := cel_ BK117.out 1 rfl
              have hcz267_2 := cel_ BK117.out 2 rfl
              have hcz267_3 := cel_ BK117.out 3 rfl
              have hcz267_4 := cel_ BK117.out 4 rfl
              have hcz267_5 := cel_ BK117.out 5 rfl
              have hcz267_6 := cel_ BK117.out 6 rfl
              have hfz267_0 := blk_frozen BK117.out 0
              have hfz267_1 := blk_frozen BK117.out 1
              have hfz267_2 := blk_frozen BK117.out 2
              have hfz267_3 := blk_frozen BK117.out 3
              have hfz267_4 := blk_frozen BK117.out 4
              have hfz267_5 := blk_frozen BK117.out 5
              have hfz267_6 := blk_frozen BK117.out 6
              have hnb268 := NB120_101.out
              have hnc268 := NB101_120.out
              have hnb269 := NB120_102.out
              have hnc269 := NB102_120.out
              have hnb270 := NB120_124.out
              have hnc270 := NB124_120.out
              have hcz271_0 := cel_ BK120.out 0 rfl
              have hcz271_1 := cel_ BK120.out 1 rfl
              have hcz271_2 := cel_ BK120.out 2 rfl
              have hfz271_0 := blk_frozen BK120.out 0
              have hfz271_1 := blk_frozen BK120.out 1
              have hfz271_2 := blk_frozen BK120.out 2
              have p134 : 0 ≤ (x8_2 : Int) := of_decide_eq_true (by (with_reducible assumption))
              have q134 : x8_2 < (t113.length : Int) := of_decide_eq_true (by (with_reducible assumption))
              obtain ⟨ad134, e134, hx134_0⟩ := Kd.at_bool (Kd.R_reads' HO_7.out).2.2 x8_2 p134 q134
              (try rw [← Nbq251.out] at hx134_0)
              cases e134
              replace p134 := eq_true p134
              replace q134 := eq_true q134
              go_wp2
              go_roundg kj67
              case measure => have := HJ3.out; have := HK2.out; have := HJ43.out; have := HJ67.out; omega
              case rel => exact ⟨(wrap64 (x8_2 + 1)), (by rfl), H', ⟨by have := HJ3.out; have := HK2.out; have := HJ43.out; have := HJ67.out; omega⟩, ⟨by exact HO_7.out⟩, ⟨by exact Kd.V_mono HO_102003.out (fun _ hk => ⟨hk.1, ⟨hk.2.1, ⟨hk.2.2.1, hk.2.2.2.1⟩⟩⟩)⟩, ⟨by exact Kd.V_mono HO_103005.out (fun _ hk => ⟨hk.1, ⟨hk.2.1, ⟨hk.2.2.1, hk.2.2.2.1⟩⟩⟩)⟩, ⟨by exact BK101.out⟩, ⟨by exact BK102.out⟩, ⟨by repeat ((with_reducible (exact HB.out)))⟩⟩
             rw [if_neg c250] at H
             exact absurd H (by simp)
            rw [if_neg c249] at H
            exact absurd H (by simp)
           replace c234 := Bool.eq_false_iff.mpr c234
           subst c234
           have H1 : (if 0 ≤ x8_2 then (if x8_2 < (t113.length : Int) then (if rdOf false t113 x8_2 = true then (if ((rd_T43 l0_3 x8_2).f3.f0) > 0 then (some false) else (cleanselaw20_MatchEqual.l0 kj67 t103 t113 (wrap64 (x8_2 + 1)) a0_0 a0_1 a0_2 l0_3 a1_0 a1_1 a1_2 a1_3 a1_4 l1_5)) else (cleanselaw20_MatchEqual.l0 kj67 t103 t113 (wrap64 (x8_2 + 1)) a0_0 a0_1 a0_2 l0_3 a1_0 a1_1 a1_2 a1_3 a1_4 l1_5)) else (none)) else (none)) = some r := by rw [if_neg (show ¬ (false = true) by decide)] at H; exact H
           clear H
           have H := H1
           clear H1
           by_cases c272 : 0 ≤ x8_2
           ·rw [if_pos c272] at H
            have c272b0 : decide (0 ≤ x8_2) = true := decide_eq_true c272
            clear c272
            by_cases c273 : x8_2 < (t113.length : Int)
            ·rw [if_pos c273] at H
             have c273b0 : decide (x8_2 < (t113.length : Int)) = true := decide_eq_true c273
             clear c273
             obtain ⟨bq274, hbq274⟩ : ∃ b_ : Bool, b_ = (rdOf false t113 x8_2) := ⟨_, rfl⟩
             replace H : (if bq274 = true then (if ((rd_T43 l0_3 x8_2).f3.f0) > 0 then (some false) else (cleanselaw20_MatchEqual.l0 kj67 t103 t113 (wrap64 (x8_2 + 1)) a0_0 a0_1 a0_2 l0_3 a1_0 a1_1 a1_2 a1_3 a1_4 l1_5)) else (cleanselaw20_MatchEqual.l0 kj67 t103 t113 (wrap64 (x8_2 + 1)) a0_0 a0_1 a0_2 l0_3 a1_0 a1_1 a1_2 a1_3 a1_4 l1_5)) = some r := by rw [← hbq274] at H; exact H
             have Nbq274 := Aside0.mk hbq274
             clear hbq274
             by_cases c275 : bq274 = true
             ·subst c275
              have H1 : (if ((rd_T43 l0_3 x8_2).f3.f0) > 0 then (some false) else (cleanselaw20_MatchEqual.l0 kj67 t103 t113 (wrap64 (x8_2 + 1)) a0_0 a0_1 a0_2 l0_3 a1_0 a1_1 a1_2 a1_3 a1_4 l1_5)) = some r := by rw [if_pos rfl] at H; exact H
              clear H
              have H := H1
              clear H1
              by_cases c276 : ((rd_T43 l0_3 x8_2).f3.f0) > 0
              ·rw [if_pos c276] at H
               have c276b0 : decide (0 < ((rd_T43 l0_3 x8_2).f3.f0)) = true := decide_eq_true c276
               clear c276
               exact absurd ((Option.some.inj H).trans HT.out) (by decide)
              rw [if_neg c276] at H
              have c276b0 : decide (0 < ((rd_T43 l0_3 x8_2).f3.f0)) = false := decide_eq_false c276
              clear c276
              have H' := Aside0.mk H
              clear H
              have hnb277 := NB117_101.out
              have hnc277 := NB101_117.out
              have hnb278 := NB117_102.out
              have hnc278 := NB102_117.out
              have hnb279 := NB117_120.out
              have hnc279 := NB120_117.out
              have hnb280 := NB117_124.out
              have hnc280 := NB124_117.out
              have hcz281_0 := cel_ BK117.out 0 rfl
              have hcz281_1 := cel_ BK117.out 1 rfl
              have hcz281_2 := cel_ BK117.out 2 rfl
              have hcz281_3 := cel_ BK117.out 3 rfl
              have hcz281_4 := cel_ BK117.out 4 rfl
              have hcz281_5 := cel_ BK117.out 5 rfl
              have hcz281_6 := cel_ BK117.out 6 rfl
              have hfz281_0 := blk_frozen BK117.out 0
              have hfz281_1 := blk_frozen BK117.out 1
              have hfz281_2 := blk_frozen BK117.out 2
              have hfz281_3 := blk_frozen BK117.out 3
              have hfz281_4 := blk_frozen BK117.out 4
              have hfz281_5 := blk_frozen BK117.out 5
              have hfz281_6 := blk_frozen BK117.out 6
              have p135 : 0 ≤ (x8_2 : Int) := of_decide_eq_true (by (with_reducible assumption))
              have q135 : x8_2 < (t113.length : Int) := of_decide_eq_true (by (with_reducible assumption))
              obtain ⟨ad135, e135, hx135_0⟩ := Kd.at_bool (Kd.R_reads' HO_7.out).2.2 x8_2 p135 q135
              (try rw [← Nbq274.out] at hx135_0)
              cases e135
              replace p135 := eq_true p135
              replace q135 := eq_true q135
              go_wp2
              go_roundg kj67
              case measure => have := HJ3.out; have := HK2.out; have := HJ43.out; have := HJ67.out; omega
              case rel => exact ⟨(wrap64 (x8_2 + 1)), (by rfl), H', ⟨by have := HJ3.out; have := HK2.out; have := HJ43.out; have := HJ67.out; omega⟩, ⟨by exact HO_7.out⟩, ⟨by exact Kd.V_mono HO_102003.out (fun _ hk => ⟨hk.1, ⟨hk.2.1, ⟨hk.2.2.1, hk.2.2.2.1⟩⟩⟩)⟩, ⟨by exact Kd.V_mono HO_103005.out (fun _ hk => ⟨hk.1, ⟨hk.2.1, ⟨hk.2.2.1, hk.2.2.2.1⟩⟩⟩)⟩, ⟨by exact BK101.out⟩, ⟨by exact BK102.out⟩, ⟨by repeat ((with_reducible (exact HB.out)))⟩⟩
             replace c275 := Bool.eq_false_iff.mpr c275
             subst c275
             have H1 : (cleanselaw20_MatchEqual.l0 kj67 t103 t113 (wrap64 (x8_2 + 1)) a0_0 a0_1 a0_2 l0_3 a1_0 a1_1 a1_2 a1_3 a1_4 l1_5) = some r := by rw [if_neg (show ¬ (false = true) by decide)] at H; exact H
             clear H
             have H := H1
             clear H1
             have H' := Aside0.mk H
             clear H
             have hnb282 := NB117_101.out
             have hnc282 := NB101_117.out
             have hnb283 := NB117_102.out
             have hnc283 := NB102_117.out
             have hnb284 := NB117_120.out
             have hnc284 := NB120_117.out
             have hnb285 := NB117_124.out
             have hnc285 := NB124_117.out
             have hcz286_0 := cel_ BK117.out 0 rfl
             have hcz286_1 := cel_ BK117.out 1 rfl
             have hcz286_2 := cel_ BK117.out 2 rfl
             have hcz286_3 := cel_ BK117.out 3 rfl
             have hcz286_4 := cel_ BK117.out 4 rfl
             have hcz286_5 := cel_ BK117.out 5 rfl
             have hcz286_6 := cel_ BK117.out 6 rfl
             have hfz286_0 := blk_frozen BK117.out 0
             have hfz286_1 := blk_frozen BK117.out 1
             have hfz286_2 := blk_frozen BK117.out 2
             have hfz286_3 := blk_frozen BK117.out 3
             have hfz286_4 := blk_frozen BK117.out 4
             have hfz286_5 := blk_frozen BK117.out 5
             have hfz286_6 := blk_frozen BK117.out 6
             have p135 : 0 ≤ (x8_2 : Int) := of_decide_eq_true (by (with_reducible assumption))
             have q135 : x8_2 < (t113.length : Int) := of_decide_eq_true (by (with_reducible assumption))
             obtain ⟨ad135, e135, hx135_0⟩ := Kd.at_bool (Kd.R_reads' HO_7.out).2.2 x8_2 p135 q135
             (try rw [← Nbq274.out] at hx135_0)
             cases e135
             replace p135 := eq_true p135
             replace q135 := eq_true q135
             go_wp2
             go_roundg kj67
             case measure => have := HJ3.out; have := HK2.out; have := HJ43.out; have := HJ67.out; omega
             case rel => exact ⟨(wrap64 (x8_2 + 1)), (by rfl), H', ⟨by have := HJ3.out; have := HK2.out; have := HJ43.out; have := HJ67.out; omega⟩, ⟨by exact HO_7.out⟩, ⟨by exact Kd.V_mono HO_102003.out (fun _ hk => ⟨hk.1, ⟨hk.2.1, ⟨hk.2.2.1, hk.2.2.2.1⟩⟩⟩)⟩, ⟨by exact Kd.V_mono HO_103005.out (fun _ hk => ⟨hk.1, ⟨hk.2.1, ⟨hk.2.2.1, hk.2.2.2.1⟩⟩⟩)⟩, ⟨by exact BK101.out⟩, ⟨by exact BK102.out⟩, ⟨by repeat ((with_reducible (exact HB.out)))⟩⟩
            rw [if_neg c273] at H
            exact absurd H (by simp)
           rw [if_neg c272] at H
           exact absurd H (by simp)
         rw [if_neg c66] at H
         exact absurd H (by simp)
        rw [if_neg c65] at H
        exact absurd H (by simp)
      rw [if_neg c43] at H
      exact absurd H (by simp)
     rw [if_neg c42] at H
     exact absurd H (by simp)
    rw [if_neg c41] at H
    have c41b0 : decide (x8_2 < (t113.length : Int)) = false := decide_eq_false c41
    clear c41
    obtain rfl := Option.some.inj H
    go_wp2
    go_ret
    exact ⟨by rfl, by repeat ((with_reducible (exact HB.out)))⟩
  rw [if_neg c34] at H
  have c34b0 : ((t113.length : Int) == (l0_3.length : Int)) = false := beq_eq_false_iff_ne.mpr c34
  have c34b1 : ((t113.length : Int) != (l0_3.length : Int)) = true := bne_iff_ne.mpr c34
  have c34b2 : (t113.length == l0_3.length) = false := by (simp at c34 ⊢; omega)
  exact absurd ((Option.some.inj H).trans HT.out) (by decide)

end Go.Proofs.YtiffkknhnmpgbaaDoor.LEqual
end

section
/- The plain law of MatchEqual. -/
namespace Go.Proofs.YtiffkknhnmpgbaaDoor.Pure
open Go Go.RowKit Go.Proofs.YtiffkknhnmpgbaaDoor.Q Go.Proofs.YtiffkknhnmpgbaaDoor.R Go.Proofs.YtiffkknhnmpgbaaDoor.LEqual Go.Proofs.YtiffkknhnmpgbaaDoorW.PrintWords Go.Proofs.YtiffkknhnmpgbaaDoorW.PrintLast Go.Proofs.YtiffkknhnmpgbaaDoorW.PrintMore
set_option linter.unusedVariables false
set_option linter.unusedSimpArgs false
theorem valB_size {a0 a1 : Int} {a2 : ByteArray} (h : valB a0 a1 a2 = true) : a2.size ≤ 200 := by
  unfold valB valJ at h
  by_cases h1 : a0 = 1
  · subst h1
    simp at h
    omega
  · rw [if_neg h1] at h
    have e : a2.toList = [] := by
      by_cases he : a2.toList = []
      · exact he
      · have : (a2.toList != ([] : List UInt8)) = true := by simpa using he
        rw [this] at h
        simp at h
    have : a2.toList.length = a2.size := tl_size a2
    rw [e] at this
    simp at this
    omega
/-- Whether a value is as_ good as_ itself. -/
theorem same_err (v : Ce) : (ofS 1 0 v.f0.f0 v.f0.f1 v.f0.f2 v.f0.f0 v.f0.f1 v.f0.f2).2.2 = (if valB v.f0.f0 v.f0.f1 v.f0.f2 = true then 0 else 1) ∧
    (valB v.f0.f0 v.f0.f1 v.f0.f2 = true → (ofS 1 0 v.f0.f0 v.f0.f1 v.f0.f2 v.f0.f0 v.f0.f1 v.f0.f2).1 = if v.f0.f0 = 0 then 0 else 1) := by
  unfold ofS ofT
  by_cases h : valB v.f0.f0 v.f0.f1 v.f0.f2 = true
  · simp only [h, if_true]
    by_cases h0 : v.f0.f0 = 0 <;> simp [h0]
  · simp only [h]
    simp
theorem hold_same (t : Wg) (hg : goodB t = true) (a : List Ce) (h0 : 0 ≤ t.f0) (h1 : t.f0 < (a.length : Int)) (v : Ce) (hv : rd_T50 a t.f0 = v) :
    (valB v.f0.f0 v.f0.f1 v.f0.f2 = true → v.f0.f0 ≠ 0 → (t.f1 = 5 → (v.f0.f0 = 2 ∨ v.f0.f0 = 3) ∧ t.f2 < 1000000000) → (t.f1 ≠ 5 → t.f1 ≠ 1 → v.f0.f0 = 1) → holdS t a a = true) ∧
    (holdS t a a = true → valB v.f0.f0 v.f0.f1 v.f0.f2 = true ∧ (v.f0.f0 = 0 → t.f3.f0 ≤ 0) ∧ (v.f0.f0 ≠ 0 → (t.f1 = 5 → (v.f0.f0 = 2 ∨ v.f0.f0 = 3) ∧ t.f2 < 1000000000) ∧ (t.f1 ≠ 5 → t.f1 ≠ 1 → v.f0.f0 = 1))) := by
  obtain ⟨⟨n, d, hL⟩, g1, g2, g3, g4, _⟩ := good_out hg
  have e1 := hL.fst
  have e2 := hL.snd
  have e3 := hL.le
  simp only at e1 e2
  unfold holdS
  rw [if_pos ⟨h0, h1, h1⟩, hv]
  unfold ofC
  constructor
  · intro k1 k2 k3 k4
    have hz := valB_size k1
    have herr : (ofS t.f1 t.f2 v.f0.f0 v.f0.f1 v.f0.f2 v.f0.f0 v.f0.f1 v.f0.f2).2.2 = 0 := by
      unfold ofS ofT withE
      rw [if_neg (by omega), if_pos k1, if_pos k1, if_neg (by rintro ⟨m5, hh⟩; have := (k3 m5).2; omega), if_neg (by omega)]
      by_cases m1 : t.f1 = 1
      · rw [if_pos m1]; simp
      · rw [if_neg m1, if_neg (by
          rintro (hh | ⟨m5, hh⟩ | ⟨m5, hh⟩)
          · exact hh rfl
          · have := (k3 m5).1; omega
          · exact hh (k4 m5 m1))]
        by_cases m5 : t.f1 = 5
        · rw [if_pos m5]
        · rw [if_neg m5]
    obtain ⟨f1, f2⟩ := ofS_self t.f1 t.f2 v.f0.f0 v.f0.f1 v.f0.f2 hz herr k2
    rw [herr, f1, f2, e1, e2]
    simp
    omega
  · intro hh
    rw [Bool.and_eq_true, decide_eq_true_eq, decide_eq_true_eq] at hh
    obtain ⟨q1, q2⟩ := hh
    by_cases k1 : valB v.f0.f0 v.f0.f1 v.f0.f2 = true
    · refine ⟨k1, fun kz => ?_, fun kz => ?_⟩
      · have : (ofS t.f1 t.f2 v.f0.f0 v.f0.f1 v.f0.f2 v.f0.f0 v.f0.f1 v.f0.f2) = (0, 1, 0) := by
          unfold ofS ofT at q1 ⊢
          rw [if_neg (by omega), if_pos k1, if_pos k1] at q1 ⊢
          by_cases c : t.f1 = 5 ∧ (t.f2 < 0 ∨ 1000000000 ≤ t.f2)
          · rw [if_pos c] at q1; exact absurd q1 (by decide)
          · rw [if_neg c, if_pos (.inl kz)]
        rw [this] at q2
        simp at q2
        exact q2
      · unfold ofS ofT at q1
        rw [if_neg (by omega), if_pos k1, if_pos k1] at q1
        by_cases c : t.f1 = 5 ∧ (t.f2 < 0 ∨ 1000000000 ≤ t.f2)
        · rw [if_pos c] at q1; exact absurd q1 (by decide)
        · rw [if_neg c, if_neg (by omega)] at q1
          by_cases m1 : t.f1 = 1
          · exact ⟨fun m5 => by omega, fun _ hn => absurd m1 hn⟩
          · rw [if_neg m1] at q1
            by_cases c2 : v.f0.f0 ≠ v.f0.f0 ∨ (t.f1 = 5 ∧ v.f0.f0 ≠ 2 ∧ v.f0.f0 ≠ 3) ∨ (t.f1 ≠ 5 ∧ v.f0.f0 ≠ 1)
            · rw [if_pos c2] at q1; exact absurd q1 (by decide)
            · exact ⟨fun m5 => by omega, fun m5 _ => by omega⟩
    · exfalso
      unfold ofS at q1
      rw [if_neg (by omega), if_neg k1] at q1
      exact absurd q1 (by decide)
set_option maxHeartbeats 1000000 in
theorem j3_step (k : Nat) (x7 : List Bool) (i : Int) (b h : Bool) (m0 : ByteArray) (m1 m2 : Int) (l : List Wg) (r0 : Int) (r1 r2 : ByteArray) (r3 r4 : Int) (a : List Ce) (t0 t1 t2 t3 t4 t5 t6 kd v1 : Int) (v2 : ByteArray) (hx : rdOf false x7 i = h) (h0 : 0 ≤ i) (h1 : i < (x7.length : Int))
    (F : b = true → ((t1 = 5 ∧ (kd = 2 ∨ kd = 3) ∧ t2 < 1000000000) ∨ t1 = 1 ∨ (t1 ≠ 5 ∧ t1 ≠ 1 ∧ kd = 1)) → h = true)
    (G : h = true → b = false ∨ ¬ ((t1 = 5 ∧ (kd = 2 ∨ kd = 3) ∧ t2 < 1000000000) ∨ t1 = 1 ∨ (t1 ≠ 5 ∧ t1 ≠ 1 ∧ kd = 1)) → t3 ≤ 0) :
    cleanselaw20_MatchEqual.j3 (k + 1) true x7 i b m0 m1 m2 l r0 r1 r2 r3 r4 a t0 t1 t2 t3 t4 t5 t6 kd v1 v2 = cleanselaw20_MatchEqual.l0 k true x7 (wrap64 (i + 1)) m0 m1 m2 l r0 r1 r2 r3 r4 a := by
  simp only [cleanselaw20_MatchEqual.j3, hx, if_pos h0, if_pos h1]
  cases b with
  | false =>
    cases h with
    | false => simp only [Bool.false_eq_true, if_false]; (repeat' split) <;> rfl
    | true =>
      have G2 := G rfl (.inl rfl)
      clear F G
      simp only [Bool.false_eq_true, if_false, if_true]
      (repeat' split) <;> first | rfl | (exfalso; omega)
  | true =>
    cases h with
    | false =>
      have F2 : ¬ ((t1 = 5 ∧ (kd = 2 ∨ kd = 3) ∧ t2 < 1000000000) ∨ t1 = 1 ∨ (t1 ≠ 5 ∧ t1 ≠ 1 ∧ kd = 1)) := fun hp => Bool.noConfusion (F rfl hp)
      clear F G
      simp only [Bool.false_eq_true, if_false, if_true]
      (repeat' split) <;> first | rfl | (exfalso; omega)
    | true =>
      have G2 : ((t1 = 5 ∧ (kd = 2 ∨ kd = 3) ∧ t2 < 1000000000) ∨ t1 = 1 ∨ (t1 ≠ 5 ∧ t1 ≠ 1 ∧ kd = 1)) ∨ t3 ≤ 0 := (Classical.em _).imp id (fun h => G rfl (.inr h))
      clear F G
      simp only [Bool.false_eq_true, if_false, if_true]
      (repeat' split) <;> first | rfl | (exfalso; omega)
theorem equal_l0 (m0 : ByteArray) (m1 m2 : Int) (l : List Wg) (hl : l.length ≤ 200) (hT : TsOk l) (hg : l.all goodB = true) (r : Rec) (ha : CsFit r.r5) : ∀ (d i : Nat), d + i = l.length →
    Ev (fun k => cleanselaw20_MatchEqual.l0 k true (l.map fun t => holdS t r.r5 r.r5) (i : Int) m0 m1 m2 l r.r0 r.r1 r.r2 r.r3 r.r4 r.r5) true
  | 0, i, hd => Ev.step (f := fun _ => some true) (fun k => by simp only [cleanselaw20_MatchEqual.l0]; rw [if_neg (by simp; omega)]) (Ev.now _)
  | d + 1, i, hd => by
    have hi : i < l.length := by omega
    have hr : rd_T43 l (i : Int) = l[i] := by simp [rd_T43, List.getD_eq_getElem?_getD, hi]
    have hx : rdOf false (l.map fun t => holdS t r.r5 r.r5) (i : Int) = holdS l[i] r.r5 r.r5 := by simp [rdOf, List.getD_eq_getElem?_getD, hi]
    have ih := equal_l0 m0 m1 m2 l hl hT hg r ha d (i + 1) (by omega)
    have hlm : (l.map fun t => holdS t r.r5 r.r5).length = l.length := by simp
    have gi := List.all_eq_true.1 hg _ (List.getElem_mem hi)
    have ti := hT _ (List.getElem_mem hi)
    generalize (l.map fun t => holdS t r.r5 r.r5) = x7 at hx ih hlm ⊢
    have hj2 : ∀ b : Bool, b = decide (¬ (0 ≤ l[i].f0 ∧ l[i].f0 < (r.r5.length : Int))) → Ev (fun k => cleanselaw20_MatchEqual.j2 k true x7 (i : Int) b m0 m1 m2 l r.r0 r.r1 r.r2 r.r3 r.r4 r.r5 l[i].f0 l[i].f1 l[i].f2 l[i].f3.f0 l[i].f3.f1 l[i].f4 l[i].f5) true := by
      intro b hb
      by_cases hc : 0 ≤ l[i].f0 ∧ l[i].f0 < (r.r5.length : Int)
      · obtain rfl : b = false := by rw [hb]; simp; omega
        obtain ⟨v, hv⟩ : ∃ v, rd_T50 r.r5 l[i].f0 = v := ⟨_, rfl⟩
        have hfit := ha.2 _ (rd_mem hc.1 hc.2)
        rw [hv] at hfit
        obtain ⟨p1, p2⟩ := hold_same l[i] gi r.r5 hc.1 hc.2 v hv
        obtain ⟨e1, e2⟩ := same_err v
        refine Ev.step (fun k => by simp only [cleanselaw20_MatchEqual.j2]; rw [if_neg (by decide), if_pos hc.1, if_pos hc.2, hv]) (Ev.bind (of_f 1 0 v.f0.f0 v.f0.f1 v.f0.f2 v.f0.f0 v.f0.f1 v.f0.f2 (by decide) ⟨by omega, by omega⟩ hfit.1 hfit.1 hfit.2 hfit.2) ?_)
        rw [e1]
        by_cases hvb : valB v.f0.f0 v.f0.f1 v.f0.f2 = true
        · rw [if_pos hvb]
          refine Ev.congr (fun k => by rw [if_pos rfl, e2 hvb]) ?_
          refine Ev.step (fun k => j3_step k x7 (i : Int) _ (holdS l[i] r.r5 r.r5) m0 m1 m2 l r.r0 r.r1 r.r2 r.r3 r.r4 r.r5 _ _ _ _ _ _ _ v.f0.f0 v.f0.f1 v.f0.f2 hx (by omega) (by omega) ?_ ?_) (by rw [wrap_succ _ (by omega)]; exact ih)
          · intro hb1 hfp
            have f1 : l[i].f1 = 5 → (v.f0.f0 = 2 ∨ v.f0.f0 = 3) ∧ l[i].f2 < 1000000000 := fun h5 => by omega
            have f2 : l[i].f1 ≠ 5 → l[i].f1 ≠ 1 → v.f0.f0 = 1 := fun h5 h1 => by omega
            have kz : v.f0.f0 ≠ 0 := by
              intro hz
              rw [if_pos hz] at hb1
              simp at hb1
            exact p1 hvb kz f1 f2
          · intro hh hn
            obtain ⟨q1, q2, q3⟩ := p2 hh
            by_cases kz : v.f0.f0 = 0
            · exact q2 kz
            · exfalso
              rcases hn with hn | hn
              · rw [if_neg kz] at hn; simp at hn
              · by_cases h5 : l[i].f1 = 5
                · have := (q3 kz).1 h5; omega
                · by_cases h1 : l[i].f1 = 1
                  · omega
                  · have := (q3 kz).2 h5 h1; omega
        · rw [if_neg hvb]
          refine Ev.congr (fun k => by rw [if_neg (by decide)]) ?_
          refine Ev.step (fun k => j3_step k x7 (i : Int) _ (holdS l[i] r.r5 r.r5) m0 m1 m2 l r.r0 r.r1 r.r2 r.r3 r.r4 r.r5 _ _ _ _ _ _ _ v.f0.f0 v.f0.f1 v.f0.f2 hx (by omega) (by omega) ?_ ?_) (by rw [wrap_succ _ (by omega)]; exact ih)
          · intro hb1; cases hb1
          · intro hh _
            exact absurd (p2 hh).1 hvb
      · obtain rfl : b = true := by rw [hb]; simp; omega
        have hf : holdS l[i] r.r5 r.r5 = false := by unfold holdS; rw [if_neg (fun h => hc ⟨h.1, h.2.1⟩)]
        rw [hf] at hx
        refine Ev.step (fun k => by simp only [cleanselaw20_MatchEqual.j2]; rw [if_pos trivial, if_pos (by omega), if_pos (by omega), hx, if_neg (by decide), wrap_succ _ (by omega)]) ih
    refine Ev.step (fun k => by simp only [cleanselaw20_MatchEqual.l0]; rw [if_pos (by omega), if_pos (by omega), if_pos (by omega), hr]) ?_
    by_cases c1 : l[i].f0 < 0
    · exact Ev.congr (fun k => by rw [if_pos c1]) (hj2 true (by simp; omega))
    · exact Ev.congr (fun k => by rw [if_neg c1]) (hj2 _ (by rw [decide_eq_decide]; omega))
theorem equal_ev (m0 : ByteArray) (m1 m2 : Int) (l : List Wg) (a : Rec) (hl : TsOk l) (ha : CsOk a.r5) : Ev (fun k => cleanselaw20_MatchEqual.f k m0 m1 m2 l a.r0 a.r1 a.r2 a.r3 a.r4 a.r5) true := by
  have j0t : Ev (fun k => cleanselaw20_MatchEqual.j0 k true true m0 m1 m2 l a.r0 a.r1 a.r2 a.r3 a.r4 a.r5) true := Ev.step (f := fun _ => some true) (fun k => by simp only [cleanselaw20_MatchEqual.j0]; rw [if_pos trivial]) (Ev.now _)
  obtain ⟨c, hc1, hc2⟩ := few_f2 [(⟨m0, m1, m2, l⟩ : Ma)] [(⟨⟨a.r0, a.r1, a.r2⟩, a.r3, a.r4, a.r5⟩ : Rc)] 1 (by omega)
  refine Ev.congr (fun k => by unfold cleanselaw20_MatchEqual.f cleanselaw20_head.f; rw [Option.bind_some]) (Ev.bind hc1 ?_)
  cases c with
  | false => exact Ev.congr (fun k => by rw [if_neg (by decide)]) j0t
  | true =>
    obtain ⟨_, _, f1, f2⟩ := hc2 rfl
    have fa := CsFit.of ha (f2 _ List.mem_cons_self)
    have fl : l.length ≤ 20 := f1 _ List.mem_cons_self
    refine Ev.congr (fun k => by rw [if_pos rfl]) (Ev.bind (refAbout_f m0 m1 m2 l hl a a) ?_)
    cases hA : aboutB m1 m2 l a.r3 a.r3 with
    | false => exact j0t
    | true =>
      obtain ⟨v1, v2, v3, v4⟩ := valid_out (about_valid hA).1
      have hs := score_f m0 m1 m2 l hl a a fa fa
      unfold scoreS at hs
      rw [if_pos hA] at hs
      refine Ev.step (fun k => by simp only [cleanselaw20_MatchEqual.j0]; rw [if_neg (by decide)]) (Ev.bind hs ?_)
      refine Ev.congr (fun k => by rw [if_pos (by simp)]; rfl) (equal_l0 m0 m1 m2 l v3 hl v4 a fa l.length 0 (by omega))
end Go.Proofs.YtiffkknhnmpgbaaDoor.Pure
end
