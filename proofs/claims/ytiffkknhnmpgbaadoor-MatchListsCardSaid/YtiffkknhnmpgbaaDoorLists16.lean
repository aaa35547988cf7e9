/- Parts of the proof of Lists: words, contracts and plain laws. -/
import Derived.Test.YtiffkknhnmpgbaaDoorProg
import Derived.Below
import Derived.Deep.Draws
import Derived.Deep.AppendLies
import Derived.Maps.AppendAt
import Derived.OwnWalk
import Derived.Laws.BytesArg
import Derived.Laws.MakeOwn
import Derived.Laws.OwnMore
import Derived.Deep.OwnRows
import Derived.Tactics
import Derived.Lib.ConvBytes
import Derived.Laws.Slices
import Derived.WalkKit
import Derived.KernelRfl
import Derived.RowKit3
import Derived.Deep.LoopGhost
import Derived.Deep.QuietTactic
import Derived.BigQuiet
import Derived.WideLaws
import Derived.Deep.DeepCutAuto
import Derived.Deep.CutBlock
import Derived.Deep.RegionHeld3
import Derived.Laws.Rows
import Derived.Lib.AppendStr
import Derived.ArgAppend
import Derived.Laws.IdiomCopy
import Derived.OrdersHeld
import Derived.Laws.BitsLemmas
import Derived.RowKit
import Derived.Test.YtiffkknhnmpgbaaDoorLists1
import Derived.Test.YtiffkknhnmpgbaaDoorLists8
import Derived.Test.YtiffkknhnmpgbaaDoorLists12
import Derived.Test.YtiffkknhnmpgbaaDoorLists13
import Derived.Test.YtiffkknhnmpgbaaDoorLists14
import Derived.Test.YtiffkknhnmpgbaaDoorLists15
namespace Go.Proofs.YtiffkknhnmpgbaaDoor.Q
end Go.Proofs.YtiffkknhnmpgbaaDoor.Q
namespace Go.Proofs.YtiffkknhnmpgbaaDoor.R
end Go.Proofs.YtiffkknhnmpgbaaDoor.R
namespace Go.Proofs.YtiffkknhnmpgbaaDoor.U
end Go.Proofs.YtiffkknhnmpgbaaDoor.U
namespace Go.Proofs.YtiffkknhnmpgbaaDoor.V
end Go.Proofs.YtiffkknhnmpgbaaDoor.V
section
namespace Go.Proofs.YtiffkknhnmpgbaaDoor.Q
open Go.RowKit Go.Proofs.YtiffkknhnmpgbaaDoorW.PrintWords Go.Proofs.YtiffkknhnmpgbaaDoorW.PrintLast Go.Proofs.YtiffkknhnmpgbaaDoorW.PrintMore
attribute [local go_sem] max2_int min2_int max_two min_two max_three min_three max_four min_four   -- for this text's walks alone
set_option linter.unusedVariables false
set_option linter.unusedSimpArgs false



def errW : Option Int → Value
 | none => .nilIface
 | some c => .iface 0 (.int .i64 c)
theorem errW_none : errW none = .nilIface := rfl
theorem errW_some (c : Int) : errW (some c) = .iface 0 (.int .i64 c) := rfl

theorem info3 : (Tryd.prog.info? 3).map (fun i => (i.zero, i.size, i.bytes)) = some (some (.int .i64 0), 1, 8) := by kernel_rfl
theorem info4 : (Tryd.prog.info? 4).map (fun i => (i.zero, i.size, i.bytes)) = some (some (.bool false), 1, 1) := by kernel_rfl
theorem info5 : (Tryd.prog.info? 5).map (fun i => (i.zero, i.size, i.bytes)) = some (some (.int .u8 0), 1, 1) := by kernel_rfl
-- the values' own types

end Go.Proofs.YtiffkknhnmpgbaaDoor.Q
end

section
namespace Go.Proofs.YtiffkknhnmpgbaaDoor.R
open Go.RowKit Go.Proofs.YtiffkknhnmpgbaaDoor.Q Go.Proofs.YtiffkknhnmpgbaaDoorW.PrintWords Go.Proofs.YtiffkknhnmpgbaaDoorW.PrintLast Go.Proofs.YtiffkknhnmpgbaaDoorW.PrintMore
attribute [local go_sem] max2_int min2_int max_two min_two max_three min_three max_four min_four   -- for this text's walks alone
set_option linter.unusedVariables false
set_option linter.unusedSimpArgs false



def errW : Option Int → Value
 | none => .nilIface
 | some c => .iface 0 (.int .i64 c)
theorem errW_none : errW none = .nilIface := rfl
theorem errW_some (c : Int) : errW (some c) = .iface 0 (.int .i64 c) := rfl

-- the values' own types
/-! #### struct type 41 -/
structure S41 where
 f0 : Int
 f1 : Int
def z41 : S41 := ⟨(0 : Int), (0 : Int)⟩
def k41 : Kd S41 := Kd.iso (Kd.pair (Kd.int .i64) (Kd.int .i64)) (fun x : S41 => (x.f0, x.f1))
theorem k41_open {w : World} {x : S41} {cs : List Value} (h : k41.K w x cs) : cs = [.int .i64 x.f0, .int .i64 x.f1] := by
 obtain ⟨_, _, rfl, rfl, rfl⟩ := h
 exact rfl
theorem k41_mk (w : World) (x : S41)  : k41.K w x [.int .i64 x.f0, .int .i64 x.f1] := ⟨[.int .i64 x.f0], [.int .i64 x.f1], rfl, rfl, rfl⟩
/-! #### struct type 48 -/
structure S48 where
 f0 : Int
 f1 : Int
 f2 : ByteArray
def z48 : S48 := ⟨(0 : Int), (0 : Int), (⟨#[]⟩ : ByteArray)⟩
def k48 : Kd S48 := Kd.iso (Kd.pair (Kd.int .i64) (Kd.pair (Kd.int .i64) Kd.string)) (fun x : S48 => (x.f0, x.f1, x.f2))
theorem k48_open {w : World} {x : S48} {cs : List Value} (h : k48.K w x cs) : cs = [.int .i64 x.f0, .int .i64 x.f1, .string x.f2] := by
 obtain ⟨_, _, rfl, rfl, ⟨_, _, rfl, rfl, rfl⟩⟩ := h
 exact rfl
theorem k48_mk (w : World) (x : S48)  : k48.K w x [.int .i64 x.f0, .int .i64 x.f1, .string x.f2] := ⟨[.int .i64 x.f0], [.int .i64 x.f1, .string x.f2], rfl, rfl, ⟨[.int .i64 x.f1], [.string x.f2], rfl, rfl, rfl⟩⟩
/-! #### struct type 50 -/
structure S50 where
 f0 : S48
 f1 : Int
 f2 : Int
def z50 : S50 := ⟨z48, (0 : Int), (0 : Int)⟩
def k50 : Kd S50 := Kd.iso (Kd.pair k48 (Kd.pair (Kd.int .i64) (Kd.int .i64))) (fun x : S50 => (x.f0, x.f1, x.f2))
theorem k50_open {w : World} {x : S50} {cs : List Value} (h : k50.K w x cs) : cs = [.int .i64 x.f0.f0, .int .i64 x.f0.f1, .string x.f0.f2, .int .i64 x.f1, .int .i64 x.f2] := by
 obtain ⟨_, _, rfl, s0, ⟨_, _, rfl, rfl, rfl⟩⟩ := h
 obtain rfl := k48_open s0
 exact rfl
theorem k50_mk (w : World) (x : S50)  : k50.K w x [.int .i64 x.f0.f0, .int .i64 x.f0.f1, .string x.f0.f2, .int .i64 x.f1, .int .i64 x.f2] := ⟨[.int .i64 x.f0.f0, .int .i64 x.f0.f1, .string x.f0.f2], [.int .i64 x.f1, .int .i64 x.f2], rfl, (k48_mk w x.f0 ), ⟨[.int .i64 x.f1], [.int .i64 x.f2], rfl, rfl, rfl⟩⟩
def rd_T50 (xs : List S50) (i : Int) : S50 := xs.getD i.toNat z50
theorem at_T50 {w : World} {A : Option Addr} {n : Nat} {xs : List S50} (h : Kd.C k50 w A n xs) (i : Int) (h0 : 0 ≤ i) (h1 : i < n) : ∃ ad , A = some ad ∧ w.cell? (ad.add (i.toNat * 5)) = some (.int .i64 (rd_T50 xs i).f0.f0) ∧ w.cell? ⟨(ad.add (i.toNat * 5)).block, (ad.add (i.toNat * 5)).off + 1, none⟩ = some (.int .i64 (rd_T50 xs i).f0.f1) ∧ w.cell? ⟨(ad.add (i.toNat * 5)).block, (ad.add (i.toNat * 5)).off + 2, none⟩ = some (.string (rd_T50 xs i).f0.f2) ∧ w.cell? ⟨(ad.add (i.toNat * 5)).block, (ad.add (i.toNat * 5)).off + 3, none⟩ = some (.int .i64 (rd_T50 xs i).f1) ∧ w.cell? ⟨(ad.add (i.toNat * 5)).block, (ad.add (i.toNat * 5)).off + 4, none⟩ = some (.int .i64 (rd_T50 xs i).f2) := by
 obtain ⟨ad, c, e, _, hK, hc0⟩ := Kd.C_get h z50 i h0 h1
 have hc : ∀ j u, c[j]? = some u → w.cell? (ad.add (i.toNat * 5 + j)) = some u := hc0
 obtain rfl := k50_open hK
 exact ⟨ad, e, hc 0 _ rfl, by rw [← add_field _ _ 1 (by omega)]; exact hc 1 _ rfl, by rw [← add_field _ _ 2 (by omega)]; exact hc 2 _ rfl, by rw [← add_field _ _ 3 (by omega)]; exact hc 3 _ rfl, by rw [← add_field _ _ 4 (by omega)]; exact hc 4 _ rfl⟩

/-! #### struct type 43 -/
structure S43 where
 f0 : Int
 f1 : Int
 f2 : Int
 f3 : S41
 f4 : Int
 f5 : Int
def z43 : S43 := ⟨(0 : Int), (0 : Int), (0 : Int), z41, (0 : Int), (0 : Int)⟩
def k43 : Kd S43 := Kd.iso (Kd.pair (Kd.int .i64) (Kd.pair (Kd.int .i64) (Kd.pair (Kd.int .i64) (Kd.pair k41 (Kd.pair (Kd.int .i64) (Kd.int .i64)))))) (fun x : S43 => (x.f0, x.f1, x.f2, x.f3, x.f4, x.f5))
theorem k43_open {w : World} {x : S43} {cs : List Value} (h : k43.K w x cs) : cs = [.int .i64 x.f0, .int .i64 x.f1, .int .i64 x.f2, .int .i64 x.f3.f0, .int .i64 x.f3.f1, .int .i64 x.f4, .int .i64 x.f5] := by
 obtain ⟨_, _, rfl, rfl, ⟨_, _, rfl, rfl, ⟨_, _, rfl, rfl, ⟨_, _, rfl, s3, ⟨_, _, rfl, rfl, rfl⟩⟩⟩⟩⟩ := h
 obtain rfl := k41_open s3
 exact rfl
theorem k43_mk (w : World) (x : S43)  : k43.K w x [.int .i64 x.f0, .int .i64 x.f1, .int .i64 x.f2, .int .i64 x.f3.f0, .int .i64 x.f3.f1, .int .i64 x.f4, .int .i64 x.f5] := ⟨[.int .i64 x.f0], [.int .i64 x.f1, .int .i64 x.f2, .int .i64 x.f3.f0, .int .i64 x.f3.f1, .int .i64 x.f4, .int .i64 x.f5], rfl, rfl, ⟨[.int .i64 x.f1], [.int .i64 x.f2, .int .i64 x.f3.f0, .int .i64 x.f3.f1, .int .i64 x.f4, .int .i64 x.f5], rfl, rfl, ⟨[.int .i64 x.f2], [.int .i64 x.f3.f0, .int .i64 x.f3.f1, .int .i64 x.f4, .int .i64 x.f5], rfl, rfl, ⟨[.int .i64 x.f3.f0, .int .i64 x.f3.f1], [.int .i64 x.f4, .int .i64 x.f5], rfl, (k41_mk w x.f3 ), ⟨[.int .i64 x.f4], [.int .i64 x.f5], rfl, rfl, rfl⟩⟩⟩⟩⟩
def rd_T43 (xs : List S43) (i : Int) : S43 := xs.getD i.toNat z43
theorem at_T43 {w : World} {A : Option Addr} {n : Nat} {xs : List S43} (h : Kd.C k43 w A n xs) (i : Int) (h0 : 0 ≤ i) (h1 : i < n) : ∃ ad , A = some ad ∧ w.cell? (ad.add (i.toNat * 7)) = some (.int .i64 (rd_T43 xs i).f0) ∧ w.cell? ⟨(ad.add (i.toNat * 7)).block, (ad.add (i.toNat * 7)).off + 1, none⟩ = some (.int .i64 (rd_T43 xs i).f1) ∧ w.cell? ⟨(ad.add (i.toNat * 7)).block, (ad.add (i.toNat * 7)).off + 2, none⟩ = some (.int .i64 (rd_T43 xs i).f2) ∧ w.cell? ⟨(ad.add (i.toNat * 7)).block, (ad.add (i.toNat * 7)).off + 3, none⟩ = some (.int .i64 (rd_T43 xs i).f3.f0) ∧ w.cell? ⟨(ad.add (i.toNat * 7)).block, (ad.add (i.toNat * 7)).off + 4, none⟩ = some (.int .i64 (rd_T43 xs i).f3.f1) ∧ w.cell? ⟨(ad.add (i.toNat * 7)).block, (ad.add (i.toNat * 7)).off + 5, none⟩ = some (.int .i64 (rd_T43 xs i).f4) ∧ w.cell? ⟨(ad.add (i.toNat * 7)).block, (ad.add (i.toNat * 7)).off + 6, none⟩ = some (.int .i64 (rd_T43 xs i).f5) := by
 obtain ⟨ad, c, e, _, hK, hc0⟩ := Kd.C_get h z43 i h0 h1
 have hc : ∀ j u, c[j]? = some u → w.cell? (ad.add (i.toNat * 7 + j)) = some u := hc0
 obtain rfl := k43_open hK
 exact ⟨ad, e, hc 0 _ rfl, by rw [← add_field _ _ 1 (by omega)]; exact hc 1 _ rfl, by rw [← add_field _ _ 2 (by omega)]; exact hc 2 _ rfl, by rw [← add_field _ _ 3 (by omega)]; exact hc 3 _ rfl, by rw [← add_field _ _ 4 (by omega)]; exact hc 4 _ rfl, by rw [← add_field _ _ 5 (by omega)]; exact hc 5 _ rfl, by rw [← add_field _ _ 6 (by omega)]; exact hc 6 _ rfl⟩

/-! #### struct type 60 -/
structure S60 where
 f0 : Int
 f1 : Int
 f2 : Int
def z60 : S60 := ⟨(0 : Int), (0 : Int), (0 : Int)⟩
def k60 : Kd S60 := Kd.iso (Kd.pair (Kd.int .i64) (Kd.pair (Kd.int .i64) (Kd.int .i64))) (fun x : S60 => (x.f0, x.f1, x.f2))
theorem k60_open {w : World} {x : S60} {cs : List Value} (h : k60.K w x cs) : cs = [.int .i64 x.f0, .int .i64 x.f1, .int .i64 x.f2] := by
 obtain ⟨_, _, rfl, rfl, ⟨_, _, rfl, rfl, rfl⟩⟩ := h
 exact rfl
theorem k60_mk (w : World) (x : S60)  : k60.K w x [.int .i64 x.f0, .int .i64 x.f1, .int .i64 x.f2] := ⟨[.int .i64 x.f0], [.int .i64 x.f1, .int .i64 x.f2], rfl, rfl, ⟨[.int .i64 x.f1], [.int .i64 x.f2], rfl, rfl, rfl⟩⟩
theorem k60_mkM (w : World) (base : Nat) (ok : Nat → Prop) (x : S60)  : k60.M w base ok x [.int .i64 x.f0, .int .i64 x.f1, .int .i64 x.f2] := ⟨[.int .i64 x.f0], [.int .i64 x.f1, .int .i64 x.f2], rfl, rfl, ⟨[.int .i64 x.f1], [.int .i64 x.f2], rfl, rfl, rfl⟩⟩
def rd_T60 (xs : List S60) (i : Int) : S60 := xs.getD i.toNat z60
theorem at_T60 {w : World} {A : Option Addr} {n : Nat} {xs : List S60} (h : Kd.C k60 w A n xs) (i : Int) (h0 : 0 ≤ i) (h1 : i < n) : ∃ ad , A = some ad ∧ w.cell? (ad.add (i.toNat * 3)) = some (.int .i64 (rd_T60 xs i).f0) ∧ w.cell? ⟨(ad.add (i.toNat * 3)).block, (ad.add (i.toNat * 3)).off + 1, none⟩ = some (.int .i64 (rd_T60 xs i).f1) ∧ w.cell? ⟨(ad.add (i.toNat * 3)).block, (ad.add (i.toNat * 3)).off + 2, none⟩ = some (.int .i64 (rd_T60 xs i).f2) := by
 obtain ⟨ad, c, e, _, hK, hc0⟩ := Kd.C_get h z60 i h0 h1
 have hc : ∀ j u, c[j]? = some u → w.cell? (ad.add (i.toNat * 3 + j)) = some u := hc0
 obtain rfl := k60_open hK
 exact ⟨ad, e, hc 0 _ rfl, by rw [← add_field _ _ 1 (by omega)]; exact hc 1 _ rfl, by rw [← add_field _ _ 2 (by omega)]; exact hc 2 _ rfl⟩

/-! #### struct type 24 -/
structure S24 where
 f0 : ByteArray
 f1 : Int
 f2 : Int
 f3 : (List S43)
def z24 : S24 := ⟨(⟨#[]⟩ : ByteArray), (0 : Int), (0 : Int), ([] : List S43)⟩
def k24 : Kd S24 := Kd.iso (Kd.pair Kd.string (Kd.pair (Kd.int .i64) (Kd.pair (Kd.int .i64) (Kd.slice 43 k43)))) (fun x : S24 => (x.f0, x.f1, x.f2, x.f3))
theorem k24_open {w : World} {x : S24} {cs : List Value} (h : k24.K w x cs) : ∃ A3 c3, cs = [.string x.f0, .int .i64 x.f1, .int .i64 x.f2, .slice A3 x.f3.length c3] ∧ x.f3.length ≤ c3 ∧ k43.C w A3 x.f3.length x.f3 := by
 obtain ⟨_, _, rfl, rfl, ⟨_, _, rfl, rfl, ⟨_, _, rfl, rfl, ⟨A3, c3, rfl, l3, g3⟩⟩⟩⟩ := h
 exact ⟨A3, c3, rfl, l3, g3⟩
theorem k24_mk (w : World) (x : S24) {A3 : Option Addr} {c3 : Nat} (l3 : x.f3.length ≤ c3) (g3 : k43.C w A3 x.f3.length x.f3) : k24.K w x [.string x.f0, .int .i64 x.f1, .int .i64 x.f2, .slice A3 x.f3.length c3] := ⟨[.string x.f0], [.int .i64 x.f1, .int .i64 x.f2, .slice A3 x.f3.length c3], rfl, rfl, ⟨[.int .i64 x.f1], [.int .i64 x.f2, .slice A3 x.f3.length c3], rfl, rfl, ⟨[.int .i64 x.f2], [.slice A3 x.f3.length c3], rfl, rfl, ⟨A3, c3, rfl, l3, g3⟩⟩⟩⟩
def rd_T24 (xs : List S24) (i : Int) : S24 := xs.getD i.toNat z24
theorem at_T24 {w : World} {A : Option Addr} {n : Nat} {xs : List S24} (h : Kd.C k24 w A n xs) (i : Int) (h0 : 0 ≤ i) (h1 : i < n) : ∃ ad A3 c3, A = some ad ∧ w.cell? (ad.add (i.toNat * 4)) = some (.string (rd_T24 xs i).f0) ∧ w.cell? ⟨(ad.add (i.toNat * 4)).block, (ad.add (i.toNat * 4)).off + 1, none⟩ = some (.int .i64 (rd_T24 xs i).f1) ∧ w.cell? ⟨(ad.add (i.toNat * 4)).block, (ad.add (i.toNat * 4)).off + 2, none⟩ = some (.int .i64 (rd_T24 xs i).f2) ∧ w.cell? ⟨(ad.add (i.toNat * 4)).block, (ad.add (i.toNat * 4)).off + 3, none⟩ = some (.slice A3 (rd_T24 xs i).f3.length c3) ∧ (rd_T24 xs i).f3.length ≤ c3 ∧ k43.C w A3 (rd_T24 xs i).f3.length (rd_T24 xs i).f3 := by
 obtain ⟨ad, c, e, _, hK, hc0⟩ := Kd.C_get h z24 i h0 h1
 have hc : ∀ j u, c[j]? = some u → w.cell? (ad.add (i.toNat * 4 + j)) = some u := hc0
 obtain ⟨A3, c3, rfl, l3, g3⟩ := k24_open hK
 exact ⟨ad, A3, c3, e, hc 0 _ rfl, by rw [← add_field _ _ 1 (by omega)]; exact hc 1 _ rfl, by rw [← add_field _ _ 2 (by omega)]; exact hc 2 _ rfl, by rw [← add_field _ _ 3 (by omega)]; exact hc 3 _ rfl, l3, g3⟩

/-! #### struct type 26 -/
structure S26 where
 f0 : Int
 f1 : ByteArray
 f2 : ByteArray
def z26 : S26 := ⟨(0 : Int), (⟨#[]⟩ : ByteArray), (⟨#[]⟩ : ByteArray)⟩
def k26 : Kd S26 := Kd.iso (Kd.pair (Kd.int .i64) (Kd.pair Kd.string Kd.string)) (fun x : S26 => (x.f0, x.f1, x.f2))
theorem k26_open {w : World} {x : S26} {cs : List Value} (h : k26.K w x cs) : cs = [.int .i64 x.f0, .string x.f1, .string x.f2] := by
 obtain ⟨_, _, rfl, rfl, ⟨_, _, rfl, rfl, rfl⟩⟩ := h
 exact rfl
theorem k26_mk (w : World) (x : S26)  : k26.K w x [.int .i64 x.f0, .string x.f1, .string x.f2] := ⟨[.int .i64 x.f0], [.string x.f1, .string x.f2], rfl, rfl, ⟨[.string x.f1], [.string x.f2], rfl, rfl, rfl⟩⟩
/-! #### struct type 29 -/
structure S29 where
 f0 : S26
 f1 : Int
 f2 : Int
 f3 : (List S50)
def z29 : S29 := ⟨z26, (0 : Int), (0 : Int), ([] : List S50)⟩
def k29 : Kd S29 := Kd.iso (Kd.pair k26 (Kd.pair (Kd.int .i64) (Kd.pair (Kd.int .i64) (Kd.slice 50 k50)))) (fun x : S29 => (x.f0, x.f1, x.f2, x.f3))
theorem k29_open {w : World} {x : S29} {cs : List Value} (h : k29.K w x cs) : ∃ A5 c5, cs = [.int .i64 x.f0.f0, .string x.f0.f1, .string x.f0.f2, .int .i64 x.f1, .int .i64 x.f2, .slice A5 x.f3.length c5] ∧ x.f3.length ≤ c5 ∧ k50.C w A5 x.f3.length x.f3 := by
 obtain ⟨_, _, rfl, s0, ⟨_, _, rfl, rfl, ⟨_, _, rfl, rfl, ⟨A5, c5, rfl, l5, g5⟩⟩⟩⟩ := h
 obtain rfl := k26_open s0
 exact ⟨A5, c5, rfl, l5, g5⟩
theorem k29_mk (w : World) (x : S29) {A5 : Option Addr} {c5 : Nat} (l5 : x.f3.length ≤ c5) (g5 : k50.C w A5 x.f3.length x.f3) : k29.K w x [.int .i64 x.f0.f0, .string x.f0.f1, .string x.f0.f2, .int .i64 x.f1, .int .i64 x.f2, .slice A5 x.f3.length c5] := ⟨[.int .i64 x.f0.f0, .string x.f0.f1, .string x.f0.f2], [.int .i64 x.f1, .int .i64 x.f2, .slice A5 x.f3.length c5], rfl, (k26_mk w x.f0 ), ⟨[.int .i64 x.f1], [.int .i64 x.f2, .slice A5 x.f3.length c5], rfl, rfl, ⟨[.int .i64 x.f2], [.slice A5 x.f3.length c5], rfl, rfl, ⟨A5, c5, rfl, l5, g5⟩⟩⟩⟩
def rd_T29 (xs : List S29) (i : Int) : S29 := xs.getD i.toNat z29
theorem at_T29 {w : World} {A : Option Addr} {n : Nat} {xs : List S29} (h : Kd.C k29 w A n xs) (i : Int) (h0 : 0 ≤ i) (h1 : i < n) : ∃ ad A5 c5, A = some ad ∧ w.cell? (ad.add (i.toNat * 6)) = some (.int .i64 (rd_T29 xs i).f0.f0) ∧ w.cell? ⟨(ad.add (i.toNat * 6)).block, (ad.add (i.toNat * 6)).off + 1, none⟩ = some (.string (rd_T29 xs i).f0.f1) ∧ w.cell? ⟨(ad.add (i.toNat * 6)).block, (ad.add (i.toNat * 6)).off + 2, none⟩ = some (.string (rd_T29 xs i).f0.f2) ∧ w.cell? ⟨(ad.add (i.toNat * 6)).block, (ad.add (i.toNat * 6)).off + 3, none⟩ = some (.int .i64 (rd_T29 xs i).f1) ∧ w.cell? ⟨(ad.add (i.toNat * 6)).block, (ad.add (i.toNat * 6)).off + 4, none⟩ = some (.int .i64 (rd_T29 xs i).f2) ∧ w.cell? ⟨(ad.add (i.toNat * 6)).block, (ad.add (i.toNat * 6)).off + 5, none⟩ = some (.slice A5 (rd_T29 xs i).f3.length c5) ∧ (rd_T29 xs i).f3.length ≤ c5 ∧ k50.C w A5 (rd_T29 xs i).f3.length (rd_T29 xs i).f3 := by
 obtain ⟨ad, c, e, _, hK, hc0⟩ := Kd.C_get h z29 i h0 h1
 have hc : ∀ j u, c[j]? = some u → w.cell? (ad.add (i.toNat * 6 + j)) = some u := hc0
 obtain ⟨A5, c5, rfl, l5, g5⟩ := k29_open hK
 exact ⟨ad, A5, c5, e, hc 0 _ rfl, by rw [← add_field _ _ 1 (by omega)]; exact hc 1 _ rfl, by rw [← add_field _ _ 2 (by omega)]; exact hc 2 _ rfl, by rw [← add_field _ _ 3 (by omega)]; exact hc 3 _ rfl, by rw [← add_field _ _ 4 (by omega)]; exact hc 4 _ rfl, by rw [← add_field _ _ 5 (by omega)]; exact hc 5 _ rfl, l5, g5⟩

end Go.Proofs.YtiffkknhnmpgbaaDoor.R
end

section
namespace Go.Proofs.YtiffkknhnmpgbaaDoor.U
open Go.RowKit Go.Proofs.YtiffkknhnmpgbaaDoor.Q Go.Proofs.YtiffkknhnmpgbaaDoor.R Go.Proofs.YtiffkknhnmpgbaaDoor.V Go.Proofs.YtiffkknhnmpgbaaDoorW.PrintWords Go.Proofs.YtiffkknhnmpgbaaDoorW.PrintLast Go.Proofs.YtiffkknhnmpgbaaDoorW.PrintMore
attribute [local go_sem] max2_int min2_int max_two min_two max_three min_three max_four min_four   -- for this text's walks alone
set_option linter.unusedVariables false
set_option linter.unusedSimpArgs false



theorem info3 : (Tryd.prog.info? 3).map (fun i => (i.zero, i.size, i.bytes)) = some (some (.int .i64 0), 1, 8) := by kernel_rfl
end Go.Proofs.YtiffkknhnmpgbaaDoor.U
end

section
namespace Go.Proofs.YtiffkknhnmpgbaaDoor.LLists
open Go.RowKit Go.Proofs.YtiffkknhnmpgbaaDoor.Q Go.Proofs.YtiffkknhnmpgbaaDoor.R Go.Proofs.YtiffkknhnmpgbaaDoor.U Go.Proofs.YtiffkknhnmpgbaaDoorW.PrintWords Go.Proofs.YtiffkknhnmpgbaaDoorW.PrintLast Go.Proofs.YtiffkknhnmpgbaaDoorW.PrintMore
attribute [local go_sem] max2_int min2_int max_two min_two max_three min_three max_four min_four   -- for this text's walks alone
set_option linter.unusedVariables false
set_option linter.unusedSimpArgs false



theorem info24 : (Tryd.prog.info? 24).map (fun i => (i.zero, i.size, i.bytes)) = some (some (.agg #[(.string ⟨#[]⟩), (.int .i64 0), (.int .i64 0), (.slice none 0 0)]), 4, 56) := by kernel_rfl
/-! #### struct type 24 -/
theorem k24_openF {W : World} {ok : Nat → Prop} {x : S24} {cs : List Value} (h : Kd.FK k24 W ok x cs) : ∃ A3 c3, cs = [.string x.f0, .int .i64 x.f1, .int .i64 x.f2, .slice A3 x.f3.length c3] ∧ x.f3.length ≤ c3 ∧ Kd.F k43 W ok A3 x.f3.length x.f3 := by
  obtain ⟨A3, c3, rfl, l3, _⟩ := k24_open (Kd.FK_now h)
  exact ⟨A3, c3, rfl, l3, (fun W' hW => by obtain ⟨A3_, c3_, he, l3_, g3_⟩ := k24_open (h W' hW); injection (Option.some.inj (show some (Value.slice A3 x.f3.length c3) = some (Value.slice A3_ x.f3.length c3_) from congrArg (fun l => l[3]?) he)) with ha_ _ _; rw [ha_]; exact g3_)⟩
theorem k24_mkF (W : World) (ok : Nat → Prop) (x : S24) {A3 : Option Addr} {c3 : Nat} (l3 : x.f3.length ≤ c3) (g3 : Kd.F k43 W ok A3 x.f3.length x.f3) : Kd.FK k24 W ok x [.string x.f0, .int .i64 x.f1, .int .i64 x.f2, .slice A3 x.f3.length c3] := fun W2 hW => k24_mk W2 x l3 (g3 W2 hW)
theorem k29_mkF (W : World) (ok : Nat → Prop) (x : S29) {A5 : Option Addr} {c5 : Nat} (l5 : x.f3.length ≤ c5) (g5 : Kd.F k50 W ok A5 x.f3.length x.f3) : Kd.FK k29 W ok x [.int .i64 x.f0.f0, .string x.f0.f1, .string x.f0.f2, .int .i64 x.f1, .int .i64 x.f2, .slice A5 x.f3.length c5] := fun W2 hW => k29_mk W2 x l5 (g5 W2 hW)
end Go.Proofs.YtiffkknhnmpgbaaDoor.LLists
end

section
namespace Go.Proofs.YtiffkknhnmpgbaaDoor.R
open Go.RowKit Go.Proofs.YtiffkknhnmpgbaaDoor.Q Go.Proofs.YtiffkknhnmpgbaaDoorW.PrintWords Go.Proofs.YtiffkknhnmpgbaaDoorW.PrintLast Go.Proofs.YtiffkknhnmpgbaaDoorW.PrintMore
attribute [local go_sem] max2_int min2_int max_two min_two max_three min_three max_four min_four   -- for this text's walks alone
set_option linter.unusedVariables false
set_option linter.unusedSimpArgs false

/-! ### cleanseref20_Few: function 10 -/
mutual
def cleanseref20_Few.j0 : Nat → List (S24) → List (S29) → Bool → Option (Bool)
 | 0, _, _, _ => none
 | k + 1, x0, x1, x18 => if x18 = true then (some false) else (cleanseref20_Few.l0 k x0 x1 0)
def cleanseref20_Few.l0 : Nat → List (S24) → List (S29) → Int → Option (Bool)
 | 0, _, _, _ => none
 | k + 1, x0, x1, x7 => if x7 < (x0.length : Int) then (if 0 ≤ x7 then (if (((rd_T24 x0 x7).f3).length : Int) > 20 then (some false) else (cleanseref20_Few.l0 k x0 x1 (wrap64 (x7 + 1)))) else (none)) else (cleanseref20_Few.l1 k x1 0)
def cleanseref20_Few.l1 : Nat → List (S29) → Int → Option (Bool)
 | 0, _, _ => none
 | k + 1, x1, x8 => if x8 < (x1.length : Int) then (if 0 ≤ x8 then (if (((rd_T29 x1 x8).f3).length : Int) > 14 then (some false) else (cleanseref20_Few.l2 k x1 x8 0)) else (none)) else (some true)
def cleanseref20_Few.l2 : Nat → List (S29) → Int → Int → Option (Bool)
 | 0, _, _, _ => none
 | k + 1, x1, x8, x9 => if 0 ≤ x8 then (if x8 < (x1.length : Int) then (if x9 < (((rd_T29 x1 x8).f3).length : Int) then (if 0 ≤ x9 then (if (((rd_T50 ((rd_T29 x1 x8).f3) x9).f0.f2).size : Int) > 210 then (some false) else (cleanseref20_Few.l2 k x1 x8 (wrap64 (x9 + 1)))) else (none)) else (cleanseref20_Few.l1 k x1 (wrap64 (x8 + 1)))) else (none)) else (none)
end
def cleanseref20_Few.f (k : Nat) (l0 : List (S24)) (l1 : List (S29)) (a2 : Int) : Option (Bool) := if (l0.length : Int) > 8 then (cleanseref20_Few.j0 k l0 l1 true) else (cleanseref20_Few.j0 k l0 l1 (decide ((l1.length : Int) > a2)))
set_option maxHeartbeats 8000000 in
set_option maxRecDepth 100000 in
theorem cleanseref20_Few.calls (k : Nat) (A0 : Option Addr) (c0 : Nat) (l0 : List (S24)) (A1 : Option Addr) (c1 : Nat) (l1 : List (S29)) (a2 : Int) (r : Bool) (w : World) (hr0 : Kd.C k24 w A0 l0.length l0) (hc0 : l0.length ≤ c0) (hr1 : Kd.C k29 w A1 l1.length l1) (hc1 : l1.length ≤ c1) (h : cleanseref20_Few.f k l0 l1 a2 = some r) :
  Calls Tryd.prog 10 #[.slice A0 l0.length c0, .slice A1 l1.length c1, .int .i64 a2] w fun e w' => e = .returned (.bool r) ∧ Drawn0 w w' := by
 have HR0 := Aside0.mk hr0
 have HC0 := Aside0.mk hc0
 clear hr0 hc0
 have HR1 := Aside0.mk hr1
 have HC1 := Aside0.mk hc1
 clear hr1 hc1
 have H : (if (l0.length : Int) > 8 then (cleanseref20_Few.j0 k l0 l1 true) else (cleanseref20_Few.j0 k l0 l1 (decide ((l1.length : Int) > a2)))) = some r := h
 clear h
 have HC4 := Aside0.mk H
 clear H
 go_enter Tryd.func10, Tryd.ntmps10
 go_upto_region 1 with (fail)
 go_cut [18] (fun v18 wc => ∃ (kq : Nat) (x18_3 : Bool), v18 = .bool x18_3 ∧ Aside0 (cleanseref20_Few.j0 kq l0 l1 x18_3 = some r) ∧ Aside0 (kq ≤ k) ∧ Drawn0 w wc)
 case first =>
  have H := HC4.out
  clear HC4
  by_cases c5 : (l0.length : Int) > 8
  ·rw [if_pos c5] at H
   have c5b0 : decide (8 < (l0.length : Int)) = true := decide_eq_true c5
   have c5b1 : decide (8 < l0.length) = true := decide_eq_true (by omega)
   clear c5
   have H' := Aside0.mk H
   clear H
   go_wp2
   go_meet
   case rel => exact ⟨_, (true), (by rfl), H', ⟨by omega⟩, by exact Drawn0.refl _⟩
  rw [if_neg c5] at H
  have c5b0 : decide (8 < (l0.length : Int)) = false := decide_eq_false c5
  have c5b1 : decide (8 < l0.length) = false := decide_eq_false (by omega)
  clear c5
  have H' := Aside0.mk H
  clear H
  go_wp2
  go_meet
  case rel => exact ⟨_, (decide ((l1.length : Int) > a2)), (by rfl), H', ⟨by omega⟩, by exact Drawn0.refl _⟩
 clear HC4
 obtain ⟨kq, x18_3, rfl, HA, HJ3, ⟨mc3, rfl⟩⟩ := hcut
 cases kq with
 | zero => exact absurd HA.out (by simp [cleanseref20_Few.j0])
 | succ kj3 =>
  have H := HA.out
  clear HA
  simp only [cleanseref20_Few.j0] at H
  by_cases c6 : x18_3 = true
  ·subst c6
   have H1 : (some false) = some r := by rw [if_pos rfl] at H; exact H
   clear H
   have H := H1
   clear H1
   obtain rfl := Option.some.inj H
   go_wp2
   go_ret
   exact ⟨by rfl, by repeat (first | exact Drawn0.refl _ | apply Drawn0.step)⟩
  replace c6 := Bool.eq_false_iff.mpr c6
  subst c6
  have H1 : (cleanseref20_Few.l0 kj3 l0 l1 0) = some r := by rw [if_neg (show ¬ (false = true) by decide)] at H; exact H
  clear H
  have H := H1
  clear H1
  have H' := Aside0.mk H
  clear H
  go_wp2
  go_loopg [7] kj3 (fun kq v7 w' => ∃ (x7_2 : Int), v7 = .int .i64 x7_2 ∧ Aside0 (cleanseref20_Few.l0 kq l0 l1 x7_2 = some r) ∧ Aside0 (kq ≤ kj3) ∧ Drawn0 w w')
  case atStart => exact ⟨(0), (by rfl), H', ⟨Nat.le_refl _⟩, by repeat (first | exact Drawn0.refl _ | apply Drawn0.step)⟩
  clear H'
  obtain ⟨x7_2, rfl, HA, HK2, ⟨m2, rfl⟩⟩ := hrel
  cases gk with
  | zero => exact absurd HA.out (by simp [cleanseref20_Few.l0])
  | succ k2 =>
   have H := HA.out
   clear HA
   simp only [cleanseref20_Few.l0] at H
   by_cases c7 : x7_2 < (l0.length : Int)
   ·rw [if_pos c7] at H
    have c7b0 : decide (x7_2 < (l0.length : Int)) = true := decide_eq_true c7
    clear c7
    by_cases c8 : 0 ≤ x7_2
    ·rw [if_pos c8] at H
     have c8b0 : decide (0 ≤ x7_2) = true := decide_eq_true c8
     clear c8
     by_cases c9 : (((rd_T24 l0 x7_2).f3).length : Int) > 20
     ·rw [if_pos c9] at H
      have c9b0 : decide (20 < (((rd_T24 l0 x7_2).f3).length : Int)) = true := decide_eq_true c9
      have c9b1 : decide (20 < ((rd_T24 l0 x7_2).f3).length) = true := decide_eq_true (by omega)
      clear c9
      obtain rfl := Option.some.inj H
      have p131 : 0 ≤ (x7_2 : Int) := of_decide_eq_true (by (with_reducible assumption))
      have q131 : x7_2 < (l0.length : Int) := of_decide_eq_true (by (with_reducible assumption))
      obtain ⟨ad131, A131_3, c131_3, e131, hx131_0, hx131_1, hx131_2, hx131_3, hl131_3, hi131_3⟩ := at_T24 HR0.out x7_2 p131 q131
      cases e131
      have HR131_3 := Aside0.mk hi131_3
      have HC131_3 := Aside0.mk hl131_3
      clear hi131_3 hl131_3
      replace p131 := eq_true p131
      replace q131 := eq_true q131
      go_wp2
      go_ret
      exact ⟨by rfl, by repeat (first | exact Drawn0.refl _ | apply Drawn0.step)⟩
     rw [if_neg c9] at H
     have c9b0 : decide (20 < (((rd_T24 l0 x7_2).f3).length : Int)) = false := decide_eq_false c9
     have c9b1 : decide (20 < ((rd_T24 l0 x7_2).f3).length) = false := decide_eq_false (by omega)
     clear c9
     have H' := Aside0.mk H
     clear H
     have p131 : 0 ≤ (x7_2 : Int) := of_decide_eq_true (by (with_reducible assumption))
     have q131 : x7_2 < (l0.length : Int) := of_decide_eq_true (by (with_reducible assumption))
     obtain ⟨ad131, A131_3, c131_3, e131, hx131_0, hx131_1, hx131_2, hx131_3, hl131_3, hi131_3⟩ := at_T24 HR0.out x7_2 p131 q131
     cases e131
     have HR131_3 := Aside0.mk hi131_3
     have HC131_3 := Aside0.mk hl131_3
     clear hi131_3 hl131_3
     replace p131 := eq_true p131
     replace q131 := eq_true q131
     go_wp2
     go_roundg k2
     case measure => have := HJ3.out; have := HK2.out; omega
     case rel => exact ⟨(wrap64 (x7_2 + 1)), (by rfl), H', ⟨by have := HJ3.out; have := HK2.out; omega⟩, by repeat (first | exact Drawn0.refl _ | apply Drawn0.step)⟩
    rw [if_neg c8] at H
    exact absurd H (by simp)
   rw [if_neg c7] at H
   have c7b0 : decide (x7_2 < (l0.length : Int)) = false := decide_eq_false c7
   clear c7
   have H' := Aside0.mk H
   clear H
   go_wp2
   go_loopg [8] k2 (fun kq v8 w' => ∃ (x8_3 : Int), v8 = .int .i64 x8_3 ∧ Aside0 (cleanseref20_Few.l1 kq l1 x8_3 = some r) ∧ Aside0 (kq ≤ k2) ∧ Drawn0 w w')
   case atStart => exact ⟨(0), (by rfl), H', ⟨Nat.le_refl _⟩, by repeat (first | exact Drawn0.refl _ | apply Drawn0.step)⟩
   clear H'
   clear c7b0
   obtain ⟨x8_3, rfl, HA, HK3, ⟨m3, rfl⟩⟩ := hrel
   cases gk with
   | zero => exact absurd HA.out (by simp [cleanseref20_Few.l1])
   | succ k3 =>
    have H := HA.out
    clear HA
    simp only [cleanseref20_Few.l1] at H
    by_cases c10 : x8_3 < (l1.length : Int)
    ·rw [if_pos c10] at H
     have c10b0 : decide (x8_3 < (l1.length : Int)) = true := decide_eq_true c10
     clear c10
     by_cases c11 : 0 ≤ x8_3
     ·rw [if_pos c11] at H
      have c11b0 : decide (0 ≤ x8_3) = true := decide_eq_true c11
      clear c11
      by_cases c12 : (((rd_T29 l1 x8_3).f3).length : Int) > 14
      ·rw [if_pos c12] at H
       have c12b0 : decide (14 < (((rd_T29 l1 x8_3).f3).length : Int)) = true := decide_eq_true c12
       have c12b1 : decide (14 < ((rd_T29 l1 x8_3).f3).length) = true := decide_eq_true (by omega)
       clear c12
       obtain rfl := Option.some.inj H
       have p132 : 0 ≤ (x8_3 : Int) := of_decide_eq_true (by (with_reducible assumption))
       have q132 : x8_3 < (l1.length : Int) := of_decide_eq_true (by (with_reducible assumption))
       obtain ⟨ad132, A132_5, c132_5, e132, hx132_0, hx132_1, hx132_2, hx132_3, hx132_4, hx132_5, hl132_5, hi132_5⟩ := at_T29 HR1.out x8_3 p132 q132
       cases e132
       have HR132_5 := Aside0.mk hi132_5
       have HC132_5 := Aside0.mk hl132_5
       clear hi132_5 hl132_5
       replace p132 := eq_true p132
       replace q132 := eq_true q132
       go_wp2
       go_ret
       exact ⟨by rfl, by repeat (first | exact Drawn0.refl _ | apply Drawn0.step)⟩
      rw [if_neg c12] at H
      have c12b0 : decide (14 < (((rd_T29 l1 x8_3).f3).length : Int)) = false := decide_eq_false c12
      have c12b1 : decide (14 < ((rd_T29 l1 x8_3).f3).length) = false := decide_eq_false (by omega)
      clear c12
      have H' := Aside0.mk H
      clear H
      have p132 : 0 ≤ (x8_3 : Int) := of_decide_eq_true (by (with_reducible assumption))
      have q132 : x8_3 < (l1.length : Int) := of_decide_eq_true (by (with_reducible assumption))
      obtain ⟨ad132, A132_5, c132_5, e132, hx132_0, hx132_1, hx132_2, hx132_3, hx132_4, hx132_5, hl132_5, hi132_5⟩ := at_T29 HR1.out x8_3 p132 q132
      cases e132
      have HR132_5 := Aside0.mk hi132_5
      have HC132_5 := Aside0.mk hl132_5
      clear hi132_5 hl132_5
      replace p132 := eq_true p132
      replace q132 := eq_true q132
      go_wp2
      go_loopg [9] k3 (fun kq v9 w' => ∃ (x9_4 : Int), v9 = .int .i64 x9_4 ∧ Aside0 (cleanseref20_Few.l2 kq l1 x8_3 x9_4 = some r) ∧ Aside0 (kq ≤ k3) ∧ Drawn0 w w')
      case atStart => exact ⟨(0), (by rfl), H', ⟨Nat.le_refl _⟩, by repeat (first | exact Drawn0.refl _ | apply Drawn0.step)⟩
      clear H'
      clear c10b0
      clear c11b0
      clear c12b0 c12b1
      clear hx132_0 hx132_1 hx132_2 hx132_3 hx132_4 hx132_5
      clear p132
      clear q132
      obtain ⟨x9_4, rfl, HA, HK4, ⟨m4, rfl⟩⟩ := hrel
      cases gk with
      | zero => exact absurd HA.out (by simp [cleanseref20_Few.l2])
      | succ k4 =>
       have H := HA.out
       clear HA
       simp only [cleanseref20_Few.l2] at H
       by_cases c13 : 0 ≤ x8_3
       ·rw [if_pos c13] at H
        have c13b0 : decide (0 ≤ x8_3) = true := decide_eq_true c13
        clear c13
        by_cases c14 : x8_3 < (l1.length : Int)
        ·rw [if_pos c14] at H
         have c14b0 : decide (x8_3 < (l1.length : Int)) = true := decide_eq_true c14
         clear c14
         by_cases c15 : x9_4 < (((rd_T29 l1 x8_3).f3).length : Int)
         ·rw [if_pos c15] at H
          have c15b0 : decide (x9_4 < (((rd_T29 l1 x8_3).f3).length : Int)) = true := decide_eq_true c15
          clear c15
          by_cases c16 : 0 ≤ x9_4
          ·rw [if_pos c16] at H
           have c16b0 : decide (0 ≤ x9_4) = true := decide_eq_true c16
           clear c16
           by_cases c17 : (((rd_T50 ((rd_T29 l1 x8_3).f3) x9_4).f0.f2).size : Int) > 210
           ·rw [if_pos c17] at H
            have c17b0 : decide (210 < (((rd_T50 ((rd_T29 l1 x8_3).f3) x9_4).f0.f2).size : Int)) = true := decide_eq_true c17
            have c17b1 : decide (210 < ((rd_T50 ((rd_T29 l1 x8_3).f3) x9_4).f0.f2).size) = true := decide_eq_true (by omega)
            clear c17
            obtain rfl := Option.some.inj H
            have p133 : 0 ≤ (x8_3 : Int) := of_decide_eq_true (by (with_reducible assumption))
            have q133 : x8_3 < (l1.length : Int) := of_decide_eq_true (by (with_reducible assumption))
            obtain ⟨ad133, A133_5, c133_5, e133, hx133_0, hx133_1, hx133_2, hx133_3, hx133_4, hx133_5, hl133_5, hi133_5⟩ := at_T29 HR1.out x8_3 p133 q133
            obtain rfl : ad132 = ad133 := (by injection e133)
            have HR133_5 := Aside0.mk hi133_5
            have HC133_5 := Aside0.mk hl133_5
            clear hi133_5 hl133_5
            replace p133 := eq_true p133
            replace q133 := eq_true q133
            have p134 : 0 ≤ (x8_3 : Int) := of_decide_eq_true (by (with_reducible assumption))
            have q134 : x8_3 < (l1.length : Int) := of_decide_eq_true (by (with_reducible assumption))
            obtain ⟨ad134, A134_5, c134_5, e134, hx134_0, hx134_1, hx134_2, hx134_3, hx134_4, hx134_5, hl134_5, hi134_5⟩ := at_T29 HR1.out x8_3 p134 q134
            obtain rfl : ad132 = ad134 := (by injection e134)
            have HR134_5 := Aside0.mk hi134_5
            have HC134_5 := Aside0.mk hl134_5
            clear hi134_5 hl134_5
            replace p134 := eq_true p134
            replace q134 := eq_true q134
            have ea_ := Option.some.inj (hx133_5.symm.trans hx134_5)
            injection ea_ with ea_ en_ ec_
            subst ea_
            subst ec_
            clear en_
            have p135 : 0 ≤ (x9_4 : Int) := of_decide_eq_true (by (with_reducible assumption))
            have q135 : x9_4 < (((rd_T29 l1 x8_3).f3).length : Int) := of_decide_eq_true (by (with_reducible assumption))
            obtain ⟨ad135, e135, hx135_0, hx135_1, hx135_2, hx135_3, hx135_4⟩ := at_T50 HR134_5.out x9_4 p135 q135
            cases e135
            replace p135 := eq_true p135
            replace q135 := eq_true q135
            go_wp2
            go_ret
            exact ⟨by rfl, by repeat (first | exact Drawn0.refl _ | apply Drawn0.step)⟩
           rw [if_neg c17] at H
           have c17b0 : decide (210 < (((rd_T50 ((rd_T29 l1 x8_3).f3) x9_4).f0.f2).size : Int)) = false := decide_eq_false c17
           have c17b1 : decide (210 < ((rd_T50 ((rd_T29 l1 x8_3).f3) x9_4).f0.f2).size) = false := decide_eq_false (by omega)
           clear c17
           have H' := Aside0.mk H
           clear H
           have p133 : 0 ≤ (x8_3 : Int) := of_decide_eq_true (by (with_reducible assumption))
           have q133 : x8_3 < (l1.length : Int) := of_decide_eq_true (by (with_reducible assumption))
           obtain ⟨ad133, A133_5, c133_5, e133, hx133_0, hx133_1, hx133_2, hx133_3, hx133_4, hx133_5, hl133_5, hi133_5⟩ := at_T29 HR1.out x8_3 p133 q133
           obtain rfl : ad132 = ad133 := (by injection e133)
           have HR133_5 := Aside0.mk hi133_5
           have HC133_5 := Aside0.mk hl133_5
           clear hi133_5 hl133_5
           replace p133 := eq_true p133
           replace q133 := eq_true q133
           have p134 : 0 ≤ (x8_3 : Int) := of_decide_eq_true (by (with_reducible assumption))
           have q134 : x8_3 < (l1.length : Int) := of_decide_eq_true (by (with_reducible assumption))
           obtain ⟨ad134, A134_5, c134_5, e134, hx134_0, hx134_1, hx134_2, hx134_3, hx134_4, hx134_5, hl134_5, hi134_5⟩ := at_T29 HR1.out x8_3 p134 q134
           obtain rfl : ad132 = ad134 := (by injection e134)
           have HR134_5 := Aside0.mk hi134_5
           have HC134_5 := Aside0.mk hl134_5
           clear hi134_5 hl134_5
           replace p134 := eq_true p134
           replace q134 := eq_true q134
           have ea_ := Option.some.inj (hx133_5.symm.trans hx134_5)
           injection ea_ with ea_ en_ ec_
           subst ea_
           subst ec_
           clear en_
           have p135 : 0 ≤ (x9_4 : Int) := of_decide_eq_true (by (with_reducible assumption))
           have q135 : x9_4 < (((rd_T29 l1 x8_3).f3).length : Int) := of_decide_eq_true (by (with_reducible assumption))
           obtain ⟨ad135, e135, hx135_0, hx135_1, hx135_2, hx135_3, hx135_4⟩ := at_T50 HR134_5.out x9_4 p135 q135
           cases e135
           replace p135 := eq_true p135
           replace q135 := eq_true q135
           go_wp2
           go_roundg k4
           case measure => have := HJ3.out; have := HK2.out; have := HK3.out; have := HK4.out; omega
           case rel => exact ⟨(wrap64 (x9_4 + 1)), (by rfl), H', ⟨by have := HJ3.out; have := HK2.out; have := HK3.out; have := HK4.out; omega⟩, by repeat (first | exact Drawn0.refl _ | apply Drawn0.step)⟩
          rw [if_neg c16] at H
          exact absurd H (by simp)
         rw [if_neg c15] at H
         have c15b0 : decide (x9_4 < (((rd_T29 l1 x8_3).f3).length : Int)) = false := decide_eq_false c15
         clear c15
         have H' := Aside0.mk H
         clear H
         have p133 : 0 ≤ (x8_3 : Int) := of_decide_eq_true (by (with_reducible assumption))
         have q133 : x8_3 < (l1.length : Int) := of_decide_eq_true (by (with_reducible assumption))
         obtain ⟨ad133, A133_5, c133_5, e133, hx133_0, hx133_1, hx133_2, hx133_3, hx133_4, hx133_5, hl133_5, hi133_5⟩ := at_T29 HR1.out x8_3 p133 q133
         obtain rfl : ad132 = ad133 := (by injection e133)
         have HR133_5 := Aside0.mk hi133_5
         have HC133_5 := Aside0.mk hl133_5
         clear hi133_5 hl133_5
         replace p133 := eq_true p133
         replace q133 := eq_true q133
         go_wp2
         go_roundg k4
         case measure => have := HJ3.out; have := HK2.out; have := HK3.out; have := HK4.out; omega
         case rel => exact ⟨(wrap64 (x8_3 + 1)), (by rfl), H', ⟨by have := HJ3.out; have := HK2.out; have := HK3.out; have := HK4.out; omega⟩, by repeat (first | exact Drawn0.refl _ | apply Drawn0.step)⟩
        rw [if_neg c14] at H
        exact absurd H (by simp)
       rw [if_neg c13] at H
       exact absurd H (by simp)
     rw [if_neg c11] at H
     exact absurd H (by simp)
    rw [if_neg c10] at H
    have c10b0 : decide (x8_3 < (l1.length : Int)) = false := decide_eq_false c10
    clear c10
    obtain rfl := Option.some.inj H
    go_wp2
    go_ret
    exact ⟨by rfl, by repeat (first | exact Drawn0.refl _ | apply Drawn0.step)⟩

end Go.Proofs.YtiffkknhnmpgbaaDoor.R
end

section
namespace Go.Proofs.YtiffkknhnmpgbaaDoor.Q
open Go.RowKit Go.Proofs.YtiffkknhnmpgbaaDoorW.PrintWords Go.Proofs.YtiffkknhnmpgbaaDoorW.PrintLast Go.Proofs.YtiffkknhnmpgbaaDoorW.PrintMore
attribute [local go_sem] max2_int min2_int max_two min_two max_three min_three max_four min_four   -- for this text's walks alone
set_option linter.unusedVariables false
set_option linter.unusedSimpArgs false

/-! ### ratio_magnitude_int: function 70 -/
def ratio_magnitude_int.f (a0 : Int) : Option (Int) := if a0 < 0 then (some (IntKind.u64.wrap (-(IntKind.u64.wrap (a0))))) else (some (IntKind.u64.wrap (a0)))
set_option maxHeartbeats 8000000 in
set_option maxRecDepth 100000 in
theorem ratio_magnitude_int.calls (a0 : Int) (r : Int) (w : World) (h : ratio_magnitude_int.f a0 = some r) :
  Calls Tryd.prog 70 #[.int .i64 a0] w fun e w' => e = .returned (.int .u64 r) ∧ Drawn0 w w' := by
 have H : (if a0 < 0 then (some (IntKind.u64.wrap (-(IntKind.u64.wrap (a0))))) else (some (IntKind.u64.wrap (a0)))) = some r := h
 clear h
 by_cases c2 : a0 < 0
 ·rw [if_pos c2] at H
  have c2b0 : decide (a0 < 0) = true := decide_eq_true c2
  clear c2
  obtain rfl := Option.some.inj H
  go_enter Tryd.func70, Tryd.ntmps70
  go_wp2
  go_ret
  exact ⟨by rfl, by exact Drawn0.refl _⟩
 rw [if_neg c2] at H
 have c2b0 : decide (a0 < 0) = false := decide_eq_false c2
 clear c2
 obtain rfl := Option.some.inj H
 go_enter Tryd.func70, Tryd.ntmps70
 go_wp2
 go_ret
 exact ⟨by rfl, by exact Drawn0.refl _⟩

/-! ### ratio_common: function 71 -/
mutual
def ratio_common.l0 : Nat → Int → List Int → Int → Int → Option (Int)
 | 0, _, _, _, _ => none
 | k + 1, x3, x6, x7, x8 => if x8 < x7 then (if 0 ≤ x8 then (if x8 < (x6.length : Int) then (ratio_common.l1 k x3 (rd x6 x8) x6 x7 x8) else (none)) else (none)) else (some x3)
def ratio_common.l1 : Nat → Int → Int → List Int → Int → Int → Option (Int)
 | 0, _, _, _, _, _ => none
 | k + 1, x3, x5, x6, x7, x8 => if x5 = 0 then (ratio_common.l0 k x3 x6 x7 (wrap64 (x8 + 1))) else (ratio_common.l1 k x5 (Int.tmod x3 x5) x6 x7 x8)
end
def ratio_common.f (k : Nat) (l0 : List Int) : Option (Int) := ratio_common.l0 k 0 l0 (l0.length : Int) 0
set_option maxHeartbeats 8000000 in
set_option maxRecDepth 100000 in
theorem ratio_common.calls (k : Nat) (A0 : Option Addr) (c0 : Nat) (l0 : List Int) (r : Int) (w : World) (hr0 : Kd.C (Kd.int .u64) w A0 l0.length l0) (hc0 : l0.length ≤ c0) (h : ratio_common.f k l0 = some r) :
  Calls Tryd.prog 71 #[.slice A0 l0.length c0] w fun e w' => e = .returned (.int .u64 r) ∧ Drawn0 w w' := by
 have HR0 := Aside0.mk hr0
 have HC0 := Aside0.mk hc0
 clear hr0 hc0
 have H : (ratio_common.l0 k 0 l0 (l0.length : Int) 0) = some r := h
 clear h
 have H' := Aside0.mk H
 clear H
 go_enter Tryd.func71, Tryd.ntmps71
 go_wp2
 go_loopg [3, 8] k (fun kq v3 v8 w' => ∃ (x3_1 : Int) (x8_1 : Int), v3 = .int .u64 x3_1 ∧ v8 = .int .i64 x8_1 ∧ Aside0 (ratio_common.l0 kq x3_1 l0 (l0.length : Int) x8_1 = some r) ∧ Aside0 (kq ≤ k) ∧ Drawn0 w w')
 case atStart => exact ⟨(0), (0), (by rfl), (by rfl), H', ⟨Nat.le_refl _⟩, by exact Drawn0.refl _⟩
 clear H'
 obtain ⟨x3_1, x8_1, rfl, rfl, HA, HK1, ⟨m1, rfl⟩⟩ := hrel
 cases gk with
 | zero => exact absurd HA.out (by simp [ratio_common.l0])
 | succ k1 =>
  have H := HA.out
  clear HA
  simp only [ratio_common.l0] at H
  by_cases c2 : x8_1 < (l0.length : Int)
  ·rw [if_pos c2] at H
   have c2b0 : decide (x8_1 < (l0.length : Int)) = true := decide_eq_true c2
   clear c2
   by_cases c3 : 0 ≤ x8_1
   ·rw [if_pos c3] at H
    have c3b0 : decide (0 ≤ x8_1) = true := decide_eq_true c3
    clear c3
    by_cases c4 : x8_1 < (l0.length : Int)
    ·rw [if_pos c4] at H
     have c4b0 : decide (x8_1 < (l0.length : Int)) = true := decide_eq_true c4
     clear c4
     have H' := Aside0.mk H
     clear H
     have p125 : 0 ≤ (x8_1 : Int) := of_decide_eq_true (by (with_reducible assumption))
     have q125 : x8_1 < (l0.length : Int) := of_decide_eq_true (by (with_reducible assumption))
     obtain ⟨ad125, e125, hx125_0⟩ := Kd.at_int HR0.out x8_1 p125 q125
     cases e125
     replace p125 := eq_true p125
     replace q125 := eq_true q125
     go_wp2
     go_loopg [3, 5] k1 (fun kq v3 v5 w' => ∃ (x3_2 : Int) (x5_2 : Int), v3 = .int .u64 x3_2 ∧ v5 = .int .u64 x5_2 ∧ Aside0 (ratio_common.l1 kq x3_2 x5_2 l0 (l0.length : Int) x8_1 = some r) ∧ Aside0 (kq ≤ k1) ∧ Drawn0 w w')
     case atStart => exact ⟨(x3_1), (rd l0 x8_1), (by rfl), (by rfl), H', ⟨Nat.le_refl _⟩, by repeat (first | exact Drawn0.refl _ | apply Drawn0.step)⟩
     clear H'
     clear c2b0
     clear c3b0
     clear c4b0 hx125_0 p125 q125
     obtain ⟨x3_2, x5_2, rfl, rfl, HA, HK2, ⟨m2, rfl⟩⟩ := hrel
     cases gk with
     | zero => exact absurd HA.out (by simp [ratio_common.l1])
     | succ k2 =>
      have H := HA.out
      clear HA
      simp only [ratio_common.l1] at H
      by_cases c5 : x5_2 = 0
      ·rw [if_pos c5] at H
       have c5b0 : (x5_2 == 0) = true := beq_iff_eq.mpr c5
       have c5b1 : (x5_2 != 0) = false := bne_eq_false_iff_eq.mpr c5
       clear c5
       have H' := Aside0.mk H
       clear H
       go_wp2
       go_roundg k2
       case measure => have := HK1.out; have := HK2.out; omega
       case rel => exact ⟨(x3_2), (wrap64 (x8_1 + 1)), (by rfl), (by rfl), H', ⟨by have := HK1.out; have := HK2.out; omega⟩, by repeat (first | exact Drawn0.refl _ | apply Drawn0.step)⟩
      rw [if_neg c5] at H
      have c5b0 : (x5_2 == 0) = false := beq_eq_false_iff_ne.mpr c5
      have c5b1 : (x5_2 != 0) = true := bne_iff_ne.mpr c5
      have H' := Aside0.mk H
      clear H
      go_wp2
      repeat (go_quiet (fail); try go_wp2)
      go_roundg k2
      case measure => have := HK1.out; have := HK2.out; omega
      case rel => exact ⟨(x5_2), (Int.tmod x3_2 x5_2), (by rfl), (by rfl), H', ⟨by have := HK1.out; have := HK2.out; omega⟩, by repeat (first | exact Drawn0.refl _ | apply Drawn0.step)⟩
    rw [if_neg c4] at H
    exact absurd H (by simp)
   rw [if_neg c3] at H
   exact absurd H (by simp)
  rw [if_neg c2] at H
  have c2b0 : decide (x8_1 < (l0.length : Int)) = false := decide_eq_false c2
  clear c2
  obtain rfl := Option.some.inj H
  go_wp2
  go_ret
  exact ⟨by rfl, by repeat (first | exact Drawn0.refl _ | apply Drawn0.step)⟩

end Go.Proofs.YtiffkknhnmpgbaaDoor.Q
end

section
namespace Go.Proofs.YtiffkknhnmpgbaaDoor.Q
open Go.RowKit Go.Proofs.YtiffkknhnmpgbaaDoorW.PrintWords Go.Proofs.YtiffkknhnmpgbaaDoorW.PrintLast Go.Proofs.YtiffkknhnmpgbaaDoorW.PrintMore
attribute [local go_sem] max2_int min2_int max_two min_two max_three min_three max_four min_four   -- for this text's walks alone
set_option linter.unusedVariables false
set_option linter.unusedSimpArgs false

/-! ### ratio_Valid: function 49 -/
def ratio_Valid.f (k : Nat) (a0_0 : Int) (a0_1 : Int) : Option (Bool) := if 0 < a0_1 then (if a0_1 ≤ 1000000000 then ((ratio_magnitude_int.f a0_0).bind fun t166 => (if t166 ≤ 1000000000 then ((ratio_magnitude_int.f a0_0).bind fun t167 => ((ratio_magnitude_int.f a0_1).bind fun t168 => ((ratio_common.f k (([t167, t168] : List Int))).bind fun t172 => (some (t172 == 1))))) else (some false))) else (some false)) else (some false)
def ratio_Valid.T1 : Bool × List (List Nat × List Nat) := (true, [([], []), ([0], [0]), ([1], [1]), ([2], [2]), ([3], [3]), ([4, 3], [3, 4]), ([5, 3], [3, 5]), ([3, 6], [3, 6]), ([7, 3], [7]), ([8], [8]), ([9, 8], [8, 9]), ([10, 8, 8], [8, 10]), ([11, 8], [8, 11]), ([8, 12], [8, 12]), ([13, 11], [13]), ([14], [14]), ([15, 14], [14, 15]), ([16, 14, 14], [14, 16]), ([14], [14]), ([18, 14], [14, 18]), ([19, 17, 14], [14, 19]), ([17, 20, 14], [14, 17, 20]), ([21, 20, 14], [14, 21]), ([22, 14], [14, 22]), ([14, 23], [14, 23]), ([24, 22, 0, 1, 2, 3, 4, 5, 6, 7, 8, 9, 10, 11, 12, 13, 14, 15, 16, 17, 18, 19, 20, 21, 22, 23, 24], [24])])
def ratio_Valid.B1 : List Nat := [0, 1, 3, 7, 15, 31, 63, 127, 255, 511, 1023, 2047, 4095, 8191, 16383, 32767, 65535, 131071, 32767, 294911, 1048575, 2097151, 4194303, 8388607, 16777215, 33554431]
theorem ratio_Valid.tab1 : rtab .any (opsOf Tryd.f49 1) = ratio_Valid.T1 := by kernel_rfl
theorem ratio_Valid.bits1 : waitsOk ratio_Valid.T1.2 ratio_Valid.B1 = true := by kernel_rfl
set_option maxHeartbeats 8000000 in
set_option maxRecDepth 100000 in
theorem ratio_Valid.calls (k : Nat) (a0_0 : Int) (a0_1 : Int) (r : Bool) (w : World) (h : ratio_Valid.f k a0_0 a0_1 = some r) :
  Calls Tryd.prog 49 #[.agg #[.int .i64 a0_0, .int .i64 a0_1]] w fun e w' => e = .returned (.bool r) ∧ Below w.heap.size w w' := by
 have hu41 := Tryd.underlying41
 have HB := Aside0.mk (Below.refl w.heap.size w)
 have H : (if 0 < a0_1 then (if a0_1 ≤ 1000000000 then ((ratio_magnitude_int.f a0_0).bind fun t166 => (if t166 ≤ 1000000000 then ((ratio_magnitude_int.f a0_0).bind fun t167 => ((ratio_magnitude_int.f a0_1).bind fun t168 => ((ratio_common.f k (([t167, t168] : List Int))).bind fun t172 => (some (t172 == 1))))) else (some false))) else (some false)) else (some false)) = some r := h
 clear h
 by_cases c2 : 0 < a0_1
 ·rw [if_pos c2] at H
  have c2b0 : decide (0 < a0_1) = true := decide_eq_true c2
  clear c2
  by_cases c3 : a0_1 ≤ 1000000000
  ·rw [if_pos c3] at H
   have c3b0 : decide (a0_1 ≤ 1000000000) = true := decide_eq_true c3
   clear c3
   replace H := Option.bind_eq_some_iff.mp H
   obtain ⟨t166, A40, H⟩ := H
   replace H : (if t166 ≤ 1000000000 then ((ratio_magnitude_int.f a0_0).bind fun t167 => ((ratio_magnitude_int.f a0_1).bind fun t168 => ((ratio_common.f k (([t167, t168] : List Int))).bind fun t172 => (some (t172 == 1))))) else (some false)) = some r := H
   have A4 := Aside0.mk A40
   clear A40
   by_cases c5 : t166 ≤ 1000000000
   ·rw [if_pos c5] at H
    have c5b0 : decide (t166 ≤ 1000000000) = true := decide_eq_true c5
    clear c5
    replace H := Option.bind_eq_some_iff.mp H
    obtain ⟨t167, A60, H⟩ := H
    replace H : ((ratio_magnitude_int.f a0_1).bind fun t168 => ((ratio_common.f k (([t167, t168] : List Int))).bind fun t172 => (some (t172 == 1)))) = some r := H
    have A6 := Aside0.mk A60
    clear A60
    replace H := Option.bind_eq_some_iff.mp H
    obtain ⟨t168, A70, H⟩ := H
    replace H : ((ratio_common.f k (([t167, t168] : List Int))).bind fun t172 => (some (t172 == 1))) = some r := H
    have A7 := Aside0.mk A70
    clear A70
    obtain ⟨y169, hy169⟩ : ∃ y_ : List Int, y_ = (([t167, t168] : List Int)) := ⟨_, rfl⟩
    replace H : ((ratio_common.f k y169).bind fun t172 => (some (t172 == 1))) = some r := by (rw [hy169]; with_reducible exact H)
    have Ny169 := Aside0.mk hy169
    clear hy169
    replace H := Option.bind_eq_some_iff.mp H
    obtain ⟨t172, A80, H⟩ := H
    replace H : (some (t172 == 1)) = some r := H
    have A8 := Aside0.mk A80
    clear A80
    obtain rfl := Option.some.inj H
    go_enter Tryd.func49, Tryd.ntmps49
    try go_wp2_with (first | ((with_reducible refine gate_dst (N := 1) rfl ?_); (try (refine gate_guard (by rfl) ?_; dsimp only)); refine box_event ?hg (N := 1) ?hd (cs := #[.int .i64 a0_0, .int .i64 a0_1]) (t := 41) ?hr ?_; (case hd => rfl); (case hg => rfl); (case hr => (go_simp; done)); intro gb165 hg w9 hbox hb; have n0_ := Aside0.mk (below_step HB.out hb); have n1_ := Aside0.mk (hbox); clear HB; have HB := n0_; have BK165 := n1_; clear n0_ n1_; clear hb hbox hg))
    have n0_ := Aside0.mk (blk_drew BK165.out)
    have n1_ := Aside0.mk (below_drew1 HB.out)
    clear BK165
    clear HB
    have BK165 := n0_
    have HB := n1_
    clear n0_ n1_
    refine start_ (n := 26) (S := fun w' => w'.cell? ⟨gb165, 0, none⟩ = some (.int .i64 a0_0) ∧ w'.cell? ⟨gb165, 1, none⟩ = some (.int .i64 a0_1)) (ds := []) #[Z0,Z0,Z0,Z0,Z0,Z0,Z0,Z0,Z0,Z0,Z0,Z0,Z0,Z0,Z0,Z0,Z0,Z0,Z0,Z0,Z0,Z0,Z0,Z0,Z0,Z0] (by kernel_rfl) rfl rfl ⟨(blk_cell BK165.out 0).trans rfl, (blk_cell BK165.out 1).trans rfl⟩ (fun hHeld => ?_); refine with_tabW ratio_Valid.tab1 ratio_Valid.bits1 (fun HT_ HW_ => ?_)
    generalize w9.drew = w10 at BK165 HB hHeld ⊢
    refine pure_ (i := 0) (N := some 3) (v := ?_) (a' := ?_) #[Z1,Z0,Z0,Z0,Z0,Z0,Z0,Z0,Z0,Z0,Z0,Z0,Z0,Z0,Z0,Z0,Z0,Z0,Z0,Z0,Z0,Z0,Z0,Z0,Z0,Z0] rfl rfl (any_of HT_.out (by kernel_rfl)) (fun _ _ _ h => h) (Or.inl ⟨by rfl, ?_⟩) ?_ ?_
    rotate_left; intro w'; go_simp; with_reducible rfl; rotate_left; simp only [Act.put, pS_, pZ_, pC_, i64_w, i32_w]; rfl
    refine take_ (i := 1) (N := some 4) (v := ?_) (a' := ?_) #[Z1,Z1,Z0,Z0,Z0,Z0,Z0,Z0,Z0,Z0,Z0,Z0,Z0,Z0,Z0,Z0,Z0,Z0,Z0,Z0,Z0,Z0,Z0,Z0,Z0,Z0] rfl rfl (take_ofW HT_.out HW_.out (by kernel_rfl)) (fun _ _ _ h => h) (Or.inl ⟨by rfl, ?_⟩) hHeld ?_ ?_
    rotate_left; rintro w' ⟨s0, s1⟩; go_simp; with_reducible rfl; rotate_left; simp only [Act.put, pS_, pZ_, pC_, i64_w, i32_w]; rfl
    refine pure_ (i := 2) (N := some 5) (v := ?_) (a' := ?_) #[Z1,Z1,Z1,Z0,Z0,Z0,Z0,Z0,Z0,Z0,Z0,Z0,Z0,Z0,Z0,Z0,Z0,Z0,Z0,Z0,Z0,Z0,Z0,Z0,Z0,Z0] rfl rfl (any_of HT_.out (by kernel_rfl)) (fun _ _ _ h => h) (Or.inl ⟨by rfl, ?_⟩) ?_ ?_
    rotate_left; intro w'; go_simp; with_reducible rfl; rotate_left; simp only [Act.put, pS_, pZ_, pC_, i64_w, i32_w]; rfl
    refine pure_ (i := 3) (N := some 6) (v := ?_) (a' := ?_) #[Z1,Z1,Z1,Z1,Z0,Z0,Z0,Z0,Z0,Z0,Z0,Z0,Z0,Z0,Z0,Z0,Z0,Z0,Z0,Z0,Z0,Z0,Z0,Z0,Z0,Z0] rfl rfl (any_of HT_.out (by kernel_rfl)) (fun _ _ _ h => h) (Or.inl ⟨by rfl, ?_⟩) ?_ ?_
    rotate_left; intro w'; go_simp; with_reducible rfl; rotate_left; simp only [Act.put, pS_, pZ_, pC_, i64_w, i32_w]; rfl
    refine pure_ (i := 4) (N := some 7) (v := ?_) (a' := ?_) #[Z1,Z1,Z1,Z1,Z1,Z0,Z0,Z0,Z0,Z0,Z0,Z0,Z0,Z0,Z0,Z0,Z0,Z0,Z0,Z0,Z0,Z0,Z0,Z0,Z0,Z0] rfl rfl (any_of HT_.out (by kernel_rfl)) (fun _ _ _ h => h) (Or.inl ⟨by rfl, ?_⟩) ?_ ?_
    rotate_left; intro w'; go_simp; with_reducible rfl; rotate_left; simp only [Act.put, pS_, pZ_, pC_, i64_w, i32_w]; rfl
    refine take_ (i := 5) (N := some 8) (v := ?_) (a' := ?_) #[Z1,Z1,Z1,Z1,Z1,Z1,Z0,Z0,Z0,Z0,Z0,Z0,Z0,Z0,Z0,Z0,Z0,Z0,Z0,Z0,Z0,Z0,Z0,Z0,Z0,Z0] rfl rfl (take_ofW HT_.out HW_.out (by kernel_rfl)) (fun _ _ _ h => h) (Or.inl ⟨by rfl, ?_⟩) hHeld ?_ ?_
    rotate_left; rintro w' ⟨s0, s1⟩; go_simp; with_reducible rfl; rotate_left; simp only [Act.put, pS_, pZ_, pC_, i64_w, i32_w]; rfl
    refine pure_ (i := 6) (N := some 9) (v := ?_) (a' := ?_) #[Z1,Z1,Z1,Z1,Z1,Z1,Z1,Z0,Z0,Z0,Z0,Z0,Z0,Z0,Z0,Z0,Z0,Z0,Z0,Z0,Z0,Z0,Z0,Z0,Z0,Z0] rfl rfl (any_of HT_.out (by kernel_rfl)) (fun _ _ _ h => h) (Or.inl ⟨by rfl, ?_⟩) ?_ ?_
    rotate_left; intro w'; go_simp; with_reducible rfl; rotate_left; simp only [Act.put, pS_, pZ_, pC_, i64_w, i32_w]; rfl
    refine pure_ (i := 7) (N := some 10) (v := ?_) (a' := ?_) #[Z1,Z1,Z1,Z1,Z1,Z1,Z1,Z1,Z0,Z0,Z0,Z0,Z0,Z0,Z0,Z0,Z0,Z0,Z0,Z0,Z0,Z0,Z0,Z0,Z0,Z0] rfl rfl (any_of HT_.out (by kernel_rfl)) (fun _ _ _ h => h) (Or.inl ⟨by rfl, ?_⟩) ?_ ?_
    rotate_left; intro w'; go_simp; with_reducible rfl; rotate_left; simp only [Act.put, pS_, pZ_, pC_, i64_w, i32_w]; rfl
    refine pure_ (i := 8) (N := some 11) (v := ?_) (a' := ?_) #[Z1,Z1,Z1,Z1,Z1,Z1,Z1,Z1,Z1,Z0,Z0,Z0,Z0,Z0,Z0,Z0,Z0,Z0,Z0,Z0,Z0,Z0,Z0,Z0,Z0,Z0] rfl rfl (any_of HT_.out (by kernel_rfl)) (fun _ _ _ h => h) (Or.inl ⟨by rfl, ?_⟩) ?_ ?_
    rotate_left; intro w'; go_simp; with_reducible rfl; rotate_left; simp only [Act.put, pS_, pZ_, pC_, i64_w, i32_w]; rfl
    refine pure_ (i := 9) (N := some 12) (v := ?_) (a' := ?_) #[Z1,Z1,Z1,Z1,Z1,Z1,Z1,Z1,Z1,Z1,Z0,Z0,Z0,Z0,Z0,Z0,Z0,Z0,Z0,Z0,Z0,Z0,Z0,Z0,Z0,Z0] rfl rfl (any_of HT_.out (by kernel_rfl)) (fun _ _ _ h => h) (Or.inl ⟨by rfl, ?_⟩) ?_ ?_
    rotate_left; intro w'; go_simp; with_reducible rfl; rotate_left; simp only [Act.put, pS_, pZ_, pC_, i64_w, i32_w]; rfl
    refine take_ (i := 10) (N := some 13) (v := ?_) (a' := ?_) #[Z1,Z1,Z1,Z1,Z1,Z1,Z1,Z1,Z1,Z1,Z1,Z0,Z0,Z0,Z0,Z0,Z0,Z0,Z0,Z0,Z0,Z0,Z0,Z0,Z0,Z0] rfl rfl (take_ofW HT_.out HW_.out (by kernel_rfl)) (fun _ _ _ h => h) (Or.inl ⟨by rfl, ?_⟩) hHeld ?_ ?_
    rotate_left; rintro w' ⟨s0, s1⟩; go_simp; with_reducible rfl; rotate_left; simp only [Act.put, pS_, pZ_, pC_, i64_w, i32_w]; rfl
    refine one_ (i := 11) (N := some 14) #[Z1,Z1,Z1,Z1,Z1,Z1,Z1,Z1,Z1,Z1,Z1,Z1,Z0,Z0,Z0,Z0,Z0,Z0,Z0,Z0,Z0,Z0,Z0,Z0,Z0,Z0] rfl rfl (one_of HT_.out (by kernel_rfl)) (by decide) (fun K hK => ?_)
    refine goes_ Tryd.func70 (by kernel_rfl) rfl #[.int .i64 a0_0] (by rfl) rfl rfl (by (try simp only [List.map_toArray, List.map_cons, List.map_nil]); rfl) ?_
    with_reducible refine (ratio_magnitude_int.calls a0_0 t166 _ A4.out).mono ?_
    rintro e w' ⟨rfl, ⟨nd, rfl⟩⟩
    refine ⟨_, rfl, ?_⟩
    refine hK.out _ _ ⟨(blk_cell BK165.out 0).trans rfl, (blk_cell BK165.out 1).trans rfl⟩ (fun hHeld => ?_)
    clear hK K
    refine norm_ (a' := ?_) ?_ ?_
    rotate_left; show Act.put _ (some 14) _ = _; simp only [Act.put, pS_, pZ_, pC_, i64_w, i32_w]; rfl
    refine pure_ (i := 12) (N := some 15) (v := ?_) (a' := ?_) #[Z1,Z1,Z1,Z1,Z1,Z1,Z1,Z1,Z1,Z1,Z1,Z1,Z1,Z0,Z0,Z0,Z0,Z0,Z0,Z0,Z0,Z0,Z0,Z0,Z0,Z0] rfl rfl (any_of HT_.out (by kernel_rfl)) (fun _ _ _ h => h) (Or.inl ⟨by rfl, ?_⟩) ?_ ?_
    rotate_left; intro w'; go_simp; with_reducible rfl; rotate_left; simp only [Act.put, pS_, pZ_, pC_, i64_w, i32_w]; rfl
    refine pure_ (i := 13) (N := some 16) (v := ?_) (a' := ?_) #[Z1,Z1,Z1,Z1,Z1,Z1,Z1,Z1,Z1,Z1,Z1,Z1,Z1,Z1,Z0,Z0,Z0,Z0,Z0,Z0,Z0,Z0,Z0,Z0,Z0,Z0] rfl rfl (any_of HT_.out (by kernel_rfl)) (fun _ _ _ h => h) (Or.inl ⟨by rfl, ?_⟩) ?_ ?_
    rotate_left; intro w'; go_simp; with_reducible rfl; rotate_left; simp only [Act.put, pS_, pZ_, pC_, i64_w, i32_w]; rfl
    refine pure_ (i := 14) (N := some 17) (v := ?_) (a' := ?_) #[Z1,Z1,Z1,Z1,Z1,Z1,Z1,Z1,Z1,Z1,Z1,Z1,Z1,Z1,Z1,Z0,Z0,Z0,Z0,Z0,Z0,Z0,Z0,Z0,Z0,Z0] rfl rfl (any_of HT_.out (by kernel_rfl)) (fun _ _ _ h => h) (Or.inl ⟨by rfl, ?_⟩) ?_ ?_
    rotate_left; intro w'; go_simp; with_reducible rfl; rotate_left; simp only [Act.put, pS_, pZ_, pC_, i64_w, i32_w]; rfl
    refine pure_ (i := 15) (N := some 18) (v := ?_) (a' := ?_) #[Z1,Z1,Z1,Z1,Z1,Z1,Z1,Z1,Z1,Z1,Z1,Z1,Z1,Z1,Z1,Z1,Z0,Z0,Z0,Z0,Z0,Z0,Z0,Z0,Z0,Z0] rfl rfl (any_of HT_.out (by kernel_rfl)) (fun _ _ _ h => h) (Or.inl ⟨by rfl, ?_⟩) ?_ ?_
    rotate_left; intro w'; go_simp; with_reducible rfl; rotate_left; simp only [Act.put, pS_, pZ_, pC_, i64_w, i32_w]; rfl
    refine pure_ (i := 18) (N := some 21) (v := ?_) (a' := ?_) #[Z1,Z1,Z1,Z1,Z1,Z1,Z1,Z1,Z1,Z1,Z1,Z1,Z1,Z1,Z1,Z1,Z0,Z0,Z1,Z0,Z0,Z0,Z0,Z0,Z0,Z0] rfl rfl (any_of HT_.out (by kernel_rfl)) (fun _ _ _ h => h) (Or.inl ⟨by rfl, ?_⟩) ?_ ?_
    rotate_left; intro w'; go_simp; with_reducible rfl; rotate_left; simp only [Act.put, pS_, pZ_, pC_, i64_w, i32_w]; rfl
    refine take_ (i := 16) (N := some 19) (v := ?_) (a' := ?_) #[Z1,Z1,Z1,Z1,Z1,Z1,Z1,Z1,Z1,Z1,Z1,Z1,Z1,Z1,Z1,Z1,Z1,Z0,Z1,Z0,Z0,Z0,Z0,Z0,Z0,Z0] rfl rfl (take_ofW HT_.out HW_.out (by kernel_rfl)) (fun _ _ _ h => h) (Or.inl ⟨by rfl, ?_⟩) hHeld ?_ ?_
    rotate_left; rintro w' ⟨s0, s1⟩; go_simp; with_reducible rfl; rotate_left; simp only [Act.put, pS_, pZ_, pC_, i64_w, i32_w]; rfl
    refine take_ (i := 19) (N := some 22) (v := ?_) (a' := ?_) #[Z1,Z1,Z1,Z1,Z1,Z1,Z1,Z1,Z1,Z1,Z1,Z1,Z1,Z1,Z1,Z1,Z1,Z0,Z1,Z1,Z0,Z0,Z0,Z0,Z0,Z0] rfl rfl (take_ofW HT_.out HW_.out (by kernel_rfl)) (fun _ _ _ h => h) (Or.inl ⟨by rfl, ?_⟩) hHeld ?_ ?_
    rotate_left; rintro w' ⟨s0, s1⟩; go_simp; with_reducible rfl; rotate_left; simp only [Act.put, pS_, pZ_, pC_, i64_w, i32_w]; rfl
    refine one_ (i := 17) (N := some 20) #[Z1,Z1,Z1,Z1,Z1,Z1,Z1,Z1,Z1,Z1,Z1,Z1,Z1,Z1,Z1,Z1,Z1,Z1,Z1,Z1,Z0,Z0,Z0,Z0,Z0,Z0] rfl rfl (one_of HT_.out (by kernel_rfl)) (by decide) (fun K hK => ?_)
    refine goes_ Tryd.func70 (by kernel_rfl) rfl #[.int .i64 a0_0] (by rfl) rfl rfl (by (try simp only [List.map_toArray, List.map_cons, List.map_nil]); rfl) ?_
    with_reducible refine (ratio_magnitude_int.calls a0_0 t167 _ A6.out).mono ?_
    rintro e w' ⟨rfl, ⟨nd, rfl⟩⟩
    refine ⟨_, rfl, ?_⟩
    refine hK.out _ _ ⟨(blk_cell BK165.out 0).trans rfl, (blk_cell BK165.out 1).trans rfl⟩ (fun hHeld => ?_)
    clear hK K
    refine norm_ (a' := ?_) ?_ ?_
    rotate_left; show Act.put _ (some 20) _ = _; simp only [Act.put, pS_, pZ_, pC_, i64_w, i32_w]; rfl
    refine one_ (i := 20) (N := some 23) #[Z1,Z1,Z1,Z1,Z1,Z1,Z1,Z1,Z1,Z1,Z1,Z1,Z1,Z1,Z1,Z1,Z1,Z1,Z1,Z1,Z1,Z0,Z0,Z0,Z0,Z0] rfl rfl (one_of HT_.out (by kernel_rfl)) (by decide) (fun K hK => ?_)
    refine goes_ Tryd.func70 (by kernel_rfl) rfl #[.int .i64 a0_1] (by rfl) rfl rfl (by (try simp only [List.map_toArray, List.map_cons, List.map_nil]); rfl) ?_
    with_reducible refine (ratio_magnitude_int.calls a0_1 t168 _ A7.out).mono ?_
    rintro e w' ⟨rfl, ⟨nd, rfl⟩⟩
    refine ⟨_, rfl, ?_⟩
    refine hK.out _ _ ⟨(blk_cell BK165.out 0).trans rfl, (blk_cell BK165.out 1).trans rfl⟩ (fun hHeld => ?_)
    clear hK K
    refine norm_ (a' := ?_) ?_ ?_
    rotate_left; show Act.put _ (some 23) _ = _; simp only [Act.put, pS_, pZ_, pC_, i64_w, i32_w]; rfl
    refine one_ (i := 21) (N := some 24) #[Z1,Z1,Z1,Z1,Z1,Z1,Z1,Z1,Z1,Z1,Z1,Z1,Z1,Z1,Z1,Z1,Z1,Z1,Z1,Z1,Z1,Z1,Z0,Z0,Z0,Z0] rfl rfl (one_of HT_.out (by kernel_rfl)) (by decide) (fun K hK => ?_)
    refine Kd.R_lit_step (Kd.int .u64) _ 88 ?hg (N := 24) ?hd (xs := ([t167, t168] : List Int)) (inner := [.int .u64 t167, .int .u64 t168]) (ok := fun _ => True) (okp := fun _ => True) ?hr ?hp (fun _ hk => hk) trivial (Below.refl _ _) (Nat.le_refl _) (by simp) ?_; (case hd => rfl); (case hg => rfl); (case hr => (go_simp; done)); (case hp => exact (Reps.one (show Kd.M (Kd.int .u64) _ _ _ t167 [.int .u64 t167] from rfl) (Reps.one (show Kd.M (Kd.int .u64) _ _ _ t168 [.int .u64 t168] from rfl) (Reps.none _ _))))
    intro v170 w11 ho12 hb hg_ hnew_
    clear hg_ hnew_
    ((rw [← Ny169.out] at ho12))
    have n0_ := Aside0.mk (Kd.R_lower ho12 (below_size (by repeat ((with_reducible first | exact HB.out | apply pw_below_drewN)))))
    have n1_ := Aside0.mk (blk_below (by (with_reducible repeat ((refine blk_drewN ?_ _))); exact BK165.out) hb)
    have n2_ := Aside0.mk (below_step (by repeat ((with_reducible first | exact HB.out | apply pw_below_drewN))) hb)
    clear BK165
    clear HB
    have HO171 := n0_
    have BK165 := n1_
    have HB := n2_
    clear n0_ n1_ n2_
    clear hb ho12
    obtain ⟨Ao13, co13, eo13⟩ := Kd.R_slice HO171.out
    (subst eo13)
    refine hK.out _ _ ⟨(blk_cell BK165.out 0).trans rfl, (blk_cell BK165.out 1).trans rfl⟩ (fun hHeld => ?_)
    clear hK K
    refine norm_ (a' := ?_) ?_ ?_
    rotate_left; show Act.put _ (some 24) _ = _; simp only [Act.put, pS_, pZ_, pC_, i64_w, i32_w]; rfl
    refine one_ (i := 22) (N := some 25) #[Z1,Z1,Z1,Z1,Z1,Z1,Z1,Z1,Z1,Z1,Z1,Z1,Z1,Z1,Z1,Z1,Z1,Z1,Z1,Z1,Z1,Z1,Z1,Z0,Z0,Z0] rfl rfl (one_of HT_.out (by kernel_rfl)) (by decide) (fun K hK => ?_)
    refine goes_ Tryd.func71 (by kernel_rfl) rfl #[.slice Ao13 y169.length co13] (by rfl) rfl rfl (by (try simp only [List.map_toArray, List.map_cons, List.map_nil]); rfl) ?_
    with_reducible refine (ratio_common.calls k _ _ y169 t172 _ ?side1 ?side2 A8.out).mono ?_
    (case side1 => repeat ((exact (Kd.R_reads' HO171.out).2.2)))
    (case side2 => exact (Kd.R_reads' HO171.out).2.1)
    rintro e w' ⟨rfl, ⟨nd, rfl⟩⟩
    refine ⟨_, rfl, ?_⟩
    refine hK.out _ _ ⟨(blk_cell BK165.out 0).trans rfl, (blk_cell BK165.out 1).trans rfl⟩ (fun hHeld => ?_)
    clear hK K
    refine norm_ (a' := ?_) ?_ ?_
    rotate_left; show Act.put _ (some 25) _ = _; simp only [Act.put, pS_, pZ_, pC_, i64_w, i32_w]; rfl
    refine pure_ (i := 23) (N := some 26) (v := ?_) (a' := ?_) #[Z1,Z1,Z1,Z1,Z1,Z1,Z1,Z1,Z1,Z1,Z1,Z1,Z1,Z1,Z1,Z1,Z1,Z1,Z1,Z1,Z1,Z1,Z1,Z1,Z0,Z0] rfl rfl (any_of HT_.out (by kernel_rfl)) (fun _ _ _ h => h) (Or.inl ⟨by rfl, ?_⟩) ?_ ?_
    rotate_left; intro w'; go_simp; with_reducible rfl; rotate_left; simp only [Act.put, pS_, pZ_, pC_, i64_w, i32_w]; rfl
    refine pure_ (i := 24) (N := some 27) (v := ?_) (a' := ?_) #[Z1,Z1,Z1,Z1,Z1,Z1,Z1,Z1,Z1,Z1,Z1,Z1,Z1,Z1,Z1,Z1,Z1,Z1,Z1,Z1,Z1,Z1,Z1,Z1,Z1,Z0] rfl rfl (any_of HT_.out (by kernel_rfl)) (fun _ _ _ h => h) (Or.inl ⟨by rfl, ?_⟩) ?_ ?_
    rotate_left; intro w'; go_simp; with_reducible rfl; rotate_left; simp only [Act.put, pS_, pZ_, pC_, i64_w, i32_w]; rfl
    refine pure_ (i := 25) (N := some 2) (v := ?_) (a' := ?_) #[Z1,Z1,Z1,Z1,Z1,Z1,Z1,Z1,Z1,Z1,Z1,Z1,Z1,Z1,Z1,Z1,Z1,Z1,Z1,Z1,Z1,Z1,Z1,Z1,Z1,Z1] rfl rfl (any_of HT_.out (by kernel_rfl)) (fun _ _ _ h => h) (Or.inl ⟨by rfl, ?_⟩) ?_ ?_
    rotate_left; intro w'; go_simp; with_reducible rfl; rotate_left; simp only [Act.put, pS_, pZ_, pC_, i64_w, i32_w]; rfl
    refine done_ (done_of HT_.out (by kernel_rfl)) ?_
    try go_wp2
    go_ret
    exact ⟨by rfl, by repeat ((with_reducible first | exact HB.out | apply pw_below_drewN))⟩
   rw [if_neg c5] at H
   have c5b0 : decide (t166 ≤ 1000000000) = false := decide_eq_false c5
   clear c5
   obtain rfl := Option.some.inj H
   go_enter Tryd.func49, Tryd.ntmps49
   try go_wp2_with (first | ((with_reducible refine gate_dst (N := 1) rfl ?_); (try (refine gate_guard (by rfl) ?_; dsimp only)); refine box_event ?hg (N := 1) ?hd (cs := #[.int .i64 a0_0, .int .i64 a0_1]) (t := 41) ?hr ?_; (case hd => rfl); (case hg => rfl); (case hr => (go_simp; done)); intro gb165 hg w14 hbox hb; have n0_ := Aside0.mk (below_step HB.out hb); have n1_ := Aside0.mk (hbox); clear HB; have HB := n0_; have BK165 := n1_; clear n0_ n1_; clear hb hbox hg))
   have n0_ := Aside0.mk (blk_drew BK165.out)
   have n1_ := Aside0.mk (below_drew1 HB.out)
   clear BK165
   clear HB
   have BK165 := n0_
   have HB := n1_
   clear n0_ n1_
   refine start_ (n := 26) (S := fun w' => w'.cell? ⟨gb165, 0, none⟩ = some (.int .i64 a0_0) ∧ w'.cell? ⟨gb165, 1, none⟩ = some (.int .i64 a0_1)) (ds := []) #[Z0,Z0,Z0,Z0,Z0,Z0,Z0,Z0,Z0,Z0,Z0,Z0,Z0,Z0,Z0,Z0,Z0,Z0,Z0,Z0,Z0,Z0,Z0,Z0,Z0,Z0] (by kernel_rfl) rfl rfl ⟨(blk_cell BK165.out 0).trans rfl, (blk_cell BK165.out 1).trans rfl⟩ (fun hHeld => ?_); refine with_tabW ratio_Valid.tab1 ratio_Valid.bits1 (fun HT_ HW_ => ?_)
   generalize w14.drew = w15 at BK165 HB hHeld ⊢
   refine pure_ (i := 0) (N := some 3) (v := ?_) (a' := ?_) #[Z1,Z0,Z0,Z0,Z0,Z0,Z0,Z0,Z0,Z0,Z0,Z0,Z0,Z0,Z0,Z0,Z0,Z0,Z0,Z0,Z0,Z0,Z0,Z0,Z0,Z0] rfl rfl (any_of HT_.out (by kernel_rfl)) (fun _ _ _ h => h) (Or.inl ⟨by rfl, ?_⟩) ?_ ?_
   rotate_left; intro w'; go_simp; with_reducible rfl; rotate_left; simp only [Act.put, pS_, pZ_, pC_, i64_w, i32_w]; rfl
   refine take_ (i := 1) (N := some 4) (v := ?_) (a' := ?_) #[Z1,Z1,Z0,Z0,Z0,Z0,Z0,Z0,Z0,Z0,Z0,Z0,Z0,Z0,Z0,Z0,Z0,Z0,Z0,Z0,Z0,Z0,Z0,Z0,Z0,Z0] rfl rfl (take_ofW HT_.out HW_.out (by kernel_rfl)) (fun _ _ _ h => h) (Or.inl ⟨by rfl, ?_⟩) hHeld ?_ ?_
   rotate_left; rintro w' ⟨s0, s1⟩; go_simp; with_reducible rfl; rotate_left; simp only [Act.put, pS_, pZ_, pC_, i64_w, i32_w]; rfl
   refine pure_ (i := 2) (N := some 5) (v := ?_) (a' := ?_) #[Z1,Z1,Z1,Z0,Z0,Z0,Z0,Z0,Z0,Z0,Z0,Z0,Z0,Z0,Z0,Z0,Z0,Z0,Z0,Z0,Z0,Z0,Z0,Z0,Z0,Z0] rfl rfl (any_of HT_.out (by kernel_rfl)) (fun _ _ _ h => h) (Or.inl ⟨by rfl, ?_⟩) ?_ ?_
   rotate_left; intro w'; go_simp; with_reducible rfl; rotate_left; simp only [Act.put, pS_, pZ_, pC_, i64_w, i32_w]; rfl
   refine pure_ (i := 3) (N := some 6) (v := ?_) (a' := ?_) #[Z1,Z1,Z1,Z1,Z0,Z0,Z0,Z0,Z0,Z0,Z0,Z0,Z0,Z0,Z0,Z0,Z0,Z0,Z0,Z0,Z0,Z0,Z0,Z0,Z0,Z0] rfl rfl (any_of HT_.out (by kernel_rfl)) (fun _ _ _ h => h) (Or.inl ⟨by rfl, ?_⟩) ?_ ?_
   rotate_left; intro w'; go_simp; with_reducible rfl; rotate_left; simp only [Act.put, pS_, pZ_, pC_, i64_w, i32_w]; rfl
   refine pure_ (i := 4) (N := some 7) (v := ?_) (a' := ?_) #[Z1,Z1,Z1,Z1,Z1,Z0,Z0,Z0,Z0,Z0,Z0,Z0,Z0,Z0,Z0,Z0,Z0,Z0,Z0,Z0,Z0,Z0,Z0,Z0,Z0,Z0] rfl rfl (any_of HT_.out (by kernel_rfl)) (fun _ _ _ h => h) (Or.inl ⟨by rfl, ?_⟩) ?_ ?_
   rotate_left; intro w'; go_simp; with_reducible rfl; rotate_left; simp only [Act.put, pS_, pZ_, pC_, i64_w, i32_w]; rfl
   refine take_ (i := 5) (N := some 8) (v := ?_) (a' := ?_) #[Z1,Z1,Z1,Z1,Z1,Z1,Z0,Z0,Z0,Z0,Z0,Z0,Z0,Z0,Z0,Z0,Z0,Z0,Z0,Z0,Z0,Z0,Z0,Z0,Z0,Z0] rfl rfl (take_ofW HT_.out HW_.out (by kernel_rfl)) (fun _ _ _ h => h) (Or.inl ⟨by rfl, ?_⟩) hHeld ?_ ?_
   rotate_left; rintro w' ⟨s0, s1⟩; go_simp; with_reducible rfl; rotate_left; simp only [Act.put, pS_, pZ_, pC_, i64_w, i32_w]; rfl
   refine pure_ (i := 6) (N := some 9) (v := ?_) (a' := ?_) #[Z1,Z1,Z1,Z1,Z1,Z1,Z1,Z0,Z0,Z0,Z0,Z0,Z0,Z0,Z0,Z0,Z0,Z0,Z0,Z0,Z0,Z0,Z0,Z0,Z0,Z0] rfl rfl (any_of HT_.out (by kernel_rfl)) (fun _ _ _ h => h) (Or.inl ⟨by rfl, ?_⟩) ?_ ?_
   rotate_left; intro w'; go_simp; with_reducible rfl; rotate_left; simp only [Act.put, pS_, pZ_, pC_, i64_w, i32_w]; rfl
   refine pure_ (i := 7) (N := some 10) (v := ?_) (a' := ?_) #[Z1,Z1,Z1,Z1,Z1,Z1,Z1,Z1,Z0,Z0,Z0,Z0,Z0,Z0,Z0,Z0,Z0,Z0,Z0,Z0,Z0,Z0,Z0,Z0,Z0,Z0] rfl rfl (any_of HT_.out (by kernel_rfl)) (fun _ _ _ h => h) (Or.inl ⟨by rfl, ?_⟩) ?_ ?_
   rotate_left; intro w'; go_simp; with_reducible rfl; rotate_left; simp only [Act.put, pS_, pZ_, pC_, i64_w, i32_w]; rfl
   refine pure_ (i := 8) (N := some 11) (v := ?_) (a' := ?_) #[Z1,Z1,Z1,Z1,Z1,Z1,Z1,Z1,Z1,Z0,Z0,Z0,Z0,Z0,Z0,Z0,Z0,Z0,Z0,Z0,Z0,Z0,Z0,Z0,Z0,Z0] rfl rfl (any_of HT_.out (by kernel_rfl)) (fun _ _ _ h => h) (Or.inl ⟨by rfl, ?_⟩) ?_ ?_
   rotate_left; intro w'; go_simp; with_reducible rfl; rotate_left; simp only [Act.put, pS_, pZ_, pC_, i64_w, i32_w]; rfl
   refine pure_ (i := 9) (N := some 12) (v := ?_) (a' := ?_) #[Z1,Z1,Z1,Z1,Z1,Z1,Z1,Z1,Z1,Z1,Z0,Z0,Z0,Z0,Z0,Z0,Z0,Z0,Z0,Z0,Z0,Z0,Z0,Z0,Z0,Z0] rfl rfl (any_of HT_.out (by kernel_rfl)) (fun _ _ _ h => h) (Or.inl ⟨by rfl, ?_⟩) ?_ ?_
   rotate_left; intro w'; go_simp; with_reducible rfl; rotate_left; simp only [Act.put, pS_, pZ_, pC_, i64_w, i32_w]; rfl
   refine take_ (i := 10) (N := some 13) (v := ?_) (a' := ?_) #[Z1,Z1,Z1,Z1,Z1,Z1,Z1,Z1,Z1,Z1,Z1,Z0,Z0,Z0,Z0,Z0,Z0,Z0,Z0,Z0,Z0,Z0,Z0,Z0,Z0,Z0] rfl rfl (take_ofW HT_.out HW_.out (by kernel_rfl)) (fun _ _ _ h => h) (Or.inl ⟨by rfl, ?_⟩) hHeld ?_ ?_
   rotate_left; rintro w' ⟨s0, s1⟩; go_simp; with_reducible rfl; rotate_left; simp only [Act.put, pS_, pZ_, pC_, i64_w, i32_w]; rfl
   refine one_ (i := 11) (N := some 14) #[Z1,Z1,Z1,Z1,Z1,Z1,Z1,Z1,Z1,Z1,Z1,Z1,Z0,Z0,Z0,Z0,Z0,Z0,Z0,Z0,Z0,Z0,Z0,Z0,Z0,Z0] rfl rfl (one_of HT_.out (by kernel_rfl)) (by decide) (fun K hK => ?_)
   refine goes_ Tryd.func70 (by kernel_rfl) rfl #[.int .i64 a0_0] (by rfl) rfl rfl (by (try simp only [List.map_toArray, List.map_cons, List.map_nil]); rfl) ?_
   with_reducible refine (ratio_magnitude_int.calls a0_0 t166 _ A4.out).mono ?_
   rintro e w' ⟨rfl, ⟨nd, rfl⟩⟩
   refine ⟨_, rfl, ?_⟩
   refine hK.out _ _ ⟨(blk_cell BK165.out 0).trans rfl, (blk_cell BK165.out 1).trans rfl⟩ (fun hHeld => ?_)
   clear hK K
   refine norm_ (a' := ?_) ?_ ?_
   rotate_left; show Act.put _ (some 14) _ = _; simp only [Act.put, pS_, pZ_, pC_, i64_w, i32_w]; rfl
   refine pure_ (i := 12) (N := some 15) (v := ?_) (a' := ?_) #[Z1,Z1,Z1,Z1,Z1,Z1,Z1,Z1,Z1,Z1,Z1,Z1,Z1,Z0,Z0,Z0,Z0,Z0,Z0,Z0,Z0,Z0,Z0,Z0,Z0,Z0] rfl rfl (any_of HT_.out (by kernel_rfl)) (fun _ _ _ h => h) (Or.inl ⟨by rfl, ?_⟩) ?_ ?_
   rotate_left; intro w'; go_simp; with_reducible rfl; rotate_left; simp only [Act.put, pS_, pZ_, pC_, i64_w, i32_w]; rfl
   refine pure_ (i := 13) (N := some 16) (v := ?_) (a' := ?_) #[Z1,Z1,Z1,Z1,Z1,Z1,Z1,Z1,Z1,Z1,Z1,Z1,Z1,Z1,Z0,Z0,Z0,Z0,Z0,Z0,Z0,Z0,Z0,Z0,Z0,Z0] rfl rfl (any_of HT_.out (by kernel_rfl)) (fun _ _ _ h => h) (Or.inl ⟨by rfl, ?_⟩) ?_ ?_
   rotate_left; intro w'; go_simp; with_reducible rfl; rotate_left; simp only [Act.put, pS_, pZ_, pC_, i64_w, i32_w]; rfl
   refine pure_ (i := 14) (N := some 17) (v := ?_) (a' := ?_) #[Z1,Z1,Z1,Z1,Z1,Z1,Z1,Z1,Z1,Z1,Z1,Z1,Z1,Z1,Z1,Z0,Z0,Z0,Z0,Z0,Z0,Z0,Z0,Z0,Z0,Z0] rfl rfl (any_of HT_.out (by kernel_rfl)) (fun _ _ _ h => h) (Or.inl ⟨by rfl, ?_⟩) ?_ ?_
   rotate_left; intro w'; go_simp; with_reducible rfl; rotate_left; simp only [Act.put, pS_, pZ_, pC_, i64_w, i32_w]; rfl
   refine pure_ (i := 15) (N := some 18) (v := undef) (a' := ?_) #[Z1,Z1,Z1,Z1,Z1,Z1,Z1,Z1,Z1,Z1,Z1,Z1,Z1,Z1,Z1,Z1,Z0,Z0,Z0,Z0,Z0,Z0,Z0,Z0,Z0,Z0] rfl rfl (any_of HT_.out (by kernel_rfl)) (fun _ _ _ h => h) (Or.inr ⟨by rfl, rfl⟩) ?_ ?_
   rotate_left
   ·simp only [Act.put, pS_, pZ_, pC_, i64_w, i32_w]
    rfl
   refine pure_ (i := 16) (N := some 19) (v := undef) (a' := ?_) #[Z1,Z1,Z1,Z1,Z1,Z1,Z1,Z1,Z1,Z1,Z1,Z1,Z1,Z1,Z1,Z1,Z1,Z0,Z0,Z0,Z0,Z0,Z0,Z0,Z0,Z0] rfl rfl (any_of HT_.out (by kernel_rfl)) (fun _ _ _ h => h) (Or.inr ⟨by rfl, rfl⟩) ?_ ?_
   rotate_left
   ·simp only [Act.put, pS_, pZ_, pC_, i64_w, i32_w]
    rfl
   refine pure_ (i := 17) (N := some 20) (v := undef) (a' := ?_) #[Z1,Z1,Z1,Z1,Z1,Z1,Z1,Z1,Z1,Z1,Z1,Z1,Z1,Z1,Z1,Z1,Z1,Z1,Z0,Z0,Z0,Z0,Z0,Z0,Z0,Z0] rfl rfl (any_of HT_.out (by kernel_rfl)) (fun _ _ _ h => h) (Or.inr ⟨by rfl, rfl⟩) ?_ ?_
   rotate_left
   ·simp only [Act.put, pS_, pZ_, pC_, i64_w, i32_w]
    rfl
   refine pure_ (i := 18) (N := some 21) (v := undef) (a' := ?_) #[Z1,Z1,Z1,Z1,Z1,Z1,Z1,Z1,Z1,Z1,Z1,Z1,Z1,Z1,Z1,Z1,Z1,Z1,Z1,Z0,Z0,Z0,Z0,Z0,Z0,Z0] rfl rfl (any_of HT_.out (by kernel_rfl)) (fun _ _ _ h => h) (Or.inr ⟨by rfl, rfl⟩) ?_ ?_
   rotate_left
   ·simp only [Act.put, pS_, pZ_, pC_, i64_w, i32_w]
    rfl
   refine pure_ (i := 19) (N := some 22) (v := undef) (a' := ?_) #[Z1,Z1,Z1,Z1,Z1,Z1,Z1,Z1,Z1,Z1,Z1,Z1,Z1,Z1,Z1,Z1,Z1,Z1,Z1,Z1,Z0,Z0,Z0,Z0,Z0,Z0] rfl rfl (any_of HT_.out (by kernel_rfl)) (fun _ _ _ h => h) (Or.inr ⟨by rfl, rfl⟩) ?_ ?_
   rotate_left
   ·simp only [Act.put, pS_, pZ_, pC_, i64_w, i32_w]
    rfl
   refine pure_ (i := 20) (N := some 23) (v := undef) (a' := ?_) #[Z1,Z1,Z1,Z1,Z1,Z1,Z1,Z1,Z1,Z1,Z1,Z1,Z1,Z1,Z1,Z1,Z1,Z1,Z1,Z1,Z1,Z0,Z0,Z0,Z0,Z0] rfl rfl (any_of HT_.out (by kernel_rfl)) (fun _ _ _ h => h) (Or.inr ⟨by rfl, rfl⟩) ?_ ?_
   rotate_left
   ·simp only [Act.put, pS_, pZ_, pC_, i64_w, i32_w]
    rfl
   refine pure_ (i := 21) (N := some 24) (v := undef) (a' := ?_) #[Z1,Z1,Z1,Z1,Z1,Z1,Z1,Z1,Z1,Z1,Z1,Z1,Z1,Z1,Z1,Z1,Z1,Z1,Z1,Z1,Z1,Z1,Z0,Z0,Z0,Z0] rfl rfl (any_of HT_.out (by kernel_rfl)) (fun _ _ _ h => h) (Or.inr ⟨by rfl, rfl⟩) ?_ ?_
   rotate_left
   ·simp only [Act.put, pS_, pZ_, pC_, i64_w, i32_w]
    rfl
   refine pure_ (i := 22) (N := some 25) (v := undef) (a' := ?_) #[Z1,Z1,Z1,Z1,Z1,Z1,Z1,Z1,Z1,Z1,Z1,Z1,Z1,Z1,Z1,Z1,Z1,Z1,Z1,Z1,Z1,Z1,Z1,Z0,Z0,Z0] rfl rfl (any_of HT_.out (by kernel_rfl)) (fun _ _ _ h => h) (Or.inr ⟨by rfl, rfl⟩) ?_ ?_
   rotate_left
   ·simp only [Act.put, pS_, pZ_, pC_, i64_w, i32_w]
    rfl
   refine pure_ (i := 23) (N := some 26) (v := undef) (a' := ?_) #[Z1,Z1,Z1,Z1,Z1,Z1,Z1,Z1,Z1,Z1,Z1,Z1,Z1,Z1,Z1,Z1,Z1,Z1,Z1,Z1,Z1,Z1,Z1,Z1,Z0,Z0] rfl rfl (any_of HT_.out (by kernel_rfl)) (fun _ _ _ h => h) (Or.inr ⟨by rfl, rfl⟩) ?_ ?_
   rotate_left
   ·simp only [Act.put, pS_, pZ_, pC_, i64_w, i32_w]
    rfl
   refine pure_ (i := 24) (N := some 27) (v := ?_) (a' := ?_) #[Z1,Z1,Z1,Z1,Z1,Z1,Z1,Z1,Z1,Z1,Z1,Z1,Z1,Z1,Z1,Z1,Z1,Z1,Z1,Z1,Z1,Z1,Z1,Z1,Z1,Z0] rfl rfl (any_of HT_.out (by kernel_rfl)) (fun _ _ _ h => h) (Or.inl ⟨by rfl, ?_⟩) ?_ ?_
   rotate_left; intro w'; go_simp; with_reducible rfl; rotate_left; simp only [Act.put, pS_, pZ_, pC_, i64_w, i32_w]; rfl
   refine pure_ (i := 25) (N := some 2) (v := ?_) (a' := ?_) #[Z1,Z1,Z1,Z1,Z1,Z1,Z1,Z1,Z1,Z1,Z1,Z1,Z1,Z1,Z1,Z1,Z1,Z1,Z1,Z1,Z1,Z1,Z1,Z1,Z1,Z1] rfl rfl (any_of HT_.out (by kernel_rfl)) (fun _ _ _ h => h) (Or.inl ⟨by rfl, ?_⟩) ?_ ?_
   rotate_left; intro w'; go_simp; with_reducible rfl; rotate_left; simp only [Act.put, pS_, pZ_, pC_, i64_w, i32_w]; rfl
   refine done_ (done_of HT_.out (by kernel_rfl)) ?_
   try go_wp2
   go_ret
   exact ⟨by rfl, by repeat ((with_reducible first | exact HB.out | apply pw_below_drewN))⟩
  rw [if_neg c3] at H
  have c3b0 : decide (a0_1 ≤ 1000000000) = false := decide_eq_false c3
  clear c3
  obtain rfl := Option.some.inj H
  go_enter Tryd.func49, Tryd.ntmps49
  try go_wp2_with (first | ((with_reducible refine gate_dst (N := 1) rfl ?_); (try (refine gate_guard (by rfl) ?_; dsimp only)); refine box_event ?hg (N := 1) ?hd (cs := #[.int .i64 a0_0, .int .i64 a0_1]) (t := 41) ?hr ?_; (case hd => rfl); (case hg => rfl); (case hr => (go_simp; done)); intro gb165 hg w16 hbox hb; have n0_ := Aside0.mk (below_step HB.out hb); have n1_ := Aside0.mk (hbox); clear HB; have HB := n0_; have BK165 := n1_; clear n0_ n1_; clear hb hbox hg))
  have n0_ := Aside0.mk (blk_drew BK165.out)
  have n1_ := Aside0.mk (below_drew1 HB.out)
  clear BK165
  clear HB
  have BK165 := n0_
  have HB := n1_
  clear n0_ n1_
  refine start_ (n := 26) (S := fun w' => w'.cell? ⟨gb165, 0, none⟩ = some (.int .i64 a0_0) ∧ w'.cell? ⟨gb165, 1, none⟩ = some (.int .i64 a0_1)) (ds := []) #[Z0,Z0,Z0,Z0,Z0,Z0,Z0,Z0,Z0,Z0,Z0,Z0,Z0,Z0,Z0,Z0,Z0,Z0,Z0,Z0,Z0,Z0,Z0,Z0,Z0,Z0] (by kernel_rfl) rfl rfl ⟨(blk_cell BK165.out 0).trans rfl, (blk_cell BK165.out 1).trans rfl⟩ (fun hHeld => ?_); refine with_tabW ratio_Valid.tab1 ratio_Valid.bits1 (fun HT_ HW_ => ?_)
  generalize w16.drew = w17 at BK165 HB hHeld ⊢
  refine pure_ (i := 0) (N := some 3) (v := ?_) (a' := ?_) #[Z1,Z0,Z0,Z0,Z0,Z0,Z0,Z0,Z0,Z0,Z0,Z0,Z0,Z0,Z0,Z0,Z0,Z0,Z0,Z0,Z0,Z0,Z0,Z0,Z0,Z0] rfl rfl (any_of HT_.out (by kernel_rfl)) (fun _ _ _ h => h) (Or.inl ⟨by rfl, ?_⟩) ?_ ?_
  rotate_left; intro w'; go_simp; with_reducible rfl; rotate_left; simp only [Act.put, pS_, pZ_, pC_, i64_w, i32_w]; rfl
  refine take_ (i := 1) (N := some 4) (v := ?_) (a' := ?_) #[Z1,Z1,Z0,Z0,Z0,Z0,Z0,Z0,Z0,Z0,Z0,Z0,Z0,Z0,Z0,Z0,Z0,Z0,Z0,Z0,Z0,Z0,Z0,Z0,Z0,Z0] rfl rfl (take_ofW HT_.out HW_.out (by kernel_rfl)) (fun _ _ _ h => h) (Or.inl ⟨by rfl, ?_⟩) hHeld ?_ ?_
  rotate_left; rintro w' ⟨s0, s1⟩; go_simp; with_reducible rfl; rotate_left; simp only [Act.put, pS_, pZ_, pC_, i64_w, i32_w]; rfl
  refine pure_ (i := 2) (N := some 5) (v := ?_) (a' := ?_) #[Z1,Z1,Z1,Z0,Z0,Z0,Z0,Z0,Z0,Z0,Z0,Z0,Z0,Z0,Z0,Z0,Z0,Z0,Z0,Z0,Z0,Z0,Z0,Z0,Z0,Z0] rfl rfl (any_of HT_.out (by kernel_rfl)) (fun _ _ _ h => h) (Or.inl ⟨by rfl, ?_⟩) ?_ ?_
  rotate_left; intro w'; go_simp; with_reducible rfl; rotate_left; simp only [Act.put, pS_, pZ_, pC_, i64_w, i32_w]; rfl
  refine pure_ (i := 3) (N := some 6) (v := ?_) (a' := ?_) #[Z1,Z1,Z1,Z1,Z0,Z0,Z0,Z0,Z0,Z0,Z0,Z0,Z0,Z0,Z0,Z0,Z0,Z0,Z0,Z0,Z0,Z0,Z0,Z0,Z0,Z0] rfl rfl (any_of HT_.out (by kernel_rfl)) (fun _ _ _ h => h) (Or.inl ⟨by rfl, ?_⟩) ?_ ?_
  rotate_left; intro w'; go_simp; with_reducible rfl; rotate_left; simp only [Act.put, pS_, pZ_, pC_, i64_w, i32_w]; rfl
  refine pure_ (i := 4) (N := some 7) (v := ?_) (a' := ?_) #[Z1,Z1,Z1,Z1,Z1,Z0,Z0,Z0,Z0,Z0,Z0,Z0,Z0,Z0,Z0,Z0,Z0,Z0,Z0,Z0,Z0,Z0,Z0,Z0,Z0,Z0] rfl rfl (any_of HT_.out (by kernel_rfl)) (fun _ _ _ h => h) (Or.inl ⟨by rfl, ?_⟩) ?_ ?_
  rotate_left; intro w'; go_simp; with_reducible rfl; rotate_left; simp only [Act.put, pS_, pZ_, pC_, i64_w, i32_w]; rfl
  refine take_ (i := 5) (N := some 8) (v := ?_) (a' := ?_) #[Z1,Z1,Z1,Z1,Z1,Z1,Z0,Z0,Z0,Z0,Z0,Z0,Z0,Z0,Z0,Z0,Z0,Z0,Z0,Z0,Z0,Z0,Z0,Z0,Z0,Z0] rfl rfl (take_ofW HT_.out HW_.out (by kernel_rfl)) (fun _ _ _ h => h) (Or.inl ⟨by rfl, ?_⟩) hHeld ?_ ?_
  rotate_left; rintro w' ⟨s0, s1⟩; go_simp; with_reducible rfl; rotate_left; simp only [Act.put, pS_, pZ_, pC_, i64_w, i32_w]; rfl
  refine pure_ (i := 6) (N := some 9) (v := ?_) (a' := ?_) #[Z1,Z1,Z1,Z1,Z1,Z1,Z1,Z0,Z0,Z0,Z0,Z0,Z0,Z0,Z0,Z0,Z0,Z0,Z0,Z0,Z0,Z0,Z0,Z0,Z0,Z0] rfl rfl (any_of HT_.out (by kernel_rfl)) (fun _ _ _ h => h) (Or.inl ⟨by rfl, ?_⟩) ?_ ?_
  rotate_left; intro w'; go_simp; with_reducible rfl; rotate_left; simp only [Act.put, pS_, pZ_, pC_, i64_w, i32_w]; rfl
  refine pure_ (i := 7) (N := some 10) (v := ?_) (a' := ?_) #[Z1,Z1,Z1,Z1,Z1,Z1,Z1,Z1,Z0,Z0,Z0,Z0,Z0,Z0,Z0,Z0,Z0,Z0,Z0,Z0,Z0,Z0,Z0,Z0,Z0,Z0] rfl rfl (any_of HT_.out (by kernel_rfl)) (fun _ _ _ h => h) (Or.inl ⟨by rfl, ?_⟩) ?_ ?_
  rotate_left; intro w'; go_simp; with_reducible rfl; rotate_left; simp only [Act.put, pS_, pZ_, pC_, i64_w, i32_w]; rfl
  refine pure_ (i := 8) (N := some 11) (v := ?_) (a' := ?_) #[Z1,Z1,Z1,Z1,Z1,Z1,Z1,Z1,Z1,Z0,Z0,Z0,Z0,Z0,Z0,Z0,Z0,Z0,Z0,Z0,Z0,Z0,Z0,Z0,Z0,Z0] rfl rfl (any_of HT_.out (by kernel_rfl)) (fun _ _ _ h => h) (Or.inl ⟨by rfl, ?_⟩) ?_ ?_
  rotate_left; intro w'; go_simp; with_reducible rfl; rotate_left; simp only [Act.put, pS_, pZ_, pC_, i64_w, i32_w]; rfl
  refine pure_ (i := 9) (N := some 12) (v := undef) (a' := ?_) #[Z1,Z1,Z1,Z1,Z1,Z1,Z1,Z1,Z1,Z1,Z0,Z0,Z0,Z0,Z0,Z0,Z0,Z0,Z0,Z0,Z0,Z0,Z0,Z0,Z0,Z0] rfl rfl (any_of HT_.out (by kernel_rfl)) (fun _ _ _ h => h) (Or.inr ⟨by rfl, rfl⟩) ?_ ?_
  rotate_left
  ·simp only [Act.put, pS_, pZ_, pC_, i64_w, i32_w]
   rfl
  refine pure_ (i := 10) (N := some 13) (v := undef) (a' := ?_) #[Z1,Z1,Z1,Z1,Z1,Z1,Z1,Z1,Z1,Z1,Z1,Z0,Z0,Z0,Z0,Z0,Z0,Z0,Z0,Z0,Z0,Z0,Z0,Z0,Z0,Z0] rfl rfl (any_of HT_.out (by kernel_rfl)) (fun _ _ _ h => h) (Or.inr ⟨by rfl, rfl⟩) ?_ ?_
  rotate_left
  ·simp only [Act.put, pS_, pZ_, pC_, i64_w, i32_w]
   rfl
  refine pure_ (i := 11) (N := some 14) (v := undef) (a' := ?_) #[Z1,Z1,Z1,Z1,Z1,Z1,Z1,Z1,Z1,Z1,Z1,Z1,Z0,Z0,Z0,Z0,Z0,Z0,Z0,Z0,Z0,Z0,Z0,Z0,Z0,Z0] rfl rfl (any_of HT_.out (by kernel_rfl)) (fun _ _ _ h => h) (Or.inr ⟨by rfl, rfl⟩) ?_ ?_
  rotate_left
  ·simp only [Act.put, pS_, pZ_, pC_, i64_w, i32_w]
   rfl
  refine pure_ (i := 12) (N := some 15) (v := undef) (a' := ?_) #[Z1,Z1,Z1,Z1,Z1,Z1,Z1,Z1,Z1,Z1,Z1,Z1,Z1,Z0,Z0,Z0,Z0,Z0,Z0,Z0,Z0,Z0,Z0,Z0,Z0,Z0] rfl rfl (any_of HT_.out (by kernel_rfl)) (fun _ _ _ h => h) (Or.inr ⟨by rfl, rfl⟩) ?_ ?_
  rotate_left
  ·simp only [Act.put, pS_, pZ_, pC_, i64_w, i32_w]
   rfl
  refine pure_ (i := 13) (N := some 16) (v := ?_) (a' := ?_) #[Z1,Z1,Z1,Z1,Z1,Z1,Z1,Z1,Z1,Z1,Z1,Z1,Z1,Z1,Z0,Z0,Z0,Z0,Z0,Z0,Z0,Z0,Z0,Z0,Z0,Z0] rfl rfl (any_of HT_.out (by kernel_rfl)) (fun _ _ _ h => h) (Or.inl ⟨by rfl, ?_⟩) ?_ ?_
  rotate_left; intro w'; go_simp; with_reducible rfl; rotate_left; simp only [Act.put, pS_, pZ_, pC_, i64_w, i32_w]; rfl
  refine pure_ (i := 14) (N := some 17) (v := ?_) (a' := ?_) #[Z1,Z1,Z1,Z1,Z1,Z1,Z1,Z1,Z1,Z1,Z1,Z1,Z1,Z1,Z1,Z0,Z0,Z0,Z0,Z0,Z0,Z0,Z0,Z0,Z0,Z0] rfl rfl (any_of HT_.out (by kernel_rfl)) (fun _ _ _ h => h) (Or.inl ⟨by rfl, ?_⟩) ?_ ?_
  rotate_left; intro w'; go_simp; with_reducible rfl; rotate_left; simp only [Act.put, pS_, pZ_, pC_, i64_w, i32_w]; rfl
  refine pure_ (i := 15) (N := some 18) (v := undef) (a' := ?_) #[Z1,Z1,Z1,Z1,Z1,Z1,Z1,Z1,Z1,Z1,Z1,Z1,Z1,Z1,Z1,Z1,Z0,Z0,Z0,Z0,Z0,Z0,Z0,Z0,Z0,Z0] rfl rfl (any_of HT_.out (by kernel_rfl)) (fun _ _ _ h => h) (Or.inr ⟨by rfl, rfl⟩) ?_ ?_
  rotate_left
  ·simp only [Act.put, pS_, pZ_, pC_, i64_w, i32_w]
   rfl
  refine pure_ (i := 16) (N := some 19) (v := undef) (a' := ?_) #[Z1,Z1,Z1,Z1,Z1,Z1,Z1,Z1,Z1,Z1,Z1,Z1,Z1,Z1,Z1,Z1,Z1,Z0,Z0,Z0,Z0,Z0,Z0,Z0,Z0,Z0] rfl rfl (any_of HT_.out (by kernel_rfl)) (fun _ _ _ h => h) (Or.inr ⟨by rfl, rfl⟩) ?_ ?_
  rotate_left
  ·simp only [Act.put, pS_, pZ_, pC_, i64_w, i32_w]
   rfl
  refine pure_ (i := 17) (N := some 20) (v := undef) (a' := ?_) #[Z1,Z1,Z1,Z1,Z1,Z1,Z1,Z1,Z1,Z1,Z1,Z1,Z1,Z1,Z1,Z1,Z1,Z1,Z0,Z0,Z0,Z0,Z0,Z0,Z0,Z0] rfl rfl (any_of HT_.out (by kernel_rfl)) (fun _ _ _ h => h) (Or.inr ⟨by rfl, rfl⟩) ?_ ?_
  rotate_left
  ·simp only [Act.put, pS_, pZ_, pC_, i64_w, i32_w]
   rfl
  refine pure_ (i := 18) (N := some 21) (v := undef) (a' := ?_) #[Z1,Z1,Z1,Z1,Z1,Z1,Z1,Z1,Z1,Z1,Z1,Z1,Z1,Z1,Z1,Z1,Z1,Z1,Z1,Z0,Z0,Z0,Z0,Z0,Z0,Z0] rfl rfl (any_of HT_.out (by kernel_rfl)) (fun _ _ _ h => h) (Or.inr ⟨by rfl, rfl⟩) ?_ ?_
  rotate_left
  ·simp only [Act.put, pS_, pZ_, pC_, i64_w, i32_w]
   rfl
  refine pure_ (i := 19) (N := some 22) (v := undef) (a' := ?_) #[Z1,Z1,Z1,Z1,Z1,Z1,Z1,Z1,Z1,Z1,Z1,Z1,Z1,Z1,Z1,Z1,Z1,Z1,Z1,Z1,Z0,Z0,Z0,Z0,Z0,Z0] rfl rfl (any_of HT_.out (by kernel_rfl)) (fun _ _ _ h => h) (Or.inr ⟨by rfl, rfl⟩) ?_ ?_
  rotate_left
  ·simp only [Act.put, pS_, pZ_, pC_, i64_w, i32_w]
   rfl
  refine pure_ (i := 20) (N := some 23) (v := undef) (a' := ?_) #[Z1,Z1,Z1,Z1,Z1,Z1,Z1,Z1,Z1,Z1,Z1,Z1,Z1,Z1,Z1,Z1,Z1,Z1,Z1,Z1,Z1,Z0,Z0,Z0,Z0,Z0] rfl rfl (any_of HT_.out (by kernel_rfl)) (fun _ _ _ h => h) (Or.inr ⟨by rfl, rfl⟩) ?_ ?_
  rotate_left
  ·simp only [Act.put, pS_, pZ_, pC_, i64_w, i32_w]
   rfl
  refine pure_ (i := 21) (N := some 24) (v := undef) (a' := ?_) #[Z1,Z1,Z1,Z1,Z1,Z1,Z1,Z1,Z1,Z1,Z1,Z1,Z1,Z1,Z1,Z1,Z1,Z1,Z1,Z1,Z1,Z1,Z0,Z0,Z0,Z0] rfl rfl (any_of HT_.out (by kernel_rfl)) (fun _ _ _ h => h) (Or.inr ⟨by rfl, rfl⟩) ?_ ?_
  rotate_left
  ·simp only [Act.put, pS_, pZ_, pC_, i64_w, i32_w]
   rfl
  refine pure_ (i := 22) (N := some 25) (v := undef) (a' := ?_) #[Z1,Z1,Z1,Z1,Z1,Z1,Z1,Z1,Z1,Z1,Z1,Z1,Z1,Z1,Z1,Z1,Z1,Z1,Z1,Z1,Z1,Z1,Z1,Z0,Z0,Z0] rfl rfl (any_of HT_.out (by kernel_rfl)) (fun _ _ _ h => h) (Or.inr ⟨by rfl, rfl⟩) ?_ ?_
  rotate_left
  ·simp only [Act.put, pS_, pZ_, pC_, i64_w, i32_w]
   rfl
  refine pure_ (i := 23) (N := some 26) (v := undef) (a' := ?_) #[Z1,Z1,Z1,Z1,Z1,Z1,Z1,Z1,Z1,Z1,Z1,Z1,Z1,Z1,Z1,Z1,Z1,Z1,Z1,Z1,Z1,Z1,Z1,Z1,Z0,Z0] rfl rfl (any_of HT_.out (by kernel_rfl)) (fun _ _ _ h => h) (Or.inr ⟨by rfl, rfl⟩) ?_ ?_
  rotate_left
  ·simp only [Act.put, pS_, pZ_, pC_, i64_w, i32_w]
   rfl
  refine pure_ (i := 24) (N := some 27) (v := ?_) (a' := ?_) #[Z1,Z1,Z1,Z1,Z1,Z1,Z1,Z1,Z1,Z1,Z1,Z1,Z1,Z1,Z1,Z1,Z1,Z1,Z1,Z1,Z1,Z1,Z1,Z1,Z1,Z0] rfl rfl (any_of HT_.out (by kernel_rfl)) (fun _ _ _ h => h) (Or.inl ⟨by rfl, ?_⟩) ?_ ?_
  rotate_left; intro w'; go_simp; with_reducible rfl; rotate_left; simp only [Act.put, pS_, pZ_, pC_, i64_w, i32_w]; rfl
  refine pure_ (i := 25) (N := some 2) (v := ?_) (a' := ?_) #[Z1,Z1,Z1,Z1,Z1,Z1,Z1,Z1,Z1,Z1,Z1,Z1,Z1,Z1,Z1,Z1,Z1,Z1,Z1,Z1,Z1,Z1,Z1,Z1,Z1,Z1] rfl rfl (any_of HT_.out (by kernel_rfl)) (fun _ _ _ h => h) (Or.inl ⟨by rfl, ?_⟩) ?_ ?_
  rotate_left; intro w'; go_simp; with_reducible rfl; rotate_left; simp only [Act.put, pS_, pZ_, pC_, i64_w, i32_w]; rfl
  refine done_ (done_of HT_.out (by kernel_rfl)) ?_
  try go_wp2
  go_ret
  exact ⟨by rfl, by repeat ((with_reducible (exact HB.out)))⟩
 rw [if_neg c2] at H
 have c2b0 : decide (0 < a0_1) = false := decide_eq_false c2
 clear c2
 obtain rfl := Option.some.inj H
 go_enter Tryd.func49, Tryd.ntmps49
 try go_wp2_with (first | ((with_reducible refine gate_dst (N := 1) rfl ?_); (try (refine gate_guard (by rfl) ?_; dsimp only)); refine box_event ?hg (N := 1) ?hd (cs := #[.int .i64 a0_0, .int .i64 a0_1]) (t := 41) ?hr ?_; (case hd => rfl); (case hg => rfl); (case hr => (go_simp; done)); intro gb165 hg w18 hbox hb; have n0_ := Aside0.mk (below_step HB.out hb); have n1_ := Aside0.mk (hbox); clear HB; have HB := n0_; have BK165 := n1_; clear n0_ n1_; clear hb hbox hg))
 have n0_ := Aside0.mk (blk_drew BK165.out)
 have n1_ := Aside0.mk (below_drew1 HB.out)
 clear BK165
 clear HB
 have BK165 := n0_
 have HB := n1_
 clear n0_ n1_
 refine start_ (n := 26) (S := fun w' => w'.cell? ⟨gb165, 0, none⟩ = some (.int .i64 a0_0) ∧ w'.cell? ⟨gb165, 1, none⟩ = some (.int .i64 a0_1)) (ds := []) #[Z0,Z0,Z0,Z0,Z0,Z0,Z0,Z0,Z0,Z0,Z0,Z0,Z0,Z0,Z0,Z0,Z0,Z0,Z0,Z0,Z0,Z0,Z0,Z0,Z0,Z0] (by kernel_rfl) rfl rfl ⟨(blk_cell BK165.out 0).trans rfl, (blk_cell BK165.out 1).trans rfl⟩ (fun hHeld => ?_); refine with_tabW ratio_Valid.tab1 ratio_Valid.bits1 (fun HT_ HW_ => ?_)
 generalize w18.drew = w19 at BK165 HB hHeld ⊢
 refine pure_ (i := 0) (N := some 3) (v := ?_) (a' := ?_) #[Z1,Z0,Z0,Z0,Z0,Z0,Z0,Z0,Z0,Z0,Z0,Z0,Z0,Z0,Z0,Z0,Z0,Z0,Z0,Z0,Z0,Z0,Z0,Z0,Z0,Z0] rfl rfl (any_of HT_.out (by kernel_rfl)) (fun _ _ _ h => h) (Or.inl ⟨by rfl, ?_⟩) ?_ ?_
 rotate_left; intro w'; go_simp; with_reducible rfl; rotate_left; simp only [Act.put, pS_, pZ_, pC_, i64_w, i32_w]; rfl
 refine take_ (i := 1) (N := some 4) (v := ?_) (a' := ?_) #[Z1,Z1,Z0,Z0,Z0,Z0,Z0,Z0,Z0,Z0,Z0,Z0,Z0,Z0,Z0,Z0,Z0,Z0,Z0,Z0,Z0,Z0,Z0,Z0,Z0,Z0] rfl rfl (take_ofW HT_.out HW_.out (by kernel_rfl)) (fun _ _ _ h => h) (Or.inl ⟨by rfl, ?_⟩) hHeld ?_ ?_
 rotate_left; rintro w' ⟨s0, s1⟩; go_simp; with_reducible rfl; rotate_left; simp only [Act.put, pS_, pZ_, pC_, i64_w, i32_w]; rfl
 refine pure_ (i := 2) (N := some 5) (v := ?_) (a' := ?_) #[Z1,Z1,Z1,Z0,Z0,Z0,Z0,Z0,Z0,Z0,Z0,Z0,Z0,Z0,Z0,Z0,Z0,Z0,Z0,Z0,Z0,Z0,Z0,Z0,Z0,Z0] rfl rfl (any_of HT_.out (by kernel_rfl)) (fun _ _ _ h => h) (Or.inl ⟨by rfl, ?_⟩) ?_ ?_
 rotate_left; intro w'; go_simp; with_reducible rfl; rotate_left; simp only [Act.put, pS_, pZ_, pC_, i64_w, i32_w]; rfl
 refine pure_ (i := 3) (N := some 6) (v := ?_) (a' := ?_) #[Z1,Z1,Z1,Z1,Z0,Z0,Z0,Z0,Z0,Z0,Z0,Z0,Z0,Z0,Z0,Z0,Z0,Z0,Z0,Z0,Z0,Z0,Z0,Z0,Z0,Z0] rfl rfl (any_of HT_.out (by kernel_rfl)) (fun _ _ _ h => h) (Or.inl ⟨by rfl, ?_⟩) ?_ ?_
 rotate_left; intro w'; go_simp; with_reducible rfl; rotate_left; simp only [Act.put, pS_, pZ_, pC_, i64_w, i32_w]; rfl
 refine pure_ (i := 4) (N := some 7) (v := undef) (a' := ?_) #[Z1,Z1,Z1,Z1,Z1,Z0,Z0,Z0,Z0,Z0,Z0,Z0,Z0,Z0,Z0,Z0,Z0,Z0,Z0,Z0,Z0,Z0,Z0,Z0,Z0,Z0] rfl rfl (any_of HT_.out (by kernel_rfl)) (fun _ _ _ h => h) (Or.inr ⟨by rfl, rfl⟩) ?_ ?_
 rotate_left
 ·simp only [Act.put, pS_, pZ_, pC_, i64_w, i32_w]
  rfl
 refine pure_ (i := 5) (N := some 8) (v := undef) (a' := ?_) #[Z1,Z1,Z1,Z1,Z1,Z1,Z0,Z0,Z0,Z0,Z0,Z0,Z0,Z0,Z0,Z0,Z0,Z0,Z0,Z0,Z0,Z0,Z0,Z0,Z0,Z0] rfl rfl (any_of HT_.out (by kernel_rfl)) (fun _ _ _ h => h) (Or.inr ⟨by rfl, rfl⟩) ?_ ?_
 rotate_left
 ·simp only [Act.put, pS_, pZ_, pC_, i64_w, i32_w]
  rfl
 refine pure_ (i := 6) (N := some 9) (v := undef) (a' := ?_) #[Z1,Z1,Z1,Z1,Z1,Z1,Z1,Z0,Z0,Z0,Z0,Z0,Z0,Z0,Z0,Z0,Z0,Z0,Z0,Z0,Z0,Z0,Z0,Z0,Z0,Z0] rfl rfl (any_of HT_.out (by kernel_rfl)) (fun _ _ _ h => h) (Or.inr ⟨by rfl, rfl⟩) ?_ ?_
 rotate_left
 ·simp only [Act.put, pS_, pZ_, pC_, i64_w, i32_w]
  rfl
 refine pure_ (i := 7) (N := some 10) (v := ?_) (a' := ?_) #[Z1,Z1,Z1,Z1,Z1,Z1,Z1,Z1,Z0,Z0,Z0,Z0,Z0,Z0,Z0,Z0,Z0,Z0,Z0,Z0,Z0,Z0,Z0,Z0,Z0,Z0] rfl rfl (any_of HT_.out (by kernel_rfl)) (fun _ _ _ h => h) (Or.inl ⟨by rfl, ?_⟩) ?_ ?_
 rotate_left; intro w'; go_simp; with_reducible rfl; rotate_left; simp only [Act.put, pS_, pZ_, pC_, i64_w, i32_w]; rfl
 refine pure_ (i := 8) (N := some 11) (v := ?_) (a' := ?_) #[Z1,Z1,Z1,Z1,Z1,Z1,Z1,Z1,Z1,Z0,Z0,Z0,Z0,Z0,Z0,Z0,Z0,Z0,Z0,Z0,Z0,Z0,Z0,Z0,Z0,Z0] rfl rfl (any_of HT_.out (by kernel_rfl)) (fun _ _ _ h => h) (Or.inl ⟨by rfl, ?_⟩) ?_ ?_
 rotate_left; intro w'; go_simp; with_reducible rfl; rotate_left; simp only [Act.put, pS_, pZ_, pC_, i64_w, i32_w]; rfl
 refine pure_ (i := 9) (N := some 12) (v := undef) (a' := ?_) #[Z1,Z1,Z1,Z1,Z1,Z1,Z1,Z1,Z1,Z1,Z0,Z0,Z0,Z0,Z0,Z0,Z0,Z0,Z0,Z0,Z0,Z0,Z0,Z0,Z0,Z0] rfl rfl (any_of HT_.out (by kernel_rfl)) (fun _ _ _ h => h) (Or.inr ⟨by rfl, rfl⟩) ?_ ?_
 rotate_left
 ·simp only [Act.put, pS_, pZ_, pC_, i64_w, i32_w]
  rfl
 refine pure_ (i := 10) (N := some 13) (v := undef) (a' := ?_) #[Z1,Z1,Z1,Z1,Z1,Z1,Z1,Z1,Z1,Z1,Z1,Z0,Z0,Z0,Z0,Z0,Z0,Z0,Z0,Z0,Z0,Z0,Z0,Z0,Z0,Z0] rfl rfl (any_of HT_.out (by kernel_rfl)) (fun _ _ _ h => h) (Or.inr ⟨by rfl, rfl⟩) ?_ ?_
 rotate_left
 ·simp only [Act.put, pS_, pZ_, pC_, i64_w, i32_w]
  rfl
 refine pure_ (i := 11) (N := some 14) (v := undef) (a' := ?_) #[Z1,Z1,Z1,Z1,Z1,Z1,Z1,Z1,Z1,Z1,Z1,Z1,Z0,Z0,Z0,Z0,Z0,Z0,Z0,Z0,Z0,Z0,Z0,Z0,Z0,Z0] rfl rfl (any_of HT_.out (by kernel_rfl)) (fun _ _ _ h => h) (Or.inr ⟨by rfl, rfl⟩) ?_ ?_
 rotate_left
 ·simp only [Act.put, pS_, pZ_, pC_, i64_w, i32_w]
  rfl
 refine pure_ (i := 12) (N := some 15) (v := undef) (a' := ?_) #[Z1,Z1,Z1,Z1,Z1,Z1,Z1,Z1,Z1,Z1,Z1,Z1,Z1,Z0,Z0,Z0,Z0,Z0,Z0,Z0,Z0,Z0,Z0,Z0,Z0,Z0] rfl rfl (any_of HT_.out (by kernel_rfl)) (fun _ _ _ h => h) (Or.inr ⟨by rfl, rfl⟩) ?_ ?_
 rotate_left
 ·simp only [Act.put, pS_, pZ_, pC_, i64_w, i32_w]
  rfl
 refine pure_ (i := 13) (N := some 16) (v := ?_) (a' := ?_) #[Z1,Z1,Z1,Z1,Z1,Z1,Z1,Z1,Z1,Z1,Z1,Z1,Z1,Z1,Z0,Z0,Z0,Z0,Z0,Z0,Z0,Z0,Z0,Z0,Z0,Z0] rfl rfl (any_of HT_.out (by kernel_rfl)) (fun _ _ _ h => h) (Or.inl ⟨by rfl, ?_⟩) ?_ ?_
 rotate_left; intro w'; go_simp; with_reducible rfl; rotate_left; simp only [Act.put, pS_, pZ_, pC_, i64_w, i32_w]; rfl
 refine pure_ (i := 14) (N := some 17) (v := ?_) (a' := ?_) #[Z1,Z1,Z1,Z1,Z1,Z1,Z1,Z1,Z1,Z1,Z1,Z1,Z1,Z1,Z1,Z0,Z0,Z0,Z0,Z0,Z0,Z0,Z0,Z0,Z0,Z0] rfl rfl (any_of HT_.out (by kernel_rfl)) (fun _ _ _ h => h) (Or.inl ⟨by rfl, ?_⟩) ?_ ?_
 rotate_left; intro w'; go_simp; with_reducible rfl; rotate_left; simp only [Act.put, pS_, pZ_, pC_, i64_w, i32_w]; rfl
 refine pure_ (i := 15) (N := some 18) (v := undef) (a' := ?_) #[Z1,Z1,Z1,Z1,Z1,Z1,Z1,Z1,Z1,Z1,Z1,Z1,Z1,Z1,Z1,Z1,Z0,Z0,Z0,Z0,Z0,Z0,Z0,Z0,Z0,Z0] rfl rfl (any_of HT_.out (by kernel_rfl)) (fun _ _ _ h => h) (Or.inr ⟨by rfl, rfl⟩) ?_ ?_
 rotate_left
 ·simp only [Act.put, pS_, pZ_, pC_, i64_w, i32_w]
  rfl
 refine pure_ (i := 16) (N := some 19) (v := undef) (a' := ?_) #[Z1,Z1,Z1,Z1,Z1,Z1,Z1,Z1,Z1,Z1,Z1,Z1,Z1,Z1,Z1,Z1,Z1,Z0,Z0,Z0,Z0,Z0,Z0,Z0,Z0,Z0] rfl rfl (any_of HT_.out (by kernel_rfl)) (fun _ _ _ h => h) (Or.inr ⟨by rfl, rfl⟩) ?_ ?_
 rotate_left
 ·simp only [Act.put, pS_, pZ_, pC_, i64_w, i32_w]
  rfl
 refine pure_ (i := 17) (N := some 20) (v := undef) (a' := ?_) #[Z1,Z1,Z1,Z1,Z1,Z1,Z1,Z1,Z1,Z1,Z1,Z1,Z1,Z1,Z1,Z1,Z1,Z1,Z0,Z0,Z0,Z0,Z0,Z0,Z0,Z0] rfl rfl (any_of HT_.out (by kernel_rfl)) (fun _ _ _ h => h) (Or.inr ⟨by rfl, rfl⟩) ?_ ?_
 rotate_left
 ·simp only [Act.put, pS_, pZ_, pC_, i64_w, i32_w]
  rfl
 refine pure_ (i := 18) (N := some 21) (v := undef) (a' := ?_) #[Z1,Z1,Z1,Z1,Z1,Z1,Z1,Z1,Z1,Z1,Z1,Z1,Z1,Z1,Z1,Z1,Z1,Z1,Z1,Z0,Z0,Z0,Z0,Z0,Z0,Z0] rfl rfl (any_of HT_.out (by kernel_rfl)) (fun _ _ _ h => h) (Or.inr ⟨by rfl, rfl⟩) ?_ ?_
 rotate_left
 ·simp only [Act.put, pS_, pZ_, pC_, i64_w, i32_w]
  rfl
 refine pure_ (i := 19) (N := some 22) (v := undef) (a' := ?_) #[Z1,Z1,Z1,Z1,Z1,Z1,Z1,Z1,Z1,Z1,Z1,Z1,Z1,Z1,Z1,Z1,Z1,Z1,Z1,Z1,Z0,Z0,Z0,Z0,Z0,Z0] rfl rfl (any_of HT_.out (by kernel_rfl)) (fun _ _ _ h => h) (Or.inr ⟨by rfl, rfl⟩) ?_ ?_
 rotate_left
 ·simp only [Act.put, pS_, pZ_, pC_, i64_w, i32_w]
  rfl
 refine pure_ (i := 20) (N := some 23) (v := undef) (a' := ?_) #[Z1,Z1,Z1,Z1,Z1,Z1,Z1,Z1,Z1,Z1,Z1,Z1,Z1,Z1,Z1,Z1,Z1,Z1,Z1,Z1,Z1,Z0,Z0,Z0,Z0,Z0] rfl rfl (any_of HT_.out (by kernel_rfl)) (fun _ _ _ h => h) (Or.inr ⟨by rfl, rfl⟩) ?_ ?_
 rotate_left
 ·simp only [Act.put, pS_, pZ_, pC_, i64_w, i32_w]
  rfl
 refine pure_ (i := 21) (N := some 24) (v := undef) (a' := ?_) #[Z1,Z1,Z1,Z1,Z1,Z1,Z1,Z1,Z1,Z1,Z1,Z1,Z1,Z1,Z1,Z1,Z1,Z1,Z1,Z1,Z1,Z1,Z0,Z0,Z0,Z0] rfl rfl (any_of HT_.out (by kernel_rfl)) (fun _ _ _ h => h) (Or.inr ⟨by rfl, rfl⟩) ?_ ?_
 rotate_left
 ·simp only [Act.put, pS_, pZ_, pC_, i64_w, i32_w]
  rfl
 refine pure_ (i := 22) (N := some 25) (v := undef) (a' := ?_) #[Z1,Z1,Z1,Z1,Z1,Z1,Z1,Z1,Z1,Z1,Z1,Z1,Z1,Z1,Z1,Z1,Z1,Z1,Z1,Z1,Z1,Z1,Z1,Z0,Z0,Z0] rfl rfl (any_of HT_.out (by kernel_rfl)) (fun _ _ _ h => h) (Or.inr ⟨by rfl, rfl⟩) ?_ ?_
 rotate_left
 ·simp only [Act.put, pS_, pZ_, pC_, i64_w, i32_w]
  rfl
 refine pure_ (i := 23) (N := some 26) (v := undef) (a' := ?_) #[Z1,Z1,Z1,Z1,Z1,Z1,Z1,Z1,Z1,Z1,Z1,Z1,Z1,Z1,Z1,Z1,Z1,Z1,Z1,Z1,Z1,Z1,Z1,Z1,Z0,Z0] rfl rfl (any_of HT_.out (by kernel_rfl)) (fun _ _ _ h => h) (Or.inr ⟨by rfl, rfl⟩) ?_ ?_
 rotate_left
 ·simp only [Act.put, pS_, pZ_, pC_, i64_w, i32_w]
  rfl
 refine pure_ (i := 24) (N := some 27) (v := ?_) (a' := ?_) #[Z1,Z1,Z1,Z1,Z1,Z1,Z1,Z1,Z1,Z1,Z1,Z1,Z1,Z1,Z1,Z1,Z1,Z1,Z1,Z1,Z1,Z1,Z1,Z1,Z1,Z0] rfl rfl (any_of HT_.out (by kernel_rfl)) (fun _ _ _ h => h) (Or.inl ⟨by rfl, ?_⟩) ?_ ?_
 rotate_left; intro w'; go_simp; with_reducible rfl; rotate_left; simp only [Act.put, pS_, pZ_, pC_, i64_w, i32_w]; rfl
 refine pure_ (i := 25) (N := some 2) (v := ?_) (a' := ?_) #[Z1,Z1,Z1,Z1,Z1,Z1,Z1,Z1,Z1,Z1,Z1,Z1,Z1,Z1,Z1,Z1,Z1,Z1,Z1,Z1,Z1,Z1,Z1,Z1,Z1,Z1] rfl rfl (any_of HT_.out (by kernel_rfl)) (fun _ _ _ h => h) (Or.inl ⟨by rfl, ?_⟩) ?_ ?_
 rotate_left; intro w'; go_simp; with_reducible rfl; rotate_left; simp only [Act.put, pS_, pZ_, pC_, i64_w, i32_w]; rfl
 refine done_ (done_of HT_.out (by kernel_rfl)) ?_
 try go_wp2
 go_ret
 exact ⟨by rfl, by repeat ((with_reducible (exact HB.out)))⟩

end Go.Proofs.YtiffkknhnmpgbaaDoor.Q
end

section
namespace Go.Proofs.YtiffkknhnmpgbaaDoor.Q
open Go.RowKit Go.Proofs.YtiffkknhnmpgbaaDoorW.PrintWords Go.Proofs.YtiffkknhnmpgbaaDoorW.PrintLast Go.Proofs.YtiffkknhnmpgbaaDoorW.PrintMore
attribute [local go_sem] max2_int min2_int max_two min_two max_three min_three max_four min_four   -- for this text's walks alone
set_option linter.unusedVariables false
set_option linter.unusedSimpArgs false

/-! ### ratio_Cmp: function 50 -/
def ratio_Cmp.j0 : Nat → Bool → Int → Int → Int → Int → Option (Int)
 | 0, _, _, _, _, _ => none
 | k + 1, x13, x174000, x174001, x175000, x175001 => if x13 = true then (some 0) else (if (wrap64 ((wrap64 (x174000 * x175001)) - (wrap64 (x175000 * x174001)))) < 0 then (some (-1)) else (if (wrap64 ((wrap64 (x174000 * x175001)) - (wrap64 (x175000 * x174001)))) > 0 then (some 1) else (some 0)))
def ratio_Cmp.f (k : Nat) (a0_0 : Int) (a0_1 : Int) (a1_0 : Int) (a1_1 : Int) : Option (Int) := (ratio_Valid.f k a0_0 a0_1).bind fun t175 => (if t175 = true then ((ratio_Valid.f k a1_0 a1_1).bind fun t176 => (ratio_Cmp.j0 k (!t176) a0_0 a0_1 a1_0 a1_1)) else (ratio_Cmp.j0 k true a0_0 a0_1 a1_0 a1_1))
set_option maxHeartbeats 8000000 in
set_option maxRecDepth 100000 in
theorem ratio_Cmp.calls (k : Nat) (a0_0 : Int) (a0_1 : Int) (a1_0 : Int) (a1_1 : Int) (r : Int) (w : World) (h : ratio_Cmp.f k a0_0 a0_1 a1_0 a1_1 = some r) :
  Calls Tryd.prog 50 #[.agg #[.int .i64 a0_0, .int .i64 a0_1], .agg #[.int .i64 a1_0, .int .i64 a1_1]] w fun e w' => e = .returned (.int .i64 r) ∧ Below w.heap.size w w' := by
 have hu41 := Tryd.underlying41
 have HB := Aside0.mk (Below.refl w.heap.size w)
 have H : ((ratio_Valid.f k a0_0 a0_1).bind fun t175 => (if t175 = true then ((ratio_Valid.f k a1_0 a1_1).bind fun t176 => (ratio_Cmp.j0 k (!t176) a0_0 a0_1 a1_0 a1_1)) else (ratio_Cmp.j0 k true a0_0 a0_1 a1_0 a1_1))) = some r := h
 clear h
 have HC3 := Aside0.mk H
 clear H
 go_enter Tryd.func50, Tryd.ntmps50
 go_upto_region 1 with (first | ((with_reducible refine gate_dst (N := 2) rfl ?_); refine box_event ?hg (N := 2) ?hd (cs := #[.int .i64 a0_0, .int .i64 a0_1]) (t := 41) ?hr ?_; (case hd => rfl); (case hg => rfl); (case hr => (go_simp; done)); intro gb173 hg w4 hbox hb; have n0_ := Aside0.mk (below_step HB.out hb); have n1_ := Aside0.mk (hbox); clear HB; have HB := n0_; have BK173 := n1_; clear n0_ n1_; clear hb hbox hg) | ((with_reducible refine gate_dst (N := 3) rfl ?_); refine box_event ?hg (N := 3) ?hd (cs := #[.int .i64 a1_0, .int .i64 a1_1]) (t := 41) ?hr ?_; (case hd => rfl); (case hg => rfl); (case hr => (go_simp; done)); intro gb174 hg w5 hbox hb; have n0_ := Aside0.mk (blk_below (by exact BK173.out) hb); have n1_ := Aside0.mk (below_step HB.out hb); have n2_ := Aside0.mk (hbox); have n5_ := Aside0.mk ((by rw [hg]; exact Nat.ne_of_lt (blk_lt (by exact BK173.out)) : gb173 ≠ gb174)); have n6_ := Aside0.mk ((by rw [hg]; exact Nat.ne_of_gt (blk_lt (by exact BK173.out)) : gb174 ≠ gb173)); clear BK173; clear HB; have BK173 := n0_; have HB := n1_; have BK174 := n2_; have NB173_174 := n5_; have NB174_173 := n6_; clear n0_ n1_ n2_ n5_ n6_; clear hb hbox hg))
 go_cut [13] (fun v13 wc => ∃ (kq : Nat) (x13_2 : Bool), v13 = .bool x13_2 ∧ Aside0 (ratio_Cmp.j0 kq x13_2 a0_0 a0_1 a1_0 a1_1 = some r) ∧ Aside0 (kq ≤ k) ∧ Aside0 (wc.heap[gb173]? = some (.cells #[.int .i64 a0_0, .int .i64 a0_1] 41 (0, 0))) ∧ Aside0 (wc.heap[gb174]? = some (.cells #[.int .i64 a1_0, .int .i64 a1_1] 41 (0, 0))) ∧ Aside0 (Below w.heap.size w wc))
 case first =>
  have H := HC3.out
  clear HC3
  replace H := Option.bind_eq_some_iff.mp H
  obtain ⟨t175, A60, H⟩ := H
  replace H : (if t175 = true then ((ratio_Valid.f k a1_0 a1_1).bind fun t176 => (ratio_Cmp.j0 k (!t176) a0_0 a0_1 a1_0 a1_1)) else (ratio_Cmp.j0 k true a0_0 a0_1 a1_0 a1_1)) = some r := H
  have A6 := Aside0.mk A60
  clear A60
  by_cases c7 : t175 = true
  ·subst c7
   have H1 : ((ratio_Valid.f k a1_0 a1_1).bind fun t176 => (ratio_Cmp.j0 k (!t176) a0_0 a0_1 a1_0 a1_1)) = some r := by rw [if_pos rfl] at H; exact H
   clear H
   have H := H1
   clear H1
   replace H := Option.bind_eq_some_iff.mp H
   obtain ⟨t176, A80, H⟩ := H
   replace H : (ratio_Cmp.j0 k (!t176) a0_0 a0_1 a1_0 a1_1) = some r := H
   have A8 := Aside0.mk A80
   clear A80
   have H' := Aside0.mk H
   clear H
   have hnb9 := NB173_174.out
   have hnc9 := NB174_173.out
   have hcz10_0 := cel_ BK173.out 0 rfl
   have hcz10_1 := cel_ BK173.out 1 rfl
   have hfz10_0 := blk_frozen BK173.out 0
   have hfz10_1 := blk_frozen BK173.out 1
   go_wp2_with (first | ((with_reducible refine gate_callee (f := 49) rfl ?_); refine goesL_ (some 7) rfl rfl Tryd.func49 (by kernel_rfl) rfl #[.agg #[.int .i64 a0_0, .int .i64 a0_1]] rfl (by (try simp only [List.map_toArray, List.map_cons, List.map_nil]); rfl) ?_; (with_reducible refine (ratio_Valid.calls k a0_0 a0_1 true _ A6.out).mono ?_); rintro e w11 ⟨rfl, hb⟩; refine ⟨_, rfl, ?_⟩; have n0_ := Aside0.mk (blk_below (by exact BK173.out) hb); have n1_ := Aside0.mk (blk_below (by exact BK174.out) hb); have n2_ := Aside0.mk (below_step HB.out hb); clear BK173; clear BK174; clear HB; have BK173 := n0_; have BK174 := n1_; have HB := n2_; clear n0_ n1_ n2_; (try clear hb); have hcz12_0 := cel_ BK174.out 0 rfl; have hcz12_1 := cel_ BK174.out 1 rfl; have hfz12_0 := blk_frozen BK174.out 0; have hfz12_1 := blk_frozen BK174.out 1) | (go_at_call 49; (with_reducible refine (ratio_Valid.calls k a1_0 a1_1 t176 _ A8.out).mono ?_); rintro e w13 ⟨rfl, hb⟩; have n0_ := Aside0.mk (blk_below (by exact BK173.out) hb); have n1_ := Aside0.mk (blk_below (by exact BK174.out) hb); have n2_ := Aside0.mk (below_step HB.out hb); clear BK173; clear BK174; clear HB; have BK173 := n0_; have BK174 := n1_; have HB := n2_; clear n0_ n1_ n2_; (try clear hb)))
   go_meet
   case rel => exact ⟨_, (!t176), (by rfl), H', ⟨by omega⟩, ⟨by exact BK173.out⟩, ⟨by exact BK174.out⟩, ⟨by repeat ((with_reducible (exact HB.out)))⟩⟩
  replace c7 := Bool.eq_false_iff.mpr c7
  subst c7
  have H1 : (ratio_Cmp.j0 k true a0_0 a0_1 a1_0 a1_1) = some r := by rw [if_neg (show ¬ (false = true) by decide)] at H; exact H
  clear H
  have H := H1
  clear H1
  have H' := Aside0.mk H
  clear H
  have hnb14 := NB173_174.out
  have hnc14 := NB174_173.out
  have hcz15_0 := cel_ BK173.out 0 rfl
  have hcz15_1 := cel_ BK173.out 1 rfl
  have hfz15_0 := blk_frozen BK173.out 0
  have hfz15_1 := blk_frozen BK173.out 1
  go_wp2_with (first | ((with_reducible refine gate_callee (f := 49) rfl ?_); refine goesL_ (some 7) rfl rfl Tryd.func49 (by kernel_rfl) rfl #[.agg #[.int .i64 a0_0, .int .i64 a0_1]] rfl (by (try simp only [List.map_toArray, List.map_cons, List.map_nil]); rfl) ?_; (with_reducible refine (ratio_Valid.calls k a0_0 a0_1 false _ A6.out).mono ?_); rintro e w16 ⟨rfl, hb⟩; refine ⟨_, rfl, ?_⟩; have n0_ := Aside0.mk (blk_below (by exact BK173.out) hb); have n1_ := Aside0.mk (blk_below (by exact BK174.out) hb); have n2_ := Aside0.mk (below_step HB.out hb); clear BK173; clear BK174; clear HB; have BK173 := n0_; have BK174 := n1_; have HB := n2_; clear n0_ n1_ n2_; (try clear hb)))
  go_meet
  case rel => exact ⟨_, (true), (by rfl), H', ⟨by omega⟩, ⟨by exact BK173.out⟩, ⟨by exact BK174.out⟩, ⟨by repeat ((with_reducible (exact HB.out)))⟩⟩
 clear HC3
 obtain ⟨kq, x13_2, rfl, HA, HJ2, BK173, BK174, HB⟩ := hcut
 cases kq with
 | zero => exact absurd HA.out (by simp [ratio_Cmp.j0])
 | succ kj2 =>
  have H := HA.out
  clear HA
  simp only [ratio_Cmp.j0] at H
  by_cases c17 : x13_2 = true
  ·subst c17
   have H1 : (some 0) = some r := by rw [if_pos rfl] at H; exact H
   clear H
   have H := H1
   clear H1
   obtain rfl := Option.some.inj H
   go_wp2
   go_ret
   exact ⟨by rfl, by repeat ((with_reducible (exact HB.out)))⟩
  replace c17 := Bool.eq_false_iff.mpr c17
  subst c17
  have H1 : (if (wrap64 ((wrap64 (a0_0 * a1_1)) - (wrap64 (a1_0 * a0_1)))) < 0 then (some (-1)) else (if (wrap64 ((wrap64 (a0_0 * a1_1)) - (wrap64 (a1_0 * a0_1)))) > 0 then (some 1) else (some 0))) = some r := by rw [if_neg (show ¬ (false = true) by decide)] at H; exact H
  clear H
  have H := H1
  clear H1
  by_cases c18 : (wrap64 ((wrap64 (a0_0 * a1_1)) - (wrap64 (a1_0 * a0_1)))) < 0
  ·rw [if_pos c18] at H
   have c18b0 : decide ((wrap64 ((wrap64 (a0_0 * a1_1)) - (wrap64 (a1_0 * a0_1)))) < 0) = true := decide_eq_true c18
   clear c18
   obtain rfl := Option.some.inj H
   have hnb19 := NB173_174.out
   have hnc19 := NB174_173.out
   have hcz20_0 := cel_ BK173.out 0 rfl
   have hcz20_1 := cel_ BK173.out 1 rfl
   have hfz20_0 := blk_frozen BK173.out 0
   have hfz20_1 := blk_frozen BK173.out 1
   have hcz21_0 := cel_ BK174.out 0 rfl
   have hcz21_1 := cel_ BK174.out 1 rfl
   have hfz21_0 := blk_frozen BK174.out 0
   have hfz21_1 := blk_frozen BK174.out 1
   go_wp2
   go_ret
   exact ⟨by rfl, by repeat ((with_reducible (exact HB.out)))⟩
  rw [if_neg c18] at H
  have c18b0 : decide ((wrap64 ((wrap64 (a0_0 * a1_1)) - (wrap64 (a1_0 * a0_1)))) < 0) = false := decide_eq_false c18
  clear c18
  by_cases c22 : (wrap64 ((wrap64 (a0_0 * a1_1)) - (wrap64 (a1_0 * a0_1)))) > 0
  ·rw [if_pos c22] at H
   have c22b0 : decide (0 < (wrap64 ((wrap64 (a0_0 * a1_1)) - (wrap64 (a1_0 * a0_1))))) = true := decide_eq_true c22
   clear c22
   obtain rfl := Option.some.inj H
   have hnb23 := NB173_174.out
   have hnc23 := NB174_173.out
   have hcz24_0 := cel_ BK173.out 0 rfl
   have hcz24_1 := cel_ BK173.out 1 rfl
   have hfz24_0 := blk_frozen BK173.out 0
   have hfz24_1 := blk_frozen BK173.out 1
   have hcz25_0 := cel_ BK174.out 0 rfl
   have hcz25_1 := cel_ BK174.out 1 rfl
   have hfz25_0 := blk_frozen BK174.out 0
   have hfz25_1 := blk_frozen BK174.out 1
   go_wp2
   go_ret
   exact ⟨by rfl, by repeat ((with_reducible (exact HB.out)))⟩
  rw [if_neg c22] at H
  have c22b0 : decide (0 < (wrap64 ((wrap64 (a0_0 * a1_1)) - (wrap64 (a1_0 * a0_1))))) = false := decide_eq_false c22
  clear c22
  obtain rfl := Option.some.inj H
  have hnb26 := NB173_174.out
  have hnc26 := NB174_173.out
  have hcz27_0 := cel_ BK173.out 0 rfl
  have hcz27_1 := cel_ BK173.out 1 rfl
  have hfz27_0 := blk_frozen BK173.out 0
  have hfz27_1 := blk_frozen BK173.out 1
  have hcz28_0 := cel_ BK174.out 0 rfl
  have hcz28_1 := cel_ BK174.out 1 rfl
  have hfz28_0 := blk_frozen BK174.out 0
  have hfz28_1 := blk_frozen BK174.out 1
  go_wp2
  go_ret
  exact ⟨by rfl, by repeat ((with_reducible (exact HB.out)))⟩

/-! ### cleanseref01_Gcd: function 51 -/
def cleanseref01_Gcd.l0 : Nat → Int → Int → Option (Int)
 | 0, _, _ => none
 | k + 1, x0, x1 => if x1 > 0 then (if x1 = 0 then (none) else (cleanseref01_Gcd.l0 k x1 (Int.tmod x0 x1))) else (some x0)
def cleanseref01_Gcd.f (k : Nat) (a0 : Int) (a1 : Int) : Option (Int) := cleanseref01_Gcd.l0 k a0 a1
set_option maxHeartbeats 8000000 in
set_option maxRecDepth 100000 in
theorem cleanseref01_Gcd.calls (k : Nat) (a0 : Int) (a1 : Int) (r : Int) (w : World) (h : cleanseref01_Gcd.f k a0 a1 = some r) :
  Calls Tryd.prog 51 #[.int .u64 a0, .int .u64 a1] w fun e w' => e = .returned (.int .u64 r) ∧ Drawn0 w w' := by
 have H : (cleanseref01_Gcd.l0 k a0 a1) = some r := h
 clear h
 have H' := Aside0.mk H
 clear H
 go_enter Tryd.func51, Tryd.ntmps51
 go_wp2
 go_loopg [0, 1] k (fun kq v0 v1 w' => ∃ (x0_1 : Int) (x1_1 : Int), v0 = .int .u64 x0_1 ∧ v1 = .int .u64 x1_1 ∧ Aside0 (cleanseref01_Gcd.l0 kq x0_1 x1_1 = some r) ∧ Aside0 (kq ≤ k) ∧ Drawn0 w w')
 case atStart => exact ⟨(a0), (a1), (by rfl), (by rfl), H', ⟨Nat.le_refl _⟩, by exact Drawn0.refl _⟩
 clear H'
 obtain ⟨x0_1, x1_1, rfl, rfl, HA, HK1, ⟨m1, rfl⟩⟩ := hrel
 cases gk with
 | zero => exact absurd HA.out (by simp [cleanseref01_Gcd.l0])
 | succ k1 =>
  have H := HA.out
  clear HA
  simp only [cleanseref01_Gcd.l0] at H
  by_cases c3 : x1_1 > 0
  ·rw [if_pos c3] at H
   have c3b0 : decide (0 < x1_1) = true := decide_eq_true c3
   clear c3
   by_cases c4 : x1_1 = 0
   ·rw [if_pos c4] at H
    exact absurd H (by simp)
   rw [if_neg c4] at H
   have c4b0 : (x1_1 == 0) = false := beq_eq_false_iff_ne.mpr c4
   have c4b1 : (x1_1 != 0) = true := bne_iff_ne.mpr c4
   have H' := Aside0.mk H
   clear H
   go_wp2
   repeat (go_quiet (fail); try go_wp2)
   go_roundg k1
   case measure => have := HK1.out; omega
   case rel => exact ⟨(x1_1), (Int.tmod x0_1 x1_1), (by rfl), (by rfl), H', ⟨by have := HK1.out; omega⟩, by repeat (first | exact Drawn0.refl _ | apply Drawn0.step)⟩
  rw [if_neg c3] at H
  have c3b0 : decide (0 < x1_1) = false := decide_eq_false c3
  clear c3
  obtain rfl := Option.some.inj H
  go_wp2
  go_ret
  exact ⟨by rfl, by repeat (first | exact Drawn0.refl _ | apply Drawn0.step)⟩

end Go.Proofs.YtiffkknhnmpgbaaDoor.Q
end

section
namespace Go.Proofs.YtiffkknhnmpgbaaDoor.Q
open Go.RowKit Go.Proofs.YtiffkknhnmpgbaaDoorW.PrintWords Go.Proofs.YtiffkknhnmpgbaaDoorW.PrintLast Go.Proofs.YtiffkknhnmpgbaaDoorW.PrintMore
attribute [local go_sem] max2_int min2_int max_two min_two max_three min_three max_four min_four   -- for this text's walks alone
set_option linter.unusedVariables false
set_option linter.unusedSimpArgs false

/-! ### cleanseref01_size: function 52 -/
def cleanseref01_size.f (a0 : Int) : Option (Int) := if a0 < 0 then (some (IntKind.u64.wrap (-(IntKind.u64.wrap (a0))))) else (some (IntKind.u64.wrap (a0)))
set_option maxHeartbeats 8000000 in
set_option maxRecDepth 100000 in
theorem cleanseref01_size.calls (a0 : Int) (r : Int) (w : World) (h : cleanseref01_size.f a0 = some r) :
  Calls Tryd.prog 52 #[.int .i64 a0] w fun e w' => e = .returned (.int .u64 r) ∧ Drawn0 w w' := by
 have H : (if a0 < 0 then (some (IntKind.u64.wrap (-(IntKind.u64.wrap (a0))))) else (some (IntKind.u64.wrap (a0)))) = some r := h
 clear h
 by_cases c2 : a0 < 0
 ·rw [if_pos c2] at H
  have c2b0 : decide (a0 < 0) = true := decide_eq_true c2
  clear c2
  obtain rfl := Option.some.inj H
  go_enter Tryd.func52, Tryd.ntmps52
  go_wp2
  go_ret
  exact ⟨by rfl, by exact Drawn0.refl _⟩
 rw [if_neg c2] at H
 have c2b0 : decide (a0 < 0) = false := decide_eq_false c2
 clear c2
 obtain rfl := Option.some.inj H
 go_enter Tryd.func52, Tryd.ntmps52
 go_wp2
 go_ret
 exact ⟨by rfl, by exact Drawn0.refl _⟩

/-! ### cleanseref01_Valid: function 34 -/
def cleanseref01_Valid.f (k : Nat) (a0_0 : Int) (a0_1 : Int) : Option (Bool) := if a0_1 ≥ 1 then (if a0_1 ≤ 1000000000 then (if a0_0 ≥ (-1000000000) then (if a0_0 ≤ 1000000000 then ((cleanseref01_size.f a0_0).bind fun t178 => ((cleanseref01_size.f a0_1).bind fun t179 => ((cleanseref01_Gcd.f k t178 t179).bind fun t180 => (some (t180 == 1))))) else (some false)) else (some false)) else (some false)) else (some false)
set_option maxHeartbeats 8000000 in
set_option maxRecDepth 100000 in
theorem cleanseref01_Valid.calls (k : Nat) (a0_0 : Int) (a0_1 : Int) (r : Bool) (w : World) (h : cleanseref01_Valid.f k a0_0 a0_1 = some r) :
  Calls Tryd.prog 34 #[.agg #[.int .i64 a0_0, .int .i64 a0_1]] w fun e w' => e = .returned (.bool r) ∧ Below w.heap.size w w' := by
 have hu41 := Tryd.underlying41
 have HB := Aside0.mk (Below.refl w.heap.size w)
 have H : (if a0_1 ≥ 1 then (if a0_1 ≤ 1000000000 then (if a0_0 ≥ (-1000000000) then (if a0_0 ≤ 1000000000 then ((cleanseref01_size.f a0_0).bind fun t178 => ((cleanseref01_size.f a0_1).bind fun t179 => ((cleanseref01_Gcd.f k t178 t179).bind fun t180 => (some (t180 == 1))))) else (some false)) else (some false)) else (some false)) else (some false)) = some r := h
 clear h
 by_cases c2 : a0_1 ≥ 1
 ·rw [if_pos c2] at H
  have c2b0 : decide (1 ≤ a0_1) = true := decide_eq_true c2
  clear c2
  by_cases c3 : a0_1 ≤ 1000000000
  ·rw [if_pos c3] at H
   have c3b0 : decide (a0_1 ≤ 1000000000) = true := decide_eq_true c3
   clear c3
   by_cases c4 : a0_0 ≥ (-1000000000)
   ·rw [if_pos c4] at H
    have c4b0 : decide ((-1000000000) ≤ a0_0) = true := decide_eq_true c4
    clear c4
    by_cases c5 : a0_0 ≤ 1000000000
    ·rw [if_pos c5] at H
     have c5b0 : decide (a0_0 ≤ 1000000000) = true := decide_eq_true c5
     clear c5
     replace H := Option.bind_eq_some_iff.mp H
     obtain ⟨t178, A60, H⟩ := H
     replace H : ((cleanseref01_size.f a0_1).bind fun t179 => ((cleanseref01_Gcd.f k t178 t179).bind fun t180 => (some (t180 == 1)))) = some r := H
     have A6 := Aside0.mk A60
     clear A60
     replace H := Option.bind_eq_some_iff.mp H
     obtain ⟨t179, A70, H⟩ := H
     replace H : ((cleanseref01_Gcd.f k t178 t179).bind fun t180 => (some (t180 == 1))) = some r := H
     have A7 := Aside0.mk A70
     clear A70
     replace H := Option.bind_eq_some_iff.mp H
     obtain ⟨t180, A80, H⟩ := H
     replace H : (some (t180 == 1)) = some r := H
     have A8 := Aside0.mk A80
     clear A80
     obtain rfl := Option.some.inj H
     go_enter Tryd.func34, Tryd.ntmps34
     go_wp2_with (((with_reducible refine gate_dst (N := 1) rfl ?_); refine box_event ?hg (N := 1) ?hd (cs := #[.int .i64 a0_0, .int .i64 a0_1]) (t := 41) ?hr ?_; (case hd => rfl); (case hg => rfl); (case hr => (go_simp; done)); intro gb177 hg w9 hbox hb; have n0_ := Aside0.mk (below_step HB.out hb); have n1_ := Aside0.mk (hbox); clear HB; have HB := n0_; have BK177 := n1_; clear n0_ n1_; clear hb hbox hg; have hcz10_0 := cel_ BK177.out 0 rfl; have hcz10_1 := cel_ BK177.out 1 rfl; have hfz10_0 := blk_frozen BK177.out 0; have hfz10_1 := blk_frozen BK177.out 1))
     repeat (go_quiet (first | (go_at_call 52; (with_reducible refine (cleanseref01_size.calls a0_0 t178 _ A6.out).mono ?_); rintro e w' ⟨rfl, ⟨nd, rfl⟩⟩; (try (exact ⟨rfl, _, World.drewN_drewN _ _ _⟩))) | (go_at_call 52; (with_reducible refine (cleanseref01_size.calls a0_1 t179 _ A7.out).mono ?_); rintro e w' ⟨rfl, ⟨nd, rfl⟩⟩; (try (exact ⟨rfl, _, World.drewN_drewN _ _ _⟩))) | (go_at_call 51; (with_reducible refine (cleanseref01_Gcd.calls k t178 t179 t180 _ A8.out).mono ?_); rintro e w' ⟨rfl, ⟨nd, rfl⟩⟩; (try (exact ⟨rfl, _, World.drewN_drewN _ _ _⟩)))); try go_wp2_with ((go_at_call 52; (with_reducible refine (cleanseref01_size.calls a0_0 t178 _ A6.out).mono ?_); rintro e w' ⟨rfl, ⟨nd, rfl⟩⟩)))
     go_ret
     exact ⟨by rfl, by repeat ((with_reducible first | exact HB.out | apply pw_below_drewN))⟩
    rw [if_neg c5] at H
    have c5b0 : decide (a0_0 ≤ 1000000000) = false := decide_eq_false c5
    clear c5
    obtain rfl := Option.some.inj H
    go_enter Tryd.func34, Tryd.ntmps34
    go_wp2_with (first | ((with_reducible refine gate_dst (N := 1) rfl ?_); refine box_event ?hg (N := 1) ?hd (cs := #[.int .i64 a0_0, .int .i64 a0_1]) (t := 41) ?hr ?_; (case hd => rfl); (case hg => rfl); (case hr => (go_simp; done)); intro gb177 hg w11 hbox hb; have n0_ := Aside0.mk (below_step HB.out hb); have n1_ := Aside0.mk (hbox); clear HB; have HB := n0_; have BK177 := n1_; clear n0_ n1_; clear hb hbox hg; have hcz12_0 := cel_ BK177.out 0 rfl; have hcz12_1 := cel_ BK177.out 1 rfl; have hfz12_0 := blk_frozen BK177.out 0; have hfz12_1 := blk_frozen BK177.out 1))
    repeat (go_quiet (first | ((with_reducible refine gate_dst (N := 1) rfl ?_); refine box_event ?hg (N := 1) ?hd (cs := #[.int .i64 a0_0, .int .i64 a0_1]) (t := 41) ?hr ?_; (case hd => rfl); (case hg => rfl); (case hr => (go_simp; rfl)); intro gb177 hg w11 hbox hb; have n0_ := Aside0.mk (below_step (by skip) hb); have n1_ := Aside0.mk (hbox); clear HB; have HB := n0_; have BK177 := n1_; clear n0_ n1_; clear hb hbox hg; have hcz12_0 := cel_ BK177.out 0 rfl; have hcz12_1 := cel_ BK177.out 1 rfl; have hfz12_0 := blk_frozen BK177.out 0; have hfz12_1 := blk_frozen BK177.out 1)); try go_wp2_with (first | ((with_reducible refine gate_dst (N := 1) rfl ?_); refine box_event ?hg (N := 1) ?hd (cs := #[.int .i64 a0_0, .int .i64 a0_1]) (t := 41) ?hr ?_; (case hd => rfl); (case hg => rfl); (case hr => (go_simp; rfl)); intro gb177 hg w11 hbox hb; have n0_ := Aside0.mk (below_step (by skip) hb); have n1_ := Aside0.mk (hbox); clear HB; have HB := n0_; have BK177 := n1_; clear n0_ n1_; clear hb hbox hg; have hcz12_0 := cel_ BK177.out 0 rfl; have hcz12_1 := cel_ BK177.out 1 rfl; have hfz12_0 := blk_frozen BK177.out 0; have hfz12_1 := blk_frozen BK177.out 1)))
    go_ret
    exact ⟨by rfl, by repeat ((with_reducible first | exact HB.out | apply pw_below_drewN))⟩
   rw [if_neg c4] at H
   have c4b0 : decide ((-1000000000) ≤ a0_0) = false := decide_eq_false c4
   clear c4
   obtain rfl := Option.some.inj H
   go_enter Tryd.func34, Tryd.ntmps34
   go_wp2_with (first | ((with_reducible refine gate_dst (N := 1) rfl ?_); refine box_event ?hg (N := 1) ?hd (cs := #[.int .i64 a0_0, .int .i64 a0_1]) (t := 41) ?hr ?_; (case hd => rfl); (case hg => rfl); (case hr => (go_simp; done)); intro gb177 hg w13 hbox hb; have n0_ := Aside0.mk (below_step HB.out hb); have n1_ := Aside0.mk (hbox); clear HB; have HB := n0_; have BK177 := n1_; clear n0_ n1_; clear hb hbox hg; have hcz14_0 := cel_ BK177.out 0 rfl; have hcz14_1 := cel_ BK177.out 1 rfl; have hfz14_0 := blk_frozen BK177.out 0; have hfz14_1 := blk_frozen BK177.out 1))
   repeat (go_quiet (first | ((with_reducible refine gate_dst (N := 1) rfl ?_); refine box_event ?hg (N := 1) ?hd (cs := #[.int .i64 a0_0, .int .i64 a0_1]) (t := 41) ?hr ?_; (case hd => rfl); (case hg => rfl); (case hr => (go_simp; rfl)); intro gb177 hg w13 hbox hb; have n0_ := Aside0.mk (below_step (by skip) hb); have n1_ := Aside0.mk (hbox); clear HB; have HB := n0_; have BK177 := n1_; clear n0_ n1_; clear hb hbox hg; have hcz14_0 := cel_ BK177.out 0 rfl; have hcz14_1 := cel_ BK177.out 1 rfl; have hfz14_0 := blk_frozen BK177.out 0; have hfz14_1 := blk_frozen BK177.out 1)); try go_wp2_with (first | ((with_reducible refine gate_dst (N := 1) rfl ?_); refine box_event ?hg (N := 1) ?hd (cs := #[.int .i64 a0_0, .int .i64 a0_1]) (t := 41) ?hr ?_; (case hd => rfl); (case hg => rfl); (case hr => (go_simp; rfl)); intro gb177 hg w13 hbox hb; have n0_ := Aside0.mk (below_step (by skip) hb); have n1_ := Aside0.mk (hbox); clear HB; have HB := n0_; have BK177 := n1_; clear n0_ n1_; clear hb hbox hg; have hcz14_0 := cel_ BK177.out 0 rfl; have hcz14_1 := cel_ BK177.out 1 rfl; have hfz14_0 := blk_frozen BK177.out 0; have hfz14_1 := blk_frozen BK177.out 1)))
   go_ret
   exact ⟨by rfl, by repeat ((with_reducible first | exact HB.out | apply pw_below_drewN))⟩
  rw [if_neg c3] at H
  have c3b0 : decide (a0_1 ≤ 1000000000) = false := decide_eq_false c3
  clear c3
  obtain rfl := Option.some.inj H
  go_enter Tryd.func34, Tryd.ntmps34
  go_wp2_with (first | ((with_reducible refine gate_dst (N := 1) rfl ?_); refine box_event ?hg (N := 1) ?hd (cs := #[.int .i64 a0_0, .int .i64 a0_1]) (t := 41) ?hr ?_; (case hd => rfl); (case hg => rfl); (case hr => (go_simp; done)); intro gb177 hg w15 hbox hb; have n0_ := Aside0.mk (below_step HB.out hb); have n1_ := Aside0.mk (hbox); clear HB; have HB := n0_; have BK177 := n1_; clear n0_ n1_; clear hb hbox hg; have hcz16_0 := cel_ BK177.out 0 rfl; have hcz16_1 := cel_ BK177.out 1 rfl; have hfz16_0 := blk_frozen BK177.out 0; have hfz16_1 := blk_frozen BK177.out 1))
  repeat (go_quiet (first | ((with_reducible refine gate_dst (N := 1) rfl ?_); refine box_event ?hg (N := 1) ?hd (cs := #[.int .i64 a0_0, .int .i64 a0_1]) (t := 41) ?hr ?_; (case hd => rfl); (case hg => rfl); (case hr => (go_simp; rfl)); intro gb177 hg w15 hbox hb; have n0_ := Aside0.mk (below_step (by skip) hb); have n1_ := Aside0.mk (hbox); clear HB; have HB := n0_; have BK177 := n1_; clear n0_ n1_; clear hb hbox hg; have hcz16_0 := cel_ BK177.out 0 rfl; have hcz16_1 := cel_ BK177.out 1 rfl; have hfz16_0 := blk_frozen BK177.out 0; have hfz16_1 := blk_frozen BK177.out 1)); try go_wp2_with (first | ((with_reducible refine gate_dst (N := 1) rfl ?_); refine box_event ?hg (N := 1) ?hd (cs := #[.int .i64 a0_0, .int .i64 a0_1]) (t := 41) ?hr ?_; (case hd => rfl); (case hg => rfl); (case hr => (go_simp; rfl)); intro gb177 hg w15 hbox hb; have n0_ := Aside0.mk (below_step (by skip) hb); have n1_ := Aside0.mk (hbox); clear HB; have HB := n0_; have BK177 := n1_; clear n0_ n1_; clear hb hbox hg; have hcz16_0 := cel_ BK177.out 0 rfl; have hcz16_1 := cel_ BK177.out 1 rfl; have hfz16_0 := blk_frozen BK177.out 0; have hfz16_1 := blk_frozen BK177.out 1)))
  go_ret
  exact ⟨by rfl, by repeat ((with_reducible first | exact HB.out | apply pw_below_drewN))⟩
 rw [if_neg c2] at H
 have c2b0 : decide (1 ≤ a0_1) = false := decide_eq_false c2
 clear c2
 obtain rfl := Option.some.inj H
 go_enter Tryd.func34, Tryd.ntmps34
 go_wp2_with (first | ((with_reducible refine gate_dst (N := 1) rfl ?_); refine box_event ?hg (N := 1) ?hd (cs := #[.int .i64 a0_0, .int .i64 a0_1]) (t := 41) ?hr ?_; (case hd => rfl); (case hg => rfl); (case hr => (go_simp; done)); intro gb177 hg w17 hbox hb; have n0_ := Aside0.mk (below_step HB.out hb); have n1_ := Aside0.mk (hbox); clear HB; have HB := n0_; have BK177 := n1_; clear n0_ n1_; clear hb hbox hg; have hcz18_0 := cel_ BK177.out 0 rfl; have hcz18_1 := cel_ BK177.out 1 rfl; have hfz18_0 := blk_frozen BK177.out 0; have hfz18_1 := blk_frozen BK177.out 1))
 repeat (go_quiet (first | ((with_reducible refine gate_dst (N := 1) rfl ?_); refine box_event ?hg (N := 1) ?hd (cs := #[.int .i64 a0_0, .int .i64 a0_1]) (t := 41) ?hr ?_; (case hd => rfl); (case hg => rfl); (case hr => (go_simp; rfl)); intro gb177 hg w17 hbox hb; have n0_ := Aside0.mk (below_step (by skip) hb); have n1_ := Aside0.mk (hbox); clear HB; have HB := n0_; have BK177 := n1_; clear n0_ n1_; clear hb hbox hg; have hcz18_0 := cel_ BK177.out 0 rfl; have hcz18_1 := cel_ BK177.out 1 rfl; have hfz18_0 := blk_frozen BK177.out 0; have hfz18_1 := blk_frozen BK177.out 1)); try go_wp2_with (first | ((with_reducible refine gate_dst (N := 1) rfl ?_); refine box_event ?hg (N := 1) ?hd (cs := #[.int .i64 a0_0, .int .i64 a0_1]) (t := 41) ?hr ?_; (case hd => rfl); (case hg => rfl); (case hr => (go_simp; rfl)); intro gb177 hg w17 hbox hb; have n0_ := Aside0.mk (below_step (by skip) hb); have n1_ := Aside0.mk (hbox); clear HB; have HB := n0_; have BK177 := n1_; clear n0_ n1_; clear hb hbox hg; have hcz18_0 := cel_ BK177.out 0 rfl; have hcz18_1 := cel_ BK177.out 1 rfl; have hfz18_0 := blk_frozen BK177.out 0; have hfz18_1 := blk_frozen BK177.out 1)))
 go_ret
 exact ⟨by rfl, by repeat ((with_reducible first | exact HB.out | apply pw_below_drewN))⟩

/-! ### match_between: function 26 -/
def match_between.f (a0 : Int) (a1 : Int) (a2 : Int) : Option (Bool) := if a0 ≤ a1 then (some (decide (a1 ≤ a2))) else (some false)
set_option maxHeartbeats 8000000 in
set_option maxRecDepth 100000 in
theorem match_between.calls (a0 : Int) (a1 : Int) (a2 : Int) (r : Bool) (w : World) (h : match_between.f a0 a1 a2 = some r) :
  Calls Tryd.prog 26 #[.int .i64 a0, .int .i64 a1, .int .i64 a2] w fun e w' => e = .returned (.bool r) ∧ Drawn0 w w' := by
 have H : (if a0 ≤ a1 then (some (decide (a1 ≤ a2))) else (some false)) = some r := h
 clear h
 by_cases c4 : a0 ≤ a1
 ·rw [if_pos c4] at H
  have c4b0 : decide (a0 ≤ a1) = true := decide_eq_true c4
  clear c4
  obtain rfl := Option.some.inj H
  go_enter Tryd.func26, Tryd.ntmps26
  go_wp2
  go_ret
  exact ⟨by rfl, by exact Drawn0.refl _⟩
 rw [if_neg c4] at H
 have c4b0 : decide (a0 ≤ a1) = false := decide_eq_false c4
 clear c4
 obtain rfl := Option.some.inj H
 go_enter Tryd.func26, Tryd.ntmps26
 go_wp2
 go_ret
 exact ⟨by rfl, by exact Drawn0.refl _⟩

end Go.Proofs.YtiffkknhnmpgbaaDoor.Q
end

section
namespace Go.Proofs.YtiffkknhnmpgbaaDoor.R
open Go.RowKit Go.Proofs.YtiffkknhnmpgbaaDoor.Q Go.Proofs.YtiffkknhnmpgbaaDoorW.PrintWords Go.Proofs.YtiffkknhnmpgbaaDoorW.PrintLast Go.Proofs.YtiffkknhnmpgbaaDoorW.PrintMore
attribute [local go_sem] max2_int min2_int max_two min_two max_three min_three max_four min_four   -- for this text's walks alone
set_option linter.unusedVariables false
set_option linter.unusedSimpArgs false

/-! ### cleanseref20_Valid: function 22 -/
mutual
def cleanseref20_Valid.j0 : Nat → Bool → ByteArray → Int → Int → List (S43) → Option (Bool)
 | 0, _, _, _, _, _ => none
 | k + 1, x18, x120000, x120001, x120002, x120003 => if x18 = true then (some false) else (cleanseref20_Valid.l0 k 0 x120000 x120001 x120002 x120003)
def cleanseref20_Valid.l0 : Nat → Int → ByteArray → Int → Int → List (S43) → Option (Bool)
 | 0, _, _, _, _, _ => none
 | k + 1, x3, x120000, x120001, x120002, x120003 => if x3 < (x120003.length : Int) then (if 0 ≤ x3 then (if ((rd_T43 x120003 x3).f1) < 1 then (cleanseref20_Valid.j2 k x3 true x120000 x120001 x120002 x120003 ((rd_T43 x120003 x3).f0) ((rd_T43 x120003 x3).f1) ((rd_T43 x120003 x3).f2) ((rd_T43 x120003 x3).f3.f0) ((rd_T43 x120003 x3).f3.f1) ((rd_T43 x120003 x3).f4) ((rd_T43 x120003 x3).f5)) else (if ((rd_T43 x120003 x3).f1) > 5 then (cleanseref20_Valid.j2 k x3 true x120000 x120001 x120002 x120003 ((rd_T43 x120003 x3).f0) ((rd_T43 x120003 x3).f1) ((rd_T43 x120003 x3).f2) ((rd_T43 x120003 x3).f3.f0) ((rd_T43 x120003 x3).f3.f1) ((rd_T43 x120003 x3).f4) ((rd_T43 x120003 x3).f5)) else (if ((rd_T43 x120003 x3).f2) < 0 then (cleanseref20_Valid.j2 k x3 true x120000 x120001 x120002 x120003 ((rd_T43 x120003 x3).f0) ((rd_T43 x120003 x3).f1) ((rd_T43 x120003 x3).f2) ((rd_T43 x120003 x3).f3.f0) ((rd_T43 x120003 x3).f3.f1) ((rd_T43 x120003 x3).f4) ((rd_T43 x120003 x3).f5)) else (cleanseref20_Valid.j2 k x3 (decide (((rd_T43 x120003 x3).f2) > 1000000000)) x120000 x120001 x120002 x120003 ((rd_T43 x120003 x3).f0) ((rd_T43 x120003 x3).f1) ((rd_T43 x120003 x3).f2) ((rd_T43 x120003 x3).f3.f0) ((rd_T43 x120003 x3).f3.f1) ((rd_T43 x120003 x3).f4) ((rd_T43 x120003 x3).f5))))) else (none)) else (some true)
def cleanseref20_Valid.j2 : Nat → Int → Bool → ByteArray → Int → Int → List (S43) → Int → Int → Int → Int → Int → Int → Int → Option (Bool)
 | 0, _, _, _, _, _, _, _, _, _, _, _, _, _ => none
 | k + 1, x3, x48, x120000, x120001, x120002, x120003, x122000, x122001, x122002, x122003, x122004, x122005, x122006 => if x48 = true then (some false) else ((cleanseref01_Valid.f k x122003 x122004).bind fun t122 => (if t122 = true then (if x122003 < 0 then (some false) else (if x122003 > x122004 then (some false) else (if x122005 < 0 then (some false) else (if x122005 > 1000 then (some false) else (if x122006 < 0 then (some false) else (if x122006 > 1000 then (some false) else (cleanseref20_Valid.l0 k (wrap64 (x3 + 1)) x120000 x120001 x120002 x120003))))))) else (some false)))
end
def cleanseref20_Valid.f (k : Nat) (a0_0 : ByteArray) (a0_1 : Int) (a0_2 : Int) (l0_3 : List (S43)) : Option (Bool) := if a0_2 < 0 then (cleanseref20_Valid.j0 k true a0_0 a0_1 a0_2 l0_3) else (if a0_2 > 10000 then (cleanseref20_Valid.j0 k true a0_0 a0_1 a0_2 l0_3) else (cleanseref20_Valid.j0 k (decide ((l0_3.length : Int) > 200)) a0_0 a0_1 a0_2 l0_3))
set_option maxHeartbeats 8000000 in
set_option maxRecDepth 100000 in
theorem cleanseref20_Valid.calls (k : Nat) (a0_0 : ByteArray) (a0_1 : Int) (a0_2 : Int) (A0_3 : Option Addr) (c0_3 : Nat) (l0_3 : List (S43)) (r : Bool) (w : World) (hr0_3 : Kd.C k43 w A0_3 l0_3.length l0_3) (hc0_3 : l0_3.length ≤ c0_3) (h : cleanseref20_Valid.f k a0_0 a0_1 a0_2 l0_3 = some r) :
  Calls Tryd.prog 22 #[.agg #[.string a0_0, .int .i64 a0_1, .int .i64 a0_2, .slice A0_3 l0_3.length c0_3]] w fun e w' => e = .returned (.bool r) ∧ Below w.heap.size w w' := by
 have hu24 := Tryd.underlying24
 have hu43 := Tryd.underlying43
 have hu41 := Tryd.underlying41
 have HR0_3 := Aside0.mk hr0_3
 have HC0_3 := Aside0.mk hc0_3
 clear hr0_3 hc0_3
 have HB := Aside0.mk (Below.refl w.heap.size w)
 have H : (if a0_2 < 0 then (cleanseref20_Valid.j0 k true a0_0 a0_1 a0_2 l0_3) else (if a0_2 > 10000 then (cleanseref20_Valid.j0 k true a0_0 a0_1 a0_2 l0_3) else (cleanseref20_Valid.j0 k (decide ((l0_3.length : Int) > 200)) a0_0 a0_1 a0_2 l0_3))) = some r := h
 clear h
 have HC2 := Aside0.mk H
 clear H
 go_enter Tryd.func22, Tryd.ntmps22
 go_upto_region 1 with (first | ((with_reducible refine gate_dst (N := 1) rfl ?_); (try (refine gate_guard (by rfl) ?_; dsimp only)); refine box_event ?hg (N := 1) ?hd (cs := #[.string a0_0, .int .i64 a0_1, .int .i64 a0_2, .slice A0_3 l0_3.length c0_3]) (t := 24) ?hr ?_; (case hd => rfl); (case hg => rfl); (case hr => (go_simp; done)); intro gb119 hg w3 hbox hb; have n0_ := Aside0.mk (below_step HB.out hb); have n1_ := Aside0.mk (hbox); clear HB; have HB := n0_; have BK119 := n1_; clear n0_ n1_; clear hb hbox hg))
 go_cut [18] (fun v18 wc => ∃ (kq : Nat) (x18_1 : Bool), v18 = .bool x18_1 ∧ Aside0 (cleanseref20_Valid.j0 kq x18_1 a0_0 a0_1 a0_2 l0_3 = some r) ∧ Aside0 (kq ≤ k) ∧ Aside0 (wc.heap[gb119]? = some (.cells #[.string a0_0, .int .i64 a0_1, .int .i64 a0_2, (.slice A0_3 l0_3.length c0_3)] 24 (0, 0))) ∧ Aside0 (Below w.heap.size w wc))
 case first =>
  have H := HC2.out
  clear HC2
  by_cases c4 : a0_2 < 0
  ·rw [if_pos c4] at H
   have c4b0 : decide (a0_2 < 0) = true := decide_eq_true c4
   clear c4
   have H' := Aside0.mk H
   clear H
   have hcz5_0 := cel_ BK119.out 0 rfl
   have hcz5_1 := cel_ BK119.out 1 rfl
   have hcz5_2 := cel_ BK119.out 2 rfl
   have hcz5_3 := cel_ BK119.out 3 rfl
   have hfz5_0 := blk_frozen BK119.out 0
   have hfz5_1 := blk_frozen BK119.out 1
   have hfz5_2 := blk_frozen BK119.out 2
   have hfz5_3 := blk_frozen BK119.out 3
   go_wp2
   go_meet
   case rel => exact ⟨_, (true), (by rfl), H', ⟨by omega⟩, ⟨by exact BK119.out⟩, ⟨by repeat ((with_reducible (exact HB.out)))⟩⟩
  rw [if_neg c4] at H
  have c4b0 : decide (a0_2 < 0) = false := decide_eq_false c4
  clear c4
  by_cases c6 : a0_2 > 10000
  ·rw [if_pos c6] at H
   have c6b0 : decide (10000 < a0_2) = true := decide_eq_true c6
   clear c6
   have H' := Aside0.mk H
   clear H
   have hcz7_0 := cel_ BK119.out 0 rfl
   have hcz7_1 := cel_ BK119.out 1 rfl
   have hcz7_2 := cel_ BK119.out 2 rfl
   have hcz7_3 := cel_ BK119.out 3 rfl
   have hfz7_0 := blk_frozen BK119.out 0
   have hfz7_1 := blk_frozen BK119.out 1
   have hfz7_2 := blk_frozen BK119.out 2
   have hfz7_3 := blk_frozen BK119.out 3
   go_wp2
   go_meet
   case rel => exact ⟨_, (true), (by rfl), H', ⟨by omega⟩, ⟨by exact BK119.out⟩, ⟨by repeat ((with_reducible (exact HB.out)))⟩⟩
  rw [if_neg c6] at H
  have c6b0 : decide (10000 < a0_2) = false := decide_eq_false c6
  clear c6
  have H' := Aside0.mk H
  clear H
  have hcz8_0 := cel_ BK119.out 0 rfl
  have hcz8_1 := cel_ BK119.out 1 rfl
  have hcz8_2 := cel_ BK119.out 2 rfl
  have hcz8_3 := cel_ BK119.out 3 rfl
  have hfz8_0 := blk_frozen BK119.out 0
  have hfz8_1 := blk_frozen BK119.out 1
  have hfz8_2 := blk_frozen BK119.out 2
  have hfz8_3 := blk_frozen BK119.out 3
  go_wp2
  go_meet
  case rel => exact ⟨_, (decide ((l0_3.length : Int) > 200)), (by rfl), H', ⟨by omega⟩, ⟨by exact BK119.out⟩, ⟨by repeat ((with_reducible (exact HB.out)))⟩⟩
 clear HC2
 obtain ⟨kq, x18_1, rfl, HA, HJ1, BK119, HB⟩ := hcut
 cases kq with
 | zero => exact absurd HA.out (by simp [cleanseref20_Valid.j0])
 | succ kj1 =>
  have H := HA.out
  clear HA
  simp only [cleanseref20_Valid.j0] at H
  by_cases c9 : x18_1 = true
  ·subst c9
   have H1 : (some false) = some r := by rw [if_pos rfl] at H; exact H
   clear H
   have H := H1
   clear H1
   obtain rfl := Option.some.inj H
   go_wp2
   go_ret
   exact ⟨by rfl, by repeat ((with_reducible (exact HB.out)))⟩
  replace c9 := Bool.eq_false_iff.mpr c9
  subst c9
  have H1 : (cleanseref20_Valid.l0 kj1 0 a0_0 a0_1 a0_2 l0_3) = some r := by rw [if_neg (show ¬ (false = true) by decide)] at H; exact H
  clear H
  have H := H1
  clear H1
  have H' := Aside0.mk H
  clear H
  go_wp2
  go_loopg [3] kj1 (fun kq v3 w' => ∃ (x3_2 : Int), v3 = .int .i64 x3_2 ∧ Aside0 (cleanseref20_Valid.l0 kq x3_2 a0_0 a0_1 a0_2 l0_3 = some r) ∧ Aside0 (kq ≤ kj1) ∧ Aside0 (w'.heap[gb119]? = some (.cells #[.string a0_0, .int .i64 a0_1, .int .i64 a0_2, (.slice A0_3 l0_3.length c0_3)] 24 (0, 0))) ∧ Aside0 (Below w.heap.size w w'))
  case atStart => exact ⟨(0), (by rfl), H', ⟨Nat.le_refl _⟩, ⟨by exact BK119.out⟩, ⟨by repeat ((with_reducible (exact HB.out)))⟩⟩
  clear H'
  obtain ⟨x3_2, rfl, HA, HK2, BK119, HB⟩ := hrel
  cases gk with
  | zero => exact absurd HA.out (by simp [cleanseref20_Valid.l0])
  | succ k2 =>
   have H := HA.out
   clear HA
   simp only [cleanseref20_Valid.l0] at H
   by_cases c10 : x3_2 < (l0_3.length : Int)
   ·rw [if_pos c10] at H
    have c10b0 : decide (x3_2 < (l0_3.length : Int)) = true := decide_eq_true c10
    clear c10
    by_cases c11 : 0 ≤ x3_2
    ·rw [if_pos c11] at H
     have c11b0 : decide (0 ≤ x3_2) = true := decide_eq_true c11
     clear c11
     have HC12 := Aside0.mk H
     clear H
     have hcz13_0 := cel_ BK119.out 0 rfl
     have hcz13_1 := cel_ BK119.out 1 rfl
     have hcz13_2 := cel_ BK119.out 2 rfl
     have hcz13_3 := cel_ BK119.out 3 rfl
     have hfz13_0 := blk_frozen BK119.out 0
     have hfz13_1 := blk_frozen BK119.out 1
     have hfz13_2 := blk_frozen BK119.out 2
     have hfz13_3 := blk_frozen BK119.out 3
     have p120 : 0 ≤ (x3_2 : Int) := of_decide_eq_true (by (with_reducible assumption))
     have q120 : x3_2 < (l0_3.length : Int) := of_decide_eq_true (by (with_reducible assumption))
     obtain ⟨ad120, e120, hx120_0, hx120_1, hx120_2, hx120_3, hx120_4, hx120_5, hx120_6⟩ := at_T43 HR0_3.out x3_2 p120 q120
     cases e120
     replace hx120_0 := (HB.out.cell (World.block_lt_of_cell? w _ hx120_0)).trans hx120_0
     replace hx120_1 := (HB.out.cell (World.block_lt_of_cell? w _ hx120_1)).trans hx120_1
     replace hx120_2 := (HB.out.cell (World.block_lt_of_cell? w _ hx120_2)).trans hx120_2
     replace hx120_3 := (HB.out.cell (World.block_lt_of_cell? w _ hx120_3)).trans hx120_3
     replace hx120_4 := (HB.out.cell (World.block_lt_of_cell? w _ hx120_4)).trans hx120_4
     replace hx120_5 := (HB.out.cell (World.block_lt_of_cell? w _ hx120_5)).trans hx120_5
     replace hx120_6 := (HB.out.cell (World.block_lt_of_cell? w _ hx120_6)).trans hx120_6
     replace p120 := eq_true p120
     replace q120 := eq_true q120
     go_upto_region 7 with (first | ((with_reducible refine gate_dst (N := 4) rfl ?_); (try (refine gate_guard (by rfl) ?_; dsimp only)); refine box_event ?hg (N := 4) ?hd (cs := #[.int .i64 0, .int .i64 0, .int .i64 0, .int .i64 0, .int .i64 0, .int .i64 0, .int .i64 0]) (t := 43) ?hr ?_; (case hd => rfl); (case hg => rfl); (case hr => (go_simp; done)); intro gb121 hg w14 hbox hb; have n0_ := Aside0.mk (blk_below (by exact BK119.out) hb); have n1_ := Aside0.mk (below_step HB.out hb); have n2_ := Aside0.mk (hbox); have n4_ := Aside0.mk ((by rw [hg]; exact (below_size HB.out) : w.heap.size ≤ gb121)); have n5_ := Aside0.mk ((by rw [hg]; exact Nat.ne_of_lt (blk_lt (by exact BK119.out)) : gb119 ≠ gb121)); have n6_ := Aside0.mk ((by rw [hg]; exact Nat.ne_of_gt (blk_lt (by exact BK119.out)) : gb121 ≠ gb119)); clear BK119; clear HB; have BK119 := n0_; have HB := n1_; have BK121 := n2_; have GE121 := n4_; have NB119_121 := n5_; have NB121_119 := n6_; clear n0_ n1_ n2_ n4_ n5_ n6_; clear hb hbox hg; have hnb15 := NB121_119.out; have hnc15 := NB119_121.out; have hcz16_0 := cel_ BK121.out 0 rfl; have hcz16_1 := cel_ BK121.out 1 rfl; have hcz16_2 := cel_ BK121.out 2 rfl; have hcz16_3 := cel_ BK121.out 3 rfl; have hcz16_4 := cel_ BK121.out 4 rfl; have hcz16_5 := cel_ BK121.out 5 rfl; have hcz16_6 := cel_ BK121.out 6 rfl; have hfz16_0 := blk_frozen BK121.out 0; have hfz16_1 := blk_frozen BK121.out 1; have hfz16_2 := blk_frozen BK121.out 2; have hfz16_3 := blk_frozen BK121.out 3; have hfz16_4 := blk_frozen BK121.out 4; have hfz16_5 := blk_frozen BK121.out 5; have hfz16_6 := blk_frozen BK121.out 6))
     go_cut [48] (fun v48 wc => ∃ (kq : Nat) (x48_11 : Bool), v48 = .bool x48_11 ∧ Aside0 (cleanseref20_Valid.j2 kq x3_2 x48_11 a0_0 a0_1 a0_2 l0_3 ((rd_T43 l0_3 x3_2).f0) ((rd_T43 l0_3 x3_2).f1) ((rd_T43 l0_3 x3_2).f2) ((rd_T43 l0_3 x3_2).f3.f0) ((rd_T43 l0_3 x3_2).f3.f1) ((rd_T43 l0_3 x3_2).f4) ((rd_T43 l0_3 x3_2).f5) = some r) ∧ Aside0 (kq ≤ k2) ∧ Aside0 (wc.heap[gb119]? = some (.cells #[.string a0_0, .int .i64 a0_1, .int .i64 a0_2, (.slice (some ad120) l0_3.length c0_3)] 24 (0, 0))) ∧ Aside0 (wc.heap[gb121]? = some (.cells #[.int .i64 ((rd_T43 l0_3 x3_2).f0), .int .i64 ((rd_T43 l0_3 x3_2).f1), .int .i64 ((rd_T43 l0_3 x3_2).f2), .int .i64 ((rd_T43 l0_3 x3_2).f3.f0), .int .i64 ((rd_T43 l0_3 x3_2).f3.f1), .int .i64 ((rd_T43 l0_3 x3_2).f4), .int .i64 ((rd_T43 l0_3 x3_2).f5)] 43 (0, 0))) ∧ Aside0 (Below w.heap.size w wc))
     case first =>
      have H := HC12.out
      clear HC12
      by_cases c17 : ((rd_T43 l0_3 x3_2).f1) < 1
      ·rw [if_pos c17] at H
       have c17b0 : decide (((rd_T43 l0_3 x3_2).f1) < 1) = true := decide_eq_true c17
       clear c17
       have H' := Aside0.mk H
       clear H
       have hnb18 := NB121_119.out
       have hnc18 := NB119_121.out
       have hcz19_0 := cel_ BK121.out 0 rfl
       have hcz19_1 := cel_ BK121.out 1 rfl
       have hcz19_2 := cel_ BK121.out 2 rfl
       have hcz19_3 := cel_ BK121.out 3 rfl
       have hcz19_4 := cel_ BK121.out 4 rfl
       have hcz19_5 := cel_ BK121.out 5 rfl
       have hcz19_6 := cel_ BK121.out 6 rfl
       have hfz19_0 := blk_frozen BK121.out 0
       have hfz19_1 := blk_frozen BK121.out 1
       have hfz19_2 := blk_frozen BK121.out 2
       have hfz19_3 := blk_frozen BK121.out 3
       have hfz19_4 := blk_frozen BK121.out 4
       have hfz19_5 := blk_frozen BK121.out 5
       have hfz19_6 := blk_frozen BK121.out 6
       go_wp2
       go_meet
       case rel => exact ⟨_, (true), (by rfl), H', ⟨by have := HJ1.out; have := HK2.out; omega⟩, ⟨by refine blk_far ?_ NB119_121.out _; refine blk_far ?_ NB119_121.out _; refine blk_far ?_ NB119_121.out _; refine blk_far ?_ NB119_121.out _; refine blk_far ?_ NB119_121.out _; refine blk_far ?_ NB119_121.out _; refine blk_far ?_ NB119_121.out _; exact BK119.out⟩, ⟨by refine blk_put (cs := #[.int .i64 ((rd_T43 l0_3 x3_2).f0), .int .i64 ((rd_T43 l0_3 x3_2).f1), .int .i64 ((rd_T43 l0_3 x3_2).f2), .int .i64 ((rd_T43 l0_3 x3_2).f3.f0), .int .i64 ((rd_T43 l0_3 x3_2).f3.f1), .int .i64 ((rd_T43 l0_3 x3_2).f4), .int .i64 0]) ?_ 6 _ rfl; refine blk_put (cs := #[.int .i64 ((rd_T43 l0_3 x3_2).f0), .int .i64 ((rd_T43 l0_3 x3_2).f1), .int .i64 ((rd_T43 l0_3 x3_2).f2), .int .i64 ((rd_T43 l0_3 x3_2).f3.f0), .int .i64 ((rd_T43 l0_3 x3_2).f3.f1), .int .i64 0, .int .i64 0]) ?_ 5 _ rfl; refine blk_put (cs := #[.int .i64 ((rd_T43 l0_3 x3_2).f0), .int .i64 ((rd_T43 l0_3 x3_2).f1), .int .i64 ((rd_T43 l0_3 x3_2).f2), .int .i64 ((rd_T43 l0_3 x3_2).f3.f0), .int .i64 0, .int .i64 0, .int .i64 0]) ?_ 4 _ rfl; refine blk_put (cs := #[.int .i64 ((rd_T43 l0_3 x3_2).f0), .int .i64 ((rd_T43 l0_3 x3_2).f1), .int .i64 ((rd_T43 l0_3 x3_2).f2), .int .i64 0, .int .i64 0, .int .i64 0, .int .i64 0]) ?_ 3 _ rfl; refine blk_put (cs := #[.int .i64 ((rd_T43 l0_3 x3_2).f0), .int .i64 ((rd_T43 l0_3 x3_2).f1), .int .i64 0, .int .i64 0, .int .i64 0, .int .i64 0, .int .i64 0]) ?_ 2 _ rfl; refine blk_put (cs := #[.int .i64 ((rd_T43 l0_3 x3_2).f0), .int .i64 0, .int .i64 0, .int .i64 0, .int .i64 0, .int .i64 0, .int .i64 0]) ?_ 1 _ rfl; refine blk_put (cs := #[.int .i64 0, .int .i64 0, .int .i64 0, .int .i64 0, .int .i64 0, .int .i64 0, .int .i64 0]) ?_ 0 _ rfl; exact BK121.out⟩, ⟨by repeat ((with_reducible first | exact HB.out | refine below_set ?_ GE121.out))⟩⟩
      rw [if_neg c17] at H
      have c17b0 : decide (((rd_T43 l0_3 x3_2).f1) < 1) = false := decide_eq_false c17
      clear c17
      by_cases c20 : ((rd_T43 l0_3 x3_2).f1) > 5
      ·rw [if_pos c20] at H
       have c20b0 : decide (5 < ((rd_T43 l0_3 x3_2).f1)) = true := decide_eq_true c20
       clear c20
       have H' := Aside0.mk H
       clear H
       have hnb21 := NB121_119.out
       have hnc21 := NB119_121.out
       have hcz22_0 := cel_ BK121.out 0 rfl
       have hcz22_1 := cel_ BK121.out 1 rfl
       have hcz22_2 := cel_ BK121.out 2 rfl
       have hcz22_3 := cel_ BK121.out 3 rfl
       have hcz22_4 := cel_ BK121.out 4 rfl
       have hcz22_5 := cel_ BK121.out 5 rfl
       have hcz22_6 := cel_ BK121.out 6 rfl
       have hfz22_0 := blk_frozen BK121.out 0
       have hfz22_1 := blk_frozen BK121.out 1
       have hfz22_2 := blk_frozen BK121.out 2
       have hfz22_3 := blk_frozen BK121.out 3
       have hfz22_4 := blk_frozen BK121.out 4
       have hfz22_5 := blk_frozen BK121.out 5
       have hfz22_6 := blk_frozen BK121.out 6
       go_wp2
       go_meet
       case rel => exact ⟨_, (true), (by rfl), H', ⟨by have := HJ1.out; have := HK2.out; omega⟩, ⟨by refine blk_far ?_ NB119_121.out _; refine blk_far ?_ NB119_121.out _; refine blk_far ?_ NB119_121.out _; refine blk_far ?_ NB119_121.out _; refine blk_far ?_ NB119_121.out _; refine blk_far ?_ NB119_121.out _; refine blk_far ?_ NB119_121.out _; exact BK119.out⟩, ⟨by refine blk_put (cs := #[.int .i64 ((rd_T43 l0_3 x3_2).f0), .int .i64 ((rd_T43 l0_3 x3_2).f1), .int .i64 ((rd_T43 l0_3 x3_2).f2), .int .i64 ((rd_T43 l0_3 x3_2).f3.f0), .int .i64 ((rd_T43 l0_3 x3_2).f3.f1), .int .i64 ((rd_T43 l0_3 x3_2).f4), .int .i64 0]) ?_ 6 _ rfl; refine blk_put (cs := #[.int .i64 ((rd_T43 l0_3 x3_2).f0), .int .i64 ((rd_T43 l0_3 x3_2).f1), .int .i64 ((rd_T43 l0_3 x3_2).f2), .int .i64 ((rd_T43 l0_3 x3_2).f3.f0), .int .i64 ((rd_T43 l0_3 x3_2).f3.f1), .int .i64 0, .int .i64 0]) ?_ 5 _ rfl; refine blk_put (cs := #[.int .i64 ((rd_T43 l0_3 x3_2).f0), .int .i64 ((rd_T43 l0_3 x3_2).f1), .int .i64 ((rd_T43 l0_3 x3_2).f2), .int .i64 ((rd_T43 l0_3 x3_2).f3.f0), .int .i64 0, .int .i64 0, .int .i64 0]) ?_ 4 _ rfl; refine blk_put (cs := #[.int .i64 ((rd_T43 l0_3 x3_2).f0), .int .i64 ((rd_T43 l0_3 x3_2).f1), .int .i64 ((rd_T43 l0_3 x3_2).f2), .int .i64 0, .int .i64 0, .int .i64 0, .int .i64 0]) ?_ 3 _ rfl; refine blk_put (cs := #[.int .i64 ((rd_T43 l0_3 x3_2).f0), .int .i64 ((rd_T43 l0_3 x3_2).f1), .int .i64 0, .int .i64 0, .int .i64 0, .int .i64 0, .int .i64 0]) ?_ 2 _ rfl; refine blk_put (cs := #[.int .i64 ((rd_T43 l0_3 x3_2).f0), .int .i64 0, .int .i64 0, .int .i64 0, .int .i64 0, .int .i64 0, .int .i64 0]) ?_ 1 _ rfl; refine blk_put (cs := #[.int .i64 0, .int .i64 0, .int .i64 0, .int .i64 0, .int .i64 0, .int .i64 0, .int .i64 0]) ?_ 0 _ rfl; exact BK121.out⟩, ⟨by repeat ((with_reducible first | exact HB.out | refine below_set ?_ GE121.out))⟩⟩
      rw [if_neg c20] at H
      have c20b0 : decide (5 < ((rd_T43 l0_3 x3_2).f1)) = false := decide_eq_false c20
      clear c20
      by_cases c23 : ((rd_T43 l0_3 x3_2).f2) < 0
      ·rw [if_pos c23] at H
       have c23b0 : decide (((rd_T43 l0_3 x3_2).f2) < 0) = true := decide_eq_true c23
       clear c23
       have H' := Aside0.mk H
       clear H
       have hnb24 := NB121_119.out
       have hnc24 := NB119_121.out
       have hcz25_0 := cel_ BK121.out 0 rfl
       have hcz25_1 := cel_ BK121.out 1 rfl
       have hcz25_2 := cel_ BK121.out 2 rfl
       have hcz25_3 := cel_ BK121.out 3 rfl
       have hcz25_4 := cel_ BK121.out 4 rfl
       have hcz25_5 := cel_ BK121.out 5 rfl
       have hcz25_6 := cel_ BK121.out 6 rfl
       have hfz25_0 := blk_frozen BK121.out 0
       have hfz25_1 := blk_frozen BK121.out 1
       have hfz25_2 := blk_frozen BK121.out 2
       have hfz25_3 := blk_frozen BK121.out 3
       have hfz25_4 := blk_frozen BK121.out 4
       have hfz25_5 := blk_frozen BK121.out 5
       have hfz25_6 := blk_frozen BK121.out 6
       go_wp2
       go_meet
       case rel => exact ⟨_, (true), (by rfl), H', ⟨by have := HJ1.out; have := HK2.out; omega⟩, ⟨by refine blk_far ?_ NB119_121.out _; refine blk_far ?_ NB119_121.out _; refine blk_far ?_ NB119_121.out _; refine blk_far ?_ NB119_121.out _; refine blk_far ?_ NB119_121.out _; refine blk_far ?_ NB119_121.out _; refine blk_far ?_ NB119_121.out _; exact BK119.out⟩, ⟨by refine blk_put (cs := #[.int .i64 ((rd_T43 l0_3 x3_2).f0), .int .i64 ((rd_T43 l0_3 x3_2).f1), .int .i64 ((rd_T43 l0_3 x3_2).f2), .int .i64 ((rd_T43 l0_3 x3_2).f3.f0), .int .i64 ((rd_T43 l0_3 x3_2).f3.f1), .int .i64 ((rd_T43 l0_3 x3_2).f4), .int .i64 0]) ?_ 6 _ rfl; refine blk_put (cs := #[.int .i64 ((rd_T43 l0_3 x3_2).f0), .int .i64 ((rd_T43 l0_3 x3_2).f1), .int .i64 ((rd_T43 l0_3 x3_2).f2), .int .i64 ((rd_T43 l0_3 x3_2).f3.f0), .int .i64 ((rd_T43 l0_3 x3_2).f3.f1), .int .i64 0, .int .i64 0]) ?_ 5 _ rfl; refine blk_put (cs := #[.int .i64 ((rd_T43 l0_3 x3_2).f0), .int .i64 ((rd_T43 l0_3 x3_2).f1), .int .i64 ((rd_T43 l0_3 x3_2).f2), .int .i64 ((rd_T43 l0_3 x3_2).f3.f0), .int .i64 0, .int .i64 0, .int .i64 0]) ?_ 4 _ rfl; refine blk_put (cs := #[.int .i64 ((rd_T43 l0_3 x3_2).f0), .int .i64 ((rd_T43 l0_3 x3_2).f1), .int .i64 ((rd_T43 l0_3 x3_2).f2), .int .i64 0, .int .i64 0, .int .i64 0, .int .i64 0]) ?_ 3 _ rfl; refine blk_put (cs := #[.int .i64 ((rd_T43 l0_3 x3_2).f0), .int .i64 ((rd_T43 l0_3 x3_2).f1), .int .i64 0, .int .i64 0, .int .i64 0, .int .i64 0, .int .i64 0]) ?_ 2 _ rfl; refine blk_put (cs := #[.int .i64 ((rd_T43 l0_3 x3_2).f0), .int .i64 0, .int .i64 0, .int .i64 0, .int .i64 0, .int .i64 0, .int .i64 0]) ?_ 1 _ rfl; refine blk_put (cs := #[.int .i64 0, .int .i64 0, .int .i64 0, .int .i64 0, .int .i64 0, .int .i64 0, .int .i64 0]) ?_ 0 _ rfl; exact BK121.out⟩, ⟨by repeat ((with_reducible first | exact HB.out | refine below_set ?_ GE121.out))⟩⟩
      rw [if_neg c23] at H
      have c23b0 : decide (((rd_T43 l0_3 x3_2).f2) < 0) = false := decide_eq_false c23
      clear c23
      have H' := Aside0.mk H
      clear H
      have hnb26 := NB121_119.out
      have hnc26 := NB119_121.out
      have hcz27_0 := cel_ BK121.out 0 rfl
      have hcz27_1 := cel_ BK121.out 1 rfl
      have hcz27_2 := cel_ BK121.out 2 rfl
      have hcz27_3 := cel_ BK121.out 3 rfl
      have hcz27_4 := cel_ BK121.out 4 rfl
      have hcz27_5 := cel_ BK121.out 5 rfl
      have hcz27_6 := cel_ BK121.out 6 rfl
      have hfz27_0 := blk_frozen BK121.out 0
      have hfz27_1 := blk_frozen BK121.out 1
      have hfz27_2 := blk_frozen BK121.out 2
      have hfz27_3 := blk_frozen BK121.out 3
      have hfz27_4 := blk_frozen BK121.out 4
      have hfz27_5 := blk_frozen BK121.out 5
      have hfz27_6 := blk_frozen BK121.out 6
      go_wp2
      go_meet
      case rel => exact ⟨_, (decide (((rd_T43 l0_3 x3_2).f2) > 1000000000)), (by rfl), H', ⟨by have := HJ1.out; have := HK2.out; omega⟩, ⟨by refine blk_far ?_ NB119_121.out _; refine blk_far ?_ NB119_121.out _; refine blk_far ?_ NB119_121.out _; refine blk_far ?_ NB119_121.out _; refine blk_far ?_ NB119_121.out _; refine blk_far ?_ NB119_121.out _; refine blk_far ?_ NB119_121.out _; exact BK119.out⟩, ⟨by refine blk_put (cs := #[.int .i64 ((rd_T43 l0_3 x3_2).f0), .int .i64 ((rd_T43 l0_3 x3_2).f1), .int .i64 ((rd_T43 l0_3 x3_2).f2), .int .i64 ((rd_T43 l0_3 x3_2).f3.f0), .int .i64 ((rd_T43 l0_3 x3_2).f3.f1), .int .i64 ((rd_T43 l0_3 x3_2).f4), .int .i64 0]) ?_ 6 _ rfl; refine blk_put (cs := #[.int .i64 ((rd_T43 l0_3 x3_2).f0), .int .i64 ((rd_T43 l0_3 x3_2).f1), .int .i64 ((rd_T43 l0_3 x3_2).f2), .int .i64 ((rd_T43 l0_3 x3_2).f3.f0), .int .i64 ((rd_T43 l0_3 x3_2).f3.f1), .int .i64 0, .int .i64 0]) ?_ 5 _ rfl; refine blk_put (cs := #[.int .i64 ((rd_T43 l0_3 x3_2).f0), .int .i64 ((rd_T43 l0_3 x3_2).f1), .int .i64 ((rd_T43 l0_3 x3_2).f2), .int .i64 ((rd_T43 l0_3 x3_2).f3.f0), .int .i64 0, .int .i64 0, .int .i64 0]) ?_ 4 _ rfl; refine blk_put (cs := #[.int .i64 ((rd_T43 l0_3 x3_2).f0), .int .i64 ((rd_T43 l0_3 x3_2).f1), .int .i64 ((rd_T43 l0_3 x3_2).f2), .int .i64 0, .int .i64 0, .int .i64 0, .int .i64 0]) ?_ 3 _ rfl; refine blk_put (cs := #[.int .i64 ((rd_T43 l0_3 x3_2).f0), .int .i64 ((rd_T43 l0_3 x3_2).f1), .int .i64 0, .int .i64 0, .int .i64 0, .int .i64 0, .int .i64 0]) ?_ 2 _ rfl; refine blk_put (cs := #[.int .i64 ((rd_T43 l0_3 x3_2).f0), .int .i64 0, .int .i64 0, .int .i64 0, .int .i64 0, .int .i64 0, .int .i64 0]) ?_ 1 _ rfl; refine blk_put (cs := #[.int .i64 0, .int .i64 0, .int .i64 0, .int .i64 0, .int .i64 0, .int .i64 0, .int .i64 0]) ?_ 0 _ rfl; exact BK121.out⟩, ⟨by repeat ((with_reducible first | exact HB.out | refine below_set ?_ GE121.out))⟩⟩
     clear HC12
     clear c10b0
     clear c11b0
     clear hcz13_0 hcz13_1 hcz13_2 hcz13_3 hcz16_0 hcz16_1 hcz16_2 hcz16_3 hcz16_4 hcz16_5 hcz16_6
     clear hfz13_0 hfz13_1 hfz13_2 hfz13_3 hfz16_0 hfz16_1 hfz16_2 hfz16_3 hfz16_4 hfz16_5 hfz16_6
     clear hx120_0 hx120_1 hx120_2 hx120_3 hx120_4 hx120_5 hx120_6 p120
     clear q120
     obtain ⟨kq, x48_11, rfl, HA, HJ11, BK119, BK121, HB⟩ := hcut
     cases kq with
     | zero => exact absurd HA.out (by simp [cleanseref20_Valid.j2])
     | succ kj11 =>
      have H := HA.out
      clear HA
      simp only [cleanseref20_Valid.j2] at H
      by_cases c28 : x48_11 = true
      ·subst c28
       have H1 : (some false) = some r := by rw [if_pos rfl] at H; exact H
       clear H
       have H := H1
       clear H1
       obtain rfl := Option.some.inj H
       go_wp2
       go_ret
       exact ⟨by rfl, by repeat ((with_reducible (exact HB.out)))⟩
      replace c28 := Bool.eq_false_iff.mpr c28
      subst c28
      have H1 : ((cleanseref01_Valid.f kj11 ((rd_T43 l0_3 x3_2).f3.f0) ((rd_T43 l0_3 x3_2).f3.f1)).bind fun t122 => (if t122 = true then (if ((rd_T43 l0_3 x3_2).f3.f0) < 0 then (some false) else (if ((rd_T43 l0_3 x3_2).f3.f0) > ((rd_T43 l0_3 x3_2).f3.f1) then (some false) else (if ((rd_T43 l0_3 x3_2).f4) < 0 then (some false) else (if ((rd_T43 l0_3 x3_2).f4) > 1000 then (some false) else (if ((rd_T43 l0_3 x3_2).f5) < 0 then (some false) else (if ((rd_T43 l0_3 x3_2).f5) > 1000 then (some false) else (cleanseref20_Valid.l0 kj11 (wrap64 (x3_2 + 1)) a0_0 a0_1 a0_2 l0_3))))))) else (some false))) = some r := by rw [if_neg (show ¬ (false = true) by decide)] at H; exact H
      clear H
      have H := H1
      clear H1
      replace H := Option.bind_eq_some_iff.mp H
      obtain ⟨t122, A290, H⟩ := H
      replace H : (if t122 = true then (if ((rd_T43 l0_3 x3_2).f3.f0) < 0 then (some false) else (if ((rd_T43 l0_3 x3_2).f3.f0) > ((rd_T43 l0_3 x3_2).f3.f1) then (some false) else (if ((rd_T43 l0_3 x3_2).f4) < 0 then (some false) else (if ((rd_T43 l0_3 x3_2).f4) > 1000 then (some false) else (if ((rd_T43 l0_3 x3_2).f5) < 0 then (some false) else (if ((rd_T43 l0_3 x3_2).f5) > 1000 then (some false) else (cleanseref20_Valid.l0 kj11 (wrap64 (x3_2 + 1)) a0_0 a0_1 a0_2 l0_3))))))) else (some false)) = some r := H
      have A29 := Aside0.mk A290
      clear A290
      by_cases c30 : t122 = true
      ·subst c30
       have H1 : (if ((rd_T43 l0_3 x3_2).f3.f0) < 0 then (some false) else (if ((rd_T43 l0_3 x3_2).f3.f0) > ((rd_T43 l0_3 x3_2).f3.f1) then (some false) else (if ((rd_T43 l0_3 x3_2).f4) < 0 then (some false) else (if ((rd_T43 l0_3 x3_2).f4) > 1000 then (some false) else (if ((rd_T43 l0_3 x3_2).f5) < 0 then (some false) else (if ((rd_T43 l0_3 x3_2).f5) > 1000 then (some false) else (cleanseref20_Valid.l0 kj11 (wrap64 (x3_2 + 1)) a0_0 a0_1 a0_2 l0_3))))))) = some r := by rw [if_pos rfl] at H; exact H
       clear H
       have H := H1
       clear H1
       by_cases c31 : ((rd_T43 l0_3 x3_2).f3.f0) < 0
       ·rw [if_pos c31] at H
        have c31b0 : decide (((rd_T43 l0_3 x3_2).f3.f0) < 0) = true := decide_eq_true c31
        clear c31
        obtain rfl := Option.some.inj H
        have hnb32 := NB121_119.out
        have hnc32 := NB119_121.out
        have hcz33_0 := cel_ BK121.out 0 rfl
        have hcz33_1 := cel_ BK121.out 1 rfl
        have hcz33_2 := cel_ BK121.out 2 rfl
        have hcz33_3 := cel_ BK121.out 3 rfl
        have hcz33_4 := cel_ BK121.out 4 rfl
        have hcz33_5 := cel_ BK121.out 5 rfl
        have hcz33_6 := cel_ BK121.out 6 rfl
        have hfz33_0 := blk_frozen BK121.out 0
        have hfz33_1 := blk_frozen BK121.out 1
        have hfz33_2 := blk_frozen BK121.out 2
        have hfz33_3 := blk_frozen BK121.out 3
        have hfz33_4 := blk_frozen BK121.out 4
        have hfz33_5 := blk_frozen BK121.out 5
        have hfz33_6 := blk_frozen BK121.out 6
        go_wp2_with (first | ((with_reducible refine gate_callee (f := 34) rfl ?_); refine goesL_ (some 51) rfl rfl Tryd.func34 (by kernel_rfl) rfl #[.agg #[.int .i64 ((rd_T43 l0_3 x3_2).f3.f0), .int .i64 ((rd_T43 l0_3 x3_2).f3.f1)]] rfl (by (try simp only [List.map_toArray, List.map_cons, List.map_nil]); rfl) ?_; (with_reducible refine (cleanseref01_Valid.calls kj11 ((rd_T43 l0_3 x3_2).f3.f0) ((rd_T43 l0_3 x3_2).f3.f1) true _ A29.out).mono ?_); rintro e w34 ⟨rfl, hb⟩; refine ⟨_, rfl, ?_⟩; have n0_ := Aside0.mk (blk_below (by exact BK119.out) hb); have n1_ := Aside0.mk (blk_below (by exact BK121.out) hb); have n2_ := Aside0.mk (below_step HB.out hb); clear BK119; clear BK121; clear HB; have BK119 := n0_; have BK121 := n1_; have HB := n2_; clear n0_ n1_ n2_; (try clear hb); have hcz35_0 := cel_ BK121.out 0 rfl; have hcz35_1 := cel_ BK121.out 1 rfl; have hcz35_2 := cel_ BK121.out 2 rfl; have hcz35_3 := cel_ BK121.out 3 rfl; have hcz35_4 := cel_ BK121.out 4 rfl; have hcz35_5 := cel_ BK121.out 5 rfl; have hcz35_6 := cel_ BK121.out 6 rfl; have hfz35_0 := blk_frozen BK121.out 0; have hfz35_1 := blk_frozen BK121.out 1; have hfz35_2 := blk_frozen BK121.out 2; have hfz35_3 := blk_frozen BK121.out 3; have hfz35_4 := blk_frozen BK121.out 4; have hfz35_5 := blk_frozen BK121.out 5; have hfz35_6 := blk_frozen BK121.out 6))
        go_ret
        exact ⟨by rfl, by repeat ((with_reducible (exact HB.out)))⟩
       rw [if_neg c31] at H
       have c31b0 : decide (((rd_T43 l0_3 x3_2).f3.f0) < 0) = false := decide_eq_false c31
       clear c31
       by_cases c36 : ((rd_T43 l0_3 x3_2).f3.f0) > ((rd_T43 l0_3 x3_2).f3.f1)
       ·rw [if_pos c36] at H
        have c36b0 : decide (((rd_T43 l0_3 x3_2).f3.f1) < ((rd_T43 l0_3 x3_2).f3.f0)) = true := decide_eq_true c36
        clear c36
        obtain rfl := Option.some.inj H
        have hnb37 := NB121_119.out
        have hnc37 := NB119_121.out
        have hcz38_0 := cel_ BK121.out 0 rfl
        have hcz38_1 := cel_ BK121.out 1 rfl
        have hcz38_2 := cel_ BK121.out 2 rfl
        have hcz38_3 := cel_ BK121.out 3 rfl
        have hcz38_4 := cel_ BK121.out 4 rfl
        have hcz38_5 := cel_ BK121.out 5 rfl
        have hcz38_6 := cel_ BK121.out 6 rfl
        have hfz38_0 := blk_frozen BK121.out 0
        have hfz38_1 := blk_frozen BK121.out 1
        have hfz38_2 := blk_frozen BK121.out 2
        have hfz38_3 := blk_frozen BK121.out 3
        have hfz38_4 := blk_frozen BK121.out 4
        have hfz38_5 := blk_frozen BK121.out 5
        have hfz38_6 := blk_frozen BK121.out 6
        go_wp2_with (first | ((with_reducible refine gate_callee (f := 34) rfl ?_); refine goesL_ (some 51) rfl rfl Tryd.func34 (by kernel_rfl) rfl #[.agg #[.int .i64 ((rd_T43 l0_3 x3_2).f3.f0), .int .i64 ((rd_T43 l0_3 x3_2).f3.f1)]] rfl (by (try simp only [List.map_toArray, List.map_cons, List.map_nil]); rfl) ?_; (with_reducible refine (cleanseref01_Valid.calls kj11 ((rd_T43 l0_3 x3_2).f3.f0) ((rd_T43 l0_3 x3_2).f3.f1) true _ A29.out).mono ?_); rintro e w39 ⟨rfl, hb⟩; refine ⟨_, rfl, ?_⟩; have n0_ := Aside0.mk (blk_below (by exact BK119.out) hb); have n1_ := Aside0.mk (blk_below (by exact BK121.out) hb); have n2_ := Aside0.mk (below_step HB.out hb); clear BK119; clear BK121; clear HB; have BK119 := n0_; have BK121 := n1_; have HB := n2_; clear n0_ n1_ n2_; (try clear hb); have hcz40_0 := cel_ BK121.out 0 rfl; have hcz40_1 := cel_ BK121.out 1 rfl; have hcz40_2 := cel_ BK121.out 2 rfl; have hcz40_3 := cel_ BK121.out 3 rfl; have hcz40_4 := cel_ BK121.out 4 rfl; have hcz40_5 := cel_ BK121.out 5 rfl; have hcz40_6 := cel_ BK121.out 6 rfl; have hfz40_0 := blk_frozen BK121.out 0; have hfz40_1 := blk_frozen BK121.out 1; have hfz40_2 := blk_frozen BK121.out 2; have hfz40_3 := blk_frozen BK121.out 3; have hfz40_4 := blk_frozen BK121.out 4; have hfz40_5 := blk_frozen BK121.out 5; have hfz40_6 := blk_frozen BK121.out 6))
        go_ret
        exact ⟨by rfl, by repeat ((with_reducible (exact HB.out)))⟩
       rw [if_neg c36] at H
       have c36b0 : decide (((rd_T43 l0_3 x3_2).f3.f1) < ((rd_T43 l0_3 x3_2).f3.f0)) = false := decide_eq_false c36
       clear c36
       by_cases c41 : ((rd_T43 l0_3 x3_2).f4) < 0
       ·rw [if_pos c41] at H
        have c41b0 : decide (((rd_T43 l0_3 x3_2).f4) < 0) = true := decide_eq_true c41
        clear c41
        obtain rfl := Option.some.inj H
        have hnb42 := NB121_119.out
        have hnc42 := NB119_121.out
        have hcz43_0 := cel_ BK121.out 0 rfl
        have hcz43_1 := cel_ BK121.out 1 rfl
        have hcz43_2 := cel_ BK121.out 2 rfl
        have hcz43_3 := cel_ BK121.out 3 rfl
        have hcz43_4 := cel_ BK121.out 4 rfl
        have hcz43_5 := cel_ BK121.out 5 rfl
        have hcz43_6 := cel_ BK121.out 6 rfl
        have hfz43_0 := blk_frozen BK121.out 0
        have hfz43_1 := blk_frozen BK121.out 1
        have hfz43_2 := blk_frozen BK121.out 2
        have hfz43_3 := blk_frozen BK121.out 3
        have hfz43_4 := blk_frozen BK121.out 4
        have hfz43_5 := blk_frozen BK121.out 5
        have hfz43_6 := blk_frozen BK121.out 6
        go_wp2_with (first | ((with_reducible refine gate_callee (f := 34) rfl ?_); refine goesL_ (some 51) rfl rfl Tryd.func34 (by kernel_rfl) rfl #[.agg #[.int .i64 ((rd_T43 l0_3 x3_2).f3.f0), .int .i64 ((rd_T43 l0_3 x3_2).f3.f1)]] rfl (by (try simp only [List.map_toArray, List.map_cons, List.map_nil]); rfl) ?_; (with_reducible refine (cleanseref01_Valid.calls kj11 ((rd_T43 l0_3 x3_2).f3.f0) ((rd_T43 l0_3 x3_2).f3.f1) true _ A29.out).mono ?_); rintro e w44 ⟨rfl, hb⟩; refine ⟨_, rfl, ?_⟩; have n0_ := Aside0.mk (blk_below (by exact BK119.out) hb); have n1_ := Aside0.mk (blk_below (by exact BK121.out) hb); have n2_ := Aside0.mk (below_step HB.out hb); clear BK119; clear BK121; clear HB; have BK119 := n0_; have BK121 := n1_; have HB := n2_; clear n0_ n1_ n2_; (try clear hb); have hcz45_0 := cel_ BK121.out 0 rfl; have hcz45_1 := cel_ BK121.out 1 rfl; have hcz45_2 := cel_ BK121.out 2 rfl; have hcz45_3 := cel_ BK121.out 3 rfl; have hcz45_4 := cel_ BK121.out 4 rfl; have hcz45_5 := cel_ BK121.out 5 rfl; have hcz45_6 := cel_ BK121.out 6 rfl; have hfz45_0 := blk_frozen BK121.out 0; have hfz45_1 := blk_frozen BK121.out 1; have hfz45_2 := blk_frozen BK121.out 2; have hfz45_3 := blk_frozen BK121.out 3; have hfz45_4 := blk_frozen BK121.out 4; have hfz45_5 := blk_frozen BK121.out 5; have hfz45_6 := blk_frozen BK121.out 6))
        go_ret
        exact ⟨by rfl, by repeat ((with_reducible (exact HB.out)))⟩
       rw [if_neg c41] at H
       have c41b0 : decide (((rd_T43 l0_3 x3_2).f4) < 0) = false := decide_eq_false c41
       clear c41
       by_cases c46 : ((rd_T43 l0_3 x3_2).f4) > 1000
       ·rw [if_pos c46] at H
        have c46b0 : decide (1000 < ((rd_T43 l0_3 x3_2).f4)) = true := decide_eq_true c46
        clear c46
        obtain rfl := Option.some.inj H
        have hnb47 := NB121_119.out
        have hnc47 := NB119_121.out
        have hcz48_0 := cel_ BK121.out 0 rfl
        have hcz48_1 := cel_ BK121.out 1 rfl
        have hcz48_2 := cel_ BK121.out 2 rfl
        have hcz48_3 := cel_ BK121.out 3 rfl
        have hcz48_4 := cel_ BK121.out 4 rfl
        have hcz48_5 := cel_ BK121.out 5 rfl
        have hcz48_6 := cel_ BK121.out 6 rfl
        have hfz48_0 := blk_frozen BK121.out 0
        have hfz48_1 := blk_frozen BK121.out 1
        have hfz48_2 := blk_frozen BK121.out 2
        have hfz48_3 := blk_frozen BK121.out 3
        have hfz48_4 := blk_frozen BK121.out 4
        have hfz48_5 := blk_frozen BK121.out 5
        have hfz48_6 := blk_frozen BK121.out 6
        go_wp2_with (first | ((with_reducible refine gate_callee (f := 34) rfl ?_); refine goesL_ (some 51) rfl rfl Tryd.func34 (by kernel_rfl) rfl #[.agg #[.int .i64 ((rd_T43 l0_3 x3_2).f3.f0), .int .i64 ((rd_T43 l0_3 x3_2).f3.f1)]] rfl (by (try simp only [List.map_toArray, List.map_cons, List.map_nil]); rfl) ?_; (with_reducible refine (cleanseref01_Valid.calls kj11 ((rd_T43 l0_3 x3_2).f3.f0) ((rd_T43 l0_3 x3_2).f3.f1) true _ A29.out).mono ?_); rintro e w49 ⟨rfl, hb⟩; refine ⟨_, rfl, ?_⟩; have n0_ := Aside0.mk (blk_below (by exact BK119.out) hb); have n1_ := Aside0.mk (blk_below (by exact BK121.out) hb); have n2_ := Aside0.mk (below_step HB.out hb); clear BK119; clear BK121; clear HB; have BK119 := n0_; have BK121 := n1_; have HB := n2_; clear n0_ n1_ n2_; (try clear hb); have hcz50_0 := cel_ BK121.out 0 rfl; have hcz50_1 := cel_ BK121.out 1 rfl; have hcz50_2 := cel_ BK121.out 2 rfl; have hcz50_3 := cel_ BK121.out 3 rfl; have hcz50_4 := cel_ BK121.out 4 rfl; have hcz50_5 := cel_ BK121.out 5 rfl; have hcz50_6 := cel_ BK121.out 6 rfl; have hfz50_0 := blk_frozen BK121.out 0; have hfz50_1 := blk_frozen BK121.out 1; have hfz50_2 := blk_frozen BK121.out 2; have hfz50_3 := blk_frozen BK121.out 3; have hfz50_4 := blk_frozen BK121.out 4; have hfz50_5 := blk_frozen BK121.out 5; have hfz50_6 := blk_frozen BK121.out 6))
        go_ret
        exact ⟨by rfl, by repeat ((with_reducible (exact HB.out)))⟩
       rw [if_neg c46] at H
       have c46b0 : decide (1000 < ((rd_T43 l0_3 x3_2).f4)) = false := decide_eq_false c46
       clear c46
       by_cases c51 : ((rd_T43 l0_3 x3_2).f5) < 0
       ·rw [if_pos c51] at H
        have c51b0 : decide (((rd_T43 l0_3 x3_2).f5) < 0) = true := decide_eq_true c51
        clear c51
        obtain rfl := Option.some.inj H
        have hnb52 := NB121_119.out
        have hnc52 := NB119_121.out
        have hcz53_0 := cel_ BK121.out 0 rfl
        have hcz53_1 := cel_ BK121.out 1 rfl
        have hcz53_2 := cel_ BK121.out 2 rfl
        have hcz53_3 := cel_ BK121.out 3 rfl
        have hcz53_4 := cel_ BK121.out 4 rfl
        have hcz53_5 := cel_ BK121.out 5 rfl
        have hcz53_6 := cel_ BK121.out 6 rfl
        have hfz53_0 := blk_frozen BK121.out 0
        have hfz53_1 := blk_frozen BK121.out 1
        have hfz53_2 := blk_frozen BK121.out 2
        have hfz53_3 := blk_frozen BK121.out 3
        have hfz53_4 := blk_frozen BK121.out 4
        have hfz53_5 := blk_frozen BK121.out 5
        have hfz53_6 := blk_frozen BK121.out 6
        go_wp2_with (first | ((with_reducible refine gate_callee (f := 34) rfl ?_); refine goesL_ (some 51) rfl rfl Tryd.func34 (by kernel_rfl) rfl #[.agg #[.int .i64 ((rd_T43 l0_3 x3_2).f3.f0), .int .i64 ((rd_T43 l0_3 x3_2).f3.f1)]] rfl (by (try simp only [List.map_toArray, List.map_cons, List.map_nil]); rfl) ?_; (with_reducible refine (cleanseref01_Valid.calls kj11 ((rd_T43 l0_3 x3_2).f3.f0) ((rd_T43 l0_3 x3_2).f3.f1) true _ A29.out).mono ?_); rintro e w54 ⟨rfl, hb⟩; refine ⟨_, rfl, ?_⟩; have n0_ := Aside0.mk (blk_below (by exact BK119.out) hb); have n1_ := Aside0.mk (blk_below (by exact BK121.out) hb); have n2_ := Aside0.mk (below_step HB.out hb); clear BK119; clear BK121; clear HB; have BK119 := n0_; have BK121 := n1_; have HB := n2_; clear n0_ n1_ n2_; (try clear hb); have hcz55_0 := cel_ BK121.out 0 rfl; have hcz55_1 := cel_ BK121.out 1 rfl; have hcz55_2 := cel_ BK121.out 2 rfl; have hcz55_3 := cel_ BK121.out 3 rfl; have hcz55_4 := cel_ BK121.out 4 rfl; have hcz55_5 := cel_ BK121.out 5 rfl; have hcz55_6 := cel_ BK121.out 6 rfl; have hfz55_0 := blk_frozen BK121.out 0; have hfz55_1 := blk_frozen BK121.out 1; have hfz55_2 := blk_frozen BK121.out 2; have hfz55_3 := blk_frozen BK121.out 3; have hfz55_4 := blk_frozen BK121.out 4; have hfz55_5 := blk_frozen BK121.out 5; have hfz55_6 := blk_frozen BK121.out 6))
        go_ret
        exact ⟨by rfl, by repeat ((with_reducible (exact HB.out)))⟩
       rw [if_neg c51] at H
       have c51b0 : decide (((rd_T43 l0_3 x3_2).f5) < 0) = false := decide_eq_false c51
       clear c51
       by_cases c56 : ((rd_T43 l0_3 x3_2).f5) > 1000
       ·rw [if_pos c56] at H
        have c56b0 : decide (1000 < ((rd_T43 l0_3 x3_2).f5)) = true := decide_eq_true c56
        clear c56
        obtain rfl := Option.some.inj H
        have hnb57 := NB121_119.out
        have hnc57 := NB119_121.out
        have hcz58_0 := cel_ BK121.out 0 rfl
        have hcz58_1 := cel_ BK121.out 1 rfl
        have hcz58_2 := cel_ BK121.out 2 rfl
        have hcz58_3 := cel_ BK121.out 3 rfl
        have hcz58_4 := cel_ BK121.out 4 rfl
        have hcz58_5 := cel_ BK121.out 5 rfl
        have hcz58_6 := cel_ BK121.out 6 rfl
        have hfz58_0 := blk_frozen BK121.out 0
        have hfz58_1 := blk_frozen BK121.out 1
        have hfz58_2 := blk_frozen BK121.out 2
        have hfz58_3 := blk_frozen BK121.out 3
        have hfz58_4 := blk_frozen BK121.out 4
        have hfz58_5 := blk_frozen BK121.out 5
        have hfz58_6 := blk_frozen BK121.out 6
        go_wp2_with (first | ((with_reducible refine gate_callee (f := 34) rfl ?_); refine goesL_ (some 51) rfl rfl Tryd.func34 (by kernel_rfl) rfl #[.agg #[.int .i64 ((rd_T43 l0_3 x3_2).f3.f0), .int .i64 ((rd_T43 l0_3 x3_2).f3.f1)]] rfl (by (try simp only [List.map_toArray, List.map_cons, List.map_nil]); rfl) ?_; (with_reducible refine (cleanseref01_Valid.calls kj11 ((rd_T43 l0_3 x3_2).f3.f0) ((rd_T43 l0_3 x3_2).f3.f1) true _ A29.out).mono ?_); rintro e w59 ⟨rfl, hb⟩; refine ⟨_, rfl, ?_⟩; have n0_ := Aside0.mk (blk_below (by exact BK119.out) hb); have n1_ := Aside0.mk (blk_below (by exact BK121.out) hb); have n2_ := Aside0.mk (below_step HB.out hb); clear BK119; clear BK121; clear HB; have BK119 := n0_; have BK121 := n1_; have HB := n2_; clear n0_ n1_ n2_; (try clear hb); have hcz60_0 := cel_ BK121.out 0 rfl; have hcz60_1 := cel_ BK121.out 1 rfl; have hcz60_2 := cel_ BK121.out 2 rfl; have hcz60_3 := cel_ BK121.out 3 rfl; have hcz60_4 := cel_ BK121.out 4 rfl; have hcz60_5 := cel_ BK121.out 5 rfl; have hcz60_6 := cel_ BK121.out 6 rfl; have hfz60_0 := blk_frozen BK121.out 0; have hfz60_1 := blk_frozen BK121.out 1; have hfz60_2 := blk_frozen BK121.out 2; have hfz60_3 := blk_frozen BK121.out 3; have hfz60_4 := blk_frozen BK121.out 4; have hfz60_5 := blk_frozen BK121.out 5; have hfz60_6 := blk_frozen BK121.out 6))
        go_ret
        exact ⟨by rfl, by repeat ((with_reducible (exact HB.out)))⟩
       rw [if_neg c56] at H
       have c56b0 : decide (1000 < ((rd_T43 l0_3 x3_2).f5)) = false := decide_eq_false c56
       clear c56
       have H' := Aside0.mk H
       clear H
       have hnb61 := NB121_119.out
       have hnc61 := NB119_121.out
       have hcz62_0 := cel_ BK121.out 0 rfl
       have hcz62_1 := cel_ BK121.out 1 rfl
       have hcz62_2 := cel_ BK121.out 2 rfl
       have hcz62_3 := cel_ BK121.out 3 rfl
       have hcz62_4 := cel_ BK121.out 4 rfl
       have hcz62_5 := cel_ BK121.out 5 rfl
       have hcz62_6 := cel_ BK121.out 6 rfl
       have hfz62_0 := blk_frozen BK121.out 0
       have hfz62_1 := blk_frozen BK121.out 1
       have hfz62_2 := blk_frozen BK121.out 2
       have hfz62_3 := blk_frozen BK121.out 3
       have hfz62_4 := blk_frozen BK121.out 4
       have hfz62_5 := blk_frozen BK121.out 5
       have hfz62_6 := blk_frozen BK121.out 6
       go_wp2_with (first | ((with_reducible refine gate_callee (f := 34) rfl ?_); refine goesL_ (some 51) rfl rfl Tryd.func34 (by kernel_rfl) rfl #[.agg #[.int .i64 ((rd_T43 l0_3 x3_2).f3.f0), .int .i64 ((rd_T43 l0_3 x3_2).f3.f1)]] rfl (by (try simp only [List.map_toArray, List.map_cons, List.map_nil]); rfl) ?_; (with_reducible refine (cleanseref01_Valid.calls kj11 ((rd_T43 l0_3 x3_2).f3.f0) ((rd_T43 l0_3 x3_2).f3.f1) true _ A29.out).mono ?_); rintro e w63 ⟨rfl, hb⟩; refine ⟨_, rfl, ?_⟩; have n0_ := Aside0.mk (blk_below (by exact BK119.out) hb); have n1_ := Aside0.mk (blk_below (by exact BK121.out) hb); have n2_ := Aside0.mk (below_step HB.out hb); clear BK119; clear BK121; clear HB; have BK119 := n0_; have BK121 := n1_; have HB := n2_; clear n0_ n1_ n2_; (try clear hb); have hcz64_0 := cel_ BK121.out 0 rfl; have hcz64_1 := cel_ BK121.out 1 rfl; have hcz64_2 := cel_ BK121.out 2 rfl; have hcz64_3 := cel_ BK121.out 3 rfl; have hcz64_4 := cel_ BK121.out 4 rfl; have hcz64_5 := cel_ BK121.out 5 rfl; have hcz64_6 := cel_ BK121.out 6 rfl; have hfz64_0 := blk_frozen BK121.out 0; have hfz64_1 := blk_frozen BK121.out 1; have hfz64_2 := blk_frozen BK121.out 2; have hfz64_3 := blk_frozen BK121.out 3; have hfz64_4 := blk_frozen BK121.out 4; have hfz64_5 := blk_frozen BK121.out 5; have hfz64_6 := blk_frozen BK121.out 6))
       go_roundg kj11
       case measure => have := HJ1.out; have := HK2.out; have := HJ11.out; omega
       case rel => exact ⟨(wrap64 (x3_2 + 1)), (by rfl), H', ⟨by have := HJ1.out; have := HK2.out; have := HJ11.out; omega⟩, ⟨by exact BK119.out⟩, ⟨by repeat ((with_reducible (exact HB.out)))⟩⟩
      replace c30 := Bool.eq_false_iff.mpr c30
      subst c30
      have H1 : (some false) = some r := by rw [if_neg (show ¬ (false = true) by decide)] at H; exact H
      clear H
      have H := H1
      clear H1
      obtain rfl := Option.some.inj H
      have hnb65 := NB121_119.out
      have hnc65 := NB119_121.out
      have hcz66_0 := cel_ BK121.out 0 rfl
      have hcz66_1 := cel_ BK121.out 1 rfl
      have hcz66_2 := cel_ BK121.out 2 rfl
      have hcz66_3 := cel_ BK121.out 3 rfl
      have hcz66_4 := cel_ BK121.out 4 rfl
      have hcz66_5 := cel_ BK121.out 5 rfl
      have hcz66_6 := cel_ BK121.out 6 rfl
      have hfz66_0 := blk_frozen BK121.out 0
      have hfz66_1 := blk_frozen BK121.out 1
      have hfz66_2 := blk_frozen BK121.out 2
      have hfz66_3 := blk_frozen BK121.out 3
      have hfz66_4 := blk_frozen BK121.out 4
      have hfz66_5 := blk_frozen BK121.out 5
      have hfz66_6 := blk_frozen BK121.out 6
      go_wp2_with (first | ((with_reducible refine gate_callee (f := 34) rfl ?_); refine goesL_ (some 51) rfl rfl Tryd.func34 (by kernel_rfl) rfl #[.agg #[.int .i64 ((rd_T43 l0_3 x3_2).f3.f0), .int .i64 ((rd_T43 l0_3 x3_2).f3.f1)]] rfl (by (try simp only [List.map_toArray, List.map_cons, List.map_nil]); rfl) ?_; (with_reducible refine (cleanseref01_Valid.calls kj11 ((rd_T43 l0_3 x3_2).f3.f0) ((rd_T43 l0_3 x3_2).f3.f1) false _ A29.out).mono ?_); rintro e w67 ⟨rfl, hb⟩; refine ⟨_, rfl, ?_⟩; have n0_ := Aside0.mk (blk_below (by exact BK119.out) hb); have n1_ := Aside0.mk (blk_below (by exact BK121.out) hb); have n2_ := Aside0.mk (below_step HB.out hb); clear BK119; clear BK121; clear HB; have BK119 := n0_; have BK121 := n1_; have HB := n2_; clear n0_ n1_ n2_; (try clear hb)))
      go_ret
      exact ⟨by rfl, by repeat ((with_reducible (exact HB.out)))⟩
    rw [if_neg c11] at H
    exact absurd H (by simp)
   rw [if_neg c10] at H
   have c10b0 : decide (x3_2 < (l0_3.length : Int)) = false := decide_eq_false c10
   clear c10
   obtain rfl := Option.some.inj H
   have hcz68_0 := cel_ BK119.out 0 rfl
   have hcz68_1 := cel_ BK119.out 1 rfl
   have hcz68_2 := cel_ BK119.out 2 rfl
   have hcz68_3 := cel_ BK119.out 3 rfl
   have hfz68_0 := blk_frozen BK119.out 0
   have hfz68_1 := blk_frozen BK119.out 1
   have hfz68_2 := blk_frozen BK119.out 2
   have hfz68_3 := blk_frozen BK119.out 3
   go_wp2
   go_ret
   exact ⟨by rfl, by repeat ((with_reducible (exact HB.out)))⟩

end Go.Proofs.YtiffkknhnmpgbaaDoor.R
end

section
namespace Go.Proofs.YtiffkknhnmpgbaaDoor.R
open Go.RowKit Go.Proofs.YtiffkknhnmpgbaaDoor.Q Go.Proofs.YtiffkknhnmpgbaaDoorW.PrintWords Go.Proofs.YtiffkknhnmpgbaaDoorW.PrintLast Go.Proofs.YtiffkknhnmpgbaaDoorW.PrintMore
attribute [local go_sem] max2_int min2_int max_two min_two max_three min_three max_four min_four   -- for this text's walks alone
set_option linter.unusedVariables false
set_option linter.unusedSimpArgs false

/-! ### cleanseref20_About: function 14 -/
def cleanseref20_About.f (k : Nat) (a0_0 : ByteArray) (a0_1 : Int) (a0_2 : Int) (l0_3 : List (S43)) (a1_0 : Int) (a1_1 : ByteArray) (a1_2 : ByteArray) (a1_3 : Int) (a1_4 : Int) (l1_5 : List (S50)) (a2_0 : Int) (a2_1 : ByteArray) (a2_2 : ByteArray) (a2_3 : Int) (a2_4 : Int) (l2_5 : List (S50)) : Option (Bool) := (cleanseref20_Valid.f k a0_0 a0_1 a0_2 l0_3).bind fun t126 => (if t126 = true then (if a1_3 = a0_1 then (some (a2_3 == a0_1)) else (some false)) else (some false))
set_option maxHeartbeats 8000000 in
set_option maxRecDepth 100000 in
theorem cleanseref20_About.calls (k : Nat) (a0_0 : ByteArray) (a0_1 : Int) (a0_2 : Int) (A0_3 : Option Addr) (c0_3 : Nat) (l0_3 : List (S43)) (a1_0 : Int) (a1_1 : ByteArray) (a1_2 : ByteArray) (a1_3 : Int) (a1_4 : Int) (A1_5 : Option Addr) (c1_5 : Nat) (l1_5 : List (S50)) (a2_0 : Int) (a2_1 : ByteArray) (a2_2 : ByteArray) (a2_3 : Int) (a2_4 : Int) (A2_5 : Option Addr) (c2_5 : Nat) (l2_5 : List (S50)) (r : Bool) (w : World) (hr0_3 : Kd.C k43 w A0_3 l0_3.length l0_3) (hc0_3 : l0_3.length ≤ c0_3) (hr1_5 : Kd.C k50 w A1_5 l1_5.length l1_5) (hc1_5 : l1_5.length ≤ c1_5) (hr2_5 : Kd.C k50 w A2_5 l2_5.length l2_5) (hc2_5 : l2_5.length ≤ c2_5) (h : cleanseref20_About.f k a0_0 a0_1 a0_2 l0_3 a1_0 a1_1 a1_2 a1_3 a1_4 l1_5 a2_0 a2_1 a2_2 a2_3 a2_4 l2_5 = some r) :
  Calls Tryd.prog 14 #[.agg #[.string a0_0, .int .i64 a0_1, .int .i64 a0_2, .slice A0_3 l0_3.length c0_3], .agg #[.int .i64 a1_0, .string a1_1, .string a1_2, .int .i64 a1_3, .int .i64 a1_4, .slice A1_5 l1_5.length c1_5], .agg #[.int .i64 a2_0, .string a2_1, .string a2_2, .int .i64 a2_3, .int .i64 a2_4, .slice A2_5 l2_5.length c2_5]] w fun e w' => e = .returned (.bool r) ∧ Below w.heap.size w w' := by
 have hu24 := Tryd.underlying24
 have hu29 := Tryd.underlying29
 have HR0_3 := Aside0.mk hr0_3
 have HC0_3 := Aside0.mk hc0_3
 clear hr0_3 hc0_3
 have HR1_5 := Aside0.mk hr1_5
 have HC1_5 := Aside0.mk hc1_5
 clear hr1_5 hc1_5
 have HR2_5 := Aside0.mk hr2_5
 have HC2_5 := Aside0.mk hc2_5
 clear hr2_5 hc2_5
 have HB := Aside0.mk (Below.refl w.heap.size w)
 have H : ((cleanseref20_Valid.f k a0_0 a0_1 a0_2 l0_3).bind fun t126 => (if t126 = true then (if a1_3 = a0_1 then (some (a2_3 == a0_1)) else (some false)) else (some false))) = some r := h
 clear h
 replace H := Option.bind_eq_some_iff.mp H
 obtain ⟨t126, A40, H⟩ := H
 replace H : (if t126 = true then (if a1_3 = a0_1 then (some (a2_3 == a0_1)) else (some false)) else (some false)) = some r := H
 have A4 := Aside0.mk A40
 clear A40
 by_cases c5 : t126 = true
 ·subst c5
  have H1 : (if a1_3 = a0_1 then (some (a2_3 == a0_1)) else (some false)) = some r := by rw [if_pos rfl] at H; exact H
  clear H
  have H := H1
  clear H1
  by_cases c6 : a1_3 = a0_1
  ·rw [if_pos c6] at H
   have c6b0 : (a1_3 == a0_1) = true := beq_iff_eq.mpr c6
   have c6b1 : (a1_3 != a0_1) = false := bne_eq_false_iff_eq.mpr c6
   clear c6
   obtain rfl := Option.some.inj H
   go_enter Tryd.func14, Tryd.ntmps14
   go_wp2_with (first | ((with_reducible refine gate_dst (N := 3) rfl ?_); refine box_event ?hg (N := 3) ?hd (cs := #[.string a0_0, .int .i64 a0_1, .int .i64 a0_2, .slice A0_3 l0_3.length c0_3]) (t := 24) ?hr ?_; (case hd => rfl); (case hg => rfl); (case hr => (go_simp; done)); intro gb123 hg w7 hbox hb; have n0_ := Aside0.mk (below_step HB.out hb); have n1_ := Aside0.mk (hbox); clear HB; have HB := n0_; have BK123 := n1_; clear n0_ n1_; clear hb hbox hg) | ((with_reducible refine gate_dst (N := 4) rfl ?_); refine box_event ?hg (N := 4) ?hd (cs := #[.int .i64 a1_0, .string a1_1, .string a1_2, .int .i64 a1_3, .int .i64 a1_4, .slice A1_5 l1_5.length c1_5]) (t := 29) ?hr ?_; (case hd => rfl); (case hg => rfl); (case hr => (go_simp; done)); intro gb124 hg w8 hbox hb; have n0_ := Aside0.mk (blk_below (by exact BK123.out) hb); have n1_ := Aside0.mk (below_step HB.out hb); have n2_ := Aside0.mk (hbox); have n5_ := Aside0.mk ((by rw [hg]; exact Nat.ne_of_lt (blk_lt (by exact BK123.out)) : gb123 ≠ gb124)); have n6_ := Aside0.mk ((by rw [hg]; exact Nat.ne_of_gt (blk_lt (by exact BK123.out)) : gb124 ≠ gb123)); clear BK123; clear HB; have BK123 := n0_; have HB := n1_; have BK124 := n2_; have NB123_124 := n5_; have NB124_123 := n6_; clear n0_ n1_ n2_ n5_ n6_; clear hb hbox hg) | ((with_reducible refine gate_dst (N := 5) rfl ?_); refine box_event ?hg (N := 5) ?hd (cs := #[.int .i64 a2_0, .string a2_1, .string a2_2, .int .i64 a2_3, .int .i64 a2_4, .slice A2_5 l2_5.length c2_5]) (t := 29) ?hr ?_; (case hd => rfl); (case hg => rfl); (case hr => (go_simp; done)); intro gb125 hg w9 hbox hb; have n0_ := Aside0.mk (blk_below (by exact BK123.out) hb); have n1_ := Aside0.mk (blk_below (by exact BK124.out) hb); have n2_ := Aside0.mk (below_step HB.out hb); have n3_ := Aside0.mk (hbox); have n6_ := Aside0.mk ((by rw [hg]; exact Nat.ne_of_lt (blk_lt (by exact BK123.out)) : gb123 ≠ gb125)); have n7_ := Aside0.mk ((by rw [hg]; exact Nat.ne_of_gt (blk_lt (by exact BK123.out)) : gb125 ≠ gb123)); have n8_ := Aside0.mk ((by rw [hg]; exact Nat.ne_of_lt (blk_lt (by exact BK124.out)) : gb124 ≠ gb125)); have n9_ := Aside0.mk ((by rw [hg]; exact Nat.ne_of_gt (blk_lt (by exact BK124.out)) : gb125 ≠ gb124)); clear BK123; clear BK124; clear HB; have BK123 := n0_; have BK124 := n1_; have HB := n2_; have BK125 := n3_; have NB123_125 := n6_; have NB125_123 := n7_; have NB124_125 := n8_; have NB125_124 := n9_; clear n0_ n1_ n2_ n3_ n6_ n7_ n8_ n9_; clear hb hbox hg; have hnb10 := NB123_124.out; have hnc10 := NB124_123.out; have hnb11 := NB123_125.out; have hnc11 := NB125_123.out; have hcz12_0 := cel_ BK123.out 0 rfl; have hcz12_1 := cel_ BK123.out 1 rfl; have hcz12_2 := cel_ BK123.out 2 rfl; have hcz12_3 := cel_ BK123.out 3 rfl; have hfz12_0 := blk_frozen BK123.out 0; have hfz12_1 := blk_frozen BK123.out 1; have hfz12_2 := blk_frozen BK123.out 2; have hfz12_3 := blk_frozen BK123.out 3) | ((with_reducible refine gate_callee (f := 22) rfl ?_); refine goesL_ (some 8) rfl rfl Tryd.func22 (by kernel_rfl) rfl #[.agg #[.string a0_0, .int .i64 a0_1, .int .i64 a0_2, .slice A0_3 l0_3.length c0_3]] rfl (by (try simp only [List.map_toArray, List.map_cons, List.map_nil]); rfl) ?_; (with_reducible refine (cleanseref20_Valid.calls k a0_0 a0_1 a0_2 _ _ l0_3 true _ ?side1 ?side2 A4.out).mono ?_); (case side1 => repeat ((exact (Kd.C_below HR0_3.out HB.out)))); (case side2 => exact HC0_3.out); rintro e w13 ⟨rfl, hb⟩; refine ⟨_, rfl, ?_⟩; have n0_ := Aside0.mk (blk_below (by exact BK123.out) hb); have n1_ := Aside0.mk (blk_below (by exact BK124.out) hb); have n2_ := Aside0.mk (blk_below (by exact BK125.out) hb); have n3_ := Aside0.mk (below_step HB.out hb); clear BK123; clear BK124; clear BK125; clear HB; have BK123 := n0_; have BK124 := n1_; have BK125 := n2_; have HB := n3_; clear n0_ n1_ n2_ n3_; (try clear hb); have hnb14 := NB124_125.out; have hnc14 := NB125_124.out; have hcz15_0 := cel_ BK124.out 0 rfl; have hcz15_1 := cel_ BK124.out 1 rfl; have hcz15_2 := cel_ BK124.out 2 rfl; have hcz15_3 := cel_ BK124.out 3 rfl; have hcz15_4 := cel_ BK124.out 4 rfl; have hcz15_5 := cel_ BK124.out 5 rfl; have hfz15_0 := blk_frozen BK124.out 0; have hfz15_1 := blk_frozen BK124.out 1; have hfz15_2 := blk_frozen BK124.out 2; have hfz15_3 := blk_frozen BK124.out 3; have hfz15_4 := blk_frozen BK124.out 4; have hfz15_5 := blk_frozen BK124.out 5; have hcz16_0 := cel_ BK123.out 0 rfl; have hcz16_1 := cel_ BK123.out 1 rfl; have hcz16_2 := cel_ BK123.out 2 rfl; have hcz16_3 := cel_ BK123.out 3 rfl; have hfz16_0 := blk_frozen BK123.out 0; have hfz16_1 := blk_frozen BK123.out 1; have hfz16_2 := blk_frozen BK123.out 2; have hfz16_3 := blk_frozen BK123.out 3; have hcz17_0 := cel_ BK125.out 0 rfl; have hcz17_1 := cel_ BK125.out 1 rfl; have hcz17_2 := cel_ BK125.out 2 rfl; have hcz17_3 := cel_ BK125.out 3 rfl; have hcz17_4 := cel_ BK125.out 4 rfl; have hcz17_5 := cel_ BK125.out 5 rfl; have hfz17_0 := blk_frozen BK125.out 0; have hfz17_1 := blk_frozen BK125.out 1; have hfz17_2 := blk_frozen BK125.out 2; have hfz17_3 := blk_frozen BK125.out 3; have hfz17_4 := blk_frozen BK125.out 4; have hfz17_5 := blk_frozen BK125.out 5))
   go_ret
   exact ⟨by rfl, by repeat ((with_reducible (exact HB.out)))⟩
  rw [if_neg c6] at H
  have c6b0 : (a1_3 == a0_1) = false := beq_eq_false_iff_ne.mpr c6
  have c6b1 : (a1_3 != a0_1) = true := bne_iff_ne.mpr c6
  obtain rfl := Option.some.inj H
  go_enter Tryd.func14, Tryd.ntmps14
  go_wp2_with (first | ((with_reducible refine gate_dst (N := 3) rfl ?_); refine box_event ?hg (N := 3) ?hd (cs := #[.string a0_0, .int .i64 a0_1, .int .i64 a0_2, .slice A0_3 l0_3.length c0_3]) (t := 24) ?hr ?_; (case hd => rfl); (case hg => rfl); (case hr => (go_simp; done)); intro gb123 hg w18 hbox hb; have n0_ := Aside0.mk (below_step HB.out hb); have n1_ := Aside0.mk (hbox); clear HB; have HB := n0_; have BK123 := n1_; clear n0_ n1_; clear hb hbox hg) | ((with_reducible refine gate_dst (N := 4) rfl ?_); refine box_event ?hg (N := 4) ?hd (cs := #[.int .i64 a1_0, .string a1_1, .string a1_2, .int .i64 a1_3, .int .i64 a1_4, .slice A1_5 l1_5.length c1_5]) (t := 29) ?hr ?_; (case hd => rfl); (case hg => rfl); (case hr => (go_simp; done)); intro gb124 hg w19 hbox hb; have n0_ := Aside0.mk (blk_below (by exact BK123.out) hb); have n1_ := Aside0.mk (below_step HB.out hb); have n2_ := Aside0.mk (hbox); have n5_ := Aside0.mk ((by rw [hg]; exact Nat.ne_of_lt (blk_lt (by exact BK123.out)) : gb123 ≠ gb124)); have n6_ := Aside0.mk ((by rw [hg]; exact Nat.ne_of_gt (blk_lt (by exact BK123.out)) : gb124 ≠ gb123)); clear BK123; clear HB; have BK123 := n0_; have HB := n1_; have BK124 := n2_; have NB123_124 := n5_; have NB124_123 := n6_; clear n0_ n1_ n2_ n5_ n6_; clear hb hbox hg) | ((with_reducible refine gate_dst (N := 5) rfl ?_); refine box_event ?hg (N := 5) ?hd (cs := #[.int .i64 a2_0, .string a2_1, .string a2_2, .int .i64 a2_3, .int .i64 a2_4, .slice A2_5 l2_5.length c2_5]) (t := 29) ?hr ?_; (case hd => rfl); (case hg => rfl); (case hr => (go_simp; done)); intro gb125 hg w20 hbox hb; have n0_ := Aside0.mk (blk_below (by exact BK123.out) hb); have n1_ := Aside0.mk (blk_below (by exact BK124.out) hb); have n2_ := Aside0.mk (below_step HB.out hb); have n3_ := Aside0.mk (hbox); have n6_ := Aside0.mk ((by rw [hg]; exact Nat.ne_of_lt (blk_lt (by exact BK123.out)) : gb123 ≠ gb125)); have n7_ := Aside0.mk ((by rw [hg]; exact Nat.ne_of_gt (blk_lt (by exact BK123.out)) : gb125 ≠ gb123)); have n8_ := Aside0.mk ((by rw [hg]; exact Nat.ne_of_lt (blk_lt (by exact BK124.out)) : gb124 ≠ gb125)); have n9_ := Aside0.mk ((by rw [hg]; exact Nat.ne_of_gt (blk_lt (by exact BK124.out)) : gb125 ≠ gb124)); clear BK123; clear BK124; clear HB; have BK123 := n0_; have BK124 := n1_; have HB := n2_; have BK125 := n3_; have NB123_125 := n6_; have NB125_123 := n7_; have NB124_125 := n8_; have NB125_124 := n9_; clear n0_ n1_ n2_ n3_ n6_ n7_ n8_ n9_; clear hb hbox hg; have hnb21 := NB123_124.out; have hnc21 := NB124_123.out; have hnb22 := NB123_125.out; have hnc22 := NB125_123.out; have hcz23_0 := cel_ BK123.out 0 rfl; have hcz23_1 := cel_ BK123.out 1 rfl; have hcz23_2 := cel_ BK123.out 2 rfl; have hcz23_3 := cel_ BK123.out 3 rfl; have hfz23_0 := blk_frozen BK123.out 0; have hfz23_1 := blk_frozen BK123.out 1; have hfz23_2 := blk_frozen BK123.out 2; have hfz23_3 := blk_frozen BK123.out 3) | ((with_reducible refine gate_callee (f := 22) rfl ?_); refine goesL_ (some 8) rfl rfl Tryd.func22 (by kernel_rfl) rfl #[.agg #[.string a0_0, .int .i64 a0_1, .int .i64 a0_2, .slice A0_3 l0_3.length c0_3]] rfl (by (try simp only [List.map_toArray, List.map_cons, List.map_nil]); rfl) ?_; (with_reducible refine (cleanseref20_Valid.calls k a0_0 a0_1 a0_2 _ _ l0_3 true _ ?side1 ?side2 A4.out).mono ?_); (case side1 => repeat ((exact (Kd.C_below HR0_3.out HB.out)))); (case side2 => exact HC0_3.out); rintro e w24 ⟨rfl, hb⟩; refine ⟨_, rfl, ?_⟩; have n0_ := Aside0.mk (blk_below (by exact BK123.out) hb); have n1_ := Aside0.mk (blk_below (by exact BK124.out) hb); have n2_ := Aside0.mk (blk_below (by exact BK125.out) hb); have n3_ := Aside0.mk (below_step HB.out hb); clear BK123; clear BK124; clear BK125; clear HB; have BK123 := n0_; have BK124 := n1_; have BK125 := n2_; have HB := n3_; clear n0_ n1_ n2_ n3_; (try clear hb); have hnb25 := NB124_125.out; have hnc25 := NB125_124.out; have hcz26_0 := cel_ BK124.out 0 rfl; have hcz26_1 := cel_ BK124.out 1 rfl; have hcz26_2 := cel_ BK124.out 2 rfl; have hcz26_3 := cel_ BK124.out 3 rfl; have hcz26_4 := cel_ BK124.out 4 rfl; have hcz26_5 := cel_ BK124.out 5 rfl; have hfz26_0 := blk_frozen BK124.out 0; have hfz26_1 := blk_frozen BK124.out 1; have hfz26_2 := blk_frozen BK124.out 2; have hfz26_3 := blk_frozen BK124.out 3; have hfz26_4 := blk_frozen BK124.out 4; have hfz26_5 := blk_frozen BK124.out 5; have hcz27_0 := cel_ BK123.out 0 rfl; have hcz27_1 := cel_ BK123.out 1 rfl; have hcz27_2 := cel_ BK123.out 2 rfl; have hcz27_3 := cel_ BK123.out 3 rfl; have hfz27_0 := blk_frozen BK123.out 0; have hfz27_1 := blk_frozen BK123.out 1; have hfz27_2 := blk_frozen BK123.out 2; have hfz27_3 := blk_frozen BK123.out 3))
  go_ret
  exact ⟨by rfl, by repeat ((with_reducible (exact HB.out)))⟩
 replace c5 := Bool.eq_false_iff.mpr c5
 subst c5
 have H1 : (some false) = some r := by rw [if_neg (show ¬ (false = true) by decide)] at H; exact H
 clear H
 have H := H1
 clear H1
 obtain rfl := Option.some.inj H
 go_enter Tryd.func14, Tryd.ntmps14
 go_wp2_with (first | ((with_reducible refine gate_dst (N := 3) rfl ?_); refine box_event ?hg (N := 3) ?hd (cs := #[.string a0_0, .int .i64 a0_1, .int .i64 a0_2, .slice A0_3 l0_3.length c0_3]) (t := 24) ?hr ?_; (case hd => rfl); (case hg => rfl); (case hr => (go_simp; done)); intro gb123 hg w28 hbox hb; have n0_ := Aside0.mk (below_step HB.out hb); have n1_ := Aside0.mk (hbox); clear HB; have HB := n0_; have BK123 := n1_; clear n0_ n1_; clear hb hbox hg) | ((with_reducible refine gate_dst (N := 4) rfl ?_); refine box_event ?hg (N := 4) ?hd (cs := #[.int .i64 a1_0, .string a1_1, .string a1_2, .int .i64 a1_3, .int .i64 a1_4, .slice A1_5 l1_5.length c1_5]) (t := 29) ?hr ?_; (case hd => rfl); (case hg => rfl); (case hr => (go_simp; done)); intro gb124 hg w29 hbox hb; have n0_ := Aside0.mk (blk_below (by exact BK123.out) hb); have n1_ := Aside0.mk (below_step HB.out hb); have n2_ := Aside0.mk (hbox); have n5_ := Aside0.mk ((by rw [hg]; exact Nat.ne_of_lt (blk_lt (by exact BK123.out)) : gb123 ≠ gb124)); have n6_ := Aside0.mk ((by rw [hg]; exact Nat.ne_of_gt (blk_lt (by exact BK123.out)) : gb124 ≠ gb123)); clear BK123; clear HB; have BK123 := n0_; have HB := n1_; have BK124 := n2_; have NB123_124 := n5_; have NB124_123 := n6_; clear n0_ n1_ n2_ n5_ n6_; clear hb hbox hg) | ((with_reducible refine gate_dst (N := 5) rfl ?_); refine box_event ?hg (N := 5) ?hd (cs := #[.int .i64 a2_0, .string a2_1, .string a2_2, .int .i64 a2_3, .int .i64 a2_4, .slice A2_5 l2_5.length c2_5]) (t := 29) ?hr ?_; (case hd => rfl); (case hg => rfl); (case hr => (go_simp; done)); intro gb125 hg w30 hbox hb; have n0_ := Aside0.mk (blk_below (by exact BK123.out) hb); have n1_ := Aside0.mk (blk_below (by exact BK124.out) hb); have n2_ := Aside0.mk (below_step HB.out hb); have n3_ := Aside0.mk (hbox); have n6_ := Aside0.mk ((by rw [hg]; exact Nat.ne_of_lt (blk_lt (by exact BK123.out)) : gb123 ≠ gb125)); have n7_ := Aside0.mk ((by rw [hg]; exact Nat.ne_of_gt (blk_lt (by exact BK123.out)) : gb125 ≠ gb123)); have n8_ := Aside0.mk ((by rw [hg]; exact Nat.ne_of_lt (blk_lt (by exact BK124.out)) : gb124 ≠ gb125)); have n9_ := Aside0.mk ((by rw [hg]; exact Nat.ne_of_gt (blk_lt (by exact BK124.out)) : gb125 ≠ gb124)); clear BK123; clear BK124; clear HB; have BK123 := n0_; have BK124 := n1_; have HB := n2_; have BK125 := n3_; have NB123_125 := n6_; have NB125_123 := n7_; have NB124_125 := n8_; have NB125_124 := n9_; clear n0_ n1_ n2_ n3_ n6_ n7_ n8_ n9_; clear hb hbox hg; have hnb31 := NB123_124.out; have hnc31 := NB124_123.out; have hnb32 := NB123_125.out; have hnc32 := NB125_123.out; have hcz33_0 := cel_ BK123.out 0 rfl; have hcz33_1 := cel_ BK123.out 1 rfl; have hcz33_2 := cel_ BK123.out 2 rfl; have hcz33_3 := cel_ BK123.out 3 rfl; have hfz33_0 := blk_frozen BK123.out 0; have hfz33_1 := blk_frozen BK123.out 1; have hfz33_2 := blk_frozen BK123.out 2; have hfz33_3 := blk_frozen BK123.out 3) | ((with_reducible refine gate_callee (f := 22) rfl ?_); refine goesL_ (some 8) rfl rfl Tryd.func22 (by kernel_rfl) rfl #[.agg #[.string a0_0, .int .i64 a0_1, .int .i64 a0_2, .slice A0_3 l0_3.length c0_3]] rfl (by (try simp only [List.map_toArray, List.map_cons, List.map_nil]); rfl) ?_; (with_reducible refine (cleanseref20_Valid.calls k a0_0 a0_1 a0_2 _ _ l0_3 false _ ?side1 ?side2 A4.out).mono ?_); (case side1 => repeat ((exact (Kd.C_below HR0_3.out HB.out)))); (case side2 => exact HC0_3.out); rintro e w34 ⟨rfl, hb⟩; refine ⟨_, rfl, ?_⟩; have n0_ := Aside0.mk (blk_below (by exact BK123.out) hb); have n1_ := Aside0.mk (blk_below (by exact BK124.out) hb); have n2_ := Aside0.mk (blk_below (by exact BK125.out) hb); have n3_ := Aside0.mk (below_step HB.out hb); clear BK123; clear BK124; clear BK125; clear HB; have BK123 := n0_; have BK124 := n1_; have BK125 := n2_; have HB := n3_; clear n0_ n1_ n2_ n3_; (try clear hb)))
 go_ret
 exact ⟨by rfl, by repeat ((with_reducible (exact HB.out)))⟩

/-! ### cleanseref20_Bools: function 12 -/
def cleanseref20_Bools.l0 : Nat → List Bool → List Bool → Int → Option (Bool)
 | 0, _, _, _ => none
 | k + 1, x0, x1, x5 => if x5 < (x0.length : Int) then (if 0 ≤ x5 then (if x5 < (x1.length : Int) then (if ((rdOf false x0 x5) != (rdOf false x1 x5)) = true then (some false) else (cleanseref20_Bools.l0 k x0 x1 (wrap64 (x5 + 1)))) else (none)) else (none)) else (some true)
def cleanseref20_Bools.f (k : Nat) (l0 : List Bool) (l1 : List Bool) : Option (Bool) := if (l0.length : Int) = (l1.length : Int) then (cleanseref20_Bools.l0 k l0 l1 0) else (some false)
set_option maxHeartbeats 8000000 in
set_option maxRecDepth 100000 in
theorem cleanseref20_Bools.calls (k : Nat) (A0 : Option Addr) (c0 : Nat) (l0 : List Bool) (A1 : Option Addr) (c1 : Nat) (l1 : List Bool) (r : Bool) (w : World) (hr0 : Kd.C Kd.bool w A0 l0.length l0) (hc0 : l0.length ≤ c0) (hr1 : Kd.C Kd.bool w A1 l1.length l1) (hc1 : l1.length ≤ c1) (h : cleanseref20_Bools.f k l0 l1 = some r) :
  Calls Tryd.prog 12 #[.slice A0 l0.length c0, .slice A1 l1.length c1] w fun e w' => e = .returned (.bool r) ∧ Drawn0 w w' := by
 have HR0 := Aside0.mk hr0
 have HC0 := Aside0.mk hc0
 clear hr0 hc0
 have HR1 := Aside0.mk hr1
 have HC1 := Aside0.mk hc1
 clear hr1 hc1
 have H : (if (l0.length : Int) = (l1.length : Int) then (cleanseref20_Bools.l0 k l0 l1 0) else (some false)) = some r := h
 clear h
 by_cases c3 : (l0.length : Int) = (l1.length : Int)
 ·rw [if_pos c3] at H
  have c3b0 : ((l0.length : Int) == (l1.length : Int)) = true := beq_iff_eq.mpr c3
  have c3b1 : ((l0.length : Int) != (l1.length : Int)) = false := bne_eq_false_iff_eq.mpr c3
  have c3b2 : (l0.length == l1.length) = true := by (simp at c3 ⊢; omega)
  clear c3
  have H' := Aside0.mk H
  clear H
  go_enter Tryd.func12, Tryd.ntmps12
  go_wp2
  go_loopg [5] k (fun kq v5 w' => ∃ (x5_1 : Int), v5 = .int .i64 x5_1 ∧ Aside0 (cleanseref20_Bools.l0 kq l0 l1 x5_1 = some r) ∧ Aside0 (kq ≤ k) ∧ Drawn0 w w')
  case atStart => exact ⟨(0), (by rfl), H', ⟨Nat.le_refl _⟩, by exact Drawn0.refl _⟩
  clear H'
  clear c3b0 c3b1 c3b2
  obtain ⟨x5_1, rfl, HA, HK1, ⟨m1, rfl⟩⟩ := hrel
  cases gk with
  | zero => exact absurd HA.out (by simp [cleanseref20_Bools.l0])
  | succ k1 =>
   have H := HA.out
   clear HA
   simp only [cleanseref20_Bools.l0] at H
   by_cases c4 : x5_1 < (l0.length : Int)
   ·rw [if_pos c4] at H
    have c4b0 : decide (x5_1 < (l0.length : Int)) = true := decide_eq_true c4
    clear c4
    by_cases c5 : 0 ≤ x5_1
    ·rw [if_pos c5] at H
     have c5b0 : decide (0 ≤ x5_1) = true := decide_eq_true c5
     clear c5
     by_cases c6 : x5_1 < (l1.length : Int)
     ·rw [if_pos c6] at H
      have c6b0 : decide (x5_1 < (l1.length : Int)) = true := decide_eq_true c6
      clear c6
      by_cases c7 : ((rdOf false l0 x5_1) != (rdOf false l1 x5_1)) = true
      ·rw [if_pos c7] at H
       have c7b0 : ((rdOf false l0 x5_1) != (rdOf false l1 x5_1)) = true := c7
       (try (have c7b1 : decide ((rdOf false l0 x5_1) = (rdOf false l1 x5_1)) = false := by simpa using c7))
       (try (have c7b2 : ((rdOf false l0 x5_1) == (rdOf false l1 x5_1)) = false := by simpa using c7))
       (try (have c7b3 : ¬ ((rdOf false l0 x5_1) = (rdOf false l1 x5_1)) := by simpa using c7))
       clear c7
       obtain rfl := Option.some.inj H
       have p127 : 0 ≤ (x5_1 : Int) := of_decide_eq_true (by (with_reducible assumption))
       have q127 : x5_1 < (l0.length : Int) := of_decide_eq_true (by (with_reducible assumption))
       obtain ⟨ad127, e127, hx127_0⟩ := Kd.at_bool HR0.out x5_1 p127 q127
       cases e127
       replace p127 := eq_true p127
       replace q127 := eq_true q127
       have p128 : 0 ≤ (x5_1 : Int) := of_decide_eq_true (by (with_reducible assumption))
       have q128 : x5_1 < (l1.length : Int) := of_decide_eq_true (by (with_reducible assumption))
       obtain ⟨ad128, e128, hx128_0⟩ := Kd.at_bool HR1.out x5_1 p128 q128
       cases e128
       replace p128 := eq_true p128
       replace q128 := eq_true q128
       go_wp2
       repeat (go_quiet (fail); try go_wp2)
       go_ret
       exact ⟨by rfl, by repeat (first | exact Drawn0.refl _ | apply Drawn0.step)⟩
      rw [if_neg c7] at H
      have c7b0 : ((rdOf false l0 x5_1) != (rdOf false l1 x5_1)) = false := by simpa using c7
      (try (have c7b1 : decide ((rdOf false l0 x5_1) = (rdOf false l1 x5_1)) = true := by simpa using c7))
      (try (have c7b2 : ((rdOf false l0 x5_1) == (rdOf false l1 x5_1)) = true := by simpa using c7))
      clear c7
      have H' := Aside0.mk H
      clear H
      have p127 : 0 ≤ (x5_1 : Int) := of_decide_eq_true (by (with_reducible assumption))
      have q127 : x5_1 < (l0.length : Int) := of_decide_eq_true (by (with_reducible assumption))
      obtain ⟨ad127, e127, hx127_0⟩ := Kd.at_bool HR0.out x5_1 p127 q127
      cases e127
      replace p127 := eq_true p127
      replace q127 := eq_true q127
      have p128 : 0 ≤ (x5_1 : Int) := of_decide_eq_true (by (with_reducible assumption))
      have q128 : x5_1 < (l1.length : Int) := of_decide_eq_true (by (with_reducible assumption))
      obtain ⟨ad128, e128, hx128_0⟩ := Kd.at_bool HR1.out x5_1 p128 q128
      cases e128
      replace p128 := eq_true p128
      replace q128 := eq_true q128
      go_wp2
      repeat (go_quiet (fail); try go_wp2)
      go_roundg k1
      case measure => have := HK1.out; omega
      case rel => exact ⟨(wrap64 (x5_1 + 1)), (by rfl), H', ⟨by have := HK1.out; omega⟩, by repeat (first | exact Drawn0.refl _ | apply Drawn0.step)⟩
     rw [if_neg c6] at H
     exact absurd H (by simp)
    rw [if_neg c5] at H
    exact absurd H (by simp)
   rw [if_neg c4] at H
   have c4b0 : decide (x5_1 < (l0.length : Int)) = false := decide_eq_false c4
   clear c4
   obtain rfl := Option.some.inj H
   go_wp2
   go_ret
   exact ⟨by rfl, by repeat (first | exact Drawn0.refl _ | apply Drawn0.step)⟩
 rw [if_neg c3] at H
 have c3b0 : ((l0.length : Int) == (l1.length : Int)) = false := beq_eq_false_iff_ne.mpr c3
 have c3b1 : ((l0.length : Int) != (l1.length : Int)) = true := bne_iff_ne.mpr c3
 have c3b2 : (l0.length == l1.length) = false := by (simp at c3 ⊢; omega)
 obtain rfl := Option.some.inj H
 go_enter Tryd.func12, Tryd.ntmps12
 go_wp2
 go_ret
 exact ⟨by rfl, by exact Drawn0.refl _⟩

end Go.Proofs.YtiffkknhnmpgbaaDoor.R
end

section
namespace Go.Proofs.YtiffkknhnmpgbaaDoor.R
open Go.RowKit Go.Proofs.YtiffkknhnmpgbaaDoor.Q Go.Proofs.YtiffkknhnmpgbaaDoorW.PrintWords Go.Proofs.YtiffkknhnmpgbaaDoorW.PrintLast Go.Proofs.YtiffkknhnmpgbaaDoorW.PrintMore
attribute [local go_sem] max2_int min2_int max_two min_two max_three min_three max_four min_four   -- for this text's walks alone
set_option linter.unusedVariables false
set_option linter.unusedSimpArgs false

/-! ### match_valid_1: function 48 -/
def match_valid_1.j0 : Nat → Bool → Int → Int → Int → Int → Int → Int → Int → Option (Bool)
 | 0, _, _, _, _, _, _, _, _ => none
 | k + 1, x3, x102000, x102001, x102002, x102003, x102004, x102005, x102006 => if x3 = true then ((match_between.f 1 x102001 5).bind fun t104 => (if t104 = true then ((match_between.f 0 x102002 1000000000).bind fun t105 => (if t105 = true then ((match_between.f 0 x102005 1000).bind fun t106 => (if t106 = true then ((match_between.f 0 x102006 1000).bind fun t107 => (some (!t107))) else (some true))) else (some true))) else (some true))) else (some true)
def match_valid_1.f (k : Nat) (a0_0 : Int) (a0_1 : Int) (a0_2 : Int) (a0_3 : Int) (a0_4 : Int) (a0_5 : Int) (a0_6 : Int) : Option (Bool) := (ratio_Valid.f k a0_3 a0_4).bind fun t102 => (if t102 = true then ((match_between.f 0 a0_3 a0_4).bind fun t103 => (match_valid_1.j0 k t103 a0_0 a0_1 a0_2 a0_3 a0_4 a0_5 a0_6)) else (match_valid_1.j0 k false a0_0 a0_1 a0_2 a0_3 a0_4 a0_5 a0_6))
set_option maxHeartbeats 8000000 in
set_option maxRecDepth 100000 in
theorem match_valid_1.calls (k : Nat) (a0_0 : Int) (a0_1 : Int) (a0_2 : Int) (a0_3 : Int) (a0_4 : Int) (a0_5 : Int) (a0_6 : Int) (r : Bool) (w : World) (h : match_valid_1.f k a0_0 a0_1 a0_2 a0_3 a0_4 a0_5 a0_6 = some r) :
  Calls Tryd.prog 48 #[.agg #[.int .i64 a0_0, .int .i64 a0_1, .int .i64 a0_2, .int .i64 a0_3, .int .i64 a0_4, .int .i64 a0_5, .int .i64 a0_6]] w fun e w' => e = .returned (.bool r) ∧ Below w.heap.size w w' := by
 have hu43 := Tryd.underlying43
 have hu41 := Tryd.underlying41
 have HB := Aside0.mk (Below.refl w.heap.size w)
 have H : ((ratio_Valid.f k a0_3 a0_4).bind fun t102 => (if t102 = true then ((match_between.f 0 a0_3 a0_4).bind fun t103 => (match_valid_1.j0 k t103 a0_0 a0_1 a0_2 a0_3 a0_4 a0_5 a0_6)) else (match_valid_1.j0 k false a0_0 a0_1 a0_2 a0_3 a0_4 a0_5 a0_6))) = some r := h
 clear h
 have HC2 := Aside0.mk H
 clear H
 go_enter Tryd.func48, Tryd.ntmps48
 go_upto_region 1 with (first | ((with_reducible refine gate_dst (N := 1) rfl ?_); refine box_event ?hg (N := 1) ?hd (cs := #[.int .i64 a0_0, .int .i64 a0_1, .int .i64 a0_2, .int .i64 a0_3, .int .i64 a0_4, .int .i64 a0_5, .int .i64 a0_6]) (t := 43) ?hr ?_; (case hd => rfl); (case hg => rfl); (case hr => (go_simp; done)); intro gb101 hg w3 hbox hb; have n0_ := Aside0.mk (below_step HB.out hb); have n1_ := Aside0.mk (hbox); clear HB; have HB := n0_; have BK101 := n1_; clear n0_ n1_; clear hb hbox hg))
 go_cut [3] (fun v3 wc => ∃ (kq : Nat) (x3_1 : Bool), v3 = .bool x3_1 ∧ Aside0 (match_valid_1.j0 kq x3_1 a0_0 a0_1 a0_2 a0_3 a0_4 a0_5 a0_6 = some r) ∧ Aside0 (kq ≤ k) ∧ Aside0 (wc.heap[gb101]? = some (.cells #[.int .i64 a0_0, .int .i64 a0_1, .int .i64 a0_2, .int .i64 a0_3, .int .i64 a0_4, .int .i64 a0_5, .int .i64 a0_6] 43 (0, 0))) ∧ Aside0 (Below w.heap.size w wc))
 case first =>
  have H := HC2.out
  clear HC2
  replace H := Option.bind_eq_some_iff.mp H
  obtain ⟨t102, A40, H⟩ := H
  replace H : (if t102 = true then ((match_between.f 0 a0_3 a0_4).bind fun t103 => (match_valid_1.j0 k t103 a0_0 a0_1 a0_2 a0_3 a0_4 a0_5 a0_6)) else (match_valid_1.j0 k false a0_0 a0_1 a0_2 a0_3 a0_4 a0_5 a0_6)) = some r := H
  have A4 := Aside0.mk A40
  clear A40
  by_cases c5 : t102 = true
  ·subst c5
   have H1 : ((match_between.f 0 a0_3 a0_4).bind fun t103 => (match_valid_1.j0 k t103 a0_0 a0_1 a0_2 a0_3 a0_4 a0_5 a0_6)) = some r := by rw [if_pos rfl] at H; exact H
   clear H
   have H := H1
   clear H1
   replace H := Option.bind_eq_some_iff.mp H
   obtain ⟨t103, A60, H⟩ := H
   replace H : (match_valid_1.j0 k t103 a0_0 a0_1 a0_2 a0_3 a0_4 a0_5 a0_6) = some r := H
   have A6 := Aside0.mk A60
   clear A60
   have H' := Aside0.mk H
   clear H
   have hcz7_0 := cel_ BK101.out 0 rfl
   have hcz7_1 := cel_ BK101.out 1 rfl
   have hcz7_2 := cel_ BK101.out 2 rfl
   have hcz7_3 := cel_ BK101.out 3 rfl
   have hcz7_4 := cel_ BK101.out 4 rfl
   have hcz7_5 := cel_ BK101.out 5 rfl
   have hcz7_6 := cel_ BK101.out 6 rfl
   have hfz7_0 := blk_frozen BK101.out 0
   have hfz7_1 := blk_frozen BK101.out 1
   have hfz7_2 := blk_frozen BK101.out 2
   have hfz7_3 := blk_frozen BK101.out 3
   have hfz7_4 := blk_frozen BK101.out 4
   have hfz7_5 := blk_frozen BK101.out 5
   have hfz7_6 := blk_frozen BK101.out 6
   go_wp2_with (first | ((with_reducible refine gate_callee (f := 49) rfl ?_); refine goesL_ (some 6) rfl rfl Tryd.func49 (by kernel_rfl) rfl #[.agg #[.int .i64 a0_3, .int .i64 a0_4]] rfl (by (try simp only [List.map_toArray, List.map_cons, List.map_nil]); rfl) ?_; (with_reducible refine (ratio_Valid.calls k a0_3 a0_4 true _ A4.out).mono ?_); rintro e w8 ⟨rfl, hb⟩; refine ⟨_, rfl, ?_⟩; have n0_ := Aside0.mk (blk_below (by exact BK101.out) hb); have n1_ := Aside0.mk (below_step HB.out hb); clear BK101; clear HB; have BK101 := n0_; have HB := n1_; clear n0_ n1_; (try clear hb); have hcz9_0 := cel_ BK101.out 0 rfl; have hcz9_1 := cel_ BK101.out 1 rfl; have hcz9_2 := cel_ BK101.out 2 rfl; have hcz9_3 := cel_ BK101.out 3 rfl; have hcz9_4 := cel_ BK101.out 4 rfl; have hcz9_5 := cel_ BK101.out 5 rfl; have hcz9_6 := cel_ BK101.out 6 rfl; have hfz9_0 := blk_frozen BK101.out 0; have hfz9_1 := blk_frozen BK101.out 1; have hfz9_2 := blk_frozen BK101.out 2; have hfz9_3 := blk_frozen BK101.out 3; have hfz9_4 := blk_frozen BK101.out 4; have hfz9_5 := blk_frozen BK101.out 5; have hfz9_6 := blk_frozen BK101.out 6) | (go_at_call 26; (with_reducible refine (match_between.calls 0 a0_3 a0_4 t103 _ A6.out).mono ?_); rintro e w' ⟨rfl, ⟨nd, rfl⟩⟩))
   go_meet
   case rel => exact ⟨_, (t103), (by rfl), H', ⟨by omega⟩, ⟨by (with_reducible repeat ((refine blk_drewN ?_ _))); exact BK101.out⟩, ⟨by repeat ((with_reducible first | exact HB.out | apply pw_below_drewN))⟩⟩
  replace c5 := Bool.eq_false_iff.mpr c5
  subst c5
  have H1 : (match_valid_1.j0 k false a0_0 a0_1 a0_2 a0_3 a0_4 a0_5 a0_6) = some r := by rw [if_neg (show ¬ (false = true) by decide)] at H; exact H
  clear H
  have H := H1
  clear H1
  have H' := Aside0.mk H
  clear H
  have hcz10_0 := cel_ BK101.out 0 rfl
  have hcz10_1 := cel_ BK101.out 1 rfl
  have hcz10_2 := cel_ BK101.out 2 rfl
  have hcz10_3 := cel_ BK101.out 3 rfl
  have hcz10_4 := cel_ BK101.out 4 rfl
  have hcz10_5 := cel_ BK101.out 5 rfl
  have hcz10_6 := cel_ BK101.out 6 rfl
  have hfz10_0 := blk_frozen BK101.out 0
  have hfz10_1 := blk_frozen BK101.out 1
  have hfz10_2 := blk_frozen BK101.out 2
  have hfz10_3 := blk_frozen BK101.out 3
  have hfz10_4 := blk_frozen BK101.out 4
  have hfz10_5 := blk_frozen BK101.out 5
  have hfz10_6 := blk_frozen BK101.out 6
  go_wp2_with (first | ((with_reducible refine gate_callee (f := 49) rfl ?_); refine goesL_ (some 6) rfl rfl Tryd.func49 (by kernel_rfl) rfl #[.agg #[.int .i64 a0_3, .int .i64 a0_4]] rfl (by (try simp only [List.map_toArray, List.map_cons, List.map_nil]); rfl) ?_; (with_reducible refine (ratio_Valid.calls k a0_3 a0_4 false _ A4.out).mono ?_); rintro e w11 ⟨rfl, hb⟩; refine ⟨_, rfl, ?_⟩; have n0_ := Aside0.mk (blk_below (by exact BK101.out) hb); have n1_ := Aside0.mk (below_step HB.out hb); clear BK101; clear HB; have BK101 := n0_; have HB := n1_; clear n0_ n1_; (try clear hb)))
  go_meet
  case rel => exact ⟨_, (false), (by rfl), H', ⟨by omega⟩, ⟨by exact BK101.out⟩, ⟨by repeat ((with_reducible (exact HB.out)))⟩⟩
 clear HC2
 obtain ⟨kq, x3_1, rfl, HA, HJ1, BK101, HB⟩ := hcut
 cases kq with
 | zero => exact absurd HA.out (by simp [match_valid_1.j0])
 | succ kj1 =>
  have H := HA.out
  clear HA
  simp only [match_valid_1.j0] at H
  by_cases c12 : x3_1 = true
  ·subst c12
   have H1 : ((match_between.f 1 a0_1 5).bind fun t104 => (if t104 = true then ((match_between.f 0 a0_2 1000000000).bind fun t105 => (if t105 = true then ((match_between.f 0 a0_5 1000).bind fun t106 => (if t106 = true then ((match_between.f 0 a0_6 1000).bind fun t107 => (some (!t107))) else (some true))) else (some true))) else (some true))) = some r := by rw [if_pos rfl] at H; exact H
   clear H
   have H := H1
   clear H1
   replace H := Option.bind_eq_some_iff.mp H
   obtain ⟨t104, A130, H⟩ := H
   replace H : (if t104 = true then ((match_between.f 0 a0_2 1000000000).bind fun t105 => (if t105 = true then ((match_between.f 0 a0_5 1000).bind fun t106 => (if t106 = true then ((match_between.f 0 a0_6 1000).bind fun t107 => (some (!t107))) else (some true))) else (some true))) else (some true)) = some r := H
   have A13 := Aside0.mk A130
   clear A130
   by_cases c14 : t104 = true
   ·subst c14
    have H1 : ((match_between.f 0 a0_2 1000000000).bind fun t105 => (if t105 = true then ((match_between.f 0 a0_5 1000).bind fun t106 => (if t106 = true then ((match_between.f 0 a0_6 1000).bind fun t107 => (some (!t107))) else (some true))) else (some true))) = some r := by rw [if_pos rfl] at H; exact H
    clear H
    have H := H1
    clear H1
    replace H := Option.bind_eq_some_iff.mp H
    obtain ⟨t105, A150, H⟩ := H
    replace H : (if t105 = true then ((match_between.f 0 a0_5 1000).bind fun t106 => (if t106 = true then ((match_between.f 0 a0_6 1000).bind fun t107 => (some (!t107))) else (some true))) else (some true)) = some r := H
    have A15 := Aside0.mk A150
    clear A150
    by_cases c16 : t105 = true
    ·subst c16
     have H1 : ((match_between.f 0 a0_5 1000).bind fun t106 => (if t106 = true then ((match_between.f 0 a0_6 1000).bind fun t107 => (some (!t107))) else (some true))) = some r := by rw [if_pos rfl] at H; exact H
     clear H
     have H := H1
     clear H1
     replace H := Option.bind_eq_some_iff.mp H
     obtain ⟨t106, A170, H⟩ := H
     replace H : (if t106 = true then ((match_between.f 0 a0_6 1000).bind fun t107 => (some (!t107))) else (some true)) = some r := H
     have A17 := Aside0.mk A170
     clear A170
     by_cases c18 : t106 = true
     ·subst c18
      have H1 : ((match_between.f 0 a0_6 1000).bind fun t107 => (some (!t107))) = some r := by rw [if_pos rfl] at H; exact H
      clear H
      have H := H1
      clear H1
      replace H := Option.bind_eq_some_iff.mp H
      obtain ⟨t107, A190, H⟩ := H
      replace H : (some (!t107)) = some r := H
      have A19 := Aside0.mk A190
      clear A190
      obtain rfl := Option.some.inj H
      have hcz20_0 := cel_ BK101.out 0 rfl
      have hcz20_1 := cel_ BK101.out 1 rfl
      have hcz20_2 := cel_ BK101.out 2 rfl
      have hcz20_3 := cel_ BK101.out 3 rfl
      have hcz20_4 := cel_ BK101.out 4 rfl
      have hcz20_5 := cel_ BK101.out 5 rfl
      have hcz20_6 := cel_ BK101.out 6 rfl
      have hfz20_0 := blk_frozen BK101.out 0
      have hfz20_1 := blk_frozen BK101.out 1
      have hfz20_2 := blk_frozen BK101.out 2
      have hfz20_3 := blk_frozen BK101.out 3
      have hfz20_4 := blk_frozen BK101.out 4
      have hfz20_5 := blk_frozen BK101.out 5
      have hfz20_6 := blk_frozen BK101.out 6
      go_wp2_with (first | (go_at_call 26; (with_reducible refine (match_between.calls 1 a0_1 5 true _ A13.out).mono ?_); rintro e w' ⟨rfl, ⟨nd, rfl⟩⟩) | (go_at_call 26; (with_reducible refine (match_between.calls 0 a0_2 1000000000 true _ A15.out).mono ?_); rintro e w' ⟨rfl, ⟨nd, rfl⟩⟩) | (go_at_call 26; (with_reducible refine (match_between.calls 0 a0_5 1000 true _ A17.out).mono ?_); rintro e w' ⟨rfl, ⟨nd, rfl⟩⟩) | (go_at_call 26; (with_reducible refine (match_between.calls 0 a0_6 1000 t107 _ A19.out).mono ?_); rintro e w' ⟨rfl, ⟨nd, rfl⟩⟩))
      go_ret
      exact ⟨by rfl, by repeat ((with_reducible first | exact HB.out | apply pw_below_drewN))⟩
     replace c18 := Bool.eq_false_iff.mpr c18
     subst c18
     have H1 : (some true) = some r := by rw [if_neg (show ¬ (false = true) by decide)] at H; exact H
     clear H
     have H := H1
     clear H1
     obtain rfl := Option.some.inj H
     have hcz21_0 := cel_ BK101.out 0 rfl
     have hcz21_1 := cel_ BK101.out 1 rfl
     have hcz21_2 := cel_ BK101.out 2 rfl
     have hcz21_3 := cel_ BK101.out 3 rfl
     have hcz21_4 := cel_ BK101.out 4 rfl
     have hcz21_5 := cel_ BK101.out 5 rfl
     have hcz21_6 := cel_ BK101.out 6 rfl
     have hfz21_0 := blk_frozen BK101.out 0
     have hfz21_1 := blk_frozen BK101.out 1
     have hfz21_2 := blk_frozen BK101.out 2
     have hfz21_3 := blk_frozen BK101.out 3
     have hfz21_4 := blk_frozen BK101.out 4
     have hfz21_5 := blk_frozen BK101.out 5
     have hfz21_6 := blk_frozen BK101.out 6
     go_wp2_with (first | (go_at_call 26; (with_reducible refine (match_between.calls 1 a0_1 5 true _ A13.out).mono ?_); rintro e w' ⟨rfl, ⟨nd, rfl⟩⟩) | (go_at_call 26; (with_reducible refine (match_between.calls 0 a0_2 1000000000 true _ A15.out).mono ?_); rintro e w' ⟨rfl, ⟨nd, rfl⟩⟩) | (go_at_call 26; (with_reducible refine (match_between.calls 0 a0_5 1000 false _ A17.out).mono ?_); rintro e w' ⟨rfl, ⟨nd, rfl⟩⟩))
     go_ret
     exact ⟨by rfl, by repeat ((with_reducible first | exact HB.out | apply pw_below_drewN))⟩
    replace c16 := Bool.eq_false_iff.mpr c16
    subst c16
    have H1 : (some true) = some r := by rw [if_neg (show ¬ (false = true) by decide)] at H; exact H
    clear H
    have H := H1
    clear H1
    obtain rfl := Option.some.inj H
    have hcz22_0 := cel_ BK101.out 0 rfl
    have hcz22_1 := cel_ BK101.out 1 rfl
    have hcz22_2 := cel_ BK101.out 2 rfl
    have hcz22_3 := cel_ BK101.out 3 rfl
    have hcz22_4 := cel_ BK101.out 4 rfl
    have hcz22_5 := cel_ BK101.out 5 rfl
    have hcz22_6 := cel_ BK101.out 6 rfl
    have hfz22_0 := blk_frozen BK101.out 0
    have hfz22_1 := blk_frozen BK101.out 1
    have hfz22_2 := blk_frozen BK101.out 2
    have hfz22_3 := blk_frozen BK101.out 3
    have hfz22_4 := blk_frozen BK101.out 4
    have hfz22_5 := blk_frozen BK101.out 5
    have hfz22_6 := blk_frozen BK101.out 6
    go_wp2_with (first | (go_at_call 26; (with_reducible refine (match_between.calls 1 a0_1 5 true _ A13.out).mono ?_); rintro e w' ⟨rfl, ⟨nd, rfl⟩⟩) | (go_at_call 26; (with_reducible refine (match_between.calls 0 a0_2 1000000000 false _ A15.out).mono ?_); rintro e w' ⟨rfl, ⟨nd, rfl⟩⟩))
    go_ret
    exact ⟨by rfl, by repeat ((with_reducible first | exact HB.out | apply pw_below_drewN))⟩
   replace c14 := Bool.eq_false_iff.mpr c14
   subst c14
   have H1 : (some true) = some r := by rw [if_neg (show ¬ (false = true) by decide)] at H; exact H
   clear H
   have H := H1
   clear H1
   obtain rfl := Option.some.inj H
   have hcz23_0 := cel_ BK101.out 0 rfl
   have hcz23_1 := cel_ BK101.out 1 rfl
   have hcz23_2 := cel_ BK101.out 2 rfl
   have hcz23_3 := cel_ BK101.out 3 rfl
   have hcz23_4 := cel_ BK101.out 4 rfl
   have hcz23_5 := cel_ BK101.out 5 rfl
   have hcz23_6 := cel_ BK101.out 6 rfl
   have hfz23_0 := blk_frozen BK101.out 0
   have hfz23_1 := blk_frozen BK101.out 1
   have hfz23_2 := blk_frozen BK101.out 2
   have hfz23_3 := blk_frozen BK101.out 3
   have hfz23_4 := blk_frozen BK101.out 4
   have hfz23_5 := blk_frozen BK101.out 5
   have hfz23_6 := blk_frozen BK101.out 6
   go_wp2_with (first | (go_at_call 26; (with_reducible refine (match_between.calls 1 a0_1 5 false _ A13.out).mono ?_); rintro e w' ⟨rfl, ⟨nd, rfl⟩⟩))
   go_ret
   exact ⟨by rfl, by repeat ((with_reducible first | exact HB.out | apply pw_below_drewN))⟩
  replace c12 := Bool.eq_false_iff.mpr c12
  subst c12
  have H1 : (some true) = some r := by rw [if_neg (show ¬ (false = true) by decide)] at H; exact H
  clear H
  have H := H1
  clear H1
  obtain rfl := Option.some.inj H
  go_wp2
  go_ret
  exact ⟨by rfl, by repeat ((with_reducible (exact HB.out)))⟩

end Go.Proofs.YtiffkknhnmpgbaaDoor.R
end
