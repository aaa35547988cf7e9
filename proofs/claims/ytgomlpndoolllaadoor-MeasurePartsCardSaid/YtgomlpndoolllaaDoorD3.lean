/- measure.Of: for every measure, tolerance and two values: what it answers, by the printed contracts of value.Valid, measure.Near and the three functions of texts. -/
import Derived.Test.YtgomlpndoolllaaDoorD1
import Derived.Test.YtgomlpndoolllaaDoorCL1
import Derived.Test.YtgomlpndoolllaaDoorQ1
import Derived.Test.YtgomlpndoolllaaDoorQ8
import Derived.Test.YtgomlpndoolllaaDoorQ9
/- measure.texts: the three functions by the number of the measure; what a look-up in them gives. -/
namespace Go.Proofs.YtgomlpndoolllaaDoor
open Go Go.RowKit Go.Shelf Go.Maps Go.Sort Go.Proofs.YtgomlpndoolllaaDoorW.PrintWords Go.Proofs.YtgomlpndoolllaaDoorW.PrintLast
attribute [local go_sem] Oper.semAt_some
set_option linter.unusedVariables false
set_option linter.unusedSimpArgs false

/-- The function for a measure; nil for any other number. -/
def ofF (m : Int) : Value := if m = 2 then .func (.func 50) #[] #[] else if m = 3 then .func (.func 52) #[] #[] else if m = 4 then .func (.func 54) #[] #[] else .nilFunc
abbrev anyElem : Value → Option (DataW Value × List MemPlace) := fun v => some (.held v, [])
theorem Klaw3 : Keyed Tryd.prog 3 := int_keyed Tryd.underlying3
section
variable {ops : Array Oper} {rest : List Oper} {o : Oper} {a : Act} {Q : Exit → Act → World → Prop} {w : World}
theorem map_insert (hg : o.guard = none) (hd : o.dst = none) (m x v : Operand) (t : TypeId) (hop : o.op = Op.insert t m x v) {e : TypeId} (ht : Tryd.prog.underlying t = some (.map 3 e)) {b n : Nat} {D : DataW Value} (hn : n ≤ 1000000)
    (hm : a.eval m = .map (some b)) (hown : w.ownsMap Tryd.prog 3 anyElem b n D) (i : Int) (hi : (Lit.int .i64 i).wf = true) (hx : a.eval x = .int .i64 i) (val : Value) (hv : a.eval v = val)
    (hK : ∀ w', w'.ownsMap Tryd.prog 3 anyElem b (n + 1) (D.put (.int .i64 i) (.held val)) → w.grownBy w' (some b) → wpList Tryd.prog ops Q rest a w') : wpList Tryd.prog ops Q (o :: rest) a w := by
  refine wpList_plain hg fun K' hK' => ?_
  obtain ⟨w', hrun, r1, r2⟩ := hown.update Klaw3 ht (by unfold maxLen; omega) (keyOf_int_mk Tryd.underlying3 hi) (val := val) (d := .held val) (ps := []) rfl
  unfold Oper.wp
  simp [execOp, hop, hm, hx, hv, hrun, Result.andThen]
  show K' (a.put o.dst undef) w'
  rw [hd]
  exact hK' _ _ (hK w' r1 r2)
end
def textsD : DataW Value := (((DataW.map []).put (.int .i64 2) (.held (ofF 2))).put (.int .i64 3) (.held (ofF 3))).put (.int .i64 4) (.held (ofF 4))
theorem put_isMap {D : DataW Value} (h : IsMap D) (k : Lit) (d : DataW Value) : IsMap (D.put k d) := by obtain ⟨es, rfl⟩ := h; exact ⟨_, rfl⟩
theorem int_ne {x y : Int} (h : x ≠ y) : (Lit.int .i64 x) ≠ Lit.int .i64 y := fun e => h (by injection e)
theorem texts_at (m : Int) : textsD.atKey (.int .i64 m) (.held .nilFunc) = .held (ofF m) := by
  have k2 : WideAt.IsKeyLit (Lit.int .i64 2) := trivial
  have k3 : WideAt.IsKeyLit (Lit.int .i64 3) := trivial
  have k4 : WideAt.IsKeyLit (Lit.int .i64 4) := trivial
  have m0 : IsMap (DataW.map [] : DataW Value) := ⟨[], rfl⟩
  unfold textsD
  by_cases h4 : m = 4
  · subst h4
    rw [atKey_put_same (put_isMap (put_isMap m0 _ _) _ _) k4]
  · rw [atKey_put_other (int_ne h4)]
    by_cases h3 : m = 3
    · subst h3
      rw [atKey_put_same (put_isMap m0 _ _) k3]
    · rw [atKey_put_other (int_ne h3)]
      by_cases h2 : m = 2
      · subst h2
        rw [atKey_put_same m0 k2]
      · rw [atKey_put_other (int_ne h2)]
        unfold ofF
        rw [if_neg h2, if_neg h3, if_neg h4]
        rfl
set_option maxRecDepth 100000 in
theorem texts_calls (w : World) : Calls Tryd.prog 38 #[] w fun e w' => ∃ b, e = .returned (.map (some b)) ∧ Below w.heap.size w w' ∧
    ∀ m : Int, (Lit.int .i64 m).wf = true → (Instr.lookup 59 (.map (some b)) (.int .i64 m) false).run Tryd.prog w' = .ok (ofF m) w' := by
  have hmm := @run_makeMap Tryd.prog
  go_enter Tryd.func38, Tryd.ntmps38
  go_wp2_with (first
    | ((with_reducible refine gate_op (op := .insert 59 (.tmp 1) (.const (.int .i64 2)) (.func 50)) rfl ?_); refine map_insert rfl rfl _ _ _ _ rfl Tryd.underlying59 (n := 0) (by omega) rfl (World.ownsMap_made _ _ _ _) 2 (by decide) rfl _ rfl ?_; intro w1 h1 g1)
    | ((with_reducible refine gate_op (op := .insert 59 (.tmp 1) (.const (.int .i64 3)) (.func 52)) rfl ?_); refine map_insert rfl rfl _ _ _ _ rfl Tryd.underlying59 (n := 1) (by omega) rfl h1 3 (by decide) rfl _ rfl ?_; intro w2 h2 g2)
    | ((with_reducible refine gate_op (op := .insert 59 (.tmp 1) (.const (.int .i64 4)) (.func 54)) rfl ?_); refine map_insert rfl rfl _ _ _ _ rfl Tryd.underlying59 (n := 2) (by omega) rfl h2 4 (by decide) rfl _ rfl ?_; intro w3 h3 g3))
  go_ret
  have hb : Below w.heap.size w (w.alloc (.map #[] 0)) := (Below.refl _ w).alloc (Nat.le_refl _) _
  have hb1 := hb.grown g1 hb.size (fun j e => by cases e; exact Nat.le_refl _)
  have hb2 := hb1.grown g2 hb1.size (fun j e => by cases e; exact Nat.le_refl _)
  have hb3 := hb2.grown g3 hb2.size (fun j e => by cases e; exact Nat.le_refl _)
  refine ⟨_, rfl, hb3, fun m hm => ?_⟩
  obtain ⟨v, ps, hrun, hv⟩ := h3.lookup (z := .nilFunc) (zd := .held .nilFunc) (zp := []) Klaw3 Tryd.underlying59 (by kernel_rfl) rfl (keyOf_int_mk Tryd.underlying3 hm)
  have h := texts_at m
  unfold textsD at h
  have e2 : ofF 2 = .func (.func 50) #[] #[] := rfl
  have e3 : ofF 3 = .func (.func 52) #[] #[] := rfl
  have e4 : ofF 4 = .func (.func 54) #[] #[] := rfl
  rw [e2, e3, e4] at h
  injection hv with hv
  injection hv with hv _
  have hv2 := hv.trans h
  injection hv2 with hv2
  rw [hv2] at hrun
  exact hrun
end Go.Proofs.YtgomlpndoolllaaDoor

namespace Go.Proofs.YtgomlpndoolllaaDoor
open Go Go.RowKit Go.Shelf Go.Proofs.YtgomlpndoolllaaDoorW.PrintWords Go.Proofs.YtgomlpndoolllaaDoorW.PrintLast
attribute [local go_sem] Oper.semAt_some
set_option linter.unusedVariables false
set_option linter.unusedSimpArgs false

def ofTail (k : Nat) (m tol a0 a1 : Int) (a2 : ByteArray) (b0 b1 : Int) (b2 : ByteArray) : Option (Int × Int × Int) :=
  if m = 5 ∧ (tol < 0 ∨ 1000000000 ≤ tol) then some (0, 0, 1)
  else if a0 = 0 ∨ b0 = 0 then some (0, 1, 0)
  else if m = 1 then (if a0 = b0 ∧ a1 = b1 ∧ a2.toList = b2.toList then some (1, 1, 0) else some (0, 1, 0))
  else if a0 ≠ b0 ∨ (m = 5 ∧ a0 ≠ 2 ∧ a0 ≠ 3) ∨ (m ≠ 5 ∧ a0 ≠ 1) then some (0, 0, 10)
  else if m = 5 then (Q.measure_Near.f k a1 b1 tol).bind fun r => some (r.1, r.2, 0)
  else if m = 2 then (CL.measure_texts_1.f k a2 b2).bind fun r => some (r.1, r.2, 0)
  else if m = 3 then (CL.measure_texts_2.f k a2 b2).bind fun r => some (r.1, r.2, 0)
  else (CL.measure_texts_3.f k a2 b2).bind fun r => some (r.1, r.2, 0)
def measure_Of.f (k : Nat) (m tol a0 a1 : Int) (a2 : ByteArray) (b0 b1 : Int) (b2 : ByteArray) : Option (Int × Int × Int) :=
  if (Lit.int .i64 m).wf = true then (if m < 1 ∨ 5 < m then some (0, 0, 1) else
    (Q.value_Valid.f k a0 a1 a2).bind fun va => if va = true then ((Q.value_Valid.f k b0 b1 b2).bind fun vb => if vb = true then ofTail k m tol a0 a1 a2 b0 b1 b2 else some (0, 0, 1)) else some (0, 0, 1)) else none
theorem ofTail_mono (m tol a0 a1 : Int) (a2 : ByteArray) (b0 b1 : Int) (b2 : ByteArray) (k : Nat) : LeO (ofTail k m tol a0 a1 a2 b0 b1 b2) (ofTail (k + 1) m tol a0 a1 a2 b0 b1 b2) := by
  unfold ofTail
  repeat' first
    | exact LeO.refl _
    | refine LeO.ite ?_ ?_
    | exact LeO.bind (Q.measure_Near.mono _ _ _ k) (fun _ => LeO.refl _)
    | exact LeO.bind (CL.measure_texts_1.mono _ _ k) (fun _ => LeO.refl _)
    | exact LeO.bind (CL.measure_texts_2.mono _ _ k) (fun _ => LeO.refl _)
    | exact LeO.bind (CL.measure_texts_3.mono _ _ k) (fun _ => LeO.refl _)
theorem measure_Of.mono (m tol a0 a1 : Int) (a2 : ByteArray) (b0 b1 : Int) (b2 : ByteArray) (k : Nat) : LeO (measure_Of.f k m tol a0 a1 a2 b0 b1 b2) (measure_Of.f (k + 1) m tol a0 a1 a2 b0 b1 b2) := by
  unfold measure_Of.f
  refine LeO.ite (LeO.ite (LeO.refl _) (LeO.bind (Q.value_Valid.mono _ _ _ k) fun va => LeO.ite (LeO.bind (Q.value_Valid.mono _ _ _ k) fun vb => LeO.ite (ofTail_mono _ _ _ _ _ _ _ _ k) (LeO.refl _)) (LeO.refl _))) (LeO.refl _)

theorem eqF_nn (d : Nat) (w : World) : (Op.equalIn (d + 1) 33 .nilFunc .nilFunc).run Tryd.prog w = .ok true w := by
  have hu := Tryd.underlying33
  unfold Op.equalIn
  go_simp
theorem eqF_fn (d : Nat) (f : FuncId) (w : World) : (Op.equalIn (d + 1) 33 (.func (.func f) #[] #[]) .nilFunc).run Tryd.prog w = .ok false w := by
  have hu := Tryd.underlying33
  unfold Op.equalIn
  go_simp
theorem eq_nil_nil (w : World) : (binOp .eql 33 .nilFunc .nilFunc).run Tryd.prog w = .ok (.bool true) w := by
  have h := eqF_nn 9999 w
  simp only [binOp, Op.equal, Op.maxDepth, Sem.run_bind]
  rw [h]
  rfl
theorem eq_func_nil (f : FuncId) (w : World) : (binOp .eql 33 (.func (.func f) #[] #[]) .nilFunc).run Tryd.prog w = .ok (.bool false) w := by
  have h := eqF_fn 9999 f w
  simp only [binOp, Op.equal, Op.maxDepth, Sem.run_bind]
  rw [h]
  rfl
theorem eq_val (x0 x1 : Int) (x2 : ByteArray) (y0 y1 : Int) (y2 : ByteArray) (w : World) : (binOp .eql 26 (.agg #[.int .i64 x0, .int .i64 x1, .string x2]) (.agg #[.int .i64 y0, .int .i64 y1, .string y2])).run Tryd.prog w = .ok (.bool (x0 == y0 && (x1 == y1 && (x2.toList == y2.toList)))) w := by
  have h := Q.eqA26 9998 w x0 y0 x1 y1 x2 y2
  simp only [binOp, Op.equal, Op.maxDepth, Sem.run_bind]
  rw [h]
  rfl
section
variable (a0 a1 : Int) (a2 : ByteArray) (b0 b1 : Int) (b2 : ByteArray) (w : World)
/-- What the walk keeps: the two values and the result in their blocks, the package's variables. -/
def OfS (W : World) : Prop := W.heap[w.heap.size]? = some (.cells #[.int .i64 a0, .int .i64 a1, .string a2] 26 (0, 0)) ∧ W.heap[w.heap.size + 1]? = some (.cells #[.int .i64 b0, .int .i64 b1, .string b2] 26 (0, 0)) ∧
  W.heap[w.heap.size + 1 + 1]? = some (.cells #[.int .i64 0, .int .i64 0] 32 (0, 0)) ∧ Below w.heap.size w W ∧ Gl W
variable {a0 a1 a2 b0 b1 b2 w}
theorem OfS.below {W W' : World} (h : OfS a0 a1 a2 b0 b1 b2 w W) (hb : Below W.heap.size W W') : OfS a0 a1 a2 b0 b1 b2 w W' :=
  ⟨blk_below h.1 hb, blk_below h.2.1 hb, blk_below h.2.2.1 hb, h.2.2.2.1.trans (hb.mono h.2.2.2.1.size), h.2.2.2.2.below hb⟩
theorem OfS.gl {W : World} (h : OfS a0 a1 a2 b0 b1 b2 w W) : Gl W := h.2.2.2.2
theorem OfS.start (hG : Gl w) : OfS a0 a1 a2 b0 b1 b2 w (((w.alloc (.cells #[.int .i64 a0, .int .i64 a1, .string a2] 26)).alloc (.cells #[.int .i64 b0, .int .i64 b1, .string b2] 26)).alloc (.cells #[.int .i64 0, .int .i64 0] 32)) := by
  have hb : Below w.heap.size w (((w.alloc (.cells #[.int .i64 a0, .int .i64 a1, .string a2] 26)).alloc (.cells #[.int .i64 b0, .int .i64 b1, .string b2] 26)).alloc (.cells #[.int .i64 0, .int .i64 0] 32)) :=
    (((Below.refl _ w).alloc (Nat.le_refl _) _).alloc (by simp) _).alloc (by simp; omega) _
  refine ⟨blk_alloc (blk_alloc (blk_new w _) _) _, blk_alloc ?_ _, ?_, hb, hG.below hb⟩
  · have := blk_new (w.alloc (.cells #[.int .i64 a0, .int .i64 a1, .string a2] 26)) (.cells #[.int .i64 b0, .int .i64 b1, .string b2] 26)
    rwa [World.size_alloc] at this
  · have := blk_new ((w.alloc (.cells #[.int .i64 a0, .int .i64 a1, .string a2] 26)).alloc (.cells #[.int .i64 b0, .int .i64 b1, .string b2] 26)) (.cells #[.int .i64 0, .int .i64 0] 32)
    rwa [World.size_alloc, World.size_alloc] at this
theorem OfS.cells {W : World} (h : OfS a0 a1 a2 b0 b1 b2 w W) :
    W.cell? ⟨w.heap.size, 0, none⟩ = some (.int .i64 a0) ∧ W.cell? ⟨w.heap.size, 1, none⟩ = some (.int .i64 a1) ∧ W.cell? ⟨w.heap.size, 2, none⟩ = some (.string a2) ∧
    W.cell? ⟨w.heap.size + 1, 0, none⟩ = some (.int .i64 b0) ∧ W.cell? ⟨w.heap.size + 1, 1, none⟩ = some (.int .i64 b1) ∧ W.cell? ⟨w.heap.size + 1, 2, none⟩ = some (.string b2) ∧
    W.cell? ⟨w.heap.size + 1 + 1, 0, none⟩ = some (.int .i64 0) ∧ W.cell? ⟨w.heap.size + 1 + 1, 1, none⟩ = some (.int .i64 0) ∧ W.frozen? ⟨w.heap.size + 1 + 1, 0, none⟩ = false ∧ W.frozen? ⟨w.heap.size + 1 + 1, 1, none⟩ = false :=
  ⟨(blk_cell h.1 0).trans rfl, (blk_cell h.1 1).trans rfl, (blk_cell h.1 2).trans rfl, (blk_cell h.2.1 0).trans rfl, (blk_cell h.2.1 1).trans rfl, (blk_cell h.2.1 2).trans rfl,
   (blk_cell h.2.2.1 0).trans rfl, (blk_cell h.2.2.1 1).trans rfl, blk_frozen h.2.2.1 0, blk_frozen h.2.2.1 1⟩
end

set_option maxRecDepth 100000 in
set_option maxHeartbeats 4000000 in
theorem of_other (k : Nat) (m : Int) (tol a0 a1 : Int) (a2 : ByteArray) (b0 b1 : Int) (b2 : ByteArray) (w : World) (hG : Gl w) (hwf : (Lit.int .i64 m).wf = true) (hnil : ofF m = .nilFunc) (h5 : (m == 5) = false) (h1 : (m != 1) = true) :
    Calls Tryd.prog 20 #[.int .i64 m, .int .i64 tol, .agg #[.int .i64 a0, .int .i64 a1, .string a2], .agg #[.int .i64 b0, .int .i64 b1, .string b2]] w fun e w' => e = .returned (.tuple #[.agg #[.int .i64 0, .int .i64 0], .int .i64 1]) ∧ Below w.heap.size w w' := by
  have HS0 := Aside0.mk (OfS.start (a0 := a0) (a1 := a1) (a2 := a2) (b0 := b0) (b1 := b1) (b2 := b2) hG)
  clear hG
  have hu := Tryd.underlying32
  have hu2 := Tryd.underlying26
  have hnn := eq_nil_nil
  have hfn := eq_func_nil
  have hev := eq_val
  go_enter Tryd.func20, Tryd.ntmps20
  go_wp2_with (first
    | (go_at_call 38; with_reducible refine (texts_calls _).mono ?_; rintro e w1 ⟨b, rfl, hb1, hlk⟩; have hl1 := hlk m hwf; rw [show ofF m = .nilFunc from hnil] at hl1; clear hlk; have HS1 := Aside0.mk (HS0.out.below hb1); clear hb1; obtain ⟨ca0, ca1, ca2, cb0, cb1, cb2, cr0, cr1, fr0, fr1⟩ := HS1.out.cells)
    | ((with_reducible refine gate_op (op := .load 32 (.global 0)) rfl ?_); refine gl0_event rfl rfl rfl ?hGl ?_; (case hGl => exact HS1.out.2.2.2.2))
    | ((with_reducible refine gate_op (op := .load 32 (.global 1)) rfl ?_); refine gl1_event rfl rfl rfl ?hGl ?_; (case hGl => exact HS1.out.2.2.2.2)))
  refine bodyPost_ret (results_ct rfl _ _ (w.heap.size + 1 + 1) 32 #[.int .i64 0, .int .i64 0] (0, 0) _ rfl (by (with_reducible repeat (first | refine blk_drewN ?_ _ | refine blk_drew ?_ | refine blk_alloc ?_ _)); refine blk_put (cs := #[.int .i64 0, .int .i64 0]) ?_ 1 _ rfl; (with_reducible repeat (first | refine blk_drewN ?_ _ | refine blk_drew ?_ | refine blk_alloc ?_ _)); refine blk_put (cs := #[.int .i64 0, .int .i64 0]) ?_ 0 _ rfl; (with_reducible repeat (first | refine blk_drewN ?_ _ | refine blk_drew ?_ | refine blk_alloc ?_ _)); exact HS1.out.2.2.1) Tryd.underlying32 rfl (by kernel_rfl)) rfl ?_
  have HBX := HS1.out.2.2.2.1
  exact ⟨rfl, by repeat (first | exact HBX | apply below_alloc | apply pw_below_drewN | apply below_drew1 | refine below_set ?_ (by omega))⟩
set_option maxRecDepth 100000 in
set_option maxHeartbeats 4000000 in
theorem of_1_va (k : Nat) (tol a0 a1 : Int) (a2 : ByteArray) (b0 b1 : Int) (b2 : ByteArray) (w : World) (hG : Gl w) (hva : Q.value_Valid.f k a0 a1 a2 = some false) :
    Calls Tryd.prog 20 #[.int .i64 1, .int .i64 tol, .agg #[.int .i64 a0, .int .i64 a1, .string a2], .agg #[.int .i64 b0, .int .i64 b1, .string b2]] w fun e w' => e = .returned (.tuple #[.agg #[.int .i64 0, .int .i64 0], .int .i64 1]) ∧ Below w.heap.size w w' := by
  have HS0 := Aside0.mk (OfS.start (a0 := a0) (a1 := a1) (a2 := a2) (b0 := b0) (b1 := b1) (b2 := b2) hG)
  clear hG
  have hu := Tryd.underlying32
  have hu2 := Tryd.underlying26
  have hnn := eq_nil_nil
  have hfn := eq_func_nil
  have hev := eq_val
  go_enter Tryd.func20, Tryd.ntmps20
  go_wp2_with (first
    | (go_at_call 38; with_reducible refine (texts_calls _).mono ?_; rintro e w1 ⟨b, rfl, hb1, hlk⟩; have hl1 := hlk 1 (by decide); rw [show ofF 1 = .nilFunc from rfl] at hl1; clear hlk; have HS1 := Aside0.mk (HS0.out.below hb1); clear hb1; obtain ⟨ca0, ca1, ca2, cb0, cb1, cb2, cr0, cr1, fr0, fr1⟩ := HS1.out.cells)
    | (go_at_call 39; with_reducible refine (Q.value_Valid.calls k a0 a1 a2 _ _ hva).mono ?_; rintro e w2 ⟨rfl, hb2⟩; have HS2 := Aside0.mk (HS1.out.below hb2); clear hb2; clear ca0 ca1 ca2 cb0 cb1 cb2 cr0 cr1 fr0 fr1; obtain ⟨ca0, ca1, ca2, cb0, cb1, cb2, cr0, cr1, fr0, fr1⟩ := HS2.out.cells)
    | ((with_reducible refine gate_op (op := .load 32 (.global 0)) rfl ?_); refine gl0_event rfl rfl rfl ?hGl ?_; (case hGl => exact HS2.out.2.2.2.2))
    | ((with_reducible refine gate_op (op := .load 32 (.global 1)) rfl ?_); refine gl1_event rfl rfl rfl ?hGl ?_; (case hGl => exact HS2.out.2.2.2.2)))
  refine bodyPost_ret (results_ct rfl _ _ (w.heap.size + 1 + 1) 32 #[.int .i64 0, .int .i64 0] (0, 0) _ rfl (by (with_reducible repeat (first | refine blk_drewN ?_ _ | refine blk_drew ?_ | refine blk_alloc ?_ _)); refine blk_put (cs := #[.int .i64 0, .int .i64 0]) ?_ 1 _ rfl; (with_reducible repeat (first | refine blk_drewN ?_ _ | refine blk_drew ?_ | refine blk_alloc ?_ _)); refine blk_put (cs := #[.int .i64 0, .int .i64 0]) ?_ 0 _ rfl; (with_reducible repeat (first | refine blk_drewN ?_ _ | refine blk_drew ?_ | refine blk_alloc ?_ _)); exact HS2.out.2.2.1) Tryd.underlying32 rfl (by kernel_rfl)) rfl ?_
  have HBX := HS2.out.2.2.2.1
  exact ⟨rfl, by repeat (first | exact HBX | apply below_alloc | apply pw_below_drewN | apply below_drew1 | refine below_set ?_ (by omega))⟩
set_option maxRecDepth 100000 in
set_option maxHeartbeats 4000000 in
theorem of_1_vb (k : Nat) (tol a0 a1 : Int) (a2 : ByteArray) (b0 b1 : Int) (b2 : ByteArray) (w : World) (hG : Gl w) (hva : Q.value_Valid.f k a0 a1 a2 = some true) (hvb : Q.value_Valid.f k b0 b1 b2 = some false) :
    Calls Tryd.prog 20 #[.int .i64 1, .int .i64 tol, .agg #[.int .i64 a0, .int .i64 a1, .string a2], .agg #[.int .i64 b0, .int .i64 b1, .string b2]] w fun e w' => e = .returned (.tuple #[.agg #[.int .i64 0, .int .i64 0], .int .i64 1]) ∧ Below w.heap.size w w' := by
  have HS0 := Aside0.mk (OfS.start (a0 := a0) (a1 := a1) (a2 := a2) (b0 := b0) (b1 := b1) (b2 := b2) hG)
  clear hG
  have hu := Tryd.underlying32
  have hu2 := Tryd.underlying26
  have hnn := eq_nil_nil
  have hfn := eq_func_nil
  have hev := eq_val
  go_enter Tryd.func20, Tryd.ntmps20
  go_wp2_with (first
    | (go_at_call 38; with_reducible refine (texts_calls _).mono ?_; rintro e w1 ⟨b, rfl, hb1, hlk⟩; have hl1 := hlk 1 (by decide); rw [show ofF 1 = .nilFunc from rfl] at hl1; clear hlk; have HS1 := Aside0.mk (HS0.out.below hb1); clear hb1; obtain ⟨ca0, ca1, ca2, cb0, cb1, cb2, cr0, cr1, fr0, fr1⟩ := HS1.out.cells)
    | (go_at_call 39; with_reducible refine (Q.value_Valid.calls k a0 a1 a2 _ _ hva).mono ?_; rintro e w2 ⟨rfl, hb2⟩; have HS2 := Aside0.mk (HS1.out.below hb2); clear hb2; clear ca0 ca1 ca2 cb0 cb1 cb2 cr0 cr1 fr0 fr1; obtain ⟨ca0, ca1, ca2, cb0, cb1, cb2, cr0, cr1, fr0, fr1⟩ := HS2.out.cells)
    | (go_at_call 39; with_reducible refine (Q.value_Valid.calls k b0 b1 b2 _ _ hvb).mono ?_; rintro e w3 ⟨rfl, hb3⟩; have HS3 := Aside0.mk (HS2.out.below hb3); clear hb3; clear ca0 ca1 ca2 cb0 cb1 cb2 cr0 cr1 fr0 fr1; obtain ⟨ca0, ca1, ca2, cb0, cb1, cb2, cr0, cr1, fr0, fr1⟩ := HS3.out.cells)
    | ((with_reducible refine gate_op (op := .load 32 (.global 0)) rfl ?_); refine gl0_event rfl rfl rfl ?hGl ?_; (case hGl => exact HS3.out.2.2.2.2))
    | ((with_reducible refine gate_op (op := .load 32 (.global 1)) rfl ?_); refine gl1_event rfl rfl rfl ?hGl ?_; (case hGl => exact HS3.out.2.2.2.2)))
  refine bodyPost_ret (results_ct rfl _ _ (w.heap.size + 1 + 1) 32 #[.int .i64 0, .int .i64 0] (0, 0) _ rfl (by (with_reducible repeat (first | refine blk_drewN ?_ _ | refine blk_drew ?_ | refine blk_alloc ?_ _)); refine blk_put (cs := #[.int .i64 0, .int .i64 0]) ?_ 1 _ rfl; (with_reducible repeat (first | refine blk_drewN ?_ _ | refine blk_drew ?_ | refine blk_alloc ?_ _)); refine blk_put (cs := #[.int .i64 0, .int .i64 0]) ?_ 0 _ rfl; (with_reducible repeat (first | refine blk_drewN ?_ _ | refine blk_drew ?_ | refine blk_alloc ?_ _)); exact HS3.out.2.2.1) Tryd.underlying32 rfl (by kernel_rfl)) rfl ?_
  have HBX := HS3.out.2.2.2.1
  exact ⟨rfl, by repeat (first | exact HBX | apply below_alloc | apply pw_below_drewN | apply below_drew1 | refine below_set ?_ (by omega))⟩
set_option maxRecDepth 100000 in
set_option maxHeartbeats 4000000 in
theorem of_1_na (k : Nat) (tol a0 a1 : Int) (a2 : ByteArray) (b0 b1 : Int) (b2 : ByteArray) (w : World) (hG : Gl w) (hva : Q.value_Valid.f k a0 a1 a2 = some true) (hvb : Q.value_Valid.f k b0 b1 b2 = some true) (ha : (a0 == 0) = true) :
    Calls Tryd.prog 20 #[.int .i64 1, .int .i64 tol, .agg #[.int .i64 a0, .int .i64 a1, .string a2], .agg #[.int .i64 b0, .int .i64 b1, .string b2]] w fun e w' => e = .returned (.tuple #[.agg #[.int .i64 0, .int .i64 1], .int .i64 0]) ∧ Below w.heap.size w w' := by
  have HS0 := Aside0.mk (OfS.start (a0 := a0) (a1 := a1) (a2 := a2) (b0 := b0) (b1 := b1) (b2 := b2) hG)
  clear hG
  have hu := Tryd.underlying32
  have hu2 := Tryd.underlying26
  have hnn := eq_nil_nil
  have hfn := eq_func_nil
  have hev := eq_val
  go_enter Tryd.func20, Tryd.ntmps20
  go_wp2_with (first
    | (go_at_call 38; with_reducible refine (texts_calls _).mono ?_; rintro e w1 ⟨b, rfl, hb1, hlk⟩; have hl1 := hlk 1 (by decide); rw [show ofF 1 = .nilFunc from rfl] at hl1; clear hlk; have HS1 := Aside0.mk (HS0.out.below hb1); clear hb1; obtain ⟨ca0, ca1, ca2, cb0, cb1, cb2, cr0, cr1, fr0, fr1⟩ := HS1.out.cells)
    | (go_at_call 39; with_reducible refine (Q.value_Valid.calls k a0 a1 a2 _ _ hva).mono ?_; rintro e w2 ⟨rfl, hb2⟩; have HS2 := Aside0.mk (HS1.out.below hb2); clear hb2; clear ca0 ca1 ca2 cb0 cb1 cb2 cr0 cr1 fr0 fr1; obtain ⟨ca0, ca1, ca2, cb0, cb1, cb2, cr0, cr1, fr0, fr1⟩ := HS2.out.cells)
    | (go_at_call 39; with_reducible refine (Q.value_Valid.calls k b0 b1 b2 _ _ hvb).mono ?_; rintro e w3 ⟨rfl, hb3⟩; have HS3 := Aside0.mk (HS2.out.below hb3); clear hb3; clear ca0 ca1 ca2 cb0 cb1 cb2 cr0 cr1 fr0 fr1; obtain ⟨ca0, ca1, ca2, cb0, cb1, cb2, cr0, cr1, fr0, fr1⟩ := HS3.out.cells)
    | ((with_reducible refine gate_op (op := .load 32 (.global 0)) rfl ?_); refine gl0_event rfl rfl rfl ?hGl ?_; (case hGl => exact HS3.out.2.2.2.2))
    | ((with_reducible refine gate_op (op := .load 32 (.global 1)) rfl ?_); refine gl1_event rfl rfl rfl ?hGl ?_; (case hGl => exact HS3.out.2.2.2.2)))
  refine bodyPost_ret (results_ct rfl _ _ (w.heap.size + 1 + 1) 32 #[.int .i64 0, .int .i64 1] (0, 0) _ rfl (by (with_reducible repeat (first | refine blk_drewN ?_ _ | refine blk_drew ?_ | refine blk_alloc ?_ _)); refine blk_put (cs := #[.int .i64 0, .int .i64 0]) ?_ 1 _ rfl; (with_reducible repeat (first | refine blk_drewN ?_ _ | refine blk_drew ?_ | refine blk_alloc ?_ _)); refine blk_put (cs := #[.int .i64 0, .int .i64 0]) ?_ 0 _ rfl; (with_reducible repeat (first | refine blk_drewN ?_ _ | refine blk_drew ?_ | refine blk_alloc ?_ _)); exact HS3.out.2.2.1) Tryd.underlying32 rfl (by kernel_rfl)) rfl ?_
  have HBX := HS3.out.2.2.2.1
  exact ⟨rfl, by repeat (first | exact HBX | apply below_alloc | apply pw_below_drewN | apply below_drew1 | refine below_set ?_ (by omega))⟩
set_option maxRecDepth 100000 in
set_option maxHeartbeats 4000000 in
theorem of_1_nb (k : Nat) (tol a0 a1 : Int) (a2 : ByteArray) (b0 b1 : Int) (b2 : ByteArray) (w : World) (hG : Gl w) (hva : Q.value_Valid.f k a0 a1 a2 = some true) (hvb : Q.value_Valid.f k b0 b1 b2 = some true) (ha : (a0 == 0) = false) (hb : (b0 == 0) = true) :
    Calls Tryd.prog 20 #[.int .i64 1, .int .i64 tol, .agg #[.int .i64 a0, .int .i64 a1, .string a2], .agg #[.int .i64 b0, .int .i64 b1, .string b2]] w fun e w' => e = .returned (.tuple #[.agg #[.int .i64 0, .int .i64 1], .int .i64 0]) ∧ Below w.heap.size w w' := by
  have HS0 := Aside0.mk (OfS.start (a0 := a0) (a1 := a1) (a2 := a2) (b0 := b0) (b1 := b1) (b2 := b2) hG)
  clear hG
  have hu := Tryd.underlying32
  have hu2 := Tryd.underlying26
  have hnn := eq_nil_nil
  have hfn := eq_func_nil
  have hev := eq_val
  go_enter Tryd.func20, Tryd.ntmps20
  go_wp2_with (first
    | (go_at_call 38; with_reducible refine (texts_calls _).mono ?_; rintro e w1 ⟨b, rfl, hb1, hlk⟩; have hl1 := hlk 1 (by decide); rw [show ofF 1 = .nilFunc from rfl] at hl1; clear hlk; have HS1 := Aside0.mk (HS0.out.below hb1); clear hb1; obtain ⟨ca0, ca1, ca2, cb0, cb1, cb2, cr0, cr1, fr0, fr1⟩ := HS1.out.cells)
    | (go_at_call 39; with_reducible refine (Q.value_Valid.calls k a0 a1 a2 _ _ hva).mono ?_; rintro e w2 ⟨rfl, hb2⟩; have HS2 := Aside0.mk (HS1.out.below hb2); clear hb2; clear ca0 ca1 ca2 cb0 cb1 cb2 cr0 cr1 fr0 fr1; obtain ⟨ca0, ca1, ca2, cb0, cb1, cb2, cr0, cr1, fr0, fr1⟩ := HS2.out.cells)
    | (go_at_call 39; with_reducible refine (Q.value_Valid.calls k b0 b1 b2 _ _ hvb).mono ?_; rintro e w3 ⟨rfl, hb3⟩; have HS3 := Aside0.mk (HS2.out.below hb3); clear hb3; clear ca0 ca1 ca2 cb0 cb1 cb2 cr0 cr1 fr0 fr1; obtain ⟨ca0, ca1, ca2, cb0, cb1, cb2, cr0, cr1, fr0, fr1⟩ := HS3.out.cells)
    | ((with_reducible refine gate_op (op := .load 32 (.global 0)) rfl ?_); refine gl0_event rfl rfl rfl ?hGl ?_; (case hGl => exact HS3.out.2.2.2.2))
    | ((with_reducible refine gate_op (op := .load 32 (.global 1)) rfl ?_); refine gl1_event rfl rfl rfl ?hGl ?_; (case hGl => exact HS3.out.2.2.2.2)))
  refine bodyPost_ret (results_ct rfl _ _ (w.heap.size + 1 + 1) 32 #[.int .i64 0, .int .i64 1] (0, 0) _ rfl (by (with_reducible repeat (first | refine blk_drewN ?_ _ | refine blk_drew ?_ | refine blk_alloc ?_ _)); refine blk_put (cs := #[.int .i64 0, .int .i64 0]) ?_ 1 _ rfl; (with_reducible repeat (first | refine blk_drewN ?_ _ | refine blk_drew ?_ | refine blk_alloc ?_ _)); refine blk_put (cs := #[.int .i64 0, .int .i64 0]) ?_ 0 _ rfl; (with_reducible repeat (first | refine blk_drewN ?_ _ | refine blk_drew ?_ | refine blk_alloc ?_ _)); exact HS3.out.2.2.1) Tryd.underlying32 rfl (by kernel_rfl)) rfl ?_
  have HBX := HS3.out.2.2.2.1
  exact ⟨rfl, by repeat (first | exact HBX | apply below_alloc | apply pw_below_drewN | apply below_drew1 | refine below_set ?_ (by omega))⟩
set_option maxRecDepth 100000 in
set_option maxHeartbeats 4000000 in
theorem of_1_eq (k : Nat) (tol a0 a1 : Int) (a2 : ByteArray) (b0 b1 : Int) (b2 : ByteArray) (w : World) (hG : Gl w) (hva : Q.value_Valid.f k a0 a1 a2 = some true) (hvb : Q.value_Valid.f k b0 b1 b2 = some true) (ha : (a0 == 0) = false) (hb : (b0 == 0) = false) (e0 : (a0 == b0) = true) (e1 : (a1 == b1) = true) (e2 : (a2.toList == b2.toList) = true) :
    Calls Tryd.prog 20 #[.int .i64 1, .int .i64 tol, .agg #[.int .i64 a0, .int .i64 a1, .string a2], .agg #[.int .i64 b0, .int .i64 b1, .string b2]] w fun e w' => e = .returned (.tuple #[.agg #[.int .i64 1, .int .i64 1], .int .i64 0]) ∧ Below w.heap.size w w' := by
  have HS0 := Aside0.mk (OfS.start (a0 := a0) (a1 := a1) (a2 := a2) (b0 := b0) (b1 := b1) (b2 := b2) hG)
  clear hG
  have hu := Tryd.underlying32
  have hu2 := Tryd.underlying26
  have hnn := eq_nil_nil
  have hfn := eq_func_nil
  have hev := eq_val
  go_enter Tryd.func20, Tryd.ntmps20
  go_wp2_with (first
    | (go_at_call 38; with_reducible refine (texts_calls _).mono ?_; rintro e w1 ⟨b, rfl, hb1, hlk⟩; have hl1 := hlk 1 (by decide); rw [show ofF 1 = .nilFunc from rfl] at hl1; clear hlk; have HS1 := Aside0.mk (HS0.out.below hb1); clear hb1; obtain ⟨ca0, ca1, ca2, cb0, cb1, cb2, cr0, cr1, fr0, fr1⟩ := HS1.out.cells)
    | (go_at_call 39; with_reducible refine (Q.value_Valid.calls k a0 a1 a2 _ _ hva).mono ?_; rintro e w2 ⟨rfl, hb2⟩; have HS2 := Aside0.mk (HS1.out.below hb2); clear hb2; clear ca0 ca1 ca2 cb0 cb1 cb2 cr0 cr1 fr0 fr1; obtain ⟨ca0, ca1, ca2, cb0, cb1, cb2, cr0, cr1, fr0, fr1⟩ := HS2.out.cells)
    | (go_at_call 39; with_reducible refine (Q.value_Valid.calls k b0 b1 b2 _ _ hvb).mono ?_; rintro e w3 ⟨rfl, hb3⟩; have HS3 := Aside0.mk (HS2.out.below hb3); clear hb3; clear ca0 ca1 ca2 cb0 cb1 cb2 cr0 cr1 fr0 fr1; obtain ⟨ca0, ca1, ca2, cb0, cb1, cb2, cr0, cr1, fr0, fr1⟩ := HS3.out.cells)
    | ((with_reducible refine gate_op (op := .load 32 (.global 0)) rfl ?_); refine gl0_event rfl rfl rfl ?hGl ?_; (case hGl => exact HS3.out.2.2.2.2))
    | ((with_reducible refine gate_op (op := .load 32 (.global 1)) rfl ?_); refine gl1_event rfl rfl rfl ?hGl ?_; (case hGl => exact HS3.out.2.2.2.2)))
  refine bodyPost_ret (results_ct rfl _ _ (w.heap.size + 1 + 1) 32 #[.int .i64 1, .int .i64 1] (0, 0) _ rfl (by (with_reducible repeat (first | refine blk_drewN ?_ _ | refine blk_drew ?_ | refine blk_alloc ?_ _)); refine blk_put (cs := #[.int .i64 1, .int .i64 0]) ?_ 1 _ rfl; (with_reducible repeat (first | refine blk_drewN ?_ _ | refine blk_drew ?_ | refine blk_alloc ?_ _)); refine blk_put (cs := #[.int .i64 0, .int .i64 0]) ?_ 0 _ rfl; (with_reducible repeat (first | refine blk_drewN ?_ _ | refine blk_drew ?_ | refine blk_alloc ?_ _)); exact HS3.out.2.2.1) Tryd.underlying32 rfl (by kernel_rfl)) rfl ?_
  have HBX := HS3.out.2.2.2.1
  exact ⟨rfl, by repeat (first | exact HBX | apply below_alloc | apply pw_below_drewN | apply below_drew1 | refine below_set ?_ (by omega))⟩
set_option maxRecDepth 100000 in
set_option maxHeartbeats 4000000 in
theorem of_1_n0 (k : Nat) (tol a0 a1 : Int) (a2 : ByteArray) (b0 b1 : Int) (b2 : ByteArray) (w : World) (hG : Gl w) (hva : Q.value_Valid.f k a0 a1 a2 = some true) (hvb : Q.value_Valid.f k b0 b1 b2 = some true) (ha : (a0 == 0) = false) (hb : (b0 == 0) = false) (e0 : (a0 == b0) = false) :
    Calls Tryd.prog 20 #[.int .i64 1, .int .i64 tol, .agg #[.int .i64 a0, .int .i64 a1, .string a2], .agg #[.int .i64 b0, .int .i64 b1, .string b2]] w fun e w' => e = .returned (.tuple #[.agg #[.int .i64 0, .int .i64 1], .int .i64 0]) ∧ Below w.heap.size w w' := by
  have HS0 := Aside0.mk (OfS.start (a0 := a0) (a1 := a1) (a2 := a2) (b0 := b0) (b1 := b1) (b2 := b2) hG)
  clear hG
  have hu := Tryd.underlying32
  have hu2 := Tryd.underlying26
  have hnn := eq_nil_nil
  have hfn := eq_func_nil
  have hev := eq_val
  go_enter Tryd.func20, Tryd.ntmps20
  go_wp2_with (first
    | (go_at_call 38; with_reducible refine (texts_calls _).mono ?_; rintro e w1 ⟨b, rfl, hb1, hlk⟩; have hl1 := hlk 1 (by decide); rw [show ofF 1 = .nilFunc from rfl] at hl1; clear hlk; have HS1 := Aside0.mk (HS0.out.below hb1); clear hb1; obtain ⟨ca0, ca1, ca2, cb0, cb1, cb2, cr0, cr1, fr0, fr1⟩ := HS1.out.cells)
    | (go_at_call 39; with_reducible refine (Q.value_Valid.calls k a0 a1 a2 _ _ hva).mono ?_; rintro e w2 ⟨rfl, hb2⟩; have HS2 := Aside0.mk (HS1.out.below hb2); clear hb2; clear ca0 ca1 ca2 cb0 cb1 cb2 cr0 cr1 fr0 fr1; obtain ⟨ca0, ca1, ca2, cb0, cb1, cb2, cr0, cr1, fr0, fr1⟩ := HS2.out.cells)
    | (go_at_call 39; with_reducible refine (Q.value_Valid.calls k b0 b1 b2 _ _ hvb).mono ?_; rintro e w3 ⟨rfl, hb3⟩; have HS3 := Aside0.mk (HS2.out.below hb3); clear hb3; clear ca0 ca1 ca2 cb0 cb1 cb2 cr0 cr1 fr0 fr1; obtain ⟨ca0, ca1, ca2, cb0, cb1, cb2, cr0, cr1, fr0, fr1⟩ := HS3.out.cells)
    | ((with_reducible refine gate_op (op := .load 32 (.global 0)) rfl ?_); refine gl0_event rfl rfl rfl ?hGl ?_; (case hGl => exact HS3.out.2.2.2.2))
    | ((with_reducible refine gate_op (op := .load 32 (.global 1)) rfl ?_); refine gl1_event rfl rfl rfl ?hGl ?_; (case hGl => exact HS3.out.2.2.2.2)))
  refine bodyPost_ret (results_ct rfl _ _ (w.heap.size + 1 + 1) 32 #[.int .i64 0, .int .i64 1] (0, 0) _ rfl (by (with_reducible repeat (first | refine blk_drewN ?_ _ | refine blk_drew ?_ | refine blk_alloc ?_ _)); refine blk_put (cs := #[.int .i64 0, .int .i64 0]) ?_ 1 _ rfl; (with_reducible repeat (first | refine blk_drewN ?_ _ | refine blk_drew ?_ | refine blk_alloc ?_ _)); refine blk_put (cs := #[.int .i64 0, .int .i64 0]) ?_ 0 _ rfl; (with_reducible repeat (first | refine blk_drewN ?_ _ | refine blk_drew ?_ | refine blk_alloc ?_ _)); exact HS3.out.2.2.1) Tryd.underlying32 rfl (by kernel_rfl)) rfl ?_
  have HBX := HS3.out.2.2.2.1
  exact ⟨rfl, by repeat (first | exact HBX | apply below_alloc | apply pw_below_drewN | apply below_drew1 | refine below_set ?_ (by omega))⟩
set_option maxRecDepth 100000 in
set_option maxHeartbeats 4000000 in
theorem of_1_n1 (k : Nat) (tol a0 a1 : Int) (a2 : ByteArray) (b0 b1 : Int) (b2 : ByteArray) (w : World) (hG : Gl w) (hva : Q.value_Valid.f k a0 a1 a2 = some true) (hvb : Q.value_Valid.f k b0 b1 b2 = some true) (ha : (a0 == 0) = false) (hb : (b0 == 0) = false) (e0 : (a0 == b0) = true) (e1 : (a1 == b1) = false) :
    Calls Tryd.prog 20 #[.int .i64 1, .int .i64 tol, .agg #[.int .i64 a0, .int .i64 a1, .string a2], .agg #[.int .i64 b0, .int .i64 b1, .string b2]] w fun e w' => e = .returned (.tuple #[.agg #[.int .i64 0, .int .i64 1], .int .i64 0]) ∧ Below w.heap.size w w' := by
  have HS0 := Aside0.mk (OfS.start (a0 := a0) (a1 := a1) (a2 := a2) (b0 := b0) (b1 := b1) (b2 := b2) hG)
  clear hG
  have hu := Tryd.underlying32
  have hu2 := Tryd.underlying26
  have hnn := eq_nil_nil
  have hfn := eq_func_nil
  have hev := eq_val
  go_enter Tryd.func20, Tryd.ntmps20
  go_wp2_with (first
    | (go_at_call 38; with_reducible refine (texts_calls _).mono ?_; rintro e w1 ⟨b, rfl, hb1, hlk⟩; have hl1 := hlk 1 (by decide); rw [show ofF 1 = .nilFunc from rfl] at hl1; clear hlk; have HS1 := Aside0.mk (HS0.out.below hb1); clear hb1; obtain ⟨ca0, ca1, ca2, cb0, cb1, cb2, cr0, cr1, fr0, fr1⟩ := HS1.out.cells)
    | (go_at_call 39; with_reducible refine (Q.value_Valid.calls k a0 a1 a2 _ _ hva).mono ?_; rintro e w2 ⟨rfl, hb2⟩; have HS2 := Aside0.mk (HS1.out.below hb2); clear hb2; clear ca0 ca1 ca2 cb0 cb1 cb2 cr0 cr1 fr0 fr1; obtain ⟨ca0, ca1, ca2, cb0, cb1, cb2, cr0, cr1, fr0, fr1⟩ := HS2.out.cells)
    | (go_at_call 39; with_reducible refine (Q.value_Valid.calls k b0 b1 b2 _ _ hvb).mono ?_; rintro e w3 ⟨rfl, hb3⟩; have HS3 := Aside0.mk (HS2.out.below hb3); clear hb3; clear ca0 ca1 ca2 cb0 cb1 cb2 cr0 cr1 fr0 fr1; obtain ⟨ca0, ca1, ca2, cb0, cb1, cb2, cr0, cr1, fr0, fr1⟩ := HS3.out.cells)
    | ((with_reducible refine gate_op (op := .load 32 (.global 0)) rfl ?_); refine gl0_event rfl rfl rfl ?hGl ?_; (case hGl => exact HS3.out.2.2.2.2))
    | ((with_reducible refine gate_op (op := .load 32 (.global 1)) rfl ?_); refine gl1_event rfl rfl rfl ?hGl ?_; (case hGl => exact HS3.out.2.2.2.2)))
  refine bodyPost_ret (results_ct rfl _ _ (w.heap.size + 1 + 1) 32 #[.int .i64 0, .int .i64 1] (0, 0) _ rfl (by (with_reducible repeat (first | refine blk_drewN ?_ _ | refine blk_drew ?_ | refine blk_alloc ?_ _)); refine blk_put (cs := #[.int .i64 0, .int .i64 0]) ?_ 1 _ rfl; (with_reducible repeat (first | refine blk_drewN ?_ _ | refine blk_drew ?_ | refine blk_alloc ?_ _)); refine blk_put (cs := #[.int .i64 0, .int .i64 0]) ?_ 0 _ rfl; (with_reducible repeat (first | refine blk_drewN ?_ _ | refine blk_drew ?_ | refine blk_alloc ?_ _)); exact HS3.out.2.2.1) Tryd.underlying32 rfl (by kernel_rfl)) rfl ?_
  have HBX := HS3.out.2.2.2.1
  exact ⟨rfl, by repeat (first | exact HBX | apply below_alloc | apply pw_below_drewN | apply below_drew1 | refine below_set ?_ (by omega))⟩
set_option maxRecDepth 100000 in
set_option maxHeartbeats 4000000 in
theorem of_1_n2 (k : Nat) (tol a0 a1 : Int) (a2 : ByteArray) (b0 b1 : Int) (b2 : ByteArray) (w : World) (hG : Gl w) (hva : Q.value_Valid.f k a0 a1 a2 = some true) (hvb : Q.value_Valid.f k b0 b1 b2 = some true) (ha : (a0 == 0) = false) (hb : (b0 == 0) = false) (e0 : (a0 == b0) = true) (e1 : (a1 == b1) = true) (e2 : (a2.toList == b2.toList) = false) :
    Calls Tryd.prog 20 #[.int .i64 1, .int .i64 tol, .agg #[.int .i64 a0, .int .i64 a1, .string a2], .agg #[.int .i64 b0, .int .i64 b1, .string b2]] w fun e w' => e = .returned (.tuple #[.agg #[.int .i64 0, .int .i64 1], .int .i64 0]) ∧ Below w.heap.size w w' := by
  have HS0 := Aside0.mk (OfS.start (a0 := a0) (a1 := a1) (a2 := a2) (b0 := b0) (b1 := b1) (b2 := b2) hG)
  clear hG
  have hu := Tryd.underlying32
  have hu2 := Tryd.underlying26
  have hnn := eq_nil_nil
  have hfn := eq_func_nil
  have hev := eq_val
  go_enter Tryd.func20, Tryd.ntmps20
  go_wp2_with (first
    | (go_at_call 38; with_reducible refine (texts_calls _).mono ?_; rintro e w1 ⟨b, rfl, hb1, hlk⟩; have hl1 := hlk 1 (by decide); rw [show ofF 1 = .nilFunc from rfl] at hl1; clear hlk; have HS1 := Aside0.mk (HS0.out.below hb1); clear hb1; obtain ⟨ca0, ca1, ca2, cb0, cb1, cb2, cr0, cr1, fr0, fr1⟩ := HS1.out.cells)
    | (go_at_call 39; with_reducible refine (Q.value_Valid.calls k a0 a1 a2 _ _ hva).mono ?_; rintro e w2 ⟨rfl, hb2⟩; have HS2 := Aside0.mk (HS1.out.below hb2); clear hb2; clear ca0 ca1 ca2 cb0 cb1 cb2 cr0 cr1 fr0 fr1; obtain ⟨ca0, ca1, ca2, cb0, cb1, cb2, cr0, cr1, fr0, fr1⟩ := HS2.out.cells)
    | (go_at_call 39; with_reducible refine (Q.value_Valid.calls k b0 b1 b2 _ _ hvb).mono ?_; rintro e w3 ⟨rfl, hb3⟩; have HS3 := Aside0.mk (HS2.out.below hb3); clear hb3; clear ca0 ca1 ca2 cb0 cb1 cb2 cr0 cr1 fr0 fr1; obtain ⟨ca0, ca1, ca2, cb0, cb1, cb2, cr0, cr1, fr0, fr1⟩ := HS3.out.cells)
    | ((with_reducible refine gate_op (op := .load 32 (.global 0)) rfl ?_); refine gl0_event rfl rfl rfl ?hGl ?_; (case hGl => exact HS3.out.2.2.2.2))
    | ((with_reducible refine gate_op (op := .load 32 (.global 1)) rfl ?_); refine gl1_event rfl rfl rfl ?hGl ?_; (case hGl => exact HS3.out.2.2.2.2)))
  refine bodyPost_ret (results_ct rfl _ _ (w.heap.size + 1 + 1) 32 #[.int .i64 0, .int .i64 1] (0, 0) _ rfl (by (with_reducible repeat (first | refine blk_drewN ?_ _ | refine blk_drew ?_ | refine blk_alloc ?_ _)); refine blk_put (cs := #[.int .i64 0, .int .i64 0]) ?_ 1 _ rfl; (with_reducible repeat (first | refine blk_drewN ?_ _ | refine blk_drew ?_ | refine blk_alloc ?_ _)); refine blk_put (cs := #[.int .i64 0, .int .i64 0]) ?_ 0 _ rfl; (with_reducible repeat (first | refine blk_drewN ?_ _ | refine blk_drew ?_ | refine blk_alloc ?_ _)); exact HS3.out.2.2.1) Tryd.underlying32 rfl (by kernel_rfl)) rfl ?_
  have HBX := HS3.out.2.2.2.1
  exact ⟨rfl, by repeat (first | exact HBX | apply below_alloc | apply pw_below_drewN | apply below_drew1 | refine below_set ?_ (by omega))⟩
set_option maxRecDepth 100000 in
set_option maxHeartbeats 4000000 in
theorem of_2_va (k : Nat) (tol a0 a1 : Int) (a2 : ByteArray) (b0 b1 : Int) (b2 : ByteArray) (w : World) (hG : Gl w) (hva : Q.value_Valid.f k a0 a1 a2 = some false) :
    Calls Tryd.prog 20 #[.int .i64 2, .int .i64 tol, .agg #[.int .i64 a0, .int .i64 a1, .string a2], .agg #[.int .i64 b0, .int .i64 b1, .string b2]] w fun e w' => e = .returned (.tuple #[.agg #[.int .i64 0, .int .i64 0], .int .i64 1]) ∧ Below w.heap.size w w' := by
  have HS0 := Aside0.mk (OfS.start (a0 := a0) (a1 := a1) (a2 := a2) (b0 := b0) (b1 := b1) (b2 := b2) hG)
  clear hG
  have hu := Tryd.underlying32
  have hu2 := Tryd.underlying26
  have hnn := eq_nil_nil
  have hfn := eq_func_nil
  have hev := eq_val
  go_enter Tryd.func20, Tryd.ntmps20
  go_wp2_with (first
    | (go_at_call 38; with_reducible refine (texts_calls _).mono ?_; rintro e w1 ⟨b, rfl, hb1, hlk⟩; have hl1 := hlk 2 (by decide); rw [show ofF 2 = .func (.func 50) #[] #[] from rfl] at hl1; clear hlk; have HS1 := Aside0.mk (HS0.out.below hb1); clear hb1; obtain ⟨ca0, ca1, ca2, cb0, cb1, cb2, cr0, cr1, fr0, fr1⟩ := HS1.out.cells)
    | (go_at_call 39; with_reducible refine (Q.value_Valid.calls k a0 a1 a2 _ _ hva).mono ?_; rintro e w2 ⟨rfl, hb2⟩; have HS2 := Aside0.mk (HS1.out.below hb2); clear hb2; clear ca0 ca1 ca2 cb0 cb1 cb2 cr0 cr1 fr0 fr1; obtain ⟨ca0, ca1, ca2, cb0, cb1, cb2, cr0, cr1, fr0, fr1⟩ := HS2.out.cells)
    | ((with_reducible refine gate_op (op := .load 32 (.global 0)) rfl ?_); refine gl0_event rfl rfl rfl ?hGl ?_; (case hGl => exact HS2.out.2.2.2.2))
    | ((with_reducible refine gate_op (op := .load 32 (.global 1)) rfl ?_); refine gl1_event rfl rfl rfl ?hGl ?_; (case hGl => exact HS2.out.2.2.2.2)))
  refine bodyPost_ret (results_ct rfl _ _ (w.heap.size + 1 + 1) 32 #[.int .i64 0, .int .i64 0] (0, 0) _ rfl (by (with_reducible repeat (first | refine blk_drewN ?_ _ | refine blk_drew ?_ | refine blk_alloc ?_ _)); refine blk_put (cs := #[.int .i64 0, .int .i64 0]) ?_ 1 _ rfl; (with_reducible repeat (first | refine blk_drewN ?_ _ | refine blk_drew ?_ | refine blk_alloc ?_ _)); refine blk_put (cs := #[.int .i64 0, .int .i64 0]) ?_ 0 _ rfl; (with_reducible repeat (first | refine blk_drewN ?_ _ | refine blk_drew ?_ | refine blk_alloc ?_ _)); exact HS2.out.2.2.1) Tryd.underlying32 rfl (by kernel_rfl)) rfl ?_
  have HBX := HS2.out.2.2.2.1
  exact ⟨rfl, by repeat (first | exact HBX | apply below_alloc | apply pw_below_drewN | apply below_drew1 | refine below_set ?_ (by omega))⟩
set_option maxRecDepth 100000 in
set_option maxHeartbeats 4000000 in
theorem of_2_vb (k : Nat) (tol a0 a1 : Int) (a2 : ByteArray) (b0 b1 : Int) (b2 : ByteArray) (w : World) (hG : Gl w) (hva : Q.value_Valid.f k a0 a1 a2 = some true) (hvb : Q.value_Valid.f k b0 b1 b2 = some false) :
    Calls Tryd.prog 20 #[.int .i64 2, .int .i64 tol, .agg #[.int .i64 a0, .int .i64 a1, .string a2], .agg #[.int .i64 b0, .int .i64 b1, .string b2]] w fun e w' => e = .returned (.tuple #[.agg #[.int .i64 0, .int .i64 0], .int .i64 1]) ∧ Below w.heap.size w w' := by
  have HS0 := Aside0.mk (OfS.start (a0 := a0) (a1 := a1) (a2 := a2) (b0 := b0) (b1 := b1) (b2 := b2) hG)
  clear hG
  have hu := Tryd.underlying32
  have hu2 := Tryd.underlying26
  have hnn := eq_nil_nil
  have hfn := eq_func_nil
  have hev := eq_val
  go_enter Tryd.func20, Tryd.ntmps20
  go_wp2_with (first
    | (go_at_call 38; with_reducible refine (texts_calls _).mono ?_; rintro e w1 ⟨b, rfl, hb1, hlk⟩; have hl1 := hlk 2 (by decide); rw [show ofF 2 = .func (.func 50) #[] #[] from rfl] at hl1; clear hlk; have HS1 := Aside0.mk (HS0.out.below hb1); clear hb1; obtain ⟨ca0, ca1, ca2, cb0, cb1, cb2, cr0, cr1, fr0, fr1⟩ := HS1.out.cells)
    | (go_at_call 39; with_reducible refine (Q.value_Valid.calls k a0 a1 a2 _ _ hva).mono ?_; rintro e w2 ⟨rfl, hb2⟩; have HS2 := Aside0.mk (HS1.out.below hb2); clear hb2; clear ca0 ca1 ca2 cb0 cb1 cb2 cr0 cr1 fr0 fr1; obtain ⟨ca0, ca1, ca2, cb0, cb1, cb2, cr0, cr1, fr0, fr1⟩ := HS2.out.cells)
    | (go_at_call 39; with_reducible refine (Q.value_Valid.calls k b0 b1 b2 _ _ hvb).mono ?_; rintro e w3 ⟨rfl, hb3⟩; have HS3 := Aside0.mk (HS2.out.below hb3); clear hb3; clear ca0 ca1 ca2 cb0 cb1 cb2 cr0 cr1 fr0 fr1; obtain ⟨ca0, ca1, ca2, cb0, cb1, cb2, cr0, cr1, fr0, fr1⟩ := HS3.out.cells)
    | ((with_reducible refine gate_op (op := .load 32 (.global 0)) rfl ?_); refine gl0_event rfl rfl rfl ?hGl ?_; (case hGl => exact HS3.out.2.2.2.2))
    | ((with_reducible refine gate_op (op := .load 32 (.global 1)) rfl ?_); refine gl1_event rfl rfl rfl ?hGl ?_; (case hGl => exact HS3.out.2.2.2.2)))
  refine bodyPost_ret (results_ct rfl _ _ (w.heap.size + 1 + 1) 32 #[.int .i64 0, .int .i64 0] (0, 0) _ rfl (by (with_reducible repeat (first | refine blk_drewN ?_ _ | refine blk_drew ?_ | refine blk_alloc ?_ _)); refine blk_put (cs := #[.int .i64 0, .int .i64 0]) ?_ 1 _ rfl; (with_reducible repeat (first | refine blk_drewN ?_ _ | refine blk_drew ?_ | refine blk_alloc ?_ _)); refine blk_put (cs := #[.int .i64 0, .int .i64 0]) ?_ 0 _ rfl; (with_reducible repeat (first | refine blk_drewN ?_ _ | refine blk_drew ?_ | refine blk_alloc ?_ _)); exact HS3.out.2.2.1) Tryd.underlying32 rfl (by kernel_rfl)) rfl ?_
  have HBX := HS3.out.2.2.2.1
  exact ⟨rfl, by repeat (first | exact HBX | apply below_alloc | apply pw_below_drewN | apply below_drew1 | refine below_set ?_ (by omega))⟩
set_option maxRecDepth 100000 in
set_option maxHeartbeats 4000000 in
theorem of_2_na (k : Nat) (tol a0 a1 : Int) (a2 : ByteArray) (b0 b1 : Int) (b2 : ByteArray) (w : World) (hG : Gl w) (hva : Q.value_Valid.f k a0 a1 a2 = some true) (hvb : Q.value_Valid.f k b0 b1 b2 = some true) (ha : (a0 == 0) = true) :
    Calls Tryd.prog 20 #[.int .i64 2, .int .i64 tol, .agg #[.int .i64 a0, .int .i64 a1, .string a2], .agg #[.int .i64 b0, .int .i64 b1, .string b2]] w fun e w' => e = .returned (.tuple #[.agg #[.int .i64 0, .int .i64 1], .int .i64 0]) ∧ Below w.heap.size w w' := by
  have HS0 := Aside0.mk (OfS.start (a0 := a0) (a1 := a1) (a2 := a2) (b0 := b0) (b1 := b1) (b2 := b2) hG)
  clear hG
  have hu := Tryd.underlying32
  have hu2 := Tryd.underlying26
  have hnn := eq_nil_nil
  have hfn := eq_func_nil
  have hev := eq_val
  go_enter Tryd.func20, Tryd.ntmps20
  go_wp2_with (first
    | (go_at_call 38; with_reducible refine (texts_calls _).mono ?_; rintro e w1 ⟨b, rfl, hb1, hlk⟩; have hl1 := hlk 2 (by decide); rw [show ofF 2 = .func (.func 50) #[] #[] from rfl] at hl1; clear hlk; have HS1 := Aside0.mk (HS0.out.below hb1); clear hb1; obtain ⟨ca0, ca1, ca2, cb0, cb1, cb2, cr0, cr1, fr0, fr1⟩ := HS1.out.cells)
    | (go_at_call 39; with_reducible refine (Q.value_Valid.calls k a0 a1 a2 _ _ hva).mono ?_; rintro e w2 ⟨rfl, hb2⟩; have HS2 := Aside0.mk (HS1.out.below hb2); clear hb2; clear ca0 ca1 ca2 cb0 cb1 cb2 cr0 cr1 fr0 fr1; obtain ⟨ca0, ca1, ca2, cb0, cb1, cb2, cr0, cr1, fr0, fr1⟩ := HS2.out.cells)
    | (go_at_call 39; with_reducible refine (Q.value_Valid.calls k b0 b1 b2 _ _ hvb).mono ?_; rintro e w3 ⟨rfl, hb3⟩; have HS3 := Aside0.mk (HS2.out.below hb3); clear hb3; clear ca0 ca1 ca2 cb0 cb1 cb2 cr0 cr1 fr0 fr1; obtain ⟨ca0, ca1, ca2, cb0, cb1, cb2, cr0, cr1, fr0, fr1⟩ := HS3.out.cells)
    | ((with_reducible refine gate_op (op := .load 32 (.global 0)) rfl ?_); refine gl0_event rfl rfl rfl ?hGl ?_; (case hGl => exact HS3.out.2.2.2.2))
    | ((with_reducible refine gate_op (op := .load 32 (.global 1)) rfl ?_); refine gl1_event rfl rfl rfl ?hGl ?_; (case hGl => exact HS3.out.2.2.2.2)))
  refine bodyPost_ret (results_ct rfl _ _ (w.heap.size + 1 + 1) 32 #[.int .i64 0, .int .i64 1] (0, 0) _ rfl (by (with_reducible repeat (first | refine blk_drewN ?_ _ | refine blk_drew ?_ | refine blk_alloc ?_ _)); refine blk_put (cs := #[.int .i64 0, .int .i64 0]) ?_ 1 _ rfl; (with_reducible repeat (first | refine blk_drewN ?_ _ | refine blk_drew ?_ | refine blk_alloc ?_ _)); refine blk_put (cs := #[.int .i64 0, .int .i64 0]) ?_ 0 _ rfl; (with_reducible repeat (first | refine blk_drewN ?_ _ | refine blk_drew ?_ | refine blk_alloc ?_ _)); exact HS3.out.2.2.1) Tryd.underlying32 rfl (by kernel_rfl)) rfl ?_
  have HBX := HS3.out.2.2.2.1
  exact ⟨rfl, by repeat (first | exact HBX | apply below_alloc | apply pw_below_drewN | apply below_drew1 | refine below_set ?_ (by omega))⟩
set_option maxRecDepth 100000 in
set_option maxHeartbeats 4000000 in
theorem of_2_nb (k : Nat) (tol a0 a1 : Int) (a2 : ByteArray) (b0 b1 : Int) (b2 : ByteArray) (w : World) (hG : Gl w) (hva : Q.value_Valid.f k a0 a1 a2 = some true) (hvb : Q.value_Valid.f k b0 b1 b2 = some true) (ha : (a0 == 0) = false) (hb : (b0 == 0) = true) :
    Calls Tryd.prog 20 #[.int .i64 2, .int .i64 tol, .agg #[.int .i64 a0, .int .i64 a1, .string a2], .agg #[.int .i64 b0, .int .i64 b1, .string b2]] w fun e w' => e = .returned (.tuple #[.agg #[.int .i64 0, .int .i64 1], .int .i64 0]) ∧ Below w.heap.size w w' := by
  have HS0 := Aside0.mk (OfS.start (a0 := a0) (a1 := a1) (a2 := a2) (b0 := b0) (b1 := b1) (b2 := b2) hG)
  clear hG
  have hu := Tryd.underlying32
  have hu2 := Tryd.underlying26
  have hnn := eq_nil_nil
  have hfn := eq_func_nil
  have hev := eq_val
  go_enter Tryd.func20, Tryd.ntmps20
  go_wp2_with (first
    | (go_at_call 38; with_reducible refine (texts_calls _).mono ?_; rintro e w1 ⟨b, rfl, hb1, hlk⟩; have hl1 := hlk 2 (by decide); rw [show ofF 2 = .func (.func 50) #[] #[] from rfl] at hl1; clear hlk; have HS1 := Aside0.mk (HS0.out.below hb1); clear hb1; obtain ⟨ca0, ca1, ca2, cb0, cb1, cb2, cr0, cr1, fr0, fr1⟩ := HS1.out.cells)
    | (go_at_call 39; with_reducible refine (Q.value_Valid.calls k a0 a1 a2 _ _ hva).mono ?_; rintro e w2 ⟨rfl, hb2⟩; have HS2 := Aside0.mk (HS1.out.below hb2); clear hb2; clear ca0 ca1 ca2 cb0 cb1 cb2 cr0 cr1 fr0 fr1; obtain ⟨ca0, ca1, ca2, cb0, cb1, cb2, cr0, cr1, fr0, fr1⟩ := HS2.out.cells)
    | (go_at_call 39; with_reducible refine (Q.value_Valid.calls k b0 b1 b2 _ _ hvb).mono ?_; rintro e w3 ⟨rfl, hb3⟩; have HS3 := Aside0.mk (HS2.out.below hb3); clear hb3; clear ca0 ca1 ca2 cb0 cb1 cb2 cr0 cr1 fr0 fr1; obtain ⟨ca0, ca1, ca2, cb0, cb1, cb2, cr0, cr1, fr0, fr1⟩ := HS3.out.cells)
    | ((with_reducible refine gate_op (op := .load 32 (.global 0)) rfl ?_); refine gl0_event rfl rfl rfl ?hGl ?_; (case hGl => exact HS3.out.2.2.2.2))
    | ((with_reducible refine gate_op (op := .load 32 (.global 1)) rfl ?_); refine gl1_event rfl rfl rfl ?hGl ?_; (case hGl => exact HS3.out.2.2.2.2)))
  refine bodyPost_ret (results_ct rfl _ _ (w.heap.size + 1 + 1) 32 #[.int .i64 0, .int .i64 1] (0, 0) _ rfl (by (with_reducible repeat (first | refine blk_drewN ?_ _ | refine blk_drew ?_ | refine blk_alloc ?_ _)); refine blk_put (cs := #[.int .i64 0, .int .i64 0]) ?_ 1 _ rfl; (with_reducible repeat (first | refine blk_drewN ?_ _ | refine blk_drew ?_ | refine blk_alloc ?_ _)); refine blk_put (cs := #[.int .i64 0, .int .i64 0]) ?_ 0 _ rfl; (with_reducible repeat (first | refine blk_drewN ?_ _ | refine blk_drew ?_ | refine blk_alloc ?_ _)); exact HS3.out.2.2.1) Tryd.underlying32 rfl (by kernel_rfl)) rfl ?_
  have HBX := HS3.out.2.2.2.1
  exact ⟨rfl, by repeat (first | exact HBX | apply below_alloc | apply pw_below_drewN | apply below_drew1 | refine below_set ?_ (by omega))⟩
set_option maxRecDepth 100000 in
set_option maxHeartbeats 4000000 in
theorem of_2_kd (k : Nat) (tol a0 a1 : Int) (a2 : ByteArray) (b0 b1 : Int) (b2 : ByteArray) (w : World) (hG : Gl w) (hva : Q.value_Valid.f k a0 a1 a2 = some true) (hvb : Q.value_Valid.f k b0 b1 b2 = some true) (ha : (a0 == 0) = false) (hb : (b0 == 0) = false) (e0 : (a0 != b0) = true) :
    Calls Tryd.prog 20 #[.int .i64 2, .int .i64 tol, .agg #[.int .i64 a0, .int .i64 a1, .string a2], .agg #[.int .i64 b0, .int .i64 b1, .string b2]] w fun e w' => e = .returned (.tuple #[.agg #[.int .i64 0, .int .i64 0], .int .i64 10]) ∧ Below w.heap.size w w' := by
  have HS0 := Aside0.mk (OfS.start (a0 := a0) (a1 := a1) (a2 := a2) (b0 := b0) (b1 := b1) (b2 := b2) hG)
  clear hG
  have hu := Tryd.underlying32
  have hu2 := Tryd.underlying26
  have hnn := eq_nil_nil
  have hfn := eq_func_nil
  have hev := eq_val
  go_enter Tryd.func20, Tryd.ntmps20
  go_wp2_with (first
    | (go_at_call 38; with_reducible refine (texts_calls _).mono ?_; rintro e w1 ⟨b, rfl, hb1, hlk⟩; have hl1 := hlk 2 (by decide); rw [show ofF 2 = .func (.func 50) #[] #[] from rfl] at hl1; clear hlk; have HS1 := Aside0.mk (HS0.out.below hb1); clear hb1; obtain ⟨ca0, ca1, ca2, cb0, cb1, cb2, cr0, cr1, fr0, fr1⟩ := HS1.out.cells)
    | (go_at_call 39; with_reducible refine (Q.value_Valid.calls k a0 a1 a2 _ _ hva).mono ?_; rintro e w2 ⟨rfl, hb2⟩; have HS2 := Aside0.mk (HS1.out.below hb2); clear hb2; clear ca0 ca1 ca2 cb0 cb1 cb2 cr0 cr1 fr0 fr1; obtain ⟨ca0, ca1, ca2, cb0, cb1, cb2, cr0, cr1, fr0, fr1⟩ := HS2.out.cells)
    | (go_at_call 39; with_reducible refine (Q.value_Valid.calls k b0 b1 b2 _ _ hvb).mono ?_; rintro e w3 ⟨rfl, hb3⟩; have HS3 := Aside0.mk (HS2.out.below hb3); clear hb3; clear ca0 ca1 ca2 cb0 cb1 cb2 cr0 cr1 fr0 fr1; obtain ⟨ca0, ca1, ca2, cb0, cb1, cb2, cr0, cr1, fr0, fr1⟩ := HS3.out.cells)
    | ((with_reducible refine gate_op (op := .load 32 (.global 0)) rfl ?_); refine gl0_event rfl rfl rfl ?hGl ?_; (case hGl => exact HS3.out.2.2.2.2))
    | ((with_reducible refine gate_op (op := .load 32 (.global 1)) rfl ?_); refine gl1_event rfl rfl rfl ?hGl ?_; (case hGl => exact HS3.out.2.2.2.2)))
  refine bodyPost_ret (results_ct rfl _ _ (w.heap.size + 1 + 1) 32 #[.int .i64 0, .int .i64 0] (0, 0) _ rfl (by (with_reducible repeat (first | refine blk_drewN ?_ _ | refine blk_drew ?_ | refine blk_alloc ?_ _)); refine blk_put (cs := #[.int .i64 0, .int .i64 0]) ?_ 1 _ rfl; (with_reducible repeat (first | refine blk_drewN ?_ _ | refine blk_drew ?_ | refine blk_alloc ?_ _)); refine blk_put (cs := #[.int .i64 0, .int .i64 0]) ?_ 0 _ rfl; (with_reducible repeat (first | refine blk_drewN ?_ _ | refine blk_drew ?_ | refine blk_alloc ?_ _)); exact HS3.out.2.2.1) Tryd.underlying32 rfl (by kernel_rfl)) rfl ?_
  have HBX := HS3.out.2.2.2.1
  exact ⟨rfl, by repeat (first | exact HBX | apply below_alloc | apply pw_below_drewN | apply below_drew1 | refine below_set ?_ (by omega))⟩
set_option maxRecDepth 100000 in
set_option maxHeartbeats 4000000 in
theorem of_2_ty (k : Nat) (tol a0 a1 : Int) (a2 : ByteArray) (b0 b1 : Int) (b2 : ByteArray) (w : World) (hG : Gl w) (hva : Q.value_Valid.f k a0 a1 a2 = some true) (hvb : Q.value_Valid.f k b0 b1 b2 = some true) (ha : (a0 == 0) = false) (hb : (b0 == 0) = false) (e0 : (a0 != b0) = false) (e1 : (a0 != 1) = true) :
    Calls Tryd.prog 20 #[.int .i64 2, .int .i64 tol, .agg #[.int .i64 a0, .int .i64 a1, .string a2], .agg #[.int .i64 b0, .int .i64 b1, .string b2]] w fun e w' => e = .returned (.tuple #[.agg #[.int .i64 0, .int .i64 0], .int .i64 10]) ∧ Below w.heap.size w w' := by
  have HS0 := Aside0.mk (OfS.start (a0 := a0) (a1 := a1) (a2 := a2) (b0 := b0) (b1 := b1) (b2 := b2) hG)
  clear hG
  have hu := Tryd.underlying32
  have hu2 := Tryd.underlying26
  have hnn := eq_nil_nil
  have hfn := eq_func_nil
  have hev := eq_val
  go_enter Tryd.func20, Tryd.ntmps20
  go_wp2_with (first
    | (go_at_call 38; with_reducible refine (texts_calls _).mono ?_; rintro e w1 ⟨b, rfl, hb1, hlk⟩; have hl1 := hlk 2 (by decide); rw [show ofF 2 = .func (.func 50) #[] #[] from rfl] at hl1; clear hlk; have HS1 := Aside0.mk (HS0.out.below hb1); clear hb1; obtain ⟨ca0, ca1, ca2, cb0, cb1, cb2, cr0, cr1, fr0, fr1⟩ := HS1.out.cells)
    | (go_at_call 39; with_reducible refine (Q.value_Valid.calls k a0 a1 a2 _ _ hva).mono ?_; rintro e w2 ⟨rfl, hb2⟩; have HS2 := Aside0.mk (HS1.out.below hb2); clear hb2; clear ca0 ca1 ca2 cb0 cb1 cb2 cr0 cr1 fr0 fr1; obtain ⟨ca0, ca1, ca2, cb0, cb1, cb2, cr0, cr1, fr0, fr1⟩ := HS2.out.cells)
    | (go_at_call 39; with_reducible refine (Q.value_Valid.calls k b0 b1 b2 _ _ hvb).mono ?_; rintro e w3 ⟨rfl, hb3⟩; have HS3 := Aside0.mk (HS2.out.below hb3); clear hb3; clear ca0 ca1 ca2 cb0 cb1 cb2 cr0 cr1 fr0 fr1; obtain ⟨ca0, ca1, ca2, cb0, cb1, cb2, cr0, cr1, fr0, fr1⟩ := HS3.out.cells)
    | ((with_reducible refine gate_op (op := .load 32 (.global 0)) rfl ?_); refine gl0_event rfl rfl rfl ?hGl ?_; (case hGl => exact HS3.out.2.2.2.2))
    | ((with_reducible refine gate_op (op := .load 32 (.global 1)) rfl ?_); refine gl1_event rfl rfl rfl ?hGl ?_; (case hGl => exact HS3.out.2.2.2.2)))
  refine bodyPost_ret (results_ct rfl _ _ (w.heap.size + 1 + 1) 32 #[.int .i64 0, .int .i64 0] (0, 0) _ rfl (by (with_reducible repeat (first | refine blk_drewN ?_ _ | refine blk_drew ?_ | refine blk_alloc ?_ _)); refine blk_put (cs := #[.int .i64 0, .int .i64 0]) ?_ 1 _ rfl; (with_reducible repeat (first | refine blk_drewN ?_ _ | refine blk_drew ?_ | refine blk_alloc ?_ _)); refine blk_put (cs := #[.int .i64 0, .int .i64 0]) ?_ 0 _ rfl; (with_reducible repeat (first | refine blk_drewN ?_ _ | refine blk_drew ?_ | refine blk_alloc ?_ _)); exact HS3.out.2.2.1) Tryd.underlying32 rfl (by kernel_rfl)) rfl ?_
  have HBX := HS3.out.2.2.2.1
  exact ⟨rfl, by repeat (first | exact HBX | apply below_alloc | apply pw_below_drewN | apply below_drew1 | refine below_set ?_ (by omega))⟩
set_option maxRecDepth 100000 in
set_option maxHeartbeats 4000000 in
theorem of_2_c (k : Nat) (tol a0 a1 : Int) (a2 : ByteArray) (b0 b1 : Int) (b2 : ByteArray) (w : World) (hG : Gl w) (hva : Q.value_Valid.f k a0 a1 a2 = some true) (hvb : Q.value_Valid.f k b0 b1 b2 = some true) (ha : (a0 == 0) = false) (hb : (b0 == 0) = false) (e0 : (a0 != b0) = false) (e1 : (a0 != 1) = false) (r1 r2 : Int) (hN : CL.measure_texts_1.f k a2 b2 = some (r1, r2)) :
    Calls Tryd.prog 20 #[.int .i64 2, .int .i64 tol, .agg #[.int .i64 a0, .int .i64 a1, .string a2], .agg #[.int .i64 b0, .int .i64 b1, .string b2]] w fun e w' => e = .returned (.tuple #[.agg #[.int .i64 r1, .int .i64 r2], .int .i64 0]) ∧ Below w.heap.size w w' := by
  have HS0 := Aside0.mk (OfS.start (a0 := a0) (a1 := a1) (a2 := a2) (b0 := b0) (b1 := b1) (b2 := b2) hG)
  clear hG
  have hu := Tryd.underlying32
  have hu2 := Tryd.underlying26
  have hnn := eq_nil_nil
  have hfn := eq_func_nil
  have hev := eq_val
  go_enter Tryd.func20, Tryd.ntmps20
  go_wp2_with (first
    | (go_at_call 38; with_reducible refine (texts_calls _).mono ?_; rintro e w1 ⟨b, rfl, hb1, hlk⟩; have hl1 := hlk 2 (by decide); rw [show ofF 2 = .func (.func 50) #[] #[] from rfl] at hl1; clear hlk; have HS1 := Aside0.mk (HS0.out.below hb1); clear hb1; obtain ⟨ca0, ca1, ca2, cb0, cb1, cb2, cr0, cr1, fr0, fr1⟩ := HS1.out.cells)
    | (go_at_call 39; with_reducible refine (Q.value_Valid.calls k a0 a1 a2 _ _ hva).mono ?_; rintro e w2 ⟨rfl, hb2⟩; have HS2 := Aside0.mk (HS1.out.below hb2); clear hb2; clear ca0 ca1 ca2 cb0 cb1 cb2 cr0 cr1 fr0 fr1; obtain ⟨ca0, ca1, ca2, cb0, cb1, cb2, cr0, cr1, fr0, fr1⟩ := HS2.out.cells)
    | (go_at_call 39; with_reducible refine (Q.value_Valid.calls k b0 b1 b2 _ _ hvb).mono ?_; rintro e w3 ⟨rfl, hb3⟩; have HS3 := Aside0.mk (HS2.out.below hb3); clear hb3; clear ca0 ca1 ca2 cb0 cb1 cb2 cr0 cr1 fr0 fr1; obtain ⟨ca0, ca1, ca2, cb0, cb1, cb2, cr0, cr1, fr0, fr1⟩ := HS3.out.cells)
    | ((with_reducible refine gate_op (op := .load 32 (.global 0)) rfl ?_); refine gl0_event rfl rfl rfl ?hGl ?_; (case hGl => exact HS3.out.2.2.2.2))
    | ((with_reducible refine gate_op (op := .load 32 (.global 1)) rfl ?_); refine gl1_event rfl rfl rfl ?hGl ?_; (case hGl => exact HS3.out.2.2.2.2))
    | (go_at_call 50; with_reducible refine (CL.measure_texts_1.calls k a2 b2 r1 r2 _ HS3.out.gl hN).mono ?_; rintro e w4 ⟨rfl, hb4⟩; have HS4 := Aside0.mk (HS3.out.below hb4); clear hb4; clear ca0 ca1 ca2 cb0 cb1 cb2 cr0 cr1 fr0 fr1; obtain ⟨ca0, ca1, ca2, cb0, cb1, cb2, cr0, cr1, fr0, fr1⟩ := HS4.out.cells))
  refine bodyPost_ret (results_ct rfl _ _ (w.heap.size + 1 + 1) 32 #[.int .i64 r1, .int .i64 r2] (0, 0) _ rfl (by (with_reducible repeat (first | refine blk_drewN ?_ _ | refine blk_drew ?_ | refine blk_alloc ?_ _)); refine blk_put (cs := #[.int .i64 r1, .int .i64 0]) ?_ 1 _ rfl; (with_reducible repeat (first | refine blk_drewN ?_ _ | refine blk_drew ?_ | refine blk_alloc ?_ _)); refine blk_put (cs := #[.int .i64 0, .int .i64 0]) ?_ 0 _ rfl; (with_reducible repeat (first | refine blk_drewN ?_ _ | refine blk_drew ?_ | refine blk_alloc ?_ _)); exact HS4.out.2.2.1) Tryd.underlying32 rfl (by kernel_rfl)) rfl ?_
  have HBX := HS4.out.2.2.2.1
  exact ⟨rfl, by repeat (first | exact HBX | apply below_alloc | apply pw_below_drewN | apply below_drew1 | refine below_set ?_ (by omega))⟩
set_option maxRecDepth 100000 in
set_option maxHeartbeats 4000000 in
theorem of_3_va (k : Nat) (tol a0 a1 : Int) (a2 : ByteArray) (b0 b1 : Int) (b2 : ByteArray) (w : World) (hG : Gl w) (hva : Q.value_Valid.f k a0 a1 a2 = some false) :
    Calls Tryd.prog 20 #[.int .i64 3, .int .i64 tol, .agg #[.int .i64 a0, .int .i64 a1, .string a2], .agg #[.int .i64 b0, .int .i64 b1, .string b2]] w fun e w' => e = .returned (.tuple #[.agg #[.int .i64 0, .int .i64 0], .int .i64 1]) ∧ Below w.heap.size w w' := by
  have HS0 := Aside0.mk (OfS.start (a0 := a0) (a1 := a1) (a2 := a2) (b0 := b0) (b1 := b1) (b2 := b2) hG)
  clear hG
  have hu := Tryd.underlying32
  have hu2 := Tryd.underlying26
  have hnn := eq_nil_nil
  have hfn := eq_func_nil
  have hev := eq_val
  go_enter Tryd.func20, Tryd.ntmps20
  go_wp2_with (first
    | (go_at_call 38; with_reducible refine (texts_calls _).mono ?_; rintro e w1 ⟨b, rfl, hb1, hlk⟩; have hl1 := hlk 3 (by decide); rw [show ofF 3 = .func (.func 52) #[] #[] from rfl] at hl1; clear hlk; have HS1 := Aside0.mk (HS0.out.below hb1); clear hb1; obtain ⟨ca0, ca1, ca2, cb0, cb1, cb2, cr0, cr1, fr0, fr1⟩ := HS1.out.cells)
    | (go_at_call 39; with_reducible refine (Q.value_Valid.calls k a0 a1 a2 _ _ hva).mono ?_; rintro e w2 ⟨rfl, hb2⟩; have HS2 := Aside0.mk (HS1.out.below hb2); clear hb2; clear ca0 ca1 ca2 cb0 cb1 cb2 cr0 cr1 fr0 fr1; obtain ⟨ca0, ca1, ca2, cb0, cb1, cb2, cr0, cr1, fr0, fr1⟩ := HS2.out.cells)
    | ((with_reducible refine gate_op (op := .load 32 (.global 0)) rfl ?_); refine gl0_event rfl rfl rfl ?hGl ?_; (case hGl => exact HS2.out.2.2.2.2))
    | ((with_reducible refine gate_op (op := .load 32 (.global 1)) rfl ?_); refine gl1_event rfl rfl rfl ?hGl ?_; (case hGl => exact HS2.out.2.2.2.2)))
  refine bodyPost_ret (results_ct rfl _ _ (w.heap.size + 1 + 1) 32 #[.int .i64 0, .int .i64 0] (0, 0) _ rfl (by (with_reducible repeat (first | refine blk_drewN ?_ _ | refine blk_drew ?_ | refine blk_alloc ?_ _)); refine blk_put (cs := #[.int .i64 0, .int .i64 0]) ?_ 1 _ rfl; (with_reducible repeat (first | refine blk_drewN ?_ _ | refine blk_drew ?_ | refine blk_alloc ?_ _)); refine blk_put (cs := #[.int .i64 0, .int .i64 0]) ?_ 0 _ rfl; (with_reducible repeat (first | refine blk_drewN ?_ _ | refine blk_drew ?_ | refine blk_alloc ?_ _)); exact HS2.out.2.2.1) Tryd.underlying32 rfl (by kernel_rfl)) rfl ?_
  have HBX := HS2.out.2.2.2.1
  exact ⟨rfl, by repeat (first | exact HBX | apply below_alloc | apply pw_below_drewN | apply below_drew1 | refine below_set ?_ (by omega))⟩
set_option maxRecDepth 100000 in
set_option maxHeartbeats 4000000 in
theorem of_3_vb (k : Nat) (tol a0 a1 : Int) (a2 : ByteArray) (b0 b1 : Int) (b2 : ByteArray) (w : World) (hG : Gl w) (hva : Q.value_Valid.f k a0 a1 a2 = some true) (hvb : Q.value_Valid.f k b0 b1 b2 = some false) :
    Calls Tryd.prog 20 #[.int .i64 3, .int .i64 tol, .agg #[.int .i64 a0, .int .i64 a1, .string a2], .agg #[.int .i64 b0, .int .i64 b1, .string b2]] w fun e w' => e = .returned (.tuple #[.agg #[.int .i64 0, .int .i64 0], .int .i64 1]) ∧ Below w.heap.size w w' := by
  have HS0 := Aside0.mk (OfS.start (a0 := a0) (a1 := a1) (a2 := a2) (b0 := b0) (b1 := b1) (b2 := b2) hG)
  clear hG
  have hu := Tryd.underlying32
  have hu2 := Tryd.underlying26
  have hnn := eq_nil_nil
  have hfn := eq_func_nil
  have hev := eq_val
  go_enter Tryd.func20, Tryd.ntmps20
  go_wp2_with (first
    | (go_at_call 38; with_reducible refine (texts_calls _).mono ?_; rintro e w1 ⟨b, rfl, hb1, hlk⟩; have hl1 := hlk 3 (by decide); rw [show ofF 3 = .func (.func 52) #[] #[] from rfl] at hl1; clear hlk; have HS1 := Aside0.mk (HS0.out.below hb1); clear hb1; obtain ⟨ca0, ca1, ca2, cb0, cb1, cb2, cr0, cr1, fr0, fr1⟩ := HS1.out.cells)
    | (go_at_call 39; with_reducible refine (Q.value_Valid.calls k a0 a1 a2 _ _ hva).mono ?_; rintro e w2 ⟨rfl, hb2⟩; have HS2 := Aside0.mk (HS1.out.below hb2); clear hb2; clear ca0 ca1 ca2 cb0 cb1 cb2 cr0 cr1 fr0 fr1; obtain ⟨ca0, ca1, ca2, cb0, cb1, cb2, cr0, cr1, fr0, fr1⟩ := HS2.out.cells)
    | (go_at_call 39; with_reducible refine (Q.value_Valid.calls k b0 b1 b2 _ _ hvb).mono ?_; rintro e w3 ⟨rfl, hb3⟩; have HS3 := Aside0.mk (HS2.out.below hb3); clear hb3; clear ca0 ca1 ca2 cb0 cb1 cb2 cr0 cr1 fr0 fr1; obtain ⟨ca0, ca1, ca2, cb0, cb1, cb2, cr0, cr1, fr0, fr1⟩ := HS3.out.cells)
    | ((with_reducible refine gate_op (op := .load 32 (.global 0)) rfl ?_); refine gl0_event rfl rfl rfl ?hGl ?_; (case hGl => exact HS3.out.2.2.2.2))
    | ((with_reducible refine gate_op (op := .load 32 (.global 1)) rfl ?_); refine gl1_event rfl rfl rfl ?hGl ?_; (case hGl => exact HS3.out.2.2.2.2)))
  refine bodyPost_ret (results_ct rfl _ _ (w.heap.size + 1 + 1) 32 #[.int .i64 0, .int .i64 0] (0, 0) _ rfl (by (with_reducible repeat (first | refine blk_drewN ?_ _ | refine blk_drew ?_ | refine blk_alloc ?_ _)); refine blk_put (cs := #[.int .i64 0, .int .i64 0]) ?_ 1 _ rfl; (with_reducible repeat (first | refine blk_drewN ?_ _ | refine blk_drew ?_ | refine blk_alloc ?_ _)); refine blk_put (cs := #[.int .i64 0, .int .i64 0]) ?_ 0 _ rfl; (with_reducible repeat (first | refine blk_drewN ?_ _ | refine blk_drew ?_ | refine blk_alloc ?_ _)); exact HS3.out.2.2.1) Tryd.underlying32 rfl (by kernel_rfl)) rfl ?_
  have HBX := HS3.out.2.2.2.1
  exact ⟨rfl, by repeat (first | exact HBX | apply below_alloc | apply pw_below_drewN | apply below_drew1 | refine below_set ?_ (by omega))⟩
set_option maxRecDepth 100000 in
set_option maxHeartbeats 4000000 in
theorem of_3_na (k : Nat) (tol a0 a1 : Int) (a2 : ByteArray) (b0 b1 : Int) (b2 : ByteArray) (w : World) (hG : Gl w) (hva : Q.value_Valid.f k a0 a1 a2 = some true) (hvb : Q.value_Valid.f k b0 b1 b2 = some true) (ha : (a0 == 0) = true) :
    Calls Tryd.prog 20 #[.int .i64 3, .int .i64 tol, .agg #[.int .i64 a0, .int .i64 a1, .string a2], .agg #[.int .i64 b0, .int .i64 b1, .string b2]] w fun e w' => e = .returned (.tuple #[.agg #[.int .i64 0, .int .i64 1], .int .i64 0]) ∧ Below w.heap.size w w' := by
  have HS0 := Aside0.mk (OfS.start (a0 := a0) (a1 := a1) (a2 := a2) (b0 := b0) (b1 := b1) (b2 := b2) hG)
  clear hG
  have hu := Tryd.underlying32
  have hu2 := Tryd.underlying26
  have hnn := eq_nil_nil
  have hfn := eq_func_nil
  have hev := eq_val
  go_enter Tryd.func20, Tryd.ntmps20
  go_wp2_with (first
    | (go_at_call 38; with_reducible refine (texts_calls _).mono ?_; rintro e w1 ⟨b, rfl, hb1, hlk⟩; have hl1 := hlk 3 (by decide); rw [show ofF 3 = .func (.func 52) #[] #[] from rfl] at hl1; clear hlk; have HS1 := Aside0.mk (HS0.out.below hb1); clear hb1; obtain ⟨ca0, ca1, ca2, cb0, cb1, cb2, cr0, cr1, fr0, fr1⟩ := HS1.out.cells)
    | (go_at_call 39; with_reducible refine (Q.value_Valid.calls k a0 a1 a2 _ _ hva).mono ?_; rintro e w2 ⟨rfl, hb2⟩; have HS2 := Aside0.mk (HS1.out.below hb2); clear hb2; clear ca0 ca1 ca2 cb0 cb1 cb2 cr0 cr1 fr0 fr1; obtain ⟨ca0, ca1, ca2, cb0, cb1, cb2, cr0, cr1, fr0, fr1⟩ := HS2.out.cells)
    | (go_at_call 39; with_reducible refine (Q.value_Valid.calls k b0 b1 b2 _ _ hvb).mono ?_; rintro e w3 ⟨rfl, hb3⟩; have HS3 := Aside0.mk (HS2.out.below hb3); clear hb3; clear ca0 ca1 ca2 cb0 cb1 cb2 cr0 cr1 fr0 fr1; obtain ⟨ca0, ca1, ca2, cb0, cb1, cb2, cr0, cr1, fr0, fr1⟩ := HS3.out.cells)
    | ((with_reducible refine gate_op (op := .load 32 (.global 0)) rfl ?_); refine gl0_event rfl rfl rfl ?hGl ?_; (case hGl => exact HS3.out.2.2.2.2))
    | ((with_reducible refine gate_op (op := .load 32 (.global 1)) rfl ?_); refine gl1_event rfl rfl rfl ?hGl ?_; (case hGl => exact HS3.out.2.2.2.2)))
  refine bodyPost_ret (results_ct rfl _ _ (w.heap.size + 1 + 1) 32 #[.int .i64 0, .int .i64 1] (0, 0) _ rfl (by (with_reducible repeat (first | refine blk_drewN ?_ _ | refine blk_drew ?_ | refine blk_alloc ?_ _)); refine blk_put (cs := #[.int .i64 0, .int .i64 0]) ?_ 1 _ rfl; (with_reducible repeat (first | refine blk_drewN ?_ _ | refine blk_drew ?_ | refine blk_alloc ?_ _)); refine blk_put (cs := #[.int .i64 0, .int .i64 0]) ?_ 0 _ rfl; (with_reducible repeat (first | refine blk_drewN ?_ _ | refine blk_drew ?_ | refine blk_alloc ?_ _)); exact HS3.out.2.2.1) Tryd.underlying32 rfl (by kernel_rfl)) rfl ?_
  have HBX := HS3.out.2.2.2.1
  exact ⟨rfl, by repeat (first | exact HBX | apply below_alloc | apply pw_below_drewN | apply below_drew1 | refine below_set ?_ (by omega))⟩
set_option maxRecDepth 100000 in
set_option maxHeartbeats 4000000 in
theorem of_3_nb (k : Nat) (tol a0 a1 : Int) (a2 : ByteArray) (b0 b1 : Int) (b2 : ByteArray) (w : World) (hG : Gl w) (hva : Q.value_Valid.f k a0 a1 a2 = some true) (hvb : Q.value_Valid.f k b0 b1 b2 = some true) (ha : (a0 == 0) = false) (hb : (b0 == 0) = true) :
    Calls Tryd.prog 20 #[.int .i64 3, .int .i64 tol, .agg #[.int .i64 a0, .int .i64 a1, .string a2], .agg #[.int .i64 b0, .int .i64 b1, .string b2]] w fun e w' => e = .returned (.tuple #[.agg #[.int .i64 0, .int .i64 1], .int .i64 0]) ∧ Below w.heap.size w w' := by
  have HS0 := Aside0.mk (OfS.start (a0 := a0) (a1 := a1) (a2 := a2) (b0 := b0) (b1 := b1) (b2 := b2) hG)
  clear hG
  have hu := Tryd.underlying32
  have hu2 := Tryd.underlying26
  have hnn := eq_nil_nil
  have hfn := eq_func_nil
  have hev := eq_val
  go_enter Tryd.func20, Tryd.ntmps20
  go_wp2_with (first
    | (go_at_call 38; with_reducible refine (texts_calls _).mono ?_; rintro e w1 ⟨b, rfl, hb1, hlk⟩; have hl1 := hlk 3 (by decide); rw [show ofF 3 = .func (.func 52) #[] #[] from rfl] at hl1; clear hlk; have HS1 := Aside0.mk (HS0.out.below hb1); clear hb1; obtain ⟨ca0, ca1, ca2, cb0, cb1, cb2, cr0, cr1, fr0, fr1⟩ := HS1.out.cells)
    | (go_at_call 39; with_reducible refine (Q.value_Valid.calls k a0 a1 a2 _ _ hva).mono ?_; rintro e w2 ⟨rfl, hb2⟩; have HS2 := Aside0.mk (HS1.out.below hb2); clear hb2; clear ca0 ca1 ca2 cb0 cb1 cb2 cr0 cr1 fr0 fr1; obtain ⟨ca0, ca1, ca2, cb0, cb1, cb2, cr0, cr1, fr0, fr1⟩ := HS2.out.cells)
    | (go_at_call 39; with_reducible refine (Q.value_Valid.calls k b0 b1 b2 _ _ hvb).mono ?_; rintro e w3 ⟨rfl, hb3⟩; have HS3 := Aside0.mk (HS2.out.below hb3); clear hb3; clear ca0 ca1 ca2 cb0 cb1 cb2 cr0 cr1 fr0 fr1; obtain ⟨ca0, ca1, ca2, cb0, cb1, cb2, cr0, cr1, fr0, fr1⟩ := HS3.out.cells)
    | ((with_reducible refine gate_op (op := .load 32 (.global 0)) rfl ?_); refine gl0_event rfl rfl rfl ?hGl ?_; (case hGl => exact HS3.out.2.2.2.2))
    | ((with_reducible refine gate_op (op := .load 32 (.global 1)) rfl ?_); refine gl1_event rfl rfl rfl ?hGl ?_; (case hGl => exact HS3.out.2.2.2.2)))
  refine bodyPost_ret (results_ct rfl _ _ (w.heap.size + 1 + 1) 32 #[.int .i64 0, .int .i64 1] (0, 0) _ rfl (by (with_reducible repeat (first | refine blk_drewN ?_ _ | refine blk_drew ?_ | refine blk_alloc ?_ _)); refine blk_put (cs := #[.int .i64 0, .int .i64 0]) ?_ 1 _ rfl; (with_reducible repeat (first | refine blk_drewN ?_ _ | refine blk_drew ?_ | refine blk_alloc ?_ _)); refine blk_put (cs := #[.int .i64 0, .int .i64 0]) ?_ 0 _ rfl; (with_reducible repeat (first | refine blk_drewN ?_ _ | refine blk_drew ?_ | refine blk_alloc ?_ _)); exact HS3.out.2.2.1) Tryd.underlying32 rfl (by kernel_rfl)) rfl ?_
  have HBX := HS3.out.2.2.2.1
  exact ⟨rfl, by repeat (first | exact HBX | apply below_alloc | apply pw_below_drewN | apply below_drew1 | refine below_set ?_ (by omega))⟩
set_option maxRecDepth 100000 in
set_option maxHeartbeats 4000000 in
theorem of_3_kd (k : Nat) (tol a0 a1 : Int) (a2 : ByteArray) (b0 b1 : Int) (b2 : ByteArray) (w : World) (hG : Gl w) (hva : Q.value_Valid.f k a0 a1 a2 = some true) (hvb : Q.value_Valid.f k b0 b1 b2 = some true) (ha : (a0 == 0) = false) (hb : (b0 == 0) = false) (e0 : (a0 != b0) = true) :
    Calls Tryd.prog 20 #[.int .i64 3, .int .i64 tol, .agg #[.int .i64 a0, .int .i64 a1, .string a2], .agg #[.int .i64 b0, .int .i64 b1, .string b2]] w fun e w' => e = .returned (.tuple #[.agg #[.int .i64 0, .int .i64 0], .int .i64 10]) ∧ Below w.heap.size w w' := by
  have HS0 := Aside0.mk (OfS.start (a0 := a0) (a1 := a1) (a2 := a2) (b0 := b0) (b1 := b1) (b2 := b2) hG)
  clear hG
  have hu := Tryd.underlying32
  have hu2 := Tryd.underlying26
  have hnn := eq_nil_nil
  have hfn := eq_func_nil
  have hev := eq_val
  go_enter Tryd.func20, Tryd.ntmps20
  go_wp2_with (first
    | (go_at_call 38; with_reducible refine (texts_calls _).mono ?_; rintro e w1 ⟨b, rfl, hb1, hlk⟩; have hl1 := hlk 3 (by decide); rw [show ofF 3 = .func (.func 52) #[] #[] from rfl] at hl1; clear hlk; have HS1 := Aside0.mk (HS0.out.below hb1); clear hb1; obtain ⟨ca0, ca1, ca2, cb0, cb1, cb2, cr0, cr1, fr0, fr1⟩ := HS1.out.cells)
    | (go_at_call 39; with_reducible refine (Q.value_Valid.calls k a0 a1 a2 _ _ hva).mono ?_; rintro e w2 ⟨rfl, hb2⟩; have HS2 := Aside0.mk (HS1.out.below hb2); clear hb2; clear ca0 ca1 ca2 cb0 cb1 cb2 cr0 cr1 fr0 fr1; obtain ⟨ca0, ca1, ca2, cb0, cb1, cb2, cr0, cr1, fr0, fr1⟩ := HS2.out.cells)
    | (go_at_call 39; with_reducible refine (Q.value_Valid.calls k b0 b1 b2 _ _ hvb).mono ?_; rintro e w3 ⟨rfl, hb3⟩; have HS3 := Aside0.mk (HS2.out.below hb3); clear hb3; clear ca0 ca1 ca2 cb0 cb1 cb2 cr0 cr1 fr0 fr1; obtain ⟨ca0, ca1, ca2, cb0, cb1, cb2, cr0, cr1, fr0, fr1⟩ := HS3.out.cells)
    | ((with_reducible refine gate_op (op := .load 32 (.global 0)) rfl ?_); refine gl0_event rfl rfl rfl ?hGl ?_; (case hGl => exact HS3.out.2.2.2.2))
    | ((with_reducible refine gate_op (op := .load 32 (.global 1)) rfl ?_); refine gl1_event rfl rfl rfl ?hGl ?_; (case hGl => exact HS3.out.2.2.2.2)))
  refine bodyPost_ret (results_ct rfl _ _ (w.heap.size + 1 + 1) 32 #[.int .i64 0, .int .i64 0] (0, 0) _ rfl (by (with_reducible repeat (first | refine blk_drewN ?_ _ | refine blk_drew ?_ | refine blk_alloc ?_ _)); refine blk_put (cs := #[.int .i64 0, .int .i64 0]) ?_ 1 _ rfl; (with_reducible repeat (first | refine blk_drewN ?_ _ | refine blk_drew ?_ | refine blk_alloc ?_ _)); refine blk_put (cs := #[.int .i64 0, .int .i64 0]) ?_ 0 _ rfl; (with_reducible repeat (first | refine blk_drewN ?_ _ | refine blk_drew ?_ | refine blk_alloc ?_ _)); exact HS3.out.2.2.1) Tryd.underlying32 rfl (by kernel_rfl)) rfl ?_
  have HBX := HS3.out.2.2.2.1
  exact ⟨rfl, by repeat (first | exact HBX | apply below_alloc | apply pw_below_drewN | apply below_drew1 | refine below_set ?_ (by omega))⟩
set_option maxRecDepth 100000 in
set_option maxHeartbeats 4000000 in
theorem of_3_ty (k : Nat) (tol a0 a1 : Int) (a2 : ByteArray) (b0 b1 : Int) (b2 : ByteArray) (w : World) (hG : Gl w) (hva : Q.value_Valid.f k a0 a1 a2 = some true) (hvb : Q.value_Valid.f k b0 b1 b2 = some true) (ha : (a0 == 0) = false) (hb : (b0 == 0) = false) (e0 : (a0 != b0) = false) (e1 : (a0 != 1) = true) :
    Calls Tryd.prog 20 #[.int .i64 3, .int .i64 tol, .agg #[.int .i64 a0, .int .i64 a1, .string a2], .agg #[.int .i64 b0, .int .i64 b1, .string b2]] w fun e w' => e = .returned (.tuple #[.agg #[.int .i64 0, .int .i64 0], .int .i64 10]) ∧ Below w.heap.size w w' := by
  have HS0 := Aside0.mk (OfS.start (a0 := a0) (a1 := a1) (a2 := a2) (b0 := b0) (b1 := b1) (b2 := b2) hG)
  clear hG
  have hu := Tryd.underlying32
  have hu2 := Tryd.underlying26
  have hnn := eq_nil_nil
  have hfn := eq_func_nil
  have hev := eq_val
  go_enter Tryd.func20, Tryd.ntmps20
  go_wp2_with (first
    | (go_at_call 38; with_reducible refine (texts_calls _).mono ?_; rintro e w1 ⟨b, rfl, hb1, hlk⟩; have hl1 := hlk 3 (by decide); rw [show ofF 3 = .func (.func 52) #[] #[] from rfl] at hl1; clear hlk; have HS1 := Aside0.mk (HS0.out.below hb1); clear hb1; obtain ⟨ca0, ca1, ca2, cb0, cb1, cb2, cr0, cr1, fr0, fr1⟩ := HS1.out.cells)
    | (go_at_call 39; with_reducible refine (Q.value_Valid.calls k a0 a1 a2 _ _ hva).mono ?_; rintro e w2 ⟨rfl, hb2⟩; have HS2 := Aside0.mk (HS1.out.below hb2); clear hb2; clear ca0 ca1 ca2 cb0 cb1 cb2 cr0 cr1 fr0 fr1; obtain ⟨ca0, ca1, ca2, cb0, cb1, cb2, cr0, cr1, fr0, fr1⟩ := HS2.out.cells)
    | (go_at_call 39; with_reducible refine (Q.value_Valid.calls k b0 b1 b2 _ _ hvb).mono ?_; rintro e w3 ⟨rfl, hb3⟩; have HS3 := Aside0.mk (HS2.out.below hb3); clear hb3; clear ca0 ca1 ca2 cb0 cb1 cb2 cr0 cr1 fr0 fr1; obtain ⟨ca0, ca1, ca2, cb0, cb1, cb2, cr0, cr1, fr0, fr1⟩ := HS3.out.cells)
    | ((with_reducible refine gate_op (op := .load 32 (.global 0)) rfl ?_); refine gl0_event rfl rfl rfl ?hGl ?_; (case hGl => exact HS3.out.2.2.2.2))
    | ((with_reducible refine gate_op (op := .load 32 (.global 1)) rfl ?_); refine gl1_event rfl rfl rfl ?hGl ?_; (case hGl => exact HS3.out.2.2.2.2)))
  refine bodyPost_ret (results_ct rfl _ _ (w.heap.size + 1 + 1) 32 #[.int .i64 0, .int .i64 0] (0, 0) _ rfl (by (with_reducible repeat (first | refine blk_drewN ?_ _ | refine blk_drew ?_ | refine blk_alloc ?_ _)); refine blk_put (cs := #[.int .i64 0, .int .i64 0]) ?_ 1 _ rfl; (with_reducible repeat (first | refine blk_drewN ?_ _ | refine blk_drew ?_ | refine blk_alloc ?_ _)); refine blk_put (cs := #[.int .i64 0, .int .i64 0]) ?_ 0 _ rfl; (with_reducible repeat (first | refine blk_drewN ?_ _ | refine blk_drew ?_ | refine blk_alloc ?_ _)); exact HS3.out.2.2.1) Tryd.underlying32 rfl (by kernel_rfl)) rfl ?_
  have HBX := HS3.out.2.2.2.1
  exact ⟨rfl, by repeat (first | exact HBX | apply below_alloc | apply pw_below_drewN | apply below_drew1 | refine below_set ?_ (by omega))⟩
set_option maxRecDepth 100000 in
set_option maxHeartbeats 4000000 in
theorem of_3_c (k : Nat) (tol a0 a1 : Int) (a2 : ByteArray) (b0 b1 : Int) (b2 : ByteArray) (w : World) (hG : Gl w) (hva : Q.value_Valid.f k a0 a1 a2 = some true) (hvb : Q.value_Valid.f k b0 b1 b2 = some true) (ha : (a0 == 0) = false) (hb : (b0 == 0) = false) (e0 : (a0 != b0) = false) (e1 : (a0 != 1) = false) (r1 r2 : Int) (hN : CL.measure_texts_2.f k a2 b2 = some (r1, r2)) :
    Calls Tryd.prog 20 #[.int .i64 3, .int .i64 tol, .agg #[.int .i64 a0, .int .i64 a1, .string a2], .agg #[.int .i64 b0, .int .i64 b1, .string b2]] w fun e w' => e = .returned (.tuple #[.agg #[.int .i64 r1, .int .i64 r2], .int .i64 0]) ∧ Below w.heap.size w w' := by
  have HS0 := Aside0.mk (OfS.start (a0 := a0) (a1 := a1) (a2 := a2) (b0 := b0) (b1 := b1) (b2 := b2) hG)
  clear hG
  have hu := Tryd.underlying32
  have hu2 := Tryd.underlying26
  have hnn := eq_nil_nil
  have hfn := eq_func_nil
  have hev := eq_val
  go_enter Tryd.func20, Tryd.ntmps20
  go_wp2_with (first
    | (go_at_call 38; with_reducible refine (texts_calls _).mono ?_; rintro e w1 ⟨b, rfl, hb1, hlk⟩; have hl1 := hlk 3 (by decide); rw [show ofF 3 = .func (.func 52) #[] #[] from rfl] at hl1; clear hlk; have HS1 := Aside0.mk (HS0.out.below hb1); clear hb1; obtain ⟨ca0, ca1, ca2, cb0, cb1, cb2, cr0, cr1, fr0, fr1⟩ := HS1.out.cells)
    | (go_at_call 39; with_reducible refine (Q.value_Valid.calls k a0 a1 a2 _ _ hva).mono ?_; rintro e w2 ⟨rfl, hb2⟩; have HS2 := Aside0.mk (HS1.out.below hb2); clear hb2; clear ca0 ca1 ca2 cb0 cb1 cb2 cr0 cr1 fr0 fr1; obtain ⟨ca0, ca1, ca2, cb0, cb1, cb2, cr0, cr1, fr0, fr1⟩ := HS2.out.cells)
    | (go_at_call 39; with_reducible refine (Q.value_Valid.calls k b0 b1 b2 _ _ hvb).mono ?_; rintro e w3 ⟨rfl, hb3⟩; have HS3 := Aside0.mk (HS2.out.below hb3); clear hb3; clear ca0 ca1 ca2 cb0 cb1 cb2 cr0 cr1 fr0 fr1; obtain ⟨ca0, ca1, ca2, cb0, cb1, cb2, cr0, cr1, fr0, fr1⟩ := HS3.out.cells)
    | ((with_reducible refine gate_op (op := .load 32 (.global 0)) rfl ?_); refine gl0_event rfl rfl rfl ?hGl ?_; (case hGl => exact HS3.out.2.2.2.2))
    | ((with_reducible refine gate_op (op := .load 32 (.global 1)) rfl ?_); refine gl1_event rfl rfl rfl ?hGl ?_; (case hGl => exact HS3.out.2.2.2.2))
    | (go_at_call 52; with_reducible refine (CL.measure_texts_2.calls k a2 b2 r1 r2 _ HS3.out.gl hN).mono ?_; rintro e w4 ⟨rfl, hb4⟩; have HS4 := Aside0.mk (HS3.out.below hb4); clear hb4; clear ca0 ca1 ca2 cb0 cb1 cb2 cr0 cr1 fr0 fr1; obtain ⟨ca0, ca1, ca2, cb0, cb1, cb2, cr0, cr1, fr0, fr1⟩ := HS4.out.cells))
  refine bodyPost_ret (results_ct rfl _ _ (w.heap.size + 1 + 1) 32 #[.int .i64 r1, .int .i64 r2] (0, 0) _ rfl (by (with_reducible repeat (first | refine blk_drewN ?_ _ | refine blk_drew ?_ | refine blk_alloc ?_ _)); refine blk_put (cs := #[.int .i64 r1, .int .i64 0]) ?_ 1 _ rfl; (with_reducible repeat (first | refine blk_drewN ?_ _ | refine blk_drew ?_ | refine blk_alloc ?_ _)); refine blk_put (cs := #[.int .i64 0, .int .i64 0]) ?_ 0 _ rfl; (with_reducible repeat (first | refine blk_drewN ?_ _ | refine blk_drew ?_ | refine blk_alloc ?_ _)); exact HS4.out.2.2.1) Tryd.underlying32 rfl (by kernel_rfl)) rfl ?_
  have HBX := HS4.out.2.2.2.1
  exact ⟨rfl, by repeat (first | exact HBX | apply below_alloc | apply pw_below_drewN | apply below_drew1 | refine below_set ?_ (by omega))⟩
set_option maxRecDepth 100000 in
set_option maxHeartbeats 4000000 in
theorem of_4_va (k : Nat) (tol a0 a1 : Int) (a2 : ByteArray) (b0 b1 : Int) (b2 : ByteArray) (w : World) (hG : Gl w) (hva : Q.value_Valid.f k a0 a1 a2 = some false) :
    Calls Tryd.prog 20 #[.int .i64 4, .int .i64 tol, .agg #[.int .i64 a0, .int .i64 a1, .string a2], .agg #[.int .i64 b0, .int .i64 b1, .string b2]] w fun e w' => e = .returned (.tuple #[.agg #[.int .i64 0, .int .i64 0], .int .i64 1]) ∧ Below w.heap.size w w' := by
  have HS0 := Aside0.mk (OfS.start (a0 := a0) (a1 := a1) (a2 := a2) (b0 := b0) (b1 := b1) (b2 := b2) hG)
  clear hG
  have hu := Tryd.underlying32
  have hu2 := Tryd.underlying26
  have hnn := eq_nil_nil
  have hfn := eq_func_nil
  have hev := eq_val
  go_enter Tryd.func20, Tryd.ntmps20
  go_wp2_with (first
    | (go_at_call 38; with_reducible refine (texts_calls _).mono ?_; rintro e w1 ⟨b, rfl, hb1, hlk⟩; have hl1 := hlk 4 (by decide); rw [show ofF 4 = .func (.func 54) #[] #[] from rfl] at hl1; clear hlk; have HS1 := Aside0.mk (HS0.out.below hb1); clear hb1; obtain ⟨ca0, ca1, ca2, cb0, cb1, cb2, cr0, cr1, fr0, fr1⟩ := HS1.out.cells)
    | (go_at_call 39; with_reducible refine (Q.value_Valid.calls k a0 a1 a2 _ _ hva).mono ?_; rintro e w2 ⟨rfl, hb2⟩; have HS2 := Aside0.mk (HS1.out.below hb2); clear hb2; clear ca0 ca1 ca2 cb0 cb1 cb2 cr0 cr1 fr0 fr1; obtain ⟨ca0, ca1, ca2, cb0, cb1, cb2, cr0, cr1, fr0, fr1⟩ := HS2.out.cells)
    | ((with_reducible refine gate_op (op := .load 32 (.global 0)) rfl ?_); refine gl0_event rfl rfl rfl ?hGl ?_; (case hGl => exact HS2.out.2.2.2.2))
    | ((with_reducible refine gate_op (op := .load 32 (.global 1)) rfl ?_); refine gl1_event rfl rfl rfl ?hGl ?_; (case hGl => exact HS2.out.2.2.2.2)))
  refine bodyPost_ret (results_ct rfl _ _ (w.heap.size + 1 + 1) 32 #[.int .i64 0, .int .i64 0] (0, 0) _ rfl (by (with_reducible repeat (first | refine blk_drewN ?_ _ | refine blk_drew ?_ | refine blk_alloc ?_ _)); refine blk_put (cs := #[.int .i64 0, .int .i64 0]) ?_ 1 _ rfl; (with_reducible repeat (first | refine blk_drewN ?_ _ | refine blk_drew ?_ | refine blk_alloc ?_ _)); refine blk_put (cs := #[.int .i64 0, .int .i64 0]) ?_ 0 _ rfl; (with_reducible repeat (first | refine blk_drewN ?_ _ | refine blk_drew ?_ | refine blk_alloc ?_ _)); exact HS2.out.2.2.1) Tryd.underlying32 rfl (by kernel_rfl)) rfl ?_
  have HBX := HS2.out.2.2.2.1
  exact ⟨rfl, by repeat (first | exact HBX | apply below_alloc | apply pw_below_drewN | apply below_drew1 | refine below_set ?_ (by omega))⟩
set_option maxRecDepth 100000 in
set_option maxHeartbeats 4000000 in
theorem of_4_vb (k : Nat) (tol a0 a1 : Int) (a2 : ByteArray) (b0 b1 : Int) (b2 : ByteArray) (w : World) (hG : Gl w) (hva : Q.value_Valid.f k a0 a1 a2 = some true) (hvb : Q.value_Valid.f k b0 b1 b2 = some false) :
    Calls Tryd.prog 20 #[.int .i64 4, .int .i64 tol, .agg #[.int .i64 a0, .int .i64 a1, .string a2], .agg #[.int .i64 b0, .int .i64 b1, .string b2]] w fun e w' => e = .returned (.tuple #[.agg #[.int .i64 0, .int .i64 0], .int .i64 1]) ∧ Below w.heap.size w w' := by
  have HS0 := Aside0.mk (OfS.start (a0 := a0) (a1 := a1) (a2 := a2) (b0 := b0) (b1 := b1) (b2 := b2) hG)
  clear hG
  have hu := Tryd.underlying32
  have hu2 := Tryd.underlying26
  have hnn := eq_nil_nil
  have hfn := eq_func_nil
  have hev := eq_val
  go_enter Tryd.func20, Tryd.ntmps20
  go_wp2_with (first
    | (go_at_call 38; with_reducible refine (texts_calls _).mono ?_; rintro e w1 ⟨b, rfl, hb1, hlk⟩; have hl1 := hlk 4 (by decide); rw [show ofF 4 = .func (.func 54) #[] #[] from rfl] at hl1; clear hlk; have HS1 := Aside0.mk (HS0.out.below hb1); clear hb1; obtain ⟨ca0, ca1, ca2, cb0, cb1, cb2, cr0, cr1, fr0, fr1⟩ := HS1.out.cells)
    | (go_at_call 39; with_reducible refine (Q.value_Valid.calls k a0 a1 a2 _ _ hva).mono ?_; rintro e w2 ⟨rfl, hb2⟩; have HS2 := Aside0.mk (HS1.out.below hb2); clear hb2; clear ca0 ca1 ca2 cb0 cb1 cb2 cr0 cr1 fr0 fr1; obtain ⟨ca0, ca1, ca2, cb0, cb1, cb2, cr0, cr1, fr0, fr1⟩ := HS2.out.cells)
    | (go_at_call 39; with_reducible refine (Q.value_Valid.calls k b0 b1 b2 _ _ hvb).mono ?_; rintro e w3 ⟨rfl, hb3⟩; have HS3 := Aside0.mk (HS2.out.below hb3); clear hb3; clear ca0 ca1 ca2 cb0 cb1 cb2 cr0 cr1 fr0 fr1; obtain ⟨ca0, ca1, ca2, cb0, cb1, cb2, cr0, cr1, fr0, fr1⟩ := HS3.out.cells)
    | ((with_reducible refine gate_op (op := .load 32 (.global 0)) rfl ?_); refine gl0_event rfl rfl rfl ?hGl ?_; (case hGl => exact HS3.out.2.2.2.2))
    | ((with_reducible refine gate_op (op := .load 32 (.global 1)) rfl ?_); refine gl1_event rfl rfl rfl ?hGl ?_; (case hGl => exact HS3.out.2.2.2.2)))
  refine bodyPost_ret (results_ct rfl _ _ (w.heap.size + 1 + 1) 32 #[.int .i64 0, .int .i64 0] (0, 0) _ rfl (by (with_reducible repeat (first | refine blk_drewN ?_ _ | refine blk_drew ?_ | refine blk_alloc ?_ _)); refine blk_put (cs := #[.int .i64 0, .int .i64 0]) ?_ 1 _ rfl; (with_reducible repeat (first | refine blk_drewN ?_ _ | refine blk_drew ?_ | refine blk_alloc ?_ _)); refine blk_put (cs := #[.int .i64 0, .int .i64 0]) ?_ 0 _ rfl; (with_reducible repeat (first | refine blk_drewN ?_ _ | refine blk_drew ?_ | refine blk_alloc ?_ _)); exact HS3.out.2.2.1) Tryd.underlying32 rfl (by kernel_rfl)) rfl ?_
  have HBX := HS3.out.2.2.2.1
  exact ⟨rfl, by repeat (first | exact HBX | apply below_alloc | apply pw_below_drewN | apply below_drew1 | refine below_set ?_ (by omega))⟩
set_option maxRecDepth 100000 in
set_option maxHeartbeats 4000000 in
theorem of_4_na (k : Nat) (tol a0 a1 : Int) (a2 : ByteArray) (b0 b1 : Int) (b2 : ByteArray) (w : World) (hG : Gl w) (hva : Q.value_Valid.f k a0 a1 a2 = some true) (hvb : Q.value_Valid.f k b0 b1 b2 = some true) (ha : (a0 == 0) = true) :
    Calls Tryd.prog 20 #[.int .i64 4, .int .i64 tol, .agg #[.int .i64 a0, .int .i64 a1, .string a2], .agg #[.int .i64 b0, .int .i64 b1, .string b2]] w fun e w' => e = .returned (.tuple #[.agg #[.int .i64 0, .int .i64 1], .int .i64 0]) ∧ Below w.heap.size w w' := by
  have HS0 := Aside0.mk (OfS.start (a0 := a0) (a1 := a1) (a2 := a2) (b0 := b0) (b1 := b1) (b2 := b2) hG)
  clear hG
  have hu := Tryd.underlying32
  have hu2 := Tryd.underlying26
  have hnn := eq_nil_nil
  have hfn := eq_func_nil
  have hev := eq_val
  go_enter Tryd.func20, Tryd.ntmps20
  go_wp2_with (first
    | (go_at_call 38; with_reducible refine (texts_calls _).mono ?_; rintro e w1 ⟨b, rfl, hb1, hlk⟩; have hl1 := hlk 4 (by decide); rw [show ofF 4 = .func (.func 54) #[] #[] from rfl] at hl1; clear hlk; have HS1 := Aside0.mk (HS0.out.below hb1); clear hb1; obtain ⟨ca0, ca1, ca2, cb0, cb1, cb2, cr0, cr1, fr0, fr1⟩ := HS1.out.cells)
    | (go_at_call 39; with_reducible refine (Q.value_Valid.calls k a0 a1 a2 _ _ hva).mono ?_; rintro e w2 ⟨rfl, hb2⟩; have HS2 := Aside0.mk (HS1.out.below hb2); clear hb2; clear ca0 ca1 ca2 cb0 cb1 cb2 cr0 cr1 fr0 fr1; obtain ⟨ca0, ca1, ca2, cb0, cb1, cb2, cr0, cr1, fr0, fr1⟩ := HS2.out.cells)
    | (go_at_call 39; with_reducible refine (Q.value_Valid.calls k b0 b1 b2 _ _ hvb).mono ?_; rintro e w3 ⟨rfl, hb3⟩; have HS3 := Aside0.mk (HS2.out.below hb3); clear hb3; clear ca0 ca1 ca2 cb0 cb1 cb2 cr0 cr1 fr0 fr1; obtain ⟨ca0, ca1, ca2, cb0, cb1, cb2, cr0, cr1, fr0, fr1⟩ := HS3.out.cells)
    | ((with_reducible refine gate_op (op := .load 32 (.global 0)) rfl ?_); refine gl0_event rfl rfl rfl ?hGl ?_; (case hGl => exact HS3.out.2.2.2.2))
    | ((with_reducible refine gate_op (op := .load 32 (.global 1)) rfl ?_); refine gl1_event rfl rfl rfl ?hGl ?_; (case hGl => exact HS3.out.2.2.2.2)))
  refine bodyPost_ret (results_ct rfl _ _ (w.heap.size + 1 + 1) 32 #[.int .i64 0, .int .i64 1] (0, 0) _ rfl (by (with_reducible repeat (first | refine blk_drewN ?_ _ | refine blk_drew ?_ | refine blk_alloc ?_ _)); refine blk_put (cs := #[.int .i64 0, .int .i64 0]) ?_ 1 _ rfl; (with_reducible repeat (first | refine blk_drewN ?_ _ | refine blk_drew ?_ | refine blk_alloc ?_ _)); refine blk_put (cs := #[.int .i64 0, .int .i64 0]) ?_ 0 _ rfl; (with_reducible repeat (first | refine blk_drewN ?_ _ | refine blk_drew ?_ | refine blk_alloc ?_ _)); exact HS3.out.2.2.1) Tryd.underlying32 rfl (by kernel_rfl)) rfl ?_
  have HBX := HS3.out.2.2.2.1
  exact ⟨rfl, by repeat (first | exact HBX | apply below_alloc | apply pw_below_drewN | apply below_drew1 | refine below_set ?_ (by omega))⟩
set_option maxRecDepth 100000 in
set_option maxHeartbeats 4000000 in
theorem of_4_nb (k : Nat) (tol a0 a1 : Int) (a2 : ByteArray) (b0 b1 : Int) (b2 : ByteArray) (w : World) (hG : Gl w) (hva : Q.value_Valid.f k a0 a1 a2 = some true) (hvb : Q.value_Valid.f k b0 b1 b2 = some true) (ha : (a0 == 0) = false) (hb : (b0 == 0) = true) :
    Calls Tryd.prog 20 #[.int .i64 4, .int .i64 tol, .agg #[.int .i64 a0, .int .i64 a1, .string a2], .agg #[.int .i64 b0, .int .i64 b1, .string b2]] w fun e w' => e = .returned (.tuple #[.agg #[.int .i64 0, .int .i64 1], .int .i64 0]) ∧ Below w.heap.size w w' := by
  have HS0 := Aside0.mk (OfS.start (a0 := a0) (a1 := a1) (a2 := a2) (b0 := b0) (b1 := b1) (b2 := b2) hG)
  clear hG
  have hu := Tryd.underlying32
  have hu2 := Tryd.underlying26
  have hnn := eq_nil_nil
  have hfn := eq_func_nil
  have hev := eq_val
  go_enter Tryd.func20, Tryd.ntmps20
  go_wp2_with (first
    | (go_at_call 38; with_reducible refine (texts_calls _).mono ?_; rintro e w1 ⟨b, rfl, hb1, hlk⟩; have hl1 := hlk 4 (by decide); rw [show ofF 4 = .func (.func 54) #[] #[] from rfl] at hl1; clear hlk; have HS1 := Aside0.mk (HS0.out.below hb1); clear hb1; obtain ⟨ca0, ca1, ca2, cb0, cb1, cb2, cr0, cr1, fr0, fr1⟩ := HS1.out.cells)
    | (go_at_call 39; with_reducible refine (Q.value_Valid.calls k a0 a1 a2 _ _ hva).mono ?_; rintro e w2 ⟨rfl, hb2⟩; have HS2 := Aside0.mk (HS1.out.below hb2); clear hb2; clear ca0 ca1 ca2 cb0 cb1 cb2 cr0 cr1 fr0 fr1; obtain ⟨ca0, ca1, ca2, cb0, cb1, cb2, cr0, cr1, fr0, fr1⟩ := HS2.out.cells)
    | (go_at_call 39; with_reducible refine (Q.value_Valid.calls k b0 b1 b2 _ _ hvb).mono ?_; rintro e w3 ⟨rfl, hb3⟩; have HS3 := Aside0.mk (HS2.out.below hb3); clear hb3; clear ca0 ca1 ca2 cb0 cb1 cb2 cr0 cr1 fr0 fr1; obtain ⟨ca0, ca1, ca2, cb0, cb1, cb2, cr0, cr1, fr0, fr1⟩ := HS3.out.cells)
    | ((with_reducible refine gate_op (op := .load 32 (.global 0)) rfl ?_); refine gl0_event rfl rfl rfl ?hGl ?_; (case hGl => exact HS3.out.2.2.2.2))
    | ((with_reducible refine gate_op (op := .load 32 (.global 1)) rfl ?_); refine gl1_event rfl rfl rfl ?hGl ?_; (case hGl => exact HS3.out.2.2.2.2)))
  refine bodyPost_ret (results_ct rfl _ _ (w.heap.size + 1 + 1) 32 #[.int .i64 0, .int .i64 1] (0, 0) _ rfl (by (with_reducible repeat (first | refine blk_drewN ?_ _ | refine blk_drew ?_ | refine blk_alloc ?_ _)); refine blk_put (cs := #[.int .i64 0, .int .i64 0]) ?_ 1 _ rfl; (with_reducible repeat (first | refine blk_drewN ?_ _ | refine blk_drew ?_ | refine blk_alloc ?_ _)); refine blk_put (cs := #[.int .i64 0, .int .i64 0]) ?_ 0 _ rfl; (with_reducible repeat (first | refine blk_drewN ?_ _ | refine blk_drew ?_ | refine blk_alloc ?_ _)); exact HS3.out.2.2.1) Tryd.underlying32 rfl (by kernel_rfl)) rfl ?_
  have HBX := HS3.out.2.2.2.1
  exact ⟨rfl, by repeat (first | exact HBX | apply below_alloc | apply pw_below_drewN | apply below_drew1 | refine below_set ?_ (by omega))⟩
set_option maxRecDepth 100000 in
set_option maxHeartbeats 4000000 in
theorem of_4_kd (k : Nat) (tol a0 a1 : Int) (a2 : ByteArray) (b0 b1 : Int) (b2 : ByteArray) (w : World) (hG : Gl w) (hva : Q.value_Valid.f k a0 a1 a2 = some true) (hvb : Q.value_Valid.f k b0 b1 b2 = some true) (ha : (a0 == 0) = false) (hb : (b0 == 0) = false) (e0 : (a0 != b0) = true) :
    Calls Tryd.prog 20 #[.int .i64 4, .int .i64 tol, .agg #[.int .i64 a0, .int .i64 a1, .string a2], .agg #[.int .i64 b0, .int .i64 b1, .string b2]] w fun e w' => e = .returned (.tuple #[.agg #[.int .i64 0, .int .i64 0], .int .i64 10]) ∧ Below w.heap.size w w' := by
  have HS0 := Aside0.mk (OfS.start (a0 := a0) (a1 := a1) (a2 := a2) (b0 := b0) (b1 := b1) (b2 := b2) hG)
  clear hG
  have hu := Tryd.underlying32
  have hu2 := Tryd.underlying26
  have hnn := eq_nil_nil
  have hfn := eq_func_nil
  have hev := eq_val
  go_enter Tryd.func20, Tryd.ntmps20
  go_wp2_with (first
    | (go_at_call 38; with_reducible refine (texts_calls _).mono ?_; rintro e w1 ⟨b, rfl, hb1, hlk⟩; have hl1 := hlk 4 (by decide); rw [show ofF 4 = .func (.func 54) #[] #[] from rfl] at hl1; clear hlk; have HS1 := Aside0.mk (HS0.out.below hb1); clear hb1; obtain ⟨ca0, ca1, ca2, cb0, cb1, cb2, cr0, cr1, fr0, fr1⟩ := HS1.out.cells)
    | (go_at_call 39; with_reducible refine (Q.value_Valid.calls k a0 a1 a2 _ _ hva).mono ?_; rintro e w2 ⟨rfl, hb2⟩; have HS2 := Aside0.mk (HS1.out.below hb2); clear hb2; clear ca0 ca1 ca2 cb0 cb1 cb2 cr0 cr1 fr0 fr1; obtain ⟨ca0, ca1, ca2, cb0, cb1, cb2, cr0, cr1, fr0, fr1⟩ := HS2.out.cells)
    | (go_at_call 39; with_reducible refine (Q.value_Valid.calls k b0 b1 b2 _ _ hvb).mono ?_; rintro e w3 ⟨rfl, hb3⟩; have HS3 := Aside0.mk (HS2.out.below hb3); clear hb3; clear ca0 ca1 ca2 cb0 cb1 cb2 cr0 cr1 fr0 fr1; obtain ⟨ca0, ca1, ca2, cb0, cb1, cb2, cr0, cr1, fr0, fr1⟩ := HS3.out.cells)
    | ((with_reducible refine gate_op (op := .load 32 (.global 0)) rfl ?_); refine gl0_event rfl rfl rfl ?hGl ?_; (case hGl => exact HS3.out.2.2.2.2))
    | ((with_reducible refine gate_op (op := .load 32 (.global 1)) rfl ?_); refine gl1_event rfl rfl rfl ?hGl ?_; (case hGl => exact HS3.out.2.2.2.2)))
  refine bodyPost_ret (results_ct rfl _ _ (w.heap.size + 1 + 1) 32 #[.int .i64 0, .int .i64 0] (0, 0) _ rfl (by (with_reducible repeat (first | refine blk_drewN ?_ _ | refine blk_drew ?_ | refine blk_alloc ?_ _)); refine blk_put (cs := #[.int .i64 0, .int .i64 0]) ?_ 1 _ rfl; (with_reducible repeat (first | refine blk_drewN ?_ _ | refine blk_drew ?_ | refine blk_alloc ?_ _)); refine blk_put (cs := #[.int .i64 0, .int .i64 0]) ?_ 0 _ rfl; (with_reducible repeat (first | refine blk_drewN ?_ _ | refine blk_drew ?_ | refine blk_alloc ?_ _)); exact HS3.out.2.2.1) Tryd.underlying32 rfl (by kernel_rfl)) rfl ?_
  have HBX := HS3.out.2.2.2.1
  exact ⟨rfl, by repeat (first | exact HBX | apply below_alloc | apply pw_below_drewN | apply below_drew1 | refine below_set ?_ (by omega))⟩
set_option maxRecDepth 100000 in
set_option maxHeartbeats 4000000 in
theorem of_4_ty (k : Nat) (tol a0 a1 : Int) (a2 : ByteArray) (b0 b1 : Int) (b2 : ByteArray) (w : World) (hG : Gl w) (hva : Q.value_Valid.f k a0 a1 a2 = some true) (hvb : Q.value_Valid.f k b0 b1 b2 = some true) (ha : (a0 == 0) = false) (hb : (b0 == 0) = false) (e0 : (a0 != b0) = false) (e1 : (a0 != 1) = true) :
    Calls Tryd.prog 20 #[.int .i64 4, .int .i64 tol, .agg #[.int .i64 a0, .int .i64 a1, .string a2], .agg #[.int .i64 b0, .int .i64 b1, .string b2]] w fun e w' => e = .returned (.tuple #[.agg #[.int .i64 0, .int .i64 0], .int .i64 10]) ∧ Below w.heap.size w w' := by
  have HS0 := Aside0.mk (OfS.start (a0 := a0) (a1 := a1) (a2 := a2) (b0 := b0) (b1 := b1) (b2 := b2) hG)
  clear hG
  have hu := Tryd.underlying32
  have hu2 := Tryd.underlying26
  have hnn := eq_nil_nil
  have hfn := eq_func_nil
  have hev := eq_val
  go_enter Tryd.func20, Tryd.ntmps20
  go_wp2_with (first
    | (go_at_call 38; with_reducible refine (texts_calls _).mono ?_; rintro e w1 ⟨b, rfl, hb1, hlk⟩; have hl1 := hlk 4 (by decide); rw [show ofF 4 = .func (.func 54) #[] #[] from rfl] at hl1; clear hlk; have HS1 := Aside0.mk (HS0.out.below hb1); clear hb1; obtain ⟨ca0, ca1, ca2, cb0, cb1, cb2, cr0, cr1, fr0, fr1⟩ := HS1.out.cells)
    | (go_at_call 39; with_reducible refine (Q.value_Valid.calls k a0 a1 a2 _ _ hva).mono ?_; rintro e w2 ⟨rfl, hb2⟩; have HS2 := Aside0.mk (HS1.out.below hb2); clear hb2; clear ca0 ca1 ca2 cb0 cb1 cb2 cr0 cr1 fr0 fr1; obtain ⟨ca0, ca1, ca2, cb0, cb1, cb2, cr0, cr1, fr0, fr1⟩ := HS2.out.cells)
    | (go_at_call 39; with_reducible refine (Q.value_Valid.calls k b0 b1 b2 _ _ hvb).mono ?_; rintro e w3 ⟨rfl, hb3⟩; have HS3 := Aside0.mk (HS2.out.below hb3); clear hb3; clear ca0 ca1 ca2 cb0 cb1 cb2 cr0 cr1 fr0 fr1; obtain ⟨ca0, ca1, ca2, cb0, cb1, cb2, cr0, cr1, fr0, fr1⟩ := HS3.out.cells)
    | ((with_reducible refine gate_op (op := .load 32 (.global 0)) rfl ?_); refine gl0_event rfl rfl rfl ?hGl ?_; (case hGl => exact HS3.out.2.2.2.2))
    | ((with_reducible refine gate_op (op := .load 32 (.global 1)) rfl ?_); refine gl1_event rfl rfl rfl ?hGl ?_; (case hGl => exact HS3.out.2.2.2.2)))
  refine bodyPost_ret (results_ct rfl _ _ (w.heap.size + 1 + 1) 32 #[.int .i64 0, .int .i64 0] (0, 0) _ rfl (by (with_reducible repeat (first | refine blk_drewN ?_ _ | refine blk_drew ?_ | refine blk_alloc ?_ _)); refine blk_put (cs := #[.int .i64 0, .int .i64 0]) ?_ 1 _ rfl; (with_reducible repeat (first | refine blk_drewN ?_ _ | refine blk_drew ?_ | refine blk_alloc ?_ _)); refine blk_put (cs := #[.int .i64 0, .int .i64 0]) ?_ 0 _ rfl; (with_reducible repeat (first | refine blk_drewN ?_ _ | refine blk_drew ?_ | refine blk_alloc ?_ _)); exact HS3.out.2.2.1) Tryd.underlying32 rfl (by kernel_rfl)) rfl ?_
  have HBX := HS3.out.2.2.2.1
  exact ⟨rfl, by repeat (first | exact HBX | apply below_alloc | apply pw_below_drewN | apply below_drew1 | refine below_set ?_ (by omega))⟩
set_option maxRecDepth 100000 in
set_option maxHeartbeats 4000000 in
theorem of_4_c (k : Nat) (tol a0 a1 : Int) (a2 : ByteArray) (b0 b1 : Int) (b2 : ByteArray) (w : World) (hG : Gl w) (hva : Q.value_Valid.f k a0 a1 a2 = some true) (hvb : Q.value_Valid.f k b0 b1 b2 = some true) (ha : (a0 == 0) = false) (hb : (b0 == 0) = false) (e0 : (a0 != b0) = false) (e1 : (a0 != 1) = false) (r1 r2 : Int) (hN : CL.measure_texts_3.f k a2 b2 = some (r1, r2)) :
    Calls Tryd.prog 20 #[.int .i64 4, .int .i64 tol, .agg #[.int .i64 a0, .int .i64 a1, .string a2], .agg #[.int .i64 b0, .int .i64 b1, .string b2]] w fun e w' => e = .returned (.tuple #[.agg #[.int .i64 r1, .int .i64 r2], .int .i64 0]) ∧ Below w.heap.size w w' := by
  have HS0 := Aside0.mk (OfS.start (a0 := a0) (a1 := a1) (a2 := a2) (b0 := b0) (b1 := b1) (b2 := b2) hG)
  clear hG
  have hu := Tryd.underlying32
  have hu2 := Tryd.underlying26
  have hnn := eq_nil_nil
  have hfn := eq_func_nil
  have hev := eq_val
  go_enter Tryd.func20, Tryd.ntmps20
  go_wp2_with (first
    | (go_at_call 38; with_reducible refine (texts_calls _).mono ?_; rintro e w1 ⟨b, rfl, hb1, hlk⟩; have hl1 := hlk 4 (by decide); rw [show ofF 4 = .func (.func 54) #[] #[] from rfl] at hl1; clear hlk; have HS1 := Aside0.mk (HS0.out.below hb1); clear hb1; obtain ⟨ca0, ca1, ca2, cb0, cb1, cb2, cr0, cr1, fr0, fr1⟩ := HS1.out.cells)
    | (go_at_call 39; with_reducible refine (Q.value_Valid.calls k a0 a1 a2 _ _ hva).mono ?_; rintro e w2 ⟨rfl, hb2⟩; have HS2 := Aside0.mk (HS1.out.below hb2); clear hb2; clear ca0 ca1 ca2 cb0 cb1 cb2 cr0 cr1 fr0 fr1; obtain ⟨ca0, ca1, ca2, cb0, cb1, cb2, cr0, cr1, fr0, fr1⟩ := HS2.out.cells)
    | (go_at_call 39; with_reducible refine (Q.value_Valid.calls k b0 b1 b2 _ _ hvb).mono ?_; rintro e w3 ⟨rfl, hb3⟩; have HS3 := Aside0.mk (HS2.out.below hb3); clear hb3; clear ca0 ca1 ca2 cb0 cb1 cb2 cr0 cr1 fr0 fr1; obtain ⟨ca0, ca1, ca2, cb0, cb1, cb2, cr0, cr1, fr0, fr1⟩ := HS3.out.cells)
    | ((with_reducible refine gate_op (op := .load 32 (.global 0)) rfl ?_); refine gl0_event rfl rfl rfl ?hGl ?_; (case hGl => exact HS3.out.2.2.2.2))
    | ((with_reducible refine gate_op (op := .load 32 (.global 1)) rfl ?_); refine gl1_event rfl rfl rfl ?hGl ?_; (case hGl => exact HS3.out.2.2.2.2))
    | (go_at_call 54; with_reducible refine (CL.measure_texts_3.calls k a2 b2 r1 r2 _ HS3.out.gl hN).mono ?_; rintro e w4 ⟨rfl, hb4⟩; have HS4 := Aside0.mk (HS3.out.below hb4); clear hb4; clear ca0 ca1 ca2 cb0 cb1 cb2 cr0 cr1 fr0 fr1; obtain ⟨ca0, ca1, ca2, cb0, cb1, cb2, cr0, cr1, fr0, fr1⟩ := HS4.out.cells))
  refine bodyPost_ret (results_ct rfl _ _ (w.heap.size + 1 + 1) 32 #[.int .i64 r1, .int .i64 r2] (0, 0) _ rfl (by (with_reducible repeat (first | refine blk_drewN ?_ _ | refine blk_drew ?_ | refine blk_alloc ?_ _)); refine blk_put (cs := #[.int .i64 r1, .int .i64 0]) ?_ 1 _ rfl; (with_reducible repeat (first | refine blk_drewN ?_ _ | refine blk_drew ?_ | refine blk_alloc ?_ _)); refine blk_put (cs := #[.int .i64 0, .int .i64 0]) ?_ 0 _ rfl; (with_reducible repeat (first | refine blk_drewN ?_ _ | refine blk_drew ?_ | refine blk_alloc ?_ _)); exact HS4.out.2.2.1) Tryd.underlying32 rfl (by kernel_rfl)) rfl ?_
  have HBX := HS4.out.2.2.2.1
  exact ⟨rfl, by repeat (first | exact HBX | apply below_alloc | apply pw_below_drewN | apply below_drew1 | refine below_set ?_ (by omega))⟩
set_option maxRecDepth 100000 in
set_option maxHeartbeats 4000000 in
theorem of_5_va (k : Nat) (tol a0 a1 : Int) (a2 : ByteArray) (b0 b1 : Int) (b2 : ByteArray) (w : World) (hG : Gl w) (hva : Q.value_Valid.f k a0 a1 a2 = some false) :
    Calls Tryd.prog 20 #[.int .i64 5, .int .i64 tol, .agg #[.int .i64 a0, .int .i64 a1, .string a2], .agg #[.int .i64 b0, .int .i64 b1, .string b2]] w fun e w' => e = .returned (.tuple #[.agg #[.int .i64 0, .int .i64 0], .int .i64 1]) ∧ Below w.heap.size w w' := by
  have HS0 := Aside0.mk (OfS.start (a0 := a0) (a1 := a1) (a2 := a2) (b0 := b0) (b1 := b1) (b2 := b2) hG)
  clear hG
  have hu := Tryd.underlying32
  have hu2 := Tryd.underlying26
  have hnn := eq_nil_nil
  have hfn := eq_func_nil
  have hev := eq_val
  go_enter Tryd.func20, Tryd.ntmps20
  go_wp2_with (first
    | (go_at_call 38; with_reducible refine (texts_calls _).mono ?_; rintro e w1 ⟨b, rfl, hb1, hlk⟩; have hl1 := hlk 5 (by decide); rw [show ofF 5 = .nilFunc from rfl] at hl1; clear hlk; have HS1 := Aside0.mk (HS0.out.below hb1); clear hb1; obtain ⟨ca0, ca1, ca2, cb0, cb1, cb2, cr0, cr1, fr0, fr1⟩ := HS1.out.cells)
    | (go_at_call 39; with_reducible refine (Q.value_Valid.calls k a0 a1 a2 _ _ hva).mono ?_; rintro e w2 ⟨rfl, hb2⟩; have HS2 := Aside0.mk (HS1.out.below hb2); clear hb2; clear ca0 ca1 ca2 cb0 cb1 cb2 cr0 cr1 fr0 fr1; obtain ⟨ca0, ca1, ca2, cb0, cb1, cb2, cr0, cr1, fr0, fr1⟩ := HS2.out.cells)
    | ((with_reducible refine gate_op (op := .load 32 (.global 0)) rfl ?_); refine gl0_event rfl rfl rfl ?hGl ?_; (case hGl => exact HS2.out.2.2.2.2))
    | ((with_reducible refine gate_op (op := .load 32 (.global 1)) rfl ?_); refine gl1_event rfl rfl rfl ?hGl ?_; (case hGl => exact HS2.out.2.2.2.2)))
  refine bodyPost_ret (results_ct rfl _ _ (w.heap.size + 1 + 1) 32 #[.int .i64 0, .int .i64 0] (0, 0) _ rfl (by (with_reducible repeat (first | refine blk_drewN ?_ _ | refine blk_drew ?_ | refine blk_alloc ?_ _)); refine blk_put (cs := #[.int .i64 0, .int .i64 0]) ?_ 1 _ rfl; (with_reducible repeat (first | refine blk_drewN ?_ _ | refine blk_drew ?_ | refine blk_alloc ?_ _)); refine blk_put (cs := #[.int .i64 0, .int .i64 0]) ?_ 0 _ rfl; (with_reducible repeat (first | refine blk_drewN ?_ _ | refine blk_drew ?_ | refine blk_alloc ?_ _)); exact HS2.out.2.2.1) Tryd.underlying32 rfl (by kernel_rfl)) rfl ?_
  have HBX := HS2.out.2.2.2.1
  exact ⟨rfl, by repeat (first | exact HBX | apply below_alloc | apply pw_below_drewN | apply below_drew1 | refine below_set ?_ (by omega))⟩
set_option maxRecDepth 100000 in
set_option maxHeartbeats 4000000 in
theorem of_5_vb (k : Nat) (tol a0 a1 : Int) (a2 : ByteArray) (b0 b1 : Int) (b2 : ByteArray) (w : World) (hG : Gl w) (hva : Q.value_Valid.f k a0 a1 a2 = some true) (hvb : Q.value_Valid.f k b0 b1 b2 = some false) :
    Calls Tryd.prog 20 #[.int .i64 5, .int .i64 tol, .agg #[.int .i64 a0, .int .i64 a1, .string a2], .agg #[.int .i64 b0, .int .i64 b1, .string b2]] w fun e w' => e = .returned (.tuple #[.agg #[.int .i64 0, .int .i64 0], .int .i64 1]) ∧ Below w.heap.size w w' := by
  have HS0 := Aside0.mk (OfS.start (a0 := a0) (a1 := a1) (a2 := a2) (b0 := b0) (b1 := b1) (b2 := b2) hG)
  clear hG
  have hu := Tryd.underlying32
  have hu2 := Tryd.underlying26
  have hnn := eq_nil_nil
  have hfn := eq_func_nil
  have hev := eq_val
  go_enter Tryd.func20, Tryd.ntmps20
  go_wp2_with (first
    | (go_at_call 38; with_reducible refine (texts_calls _).mono ?_; rintro e w1 ⟨b, rfl, hb1, hlk⟩; have hl1 := hlk 5 (by decide); rw [show ofF 5 = .nilFunc from rfl] at hl1; clear hlk; have HS1 := Aside0.mk (HS0.out.below hb1); clear hb1; obtain ⟨ca0, ca1, ca2, cb0, cb1, cb2, cr0, cr1, fr0, fr1⟩ := HS1.out.cells)
    | (go_at_call 39; with_reducible refine (Q.value_Valid.calls k a0 a1 a2 _ _ hva).mono ?_; rintro e w2 ⟨rfl, hb2⟩; have HS2 := Aside0.mk (HS1.out.below hb2); clear hb2; clear ca0 ca1 ca2 cb0 cb1 cb2 cr0 cr1 fr0 fr1; obtain ⟨ca0, ca1, ca2, cb0, cb1, cb2, cr0, cr1, fr0, fr1⟩ := HS2.out.cells)
    | (go_at_call 39; with_reducible refine (Q.value_Valid.calls k b0 b1 b2 _ _ hvb).mono ?_; rintro e w3 ⟨rfl, hb3⟩; have HS3 := Aside0.mk (HS2.out.below hb3); clear hb3; clear ca0 ca1 ca2 cb0 cb1 cb2 cr0 cr1 fr0 fr1; obtain ⟨ca0, ca1, ca2, cb0, cb1, cb2, cr0, cr1, fr0, fr1⟩ := HS3.out.cells)
    | ((with_reducible refine gate_op (op := .load 32 (.global 0)) rfl ?_); refine gl0_event rfl rfl rfl ?hGl ?_; (case hGl => exact HS3.out.2.2.2.2))
    | ((with_reducible refine gate_op (op := .load 32 (.global 1)) rfl ?_); refine gl1_event rfl rfl rfl ?hGl ?_; (case hGl => exact HS3.out.2.2.2.2)))
  refine bodyPost_ret (results_ct rfl _ _ (w.heap.size + 1 + 1) 32 #[.int .i64 0, .int .i64 0] (0, 0) _ rfl (by (with_reducible repeat (first | refine blk_drewN ?_ _ | refine blk_drew ?_ | refine blk_alloc ?_ _)); refine blk_put (cs := #[.int .i64 0, .int .i64 0]) ?_ 1 _ rfl; (with_reducible repeat (first | refine blk_drewN ?_ _ | refine blk_drew ?_ | refine blk_alloc ?_ _)); refine blk_put (cs := #[.int .i64 0, .int .i64 0]) ?_ 0 _ rfl; (with_reducible repeat (first | refine blk_drewN ?_ _ | refine blk_drew ?_ | refine blk_alloc ?_ _)); exact HS3.out.2.2.1) Tryd.underlying32 rfl (by kernel_rfl)) rfl ?_
  have HBX := HS3.out.2.2.2.1
  exact ⟨rfl, by repeat (first | exact HBX | apply below_alloc | apply pw_below_drewN | apply below_drew1 | refine below_set ?_ (by omega))⟩
set_option maxRecDepth 100000 in
set_option maxHeartbeats 4000000 in
theorem of_5_t0 (k : Nat) (tol a0 a1 : Int) (a2 : ByteArray) (b0 b1 : Int) (b2 : ByteArray) (w : World) (hG : Gl w) (hva : Q.value_Valid.f k a0 a1 a2 = some true) (hvb : Q.value_Valid.f k b0 b1 b2 = some true) (ht : decide (tol < 0) = true) :
    Calls Tryd.prog 20 #[.int .i64 5, .int .i64 tol, .agg #[.int .i64 a0, .int .i64 a1, .string a2], .agg #[.int .i64 b0, .int .i64 b1, .string b2]] w fun e w' => e = .returned (.tuple #[.agg #[.int .i64 0, .int .i64 0], .int .i64 1]) ∧ Below w.heap.size w w' := by
  have HS0 := Aside0.mk (OfS.start (a0 := a0) (a1 := a1) (a2 := a2) (b0 := b0) (b1 := b1) (b2 := b2) hG)
  clear hG
  have hu := Tryd.underlying32
  have hu2 := Tryd.underlying26
  have hnn := eq_nil_nil
  have hfn := eq_func_nil
  have hev := eq_val
  go_enter Tryd.func20, Tryd.ntmps20
  go_wp2_with (first
    | (go_at_call 38; with_reducible refine (texts_calls _).mono ?_; rintro e w1 ⟨b, rfl, hb1, hlk⟩; have hl1 := hlk 5 (by decide); rw [show ofF 5 = .nilFunc from rfl] at hl1; clear hlk; have HS1 := Aside0.mk (HS0.out.below hb1); clear hb1; obtain ⟨ca0, ca1, ca2, cb0, cb1, cb2, cr0, cr1, fr0, fr1⟩ := HS1.out.cells)
    | (go_at_call 39; with_reducible refine (Q.value_Valid.calls k a0 a1 a2 _ _ hva).mono ?_; rintro e w2 ⟨rfl, hb2⟩; have HS2 := Aside0.mk (HS1.out.below hb2); clear hb2; clear ca0 ca1 ca2 cb0 cb1 cb2 cr0 cr1 fr0 fr1; obtain ⟨ca0, ca1, ca2, cb0, cb1, cb2, cr0, cr1, fr0, fr1⟩ := HS2.out.cells)
    | (go_at_call 39; with_reducible refine (Q.value_Valid.calls k b0 b1 b2 _ _ hvb).mono ?_; rintro e w3 ⟨rfl, hb3⟩; have HS3 := Aside0.mk (HS2.out.below hb3); clear hb3; clear ca0 ca1 ca2 cb0 cb1 cb2 cr0 cr1 fr0 fr1; obtain ⟨ca0, ca1, ca2, cb0, cb1, cb2, cr0, cr1, fr0, fr1⟩ := HS3.out.cells)
    | ((with_reducible refine gate_op (op := .load 32 (.global 0)) rfl ?_); refine gl0_event rfl rfl rfl ?hGl ?_; (case hGl => exact HS3.out.2.2.2.2))
    | ((with_reducible refine gate_op (op := .load 32 (.global 1)) rfl ?_); refine gl1_event rfl rfl rfl ?hGl ?_; (case hGl => exact HS3.out.2.2.2.2)))
  refine bodyPost_ret (results_ct rfl _ _ (w.heap.size + 1 + 1) 32 #[.int .i64 0, .int .i64 0] (0, 0) _ rfl (by (with_reducible repeat (first | refine blk_drewN ?_ _ | refine blk_drew ?_ | refine blk_alloc ?_ _)); refine blk_put (cs := #[.int .i64 0, .int .i64 0]) ?_ 1 _ rfl; (with_reducible repeat (first | refine blk_drewN ?_ _ | refine blk_drew ?_ | refine blk_alloc ?_ _)); refine blk_put (cs := #[.int .i64 0, .int .i64 0]) ?_ 0 _ rfl; (with_reducible repeat (first | refine blk_drewN ?_ _ | refine blk_drew ?_ | refine blk_alloc ?_ _)); exact HS3.out.2.2.1) Tryd.underlying32 rfl (by kernel_rfl)) rfl ?_
  have HBX := HS3.out.2.2.2.1
  exact ⟨rfl, by repeat (first | exact HBX | apply below_alloc | apply pw_below_drewN | apply below_drew1 | refine below_set ?_ (by omega))⟩
set_option maxRecDepth 100000 in
set_option maxHeartbeats 4000000 in
theorem of_5_t1 (k : Nat) (tol a0 a1 : Int) (a2 : ByteArray) (b0 b1 : Int) (b2 : ByteArray) (w : World) (hG : Gl w) (hva : Q.value_Valid.f k a0 a1 a2 = some true) (hvb : Q.value_Valid.f k b0 b1 b2 = some true) (ht : decide (tol < 0) = false) (ht1 : decide (1000000000 ≤ tol) = true) :
    Calls Tryd.prog 20 #[.int .i64 5, .int .i64 tol, .agg #[.int .i64 a0, .int .i64 a1, .string a2], .agg #[.int .i64 b0, .int .i64 b1, .string b2]] w fun e w' => e = .returned (.tuple #[.agg #[.int .i64 0, .int .i64 0], .int .i64 1]) ∧ Below w.heap.size w w' := by
  have HS0 := Aside0.mk (OfS.start (a0 := a0) (a1 := a1) (a2 := a2) (b0 := b0) (b1 := b1) (b2 := b2) hG)
  clear hG
  have hu := Tryd.underlying32
  have hu2 := Tryd.underlying26
  have hnn := eq_nil_nil
  have hfn := eq_func_nil
  have hev := eq_val
  go_enter Tryd.func20, Tryd.ntmps20
  go_wp2_with (first
    | (go_at_call 38; with_reducible refine (texts_calls _).mono ?_; rintro e w1 ⟨b, rfl, hb1, hlk⟩; have hl1 := hlk 5 (by decide); rw [show ofF 5 = .nilFunc from rfl] at hl1; clear hlk; have HS1 := Aside0.mk (HS0.out.below hb1); clear hb1; obtain ⟨ca0, ca1, ca2, cb0, cb1, cb2, cr0, cr1, fr0, fr1⟩ := HS1.out.cells)
    | (go_at_call 39; with_reducible refine (Q.value_Valid.calls k a0 a1 a2 _ _ hva).mono ?_; rintro e w2 ⟨rfl, hb2⟩; have HS2 := Aside0.mk (HS1.out.below hb2); clear hb2; clear ca0 ca1 ca2 cb0 cb1 cb2 cr0 cr1 fr0 fr1; obtain ⟨ca0, ca1, ca2, cb0, cb1, cb2, cr0, cr1, fr0, fr1⟩ := HS2.out.cells)
    | (go_at_call 39; with_reducible refine (Q.value_Valid.calls k b0 b1 b2 _ _ hvb).mono ?_; rintro e w3 ⟨rfl, hb3⟩; have HS3 := Aside0.mk (HS2.out.below hb3); clear hb3; clear ca0 ca1 ca2 cb0 cb1 cb2 cr0 cr1 fr0 fr1; obtain ⟨ca0, ca1, ca2, cb0, cb1, cb2, cr0, cr1, fr0, fr1⟩ := HS3.out.cells)
    | ((with_reducible refine gate_op (op := .load 32 (.global 0)) rfl ?_); refine gl0_event rfl rfl rfl ?hGl ?_; (case hGl => exact HS3.out.2.2.2.2))
    | ((with_reducible refine gate_op (op := .load 32 (.global 1)) rfl ?_); refine gl1_event rfl rfl rfl ?hGl ?_; (case hGl => exact HS3.out.2.2.2.2)))
  refine bodyPost_ret (results_ct rfl _ _ (w.heap.size + 1 + 1) 32 #[.int .i64 0, .int .i64 0] (0, 0) _ rfl (by (with_reducible repeat (first | refine blk_drewN ?_ _ | refine blk_drew ?_ | refine blk_alloc ?_ _)); refine blk_put (cs := #[.int .i64 0, .int .i64 0]) ?_ 1 _ rfl; (with_reducible repeat (first | refine blk_drewN ?_ _ | refine blk_drew ?_ | refine blk_alloc ?_ _)); refine blk_put (cs := #[.int .i64 0, .int .i64 0]) ?_ 0 _ rfl; (with_reducible repeat (first | refine blk_drewN ?_ _ | refine blk_drew ?_ | refine blk_alloc ?_ _)); exact HS3.out.2.2.1) Tryd.underlying32 rfl (by kernel_rfl)) rfl ?_
  have HBX := HS3.out.2.2.2.1
  exact ⟨rfl, by repeat (first | exact HBX | apply below_alloc | apply pw_below_drewN | apply below_drew1 | refine below_set ?_ (by omega))⟩
set_option maxRecDepth 100000 in
set_option maxHeartbeats 4000000 in
theorem of_5_na (k : Nat) (tol a0 a1 : Int) (a2 : ByteArray) (b0 b1 : Int) (b2 : ByteArray) (w : World) (hG : Gl w) (hva : Q.value_Valid.f k a0 a1 a2 = some true) (hvb : Q.value_Valid.f k b0 b1 b2 = some true) (ht : decide (tol < 0) = false) (ht1 : decide (1000000000 ≤ tol) = false) (ha : (a0 == 0) = true) :
    Calls Tryd.prog 20 #[.int .i64 5, .int .i64 tol, .agg #[.int .i64 a0, .int .i64 a1, .string a2], .agg #[.int .i64 b0, .int .i64 b1, .string b2]] w fun e w' => e = .returned (.tuple #[.agg #[.int .i64 0, .int .i64 1], .int .i64 0]) ∧ Below w.heap.size w w' := by
  have HS0 := Aside0.mk (OfS.start (a0 := a0) (a1 := a1) (a2 := a2) (b0 := b0) (b1 := b1) (b2 := b2) hG)
  clear hG
  have hu := Tryd.underlying32
  have hu2 := Tryd.underlying26
  have hnn := eq_nil_nil
  have hfn := eq_func_nil
  have hev := eq_val
  go_enter Tryd.func20, Tryd.ntmps20
  go_wp2_with (first
    | (go_at_call 38; with_reducible refine (texts_calls _).mono ?_; rintro e w1 ⟨b, rfl, hb1, hlk⟩; have hl1 := hlk 5 (by decide); rw [show ofF 5 = .nilFunc from rfl] at hl1; clear hlk; have HS1 := Aside0.mk (HS0.out.below hb1); clear hb1; obtain ⟨ca0, ca1, ca2, cb0, cb1, cb2, cr0, cr1, fr0, fr1⟩ := HS1.out.cells)
    | (go_at_call 39; with_reducible refine (Q.value_Valid.calls k a0 a1 a2 _ _ hva).mono ?_; rintro e w2 ⟨rfl, hb2⟩; have HS2 := Aside0.mk (HS1.out.below hb2); clear hb2; clear ca0 ca1 ca2 cb0 cb1 cb2 cr0 cr1 fr0 fr1; obtain ⟨ca0, ca1, ca2, cb0, cb1, cb2, cr0, cr1, fr0, fr1⟩ := HS2.out.cells)
    | (go_at_call 39; with_reducible refine (Q.value_Valid.calls k b0 b1 b2 _ _ hvb).mono ?_; rintro e w3 ⟨rfl, hb3⟩; have HS3 := Aside0.mk (HS2.out.below hb3); clear hb3; clear ca0 ca1 ca2 cb0 cb1 cb2 cr0 cr1 fr0 fr1; obtain ⟨ca0, ca1, ca2, cb0, cb1, cb2, cr0, cr1, fr0, fr1⟩ := HS3.out.cells)
    | ((with_reducible refine gate_op (op := .load 32 (.global 0)) rfl ?_); refine gl0_event rfl rfl rfl ?hGl ?_; (case hGl => exact HS3.out.2.2.2.2))
    | ((with_reducible refine gate_op (op := .load 32 (.global 1)) rfl ?_); refine gl1_event rfl rfl rfl ?hGl ?_; (case hGl => exact HS3.out.2.2.2.2)))
  refine bodyPost_ret (results_ct rfl _ _ (w.heap.size + 1 + 1) 32 #[.int .i64 0, .int .i64 1] (0, 0) _ rfl (by (with_reducible repeat (first | refine blk_drewN ?_ _ | refine blk_drew ?_ | refine blk_alloc ?_ _)); refine blk_put (cs := #[.int .i64 0, .int .i64 0]) ?_ 1 _ rfl; (with_reducible repeat (first | refine blk_drewN ?_ _ | refine blk_drew ?_ | refine blk_alloc ?_ _)); refine blk_put (cs := #[.int .i64 0, .int .i64 0]) ?_ 0 _ rfl; (with_reducible repeat (first | refine blk_drewN ?_ _ | refine blk_drew ?_ | refine blk_alloc ?_ _)); exact HS3.out.2.2.1) Tryd.underlying32 rfl (by kernel_rfl)) rfl ?_
  have HBX := HS3.out.2.2.2.1
  exact ⟨rfl, by repeat (first | exact HBX | apply below_alloc | apply pw_below_drewN | apply below_drew1 | refine below_set ?_ (by omega))⟩
set_option maxRecDepth 100000 in
set_option maxHeartbeats 4000000 in
theorem of_5_nb (k : Nat) (tol a0 a1 : Int) (a2 : ByteArray) (b0 b1 : Int) (b2 : ByteArray) (w : World) (hG : Gl w) (hva : Q.value_Valid.f k a0 a1 a2 = some true) (hvb : Q.value_Valid.f k b0 b1 b2 = some true) (ht : decide (tol < 0) = false) (ht1 : decide (1000000000 ≤ tol) = false) (ha : (a0 == 0) = false) (hb : (b0 == 0) = true) :
    Calls Tryd.prog 20 #[.int .i64 5, .int .i64 tol, .agg #[.int .i64 a0, .int .i64 a1, .string a2], .agg #[.int .i64 b0, .int .i64 b1, .string b2]] w fun e w' => e = .returned (.tuple #[.agg #[.int .i64 0, .int .i64 1], .int .i64 0]) ∧ Below w.heap.size w w' := by
  have HS0 := Aside0.mk (OfS.start (a0 := a0) (a1 := a1) (a2 := a2) (b0 := b0) (b1 := b1) (b2 := b2) hG)
  clear hG
  have hu := Tryd.underlying32
  have hu2 := Tryd.underlying26
  have hnn := eq_nil_nil
  have hfn := eq_func_nil
  have hev := eq_val
  go_enter Tryd.func20, Tryd.ntmps20
  go_wp2_with (first
    | (go_at_call 38; with_reducible refine (texts_calls _).mono ?_; rintro e w1 ⟨b, rfl, hb1, hlk⟩; have hl1 := hlk 5 (by decide); rw [show ofF 5 = .nilFunc from rfl] at hl1; clear hlk; have HS1 := Aside0.mk (HS0.out.below hb1); clear hb1; obtain ⟨ca0, ca1, ca2, cb0, cb1, cb2, cr0, cr1, fr0, fr1⟩ := HS1.out.cells)
    | (go_at_call 39; with_reducible refine (Q.value_Valid.calls k a0 a1 a2 _ _ hva).mono ?_; rintro e w2 ⟨rfl, hb2⟩; have HS2 := Aside0.mk (HS1.out.below hb2); clear hb2; clear ca0 ca1 ca2 cb0 cb1 cb2 cr0 cr1 fr0 fr1; obtain ⟨ca0, ca1, ca2, cb0, cb1, cb2, cr0, cr1, fr0, fr1⟩ := HS2.out.cells)
    | (go_at_call 39; with_reducible refine (Q.value_Valid.calls k b0 b1 b2 _ _ hvb).mono ?_; rintro e w3 ⟨rfl, hb3⟩; have HS3 := Aside0.mk (HS2.out.below hb3); clear hb3; clear ca0 ca1 ca2 cb0 cb1 cb2 cr0 cr1 fr0 fr1; obtain ⟨ca0, ca1, ca2, cb0, cb1, cb2, cr0, cr1, fr0, fr1⟩ := HS3.out.cells)
    | ((with_reducible refine gate_op (op := .load 32 (.global 0)) rfl ?_); refine gl0_event rfl rfl rfl ?hGl ?_; (case hGl => exact HS3.out.2.2.2.2))
    | ((with_reducible refine gate_op (op := .load 32 (.global 1)) rfl ?_); refine gl1_event rfl rfl rfl ?hGl ?_; (case hGl => exact HS3.out.2.2.2.2)))
  refine bodyPost_ret (results_ct rfl _ _ (w.heap.size + 1 + 1) 32 #[.int .i64 0, .int .i64 1] (0, 0) _ rfl (by (with_reducible repeat (first | refine blk_drewN ?_ _ | refine blk_drew ?_ | refine blk_alloc ?_ _)); refine blk_put (cs := #[.int .i64 0, .int .i64 0]) ?_ 1 _ rfl; (with_reducible repeat (first | refine blk_drewN ?_ _ | refine blk_drew ?_ | refine blk_alloc ?_ _)); refine blk_put (cs := #[.int .i64 0, .int .i64 0]) ?_ 0 _ rfl; (with_reducible repeat (first | refine blk_drewN ?_ _ | refine blk_drew ?_ | refine blk_alloc ?_ _)); exact HS3.out.2.2.1) Tryd.underlying32 rfl (by kernel_rfl)) rfl ?_
  have HBX := HS3.out.2.2.2.1
  exact ⟨rfl, by repeat (first | exact HBX | apply below_alloc | apply pw_below_drewN | apply below_drew1 | refine below_set ?_ (by omega))⟩
set_option maxRecDepth 100000 in
set_option maxHeartbeats 4000000 in
theorem of_5_kd (k : Nat) (tol a0 a1 : Int) (a2 : ByteArray) (b0 b1 : Int) (b2 : ByteArray) (w : World) (hG : Gl w) (hva : Q.value_Valid.f k a0 a1 a2 = some true) (hvb : Q.value_Valid.f k b0 b1 b2 = some true) (ht : decide (tol < 0) = false) (ht1 : decide (1000000000 ≤ tol) = false) (ha : (a0 == 0) = false) (hb : (b0 == 0) = false) (e0 : (a0 != b0) = true) :
    Calls Tryd.prog 20 #[.int .i64 5, .int .i64 tol, .agg #[.int .i64 a0, .int .i64 a1, .string a2], .agg #[.int .i64 b0, .int .i64 b1, .string b2]] w fun e w' => e = .returned (.tuple #[.agg #[.int .i64 0, .int .i64 0], .int .i64 10]) ∧ Below w.heap.size w w' := by
  have HS0 := Aside0.mk (OfS.start (a0 := a0) (a1 := a1) (a2 := a2) (b0 := b0) (b1 := b1) (b2 := b2) hG)
  clear hG
  have hu := Tryd.underlying32
  have hu2 := Tryd.underlying26
  have hnn := eq_nil_nil
  have hfn := eq_func_nil
  have hev := eq_val
  go_enter Tryd.func20, Tryd.ntmps20
  go_wp2_with (first
    | (go_at_call 38; with_reducible refine (texts_calls _).mono ?_; rintro e w1 ⟨b, rfl, hb1, hlk⟩; have hl1 := hlk 5 (by decide); rw [show ofF 5 = .nilFunc from rfl] at hl1; clear hlk; have HS1 := Aside0.mk (HS0.out.below hb1); clear hb1; obtain ⟨ca0, ca1, ca2, cb0, cb1, cb2, cr0, cr1, fr0, fr1⟩ := HS1.out.cells)
    | (go_at_call 39; with_reducible refine (Q.value_Valid.calls k a0 a1 a2 _ _ hva).mono ?_; rintro e w2 ⟨rfl, hb2⟩; have HS2 := Aside0.mk (HS1.out.below hb2); clear hb2; clear ca0 ca1 ca2 cb0 cb1 cb2 cr0 cr1 fr0 fr1; obtain ⟨ca0, ca1, ca2, cb0, cb1, cb2, cr0, cr1, fr0, fr1⟩ := HS2.out.cells)
    | (go_at_call 39; with_reducible refine (Q.value_Valid.calls k b0 b1 b2 _ _ hvb).mono ?_; rintro e w3 ⟨rfl, hb3⟩; have HS3 := Aside0.mk (HS2.out.below hb3); clear hb3; clear ca0 ca1 ca2 cb0 cb1 cb2 cr0 cr1 fr0 fr1; obtain ⟨ca0, ca1, ca2, cb0, cb1, cb2, cr0, cr1, fr0, fr1⟩ := HS3.out.cells)
    | ((with_reducible refine gate_op (op := .load 32 (.global 0)) rfl ?_); refine gl0_event rfl rfl rfl ?hGl ?_; (case hGl => exact HS3.out.2.2.2.2))
    | ((with_reducible refine gate_op (op := .load 32 (.global 1)) rfl ?_); refine gl1_event rfl rfl rfl ?hGl ?_; (case hGl => exact HS3.out.2.2.2.2)))
  refine bodyPost_ret (results_ct rfl _ _ (w.heap.size + 1 + 1) 32 #[.int .i64 0, .int .i64 0] (0, 0) _ rfl (by (with_reducible repeat (first | refine blk_drewN ?_ _ | refine blk_drew ?_ | refine blk_alloc ?_ _)); refine blk_put (cs := #[.int .i64 0, .int .i64 0]) ?_ 1 _ rfl; (with_reducible repeat (first | refine blk_drewN ?_ _ | refine blk_drew ?_ | refine blk_alloc ?_ _)); refine blk_put (cs := #[.int .i64 0, .int .i64 0]) ?_ 0 _ rfl; (with_reducible repeat (first | refine blk_drewN ?_ _ | refine blk_drew ?_ | refine blk_alloc ?_ _)); exact HS3.out.2.2.1) Tryd.underlying32 rfl (by kernel_rfl)) rfl ?_
  have HBX := HS3.out.2.2.2.1
  exact ⟨rfl, by repeat (first | exact HBX | apply below_alloc | apply pw_below_drewN | apply below_drew1 | refine below_set ?_ (by omega))⟩
set_option maxRecDepth 100000 in
set_option maxHeartbeats 4000000 in
theorem of_5_ty (k : Nat) (tol a0 a1 : Int) (a2 : ByteArray) (b0 b1 : Int) (b2 : ByteArray) (w : World) (hG : Gl w) (hva : Q.value_Valid.f k a0 a1 a2 = some true) (hvb : Q.value_Valid.f k b0 b1 b2 = some true) (ht : decide (tol < 0) = false) (ht1 : decide (1000000000 ≤ tol) = false) (ha : (a0 == 0) = false) (hb : (b0 == 0) = false) (e0 : (a0 != b0) = false) (e2 : (a0 != 2) = true) (e3 : (a0 != 3) = true) :
    Calls Tryd.prog 20 #[.int .i64 5, .int .i64 tol, .agg #[.int .i64 a0, .int .i64 a1, .string a2], .agg #[.int .i64 b0, .int .i64 b1, .string b2]] w fun e w' => e = .returned (.tuple #[.agg #[.int .i64 0, .int .i64 0], .int .i64 10]) ∧ Below w.heap.size w w' := by
  have HS0 := Aside0.mk (OfS.start (a0 := a0) (a1 := a1) (a2 := a2) (b0 := b0) (b1 := b1) (b2 := b2) hG)
  clear hG
  have hu := Tryd.underlying32
  have hu2 := Tryd.underlying26
  have hnn := eq_nil_nil
  have hfn := eq_func_nil
  have hev := eq_val
  go_enter Tryd.func20, Tryd.ntmps20
  go_wp2_with (first
    | (go_at_call 38; with_reducible refine (texts_calls _).mono ?_; rintro e w1 ⟨b, rfl, hb1, hlk⟩; have hl1 := hlk 5 (by decide); rw [show ofF 5 = .nilFunc from rfl] at hl1; clear hlk; have HS1 := Aside0.mk (HS0.out.below hb1); clear hb1; obtain ⟨ca0, ca1, ca2, cb0, cb1, cb2, cr0, cr1, fr0, fr1⟩ := HS1.out.cells)
    | (go_at_call 39; with_reducible refine (Q.value_Valid.calls k a0 a1 a2 _ _ hva).mono ?_; rintro e w2 ⟨rfl, hb2⟩; have HS2 := Aside0.mk (HS1.out.below hb2); clear hb2; clear ca0 ca1 ca2 cb0 cb1 cb2 cr0 cr1 fr0 fr1; obtain ⟨ca0, ca1, ca2, cb0, cb1, cb2, cr0, cr1, fr0, fr1⟩ := HS2.out.cells)
    | (go_at_call 39; with_reducible refine (Q.value_Valid.calls k b0 b1 b2 _ _ hvb).mono ?_; rintro e w3 ⟨rfl, hb3⟩; have HS3 := Aside0.mk (HS2.out.below hb3); clear hb3; clear ca0 ca1 ca2 cb0 cb1 cb2 cr0 cr1 fr0 fr1; obtain ⟨ca0, ca1, ca2, cb0, cb1, cb2, cr0, cr1, fr0, fr1⟩ := HS3.out.cells)
    | ((with_reducible refine gate_op (op := .load 32 (.global 0)) rfl ?_); refine gl0_event rfl rfl rfl ?hGl ?_; (case hGl => exact HS3.out.2.2.2.2))
    | ((with_reducible refine gate_op (op := .load 32 (.global 1)) rfl ?_); refine gl1_event rfl rfl rfl ?hGl ?_; (case hGl => exact HS3.out.2.2.2.2)))
  refine bodyPost_ret (results_ct rfl _ _ (w.heap.size + 1 + 1) 32 #[.int .i64 0, .int .i64 0] (0, 0) _ rfl (by (with_reducible repeat (first | refine blk_drewN ?_ _ | refine blk_drew ?_ | refine blk_alloc ?_ _)); refine blk_put (cs := #[.int .i64 0, .int .i64 0]) ?_ 1 _ rfl; (with_reducible repeat (first | refine blk_drewN ?_ _ | refine blk_drew ?_ | refine blk_alloc ?_ _)); refine blk_put (cs := #[.int .i64 0, .int .i64 0]) ?_ 0 _ rfl; (with_reducible repeat (first | refine blk_drewN ?_ _ | refine blk_drew ?_ | refine blk_alloc ?_ _)); exact HS3.out.2.2.1) Tryd.underlying32 rfl (by kernel_rfl)) rfl ?_
  have HBX := HS3.out.2.2.2.1
  exact ⟨rfl, by repeat (first | exact HBX | apply below_alloc | apply pw_below_drewN | apply below_drew1 | refine below_set ?_ (by omega))⟩
set_option maxRecDepth 100000 in
set_option maxHeartbeats 4000000 in
theorem of_5_c2 (k : Nat) (tol a0 a1 : Int) (a2 : ByteArray) (b0 b1 : Int) (b2 : ByteArray) (w : World) (hG : Gl w) (hva : Q.value_Valid.f k a0 a1 a2 = some true) (hvb : Q.value_Valid.f k b0 b1 b2 = some true) (ht : decide (tol < 0) = false) (ht1 : decide (1000000000 ≤ tol) = false) (ha : (a0 == 0) = false) (hb : (b0 == 0) = false) (e0 : (a0 != b0) = false) (e2 : (a0 != 2) = false) (r1 r2 : Int) (hN : Q.measure_Near.f k a1 b1 tol = some (r1, r2)) :
    Calls Tryd.prog 20 #[.int .i64 5, .int .i64 tol, .agg #[.int .i64 a0, .int .i64 a1, .string a2], .agg #[.int .i64 b0, .int .i64 b1, .string b2]] w fun e w' => e = .returned (.tuple #[.agg #[.int .i64 r1, .int .i64 r2], .int .i64 0]) ∧ Below w.heap.size w w' := by
  have HS0 := Aside0.mk (OfS.start (a0 := a0) (a1 := a1) (a2 := a2) (b0 := b0) (b1 := b1) (b2 := b2) hG)
  clear hG
  have hu := Tryd.underlying32
  have hu2 := Tryd.underlying26
  have hnn := eq_nil_nil
  have hfn := eq_func_nil
  have hev := eq_val
  go_enter Tryd.func20, Tryd.ntmps20
  go_wp2_with (first
    | (go_at_call 38; with_reducible refine (texts_calls _).mono ?_; rintro e w1 ⟨b, rfl, hb1, hlk⟩; have hl1 := hlk 5 (by decide); rw [show ofF 5 = .nilFunc from rfl] at hl1; clear hlk; have HS1 := Aside0.mk (HS0.out.below hb1); clear hb1; obtain ⟨ca0, ca1, ca2, cb0, cb1, cb2, cr0, cr1, fr0, fr1⟩ := HS1.out.cells)
    | (go_at_call 39; with_reducible refine (Q.value_Valid.calls k a0 a1 a2 _ _ hva).mono ?_; rintro e w2 ⟨rfl, hb2⟩; have HS2 := Aside0.mk (HS1.out.below hb2); clear hb2; clear ca0 ca1 ca2 cb0 cb1 cb2 cr0 cr1 fr0 fr1; obtain ⟨ca0, ca1, ca2, cb0, cb1, cb2, cr0, cr1, fr0, fr1⟩ := HS2.out.cells)
    | (go_at_call 39; with_reducible refine (Q.value_Valid.calls k b0 b1 b2 _ _ hvb).mono ?_; rintro e w3 ⟨rfl, hb3⟩; have HS3 := Aside0.mk (HS2.out.below hb3); clear hb3; clear ca0 ca1 ca2 cb0 cb1 cb2 cr0 cr1 fr0 fr1; obtain ⟨ca0, ca1, ca2, cb0, cb1, cb2, cr0, cr1, fr0, fr1⟩ := HS3.out.cells)
    | ((with_reducible refine gate_op (op := .load 32 (.global 0)) rfl ?_); refine gl0_event rfl rfl rfl ?hGl ?_; (case hGl => exact HS3.out.2.2.2.2))
    | ((with_reducible refine gate_op (op := .load 32 (.global 1)) rfl ?_); refine gl1_event rfl rfl rfl ?hGl ?_; (case hGl => exact HS3.out.2.2.2.2))
    | (go_at_call 24; with_reducible refine (Q.measure_Near.calls k a1 b1 tol r1 r2 _ HS3.out.gl hN).mono ?_; rintro e w4 ⟨rfl, hb4⟩; have HS4 := Aside0.mk (HS3.out.below hb4); clear hb4; clear ca0 ca1 ca2 cb0 cb1 cb2 cr0 cr1 fr0 fr1; obtain ⟨ca0, ca1, ca2, cb0, cb1, cb2, cr0, cr1, fr0, fr1⟩ := HS4.out.cells))
  refine bodyPost_ret (results_ct rfl _ _ (w.heap.size + 1 + 1) 32 #[.int .i64 r1, .int .i64 r2] (0, 0) _ rfl (by (with_reducible repeat (first | refine blk_drewN ?_ _ | refine blk_drew ?_ | refine blk_alloc ?_ _)); refine blk_put (cs := #[.int .i64 r1, .int .i64 0]) ?_ 1 _ rfl; (with_reducible repeat (first | refine blk_drewN ?_ _ | refine blk_drew ?_ | refine blk_alloc ?_ _)); refine blk_put (cs := #[.int .i64 0, .int .i64 0]) ?_ 0 _ rfl; (with_reducible repeat (first | refine blk_drewN ?_ _ | refine blk_drew ?_ | refine blk_alloc ?_ _)); exact HS4.out.2.2.1) Tryd.underlying32 rfl (by kernel_rfl)) rfl ?_
  have HBX := HS4.out.2.2.2.1
  exact ⟨rfl, by repeat (first | exact HBX | apply below_alloc | apply pw_below_drewN | apply below_drew1 | refine below_set ?_ (by omega))⟩
set_option maxRecDepth 100000 in
set_option maxHeartbeats 4000000 in
theorem of_5_c3 (k : Nat) (tol a0 a1 : Int) (a2 : ByteArray) (b0 b1 : Int) (b2 : ByteArray) (w : World) (hG : Gl w) (hva : Q.value_Valid.f k a0 a1 a2 = some true) (hvb : Q.value_Valid.f k b0 b1 b2 = some true) (ht : decide (tol < 0) = false) (ht1 : decide (1000000000 ≤ tol) = false) (ha : (a0 == 0) = false) (hb : (b0 == 0) = false) (e0 : (a0 != b0) = false) (e2 : (a0 != 2) = true) (e3 : (a0 != 3) = false) (r1 r2 : Int) (hN : Q.measure_Near.f k a1 b1 tol = some (r1, r2)) :
    Calls Tryd.prog 20 #[.int .i64 5, .int .i64 tol, .agg #[.int .i64 a0, .int .i64 a1, .string a2], .agg #[.int .i64 b0, .int .i64 b1, .string b2]] w fun e w' => e = .returned (.tuple #[.agg #[.int .i64 r1, .int .i64 r2], .int .i64 0]) ∧ Below w.heap.size w w' := by
  have HS0 := Aside0.mk (OfS.start (a0 := a0) (a1 := a1) (a2 := a2) (b0 := b0) (b1 := b1) (b2 := b2) hG)
  clear hG
  have hu := Tryd.underlying32
  have hu2 := Tryd.underlying26
  have hnn := eq_nil_nil
  have hfn := eq_func_nil
  have hev := eq_val
  go_enter Tryd.func20, Tryd.ntmps20
  go_wp2_with (first
    | (go_at_call 38; with_reducible refine (texts_calls _).mono ?_; rintro e w1 ⟨b, rfl, hb1, hlk⟩; have hl1 := hlk 5 (by decide); rw [show ofF 5 = .nilFunc from rfl] at hl1; clear hlk; have HS1 := Aside0.mk (HS0.out.below hb1); clear hb1; obtain ⟨ca0, ca1, ca2, cb0, cb1, cb2, cr0, cr1, fr0, fr1⟩ := HS1.out.cells)
    | (go_at_call 39; with_reducible refine (Q.value_Valid.calls k a0 a1 a2 _ _ hva).mono ?_; rintro e w2 ⟨rfl, hb2⟩; have HS2 := Aside0.mk (HS1.out.below hb2); clear hb2; clear ca0 ca1 ca2 cb0 cb1 cb2 cr0 cr1 fr0 fr1; obtain ⟨ca0, ca1, ca2, cb0, cb1, cb2, cr0, cr1, fr0, fr1⟩ := HS2.out.cells)
    | (go_at_call 39; with_reducible refine (Q.value_Valid.calls k b0 b1 b2 _ _ hvb).mono ?_; rintro e w3 ⟨rfl, hb3⟩; have HS3 := Aside0.mk (HS2.out.below hb3); clear hb3; clear ca0 ca1 ca2 cb0 cb1 cb2 cr0 cr1 fr0 fr1; obtain ⟨ca0, ca1, ca2, cb0, cb1, cb2, cr0, cr1, fr0, fr1⟩ := HS3.out.cells)
    | ((with_reducible refine gate_op (op := .load 32 (.global 0)) rfl ?_); refine gl0_event rfl rfl rfl ?hGl ?_; (case hGl => exact HS3.out.2.2.2.2))
    | ((with_reducible refine gate_op (op := .load 32 (.global 1)) rfl ?_); refine gl1_event rfl rfl rfl ?hGl ?_; (case hGl => exact HS3.out.2.2.2.2))
    | (go_at_call 24; with_reducible refine (Q.measure_Near.calls k a1 b1 tol r1 r2 _ HS3.out.gl hN).mono ?_; rintro e w4 ⟨rfl, hb4⟩; have HS4 := Aside0.mk (HS3.out.below hb4); clear hb4; clear ca0 ca1 ca2 cb0 cb1 cb2 cr0 cr1 fr0 fr1; obtain ⟨ca0, ca1, ca2, cb0, cb1, cb2, cr0, cr1, fr0, fr1⟩ := HS4.out.cells))
  refine bodyPost_ret (results_ct rfl _ _ (w.heap.size + 1 + 1) 32 #[.int .i64 r1, .int .i64 r2] (0, 0) _ rfl (by (with_reducible repeat (first | refine blk_drewN ?_ _ | refine blk_drew ?_ | refine blk_alloc ?_ _)); refine blk_put (cs := #[.int .i64 r1, .int .i64 0]) ?_ 1 _ rfl; (with_reducible repeat (first | refine blk_drewN ?_ _ | refine blk_drew ?_ | refine blk_alloc ?_ _)); refine blk_put (cs := #[.int .i64 0, .int .i64 0]) ?_ 0 _ rfl; (with_reducible repeat (first | refine blk_drewN ?_ _ | refine blk_drew ?_ | refine blk_alloc ?_ _)); exact HS4.out.2.2.1) Tryd.underlying32 rfl (by kernel_rfl)) rfl ?_
  have HBX := HS4.out.2.2.2.1
  exact ⟨rfl, by repeat (first | exact HBX | apply below_alloc | apply pw_below_drewN | apply below_drew1 | refine below_set ?_ (by omega))⟩
theorem fin3 {x y z r1 r2 r3 : Int} (h : some (x, y, z) = some (r1, r2, r3)) : x = r1 ∧ y = r2 ∧ z = r3 := by
  injection h with h
  exact ⟨congrArg (fun p => p.1) h, congrArg (fun p => p.2.1) h, congrArg (fun p => p.2.2) h⟩
theorem bt {p : Prop} [Decidable p] (h : p) : decide p = true := decide_eq_true h
theorem bf {p : Prop} [Decidable p] (h : ¬ p) : decide p = false := decide_eq_false h
theorem eqt {x y : Int} (h : x = y) : (x == y) = true := beq_iff_eq.2 h
theorem eqf {x y : Int} (h : ¬ x = y) : (x == y) = false := beq_eq_false_iff_ne.2 h
theorem net {x y : Int} (h : ¬ x = y) : (x != y) = true := bne_iff_ne.2 h
theorem nef {x y : Int} (h : x = y) : (x != y) = false := bne_eq_false_iff_eq.2 h
theorem lqt {x y : List UInt8} (h : x = y) : (x == y) = true := beq_iff_eq.2 h
theorem lqf {x y : List UInt8} (h : ¬ x = y) : (x == y) = false := beq_eq_false_iff_ne.2 h
theorem measure_Of.calls (k : Nat) (m tol a0 a1 : Int) (a2 : ByteArray) (b0 b1 : Int) (b2 : ByteArray) (r1 r2 r3 : Int) (w : World) (hG : Gl w) (h : measure_Of.f k m tol a0 a1 a2 b0 b1 b2 = some (r1, r2, r3)) :
    Calls Tryd.prog 20 #[.int .i64 m, .int .i64 tol, .agg #[.int .i64 a0, .int .i64 a1, .string a2], .agg #[.int .i64 b0, .int .i64 b1, .string b2]] w fun e w' => e = .returned (.tuple #[.agg #[.int .i64 r1, .int .i64 r2], .int .i64 r3]) ∧ Below w.heap.size w w' := by
  unfold measure_Of.f at h
  by_cases hwf : (Lit.int .i64 m).wf = true
  · rw [if_pos hwf] at h
    by_cases hm : m < 1 ∨ 5 < m
    · rw [if_pos hm] at h
      obtain ⟨rfl, rfl, rfl⟩ := fin3 h
      exact of_other k m tol a0 a1 a2 b0 b1 b2 w hG hwf (by unfold ofF; rw [if_neg (by omega), if_neg (by omega), if_neg (by omega)]) (eqf (by omega)) (net (by omega))
    · rw [if_neg hm] at h
      obtain rfl | rfl | rfl | rfl | rfl : m = 1 ∨ m = 2 ∨ m = 3 ∨ m = 4 ∨ m = 5 := by omega
      · cases hva : Q.value_Valid.f k a0 a1 a2 with
        | none => rw [hva] at h; cases h
        | some va =>
          rw [hva] at h
          simp only [Option.bind_some] at h
          cases va with
          | false =>
            rw [if_neg (by decide)] at h
            obtain ⟨rfl, rfl, rfl⟩ := fin3 h
            exact of_1_va k tol a0 a1 a2 b0 b1 b2 w hG hva
          | true =>
            rw [if_pos rfl] at h
            cases hvb : Q.value_Valid.f k b0 b1 b2 with
            | none => rw [hvb] at h; cases h
            | some vb =>
              rw [hvb] at h
              simp only [Option.bind_some] at h
              cases vb with
              | false =>
                rw [if_neg (by decide)] at h
                obtain ⟨rfl, rfl, rfl⟩ := fin3 h
                exact of_1_vb k tol a0 a1 a2 b0 b1 b2 w hG hva hvb
              | true =>
                rw [if_pos rfl] at h
                unfold ofTail at h
                rw [if_neg (fun h => absurd h.1 (by decide))] at h
                by_cases na : a0 = 0
                · rw [if_pos (.inl na)] at h
                  obtain ⟨rfl, rfl, rfl⟩ := fin3 h
                  exact of_1_na k tol a0 a1 a2 b0 b1 b2 w hG hva hvb (eqt na)
                by_cases nb : b0 = 0
                · rw [if_pos (.inr nb)] at h
                  obtain ⟨rfl, rfl, rfl⟩ := fin3 h
                  exact of_1_nb k tol a0 a1 a2 b0 b1 b2 w hG hva hvb (eqf na) (eqt nb)
                rw [if_neg (fun h => h.elim na nb)] at h
                rw [if_pos rfl] at h
                by_cases e0 : a0 = b0
                · by_cases e1 : a1 = b1
                  · by_cases e2 : a2.toList = b2.toList
                    · rw [if_pos ⟨e0, e1, e2⟩] at h
                      obtain ⟨rfl, rfl, rfl⟩ := fin3 h
                      exact of_1_eq k tol a0 a1 a2 b0 b1 b2 w hG hva hvb (eqf na) (eqf nb) (eqt e0) (eqt e1) (lqt e2)
                    · rw [if_neg (fun h => e2 h.2.2)] at h
                      obtain ⟨rfl, rfl, rfl⟩ := fin3 h
                      exact of_1_n2 k tol a0 a1 a2 b0 b1 b2 w hG hva hvb (eqf na) (eqf nb) (eqt e0) (eqt e1) (lqf e2)
                  · rw [if_neg (fun h => e1 h.2.1)] at h
                    obtain ⟨rfl, rfl, rfl⟩ := fin3 h
                    exact of_1_n1 k tol a0 a1 a2 b0 b1 b2 w hG hva hvb (eqf na) (eqf nb) (eqt e0) (eqf e1)
                · rw [if_neg (fun h => e0 h.1)] at h
                  obtain ⟨rfl, rfl, rfl⟩ := fin3 h
                  exact of_1_n0 k tol a0 a1 a2 b0 b1 b2 w hG hva hvb (eqf na) (eqf nb) (eqf e0)
      · cases hva : Q.value_Valid.f k a0 a1 a2 with
        | none => rw [hva] at h; cases h
        | some va =>
          rw [hva] at h
          simp only [Option.bind_some] at h
          cases va with
          | false =>
            rw [if_neg (by decide)] at h
            obtain ⟨rfl, rfl, rfl⟩ := fin3 h
            exact of_2_va k tol a0 a1 a2 b0 b1 b2 w hG hva
          | true =>
            rw [if_pos rfl] at h
            cases hvb : Q.value_Valid.f k b0 b1 b2 with
            | none => rw [hvb] at h; cases h
            | some vb =>
              rw [hvb] at h
              simp only [Option.bind_some] at h
              cases vb with
              | false =>
                rw [if_neg (by decide)] at h
                obtain ⟨rfl, rfl, rfl⟩ := fin3 h
                exact of_2_vb k tol a0 a1 a2 b0 b1 b2 w hG hva hvb
              | true =>
                rw [if_pos rfl] at h
                unfold ofTail at h
                rw [if_neg (fun h => absurd h.1 (by decide))] at h
                by_cases na : a0 = 0
                · rw [if_pos (.inl na)] at h
                  obtain ⟨rfl, rfl, rfl⟩ := fin3 h
                  exact of_2_na k tol a0 a1 a2 b0 b1 b2 w hG hva hvb (eqt na)
                by_cases nb : b0 = 0
                · rw [if_pos (.inr nb)] at h
                  obtain ⟨rfl, rfl, rfl⟩ := fin3 h
                  exact of_2_nb k tol a0 a1 a2 b0 b1 b2 w hG hva hvb (eqf na) (eqt nb)
                rw [if_neg (fun h => h.elim na nb)] at h
                rw [if_neg (by decide)] at h
                by_cases kd : a0 = b0
                · skip
                  by_cases e1 : a0 = 1
                  · rw [if_neg (fun h => h.elim (fun h => h kd) (fun h => h.elim (fun h => absurd h.1 (by decide)) (fun h => h.2 e1))), if_neg (by decide)] at h
                    rw [if_pos rfl] at h
                    obtain ⟨⟨q1, q2⟩, hN, h⟩ := Option.bind_eq_some_iff.1 h
                    obtain ⟨rfl, rfl, rfl⟩ := fin3 h
                    exact of_2_c k tol a0 a1 a2 b0 b1 b2 w hG hva hvb (eqf na) (eqf nb) (nef kd) (nef e1) q1 q2 hN
                  · rw [if_pos (.inr (.inr ⟨by decide, e1⟩))] at h
                    obtain ⟨rfl, rfl, rfl⟩ := fin3 h
                    exact of_2_ty k tol a0 a1 a2 b0 b1 b2 w hG hva hvb (eqf na) (eqf nb) (nef kd) (net e1)
                · rw [if_pos (.inl kd)] at h
                  obtain ⟨rfl, rfl, rfl⟩ := fin3 h
                  exact of_2_kd k tol a0 a1 a2 b0 b1 b2 w hG hva hvb (eqf na) (eqf nb) (net kd)
      · cases hva : Q.value_Valid.f k a0 a1 a2 with
        | none => rw [hva] at h; cases h
        | some va =>
          rw [hva] at h
          simp only [Option.bind_some] at h
          cases va with
          | false =>
            rw [if_neg (by decide)] at h
            obtain ⟨rfl, rfl, rfl⟩ := fin3 h
            exact of_3_va k tol a0 a1 a2 b0 b1 b2 w hG hva
          | true =>
            rw [if_pos rfl] at h
            cases hvb : Q.value_Valid.f k b0 b1 b2 with
            | none => rw [hvb] at h; cases h
            | some vb =>
              rw [hvb] at h
              simp only [Option.bind_some] at h
              cases vb with
              | false =>
                rw [if_neg (by decide)] at h
                obtain ⟨rfl, rfl, rfl⟩ := fin3 h
                exact of_3_vb k tol a0 a1 a2 b0 b1 b2 w hG hva hvb
              | true =>
                rw [if_pos rfl] at h
                unfold ofTail at h
                rw [if_neg (fun h => absurd h.1 (by decide))] at h
                by_cases na : a0 = 0
                · rw [if_pos (.inl na)] at h
                  obtain ⟨rfl, rfl, rfl⟩ := fin3 h
                  exact of_3_na k tol a0 a1 a2 b0 b1 b2 w hG hva hvb (eqt na)
                by_cases nb : b0 = 0
                · rw [if_pos (.inr nb)] at h
                  obtain ⟨rfl, rfl, rfl⟩ := fin3 h
                  exact of_3_nb k tol a0 a1 a2 b0 b1 b2 w hG hva hvb (eqf na) (eqt nb)
                rw [if_neg (fun h => h.elim na nb)] at h
                rw [if_neg (by decide)] at h
                by_cases kd : a0 = b0
                · skip
                  by_cases e1 : a0 = 1
                  · rw [if_neg (fun h => h.elim (fun h => h kd) (fun h => h.elim (fun h => absurd h.1 (by decide)) (fun h => h.2 e1))), if_neg (by decide)] at h
                    rw [if_neg (by decide), if_pos rfl] at h
                    obtain ⟨⟨q1, q2⟩, hN, h⟩ := Option.bind_eq_some_iff.1 h
                    obtain ⟨rfl, rfl, rfl⟩ := fin3 h
                    exact of_3_c k tol a0 a1 a2 b0 b1 b2 w hG hva hvb (eqf na) (eqf nb) (nef kd) (nef e1) q1 q2 hN
                  · rw [if_pos (.inr (.inr ⟨by decide, e1⟩))] at h
                    obtain ⟨rfl, rfl, rfl⟩ := fin3 h
                    exact of_3_ty k tol a0 a1 a2 b0 b1 b2 w hG hva hvb (eqf na) (eqf nb) (nef kd) (net e1)
                · rw [if_pos (.inl kd)] at h
                  obtain ⟨rfl, rfl, rfl⟩ := fin3 h
                  exact of_3_kd k tol a0 a1 a2 b0 b1 b2 w hG hva hvb (eqf na) (eqf nb) (net kd)
      · cases hva : Q.value_Valid.f k a0 a1 a2 with
        | none => rw [hva] at h; cases h
        | some va =>
          rw [hva] at h
          simp only [Option.bind_some] at h
          cases va with
          | false =>
            rw [if_neg (by decide)] at h
            obtain ⟨rfl, rfl, rfl⟩ := fin3 h
            exact of_4_va k tol a0 a1 a2 b0 b1 b2 w hG hva
          | true =>
            rw [if_pos rfl] at h
            cases hvb : Q.value_Valid.f k b0 b1 b2 with
            | none => rw [hvb] at h; cases h
            | some vb =>
              rw [hvb] at h
              simp only [Option.bind_some] at h
              cases vb with
              | false =>
                rw [if_neg (by decide)] at h
                obtain ⟨rfl, rfl, rfl⟩ := fin3 h
                exact of_4_vb k tol a0 a1 a2 b0 b1 b2 w hG hva hvb
              | true =>
                rw [if_pos rfl] at h
                unfold ofTail at h
                rw [if_neg (fun h => absurd h.1 (by decide))] at h
                by_cases na : a0 = 0
                · rw [if_pos (.inl na)] at h
                  obtain ⟨rfl, rfl, rfl⟩ := fin3 h
                  exact of_4_na k tol a0 a1 a2 b0 b1 b2 w hG hva hvb (eqt na)
                by_cases nb : b0 = 0
                · rw [if_pos (.inr nb)] at h
                  obtain ⟨rfl, rfl, rfl⟩ := fin3 h
                  exact of_4_nb k tol a0 a1 a2 b0 b1 b2 w hG hva hvb (eqf na) (eqt nb)
                rw [if_neg (fun h => h.elim na nb)] at h
                rw [if_neg (by decide)] at h
                by_cases kd : a0 = b0
                · skip
                  by_cases e1 : a0 = 1
                  · rw [if_neg (fun h => h.elim (fun h => h kd) (fun h => h.elim (fun h => absurd h.1 (by decide)) (fun h => h.2 e1))), if_neg (by decide)] at h
                    rw [if_neg (by decide), if_neg (by decide)] at h
                    obtain ⟨⟨q1, q2⟩, hN, h⟩ := Option.bind_eq_some_iff.1 h
                    obtain ⟨rfl, rfl, rfl⟩ := fin3 h
                    exact of_4_c k tol a0 a1 a2 b0 b1 b2 w hG hva hvb (eqf na) (eqf nb) (nef kd) (nef e1) q1 q2 hN
                  · rw [if_pos (.inr (.inr ⟨by decide, e1⟩))] at h
                    obtain ⟨rfl, rfl, rfl⟩ := fin3 h
                    exact of_4_ty k tol a0 a1 a2 b0 b1 b2 w hG hva hvb (eqf na) (eqf nb) (nef kd) (net e1)
                · rw [if_pos (.inl kd)] at h
                  obtain ⟨rfl, rfl, rfl⟩ := fin3 h
                  exact of_4_kd k tol a0 a1 a2 b0 b1 b2 w hG hva hvb (eqf na) (eqf nb) (net kd)
      · cases hva : Q.value_Valid.f k a0 a1 a2 with
        | none => rw [hva] at h; cases h
        | some va =>
          rw [hva] at h
          simp only [Option.bind_some] at h
          cases va with
          | false =>
            rw [if_neg (by decide)] at h
            obtain ⟨rfl, rfl, rfl⟩ := fin3 h
            exact of_5_va k tol a0 a1 a2 b0 b1 b2 w hG hva
          | true =>
            rw [if_pos rfl] at h
            cases hvb : Q.value_Valid.f k b0 b1 b2 with
            | none => rw [hvb] at h; cases h
            | some vb =>
              rw [hvb] at h
              simp only [Option.bind_some] at h
              cases vb with
              | false =>
                rw [if_neg (by decide)] at h
                obtain ⟨rfl, rfl, rfl⟩ := fin3 h
                exact of_5_vb k tol a0 a1 a2 b0 b1 b2 w hG hva hvb
              | true =>
                rw [if_pos rfl] at h
                unfold ofTail at h
                by_cases t0 : tol < 0
                · rw [if_pos ⟨rfl, .inl t0⟩] at h
                  obtain ⟨rfl, rfl, rfl⟩ := fin3 h
                  exact of_5_t0 k tol a0 a1 a2 b0 b1 b2 w hG hva hvb (bt t0)
                by_cases t1 : 1000000000 ≤ tol
                · rw [if_pos ⟨rfl, .inr t1⟩] at h
                  obtain ⟨rfl, rfl, rfl⟩ := fin3 h
                  exact of_5_t1 k tol a0 a1 a2 b0 b1 b2 w hG hva hvb (bf t0) (bt t1)
                rw [if_neg (fun h => h.2.elim t0 t1)] at h
                by_cases na : a0 = 0
                · rw [if_pos (.inl na)] at h
                  obtain ⟨rfl, rfl, rfl⟩ := fin3 h
                  exact of_5_na k tol a0 a1 a2 b0 b1 b2 w hG hva hvb (bf t0) (bf t1) (eqt na)
                by_cases nb : b0 = 0
                · rw [if_pos (.inr nb)] at h
                  obtain ⟨rfl, rfl, rfl⟩ := fin3 h
                  exact of_5_nb k tol a0 a1 a2 b0 b1 b2 w hG hva hvb (bf t0) (bf t1) (eqf na) (eqt nb)
                rw [if_neg (fun h => h.elim na nb)] at h
                rw [if_neg (by decide)] at h
                by_cases kd : a0 = b0
                · skip
                  by_cases e2 : a0 = 2
                  · rw [if_neg (fun h => h.elim (fun h => h kd) (fun h => h.elim (fun h => h.2.1 e2) (fun h => h.1 rfl))), if_pos rfl] at h
                    obtain ⟨⟨q1, q2⟩, hN, h⟩ := Option.bind_eq_some_iff.1 h
                    obtain ⟨rfl, rfl, rfl⟩ := fin3 h
                    exact of_5_c2 k tol a0 a1 a2 b0 b1 b2 w hG hva hvb (bf t0) (bf t1) (eqf na) (eqf nb) (nef kd) (nef e2) q1 q2 hN
                  · by_cases e3 : a0 = 3
                    · rw [if_neg (fun h => h.elim (fun h => h kd) (fun h => h.elim (fun h => h.2.2 e3) (fun h => h.1 rfl))), if_pos rfl] at h
                      obtain ⟨⟨q1, q2⟩, hN, h⟩ := Option.bind_eq_some_iff.1 h
                      obtain ⟨rfl, rfl, rfl⟩ := fin3 h
                      exact of_5_c3 k tol a0 a1 a2 b0 b1 b2 w hG hva hvb (bf t0) (bf t1) (eqf na) (eqf nb) (nef kd) (net e2) (nef e3) q1 q2 hN
                    · rw [if_pos (.inr (.inl ⟨rfl, e2, e3⟩))] at h
                      obtain ⟨rfl, rfl, rfl⟩ := fin3 h
                      exact of_5_ty k tol a0 a1 a2 b0 b1 b2 w hG hva hvb (bf t0) (bf t1) (eqf na) (eqf nb) (nef kd) (net e2) (net e3)
                · rw [if_pos (.inl kd)] at h
                  obtain ⟨rfl, rfl, rfl⟩ := fin3 h
                  exact of_5_kd k tol a0 a1 a2 b0 b1 b2 w hG hva hvb (bf t0) (bf t1) (eqf na) (eqf nb) (net kd)
  · rw [if_neg hwf] at h
    cases h
end Go.Proofs.YtgomlpndoolllaaDoor
