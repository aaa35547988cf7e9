/- Parts of the proof of Lists: words, contracts and plain laws. -/
import Derived.Test.YtiffkknhnmpgbaaDoorLists15
import Derived.Test.YtiffkknhnmpgbaaDoorLists17
import Derived.Test.YtiffkknhnmpgbaaDoorLists18
import Derived.Test.YtiffkknhnmpgbaaDoorLists24
section
/- measure.Jaccard: for every two lists of texts (at most 1000000 elements of at most 1000000 bytes), the quotient of what is in both and of what is in either, by the printed share; in the form of the printed contracts. -/
namespace Go.Proofs.YtiffkknhnmpgbaaDoor
open Go Go.RowKit Go.Shelf Go.Maps Go.Sort Go.Proofs.YtiffkknhnmpgbaaDoorW.PrintWords Go.Proofs.YtiffkknhnmpgbaaDoorW.PrintLast
attribute [local go_sem] Oper.semAt_some
set_option linter.unusedVariables false
set_option linter.unusedSimpArgs false

abbrev JSt := List (List UInt8) × List (List UInt8) × Nat × Nat
def jStep (s : JSt) (x : List UInt8) : JSt :=
  if x ∈ s.2.1 then s else if x ∈ s.1 then (s.1.erase x, addL s.2.1 x, s.2.2.1, s.2.2.2 + 1) else (s.1, addL s.2.1 x, s.2.2.1 + 1, s.2.2.2)
def jLeft (a : List (List UInt8)) : List (List UInt8) := a.foldl addL []
def jFold (a b : List (List UInt8)) : JSt := b.foldl jStep (jLeft a, [], (jLeft a).length, 0)
def dataL (l : List ByteArray) : List (List UInt8) := l.map fun x => x.data.toList
def jOk (l : List ByteArray) : Bool := decide (l.length ≤ 1000000) && l.all fun x => decide (x.size ≤ 1000000)
def measure_Jaccard.f (k : Nat) (l0 l1 : List ByteArray) : Option (Int × Int) :=
  if jOk l0 && jOk l1 then (if (jFold (dataL l0) (dataL l1)).2.2.1 = 0 then some (1, 1) else Q.measure_share.f k ((jFold (dataL l0) (dataL l1)).2.2.2 : Int) ((jFold (dataL l0) (dataL l1)).2.2.1 : Int)) else none
theorem jLeft_snoc (a : List (List UInt8)) (x : List UInt8) : jLeft (a ++ [x]) = addL (jLeft a) x := by simp [jLeft, List.foldl_append]
theorem jFold_snoc (a b : List (List UInt8)) (x : List UInt8) : jFold a (b ++ [x]) = jStep (jFold a b) x := by simp [jFold, List.foldl_append]
theorem addL_len (l : List (List UInt8)) (x : List UInt8) : (addL l x).length ≤ l.length + 1 := by unfold addL; split <;> simp
theorem jLeft_len (a : List (List UInt8)) : (jLeft a).length ≤ a.length := by
  induction a using snocInd with
  | nil => simp [jLeft]
  | snoc a x ih => rw [jLeft_snoc, List.length_append]; have := addL_len (jLeft a) x; simp; omega
theorem jFold_len (a b : List (List UInt8)) : (jFold a b).2.2.1 ≤ a.length + b.length ∧ (jFold a b).2.2.2 ≤ b.length := by
  induction b using snocInd with
  | nil => have := jLeft_len a; simp [jFold]; exact this
  | snoc b x ih =>
    rw [jFold_snoc, List.length_append]
    unfold jStep
    split
    · simp; omega
    · split <;> simp <;> omega
theorem dataL_take (l : List ByteArray) (k : Nat) (h : k < l.length) : dataL (l.take (k + 1)) = dataL (l.take k) ++ [(l[k]).data.toList] := by
  unfold dataL
  rw [List.take_succ_eq_append_getElem h, List.map_append]
  rfl
theorem jOk_at {l : List ByteArray} (h : jOk l = true) (k : Nat) (hk : k < l.length) : l[k].size ≤ 1000000 := by
  unfold jOk at h
  simp only [Bool.and_eq_true, decide_eq_true_eq, List.all_eq_true] at h
  exact h.2 _ (List.getElem_mem hk)
theorem jOk_len {l : List ByteArray} (h : jOk l = true) : l.length ≤ 1000000 := by
  unfold jOk at h
  simp only [Bool.and_eq_true, decide_eq_true_eq] at h
  exact h.1
theorem blk_grow {w W : World} {g b : Nat} {o : Obj} (h : w.grownBy W (some b)) (hg : w.heap[g]? = some o) (hne : g ≠ b) : W.heap[g]? = some o :=
  (h.block g (Array.getElem?_eq_some_iff.1 hg).1 (fun e => hne (by injection e))).trans hg
theorem SetOn.grow {w W : World} {b c n : Nat} {l : List (List UInt8)} (h : SetOn w b n l) (hg : w.grownBy W (some c)) (hne : b ≠ c) : SetOn W b n l :=
  h.kept fun D hD => hD.kept hg (fun e => hne (by injection e))
theorem rd_at (l : List ByteArray) (k : Nat) (h : k < l.length) : rdOf ByteArray.empty l (k : Int) = l[k] := by
  simp [rdOf, List.getD_eq_getElem?_getD, h]

set_option maxRecDepth 100000 in
set_option maxHeartbeats 4000000 in
theorem measure_Jaccard.calls (k : Nat) (A0 : Option Addr) (c0 : Nat) (l0 : List ByteArray) (A1 : Option Addr) (c1 : Nat) (l1 : List ByteArray) (r1 r2 : Int) (w : World) (hr0 : Kd.C Kd.string w A0 l0.length l0) (hc0 : l0.length ≤ c0)
    (hr1 : Kd.C Kd.string w A1 l1.length l1) (hc1 : l1.length ≤ c1) (hG : Gl w) (h : measure_Jaccard.f k l0 l1 = some (r1, r2)) :
    Calls Tryd.prog 39 #[.slice A0 l0.length c0, .slice A1 l1.length c1] w fun e w' => e = .returned (.agg #[.int .i64 r1, .int .i64 r2]) ∧ Below w.heap.size w w' := by
  unfold measure_Jaccard.f at h
  split at h
  · rename_i hok
    rw [Bool.and_eq_true] at hok
    obtain ⟨ok0, ok1⟩ := hok
    have len0 := jOk_len ok0
    have len1 := jOk_len ok1
    have HR0 := Aside0.mk hr0
    have HR1 := Aside0.mk hr1
    have HGl := Aside0.mk hG
    have HF := Aside0.mk h
    clear h hr0 hr1 hG
    have hmm := @run_makeMap Tryd.prog
    have hu := Tryd.underlying41
    go_enter Tryd.func39, Tryd.ntmps39
    go_wp2
    have cell_of : ∀ (A : Option Addr) (l : List ByteArray) (i : Nat) (wr : World), Kd.C Kd.string w A l.length l → (hi : i < l.length) → Below w.heap.size w wr → ∃ ad, A = some ad ∧ wr.cell? (ad.add i) = some (.string l[i]) := by
      intro A l i wr hC hi hb
      obtain ⟨ad, e, hx⟩ := Kd.at_string hC (i : Int) (by omega) (by omega)
      rw [rd_at l i hi, Int.toNat_natCast] at hx
      exact ⟨ad, e, (hb.cell (World.block_lt_of_cell? w _ hx)).trans hx⟩
    have CO := Aside0.mk cell_of
    clear cell_of
    go_loopw [16] (fun c wr => ∃ i : Nat, i ≤ l0.length ∧ c = .int .i64 i ∧ SetOn wr (w.heap.size + 1) i (jLeft (dataL (l0.take i))) ∧
      wr.heap[w.heap.size]? = some (.cells #[.int .i64 0, .int .i64 0] 41 (0, 0)) ∧ Below w.heap.size w wr) (fun c _ => l0.length - (intOf c).toNat)
    case atStart =>
      refine ⟨0, Nat.zero_le _, rfl, ?_, ?_, ((Below.refl _ w).alloc (Nat.le_refl _) _).alloc (by simp) _⟩
      · have := SetOn.made (w.alloc (.cells #[.int .i64 0, .int .i64 0] 41))
        rw [World.size_alloc] at this
        exact this
      · exact blk_alloc (blk_new w _) _
    case round =>
      obtain ⟨i, hi, rfl, hS, hbk, hb⟩ := hrel
      by_cases hlt : i < l0.length
      · obtain ⟨ad, rfl, hx⟩ := CO.out A0 l0 i wr HR0.out hlt hb
        have hsz := jOk_at ok0 i hlt
        have htk := dataL_take l0 i hlt
        obtain ⟨t, ht⟩ : ∃ t, l0[i] = t := ⟨_, rfl⟩
        rw [ht] at hx hsz htk
        have HTK := Aside0.mk htk
        clear htk ht
        go_wp2_with (at_mapUpdate; refine set_add rfl rfl _ _ _ 105 rfl Tryd.underlying105 (by omega) rfl hS t hsz rfl rfl ?_; intro w1 hS1 hg1)
        go_roundw
        case rel =>
          refine ⟨i + 1, by omega, by go_num, ?_, blk_grow hg1 hbk (by omega), hb.grown hg1 hb.size (fun j e => by cases e; omega)⟩
          rw [HTK.out, jLeft_snoc]
          exact hS1
        case measure => simp [intOf]; omega
      · obtain rfl : i = l0.length := by omega
        rw [List.take_of_length_le (Nat.le_refl _)] at hS
        have hls := jLeft_len (dataL l0)
        have hdl : (dataL l0).length = l0.length := by simp [dataL]
        have hln := hS.len 105 Tryd.underlying105 3
        have hlow := hS.lt
        have hwsz := hb.size
        go_wp2
        clear hln
        obtain ⟨b2, hb2e⟩ : ∃ b2, wr.heap.size = b2 := ⟨_, rfl⟩
        have hmade := SetOn.made wr
        have hGW : Gl wr := HGl.out.below hb
        rw [hb2e] at hmade hlow hwsz ⊢
        go_loopw [8, 9, 28] (fun al bo c W => ∃ i : Nat, i ≤ l1.length ∧ c = .int .i64 i ∧ al = .int .i64 ((jFold (dataL l0) (dataL (l1.take i))).2.2.1 : Int) ∧ bo = .int .i64 ((jFold (dataL l0) (dataL (l1.take i))).2.2.2 : Int) ∧
          SetOn W (w.heap.size + 1) l0.length (jFold (dataL l0) (dataL (l1.take i))).1 ∧ SetOn W b2 i (jFold (dataL l0) (dataL (l1.take i))).2.1 ∧
          W.heap[w.heap.size]? = some (.cells #[.int .i64 0, .int .i64 0] 41 (0, 0)) ∧ Below w.heap.size w W) (fun _ _ c _ => l1.length - (intOf c).toNat)
        case atStart =>
          refine ⟨0, Nat.zero_le _, rfl, rfl, rfl, hS.kept (fun D hD => hD.alloc _), ?_, blk_alloc hbk _, hb.alloc hb.size _⟩
          exact hmade
        case round =>
          clear hS hbk
          obtain ⟨i, hi, rfl, rfl, rfl, hS, hT, hbk, hb2⟩ := hrel
          clear hmade
          obtain ⟨⟨L, T, al, bo⟩, hst⟩ : ∃ st, jFold (dataL l0) (dataL (l1.take i)) = st := ⟨_, rfl⟩
          have hjl := jFold_len (dataL l0) (dataL (l1.take i))
          have hdl1 : (dataL (l1.take i)).length = min i l1.length := by simp [dataL]
          rw [hst] at hS hT hjl ⊢
          dsimp only at hS hT hjl ⊢
          by_cases hlt : i < l1.length
          · obtain ⟨ad, rfl, hx⟩ := CO.out A1 l1 i wr HR1.out hlt hb2
            have hsz := jOk_at ok1 i hlt
            have htk := dataL_take l1 i hlt
            obtain ⟨t, ht⟩ : ∃ t, l1[i] = t := ⟨_, rfl⟩
            rw [ht] at hx hsz htk
            have hnx : jFold (dataL l0) (dataL (l1.take (i + 1))) = jStep (L, T, al, bo) t.data.toList := by rw [htk, jFold_snoc, hst]
            have HNX := Aside0.mk hnx
            clear htk ht hst hnx
            by_cases hT1 : t.data.toList ∈ T
            · go_wp2_with (at_lookup; refine set_lookup rfl _ _ 105 rfl Tryd.underlying105 rfl hT t hsz rfl true (decide_eq_true hT1) ?_)
              go_roundw
              case rel =>
                refine ⟨i + 1, by omega, by go_num, ?_, ?_, ?_, ?_, hbk, hb2⟩
                all_goals (rw [HNX.out, jStep, if_pos hT1])
                · exact hS
                · obtain ⟨D, hD, hD2⟩ := hT
                  exact ⟨D, hD.mono (by omega), hD2⟩
              case measure => simp [intOf]; omega
            · by_cases hL1 : t.data.toList ∈ L
              · go_wp2_with (first
                  | (at_lookup; refine set_lookup rfl _ _ 105 rfl Tryd.underlying105 rfl hT t hsz rfl false (decide_eq_false hT1) ?_)
                  | (at_lookup; refine set_lookup rfl _ _ 105 rfl Tryd.underlying105 rfl hS t hsz rfl true (decide_eq_true hL1) ?_)
                  | (at_mapUpdate; refine set_add rfl rfl _ _ _ 105 rfl Tryd.underlying105 (by omega) rfl hT t hsz rfl rfl ?_; intro w1 hT2 hg1; have hS2 := hS.grow hg1 (by omega); have hbk2 := blk_grow hg1 hbk (by omega); have hb3 := hb2.grown hg1 hb2.size (fun j e => by cases e; omega); clear hT hS hbk hb2 hg1 hx; have hT := hT2; have hS := hS2; have hbk := hbk2; have hb2 := hb3; clear hT2 hS2 hbk2 hb3)
                  | (at_delete; refine set_del rfl rfl _ _ 105 rfl Tryd.underlying105 rfl hS t hsz rfl ?_; intro w2 hS2 hg2; have hT2 := hT.grow hg2 (by omega); have hbk2 := blk_grow hg2 hbk (by omega); have hb3 := hb2.grown hg2 hb2.size (fun j e => by cases e; omega); clear hT hS hbk hb2 hg2; have hT := hT2; have hS := hS2; have hbk := hbk2; have hb2 := hb3; clear hT2 hS2 hbk2 hb3))
                go_roundw
                case rel =>
                  refine ⟨i + 1, by omega, by go_num, ?_, ?_, ?_, ?_, hbk, hb2⟩
                  all_goals (rw [HNX.out, jStep, if_neg hT1, if_pos hL1])
                  · go_num
                  · exact hS
                  · exact hT
                case measure => simp [intOf]; omega
              · go_wp2_with (first
                  | (at_lookup; refine set_lookup rfl _ _ 105 rfl Tryd.underlying105 rfl hT t hsz rfl false (decide_eq_false hT1) ?_)
                  | (at_lookup; refine set_lookup rfl _ _ 105 rfl Tryd.underlying105 rfl hS t hsz rfl false (decide_eq_false hL1) ?_)
                  | (at_mapUpdate; refine set_add rfl rfl _ _ _ 105 rfl Tryd.underlying105 (by omega) rfl hT t hsz rfl rfl ?_; intro w1 hT2 hg1; have hS2 := hS.grow hg1 (by omega); have hbk2 := blk_grow hg1 hbk (by omega); have hb3 := hb2.grown hg1 hb2.size (fun j e => by cases e; omega); clear hT hS hbk hb2 hg1 hx; have hT := hT2; have hS := hS2; have hbk := hbk2; have hb2 := hb3; clear hT2 hS2 hbk2 hb3))
                go_roundw
                case rel =>
                  refine ⟨i + 1, by omega, by go_num, ?_, ?_, ?_, ?_, hbk, hb2⟩
                  all_goals (rw [HNX.out, jStep, if_neg hT1, if_neg hL1])
                  · go_num
                  · exact hS
                  · exact hT
                case measure => simp [intOf]; omega
          · obtain rfl : i = l1.length := by omega
            rw [List.take_of_length_le (Nat.le_refl _)] at hst
            have HF2 := HF.out
            rw [hst] at HF2
            dsimp only at HF2
            have HG2 := HGl.out.below hb2
            by_cases h0 : al = 0
            · rw [if_pos h0] at HF2
              obtain ⟨rfl, rfl⟩ : (1 : Int) = r1 ∧ (1 : Int) = r2 := by injection HF2 with e; exact ⟨congrArg Prod.fst e, congrArg Prod.snd e⟩
              subst h0
              have hfz0 := blk_frozen hbk 0
              have hfz1 := blk_frozen hbk 1
              have hcz0 : wr.cell? ⟨w.heap.size, 0, none⟩ = some (.int .i64 0) := (blk_cell hbk 0).trans rfl
              have hcz1 : wr.cell? ⟨w.heap.size, 1, none⟩ = some (.int .i64 0) := (blk_cell hbk 1).trans rfl
              go_wp2_with ((with_reducible refine gate_op (op := .load 41 (.global 1)) rfl ?_); refine gl1_event rfl rfl rfl ?hGl ?_; (case hGl => exact HG2))
              refine bodyPost_ret (results_cell_row rfl _ _ w.heap.size 41 #[.int .i64 1, .int .i64 1] (0, 0) _ rfl (by refine blk_put (cs := #[.int .i64 1, .int .i64 0]) ?_ 1 _ rfl; refine blk_put (cs := #[.int .i64 0, .int .i64 0]) ?_ 0 _ rfl; exact hbk) Tryd.underlying41 rfl (by kernel_rfl)) rfl ?_
              exact ⟨rfl, below_set (below_set hb2 (Nat.le_refl _)) (Nat.le_refl _)⟩
            · rw [if_neg h0] at HF2
              have hne : ((al : Int) == 0) = false := by simp [h0]
              go_wp2_with (go_at_call 43; refine (Q.measure_share.calls k (bo : Int) (al : Int) r1 r2 _ HG2 HF2).mono ?_; rintro e w3 ⟨rfl, hb3⟩; have hbk2 := blk_below hbk hb3; have hfz0 := blk_frozen hbk2 0; have hfz1 := blk_frozen hbk2 1; have hcz0 : w3.cell? ⟨w.heap.size, 0, none⟩ = some (.int .i64 0) := (blk_cell hbk2 0).trans rfl; have hcz1 : w3.cell? ⟨w.heap.size, 1, none⟩ = some (.int .i64 0) := (blk_cell hbk2 1).trans rfl)
              refine bodyPost_ret (results_cell_row rfl _ _ w.heap.size 41 #[.int .i64 r1, .int .i64 r2] (0, 0) _ rfl (by (with_reducible repeat (first | refine blk_drewN ?_ _ | refine blk_drew ?_ | refine blk_alloc ?_ _)); refine blk_put (cs := #[.int .i64 r1, .int .i64 0]) ?_ 1 _ rfl; (with_reducible repeat (first | refine blk_drewN ?_ _ | refine blk_drew ?_ | refine blk_alloc ?_ _)); refine blk_put (cs := #[.int .i64 0, .int .i64 0]) ?_ 0 _ rfl; (with_reducible repeat (first | refine blk_drewN ?_ _ | refine blk_drew ?_ | refine blk_alloc ?_ _)); exact hbk2) Tryd.underlying41 rfl (by kernel_rfl)) rfl ?_
              have HBX := hb2.trans (hb3.mono hb2.size)
              exact ⟨rfl, by repeat (first | exact HBX | apply below_alloc | apply pw_below_drewN | apply below_drew1 | refine below_set ?_ (Nat.le_refl _))⟩
  · cases h
end Go.Proofs.YtiffkknhnmpgbaaDoor
end

section
/- measure.texts: the three functions by the number of the measure; what a look-up in them gives. -/
namespace Go.Proofs.YtiffkknhnmpgbaaDoor
open Go Go.RowKit Go.Shelf Go.Maps Go.Sort Go.Proofs.YtiffkknhnmpgbaaDoorW.PrintWords Go.Proofs.YtiffkknhnmpgbaaDoorW.PrintLast
attribute [local go_sem] Oper.semAt_some
set_option linter.unusedVariables false
set_option linter.unusedSimpArgs false

/-- The function for a measure; nil for any other number. -/
def ofF (m : Int) : Value := if m = 2 then .func (.func 35) #[] #[] else if m = 3 then .func (.func 38) #[] #[] else if m = 4 then .func (.func 41) #[] #[] else .nilFunc
abbrev anyElem : Value → Option (DataW Value × List MemPlace) := fun v => some (.held v, [])
theorem Klaw3 : Keyed Tryd.prog 3 := int_keyed Tryd.underlying3
section
variable {ops : Array Oper} {rest : List Oper} {o : Oper} {a : Act} {Q : Exit → Act → World → Prop} {w : World}
theorem map_insert (hg : o.guard = none) (hd : o.dst = none) (m x v : Operand) (t : TypeId) (hop : o.op = Op.insert t m x v) {e : TypeId} (ht : Tryd.prog.underlying t = some (.map 3 e)) {b n : Nat} {D : DataW Value} (hn : n ≤ 1000000)
    (hm : a.eval m = .map (some b)) (hown : w.ownsMap Tryd.prog 3 anyElem b n D) (i : Int) (hi : (Lit.int .i64 i).wf = true) (hx : a.eval x = .int .i64 i) (val : Value) (hv : a.eval v = val)
    (hK : ∀ w', w'.ownsMap Tryd.prog 3 anyElem b (n + 1) (D.put (.int .i64 i) (.held val)) → w.grownBy w' (some b) → wpList Tryd.prog ops Q rest a w') : wpList Tryd.prog ops Q (o :: rest) a w := by
  refine wpList_plain hg fun K' hK' => ?_
  obtain ⟨w', hrun, r1, r2⟩ := hown.update Klaw3 ht (by unfold maxLen; omega) (keyOf_int_mk Tryd.underlying3 hi) (val := val) (d := .held val) (ps := []) rfl
  unfold Oper.wp
  simp [execOp, hop, hm, hx, hv, hrun, Result.andThen]
  show K' (a.put o.dst undef) w'
  rw [hd]
  exact hK' _ _ (hK w' r1 r2)
end
def textsD : DataW Value := (((DataW.map []).put (.int .i64 2) (.held (ofF 2))).put (.int .i64 3) (.held (ofF 3))).put (.int .i64 4) (.held (ofF 4))
theorem put_isMap {D : DataW Value} (h : IsMap D) (k : Lit) (d : DataW Value) : IsMap (D.put k d) := by obtain ⟨es, rfl⟩ := h; exact ⟨_, rfl⟩
theorem int_ne {x y : Int} (h : x ≠ y) : (Lit.int .i64 x) ≠ Lit.int .i64 y := fun e => h (by injection e)
theorem texts_at (m : Int) : textsD.atKey (.int .i64 m) (.held .nilFunc) = .held (ofF m) := by
  have k2 : WideAt.IsKeyLit (Lit.int .i64 2) := trivial
  have k3 : WideAt.IsKeyLit (Lit.int .i64 3) := trivial
  have k4 : WideAt.IsKeyLit (Lit.int .i64 4) := trivial
  have m0 : IsMap (DataW.map [] : DataW Value) := ⟨[], rfl⟩
  unfold textsD
  by_cases h4 : m = 4
  · subst h4
    rw [atKey_put_same (put_isMap (put_isMap m0 _ _) _ _) k4]
  · rw [atKey_put_other (int_ne h4)]
    by_cases h3 : m = 3
    · subst h3
      rw [atKey_put_same (put_isMap m0 _ _) k3]
    · rw [atKey_put_other (int_ne h3)]
      by_cases h2 : m = 2
      · subst h2
        rw [atKey_put_same m0 k2]
      · rw [atKey_put_other (int_ne h2)]
        unfold ofF
        rw [if_neg h2, if_neg h3, if_neg h4]
        rfl
set_option maxRecDepth 100000 in
theorem texts_calls (w : World) : Calls Tryd.prog 23 #[] w fun e w' => ∃ b, e = .returned (.map (some b)) ∧ Below w.heap.size w w' ∧
    ∀ m : Int, (Lit.int .i64 m).wf = true → (Instr.lookup 70 (.map (some b)) (.int .i64 m) false).run Tryd.prog w' = .ok (ofF m) w' := by
  have hmm := @run_makeMap Tryd.prog
  go_enter Tryd.func23, Tryd.ntmps23
  go_wp2_with (first
    | ((with_reducible refine gate_op (op := .insert 70 (.tmp 1) (.const (.int .i64 2)) (.func 35)) rfl ?_); refine map_insert rfl rfl _ _ _ _ rfl Tryd.underlying70 (n := 0) (by omega) rfl (World.ownsMap_made _ _ _ _) 2 (by decide) rfl _ rfl ?_; intro w1 h1 g1)
    | ((with_reducible refine gate_op (op := .insert 70 (.tmp 1) (.const (.int .i64 3)) (.func 38)) rfl ?_); refine map_insert rfl rfl _ _ _ _ rfl Tryd.underlying70 (n := 1) (by omega) rfl h1 3 (by decide) rfl _ rfl ?_; intro w2 h2 g2)
    | ((with_reducible refine gate_op (op := .insert 70 (.tmp 1) (.const (.int .i64 4)) (.func 41)) rfl ?_); refine map_insert rfl rfl _ _ _ _ rfl Tryd.underlying70 (n := 2) (by omega) rfl h2 4 (by decide) rfl _ rfl ?_; intro w3 h3 g3))
  go_ret
  have hb : Below w.heap.size w (w.alloc (.map #[] 0)) := (Below.refl _ w).alloc (Nat.le_refl _) _
  have hb1 := hb.grown g1 hb.size (fun j e => by cases e; exact Nat.le_refl _)
  have hb2 := hb1.grown g2 hb1.size (fun j e => by cases e; exact Nat.le_refl _)
  have hb3 := hb2.grown g3 hb2.size (fun j e => by cases e; exact Nat.le_refl _)
  refine ⟨_, rfl, hb3, fun m hm => ?_⟩
  obtain ⟨v, ps, hrun, hv⟩ := h3.lookup (z := .nilFunc) (zd := .held .nilFunc) (zp := []) Klaw3 Tryd.underlying70 (by kernel_rfl) rfl (keyOf_int_mk Tryd.underlying3 hm)
  have h := texts_at m
  unfold textsD at h
  have e2 : ofF 2 = .func (.func 35) #[] #[] := rfl
  have e3 : ofF 3 = .func (.func 38) #[] #[] := rfl
  have e4 : ofF 4 = .func (.func 41) #[] #[] := rfl
  rw [e2, e3, e4] at h
  injection hv with hv
  injection hv with hv _
  have hv2 := hv.trans h
  injection hv2 with hv2
  rw [hv2] at hrun
  exact hrun
end Go.Proofs.YtiffkknhnmpgbaaDoor
end

section
/- Jaccard's measure over counts in one list that holds everything; the triangle. -/
namespace Go.Proofs.YtiffkknhnmpgbaaDoor
set_option linter.unusedVariables false

abbrev Bs := List UInt8
def cU (U : List Bs) (p : Bs → Bool) : Nat := (U.filter p).length
theorem filter_or (p q : Bs → Bool) (U : List Bs) : cU U (fun x => p x || q x) + cU U (fun x => p x && q x) = cU U p + cU U q := by
  induction U with
  | nil => rfl
  | cons x U ih =>
    unfold cU at *
    simp only [List.filter_cons]
    cases p x <;> cases q x <;> simp <;> omega
theorem cU_le {U : List Bs} {p q : Bs → Bool} (h : ∀ x, x ∈ U → p x = true → q x = true) : cU U p ≤ cU U q := by
  induction U with
  | nil => exact Nat.le_refl _
  | cons x U ih =>
    have ih2 := ih (fun y hy => h y (List.mem_cons_of_mem _ hy))
    have hx := h x List.mem_cons_self
    unfold cU at *
    simp only [List.filter_cons]
    cases hp : p x
    · cases q x <;> simp <;> omega
    · rw [hx hp]; simp; omega
theorem cU_congr {U : List Bs} {p q : Bs → Bool} (h : ∀ x, x ∈ U → p x = q x) : cU U p = cU U q := by
  unfold cU; rw [List.filter_congr h]
theorem cU_zero {U : List Bs} {p : Bs → Bool} : cU U p = 0 ↔ ∀ x, x ∈ U → p x = false := by
  unfold cU
  rw [List.length_eq_zero_iff, List.filter_eq_nil_iff]
  exact ⟨fun h x hx => by have := h x hx; simpa using this, fun h x hx => by rw [h x hx]; simp⟩
/-- A list without repetitions, counted in a greater one. -/
theorem count_in {S U : List Bs} (hS : S.Nodup) (hU : U.Nodup) (h : ∀ x, x ∈ S → x ∈ U) (p : Bs → Bool) : (S.filter p).length = cU U (fun x => decide (x ∈ S) && p x) := by
  unfold cU
  refine List.Perm.length_eq ((List.perm_ext_iff_of_nodup (hS.sublist List.filter_sublist) (hU.sublist List.filter_sublist)).2 (fun x => ?_))
  rw [List.mem_filter, List.mem_filter, Bool.and_eq_true, decide_eq_true_eq]
  exact ⟨fun k => ⟨h x k.1, k.1, k.2⟩, fun k => ⟨k.2.1, k.2.2⟩⟩
theorem mem_jLeft (a : List Bs) (x : Bs) : x ∈ jLeft a ↔ x ∈ a := by
  induction a using snocInd with
  | nil => simp [jLeft]
  | snoc a y ih => rw [jLeft_snoc, mem_addL, ih, List.mem_append]; simp; exact Or.comm
theorem nodup_jLeft (a : List Bs) : (jLeft a).Nodup := by
  induction a using snocInd with
  | nil => simp [jLeft]
  | snoc a y ih => rw [jLeft_snoc]; exact nodup_addL ih y
/-- What the loop over the second list holds. -/
theorem jFold_is (a b : List Bs) : (jFold a b).1.Nodup ∧ (∀ x, x ∈ (jFold a b).1 ↔ x ∈ a ∧ x ∉ b) ∧ (jFold a b).2.1 = jLeft b ∧
    (jFold a b).2.2.1 = (jLeft a).length + ((jLeft b).filter fun x => decide (x ∉ a)).length ∧ (jFold a b).2.2.2 = ((jLeft b).filter fun x => decide (x ∈ a)).length := by
  induction b using snocInd with
  | nil => exact ⟨nodup_jLeft a, fun x => by simp [jFold, mem_jLeft], rfl, by simp [jFold, jLeft], by simp [jFold, jLeft]⟩
  | snoc b y ih =>
    obtain ⟨h1, h2, h3, h4, h5⟩ := ih
    rw [jFold_snoc, jLeft_snoc]
    obtain ⟨l, s, al, bo, hj⟩ : ∃ l s al bo, jFold a b = (l, s, al, bo) := ⟨_, _, _, _, rfl⟩
    rw [hj] at h1 h2 h3 h4 h5 ⊢
    dsimp only at h1 h2 h3 h4 h5
    unfold jStep
    dsimp only
    subst h3
    by_cases hs : y ∈ jLeft b
    · have hyb : y ∈ b := (mem_jLeft b y).1 hs
      rw [if_pos hs]
      unfold addL
      rw [if_pos hs]
      refine ⟨h1, fun x => ?_, rfl, h4, h5⟩
      rw [h2 x, List.mem_append]
      simp only [List.mem_singleton, not_or]
      exact ⟨fun k => ⟨k.1, k.2, fun e => k.2 (e ▸ hyb)⟩, fun k => ⟨k.1, k.2.1⟩⟩
    · have hyb : y ∉ b := fun k => hs ((mem_jLeft b y).2 k)
      rw [if_neg hs]
      have ha : addL (jLeft b) y = y :: jLeft b := by unfold addL; rw [if_neg hs]
      by_cases hl : y ∈ l
      · have hya : y ∈ a := ((h2 y).1 hl).1
        rw [if_pos hl, ha]
        refine ⟨h1.erase y, fun x => ?_, rfl, ?_, ?_⟩
        · dsimp only
          rw [h1.mem_erase_iff, h2 x, List.mem_append]
          simp only [List.mem_singleton, not_or]
          exact ⟨fun k => ⟨k.2.1, k.2.2, k.1⟩, fun k => ⟨k.2.2, k.1, k.2.1⟩⟩
        · dsimp only; rw [List.filter_cons, if_neg (by simpa using hya)]; exact h4
        · dsimp only; rw [List.filter_cons, if_pos (by simpa using hya), List.length_cons, h5]
      · have hya : y ∉ a := fun k => hl ((h2 y).2 ⟨k, hyb⟩)
        rw [if_neg hl, ha]
        refine ⟨h1, fun x => ?_, rfl, ?_, ?_⟩
        · dsimp only
          rw [h2 x, List.mem_append]
          simp only [List.mem_singleton, not_or]
          exact ⟨fun k => ⟨k.1, k.2, fun e => hya (e ▸ k.1)⟩, fun k => ⟨k.1, k.2.1⟩⟩
        · dsimp only; rw [List.filter_cons, if_pos (by simpa using hya), List.length_cons, h4]; omega
        · dsimp only; rw [List.filter_cons, if_neg (by simpa using hya)]; exact h5
def inn (a : List Bs) (x : Bs) : Bool := decide (x ∈ a)
/-- In one list: how many are in one of both, and in both. -/
theorem j_all {a b U : List Bs} (hU : U.Nodup) (ha : ∀ x, x ∈ a → x ∈ U) (hb : ∀ x, x ∈ b → x ∈ U) : (jFold a b).2.2.1 = cU U (fun x => inn a x || inn b x) := by
  rw [(jFold_is a b).2.2.2.1]
  have e1 : (jLeft a).length = cU U (inn a) := by
    have := count_in (nodup_jLeft a) hU (fun x hx => ha x ((mem_jLeft a x).1 hx)) (fun _ => true)
    rw [List.filter_eq_self.2 (fun _ _ => rfl)] at this
    rw [this]
    exact cU_congr (fun x _ => by unfold inn; rw [Bool.and_true]; exact decide_eq_decide.2 (mem_jLeft a x))
  have e2 := count_in (nodup_jLeft b) hU (fun x hx => hb x ((mem_jLeft b x).1 hx)) (fun x => decide (x ∉ a))
  rw [e1, e2]
  have e3 : cU U (fun x => decide (x ∈ jLeft b) && decide (x ∉ a)) = cU U (fun x => inn b x && !inn a x) := cU_congr (fun x _ => by unfold inn; rw [decide_eq_decide.2 (mem_jLeft b x), decide_not])
  have e4 := filter_or (inn a) (fun x => inn b x && !inn a x) U
  have e5 : cU U (fun x => inn a x && (inn b x && !inn a x)) = 0 := cU_zero.2 (fun x _ => by cases inn a x <;> simp)
  have e6 : cU U (fun x => inn a x || (inn b x && !inn a x)) = cU U (fun x => inn a x || inn b x) := cU_congr (fun x _ => by cases inn a x <;> simp)
  omega
theorem j_both {a b U : List Bs} (hU : U.Nodup) (hb : ∀ x, x ∈ b → x ∈ U) : (jFold a b).2.2.2 = cU U (fun x => inn a x && inn b x) := by
  rw [(jFold_is a b).2.2.2.2, count_in (nodup_jLeft b) hU (fun x hx => hb x ((mem_jLeft b x).1 hx)) (fun x => decide (x ∈ a))]
  exact cU_congr (fun x _ => by unfold inn; rw [decide_eq_decide.2 (mem_jLeft b x), Bool.and_comm])
/-- Jaccard's measure. -/
def jacS (a b : List Bs) : Int × Int := if (jFold a b).2.2.1 = 0 then (1, 1) else rat (jFold a b).2.2.2 (jFold a b).2.2.1
theorem j_le (a b : List Bs) : (jFold a b).2.2.2 ≤ (jFold a b).2.2.1 := by
  have hU := nodup_jLeft (a ++ b)
  rw [j_all (U := jLeft (a ++ b)) hU (fun x hx => (mem_jLeft _ _).2 (List.mem_append_left _ hx)) (fun x hx => (mem_jLeft _ _).2 (List.mem_append_right _ hx)), j_both hU (fun x hx => (mem_jLeft _ _).2 (List.mem_append_right _ hx))]
  exact cU_le (fun x _ h => by revert h; cases inn a x <;> simp)
theorem jac_len (a b : List Bs) : (jFold a b).2.2.1 ≤ a.length + b.length := (jFold_len a b).1
theorem jacS_low (a b : List Bs) (h : a.length + b.length ≤ 1000000000) : ∃ p q, Low (jacS a b) p q := by
  unfold jacS
  split
  · exact ⟨1, 1, low_one⟩
  · have := jac_len a b
    obtain ⟨p, q, _, hl, _⟩ := rat_low (n := (jFold a b).2.2.2) (d := (jFold a b).2.2.1) (by omega) (j_le a b) (by omega)
    exact ⟨p, q, hl⟩
end Go.Proofs.YtiffkknhnmpgbaaDoor
end
