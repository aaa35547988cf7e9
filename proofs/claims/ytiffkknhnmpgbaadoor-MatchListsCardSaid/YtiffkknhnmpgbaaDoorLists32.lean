/- Parts of the proof of Lists: words, contracts and plain laws. -/
import Derived.Sort.MapsRangeIn
import Derived.Test.YtiffkknhnmpgbaaDoorLists4
import Derived.Test.YtiffkknhnmpgbaaDoorLists11
import Derived.Test.YtiffkknhnmpgbaaDoorLists14
import Derived.Test.YtiffkknhnmpgbaaDoorLists16
import Derived.Test.YtiffkknhnmpgbaaDoorLists17
import Derived.Test.YtiffkknhnmpgbaaDoorLists28
import Derived.Test.YtiffkknhnmpgbaaDoorLists30
namespace Go.Proofs.YtiffkknhnmpgbaaDoor.LLists
end Go.Proofs.YtiffkknhnmpgbaaDoor.LLists
namespace Go.Proofs.YtiffkknhnmpgbaaDoor.Q
end Go.Proofs.YtiffkknhnmpgbaaDoor.Q
namespace Go.Proofs.YtiffkknhnmpgbaaDoor.R
end Go.Proofs.YtiffkknhnmpgbaaDoor.R
namespace Go.Proofs.YtiffkknhnmpgbaaDoor.U
end Go.Proofs.YtiffkknhnmpgbaaDoor.U
section
/- match.Edges. -/
namespace Go.Proofs.YtiffkknhnmpgbaaDoor
open Go Go.RowKit Go.Maps Go.Sort Go.Proofs.YtiffkknhnmpgbaaDoor.R Go.Proofs.YtiffkknhnmpgbaaDoorW.PrintWords Go.Proofs.YtiffkknhnmpgbaaDoorW.PrintLast Go.Proofs.YtiffkknhnmpgbaaDoorW.PrintMore
set_option linter.unusedVariables false
set_option linter.unusedSimpArgs false
def kP : Kd (Int × Int) := Kd.pair (Kd.int .i64) (Kd.int .i64)
def rdP (xs : List (Int × Int)) (i : Int) : Int × Int := xs.getD i.toNat (0, 0)
theorem at_P {w : World} {A : Option Addr} {n : Nat} {xs : List (Int × Int)} (h : Kd.C kP w A n xs) (i : Int) (h0 : 0 ≤ i) (h1 : i < n) : ∃ ad, A = some ad ∧ w.cell? (ad.add (i.toNat * 2)) = some (.int .i64 (rdP xs i).1) ∧ w.cell? ⟨(ad.add (i.toNat * 2)).block, (ad.add (i.toNat * 2)).off + 1, none⟩ = some (.int .i64 (rdP xs i).2) := by
  obtain ⟨ad, c, e, _, hK, hc0⟩ := Kd.C_get h (0, 0) i h0 h1
  have hc : ∀ j u, c[j]? = some u → w.cell? (ad.add (i.toNat * 2 + j)) = some u := hc0
  obtain ⟨_, _, rfl, rfl, rfl⟩ := hK
  exact ⟨ad, e, hc 0 _ rfl, by rw [← add_field _ _ 1 (by omega)]; exact hc 1 _ rfl⟩
def okP (n : Nat) (p : Int × Int) : Bool := (decide (0 ≤ p.1) && decide (p.1 ≤ wrap64 (p.2 - 1))) && (decide (0 ≤ p.2) && decide (p.2 ≤ (n : Int) - 1))
/-- What match.Edges answers: one edge for each pair whose weight is not 0, in order. -/
def EdgesSpec (n : Nat) (l2 : List (Int × Int)) (wt : Int × Int → Int) (es : List S60) (code : Int) : Prop :=
  if l2.all (okP n) = true then code = 0 ∧ es.Pairwise (fun x y => x.f0 < y.f0 ∨ x.f0 = y.f0 ∧ x.f1 < y.f1) ∧ ∀ x : S60, x ∈ es ↔ (x.f0, x.f1) ∈ l2 ∧ x.f2 = wt (x.f0, x.f1) ∧ x.f2 ≠ 0 else es = [] ∧ code = 1
theorem spec_bad {n : Nat} {l2 : List (Int × Int)} {wt : Int × Int → Int} {i : Nat} (hi : i < l2.length) (h : okP n l2[i] = false) : EdgesSpec n l2 wt [] 1 := by
  unfold EdgesSpec
  rw [if_neg]
  · exact ⟨rfl, rfl⟩
  · intro hall
    rw [List.all_eq_true.1 hall _ (List.getElem_mem hi)] at h
    cases h
theorem okP_bounds {n : Nat} {p : Int × Int} (hn : n ≤ 1000) (h : okP n p = true) : 0 ≤ p.1 ∧ p.1 < p.2 ∧ p.2 < n := by
  simp only [okP, Bool.and_eq_true, decide_eq_true_eq] at h
  obtain ⟨⟨h1, h2⟩, h3, h4⟩ := h
  have e : wrap64 (p.2 - 1) = p.2 - 1 := by simp only [wrap64]; omega
  omega
theorem okP_wf {n : Nat} {p : Int × Int} (hn : n ≤ 1000) (h : okP n p = true) : wfp p := by
  obtain ⟨h1, h2, h3⟩ := okP_bounds hn h
  constructor <;> (simp only [Lit.wf, IntKind.min, IntKind.max, IntKind.signed, IntKind.bits, Bool.and_eq_true, decide_eq_true_eq, if_true]; omega)
theorem Kinfo60 : (Tryd.prog.info? 60).map (fun i => (i.zero, i.size, i.bytes)) = some (some (.agg #[.int .i64 0, .int .i64 0, .int .i64 0]), 3, 24) := by kernel_rfl
def rowP (wt : Int × Int → Int) (ss : List (Int × Int)) : List (Int × Int) := ss.filter fun p => wt p != 0
def rowC (wt : Int × Int → Int) (ss : List (Int × Int)) : List Value := (rowP wt ss).flatMap (encE wt)
theorem nodup_len {α : Type} [BEq α] [LawfulBEq α] : ∀ {a b : List α}, a.Nodup → (∀ x ∈ a, x ∈ b) → a.length ≤ b.length
  | [], b, _, _ => Nat.zero_le _
  | x :: a, b, hn, hs => by
    have hx := hs x (by simp)
    have h := nodup_len (a := a) (b := b.erase x) (List.nodup_cons.1 hn).2 (fun y hy => (List.mem_erase_of_ne (fun (e : y = x) => (List.nodup_cons.1 hn).1 (e ▸ hy))).2 (hs y (by simp [hy])))
    rw [List.length_erase_of_mem hx] at h
    have := List.length_pos_of_mem hx
    simp; omega
theorem row_ne_map {H : Type} {P : Program} {k : TypeId} {R : Value → Option (DataW H × List MemPlace)} {w : World} {b n : Nat} {D : DataW H} {base : Nat} {e : TypeId} {size : Nat} {v : Value} {m : Nat} {xs : List Value}
    (h : w.ownsRow base e size v m xs) (hr : w.ownsMap P k R b n D) : some b ≠ v.ownBlock := by
  obtain ⟨es, clock, hb, _⟩ := hr
  rcases h.2 with ⟨rfl, _⟩ | ⟨g, cap, cur, rfl, _, hg, _⟩
  · simp [Value.ownBlock]
  · intro e1
    have : b = g := by simpa [Value.ownBlock] using e1
    subst this
    rw [hb] at hg
    cases hg
theorem cell3_new (w : World) (x y z : Value) (t : TypeId) : ∀ j u, [x, y, z][j]? = some u → (w.alloc (.cells #[x, y, z] t)).cell? ((⟨w.heap.size, 0, none⟩ : Addr).add j) = some u := by
  intro j u hj
  match j, hj with
  | 0, hj => simp at hj; subst hj; simp [Addr.add]
  | 1, hj => simp at hj; subst hj; simp [Addr.add]
  | 2, hj => simp at hj; subst hj; simp [Addr.add]
theorem cell3_new1 (w : World) (o : Obj) (x y z : Value) (t : TypeId) : ∀ j u, [x, y, z][j]? = some u → ((w.alloc o).alloc (.cells #[x, y, z] t)).cell? ((⟨w.heap.size + 1, 0, none⟩ : Addr).add j) = some u := by
  have h := cell3_new (w.alloc o) x y z t
  have e : (w.alloc o).heap.size = w.heap.size + 1 := by simp
  rwa [e] at h
def mkE (wt : Int × Int → Int) (p : Int × Int) : S60 := ⟨p.1, p.2, wt p⟩
theorem reps_edges (wt : Int × Int → Int) (w : World) (base : Nat) (ok : Nat → Prop) : ∀ (ps : List (Int × Int)) (acc : List S60) (cs : List Value), Reps (k60.M w base ok) 3 acc cs → Reps (k60.M w base ok) 3 (acc ++ ps.map (mkE wt)) (cs ++ ps.flatMap (encE wt))
  | [], acc, cs, h => by simpa using h
  | p :: ps, acc, cs, h => by
    have h2 := reps_edges wt w base ok ps (acc ++ [mkE wt p]) (cs ++ encE wt p) (h.snoc (k60_mkM w base ok (mkE wt p)) rfl)
    simpa using h2
theorem R_edges (wt : Int × Int → Int) {w : World} {base n : Nat} {v : Value} {ps : List (Int × Int)} (h : w.ownsRow base 60 3 v n (ps.flatMap (encE wt))) (hn : ps.length = n) : Kd.R k60 60 w base (fun _ => True) v (ps.map (mkE wt)) := by
  subst hn
  have h3 : w.ownsRow base 60 3 v (ps.map (mkE wt)).length (ps.flatMap (encE wt)) := by simpa using h
  exact ⟨fun _ _ => trivial, _, h3, reps_edges wt w base (fun k => True ∧ some k ≠ v.ownBlock) ps [] [] (Reps.none _ _)⟩
theorem spec_good {n : Nat} {l2 : List (Int × Int)} {wt : Int × Int → Int} {ss : List (Int × Int)} (hall : ∀ j (h : j < l2.length), okP n l2[j] = true) (hnd : ss.Nodup) (hmem : ∀ p, p ∈ ss ↔ p ∈ l2) :
    EdgesSpec n l2 wt (((rowP wt ss).mergeSort fun x y => !(ltOf cmpP) y x).map (mkE wt)) 0 := by
  unfold EdgesSpec
  rw [if_pos (List.all_eq_true.2 fun p hp => by obtain ⟨j, hj, e⟩ := List.mem_iff_getElem.1 hp; rw [← e]; exact hall j hj)]
  obtain ⟨h1, h2⟩ := sorted_pairs (rowP wt ss) (hnd.sublist List.filter_sublist)
  refine ⟨rfl, ?_, fun x => ?_⟩
  · rw [List.pairwise_map]
    exact h1
  · rw [List.mem_map]
    constructor
    · rintro ⟨p, hp, rfl⟩
      have h3 := (h2 p).1 hp
      simp only [rowP, List.mem_filter, bne_iff_ne, ne_eq] at h3
      exact ⟨(hmem p).1 h3.1, rfl, h3.2⟩
    · rintro ⟨hx, e, hne⟩
      refine ⟨(x.f0, x.f1), (h2 _).2 ?_, ?_⟩
      · simp only [rowP, List.mem_filter, bne_iff_ne, ne_eq]
        exact ⟨(hmem _).2 hx, by rw [← e]; exact hne⟩
      · obtain ⟨a, b, c⟩ := x
        simp only [mkE] at e ⊢
        rw [← e]
set_option maxRecDepth 100000 in
set_option maxHeartbeats 4000000 in
theorem edges_walk (k : Nat) (A0 : Option Addr) (c0 : Nat) (l0 : List S24) (A1 : Option Addr) (c1 : Nat) (l1 : List S29) (A2 : Option Addr) (c2 : Nat) (l2 : List (Int × Int)) (w : World)
    (hr0 : Kd.C k24 w A0 l0.length l0) (hc0 : l0.length ≤ c0) (hr1 : Kd.C k29 w A1 l1.length l1) (hc1 : l1.length ≤ c1) (hr2 : Kd.C kP w A2 l2.length l2) (hc2 : l2.length ≤ c2) (hG : Gl w)
    (hl0 : l0.length ≤ 200) (hl1 : l1.length ≤ 1000) (hl2 : l2.length ≤ 20000) (wt : Int × Int → Int)
    (hW : (∀ j (h : j < l2.length), okP l1.length l2[j] = true) → ∀ p ∈ l2, okP l1.length p = true → U.match_Weight.f k l0 (rd_T29 l1 p.1).f0.f0 (rd_T29 l1 p.1).f0.f1 (rd_T29 l1 p.1).f0.f2 (rd_T29 l1 p.1).f1 (rd_T29 l1 p.1).f2 (rd_T29 l1 p.1).f3 (rd_T29 l1 p.2).f0.f0 (rd_T29 l1 p.2).f0.f1 (rd_T29 l1 p.2).f0.f2 (rd_T29 l1 p.2).f1 (rd_T29 l1 p.2).f2 (rd_T29 l1 p.2).f3 = some (wt p))
    (hwf : (∀ j (h : j < l2.length), okP l1.length l2[j] = true) → ∀ p ∈ l2, (Lit.int .i64 (wt p)).wf = true) :
    Calls Tryd.prog 16 #[.slice A0 l0.length c0, .slice A1 l1.length c1, .slice A2 l2.length c2] w fun e w' => ∃ v es code, e = .returned (.tuple #[v, .int .i64 code]) ∧ Kd.R k60 60 w' w.heap.size (fun _ => True) v es ∧ Below w.heap.size w w' ∧ EdgesSpec l1.length l2 wt es code := by
  have d1 : decide ((20000 : Int) < (l2.length : Int)) = false := decide_eq_false (by omega)
  have d2 : decide ((200 : Int) < (l0.length : Int)) = false := decide_eq_false (by omega)
  have HR2 := Aside0.mk hr2
  have HR1 := Aside0.mk hr1
  have HR0 := Aside0.mk hr0
  have HB := Aside0.mk (Below.refl w.heap.size w)
  clear hr0 hr1 hr2
  have hmm := @run_makeMap Tryd.prog
  go_enter Tryd.func16, Tryd.ntmps16
  go_wp2
  go_loopw [28] (fun v wr => ∃ i : Nat, i ≤ l2.length ∧ v = .int .i64 i ∧ (∀ j (h : j < i) (h' : j < l2.length), okP l1.length l2[j] = true) ∧ Aside0 (Below w.heap.size w wr)) (fun v _ => l2.length - (intOf v).toNat)
  case atStart => exact ⟨0, Nat.zero_le _, rfl, fun j h => absurd h (Nat.not_lt_zero _), HB⟩
  case round =>
    obtain ⟨i, hi, rfl, hj, HB⟩ := hrel
    by_cases hlt : i < l2.length
    · have hlt3 : (i : Int) < (l2.length : Int) := by omega
      obtain ⟨ad, rfl, hx0, hx1⟩ := at_P HR2.out (i : Int) (by omega) (by omega)
      have hr : rdP l2 (i : Int) = l2[i] := by simp [rdP, List.getD_eq_getElem?_getD, hlt]
      rw [hr] at hx0 hx1
      simp only [Int.toNat_natCast] at hx0 hx1
      replace hx0 := (HB.out.cell (World.block_lt_of_cell? w _ hx0)).trans hx0
      replace hx1 := (HB.out.cell (World.block_lt_of_cell? w _ hx1)).trans hx1
      obtain ⟨p, hp⟩ : ∃ p, l2[i] = p := ⟨_, rfl⟩
      rw [hp] at hx0 hx1
      have hps : okP l1.length p = false → EdgesSpec l1.length l2 wt [] 1 := fun h => spec_bad hlt (by rw [hp]; exact h)
      cases k1 : decide (0 ≤ p.1) with
      | false =>
        have hs := hps (by simp only [okP, k1, Bool.false_and])
        go_wp2
        refine bodyPost_ret (results_tmp2 rfl _ _ _) rfl ?_
        exact ⟨_, _, _, rfl, Kd.R_nil _ _ _ _ _, below_alloc HB.out _, hs⟩
      | true =>
        cases k2 : decide (p.1 ≤ wrap64 (p.2 - 1)) with
        | false =>
          have hs := hps (by simp only [okP, k1, k2, Bool.false_and, Bool.and_false])
          go_wp2
          refine bodyPost_ret (results_tmp2 rfl _ _ _) rfl ?_
          exact ⟨_, _, _, rfl, Kd.R_nil _ _ _ _ _, below_alloc HB.out _, hs⟩
        | true =>
          cases k3 : decide (0 ≤ p.2) with
          | false =>
            have hs := hps (by simp only [okP, k3, Bool.false_and, Bool.and_false])
            go_wp2
            refine bodyPost_ret (results_tmp2 rfl _ _ _) rfl ?_
            exact ⟨_, _, _, rfl, Kd.R_nil _ _ _ _ _, below_alloc HB.out _, hs⟩
          | true =>
            cases k4 : decide (p.2 ≤ (l1.length : Int) - 1) with
            | false =>
              have hs := hps (by simp only [okP, k4, Bool.and_false])
              go_wp2
              refine bodyPost_ret (results_tmp2 rfl _ _ _) rfl ?_
              exact ⟨_, _, _, rfl, Kd.R_nil _ _ _ _ _, below_alloc HB.out _, hs⟩
            | true =>
              have hs : okP l1.length p = true := by simp only [okP, k1, k2, k3, k4, Bool.and_self]
              clear hps
              go_wp2
              go_roundw
              case rel =>
                refine ⟨i + 1, by omega, by go_num, fun j h h' => ?_, ⟨below_alloc HB.out _⟩⟩
                by_cases e : j = i
                · subst e; rw [hp]; exact hs
                · exact hj j (by omega) h'
              case measure => simp [intOf]; omega
    · obtain rfl : i = l2.length := by omega
      replace hW := hW (fun j h => hj j h h)
      replace hwf := hwf (fun j h => hj j h h)
      have hbm := WOn.made wr wt
      have hB2 : Below w.heap.size w (wr.alloc (.map #[] 0)) := below_alloc HB.out _
      obtain ⟨b, hb⟩ : ∃ b, wr.heap.size = b := ⟨_, rfl⟩
      have hbge : w.heap.size ≤ b := by rw [← hb]; exact HB.out.size
      rw [hb] at hbm
      go_wp2
      go_loopw [52] (fun v w2 => ∃ (i n : Nat) (ks : List (Int × Int)), i ≤ l2.length ∧ n ≤ i ∧ v = .int .i64 i ∧ WOn w2 b n ks wt ∧ (∀ p, p ∈ ks ↔ p ∈ l2.take i) ∧ Aside0 (Below w.heap.size w w2)) (fun v _ => l2.length - (intOf v).toNat)
      case atStart => exact ⟨0, 0, [], Nat.zero_le _, Nat.le_refl _, rfl, hbm, fun p => by simp, ⟨hB2⟩⟩
      case round =>
        obtain ⟨i, n, ks, hi, hn, rfl, hM, hks, HB2⟩ := hrel
        by_cases hlt : i < l2.length
        · have hlt3 : (i : Int) < (l2.length : Int) := by omega
          obtain ⟨ad, rfl, hx0, hx1⟩ := at_P HR2.out (i : Int) (by omega) (by omega)
          have hr : rdP l2 (i : Int) = l2[i] := by simp [rdP, List.getD_eq_getElem?_getD, hlt]
          rw [hr] at hx0 hx1
          simp only [Int.toNat_natCast] at hx0 hx1
          replace hx0 := (HB2.out.cell (World.block_lt_of_cell? w _ hx0)).trans hx0
          replace hx1 := (HB2.out.cell (World.block_lt_of_cell? w _ hx1)).trans hx1
          have hok := hj i (by omega) hlt
          have hpm : l2[i] ∈ l2 := List.getElem_mem hlt
          have htk : l2.take (i + 1) = l2.take i ++ [l2[i]] := List.take_succ_eq_append_getElem hlt
          obtain ⟨p, hp⟩ : ∃ p, l2[i] = p := ⟨_, rfl⟩
          rw [hp] at hx0 hx1 hok hpm htk
          obtain ⟨g1, g2, g3⟩ := okP_bounds hl1 hok
          have hpw := okP_wf hl1 hok
          have hwp := hW p hpm hok
          have hM3 : WOn (wr.alloc (.cells #[.int .i64 p.1, .int .i64 p.2] 57)) b n ks wt := hM.kept (fun D hD => hD.kept (World.grownBy_alloc _ _ none) (by simp))
          have HTK := Aside0.mk htk
          clear htk hr hp
          by_cases hin : p ∈ ks
          · have hdec : decide (p ∈ ks) = true := decide_eq_true hin
            go_wp2_with (at_lookup; refine w_lookup rfl _ _ 75 rfl Tryd.underlying75 (Tryd.zeroValue3 _) rfl hM3 p hpw rfl ?_; intro c; rw [hdec])
            go_roundw
            case rel =>
              refine ⟨i + 1, n, ks, by omega, by omega, by go_num, hM3, fun q => ?_, ⟨below_alloc HB2.out _⟩⟩
              rw [HTK.out, List.mem_append, hks q]
              constructor
              · exact .inl
              · rintro (h | h)
                · exact h
                · simp at h; subst h; exact (hks q).1 hin
            case measure => simp [intOf]; omega
          · have hdec : decide (p ∈ ks) = false := decide_eq_false hin
            go_wp2_with (at_lookup; refine w_lookup rfl _ _ 75 rfl Tryd.underlying75 (Tryd.zeroValue3 _) rfl hM3 p hpw rfl ?_; intro c; rw [hdec])
            obtain ⟨W3, hW3⟩ : ∃ W3, wr.alloc (.cells #[.int .i64 p.1, .int .i64 p.2] 57) = W3 := ⟨_, rfl⟩
            have hB6 : W3.heap[wr.heap.size]? = some (.cells #[.int .i64 p.1, .int .i64 p.2] 57 (0, 0)) := by rw [← hW3]; exact blk_new wr _
            have hB3 : Below w.heap.size w W3 := by rw [← hW3]; exact below_alloc HB2.out _
            rw [hW3] at hM3 ⊢
            have u0 := cell_regrown ((blk_cell hB6 0).trans rfl)
            have u1 := cell_regrown ((blk_cell hB6 1).trans rfl)
            obtain ⟨ad1, A5, c5, e1, x0, x1, x2, x3, x4, x5, hcx, hCx⟩ := at_T29 (Kd.C_below HR1.out hB3) p.1 (by omega) (by omega)
            obtain ⟨ad2, A6, c6, e2, y0, y1, y2, y3, y4, y5, hcy, hCy⟩ := at_T29 (Kd.C_below HR1.out hB3) p.2 (by omega) (by omega)
            subst e1
            cases e2
            have X0 := cell_regrown x0
            have X1 := cell_regrown x1
            have X2 := cell_regrown x2
            have X3 := cell_regrown x3
            have X4 := cell_regrown x4
            have X5 := cell_regrown x5
            have Y0 := cell_regrown y0
            have Y1 := cell_regrown y1
            have Y2 := cell_regrown y2
            have Y3 := cell_regrown y3
            have Y4 := cell_regrown y4
            have Y5 := cell_regrown y5
            have cW := fun d os => Calls.regrown_of (U.match_Weight.calls k A0 c0 l0 _ _ _ _ _ A5 c5 _ _ _ _ _ _ A6 c6 _ (wt p) (grow (redrawn W3 d) os) (Kd.C_below (Kd.C_below HR0.out hB3) (below_regrown W3 d os)) hc0 (Kd.C_below hCx (below_regrown W3 d os)) hcx (Kd.C_below hCy (below_regrown W3 d os)) hcy ((hG.below hB3).below (below_regrown W3 d os)) hwp)
            have q1 := eq_true (show (0 : Int) ≤ p.1 by omega)
            have q2 := eq_true (show p.1 < (l1.length : Int) by omega)
            have q3 := eq_true (show (0 : Int) ≤ p.2 by omega)
            have q4 := eq_true (show p.2 < (l1.length : Int) by omega)
            clear x0 x1 x2 x3 x4 x5 y0 y1 y2 y3 y4 y5 hcx hCx hcy hCy
            refine wp_region_quiet_tail_below 14 (by kernel_rfl) (by kernel_rfl) ?_
            simp only [List.take_succ_cons, List.take_zero, List.drop_succ_cons, List.drop_zero]
            repeat (quiet_step (first | exact cW _ _))
            refine wpQuiet_nil ?_
            intro _ hw'
            obtain ⟨⟨dq, osq⟩, hw''⟩ := hw'
            subst hw''
            obtain ⟨W4, hW4⟩ : ∃ W4, grow (redrawn W3 dq) osq = W4 := ⟨_, rfl⟩
            have hb4 : Below W3.heap.size W3 W4 := by rw [← hW4]; exact below_regrown W3 dq osq
            dsimp only
            rw [hW4]
            have hM4 : WOn W4 b n ks wt := hM3.kept (fun D hD => hD.kept (row := none) { os := hb4.os, tape := hb4.tape, output := hb4.output, size := hb4.size, block := fun j hj _ => hb4.block j hj } (by simp))
            have hB4 : Below w.heap.size w W4 := below_step hB3 hb4
            clear u0 u1 X0 X1 X2 X3 X4 X5 Y0 Y1 Y2 Y3 Y4 Y5 cW hW4 hW3
            refine w_store rfl rfl _ _ _ 75 rfl Tryd.underlying75 (by omega) rfl hM4 p hpw hin rfl rfl (hwf p hpm) ?_
            intro w5 hM5 hgr
            go_wp2
            go_roundw
            case rel =>
              refine ⟨i + 1, n + 1, ks ++ [p], by omega, by omega, by go_num, hM5, fun q => ?_, ⟨hB4.grown hgr hB4.size (fun j e => by cases e; exact hbge)⟩⟩
              rw [HTK.out, List.mem_append, List.mem_append, hks q]
            case measure => simp [intOf]; omega
        · obtain rfl : i = l2.length := by omega
          obtain ⟨D, hown, hT, hnd, hkw, hhas, hatk, hsz, hall⟩ := hM
          go_wp2_with (at_range; refine wpList_range_own _ rfl _ 75 rfl 57 3 KlawP Tryd.underlying75 wElem b n D rfl hown ?_; intro w0 hrg0 hg0 hs0)
          obtain ⟨ri, hri⟩ : ∃ ri, wr.heap.size = ri := ⟨_, rfl⟩
          rw [hri] at hrg0 hs0
          have hrge : w.heap.size ≤ ri := by rw [← hri]; exact HB2.out.size
          have HB3 : Aside0 (Below w.heap.size w w0) := ⟨HB2.out.grown hg0 HB2.out.size (fun j e => by cases e)⟩
          rw [hri]
          go_frame
          go_loopw [15] (fun v w3 => ∃ (left : Lit → Bool) (cnt : Nat) (ss : List (Int × Int)), w3.ranges Tryd.prog 57 wElem b ri n D left cnt ∧ ss.length + cnt ≤ Maps.size D ∧ ss.Nodup ∧ (∀ p, p ∈ ss → p ∈ ks) ∧ (∀ p ∈ ks, left (pk p) = !decide (p ∈ ss)) ∧ (∀ kl, left kl = true → has D kl = true) ∧
              w3.ownsRow w.heap.size 60 3 v (rowP wt ss).length (rowC wt ss) ∧ Aside0 (Below w.heap.size w w3)) (fun _ w3 => w3.rangeLeft b ri)
          case atStart =>
            exact ⟨_, _, [], hrg0, by simp, List.nodup_nil, fun p h => (by cases h), fun p hp => (by rw [hhas p (hkw p hp)]; simp [hp]), fun kl h => h, World.ownsRow_nil _ _ _ _, HB3⟩
          case round =>
            obtain ⟨left, cnt, ss, hrg, hcs, hsn, hsk, hlf, hlh, hrow, HB4⟩ := hrel
            go_wp2_with (at_next; refine wpList_next_ranges _ rfl _ rfl 57 KlawP wElem pairV (fun c : Int => Value.int .i64 c) (fun key kl hk => by obtain ⟨p, hp, _⟩ := key_inv hk; exact ⟨p, hp⟩) (fun v y hv => by obtain ⟨c, hc, _⟩ := plainElem_int_inv Tryd.underlying3 hv; exact ⟨c, hc⟩) b ri n _ _ _ rfl hrg ?_ ?_)
            · intro hc0 hl0
              have hssl : ∀ p, p ∈ ss ↔ p ∈ l2 := fun p => by
                rw [show (p ∈ l2 ↔ p ∈ ks) from by rw [hks p, List.take_length]]
                refine ⟨hsk p, fun hp => ?_⟩
                have h1 := hlf p hp
                rw [hl0] at h1
                simpa using h1
              have hsp := spec_good (wt := wt) (fun j h => hj j h h) hsn hssl
              have hsl : ss.length ≤ 20000 := Nat.le_trans (nodup_len hsn fun p hp => (hssl p).1 hp) hl2
              have hrl : (rowP wt ss).length ≤ ss.length := List.length_filter_le _ _
              have hsc := sort_calls wt hrow rfl (by omega)
              have hRB := own_base hrow
              have HSP := Aside0.mk hsp
              clear hssl hsp hlf hks hsk hl0
              go_wp2_with (go_at_call 27; with_reducible refine hsc.mono ?_; rintro e w' ⟨rfl, hrow2, hg5⟩)
              refine bodyPost_ret (results_tmp2 rfl _ _ _) rfl ?_
              exact ⟨_, _, _, rfl, R_edges wt hrow2 (by simp), HB4.out.grown hg5 HB4.out.size (fun j hj => hRB j hj), HSP.out⟩
            · intro x1 x2 c kl y1 y2 w4 cnt2 hkey hlk hv hat hrg2 hlt2 hg2 hs2 hen
              obtain ⟨p, hpv, hpw, rfl⟩ := key_inv hkey
              obtain ⟨p1, p2⟩ := p
              have e1 : x1 = p1 ∧ x2 = p2 := by simpa [pairV] using hpv
              obtain ⟨rfl, rfl⟩ := e1
              obtain ⟨q, hq, hqe⟩ := hall _ (hlh _ hlk)
              have hxq := pk_inj hpw (hkw q hq) hqe
              subst hxq
              have hnss : (x1, x2) ∉ ss := by
                have h1 := hlf _ hq
                rw [hlk] at h1
                simpa using h1
              have hc : c = wt (x1, x2) := by
                obtain ⟨c', h1, h2, _⟩ := plainElem_int_inv Tryd.underlying3 hv
                have h3 := hatk _ hq (.lit (.int .i64 0))
                rw [hat, (Prod.mk.inj h2).1] at h3
                simp at h1 h3
                omega
              subst hc
              simp only [pairV] at hen ⊢
              obtain ⟨i60, hi60, hz60⟩ := Option.map_eq_some_iff.1 Kinfo60
              simp only [Prod.mk.injEq] at hz60
              obtain ⟨iz0, iz1, iz2⟩ := hz60
              cases hw0 : (wt (x1, x2) != 0) with
              | false =>
                have hw0' : wt (x1, x2) = 0 := by simpa using hw0
                go_wp2
                go_roundw
                case rel =>
                  refine ⟨_, cnt2, ss ++ [(x1, x2)], hrg2.alloc _, by simp; omega, by rw [List.nodup_append]; exact ⟨hsn, by simp, fun a ha b hb e => by simp at hb; subst hb; subst e; exact hnss ha⟩, fun q hq2 => ?_, fun q hq2 => ?_, fun kl hkl => ?_, ?_, ?_⟩
                  · rcases List.mem_append.1 hq2 with h | h
                    · exact hsk q h
                    · simp at h; subst h; exact hq
                  · by_cases e : q = (x1, x2)
                    · subst e
                      simp [pk, Lit.sameKey]
                    · have hne := sameKey_ne (fun h => e (pk_inj (hkw q hq2) hpw h))
                      simp only [hne, Bool.not_false, Bool.and_true, hlf q hq2]
                      simp [e]
                  · simp only [Bool.and_eq_true] at hkl
                    exact hlh kl hkl.1
                  · have e1 : rowP wt (ss ++ [(x1, x2)]) = rowP wt ss := by simp [rowP, hw0']
                    rw [rowC, e1]
                    exact (hrow.kept hg2 (Or.inr (row_ne_iter hrow hrg).symm)).alloc _
                  · exact ⟨below_alloc (HB4.out.grown hg2 HB4.out.size (fun j hj => by cases hj; exact hrge)) _⟩
                case measure => rw [(hrg2.alloc _).left_eq, hrg.left_eq]; exact hlt2
              | true =>
                have hrow4 := hrow.kept hg2 (Or.inr (row_ne_iter hrow hrg).symm)
                have hsl : ss.length ≤ 20000 := Nat.le_trans (nodup_len hsn fun p hp => by have := (hks p).1 (hsk p hp); rwa [List.take_length] at this) hl2
                have hrl : (rowP wt ss).length ≤ ss.length := List.length_filter_le _ _
                have HS2 := Aside0.mk hs2
                clear hs2
                have hB5 := HB4.out.grown hg2 HB4.out.size (fun j hj => by cases hj; exact hrge)
                go_wp2_with (at_builtin; refine wpList_append_own _ rfl _ _ 54 rfl w.heap.size 60 i60 (.agg #[.int .i64 0, .int .i64 0, .int .i64 0]) 3 24 Tryd.underlying54 hi60 iz0 iz1 iz2 rfl (by decide) _ _ _ rfl ((hrow4.alloc _).alloc _) ⟨_, 0, none⟩ 1 1 [.int .i64 x1, .int .i64 x2, .int .i64 (wt (x1, x2))] rfl rfl (cell3_new1 _ _ _ _ _ _) (by simp [Value.oneCell']) (by simp only [maxLen]; omega) (by omega) (by have := hB5.size; simp; omega) ?_; intro v' w5 hown' hgrow _)
                have e1 : rowP wt (ss ++ [(x1, x2)]) = rowP wt ss ++ [(x1, x2)] := by
                  have : wt (x1, x2) ≠ 0 := by simpa using hw0
                  simp [rowP, this]
                have hrg5 := ((hrg2.alloc (.cells #[.int .i64 x1, .int .i64 x2] 57)).alloc (.cells #[.int .i64 x1, .int .i64 x2, .int .i64 (wt (x1, x2))] 60)).kept hgrow (row_ne_map hrow hrg.owns) (row_ne_iter hrow hrg)
                have HE := Aside0.mk e1
                clear e1
                go_roundw
                case rel =>
                  refine ⟨_, cnt2, ss ++ [(x1, x2)], hrg5, by simp; omega, by rw [List.nodup_append]; exact ⟨hsn, by simp, fun a ha b hb e => by simp at hb; subst hb; subst e; exact hnss ha⟩, fun q hq2 => ?_, fun q hq2 => ?_, fun kl hkl => ?_, ?_, ?_⟩
                  · rcases List.mem_append.1 hq2 with h | h
                    · exact hsk q h
                    · simp at h; subst h; exact hq
                  · by_cases e : q = (x1, x2)
                    · subst e
                      simp [pk, Lit.sameKey]
                    · have hne := sameKey_ne (fun h => e (pk_inj (hkw q hq2) hpw h))
                      simp only [hne, Bool.not_false, Bool.and_true, hlf q hq2]
                      simp [e]
                  · simp only [Bool.and_eq_true] at hkl
                    exact hlh kl hkl.1
                  · rw [rowC, HE.out, List.flatMap_append, List.length_append]
                    exact hown'
                  · exact ⟨(below_alloc (below_alloc hB5 _) _).grown hgrow (below_alloc (below_alloc hB5 _) _).size (fun j hj => own_base hrow j hj)⟩
                case measure => rw [hrg5.left_eq, hrg.left_eq]; exact hlt2
end Go.Proofs.YtiffkknhnmpgbaaDoor
end

section
/- match.Edges, in the form of the printed contracts. -/
namespace Go.Proofs.YtiffkknhnmpgbaaDoor
open Go Go.RowKit Go.Sort Go.Proofs.YtiffkknhnmpgbaaDoor.R Go.Proofs.YtiffkknhnmpgbaaDoorW.PrintWords
set_option linter.unusedVariables false
set_option linter.unusedSimpArgs false
abbrev PairI := S57
def toP (x : PairI) : Int × Int := (x.f0, x.f1)
def wfI (x : Int) : Bool := decide (-9223372036854775808 ≤ x) && decide (x ≤ 9223372036854775807)
theorem wfI_wf {x : Int} (h : wfI x = true) : (Lit.int .i64 x).wf = true := by
  simp only [wfI, Bool.and_eq_true, decide_eq_true_eq] at h
  simp only [Lit.wf, IntKind.min, IntKind.max, IntKind.signed, IntKind.bits, Bool.and_eq_true, decide_eq_true_eq, if_true]
  omega
/-- The weight of a pair of indices. -/
def wtO (k : Nat) (l0 : List S24) (l1 : List S29) (p : Int × Int) : Option Int :=
  (U.match_Weight.f k l0 (rd_T29 l1 p.1).f0.f0 (rd_T29 l1 p.1).f0.f1 (rd_T29 l1 p.1).f0.f2 (rd_T29 l1 p.1).f1 (rd_T29 l1 p.1).f2 (rd_T29 l1 p.1).f3 (rd_T29 l1 p.2).f0.f0 (rd_T29 l1 p.2).f0.f1 (rd_T29 l1 p.2).f0.f2 (rd_T29 l1 p.2).f1 (rd_T29 l1 p.2).f2 (rd_T29 l1 p.2).f3).bind fun x => if wfI x = true then some x else none
def ltB (p q : Int × Int) : Bool := decide (p.1 < q.1) || (decide (p.1 = q.1) && decide (p.2 < q.2))
/-- Each pair once, in order. -/
def insP (p : Int × Int) : List (Int × Int) → List (Int × Int)
  | [] => [p]
  | q :: l => if p = q then q :: l else if ltB p q = true then p :: q :: l else q :: insP p l
def canon : List (Int × Int) → List (Int × Int)
  | [] => []
  | p :: l => insP p (canon l)
theorem mem_insP (p : Int × Int) : ∀ (l : List (Int × Int)) (x : Int × Int), x ∈ insP p l ↔ x = p ∨ x ∈ l
  | [], x => by simp [insP]
  | q :: l, x => by
    unfold insP
    by_cases h : p = q
    · rw [if_pos h, List.mem_cons, h]
      exact ⟨fun h => .inr h, fun h => h.elim .inl id⟩
    · rw [if_neg h]
      by_cases h2 : ltB p q = true
      · rw [if_pos h2, List.mem_cons]
      · rw [if_neg h2, List.mem_cons, List.mem_cons, mem_insP p l x]
        constructor
        · rintro (h | h | h)
          · exact .inr (.inl h)
          · exact .inl h
          · exact .inr (.inr h)
        · rintro (h | h | h)
          · exact .inr (.inl h)
          · exact .inl h
          · exact .inr (.inr h)
theorem lt_insP (p : Int × Int) : ∀ (l : List (Int × Int)), l.Pairwise (fun p q => p.1 < q.1 ∨ p.1 = q.1 ∧ p.2 < q.2) → (insP p l).Pairwise (fun p q => p.1 < q.1 ∨ p.1 = q.1 ∧ p.2 < q.2)
  | [], _ => by simp [insP]
  | q :: l, h => by
    obtain ⟨h1, h2⟩ := List.pairwise_cons.1 h
    unfold insP
    by_cases e : p = q
    · rw [if_pos e]; exact h
    · rw [if_neg e]
      by_cases g : ltB p q = true
      · rw [if_pos g]
        have g2 : p.1 < q.1 ∨ p.1 = q.1 ∧ p.2 < q.2 := by simpa [ltB] using g
        refine List.pairwise_cons.2 ⟨fun x hx => ?_, h⟩
        rcases List.mem_cons.1 hx with rfl | hx
        · exact g2
        · have := h1 x hx
          omega
      · rw [if_neg g]
        have g2 : ¬ (p.1 < q.1 ∨ p.1 = q.1 ∧ p.2 < q.2) := by simpa [ltB] using g
        refine List.pairwise_cons.2 ⟨fun x hx => ?_, lt_insP p l h2⟩
        rcases (mem_insP p l x).1 hx with rfl | hx
        · have e2 : ¬ (x.1 = q.1 ∧ x.2 = q.2) := fun h3 => e (Prod.ext h3.1 h3.2)
          omega
        · exact h1 x hx
theorem canon_lt : ∀ (l : List (Int × Int)), (canon l).Pairwise (fun p q => p.1 < q.1 ∨ p.1 = q.1 ∧ p.2 < q.2)
  | [] => List.Pairwise.nil
  | p :: l => lt_insP p _ (canon_lt l)
theorem mem_canon : ∀ (l : List (Int × Int)) (p : Int × Int), p ∈ canon l ↔ p ∈ l
  | [], p => Iff.rfl
  | q :: l, p => by
    unfold canon
    rw [mem_insP, mem_canon l p, List.mem_cons]
def edgesL (k : Nat) (l0 : List S24) (l1 : List S29) : List (Int × Int) → Option (List S60)
  | [] => some []
  | p :: ps => (wtO k l0 l1 p).bind fun w => (edgesL k l0 l1 ps).bind fun es => some (if w = 0 then es else ⟨p.1, p.2, w⟩ :: es)
def match_Edges.f (k : Nat) (l0 : List S24) (l1 : List S29) (l2 : List PairI) : Option (List S60 × Int) :=
  if l0.length ≤ 200 ∧ l1.length ≤ 1000 ∧ l2.length ≤ 20000 then
    (if (l2.map toP).all (okP l1.length) = true then (edgesL k l0 l1 (canon (l2.map toP))).bind fun es => some (es, 0) else some ([], 1)) else none
/-- What edgesL answers: the edges of the pairs whose weight is not 0. -/
theorem edgesL_spec {k : Nat} {l0 : List S24} {l1 : List S29} {wt : Int × Int → Int} : ∀ (ps : List (Int × Int)) {es : List S60}, edgesL k l0 l1 ps = some es → (∀ p ∈ ps, ∀ x, wtO k l0 l1 p = some x → wt p = x) →
    (∀ p ∈ ps, wtO k l0 l1 p = some (wt p)) ∧ es = (ps.filter fun p => wt p != 0).map (mkE wt)
  | [], es, h, _ => by
    injection h with h
    subst h
    exact ⟨fun _ h => (by cases h), rfl⟩
  | p :: ps, es, h, hw => by
    obtain ⟨x, hx, h⟩ := Option.bind_eq_some_iff.1 h
    obtain ⟨es2, h2, h⟩ := Option.bind_eq_some_iff.1 h
    injection h with h
    have hwp := hw p (by simp) x hx
    obtain ⟨i1, i2⟩ := edgesL_spec ps h2 (fun q hq => hw q (by simp [hq]))
    refine ⟨fun q hq => ?_, ?_⟩
    · rcases List.mem_cons.1 hq with rfl | hq
      · rw [hx, hwp]
      · exact i1 q hq
    · subst h
      by_cases h0 : x = 0
      · rw [if_pos h0, i2, List.filter_cons_of_neg (by simp [hwp, h0])]
      · rw [if_neg h0, i2, List.filter_cons_of_pos (by simp [hwp, h0]), List.map_cons, mkE, hwp]
theorem lt_ext : ∀ {a b : List S60}, a.Pairwise (fun x y => x.f0 < y.f0 ∨ x.f0 = y.f0 ∧ x.f1 < y.f1) → b.Pairwise (fun x y => x.f0 < y.f0 ∨ x.f0 = y.f0 ∧ x.f1 < y.f1) → (∀ x, x ∈ a ↔ x ∈ b) → a = b
  | [], [], _, _, _ => rfl
  | [], y :: b, _, _, h => by have := (h y).2 (by simp); cases this
  | x :: a, [], _, _, h => by have := (h x).1 (by simp); cases this
  | x :: a, y :: b, ha, hb, h => by
    obtain ⟨a1, a2⟩ := List.pairwise_cons.1 ha
    obtain ⟨b1, b2⟩ := List.pairwise_cons.1 hb
    have e : x = y := by
      rcases List.mem_cons.1 ((h x).1 (by simp)) with e | hx
      · exact e
      · rcases List.mem_cons.1 ((h y).2 (by simp)) with e | hy
        · exact e.symm
        · have h1 := b1 x hx
          have h2 := a1 y hy
          omega
    subst e
    rw [lt_ext a2 b2 (fun z => ?_)]
    constructor
    · intro hz
      rcases List.mem_cons.1 ((h z).1 (by simp [hz])) with e | hz2
      · subst e
        have := a1 z hz
        omega
      · exact hz2
    · intro hz
      rcases List.mem_cons.1 ((h z).2 (by simp [hz])) with e | hz2
      · subst e
        have := b1 z hz
        omega
      · exact hz2
theorem spec_unique {n : Nat} {l2 : List (Int × Int)} {wt : Int × Int → Int} {es es' : List S60} {c c' : Int} (h : EdgesSpec n l2 wt es c) (h' : EdgesSpec n l2 wt es' c') : es = es' ∧ c = c' := by
  unfold EdgesSpec at h h'
  by_cases ha : l2.all (okP n) = true
  · rw [if_pos ha] at h h'
    exact ⟨lt_ext h.2.1 h'.2.1 fun x => (h.2.2 x).trans (h'.2.2 x).symm, h.1.trans h'.1.symm⟩
  · rw [if_neg ha] at h h'
    exact ⟨h.1.trans h'.1.symm, h.2.trans h'.2.symm⟩
theorem edges_f_spec {k : Nat} {l0 : List S24} {l1 : List S29} {l2 : List PairI} {es : List S60} {c : Int} (h : match_Edges.f k l0 l1 l2 = some (es, c)) :
    (l0.length ≤ 200 ∧ l1.length ≤ 1000 ∧ l2.length ≤ 20000) ∧ ∃ wt : Int × Int → Int, ((l2.map toP).all (okP l1.length) = true → ∀ p ∈ l2.map toP, wtO k l0 l1 p = some (wt p)) ∧ EdgesSpec l1.length (l2.map toP) wt es c := by
  unfold match_Edges.f at h
  by_cases hb : l0.length ≤ 200 ∧ l1.length ≤ 1000 ∧ l2.length ≤ 20000
  · rw [if_pos hb] at h
    refine ⟨hb, fun p => (wtO k l0 l1 p).getD 0, ?_⟩
    by_cases ha : (l2.map toP).all (okP l1.length) = true
    · rw [if_pos ha] at h
      obtain ⟨es2, h2, h⟩ := Option.bind_eq_some_iff.1 h
      injection h with h
      injection h with h1 h3
      subst h1 h3
      obtain ⟨i1, i2⟩ := edgesL_spec (wt := fun p => (wtO k l0 l1 p).getD 0) _ h2 (fun p _ x hx => by rw [hx]; rfl)
      refine ⟨fun _ p hp => i1 p ((mem_canon _ p).2 hp), ?_⟩
      unfold EdgesSpec
      rw [if_pos ha, i2]
      refine ⟨rfl, ?_, fun x => ?_⟩
      · rw [List.pairwise_map]
        exact (canon_lt _).sublist List.filter_sublist
      · rw [List.mem_map]
        constructor
        · rintro ⟨p, hp, rfl⟩
          simp only [List.mem_filter, bne_iff_ne, ne_eq] at hp
          exact ⟨(mem_canon _ p).1 hp.1, rfl, hp.2⟩
        · rintro ⟨hx, e, hne⟩
          refine ⟨(x.f0, x.f1), ?_, ?_⟩
          · simp only [List.mem_filter, bne_iff_ne, ne_eq]
            exact ⟨(mem_canon _ _).2 hx, fun h0 => hne (e.trans h0)⟩
          · obtain ⟨a, b, d⟩ := x
            simp only [mkE] at e ⊢
            rw [← e]
    · rw [if_neg ha] at h
      injection h with h
      injection h with h1 h3
      subst h1 h3
      refine ⟨fun h => absurd h ha, ?_⟩
      unfold EdgesSpec
      rw [if_neg ha]
      exact ⟨rfl, rfl⟩
  · rw [if_neg hb] at h
    cases h
theorem C_toP {w : World} {A : Option Addr} {n : Nat} {xs : List PairI} (h : Kd.C k57 w A n xs) : Kd.C kP w A n (xs.map toP) := by
  obtain ⟨h1, h2, h3⟩ := h
  refine ⟨by rw [List.length_map]; exact h1, h2, fun h0 => ?_⟩
  obtain ⟨ad, e, hc⟩ := h3 h0
  refine ⟨ad, e, fun j p hp => ?_⟩
  rw [List.getElem?_map, Option.map_eq_some_iff] at hp
  obtain ⟨x, hx, rfl⟩ := hp
  exact hc j x hx
theorem match_Edges.calls (k : Nat) (A0 : Option Addr) (c0 : Nat) (l0 : List S24) (A1 : Option Addr) (c1 : Nat) (l1 : List S29) (A2 : Option Addr) (c2 : Nat) (l2 : List PairI) (r1 : List S60) (r2 : Int) (w : World)
    (hr0 : Kd.C k24 w A0 l0.length l0) (hc0 : l0.length ≤ c0) (hr1 : Kd.C k29 w A1 l1.length l1) (hc1 : l1.length ≤ c1) (hr2 : Kd.C k57 w A2 l2.length l2) (hc2 : l2.length ≤ c2) (hG : Gl w)
    (h : match_Edges.f k l0 l1 l2 = some (r1, r2)) :
    Calls Tryd.prog 16 #[.slice A0 l0.length c0, .slice A1 l1.length c1, .slice A2 l2.length c2] w fun e w' =>
      ∃ v0_ : Value, e = .returned (.tuple #[v0_, .int .i64 r2]) ∧ Kd.R k60 60 w' w.heap.size (fun _ => True) v0_ r1 ∧ Below w.heap.size w w' := by
  obtain ⟨⟨b0, b1, b2⟩, wt, hw, hs⟩ := edges_f_spec h
  have hr2' := C_toP hr2
  have el : l2.length = (l2.map toP).length := by simp
  rw [el] at hr2' hc2 b2 ⊢
  have hok : (∀ j (h : j < (l2.map toP).length), okP l1.length (l2.map toP)[j] = true) → (l2.map toP).all (okP l1.length) = true := fun hh => List.all_eq_true.2 fun p hp => by
    obtain ⟨j, hj, e⟩ := List.mem_iff_getElem.1 hp
    rw [← e]
    exact hh j hj
  have hw1 : (l2.map toP).all (okP l1.length) = true → ∀ p ∈ l2.map toP, U.match_Weight.f k l0 (rd_T29 l1 p.1).f0.f0 (rd_T29 l1 p.1).f0.f1 (rd_T29 l1 p.1).f0.f2 (rd_T29 l1 p.1).f1 (rd_T29 l1 p.1).f2 (rd_T29 l1 p.1).f3 (rd_T29 l1 p.2).f0.f0 (rd_T29 l1 p.2).f0.f1 (rd_T29 l1 p.2).f0.f2 (rd_T29 l1 p.2).f1 (rd_T29 l1 p.2).f2 (rd_T29 l1 p.2).f3 = some (wt p) ∧ (Lit.int .i64 (wt p)).wf = true := fun ha p hp => by
    obtain ⟨x, hx, h2⟩ := Option.bind_eq_some_iff.1 (hw ha p hp)
    by_cases hf : wfI x = true
    · rw [if_pos hf] at h2
      injection h2 with h2
      subst h2
      exact ⟨hx, wfI_wf hf⟩
    · rw [if_neg hf] at h2
      cases h2
  refine (edges_walk k A0 c0 l0 A1 c1 l1 A2 c2 (l2.map toP) w hr0 hc0 hr1 hc1 hr2' hc2 hG b0 b1 b2 wt (fun hh p hp _ => (hw1 (hok hh) p hp).1) (fun hh p hp => (hw1 (hok hh) p hp).2)).mono ?_
  rintro e w' ⟨v, es, code, rfl, hR, hB, hS⟩
  obtain ⟨rfl, rfl⟩ := spec_unique hS hs
  exact ⟨v, rfl, hR, hB⟩
end Go.Proofs.YtiffkknhnmpgbaaDoor
end

section
/- The head of the laws on match: fixed examples; it answers true. -/
namespace Go.Proofs.YtiffkknhnmpgbaaDoor
open Go Go.RowKit Go.Sort Go.Proofs.YtiffkknhnmpgbaaDoor.R Go.Proofs.YtiffkknhnmpgbaaDoorW.PrintWords Go.Proofs.YtiffkknhnmpgbaaDoorW.PrintLast Go.Proofs.YtiffkknhnmpgbaaDoorW.PrintMore
set_option linter.unusedVariables false
set_option linter.unusedSimpArgs false
theorem sc1 : match_Score.f 60 ⟨#[]⟩ 0 3 exTerms 0 ⟨#[]⟩ ⟨#[]⟩ 0 0 (recCells ⟨#[97, 110, 110]⟩ 30) 0 ⟨#[]⟩ ⟨#[]⟩ 0 0 (recCells ⟨#[65, 110, 110]⟩ 31) = some (6, [true, true]) := by decide +kernel
theorem sc2 : match_Score.f 60 ⟨#[]⟩ 0 3 exTerms 0 ⟨#[]⟩ ⟨#[]⟩ 0 0 (recCells ⟨#[97, 110, 110]⟩ 30) 0 ⟨#[]⟩ ⟨#[]⟩ 0 0 (recCells ⟨#[97, 110, 110, 97]⟩ (-1)) = some (5, [true, false]) := by decide +kernel
theorem sc3 : match_Score.f 60 ⟨#[]⟩ 0 3 exTerms 0 ⟨#[]⟩ ⟨#[]⟩ 0 0 (recCells ⟨#[97, 110, 110]⟩ 30) 0 ⟨#[]⟩ ⟨#[]⟩ 0 0 (recCells ⟨#[114, 111, 98, 101, 114, 116]⟩ 30) = some (-1, [false, true]) := by decide +kernel
theorem sc4 : match_Score.f 60 ⟨#[]⟩ 0 3 exTerms 0 ⟨#[]⟩ ⟨#[]⟩ 0 0 (recCells ⟨#[97, 110, 110]⟩ 30) 0 ⟨#[]⟩ ⟨#[]⟩ 1 0 (recCells ⟨#[97, 110, 110]⟩ 30) = some (0, []) := by decide +kernel
theorem wg4 : U.match_Weight.f 60 [(⟨⟨#[]⟩, 0, 3, exTerms⟩ : S24)] 0 ⟨#[]⟩ ⟨#[]⟩ 0 0 (recCells ⟨#[97, 110, 110]⟩ 30) 0 ⟨#[]⟩ ⟨#[]⟩ 1 0 (recCells ⟨#[97, 110, 110]⟩ 30) = some 0 := by decide +kernel
def recd (a0 : ByteArray) (a1 : Int) : S29 := ⟨⟨0, ⟨#[]⟩, ⟨#[]⟩⟩, 0, 0, recCells a0 a1⟩
def recs3 : List S29 := [recd ⟨#[97, 110, 110]⟩ 30, recd ⟨#[65, 110, 110]⟩ 31, recd ⟨#[114, 111, 98, 101, 114, 116]⟩ 30]
def mat1 : List S24 := [⟨⟨#[]⟩, 0, 3, exTerms⟩]
def es1 : List S60 := [⟨0, 1, 3⟩, ⟨0, 2, -4⟩, ⟨1, 2, -4⟩]
theorem ed1 : match_Edges.f 60 mat1 recs3 [⟨1, 2⟩, ⟨0, 1⟩, ⟨0, 2⟩, ⟨0, 1⟩] = some (es1, 0) := by kernel_rfl
theorem ed2 : match_Edges.f 60 mat1 recs3 [⟨1, 1⟩] = some ([], 1) := by kernel_rfl
/-- What stands in memory: the match and the first record in boxes, their rows. -/
structure HS (gm ga : Nat) (Am : Option Addr) (cm : Nat) (Aa : Option Addr) (ca : Nat) (w W : World) : Prop where
  m : W.heap[gm]? = some (.cells #[.string ⟨#[]⟩, .int .i64 0, .int .i64 3, .slice Am 2 cm] 24 (0, 0))
  a : W.heap[ga]? = some (.cells #[.int .i64 0, .string ⟨#[]⟩, .string ⟨#[]⟩, .int .i64 0, .int .i64 0, .slice Aa 2 ca] 29 (0, 0))
  cm : Kd.C k43 W Am 2 exTerms
  ca : Kd.C k50 W Aa 2 (recCells ⟨#[97, 110, 110]⟩ 30)
  gl : Gl W
  hb : Below w.heap.size w W
section
variable {gm ga : Nat} {Am : Option Addr} {cm : Nat} {Aa : Option Addr} {ca : Nat} {w W W' : World}
theorem HS.step (h : HS gm ga Am cm Aa ca w W) (hb : Below W.heap.size W W') : HS gm ga Am cm Aa ca w W' :=
  ⟨blk_below h.m hb, blk_below h.a hb, Kd.C_below h.cm hb, Kd.C_below h.ca hb, h.gl.below hb, below_step h.hb hb⟩
theorem HS.drew (h : HS gm ga Am cm Aa ca w W) : HS gm ga Am cm Aa ca w W.drew := h.step (below_drew (Below.refl _ _))
theorem HS.cells (h : HS gm ga Am cm Aa ca w W) : W.cell? ⟨gm, 0, none⟩ = some (.string ⟨#[]⟩) ∧ W.cell? ⟨gm, 1, none⟩ = some (.int .i64 0) ∧ W.cell? ⟨gm, 2, none⟩ = some (.int .i64 3) ∧ W.cell? ⟨gm, 3, none⟩ = some (.slice Am 2 cm) ∧
    W.cell? ⟨ga, 0, none⟩ = some (.int .i64 0) ∧ W.cell? ⟨ga, 1, none⟩ = some (.string ⟨#[]⟩) ∧ W.cell? ⟨ga, 2, none⟩ = some (.string ⟨#[]⟩) ∧ W.cell? ⟨ga, 3, none⟩ = some (.int .i64 0) ∧ W.cell? ⟨ga, 4, none⟩ = some (.int .i64 0) ∧ W.cell? ⟨ga, 5, none⟩ = some (.slice Aa 2 ca) :=
  ⟨(blk_cell h.m 0).trans rfl, (blk_cell h.m 1).trans rfl, (blk_cell h.m 2).trans rfl, (blk_cell h.m 3).trans rfl, (blk_cell h.a 0).trans rfl, (blk_cell h.a 1).trans rfl, (blk_cell h.a 2).trans rfl, (blk_cell h.a 3).trans rfl, (blk_cell h.a 4).trans rfl, (blk_cell h.a 5).trans rfl⟩
end
theorem score_ex {Am : Option Addr} {cm : Nat} {Aa : Option Addr} {ca : Nat} {Ab : Option Addr} {cb : Nat} (tb : Int) (xa xb : List S50) (r : Int) (l : List Bool) (hxa : xa.length = 2) (hxb : xb.length = 2)
    (h : match_Score.f 60 ⟨#[]⟩ 0 3 exTerms 0 ⟨#[]⟩ ⟨#[]⟩ 0 0 xa 0 ⟨#[]⟩ ⟨#[]⟩ tb 0 xb = some (r, l)) (W : World) (hm : Kd.C k43 W Am 2 exTerms) (hcm : 2 ≤ cm) (ha : Kd.C k50 W Aa 2 xa) (hca : 2 ≤ ca) (hb : Kd.C k50 W Ab 2 xb) (hcb : 2 ≤ cb) (hG : Gl W) :
    Calls Tryd.prog 11 #[.agg #[.string ⟨#[]⟩, .int .i64 0, .int .i64 3, .slice Am 2 cm], .agg #[.int .i64 0, .string ⟨#[]⟩, .string ⟨#[]⟩, .int .i64 0, .int .i64 0, .slice Aa 2 ca], .agg #[.int .i64 0, .string ⟨#[]⟩, .string ⟨#[]⟩, .int .i64 tb, .int .i64 0, .slice Ab 2 cb]] W fun e w' =>
      ∃ A c, e = .returned (.tuple #[.int .i64 r, .slice A l.length c]) ∧ l.length ≤ c ∧ Kd.C Kd.bool w' A l.length l ∧ Below W.heap.size W w' := by
  have hc := match_Score.calls 60 ⟨#[]⟩ 0 3 Am cm exTerms 0 ⟨#[]⟩ ⟨#[]⟩ 0 0 Aa ca xa 0 ⟨#[]⟩ ⟨#[]⟩ tb 0 Ab cb xb r l W hm hcm (by rw [hxa]; exact ha) (by rw [hxa]; exact hca) (by rw [hxb]; exact hb) (by rw [hxb]; exact hcb) hG h
  rw [hxa, hxb] at hc
  refine hc.mono ?_
  rintro e w' ⟨v, rfl, hR, hB⟩
  obtain ⟨A, c, rfl, hlc, hC⟩ := Kd.R_reads hR
  exact ⟨A, c, rfl, hlc, hC, hB⟩
theorem recs_end {gm ga : Nat} {Am : Option Addr} {cm : Nat} {Aa : Option Addr} {ca : Nat} {w W : World} {A4 : Option Addr} {c4 : Nat} {A5 : Option Addr} {c5 : Nat} (h : HS gm ga Am cm Aa ca w W) (h4 : Kd.C k50 W A4 2 (recCells ⟨#[65, 110, 110]⟩ 31)) (h5 : Kd.C k50 W A5 2 (recCells ⟨#[114, 111, 98, 101, 114, 116]⟩ 30)) (hca : 2 ≤ ca) (hc4 : 2 ≤ c4) (hc5 : 2 ≤ c5) :
    Kd.C k29 (W.alloc (.cells #[.int .i64 0, .string ⟨#[]⟩, .string ⟨#[]⟩, .int .i64 0, .int .i64 0, .slice Aa 2 ca, .int .i64 0, .string ⟨#[]⟩, .string ⟨#[]⟩, .int .i64 0, .int .i64 0, .slice A4 2 c4, .int .i64 0, .string ⟨#[]⟩, .string ⟨#[]⟩, .int .i64 0, .int .i64 0, .slice A5 2 c5] 29)) (some ⟨W.heap.size, 0, none⟩) 3 recs3 := by
  have hb := blk_new W (.cells #[.int .i64 0, .string ⟨#[]⟩, .string ⟨#[]⟩, .int .i64 0, .int .i64 0, .slice Aa 2 ca, .int .i64 0, .string ⟨#[]⟩, .string ⟨#[]⟩, .int .i64 0, .int .i64 0, .slice A4 2 c4, .int .i64 0, .string ⟨#[]⟩, .string ⟨#[]⟩, .int .i64 0, .int .i64 0, .slice A5 2 c5] 29)
  have hB := below_alloc (Below.refl W.heap.size W) (.cells #[.int .i64 0, .string ⟨#[]⟩, .string ⟨#[]⟩, .int .i64 0, .int .i64 0, .slice Aa 2 ca, .int .i64 0, .string ⟨#[]⟩, .string ⟨#[]⟩, .int .i64 0, .int .i64 0, .slice A4 2 c4, .int .i64 0, .string ⟨#[]⟩, .string ⟨#[]⟩, .int .i64 0, .int .i64 0, .slice A5 2 c5] 29)
  exact C_block (d := k29) (xs := recs3) hb ((((Reps.none _ _).snoc (k29_mk _ (recd ⟨#[97, 110, 110]⟩ 30) hca (Kd.C_below h.ca hB)) rfl).snoc (k29_mk _ (recd ⟨#[65, 110, 110]⟩ 31) hc4 (Kd.C_below h4 hB)) rfl).snoc (k29_mk _ (recd ⟨#[114, 111, 98, 101, 114, 116]⟩ 30) hc5 (Kd.C_below h5 hB)) rfl) (by decide)
theorem pairs1 (a : PairI) : ∀ W', Reps (k57.K W') 2 [a] (#[.int .i64 a.f0, .int .i64 a.f1] : Array Value).toList := fun W' => (Reps.none _ _).snoc (k57_mk _ a) rfl
theorem pairs4 (a b c d : PairI) : ∀ W', Reps (k57.K W') 2 [a, b, c, d] (#[.int .i64 a.f0, .int .i64 a.f1, .int .i64 b.f0, .int .i64 b.f1, .int .i64 c.f0, .int .i64 c.f1, .int .i64 d.f0, .int .i64 d.f1] : Array Value).toList := fun W' =>
  ((((Reps.none _ _).snoc (k57_mk _ a) rfl).snoc (k57_mk _ b) rfl).snoc (k57_mk _ c) rfl).snoc (k57_mk _ d) rfl
theorem mat1_C {gm ga : Nat} {Am : Option Addr} {cm : Nat} {Aa : Option Addr} {ca : Nat} {w W : World} (h : HS gm ga Am cm Aa ca w W) (hcm : 2 ≤ cm) : Kd.C k24 (W.alloc (.cells #[.string ⟨#[]⟩, .int .i64 0, .int .i64 3, .slice Am 2 cm] 24)) (some ⟨W.heap.size, 0, none⟩) 1 mat1 :=
  C_block (d := k24) (xs := mat1) (blk_new W _) ((Reps.none _ _).snoc (k24_mk _ (⟨⟨#[]⟩, 0, 3, exTerms⟩ : S24) hcm (Kd.C_below h.cm (below_alloc (Below.refl _ _) _))) rfl) (by decide)
theorem edges_ex {gm ga : Nat} {Am : Option Addr} {cm : Nat} {Aa : Option Addr} {ca : Nat} {w W : World} (n : Nat) (pc : Array Value) (ps : List PairI) (hn : ps.length = n) (hps : n ≤ 100) (hp : ∀ W', Reps (k57.K W') 2 ps pc.toList) (m : Nat) (es : List S60) (hm : es.length = m) (code : Int) (h : match_Edges.f 60 mat1 recs3 ps = some (es, code)) (H : HS gm ga Am cm Aa ca w W) (hcm : 2 ≤ cm) {gr : Nat} (hR : Kd.C k29 W (some ⟨gr, 0, none⟩) 3 recs3) :
    Calls Tryd.prog 16 #[.slice (some ⟨W.heap.size, 0, none⟩) 1 1, .slice (some ⟨gr, 0, none⟩) 3 3, .slice (some ⟨W.heap.size + 1, 0, none⟩) n n] ((W.alloc (.cells #[.string ⟨#[]⟩, .int .i64 0, .int .i64 3, .slice Am 2 cm] 24)).alloc (.cells pc 57)) fun e w' =>
      ∃ A c, e = .returned (.tuple #[.slice A m c, .int .i64 code]) ∧ m ≤ c ∧ Kd.C k60 w' A m es ∧ Below W.heap.size W w' := by
  subst hn hm
  have hB1 := below_alloc (Below.refl W.heap.size W) (.cells #[.string ⟨#[]⟩, .int .i64 0, .int .i64 3, .slice Am 2 cm] 24)
  have hB2 := below_alloc (Below.refl (W.alloc (.cells #[.string ⟨#[]⟩, .int .i64 0, .int .i64 3, .slice Am 2 cm] 24)).heap.size (W.alloc (.cells #[.string ⟨#[]⟩, .int .i64 0, .int .i64 3, .slice Am 2 cm] 24))) (.cells pc 57)
  have hb := blk_new (W.alloc (.cells #[.string ⟨#[]⟩, .int .i64 0, .int .i64 3, .slice Am 2 cm] 24)) (.cells pc 57)
  have hs : (W.alloc (.cells #[.string ⟨#[]⟩, .int .i64 0, .int .i64 3, .slice Am 2 cm] 24)).heap.size = W.heap.size + 1 := by simp
  rw [hs] at hb
  have hP := C_block (d := k57) (xs := ps) hb (hp _) (by omega)
  refine (match_Edges.calls 60 (some ⟨W.heap.size, 0, none⟩) 1 mat1 (some ⟨gr, 0, none⟩) 3 recs3 (some ⟨W.heap.size + 1, 0, none⟩) ps.length ps es code _ (Kd.C_below (mat1_C H hcm) hB2) (Nat.le_refl _) (Kd.C_below (Kd.C_below hR hB1) hB2) (Nat.le_refl _) hP (Nat.le_refl _) ((H.gl.below hB1).below hB2) h).mono ?_
  rintro e w' ⟨v, rfl, hRv, hB⟩
  obtain ⟨A, c, rfl, hlc, hC⟩ := Kd.R_reads hRv
  exact ⟨A, c, rfl, hlc, hC, below_step (below_step hB1 hB2) hB⟩
theorem weight_ex {gm ga : Nat} {Am : Option Addr} {cm : Nat} {Aa : Option Addr} {ca : Nat} {w W : World} (H : HS gm ga Am cm Aa ca w W) (hcm : 2 ≤ cm) (hca : 2 ≤ ca) :
    Calls Tryd.prog 13 #[.slice (some ⟨W.heap.size, 0, none⟩) 1 1, .agg #[.int .i64 0, .string ⟨#[]⟩, .string ⟨#[]⟩, .int .i64 0, .int .i64 0, .slice Aa 2 ca], .agg #[.int .i64 0, .string ⟨#[]⟩, .string ⟨#[]⟩, .int .i64 1, .int .i64 0, .slice Aa 2 ca]] (W.alloc (.cells #[.string ⟨#[]⟩, .int .i64 0, .int .i64 3, .slice Am 2 cm] 24)) fun e w' =>
      e = .returned (.int .i64 0) ∧ Below W.heap.size W w' := by
  have hB1 := below_alloc (Below.refl W.heap.size W) (.cells #[.string ⟨#[]⟩, .int .i64 0, .int .i64 3, .slice Am 2 cm] 24)
  have hca2 := Kd.C_below H.ca hB1
  refine (U.match_Weight.calls 60 (some ⟨W.heap.size, 0, none⟩) 1 mat1 0 ⟨#[]⟩ ⟨#[]⟩ 0 0 Aa ca (recCells ⟨#[97, 110, 110]⟩ 30) 0 ⟨#[]⟩ ⟨#[]⟩ 1 0 Aa ca (recCells ⟨#[97, 110, 110]⟩ 30) 0 _ (mat1_C H hcm) (Nat.le_refl _) hca2 hca hca2 hca (H.gl.below hB1) wg4).mono ?_
  rintro e w' ⟨rfl, hB⟩
  exact ⟨rfl, below_step hB1 hB⟩
theorem bools_ex {W : World} (l : List Bool) (b0 b1 : Bool) {A : Option Addr} {c : Nat} (hl : l = [b0, b1]) (hC : Kd.C Kd.bool W A 2 l) (hc : 2 ≤ c) :
    Calls Tryd.prog 12 #[.slice A 2 c, .slice (some ⟨W.heap.size, 0, none⟩) 2 2] (W.alloc (.cells #[.bool b0, .bool b1] 4)) fun e w' => e = .returned (.bool true) ∧ Below W.heap.size W w' := by
  have hB1 := below_alloc (Below.refl W.heap.size W) (.cells #[.bool b0, .bool b1] 4)
  subst hl
  have hL : Kd.C Kd.bool (W.alloc (.cells #[.bool b0, .bool b1] 4)) (some ⟨W.heap.size, 0, none⟩) 2 [b0, b1] := C_block (d := Kd.bool) (xs := [b0, b1]) (blk_new W _) (((Reps.none _ _).snoc (show Kd.bool.K _ b0 [.bool b0] from rfl) rfl).snoc (show Kd.bool.K _ b1 [.bool b1] from rfl) rfl) (by simp)
  have hf : cleanseref20_Bools.f 60 [b0, b1] [b0, b1] = some true := by cases b0 <;> cases b1 <;> decide +kernel
  refine (cleanseref20_Bools.calls 60 A c [b0, b1] (some ⟨W.heap.size, 0, none⟩) 2 [b0, b1] true _ (Kd.C_below hC hB1) hc hL (Nat.le_refl _) hf).mono ?_
  rintro e w' ⟨rfl, hD⟩
  exact ⟨rfl, below_step hB1 hD.below⟩
theorem same_f : cleanseref20_Same.f 60 es1 es1 = some true := by decide +kernel
theorem same_ex {W : World} {A : Option Addr} {c : Nat} (hC : Kd.C k60 W A 3 es1) (hc : 3 ≤ c) :
    Calls Tryd.prog 17 #[.slice A 3 c, .slice (some ⟨W.heap.size, 0, none⟩) 3 3] (W.alloc (.cells #[.int .i64 0, .int .i64 1, .int .i64 3, .int .i64 0, .int .i64 2, .int .i64 (-4), .int .i64 1, .int .i64 2, .int .i64 (-4)] 60)) fun e w' => e = .returned (.bool true) ∧ Below W.heap.size W w' := by
  have hB1 := below_alloc (Below.refl W.heap.size W) (.cells #[.int .i64 0, .int .i64 1, .int .i64 3, .int .i64 0, .int .i64 2, .int .i64 (-4), .int .i64 1, .int .i64 2, .int .i64 (-4)] 60)
  have hL : Kd.C k60 (W.alloc (.cells #[.int .i64 0, .int .i64 1, .int .i64 3, .int .i64 0, .int .i64 2, .int .i64 (-4), .int .i64 1, .int .i64 2, .int .i64 (-4)] 60)) (some ⟨W.heap.size, 0, none⟩) 3 es1 :=
    C_block (d := k60) (xs := es1) (blk_new W _) ((((Reps.none _ _).snoc (k60_mk _ ⟨0, 1, 3⟩) rfl).snoc (k60_mk _ ⟨0, 2, -4⟩) rfl).snoc (k60_mk _ ⟨1, 2, -4⟩) rfl) (by decide)
  refine (cleanseref20_Same.calls 60 A c es1 (some ⟨W.heap.size, 0, none⟩) 3 es1 true _ (Kd.C_below hC hB1) hc hL (Nat.le_refl _) same_f).mono ?_
  rintro e w' ⟨rfl, hD⟩
  exact ⟨rfl, below_step hB1 hD.below⟩
set_option maxRecDepth 100000 in
set_option maxHeartbeats 8000000 in
theorem head_walk (w : World) (hG : Gl w) : Calls Tryd.prog 9 #[] w fun e w' => e = .returned (.bool true) ∧ Below w.heap.size w w' := by
  have HGl := Aside0.mk hG
  clear hG
  go_enter Tryd.func9, Tryd.ntmps9
  go_wp2_with (first
    | (go_at_call 18; with_reducible refine (example_calls _).mono ?_; rintro e w1 ⟨Am, cm, rfl, hcm, hCm, hBm⟩)
    | (go_at_call 19; with_reducible refine (record_calls _ _ _).mono ?_; rintro e w2 ⟨Aa, ca, rfl, hca, hCa, hBa⟩))
  have H0 : HS w1.heap.size w2.heap.size Am cm Aa ca w (w2.alloc (.cells #[.int .i64 0, .string ⟨#[]⟩, .string ⟨#[]⟩, .int .i64 0, .int .i64 0, .slice Aa 2 ca] 29)) := by
    have hB1 : Below w1.heap.size w1 (w1.alloc (.cells #[.string ⟨#[]⟩, .int .i64 0, .int .i64 3, .slice Am 2 cm] 24)) := below_alloc (Below.refl _ _) _
    have hB2 : Below w2.heap.size w2 (w2.alloc (.cells #[.int .i64 0, .string ⟨#[]⟩, .string ⟨#[]⟩, .int .i64 0, .int .i64 0, .slice Aa 2 ca] 29)) := below_alloc (Below.refl _ _) _
    exact ⟨blk_below (blk_below (blk_new w1 _) hBa) hB2, blk_new w2 _, Kd.C_below (Kd.C_below (Kd.C_below hCm hB1) hBa) hB2, Kd.C_below hCa hB2, ((HGl.out.below hBm).below hB1 |>.below hBa).below hB2, below_step (below_step (below_step hBm hB1) hBa) hB2⟩
  generalize w2.alloc (.cells #[.int .i64 0, .string ⟨#[]⟩, .string ⟨#[]⟩, .int .i64 0, .int .i64 0, .slice Aa 2 ca] 29) = W0 at H0 ⊢
  clear hCm hBm hCa hBa HGl
  generalize w1.heap.size = gm at H0 ⊢
  generalize w2.heap.size = ga at H0 ⊢
  replace hcm := Aside0.mk hcm
  replace hca := Aside0.mk hca
  try go_wp2
  -- the region of score 1
  refine start_ (n := 9) (S := fun w' => w'.cell? ⟨gm, 0, none⟩ = some (.string ⟨#[]⟩) ∧ w'.cell? ⟨gm, 1, none⟩ = some (.int .i64 0) ∧ w'.cell? ⟨gm, 2, none⟩ = some (.int .i64 3) ∧ w'.cell? ⟨gm, 3, none⟩ = some (.slice Am 2 cm) ∧ w'.cell? ⟨ga, 0, none⟩ = some (.int .i64 0) ∧ w'.cell? ⟨ga, 1, none⟩ = some (.string ⟨#[]⟩) ∧ w'.cell? ⟨ga, 2, none⟩ = some (.string ⟨#[]⟩) ∧ w'.cell? ⟨ga, 3, none⟩ = some (.int .i64 0) ∧ w'.cell? ⟨ga, 4, none⟩ = some (.int .i64 0) ∧ w'.cell? ⟨ga, 5, none⟩ = some (.slice Aa 2 ca)) (ds := []) #[Z0,Z0,Z0,Z0,Z0,Z0,Z0,Z0,Z0] (by kernel_rfl) rfl rfl H0.drew.cells (fun hHeld => ?_)
  have H0d := H0.drew
  generalize W0.drew = W0d at H0d hHeld  ⊢
  clear H0
  refine take_ (i := 0) (N := some 21) (v := ?_) (a' := ?_) #[Z1,Z0,Z0,Z0,Z0,Z0,Z0,Z0,Z0] rfl rfl (by kernel_rfl) (fun _ _ _ h => h) (Or.inl ⟨by rfl, ?_⟩) hHeld ?_ ?_
  rotate_left; rintro w' ⟨s0, s1, s2, s3, s4, s5, s6, s7, s8, s9⟩; go_simp; with_reducible rfl; rotate_left; simp only [Act.put, pS_, pZ_, pC_, i64_w, i32_w]; rfl
  refine take_ (i := 1) (N := some 22) (v := ?_) (a' := ?_) #[Z1,Z1,Z0,Z0,Z0,Z0,Z0,Z0,Z0] rfl rfl (by kernel_rfl) (fun _ _ _ h => h) (Or.inl ⟨by rfl, ?_⟩) hHeld ?_ ?_
  rotate_left; rintro w' ⟨s0, s1, s2, s3, s4, s5, s6, s7, s8, s9⟩; go_simp; with_reducible rfl; rotate_left; simp only [Act.put, pS_, pZ_, pC_, i64_w, i32_w]; rfl
  refine one_ (i := 2) (N := some 23) #[Z1,Z1,Z1,Z0,Z0,Z0,Z0,Z0,Z0] rfl rfl (by kernel_rfl) (by decide) (fun K hK => ?_)
  refine goes_ Tryd.func19 (by kernel_rfl) rfl #[.string ⟨#[65, 110, 110]⟩, .int .i64 31] (by rfl) rfl rfl (by (try simp only [List.map_toArray, List.map_cons, List.map_nil]); rfl) ?_
  with_reducible refine (record_calls _ _ _).mono ?_
  rintro e wb1 ⟨Ab1, cb1, rfl, hcb1, hCb1, hBb1⟩
  refine ⟨_, rfl, ?_⟩
  have Hb1 := H0d.step hBb1
  clear H0d hHeld
  refine hK.out _ _ Hb1.cells (fun hHeld => ?_)
  clear hK K
  refine norm_ (a' := ?_) ?_ ?_
  rotate_left; show Act.put _ (some 23) _ = _; simp only [Act.put, pS_, pZ_, pC_, i64_w, i32_w]; rfl
  refine one_ (i := 3) (N := some 24) #[Z1,Z1,Z1,Z1,Z0,Z0,Z0,Z0,Z0] rfl rfl (by kernel_rfl) (by decide) (fun K hK => ?_)
  refine goes_ Tryd.func11 (by kernel_rfl) rfl #[.agg #[.string ⟨#[]⟩, .int .i64 0, .int .i64 3, .slice Am 2 cm], .agg #[.int .i64 0, .string ⟨#[]⟩, .string ⟨#[]⟩, .int .i64 0, .int .i64 0, .slice Aa 2 ca], .agg #[.int .i64 0, .string ⟨#[]⟩, .string ⟨#[]⟩, .int .i64 0, .int .i64 0, .slice Ab1 2 cb1]] (by rfl) rfl rfl (by (try simp only [List.map_toArray, List.map_cons, List.map_nil]); rfl) ?_
  with_reducible refine (score_ex 0 (recCells ⟨#[97, 110, 110]⟩ 30) (recCells ⟨#[65, 110, 110]⟩ 31) (6) [true, true] rfl rfl sc1 _ Hb1.cm hcm.out Hb1.ca hca.out hCb1 hcb1 Hb1.gl).mono ?_
  rintro e wc1 ⟨Ac1, cc1, rfl, hcc1, hCc1, hBc1⟩
  refine ⟨_, rfl, ?_⟩
  have Hc1 := Hb1.step hBc1
  clear hCb1 hcb1 hBb1 Hb1 hHeld
  refine hK.out _ _ Hc1.cells (fun hHeld => ?_)
  clear hK K
  refine norm_ (a' := ?_) ?_ ?_
  rotate_left; show Act.put _ (some 24) _ = _; simp only [Act.put, pS_, pZ_, pC_, i64_w, i32_w]; rfl
  refine pure_ (i := 4) (N := some 20) (v := ?_) (a' := ?_) #[Z1,Z1,Z1,Z1,Z1,Z0,Z0,Z0,Z0] rfl rfl (by kernel_rfl) (fun _ _ _ h => h) (Or.inl ⟨by rfl, ?_⟩) ?_ ?_
  rotate_left; intro w'; go_simp; with_reducible rfl; rotate_left; simp only [Act.put, pS_, pZ_, pC_, i64_w, i32_w]; rfl
  refine pure_ (i := 5) (N := some 25) (v := ?_) (a' := ?_) #[Z1,Z1,Z1,Z1,Z1,Z1,Z0,Z0,Z0] rfl rfl (by kernel_rfl) (fun _ _ _ h => h) (Or.inl ⟨by rfl, ?_⟩) ?_ ?_
  rotate_left; intro w'; go_simp; with_reducible rfl; rotate_left; simp only [Act.put, pS_, pZ_, pC_, i64_w, i32_w]; rfl
  refine pure_ (i := 6) (N := some 26) (v := ?_) (a' := ?_) #[Z1,Z1,Z1,Z1,Z1,Z1,Z1,Z0,Z0] rfl rfl (by kernel_rfl) (fun _ _ _ h => h) (Or.inl ⟨by rfl, ?_⟩) ?_ ?_
  rotate_left; intro w'; go_simp; with_reducible rfl; rotate_left; simp only [Act.put, pS_, pZ_, pC_, i64_w, i32_w]; rfl
  refine pure_ (i := 7) (N := some 3) (v := ?_) (a' := ?_) #[Z1,Z1,Z1,Z1,Z1,Z1,Z1,Z1,Z0] rfl rfl (by kernel_rfl) (fun _ _ _ h => h) (Or.inl ⟨by rfl, ?_⟩) ?_ ?_
  rotate_left; intro w'; go_simp; with_reducible rfl; rotate_left; simp only [Act.put, pS_, pZ_, pC_, i64_w, i32_w]; rfl
  refine pure_ (i := 8) (N := some 4) (v := ?_) (a' := ?_) #[Z1,Z1,Z1,Z1,Z1,Z1,Z1,Z1,Z1] rfl rfl (by kernel_rfl) (fun _ _ _ h => h) (Or.inl ⟨by rfl, ?_⟩) ?_ ?_
  rotate_left; intro w'; go_simp; with_reducible rfl; rotate_left; simp only [Act.put, pS_, pZ_, pC_, i64_w, i32_w]; rfl
  refine done_ (by kernel_rfl) ?_
  have F1 := Aside0.mk hCc1
  have Hcc1 := Aside0.mk hcc1
  clear hCc1 hcc1 hBc1 hHeld
  try go_wp2
  -- the region of score 2
  refine start_ (n := 9) (S := fun w' => w'.cell? ⟨gm, 0, none⟩ = some (.string ⟨#[]⟩) ∧ w'.cell? ⟨gm, 1, none⟩ = some (.int .i64 0) ∧ w'.cell? ⟨gm, 2, none⟩ = some (.int .i64 3) ∧ w'.cell? ⟨gm, 3, none⟩ = some (.slice Am 2 cm) ∧ w'.cell? ⟨ga, 0, none⟩ = some (.int .i64 0) ∧ w'.cell? ⟨ga, 1, none⟩ = some (.string ⟨#[]⟩) ∧ w'.cell? ⟨ga, 2, none⟩ = some (.string ⟨#[]⟩) ∧ w'.cell? ⟨ga, 3, none⟩ = some (.int .i64 0) ∧ w'.cell? ⟨ga, 4, none⟩ = some (.int .i64 0) ∧ w'.cell? ⟨ga, 5, none⟩ = some (.slice Aa 2 ca)) (ds := []) #[Z0,Z0,Z0,Z0,Z0,Z0,Z0,Z0,Z0] (by kernel_rfl) rfl rfl Hc1.drew.cells (fun hHeld => ?_)
  have Hc1d := Hc1.drew
  replace F1 := Aside0.mk (Kd.C_drew F1.out)
  generalize wc1.drew = wc1d at Hc1d hHeld F1 ⊢
  clear Hc1
  refine take_ (i := 0) (N := some 28) (v := ?_) (a' := ?_) #[Z1,Z0,Z0,Z0,Z0,Z0,Z0,Z0,Z0] rfl rfl (by kernel_rfl) (fun _ _ _ h => h) (Or.inl ⟨by rfl, ?_⟩) hHeld ?_ ?_
  rotate_left; rintro w' ⟨s0, s1, s2, s3, s4, s5, s6, s7, s8, s9⟩; go_simp; with_reducible rfl; rotate_left; simp only [Act.put, pS_, pZ_, pC_, i64_w, i32_w]; rfl
  refine take_ (i := 1) (N := some 29) (v := ?_) (a' := ?_) #[Z1,Z1,Z0,Z0,Z0,Z0,Z0,Z0,Z0] rfl rfl (by kernel_rfl) (fun _ _ _ h => h) (Or.inl ⟨by rfl, ?_⟩) hHeld ?_ ?_
  rotate_left; rintro w' ⟨s0, s1, s2, s3, s4, s5, s6, s7, s8, s9⟩; go_simp; with_reducible rfl; rotate_left; simp only [Act.put, pS_, pZ_, pC_, i64_w, i32_w]; rfl
  refine one_ (i := 2) (N := some 30) #[Z1,Z1,Z1,Z0,Z0,Z0,Z0,Z0,Z0] rfl rfl (by kernel_rfl) (by decide) (fun K hK => ?_)
  refine goes_ Tryd.func19 (by kernel_rfl) rfl #[.string ⟨#[97, 110, 110, 97]⟩, .int .i64 (-1)] (by rfl) rfl rfl (by (try simp only [List.map_toArray, List.map_cons, List.map_nil]); rfl) ?_
  with_reducible refine (record_calls _ _ _).mono ?_
  rintro e wb2 ⟨Ab2, cb2, rfl, hcb2, hCb2, hBb2⟩
  refine ⟨_, rfl, ?_⟩
  have Hb2 := Hc1d.step hBb2
  clear Hc1d hHeld
  replace F1 := Aside0.mk (Kd.C_below F1.out hBb2)
  refine hK.out _ _ Hb2.cells (fun hHeld => ?_)
  clear hK K
  refine norm_ (a' := ?_) ?_ ?_
  rotate_left; show Act.put _ (some 30) _ = _; simp only [Act.put, pS_, pZ_, pC_, i64_w, i32_w]; rfl
  refine one_ (i := 3) (N := some 31) #[Z1,Z1,Z1,Z1,Z0,Z0,Z0,Z0,Z0] rfl rfl (by kernel_rfl) (by decide) (fun K hK => ?_)
  refine goes_ Tryd.func11 (by kernel_rfl) rfl #[.agg #[.string ⟨#[]⟩, .int .i64 0, .int .i64 3, .slice Am 2 cm], .agg #[.int .i64 0, .string ⟨#[]⟩, .string ⟨#[]⟩, .int .i64 0, .int .i64 0, .slice Aa 2 ca], .agg #[.int .i64 0, .string ⟨#[]⟩, .string ⟨#[]⟩, .int .i64 0, .int .i64 0, .slice Ab2 2 cb2]] (by rfl) rfl rfl (by (try simp only [List.map_toArray, List.map_cons, List.map_nil]); rfl) ?_
  with_reducible refine (score_ex 0 (recCells ⟨#[97, 110, 110]⟩ 30) (recCells ⟨#[97, 110, 110, 97]⟩ (-1)) (5) [true, false] rfl rfl sc2 _ Hb2.cm hcm.out Hb2.ca hca.out hCb2 hcb2 Hb2.gl).mono ?_
  rintro e wc2 ⟨Ac2, cc2, rfl, hcc2, hCc2, hBc2⟩
  refine ⟨_, rfl, ?_⟩
  have Hc2 := Hb2.step hBc2
  replace F1 := Aside0.mk (Kd.C_below F1.out hBc2)
  clear hCb2 hcb2 hBb2 Hb2 hHeld
  refine hK.out _ _ Hc2.cells (fun hHeld => ?_)
  clear hK K
  refine norm_ (a' := ?_) ?_ ?_
  rotate_left; show Act.put _ (some 31) _ = _; simp only [Act.put, pS_, pZ_, pC_, i64_w, i32_w]; rfl
  refine pure_ (i := 4) (N := some 27) (v := ?_) (a' := ?_) #[Z1,Z1,Z1,Z1,Z1,Z0,Z0,Z0,Z0] rfl rfl (by kernel_rfl) (fun _ _ _ h => h) (Or.inl ⟨by rfl, ?_⟩) ?_ ?_
  rotate_left; intro w'; go_simp; with_reducible rfl; rotate_left; simp only [Act.put, pS_, pZ_, pC_, i64_w, i32_w]; rfl
  refine pure_ (i := 5) (N := some 32) (v := ?_) (a' := ?_) #[Z1,Z1,Z1,Z1,Z1,Z1,Z0,Z0,Z0] rfl rfl (by kernel_rfl) (fun _ _ _ h => h) (Or.inl ⟨by rfl, ?_⟩) ?_ ?_
  rotate_left; intro w'; go_simp; with_reducible rfl; rotate_left; simp only [Act.put, pS_, pZ_, pC_, i64_w, i32_w]; rfl
  refine pure_ (i := 6) (N := some 33) (v := ?_) (a' := ?_) #[Z1,Z1,Z1,Z1,Z1,Z1,Z1,Z0,Z0] rfl rfl (by kernel_rfl) (fun _ _ _ h => h) (Or.inl ⟨by rfl, ?_⟩) ?_ ?_
  rotate_left; intro w'; go_simp; with_reducible rfl; rotate_left; simp only [Act.put, pS_, pZ_, pC_, i64_w, i32_w]; rfl
  refine pure_ (i := 7) (N := some 5) (v := ?_) (a' := ?_) #[Z1,Z1,Z1,Z1,Z1,Z1,Z1,Z1,Z0] rfl rfl (by kernel_rfl) (fun _ _ _ h => h) (Or.inl ⟨by rfl, ?_⟩) ?_ ?_
  rotate_left; intro w'; go_simp; with_reducible rfl; rotate_left; simp only [Act.put, pS_, pZ_, pC_, i64_w, i32_w]; rfl
  refine pure_ (i := 8) (N := some 6) (v := ?_) (a' := ?_) #[Z1,Z1,Z1,Z1,Z1,Z1,Z1,Z1,Z1] rfl rfl (by kernel_rfl) (fun _ _ _ h => h) (Or.inl ⟨by rfl, ?_⟩) ?_ ?_
  rotate_left; intro w'; go_simp; with_reducible rfl; rotate_left; simp only [Act.put, pS_, pZ_, pC_, i64_w, i32_w]; rfl
  refine done_ (by kernel_rfl) ?_
  have F2 := Aside0.mk hCc2
  have Hcc2 := Aside0.mk hcc2
  clear hCc2 hcc2 hBc2 hHeld
  try go_wp2
  -- the region of score 3
  refine start_ (n := 9) (S := fun w' => w'.cell? ⟨gm, 0, none⟩ = some (.string ⟨#[]⟩) ∧ w'.cell? ⟨gm, 1, none⟩ = some (.int .i64 0) ∧ w'.cell? ⟨gm, 2, none⟩ = some (.int .i64 3) ∧ w'.cell? ⟨gm, 3, none⟩ = some (.slice Am 2 cm) ∧ w'.cell? ⟨ga, 0, none⟩ = some (.int .i64 0) ∧ w'.cell? ⟨ga, 1, none⟩ = some (.string ⟨#[]⟩) ∧ w'.cell? ⟨ga, 2, none⟩ = some (.string ⟨#[]⟩) ∧ w'.cell? ⟨ga, 3, none⟩ = some (.int .i64 0) ∧ w'.cell? ⟨ga, 4, none⟩ = some (.int .i64 0) ∧ w'.cell? ⟨ga, 5, none⟩ = some (.slice Aa 2 ca)) (ds := []) #[Z0,Z0,Z0,Z0,Z0,Z0,Z0,Z0,Z0] (by kernel_rfl) rfl rfl Hc2.drew.cells (fun hHeld => ?_)
  have Hc2d := Hc2.drew
  replace F1 := Aside0.mk (Kd.C_drew F1.out)
  replace F2 := Aside0.mk (Kd.C_drew F2.out)
  generalize wc2.drew = wc2d at Hc2d hHeld F1 F2 ⊢
  clear Hc2
  refine take_ (i := 0) (N := some 35) (v := ?_) (a' := ?_) #[Z1,Z0,Z0,Z0,Z0,Z0,Z0,Z0,Z0] rfl rfl (by kernel_rfl) (fun _ _ _ h => h) (Or.inl ⟨by rfl, ?_⟩) hHeld ?_ ?_
  rotate_left; rintro w' ⟨s0, s1, s2, s3, s4, s5, s6, s7, s8, s9⟩; go_simp; with_reducible rfl; rotate_left; simp only [Act.put, pS_, pZ_, pC_, i64_w, i32_w]; rfl
  refine take_ (i := 1) (N := some 36) (v := ?_) (a' := ?_) #[Z1,Z1,Z0,Z0,Z0,Z0,Z0,Z0,Z0] rfl rfl (by kernel_rfl) (fun _ _ _ h => h) (Or.inl ⟨by rfl, ?_⟩) hHeld ?_ ?_
  rotate_left; rintro w' ⟨s0, s1, s2, s3, s4, s5, s6, s7, s8, s9⟩; go_simp; with_reducible rfl; rotate_left; simp only [Act.put, pS_, pZ_, pC_, i64_w, i32_w]; rfl
  refine one_ (i := 2) (N := some 37) #[Z1,Z1,Z1,Z0,Z0,Z0,Z0,Z0,Z0] rfl rfl (by kernel_rfl) (by decide) (fun K hK => ?_)
  refine goes_ Tryd.func19 (by kernel_rfl) rfl #[.string ⟨#[114, 111, 98, 101, 114, 116]⟩, .int .i64 30] (by rfl) rfl rfl (by (try simp only [List.map_toArray, List.map_cons, List.map_nil]); rfl) ?_
  with_reducible refine (record_calls _ _ _).mono ?_
  rintro e wb3 ⟨Ab3, cb3, rfl, hcb3, hCb3, hBb3⟩
  refine ⟨_, rfl, ?_⟩
  have Hb3 := Hc2d.step hBb3
  clear Hc2d hHeld
  replace F1 := Aside0.mk (Kd.C_below F1.out hBb3)
  replace F2 := Aside0.mk (Kd.C_below F2.out hBb3)
  refine hK.out _ _ Hb3.cells (fun hHeld => ?_)
  clear hK K
  refine norm_ (a' := ?_) ?_ ?_
  rotate_left; show Act.put _ (some 37) _ = _; simp only [Act.put, pS_, pZ_, pC_, i64_w, i32_w]; rfl
  refine one_ (i := 3) (N := some 38) #[Z1,Z1,Z1,Z1,Z0,Z0,Z0,Z0,Z0] rfl rfl (by kernel_rfl) (by decide) (fun K hK => ?_)
  refine goes_ Tryd.func11 (by kernel_rfl) rfl #[.agg #[.string ⟨#[]⟩, .int .i64 0, .int .i64 3, .slice Am 2 cm], .agg #[.int .i64 0, .string ⟨#[]⟩, .string ⟨#[]⟩, .int .i64 0, .int .i64 0, .slice Aa 2 ca], .agg #[.int .i64 0, .string ⟨#[]⟩, .string ⟨#[]⟩, .int .i64 0, .int .i64 0, .slice Ab3 2 cb3]] (by rfl) rfl rfl (by (try simp only [List.map_toArray, List.map_cons, List.map_nil]); rfl) ?_
  with_reducible refine (score_ex 0 (recCells ⟨#[97, 110, 110]⟩ 30) (recCells ⟨#[114, 111, 98, 101, 114, 116]⟩ 30) (-1) [false, true] rfl rfl sc3 _ Hb3.cm hcm.out Hb3.ca hca.out hCb3 hcb3 Hb3.gl).mono ?_
  rintro e wc3 ⟨Ac3, cc3, rfl, hcc3, hCc3, hBc3⟩
  refine ⟨_, rfl, ?_⟩
  have Hc3 := Hb3.step hBc3
  replace F1 := Aside0.mk (Kd.C_below F1.out hBc3)
  replace F2 := Aside0.mk (Kd.C_below F2.out hBc3)
  clear hCb3 hcb3 hBb3 Hb3 hHeld
  refine hK.out _ _ Hc3.cells (fun hHeld => ?_)
  clear hK K
  refine norm_ (a' := ?_) ?_ ?_
  rotate_left; show Act.put _ (some 38) _ = _; simp only [Act.put, pS_, pZ_, pC_, i64_w, i32_w]; rfl
  refine pure_ (i := 4) (N := some 34) (v := ?_) (a' := ?_) #[Z1,Z1,Z1,Z1,Z1,Z0,Z0,Z0,Z0] rfl rfl (by kernel_rfl) (fun _ _ _ h => h) (Or.inl ⟨by rfl, ?_⟩) ?_ ?_
  rotate_left; intro w'; go_simp; with_reducible rfl; rotate_left; simp only [Act.put, pS_, pZ_, pC_, i64_w, i32_w]; rfl
  refine pure_ (i := 5) (N := some 39) (v := ?_) (a' := ?_) #[Z1,Z1,Z1,Z1,Z1,Z1,Z0,Z0,Z0] rfl rfl (by kernel_rfl) (fun _ _ _ h => h) (Or.inl ⟨by rfl, ?_⟩) ?_ ?_
  rotate_left; intro w'; go_simp; with_reducible rfl; rotate_left; simp only [Act.put, pS_, pZ_, pC_, i64_w, i32_w]; rfl
  refine pure_ (i := 6) (N := some 40) (v := ?_) (a' := ?_) #[Z1,Z1,Z1,Z1,Z1,Z1,Z1,Z0,Z0] rfl rfl (by kernel_rfl) (fun _ _ _ h => h) (Or.inl ⟨by rfl, ?_⟩) ?_ ?_
  rotate_left; intro w'; go_simp; with_reducible rfl; rotate_left; simp only [Act.put, pS_, pZ_, pC_, i64_w, i32_w]; rfl
  refine pure_ (i := 7) (N := some 7) (v := ?_) (a' := ?_) #[Z1,Z1,Z1,Z1,Z1,Z1,Z1,Z1,Z0] rfl rfl (by kernel_rfl) (fun _ _ _ h => h) (Or.inl ⟨by rfl, ?_⟩) ?_ ?_
  rotate_left; intro w'; go_simp; with_reducible rfl; rotate_left; simp only [Act.put, pS_, pZ_, pC_, i64_w, i32_w]; rfl
  refine pure_ (i := 8) (N := some 8) (v := ?_) (a' := ?_) #[Z1,Z1,Z1,Z1,Z1,Z1,Z1,Z1,Z1] rfl rfl (by kernel_rfl) (fun _ _ _ h => h) (Or.inl ⟨by rfl, ?_⟩) ?_ ?_
  rotate_left; intro w'; go_simp; with_reducible rfl; rotate_left; simp only [Act.put, pS_, pZ_, pC_, i64_w, i32_w]; rfl
  refine done_ (by kernel_rfl) ?_
  have F3 := Aside0.mk hCc3
  have Hcc3 := Aside0.mk hcc3
  clear hCc3 hcc3 hBc3 hHeld
  try go_wp2
  refine start_ (n := 5) (S := fun w' => w'.cell? ⟨gm, 0, none⟩ = some (.string ⟨#[]⟩) ∧ w'.cell? ⟨gm, 1, none⟩ = some (.int .i64 0) ∧ w'.cell? ⟨gm, 2, none⟩ = some (.int .i64 3) ∧ w'.cell? ⟨gm, 3, none⟩ = some (.slice Am 2 cm) ∧ w'.cell? ⟨ga, 0, none⟩ = some (.int .i64 0) ∧ w'.cell? ⟨ga, 1, none⟩ = some (.string ⟨#[]⟩) ∧ w'.cell? ⟨ga, 2, none⟩ = some (.string ⟨#[]⟩) ∧ w'.cell? ⟨ga, 3, none⟩ = some (.int .i64 0) ∧ w'.cell? ⟨ga, 4, none⟩ = some (.int .i64 0) ∧ w'.cell? ⟨ga, 5, none⟩ = some (.slice Aa 2 ca)) (ds := []) #[Z0,Z0,Z0,Z0,Z0] (by kernel_rfl) rfl rfl Hc3.drew.cells (fun hHeld => ?_)
  have Hc3d := Hc3.drew
  replace F1 := Aside0.mk (Kd.C_drew F1.out)
  replace F2 := Aside0.mk (Kd.C_drew F2.out)
  replace F3 := Aside0.mk (Kd.C_drew F3.out)
  generalize wc3.drew = wc3d at Hc3d hHeld F1 F2 F3 ⊢
  clear Hc3
  refine take_ (i := 0) (N := some 41) (v := ?_) (a' := ?_) #[Z1,Z0,Z0,Z0,Z0] rfl rfl (by kernel_rfl) (fun _ _ _ h => h) (Or.inl ⟨by rfl, ?_⟩) hHeld ?_ ?_
  rotate_left; rintro w' ⟨s0, s1, s2, s3, s4, s5, s6, s7, s8, s9⟩; go_simp; with_reducible rfl; rotate_left; simp only [Act.put, pS_, pZ_, pC_, i64_w, i32_w]; rfl
  refine one_ (i := 1) (N := some 42) #[Z1,Z1,Z0,Z0,Z0] rfl rfl (by kernel_rfl) (by decide) (fun K hK => ?_)
  refine goes_ Tryd.func19 (by kernel_rfl) rfl #[.string ⟨#[65, 110, 110]⟩, .int .i64 31] (by rfl) rfl rfl (by (try simp only [List.map_toArray, List.map_cons, List.map_nil]); rfl) ?_
  with_reducible refine (record_calls _ _ _).mono ?_
  rintro e w4 ⟨A4, c4, rfl, hc4, hC4, hB4⟩
  refine ⟨_, rfl, ?_⟩
  have H4 := Hc3d.step hB4
  clear Hc3d hHeld
  replace F1 := Aside0.mk (Kd.C_below F1.out hB4)
  replace F2 := Aside0.mk (Kd.C_below F2.out hB4)
  replace F3 := Aside0.mk (Kd.C_below F3.out hB4)
  refine hK.out _ _ H4.cells (fun hHeld => ?_)
  clear hK K
  refine norm_ (a' := ?_) ?_ ?_
  rotate_left; show Act.put _ (some 42) _ = _; simp only [Act.put, pS_, pZ_, pC_, i64_w, i32_w]; rfl
  refine one_ (i := 2) (N := some 43) #[Z1,Z1,Z1,Z0,Z0] rfl rfl (by kernel_rfl) (by decide) (fun K hK => ?_)
  refine goes_ Tryd.func19 (by kernel_rfl) rfl #[.string ⟨#[114, 111, 98, 101, 114, 116]⟩, .int .i64 30] (by rfl) rfl rfl (by (try simp only [List.map_toArray, List.map_cons, List.map_nil]); rfl) ?_
  with_reducible refine (record_calls _ _ _).mono ?_
  rintro e w5 ⟨A5, c5, rfl, hc5, hC5, hB5⟩
  refine ⟨_, rfl, ?_⟩
  have H5 := H4.step hB5
  clear hHeld
  replace F1 := Aside0.mk (Kd.C_below F1.out hB5)
  replace F2 := Aside0.mk (Kd.C_below F2.out hB5)
  replace F3 := Aside0.mk (Kd.C_below F3.out hB5)
  refine hK.out _ _ H5.cells (fun hHeld => ?_)
  clear hK K
  refine norm_ (a' := ?_) ?_ ?_
  rotate_left; show Act.put _ (some 43) _ = _; simp only [Act.put, pS_, pZ_, pC_, i64_w, i32_w]; rfl
  refine one_ (i := 3) (N := some 44) #[Z1,Z1,Z1,Z1,Z0] rfl rfl (by kernel_rfl) (by decide) (fun K hK => ?_)
  go_simp
  have H6 := H5.step (below_alloc (Below.refl _ _) (.cells #[.int .i64 0, .string ⟨#[]⟩, .string ⟨#[]⟩, .int .i64 0, .int .i64 0, .slice Aa 2 ca, .int .i64 0, .string ⟨#[]⟩, .string ⟨#[]⟩, .int .i64 0, .int .i64 0, .slice A4 2 c4, .int .i64 0, .string ⟨#[]⟩, .string ⟨#[]⟩, .int .i64 0, .int .i64 0, .slice A5 2 c5] 29))
  refine hK.out _ _ H6.cells (fun hHeld => ?_)
  clear hK K
  refine pure_ (i := 4) (N := some 9) (v := ?_) (a' := ?_) #[Z1,Z1,Z1,Z1,Z1] rfl rfl (by kernel_rfl) (fun _ _ _ h => h) (Or.inl ⟨by rfl, ?_⟩) ?_ ?_
  rotate_left; intro w'; go_simp; with_reducible rfl; rotate_left; simp only [Act.put, pS_, pZ_, pC_, i64_w, i32_w]; rfl
  refine done_ (by kernel_rfl) ?_
  replace F1 := Aside0.mk (Kd.C_below F1.out (below_alloc (Below.refl _ _) (.cells #[.int .i64 0, .string ⟨#[]⟩, .string ⟨#[]⟩, .int .i64 0, .int .i64 0, .slice Aa 2 ca, .int .i64 0, .string ⟨#[]⟩, .string ⟨#[]⟩, .int .i64 0, .int .i64 0, .slice A4 2 c4, .int .i64 0, .string ⟨#[]⟩, .string ⟨#[]⟩, .int .i64 0, .int .i64 0, .slice A5 2 c5] 29)))
  replace F2 := Aside0.mk (Kd.C_below F2.out (below_alloc (Below.refl _ _) (.cells #[.int .i64 0, .string ⟨#[]⟩, .string ⟨#[]⟩, .int .i64 0, .int .i64 0, .slice Aa 2 ca, .int .i64 0, .string ⟨#[]⟩, .string ⟨#[]⟩, .int .i64 0, .int .i64 0, .slice A4 2 c4, .int .i64 0, .string ⟨#[]⟩, .string ⟨#[]⟩, .int .i64 0, .int .i64 0, .slice A5 2 c5] 29)))
  replace F3 := Aside0.mk (Kd.C_below F3.out (below_alloc (Below.refl _ _) (.cells #[.int .i64 0, .string ⟨#[]⟩, .string ⟨#[]⟩, .int .i64 0, .int .i64 0, .slice Aa 2 ca, .int .i64 0, .string ⟨#[]⟩, .string ⟨#[]⟩, .int .i64 0, .int .i64 0, .slice A4 2 c4, .int .i64 0, .string ⟨#[]⟩, .string ⟨#[]⟩, .int .i64 0, .int .i64 0, .slice A5 2 c5] 29)))
  have hR := recs_end H5 (Kd.C_below hC4 hB5) hC5 hca.out hc4 hc5
  generalize w5.alloc (.cells #[.int .i64 0, .string ⟨#[]⟩, .string ⟨#[]⟩, .int .i64 0, .int .i64 0, .slice Aa 2 ca, .int .i64 0, .string ⟨#[]⟩, .string ⟨#[]⟩, .int .i64 0, .int .i64 0, .slice A4 2 c4, .int .i64 0, .string ⟨#[]⟩, .string ⟨#[]⟩, .int .i64 0, .int .i64 0, .slice A5 2 c5] 29) = W6 at hR H6 F1 F2 F3 hHeld ⊢
  generalize w5.heap.size = gr at hR ⊢
  have F4 := Aside0.mk hR
  clear hR hC4 hC5 hB4 hB5 hc4 hc5 H4 H5 hHeld
  have lm := blk_lt H6.m
  have la := blk_lt H6.a
  obtain ⟨s0, s1, s2, s3, s4, s5, s6, s7, s8, s9⟩ := H6.cells
  go_wp2_with (first
    | (go_at_call 16; with_reducible refine (edges_ex 4 #[.int .i64 1, .int .i64 2, .int .i64 0, .int .i64 1, .int .i64 0, .int .i64 2, .int .i64 0, .int .i64 1] [⟨1, 2⟩, ⟨0, 1⟩, ⟨0, 2⟩, ⟨0, 1⟩] rfl (by decide) (pairs4 _ _ _ _) 3 es1 rfl 0 ed1 H6 hcm.out F4.out).mono ?_; rintro e w7 ⟨Ae, ce, rfl, hce, hCe, hBe⟩; have HCE := Aside0.mk hce; have F5 := Aside0.mk hCe; have H7 := H6.step hBe; replace F1 := Aside0.mk (Kd.C_below F1.out hBe); replace F2 := Aside0.mk (Kd.C_below F2.out hBe); replace F3 := Aside0.mk (Kd.C_below F3.out hBe); replace F4 := Aside0.mk (Kd.C_below F4.out hBe); clear H6 lm la s0 s1 s2 s3 s4 s5 s6 s7 s8 s9; have lm := blk_lt H7.m; have la := blk_lt H7.a; obtain ⟨s0, s1, s2, s3, s4, s5, s6, s7, s8, s9⟩ := H7.cells; clear hBe hce hCe)
    | (go_at_call 16; with_reducible refine (edges_ex 1 #[.int .i64 1, .int .i64 1] [⟨1, 1⟩] rfl (by decide) (pairs1 _) 0 [] rfl 1 ed2 H7 hcm.out F4.out).mono ?_; rintro e w8 ⟨Ae2, ce2, rfl, hce2, hCe2, hBe⟩; have H8 := H7.step hBe; replace F1 := Aside0.mk (Kd.C_below F1.out hBe); replace F2 := Aside0.mk (Kd.C_below F2.out hBe); replace F3 := Aside0.mk (Kd.C_below F3.out hBe); replace F4 := Aside0.mk (Kd.C_below F4.out hBe); replace F5 := Aside0.mk (Kd.C_below F5.out hBe); clear H7 lm la s0 s1 s2 s3 s4 s5 s6 s7 s8 s9; have lm := blk_lt H8.m; have la := blk_lt H8.a; obtain ⟨s0, s1, s2, s3, s4, s5, s6, s7, s8, s9⟩ := H8.cells; clear hBe hce2 hCe2)
    | (go_at_call 11; have hB8 := below_alloc (Below.refl w8.heap.size w8) (.cells #[.int .i64 0, .string ⟨#[]⟩, .string ⟨#[]⟩, .int .i64 1, .int .i64 0, .slice Aa 2 ca] 29); have H8o := H8.step hB8; have q := score_ex 1 (recCells ⟨#[97, 110, 110]⟩ 30) (recCells ⟨#[97, 110, 110]⟩ 30) 0 [] rfl rfl sc4 _ H8o.cm hcm.out H8o.ca hca.out H8o.ca hca.out H8o.gl; with_reducible refine q.mono ?_; clear q H8o; rintro e w9 ⟨Ac4, cc4, rfl, hcc4, hCc4, hB9⟩; have OT := Aside0.mk (blk_below (blk_new w8 (.cells #[.int .i64 0, .string ⟨#[]⟩, .string ⟨#[]⟩, .int .i64 1, .int .i64 0, .slice Aa 2 ca] 29)) hB9); have hBB := below_step hB8 hB9; have H9 := H8.step hBB; replace F1 := Aside0.mk (Kd.C_below F1.out hBB); replace F2 := Aside0.mk (Kd.C_below F2.out hBB); replace F3 := Aside0.mk (Kd.C_below F3.out hBB); replace F4 := Aside0.mk (Kd.C_below F4.out hBB); replace F5 := Aside0.mk (Kd.C_below F5.out hBB); clear H8 lm la s0 s1 s2 s3 s4 s5 s6 s7 s8 s9; have lm := blk_lt H9.m; have la := blk_lt H9.a; obtain ⟨s0, s1, s2, s3, s4, s5, s6, s7, s8, s9⟩ := H9.cells; have t0 : w9.cell? ⟨w8.heap.size, 0, none⟩ = some (.int .i64 0) := (blk_cell OT.out 0).trans rfl; have t1 : w9.cell? ⟨w8.heap.size, 1, none⟩ = some (.string ⟨#[]⟩) := (blk_cell OT.out 1).trans rfl; have t2 : w9.cell? ⟨w8.heap.size, 2, none⟩ = some (.string ⟨#[]⟩) := (blk_cell OT.out 2).trans rfl; have t3 : w9.cell? ⟨w8.heap.size, 3, none⟩ = some (.int .i64 1) := (blk_cell OT.out 3).trans rfl; have t4 : w9.cell? ⟨w8.heap.size, 4, none⟩ = some (.int .i64 0) := (blk_cell OT.out 4).trans rfl; have t5 : w9.cell? ⟨w8.heap.size, 5, none⟩ = some (.slice Aa 2 ca) := (blk_cell OT.out 5).trans rfl; have lo := blk_lt OT.out; clear hBB hB8 hB9 hcc4 hCc4)
    | (go_at_call 12; have q := bools_ex (W := w9) [true, true] true true rfl F1.out Hcc1.out; with_reducible refine q.mono ?_; clear q; rintro e w10 ⟨rfl, hB10⟩; have H10 := H9.step hB10; replace F1 := Aside0.mk (Kd.C_below F1.out hB10); replace F2 := Aside0.mk (Kd.C_below F2.out hB10); replace F3 := Aside0.mk (Kd.C_below F3.out hB10); replace F4 := Aside0.mk (Kd.C_below F4.out hB10); replace F5 := Aside0.mk (Kd.C_below F5.out hB10); clear H9 lm la s0 s1 s2 s3 s4 s5 s6 s7 s8 s9; have lm := blk_lt H10.m; have la := blk_lt H10.a; obtain ⟨s0, s1, s2, s3, s4, s5, s6, s7, s8, s9⟩ := H10.cells; replace OT := Aside0.mk (blk_below OT.out hB10); clear t0 t1 t2 t3 t4 t5; have t0 : w10.cell? ⟨w8.heap.size, 0, none⟩ = some (.int .i64 0) := (blk_cell OT.out 0).trans rfl; have t1 : w10.cell? ⟨w8.heap.size, 1, none⟩ = some (.string ⟨#[]⟩) := (blk_cell OT.out 1).trans rfl; have t2 : w10.cell? ⟨w8.heap.size, 2, none⟩ = some (.string ⟨#[]⟩) := (blk_cell OT.out 2).trans rfl; have t3 : w10.cell? ⟨w8.heap.size, 3, none⟩ = some (.int .i64 1) := (blk_cell OT.out 3).trans rfl; have t4 : w10.cell? ⟨w8.heap.size, 4, none⟩ = some (.int .i64 0) := (blk_cell OT.out 4).trans rfl; have t5 : w10.cell? ⟨w8.heap.size, 5, none⟩ = some (.slice Aa 2 ca) := (blk_cell OT.out 5).trans rfl; clear lo; have lo := blk_lt OT.out; clear hB10)
    | (go_at_call 12; have q := bools_ex (W := w10) [true, false] true false rfl F2.out Hcc2.out; with_reducible refine q.mono ?_; clear q; rintro e w11 ⟨rfl, hB11⟩; have H11 := H10.step hB11; replace F1 := Aside0.mk (Kd.C_below F1.out hB11); replace F2 := Aside0.mk (Kd.C_below F2.out hB11); replace F3 := Aside0.mk (Kd.C_below F3.out hB11); replace F4 := Aside0.mk (Kd.C_below F4.out hB11); replace F5 := Aside0.mk (Kd.C_below F5.out hB11); clear H10 lm la s0 s1 s2 s3 s4 s5 s6 s7 s8 s9; have lm := blk_lt H11.m; have la := blk_lt H11.a; obtain ⟨s0, s1, s2, s3, s4, s5, s6, s7, s8, s9⟩ := H11.cells; replace OT := Aside0.mk (blk_below OT.out hB11); clear t0 t1 t2 t3 t4 t5; have t0 : w11.cell? ⟨w8.heap.size, 0, none⟩ = some (.int .i64 0) := (blk_cell OT.out 0).trans rfl; have t1 : w11.cell? ⟨w8.heap.size, 1, none⟩ = some (.string ⟨#[]⟩) := (blk_cell OT.out 1).trans rfl; have t2 : w11.cell? ⟨w8.heap.size, 2, none⟩ = some (.string ⟨#[]⟩) := (blk_cell OT.out 2).trans rfl; have t3 : w11.cell? ⟨w8.heap.size, 3, none⟩ = some (.int .i64 1) := (blk_cell OT.out 3).trans rfl; have t4 : w11.cell? ⟨w8.heap.size, 4, none⟩ = some (.int .i64 0) := (blk_cell OT.out 4).trans rfl; have t5 : w11.cell? ⟨w8.heap.size, 5, none⟩ = some (.slice Aa 2 ca) := (blk_cell OT.out 5).trans rfl; clear lo; have lo := blk_lt OT.out; clear hB11)
    | (go_at_call 12; have q := bools_ex (W := w11) [false, true] false true rfl F3.out Hcc3.out; with_reducible refine q.mono ?_; clear q; rintro e w12 ⟨rfl, hB12⟩; have H12 := H11.step hB12; replace F1 := Aside0.mk (Kd.C_below F1.out hB12); replace F2 := Aside0.mk (Kd.C_below F2.out hB12); replace F3 := Aside0.mk (Kd.C_below F3.out hB12); replace F4 := Aside0.mk (Kd.C_below F4.out hB12); replace F5 := Aside0.mk (Kd.C_below F5.out hB12); clear H11 lm la s0 s1 s2 s3 s4 s5 s6 s7 s8 s9; have lm := blk_lt H12.m; have la := blk_lt H12.a; obtain ⟨s0, s1, s2, s3, s4, s5, s6, s7, s8, s9⟩ := H12.cells; replace OT := Aside0.mk (blk_below OT.out hB12); clear t0 t1 t2 t3 t4 t5; have t0 : w12.cell? ⟨w8.heap.size, 0, none⟩ = some (.int .i64 0) := (blk_cell OT.out 0).trans rfl; have t1 : w12.cell? ⟨w8.heap.size, 1, none⟩ = some (.string ⟨#[]⟩) := (blk_cell OT.out 1).trans rfl; have t2 : w12.cell? ⟨w8.heap.size, 2, none⟩ = some (.string ⟨#[]⟩) := (blk_cell OT.out 2).trans rfl; have t3 : w12.cell? ⟨w8.heap.size, 3, none⟩ = some (.int .i64 1) := (blk_cell OT.out 3).trans rfl; have t4 : w12.cell? ⟨w8.heap.size, 4, none⟩ = some (.int .i64 0) := (blk_cell OT.out 4).trans rfl; have t5 : w12.cell? ⟨w8.heap.size, 5, none⟩ = some (.slice Aa 2 ca) := (blk_cell OT.out 5).trans rfl; clear lo; have lo := blk_lt OT.out; clear hB12)
    | (go_at_call 17; have q := same_ex (W := w12) F5.out HCE.out; with_reducible refine q.mono ?_; clear q; rintro e w13 ⟨rfl, hB13⟩; have H13 := H12.step hB13; replace F1 := Aside0.mk (Kd.C_below F1.out hB13); replace F2 := Aside0.mk (Kd.C_below F2.out hB13); replace F3 := Aside0.mk (Kd.C_below F3.out hB13); replace F4 := Aside0.mk (Kd.C_below F4.out hB13); replace F5 := Aside0.mk (Kd.C_below F5.out hB13); clear H12 lm la s0 s1 s2 s3 s4 s5 s6 s7 s8 s9; have lm := blk_lt H13.m; have la := blk_lt H13.a; obtain ⟨s0, s1, s2, s3, s4, s5, s6, s7, s8, s9⟩ := H13.cells; replace OT := Aside0.mk (blk_below OT.out hB13); clear t0 t1 t2 t3 t4 t5; have t0 : w13.cell? ⟨w8.heap.size, 0, none⟩ = some (.int .i64 0) := (blk_cell OT.out 0).trans rfl; have t1 : w13.cell? ⟨w8.heap.size, 1, none⟩ = some (.string ⟨#[]⟩) := (blk_cell OT.out 1).trans rfl; have t2 : w13.cell? ⟨w8.heap.size, 2, none⟩ = some (.string ⟨#[]⟩) := (blk_cell OT.out 2).trans rfl; have t3 : w13.cell? ⟨w8.heap.size, 3, none⟩ = some (.int .i64 1) := (blk_cell OT.out 3).trans rfl; have t4 : w13.cell? ⟨w8.heap.size, 4, none⟩ = some (.int .i64 0) := (blk_cell OT.out 4).trans rfl; have t5 : w13.cell? ⟨w8.heap.size, 5, none⟩ = some (.slice Aa 2 ca) := (blk_cell OT.out 5).trans rfl; clear lo; have lo := blk_lt OT.out; clear hB13)
    | (go_at_call 13; have q := weight_ex H13 hcm.out hca.out; with_reducible refine q.mono ?_; clear q; rintro e w14 ⟨rfl, hB14⟩; have H14 := H13.step hB14))
  refine bodyPost_ret (results_tmp rfl _ _ _) rfl ?_
  exact ⟨rfl, H14.hb⟩
def cleanselaw20_head.f : Option Bool := some true
theorem cleanselaw20_head.calls (r : Bool) (w : World) (hG : Gl w) (h : cleanselaw20_head.f = some r) : Calls Tryd.prog 9 #[] w fun e w' => e = .returned (.bool r) ∧ Below w.heap.size w w' := by
  obtain rfl : true = r := by injection h
  exact head_walk w hG
end Go.Proofs.YtiffkknhnmpgbaaDoor
end

section
namespace Go.Proofs.YtiffkknhnmpgbaaDoor.LLists
open Go.RowKit Go.Proofs.YtiffkknhnmpgbaaDoor.Q Go.Proofs.YtiffkknhnmpgbaaDoor.R Go.Proofs.YtiffkknhnmpgbaaDoor.U Go.Proofs.YtiffkknhnmpgbaaDoorW.PrintWords Go.Proofs.YtiffkknhnmpgbaaDoorW.PrintLast Go.Proofs.YtiffkknhnmpgbaaDoorW.PrintMore
attribute [local go_sem] max2_int min2_int max_two min_two max_three min_three max_four min_four   -- for this text's walks alone
set_option linter.unusedVariables false
set_option linter.unusedSimpArgs false

/-! ### cleanselaw20_MatchLists: function 5 -/
mutual
def cleanselaw20_MatchLists.j0 : Nat → List (S24) → List (S24) → Bool → Bool → Int → ByteArray → ByteArray → Int → Int → List (S50) → Int → ByteArray → ByteArray → Int → Int → List (S50) → Option (Bool)
 | 0, _, _, _, _, _, _, _, _, _, _, _, _, _, _, _, _ => none
 | k + 1, x0, x1, x9, x26, x102000, x102001, x102002, x102003, x102004, x102005, x103000, x103001, x103002, x103003, x103004, x103005 => if x26 = true then (some x9) else ((some (([] : List (S24)) : List (S24))).bind fun y109 => (if y109.length + x0.length < 2513169434916 then ((some (y109 ++ x0 : List (S24))).bind fun y112 => (if y112.length + x1.length < 2513169434916 then (cleanselaw20_MatchLists.l0 k x0 x1 x9 (y112 ++ x1) ([] : List (S24)) ([] : List (S24)) 0 x102000 x102001 x102002 x102003 x102004 x102005 x103000 x103001 x103002 x103003 x103004 x103005) else (none))) else (none)))
def cleanselaw20_MatchLists.l0 : Nat → List (S24) → List (S24) → Bool → List (S24) → List (S24) → List (S24) → Int → Int → ByteArray → ByteArray → Int → Int → List (S50) → Int → ByteArray → ByteArray → Int → Int → List (S50) → Option (Bool)
 | 0, _, _, _, _, _, _, _, _, _, _, _, _, _, _, _, _, _, _, _ => none
 | k + 1, x0, x1, x9, x10, x11, x12, x13, x102000, x102001, x102002, x102003, x102004, x102005, x103000, x103001, x103002, x103003, x103004, x103005 => if x13 < (x10.length : Int) then (if 0 ≤ (wrap64 ((wrap64 ((x10.length : Int) - 1)) - x13)) then (if (wrap64 ((wrap64 ((x10.length : Int) - 1)) - x13)) < (x10.length : Int) then (if x11.length < 2513169434916 then ((some (x11 ++ [(⟨(rd_T24 x10 (wrap64 ((wrap64 ((x10.length : Int) - 1)) - x13))).f0, (rd_T24 x10 (wrap64 ((wrap64 ((x10.length : Int) - 1)) - x13))).f1, (rd_T24 x10 (wrap64 ((wrap64 ((x10.length : Int) - 1)) - x13))).f2, (rd_T24 x10 (wrap64 ((wrap64 ((x10.length : Int) - 1)) - x13))).f3⟩ : S24)] : List (S24))).bind fun y119 => (if 0 ≤ x13 then ((cleanseref20_About.f k ((rd_T24 x10 x13).f0) ((rd_T24 x10 x13).f1) ((rd_T24 x10 x13).f2) ((rd_T24 x10 x13).f3) x102000 x102001 x102002 x102003 x102004 x102005 x103000 x103001 x103002 x103003 x103004 x103005).bind fun t123 => (if t123 = true then (if x12.length < 2513169434916 then (cleanselaw20_MatchLists.l0 k x0 x1 x9 x10 y119 (x12 ++ [(⟨(rd_T24 x10 x13).f0, (rd_T24 x10 x13).f1, (rd_T24 x10 x13).f2, (rd_T24 x10 x13).f3⟩ : S24)]) (wrap64 (x13 + 1)) x102000 x102001 x102002 x102003 x102004 x102005 x103000 x103001 x103002 x103003 x103004 x103005) else (none)) else (cleanselaw20_MatchLists.l0 k x0 x1 x9 x10 y119 x12 (wrap64 (x13 + 1)) x102000 x102001 x102002 x102003 x102004 x102005 x103000 x103001 x103002 x103003 x103004 x103005))) else (none))) else (none)) else (none)) else (none)) else ((match_Weight.f k x10 x102000 x102001 x102002 x102003 x102004 x102005 x103000 x103001 x103002 x103003 x103004 x103005).bind fun t128 => (if x9 = true then ((match_Weight.f k x0 x102000 x102001 x102002 x102003 x102004 x102005 x103000 x103001 x103002 x103003 x103004 x103005).bind fun t129 => ((match_Weight.f k x1 x102000 x102001 x102002 x102003 x102004 x102005 x103000 x103001 x103002 x103003 x103004 x103005).bind fun t130 => (if t128 = (wrap64 (t129 + t130)) then ((match_Weight.f k x11 x102000 x102001 x102002 x102003 x102004 x102005 x103000 x103001 x103002 x103003 x103004 x103005).bind fun t131 => (if t128 = t131 then ((match_Weight.f k x12 x102000 x102001 x102002 x102003 x102004 x102005 x103000 x103001 x103002 x103003 x103004 x103005).bind fun t132 => (some (t128 == t132))) else (some false))) else (some false)))) else (some false)))
end
def cleanselaw20_MatchLists.f (k : Nat) (l0 : List (S24)) (l1 : List (S24)) (a2_0 : Int) (a2_1 : ByteArray) (a2_2 : ByteArray) (a2_3 : Int) (a2_4 : Int) (l2_5 : List (S50)) (a3_0 : Int) (a3_1 : ByteArray) (a3_2 : ByteArray) (a3_3 : Int) (a3_4 : Int) (l3_5 : List (S50)) : Option (Bool) := (cleanselaw20_head.f).bind fun t103 => ((cleanseref20_Few.f k l0 (([(⟨(⟨a2_0, a2_1, a2_2⟩ : S26), a2_3, a2_4, l2_5⟩ : S29), (⟨(⟨a3_0, a3_1, a3_2⟩ : S26), a3_3, a3_4, l3_5⟩ : S29)] : List (S29))) 2).bind fun t107 => (if t107 = true then ((cleanseref20_Few.f k l1 ([] : List (S29)) 0).bind fun t108 => (cleanselaw20_MatchLists.j0 k l0 l1 t103 (!t108) a2_0 a2_1 a2_2 a2_3 a2_4 l2_5 a3_0 a3_1 a3_2 a3_3 a3_4 l3_5)) else (cleanselaw20_MatchLists.j0 k l0 l1 t103 true a2_0 a2_1 a2_2 a2_3 a2_4 l2_5 a3_0 a3_1 a3_2 a3_3 a3_4 l3_5)))
def cleanselaw20_MatchLists.T14 : Bool × List (List Nat × List Nat) := (true, [([], []), ([0], [0]), ([1], [1]), ([1], [1]), ([1], [1]), ([1], [1]), ([3, 4, 5, 1, 1], [1, 3, 4, 5]), ([1], [1]), ([1], [1]), ([1], [1]), ([7, 8, 9, 6, 1], [1, 7, 8, 9]), ([6, 10, 1], [1, 6, 10]), ([2, 11, 1], [1, 2, 11]), ([1, 12], [1, 12]), ([13, 10], [13]), ([14], [14]), ([14], [14]), ([14], [14]), ([14], [14]), ([16, 17, 18, 14, 14], [14, 16, 17, 18]), ([15, 19, 14], [14, 15, 19]), ([14, 20], [14, 20]), ([21, 19], [21]), ([22], [22]), ([22], [22]), ([22], [22]), ([22], [22]), ([24, 25, 26, 22, 22], [22, 24, 25, 26]), ([23, 27, 22], [22, 23, 27]), ([22, 28], [22, 28]), ([29, 27, 0, 1, 2, 3, 4, 5, 6, 7, 8, 9, 10, 11, 12, 13, 14, 15, 16, 17, 18, 19, 20, 21, 22, 23, 24, 25, 26, 27, 28, 29], [29])])
def cleanselaw20_MatchLists.B14 : List Nat := [0, 1, 3, 3, 3, 3, 59, 3, 3, 3, 1019, 2043, 4095, 8191, 16383, 32767, 32767, 32767, 32767, 491519, 1048575, 2097151, 4194303, 8388607, 8388607, 8388607, 8388607, 125829119, 268435455, 536870911, 1073741823]
theorem cleanselaw20_MatchLists.tab14 : rtab .any (opsOf Tryd.f5 14) = cleanselaw20_MatchLists.T14 := by kernel_rfl
theorem cleanselaw20_MatchLists.bits14 : waitsOk cleanselaw20_MatchLists.T14.2 cleanselaw20_MatchLists.B14 = true := by kernel_rfl
set_option maxHeartbeats 8000000 in
set_option maxRecDepth 100000 in
theorem cleanselaw20_MatchLists.calls (k : Nat) (P0_ : Nat → Prop) (A0 : Option Addr) (c0 : Nat) (l0 : List (S24)) (P1_ : Nat → Prop) (A1 : Option Addr) (c1 : Nat) (l1 : List (S24)) (a2_0 : Int) (a2_1 : ByteArray) (a2_2 : ByteArray) (a2_3 : Int) (a2_4 : Int) (P2_5_ : Nat → Prop) (A2_5 : Option Addr) (c2_5 : Nat) (l2_5 : List (S50)) (a3_0 : Int) (a3_1 : ByteArray) (a3_2 : ByteArray) (a3_3 : Int) (a3_4 : Int) (P3_5_ : Nat → Prop) (A3_5 : Option Addr) (c3_5 : Nat) (l3_5 : List (S50)) (r : Bool) (w : World) (hs0 : Kd.V k24 24 w w.heap.size (fun k_ => P0_ k_) (.slice A0 l0.length c0) l0) (hs1 : Kd.V k24 24 w w.heap.size (fun k_ => P1_ k_) (.slice A1 l1.length c1) l1) (hs2_5 : Kd.V k50 50 w w.heap.size (fun k_ => P2_5_ k_) (.slice A2_5 l2_5.length c2_5) l2_5) (hs3_5 : Kd.V k50 50 w w.heap.size (fun k_ => P3_5_ k_) (.slice A3_5 l3_5.length c3_5) l3_5) (hG : Gl w) (hT : r = true) (h : cleanselaw20_MatchLists.f k l0 l1 a2_0 a2_1 a2_2 a2_3 a2_4 l2_5 a3_0 a3_1 a3_2 a3_3 a3_4 l3_5 = some r) :
  Calls Tryd.prog 5 #[.slice A0 l0.length c0, .slice A1 l1.length c1, .agg #[.int .i64 a2_0, .string a2_1, .string a2_2, .int .i64 a2_3, .int .i64 a2_4, .slice A2_5 l2_5.length c2_5], .agg #[.int .i64 a3_0, .string a3_1, .string a3_2, .int .i64 a3_3, .int .i64 a3_4, .slice A3_5 l3_5.length c3_5]] w fun e w' => e = .returned (.bool r) ∧ Below w.heap.size w w' := by
 have HGl := Aside0.mk hG
 clear hG
 have HT := Aside0.mk hT
 clear hT
 have hu29 := Tryd.underlying29
 have hu24 := Tryd.underlying24
 have HO0 := Aside0.mk (show Kd.V k24 24 w w.heap.size (fun k_ => ((P0_ k_ ∨ P1_ k_ ∨ P2_5_ k_ ∨ P3_5_ k_) ∨ w.heap.size ≤ k_)) (.slice A0 l0.length c0) l0 from Kd.V_mono hs0 (fun k_ hk => .inl (.inl hk)))
 have HO1 := Aside0.mk (show Kd.V k24 24 w w.heap.size (fun k_ => ((P0_ k_ ∨ P1_ k_ ∨ P2_5_ k_ ∨ P3_5_ k_) ∨ w.heap.size ≤ k_)) (.slice A1 l1.length c1) l1 from Kd.V_mono hs1 (fun k_ hk => .inl (.inr (.inl hk))))
 have HO2_5 := Aside0.mk (show Kd.V k50 50 w w.heap.size (fun k_ => ((P0_ k_ ∨ P1_ k_ ∨ P2_5_ k_ ∨ P3_5_ k_) ∨ w.heap.size ≤ k_)) (.slice A2_5 l2_5.length c2_5) l2_5 from Kd.V_mono hs2_5 (fun k_ hk => .inl (.inr (.inr (.inl hk)))))
 have HO3_5 := Aside0.mk (show Kd.V k50 50 w w.heap.size (fun k_ => ((P0_ k_ ∨ P1_ k_ ∨ P2_5_ k_ ∨ P3_5_ k_) ∨ w.heap.size ≤ k_)) (.slice A3_5 l3_5.length c3_5) l3_5 from Kd.V_mono hs3_5 (fun k_ hk => .inl (.inr (.inr (.inr hk)))))
 have HB := Aside0.mk (Below.refl w.heap.size w)
 have H : ((cleanselaw20_head.f).bind fun t103 => ((cleanseref20_Few.f k l0 (([(⟨(⟨a2_0, a2_1, a2_2⟩ : S26), a2_3, a2_4, l2_5⟩ : S29), (⟨(⟨a3_0, a3_1, a3_2⟩ : S26), a3_3, a3_4, l3_5⟩ : S29)] : List (S29))) 2).bind fun t107 => (if t107 = true then ((cleanseref20_Few.f k l1 ([] : List (S29)) 0).bind fun t108 => (cleanselaw20_MatchLists.j0 k l0 l1 t103 (!t108) a2_0 a2_1 a2_2 a2_3 a2_4 l2_5 a3_0 a3_1 a3_2 a3_3 a3_4 l3_5)) else (cleanselaw20_MatchLists.j0 k l0 l1 t103 true a2_0 a2_1 a2_2 a2_3 a2_4 l2_5 a3_0 a3_1 a3_2 a3_3 a3_4 l3_5)))) = some r := h
 clear h
 replace H := Option.bind_eq_some_iff.mp H
 obtain ⟨t103, A50, H⟩ := H
 replace H : ((cleanseref20_Few.f k l0 (([(⟨(⟨a2_0, a2_1, a2_2⟩ : S26), a2_3, a2_4, l2_5⟩ : S29), (⟨(⟨a3_0, a3_1, a3_2⟩ : S26), a3_3, a3_4, l3_5⟩ : S29)] : List (S29))) 2).bind fun t107 => (if t107 = true then ((cleanseref20_Few.f k l1 ([] : List (S29)) 0).bind fun t108 => (cleanselaw20_MatchLists.j0 k l0 l1 t103 (!t108) a2_0 a2_1 a2_2 a2_3 a2_4 l2_5 a3_0 a3_1 a3_2 a3_3 a3_4 l3_5)) else (cleanselaw20_MatchLists.j0 k l0 l1 t103 true a2_0 a2_1 a2_2 a2_3 a2_4 l2_5 a3_0 a3_1 a3_2 a3_3 a3_4 l3_5))) = some r := H
 have A5 := Aside0.mk A50
 clear A50
 have HC6 := Aside0.mk H
 clear H
 go_enter Tryd.func5, Tryd.ntmps5
 go_upto_region 2 with (first | ((with_reducible refine gate_dst (N := 6) rfl ?_); refine box_event ?hg (N := 6) ?hd (cs := #[.int .i64 a2_0, .string a2_1, .string a2_2, .int .i64 a2_3, .int .i64 a2_4, .slice A2_5 l2_5.length c2_5]) (t := 29) ?hr ?_; (case hd => rfl); (case hg => rfl); (case hr => (go_simp; done)); intro gb101 hg w7 hbox hb; have n0_ := Aside0.mk (Kd.V_below (Kd.V_elderB (by exact HO0.out) gb101 (Nat.le_of_eq hg.symm)) hb); have n1_ := Aside0.mk (Kd.V_below (Kd.V_elderB (by exact HO1.out) gb101 (Nat.le_of_eq hg.symm)) hb); have n2_ := Aside0.mk (Kd.V_below (Kd.V_elderB (by exact HO2_5.out) gb101 (Nat.le_of_eq hg.symm)) hb); have n3_ := Aside0.mk (Kd.V_below (Kd.V_elderB (by exact HO3_5.out) gb101 (Nat.le_of_eq hg.symm)) hb); have n4_ := Aside0.mk (below_step HB.out hb); have n5_ := Aside0.mk (hbox); clear HO0; clear HO1; clear HO2_5; clear HO3_5; clear HB; have HO0 := n0_; have HO1 := n1_; have HO2_5 := n2_; have HO3_5 := n3_; have HB := n4_; have BK101 := n5_; clear n0_ n1_ n2_ n3_ n4_ n5_; clear hb hbox hg) | ((with_reducible refine gate_dst (N := 7) rfl ?_); refine box_event ?hg (N := 7) ?hd (cs := #[.int .i64 a3_0, .string a3_1, .string a3_2, .int .i64 a3_3, .int .i64 a3_4, .slice A3_5 l3_5.length c3_5]) (t := 29) ?hr ?_; (case hd => rfl); (case hg => rfl); (case hr => (go_simp; done)); intro gb102 hg w8 hbox hb; have n0_ := Aside0.mk (Kd.V_below (Kd.V_elderB (by exact HO0.out) gb102 (Nat.le_of_eq hg.symm)) hb); have n1_ := Aside0.mk (Kd.V_below (Kd.V_elderB (by exact HO1.out) gb102 (Nat.le_of_eq hg.symm)) hb); have n2_ := Aside0.mk (Kd.V_below (Kd.V_elderB (by exact HO2_5.out) gb102 (Nat.le_of_eq hg.symm)) hb); have n3_ := Aside0.mk (Kd.V_below (Kd.V_elderB (by exact HO3_5.out) gb102 (Nat.le_of_eq hg.symm)) hb); have n4_ := Aside0.mk (blk_below (by exact BK101.out) hb); have n5_ := Aside0.mk (below_step HB.out hb); have n6_ := Aside0.mk (hbox); have n9_ := Aside0.mk ((by rw [hg]; exact Nat.ne_of_lt (blk_lt (by exact BK101.out)) : gb101 ≠ gb102)); have n10_ := Aside0.mk ((by rw [hg]; exact Nat.ne_of_gt (blk_lt (by exact BK101.out)) : gb102 ≠ gb101)); clear HO0; clear HO1; clear HO2_5; clear HO3_5; clear BK101; clear HB; have HO0 := n0_; have HO1 := n1_; have HO2_5 := n2_; have HO3_5 := n3_; have BK101 := n4_; have HB := n5_; have BK102 := n6_; have NB101_102 := n9_; have NB102_101 := n10_; clear n0_ n1_ n2_ n3_ n4_ n5_ n6_ n9_ n10_; clear hb hbox hg) | ((with_reducible refine gate_callee (f := 9) rfl ?_); refine goesL_ (some 15) rfl rfl Tryd.func9 (by kernel_rfl) rfl #[] rfl (by (try simp only [List.map_toArray, List.map_cons, List.map_nil]); done) ?_; (with_reducible refine (cleanselaw20_head.calls  t103 _ ?sGl A5.out).mono ?_); (case sGl => exact Gl.below HGl.out HB.out); rintro e w9 ⟨rfl, hb⟩; refine ⟨_, rfl, ?_⟩; have n0_ := Aside0.mk (Kd.V_below (by exact HO0.out) hb); have n1_ := Aside0.mk (Kd.V_below (by exact HO1.out) hb); have n2_ := Aside0.mk (Kd.V_below (by exact HO2_5.out) hb); have n3_ := Aside0.mk (Kd.V_below (by exact HO3_5.out) hb); have n4_ := Aside0.mk (blk_below (by exact BK101.out) hb); have n5_ := Aside0.mk (blk_below (by exact BK102.out) hb); have n6_ := Aside0.mk (below_step HB.out hb); clear HO0; clear HO1; clear HO2_5; clear HO3_5; clear BK101; clear BK102; clear HB; have HO0 := n0_; have HO1 := n1_; have HO2_5 := n2_; have HO3_5 := n3_; have BK101 := n4_; have BK102 := n5_; have HB := n6_; clear n0_ n1_ n2_ n3_ n4_ n5_ n6_; (try clear hb)))
 go_cut [26] (fun v26 wc => ∃ (kq : Nat) (x26_5 : Bool), v26 = .bool x26_5 ∧ Aside0 (cleanselaw20_MatchLists.j0 kq l0 l1 t103 x26_5 a2_0 a2_1 a2_2 a2_3 a2_4 l2_5 a3_0 a3_1 a3_2 a3_3 a3_4 l3_5 = some r) ∧ Aside0 (kq ≤ k) ∧ Aside0 (Kd.V k24 24 wc w.heap.size (fun k_ => ((P0_ k_ ∨ P1_ k_ ∨ P2_5_ k_ ∨ P3_5_ k_) ∨ w.heap.size ≤ k_) ∧ k_ ≠ gb101 ∧ k_ ≠ gb102) (.slice A0 l0.length c0) l0) ∧ Aside0 (Kd.V k24 24 wc w.heap.size (fun k_ => ((P0_ k_ ∨ P1_ k_ ∨ P2_5_ k_ ∨ P3_5_ k_) ∨ w.heap.size ≤ k_) ∧ k_ ≠ gb101 ∧ k_ ≠ gb102) (.slice A1 l1.length c1) l1) ∧ Aside0 (Kd.V k50 50 wc w.heap.size (fun k_ => ((P0_ k_ ∨ P1_ k_ ∨ P2_5_ k_ ∨ P3_5_ k_) ∨ w.heap.size ≤ k_) ∧ k_ ≠ gb101 ∧ k_ ≠ gb102) (.slice A2_5 l2_5.length c2_5) l2_5) ∧ Aside0 (Kd.V k50 50 wc w.heap.size (fun k_ => ((P0_ k_ ∨ P1_ k_ ∨ P2_5_ k_ ∨ P3_5_ k_) ∨ w.heap.size ≤ k_) ∧ k_ ≠ gb101 ∧ k_ ≠ gb102) (.slice A3_5 l3_5.length c3_5) l3_5) ∧ Aside0 (wc.heap[gb101]? = some (.cells #[.int .i64 a2_0, .string a2_1, .string a2_2, .int .i64 a2_3, .int .i64 a2_4, (.slice A2_5 l2_5.length c2_5)] 29 (0, 0))) ∧ Aside0 (wc.heap[gb102]? = some (.cells #[.int .i64 a3_0, .string a3_1, .string a3_2, .int .i64 a3_3, .int .i64 a3_4, (.slice A3_5 l3_5.length c3_5)] 29 (0, 0))) ∧ Aside0 (Below w.heap.size w wc))
 case first =>
  have H := HC6.out
  clear HC6
  obtain ⟨y104, hy104⟩ : ∃ y_ : List (S29), y_ = (([(⟨(⟨a2_0, a2_1, a2_2⟩ : S26), a2_3, a2_4, l2_5⟩ : S29), (⟨(⟨a3_0, a3_1, a3_2⟩ : S26), a3_3, a3_4, l3_5⟩ : S29)] : List (S29))) := ⟨_, rfl⟩
  replace H : ((cleanseref20_Few.f k l0 y104 2).bind fun t107 => (if t107 = true then ((cleanseref20_Few.f k l1 ([] : List (S29)) 0).bind fun t108 => (cleanselaw20_MatchLists.j0 k l0 l1 t103 (!t108) a2_0 a2_1 a2_2 a2_3 a2_4 l2_5 a3_0 a3_1 a3_2 a3_3 a3_4 l3_5)) else (cleanselaw20_MatchLists.j0 k l0 l1 t103 true a2_0 a2_1 a2_2 a2_3 a2_4 l2_5 a3_0 a3_1 a3_2 a3_3 a3_4 l3_5))) = some r := by (rw [hy104]; with_reducible exact H)
  have Ny104 := Aside0.mk hy104
  clear hy104
  replace H := Option.bind_eq_some_iff.mp H
  obtain ⟨t107, A100, H⟩ := H
  replace H : (if t107 = true then ((cleanseref20_Few.f k l1 ([] : List (S29)) 0).bind fun t108 => (cleanselaw20_MatchLists.j0 k l0 l1 t103 (!t108) a2_0 a2_1 a2_2 a2_3 a2_4 l2_5 a3_0 a3_1 a3_2 a3_3 a3_4 l3_5)) else (cleanselaw20_MatchLists.j0 k l0 l1 t103 true a2_0 a2_1 a2_2 a2_3 a2_4 l2_5 a3_0 a3_1 a3_2 a3_3 a3_4 l3_5)) = some r := H
  have A10 := Aside0.mk A100
  clear A100
  by_cases c11 : t107 = true
  ·subst c11
   have H1 : ((cleanseref20_Few.f k l1 ([] : List (S29)) 0).bind fun t108 => (cleanselaw20_MatchLists.j0 k l0 l1 t103 (!t108) a2_0 a2_1 a2_2 a2_3 a2_4 l2_5 a3_0 a3_1 a3_2 a3_3 a3_4 l3_5)) = some r := by rw [if_pos rfl] at H; exact H
   clear H
   have H := H1
   clear H1
   replace H := Option.bind_eq_some_iff.mp H
   obtain ⟨t108, A120, H⟩ := H
   replace H : (cleanselaw20_MatchLists.j0 k l0 l1 t103 (!t108) a2_0 a2_1 a2_2 a2_3 a2_4 l2_5 a3_0 a3_1 a3_2 a3_3 a3_4 l3_5) = some r := H
   have A12 := Aside0.mk A120
   clear A120
   have H' := Aside0.mk H
   clear H
   have hnb13 := NB101_102.out
   have hnc13 := NB102_101.out
   have hcz14_0 := cel_ BK101.out 0 rfl
   have hcz14_1 := cel_ BK101.out 1 rfl
   have hcz14_2 := cel_ BK101.out 2 rfl
   have hcz14_3 := cel_ BK101.out 3 rfl
   have hcz14_4 := cel_ BK101.out 4 rfl
   have hcz14_5 := cel_ BK101.out 5 rfl
   have hfz14_0 := blk_frozen BK101.out 0
   have hfz14_1 := blk_frozen BK101.out 1
   have hfz14_2 := blk_frozen BK101.out 2
   have hfz14_3 := blk_frozen BK101.out 3
   have hfz14_4 := blk_frozen BK101.out 4
   have hfz14_5 := blk_frozen BK101.out 5
   have hcz15_0 := cel_ BK102.out 0 rfl
   have hcz15_1 := cel_ BK102.out 1 rfl
   have hcz15_2 := cel_ BK102.out 2 rfl
   have hcz15_3 := cel_ BK102.out 3 rfl
   have hcz15_4 := cel_ BK102.out 4 rfl
   have hcz15_5 := cel_ BK102.out 5 rfl
   have hfz15_0 := blk_frozen BK102.out 0
   have hfz15_1 := blk_frozen BK102.out 1
   have hfz15_2 := blk_frozen BK102.out 2
   have hfz15_3 := blk_frozen BK102.out 3
   have hfz15_4 := blk_frozen BK102.out 4
   have hfz15_5 := blk_frozen BK102.out 5
   go_wp2_with (first | ((with_reducible refine gate_dst (N := 19) rfl ?_); refine Kd.N_lit k29 _ 29 ?hg (N' := 19) ?hd (xs := ([(⟨(⟨a2_0, a2_1, a2_2⟩ : S26), a2_3, a2_4, l2_5⟩ : S29), (⟨(⟨a3_0, a3_1, a3_2⟩ : S26), a3_3, a3_4, l3_5⟩ : S29)] : List (S29))) (inner := [.int .i64 a2_0, .string a2_1, .string a2_2, .int .i64 a2_3, .int .i64 a2_4, .slice A2_5 l2_5.length c2_5, .int .i64 a3_0, .string a3_1, .string a3_2, .int .i64 a3_3, .int .i64 a3_4, .slice A3_5 l3_5.length c3_5]) (ok := (fun k_ => ((P0_ k_ ∨ P1_ k_ ∨ P2_5_ k_ ∨ P3_5_ k_) ∨ w.heap.size ≤ k_) ∧ k_ ≠ gb101 ∧ k_ ≠ gb102)) (okp := (fun k_ => ((P0_ k_ ∨ P1_ k_ ∨ P2_5_ k_ ∨ P3_5_ k_) ∨ w.heap.size ≤ k_) ∧ k_ ≠ gb101 ∧ k_ ≠ gb102)) ?hr ?hp (fun _ hk => hk) ((show ∀ k_, w9.heap.size ≤ k_ → (fun k_ => ((P0_ k_ ∨ P1_ k_ ∨ P2_5_ k_ ∨ P3_5_ k_) ∨ w.heap.size ≤ k_) ∧ k_ ≠ gb101 ∧ k_ ≠ gb102) k_ from fun k_ hk => ⟨(.inr (Nat.le_trans (below_size HB.out) hk)), Kd.freshB (by exact BK101.out) k_ hk, Kd.freshB (by exact BK102.out) k_ hk⟩) _ (Nat.le_refl _)) (Below.refl _ _) (Nat.le_refl _) (by simp) ?_; (case hd => rfl); (case hg => rfl); (case hr => (go_simp; done)); (case hp => exact (Reps.c6 (show Kd.FK k29 _ _ (⟨(⟨a2_0, a2_1, a2_2⟩ : S26), a2_3, a2_4, l2_5⟩ : S29) [.int .i64 a2_0, .string a2_1, .string a2_2, .int .i64 a2_3, .int .i64 a2_4, .slice A2_5 l2_5.length c2_5] from (k29_mkF _ _ (⟨(⟨a2_0, a2_1, a2_2⟩ : S26), a2_3, a2_4, l2_5⟩ : S29) (Kd.V_reads' (Kd.V_mono (ok' := (fun k_ => ((P0_ k_ ∨ P1_ k_ ∨ P2_5_ k_ ∨ P3_5_ k_) ∨ w.heap.size ≤ k_) ∧ k_ ≠ gb101 ∧ k_ ≠ gb102)) (HO2_5.out) (fun k_ hk => ⟨hk.1.1, ⟨hk.1.2, hk.2⟩⟩))).2.1 (Kd.V_F (Kd.V_mono (ok' := (fun k_ => ((P0_ k_ ∨ P1_ k_ ∨ P2_5_ k_ ∨ P3_5_ k_) ∨ w.heap.size ≤ k_) ∧ k_ ≠ gb101 ∧ k_ ≠ gb102)) (HO2_5.out) (fun k_ hk => ⟨hk.1.1, ⟨hk.1.2, hk.2⟩⟩))))) (Reps.c6 (show Kd.FK k29 _ _ (⟨(⟨a3_0, a3_1, a3_2⟩ : S26), a3_3, a3_4, l3_5⟩ : S29) [.int .i64 a3_0, .string a3_1, .string a3_2, .int .i64 a3_3, .int .i64 a3_4, .slice A3_5 l3_5.length c3_5] from (k29_mkF _ _ (⟨(⟨a3_0, a3_1, a3_2⟩ : S26), a3_3, a3_4, l3_5⟩ : S29) (Kd.V_reads' (Kd.V_mono (ok' := (fun k_ => ((P0_ k_ ∨ P1_ k_ ∨ P2_5_ k_ ∨ P3_5_ k_) ∨ w.heap.size ≤ k_) ∧ k_ ≠ gb101 ∧ k_ ≠ gb102)) (HO3_5.out) (fun k_ hk => ⟨hk.1.1, ⟨hk.1.2, hk.2⟩⟩))).2.1 (Kd.V_F (Kd.V_mono (ok' := (fun k_ => ((P0_ k_ ∨ P1_ k_ ∨ P2_5_ k_ ∨ P3_5_ k_) ∨ w.heap.size ≤ k_) ∧ k_ ≠ gb101 ∧ k_ ≠ gb102)) (HO3_5.out) (fun k_ hk => ⟨hk.1.1, ⟨hk.1.2, hk.2⟩⟩))))) (Reps.none _ _)))); intro v105 w16 ho17 hb hg_ hnew_; clear hg_ hnew_; ((rw [← Ny104.out] at ho17)); have n0_ := Aside0.mk (Kd.V_elder' (by exact HO0.out) (Kd.N_base ho17) hb); have n1_ := Aside0.mk (Kd.V_elder' (by exact HO1.out) (Kd.N_base ho17) hb); have n2_ := Aside0.mk (Kd.V_elder' (by exact HO2_5.out) (Kd.N_base ho17) hb); have n3_ := Aside0.mk (Kd.V_elder' (by exact HO3_5.out) (Kd.N_base ho17) hb); have n4_ := Aside0.mk (Kd.N_lower ho17 (below_size HB.out)); have n5_ := Aside0.mk (blk_below (by exact BK101.out) hb); have n6_ := Aside0.mk (blk_below (by exact BK102.out) hb); have n7_ := Aside0.mk (below_step HB.out hb); clear HO0; clear HO1; clear HO2_5; clear HO3_5; clear BK101; clear BK102; clear HB; have HO0 := n0_; have HO1 := n1_; have HO2_5 := n2_; have HO3_5 := n3_; have HO106 := n4_; have BK101 := n5_; have BK102 := n6_; have HB := n7_; clear n0_ n1_ n2_ n3_ n4_ n5_ n6_ n7_; clear hb ho17; obtain ⟨Ao18, co18, eo18⟩ := Kd.N_slice HO106.out; subst eo18) | ((with_reducible refine gate_callee (f := 10) rfl ?_); refine goesL_ (some 20) rfl rfl Tryd.func10 (by kernel_rfl) rfl #[.slice A0 l0.length c0, .slice Ao18 y104.length co18, .int .i64 2] rfl (by (try simp only [List.map_toArray, List.map_cons, List.map_nil]); rfl) ?_; (with_reducible refine (cleanseref20_Few.calls k _ _ l0 _ _ y104 2 true _ ?side1 ?side2 ?side3 ?side4 A10.out).mono ?_); (case side1 => repeat ((exact (Kd.V_reads' HO0.out).2.2))); (case side2 => exact (Kd.V_reads' HO0.out).2.1); (case side3 => repeat ((exact (Kd.N_reads' HO106.out).2.2))); (case side4 => exact (Kd.N_reads' HO106.out).2.1); rintro e w' ⟨rfl, ⟨nd, rfl⟩⟩; refine ⟨_, rfl, ?_⟩) | (go_at_call 10; (refine (cleanseref20_Few.calls k _ _ l1 _ _ ([] : List (S29)) 0 t108 _ ?side1 ?side2 ?side3 ?side4 A12.out).mono ?_); (case side1 => repeat ((exact (Kd.V_reads' HO1.out).2.2))); (case side2 => exact (Kd.V_reads' HO1.out).2.1); (case side3 => exact Kd.C_nil _ _); (case side4 => exact Nat.le_refl _); rintro e w' ⟨rfl, ⟨nd, rfl⟩⟩))
   go_meet
   case rel => exact ⟨_, (!t108), (by rfl), H', ⟨by omega⟩, ⟨by (with_reducible repeat ((apply Kd.V_drewN))); exact Kd.V_mono HO0.out (fun _ hk => ⟨hk.1.1.1, ⟨hk.1.1.2, hk.1.2⟩⟩)⟩, ⟨by (with_reducible repeat ((apply Kd.V_drewN))); exact Kd.V_mono HO1.out (fun _ hk => ⟨hk.1.1.1, ⟨hk.1.1.2, hk.1.2⟩⟩)⟩, ⟨by (with_reducible repeat ((apply Kd.V_drewN))); exact Kd.V_mono HO2_5.out (fun _ hk => ⟨hk.1.1.1, ⟨hk.1.1.2, hk.1.2⟩⟩)⟩, ⟨by (with_reducible repeat ((apply Kd.V_drewN))); exact Kd.V_mono HO3_5.out (fun _ hk => ⟨hk.1.1.1, ⟨hk.1.1.2, hk.1.2⟩⟩)⟩, ⟨by (with_reducible repeat ((refine blk_drewN ?_ _))); exact BK101.out⟩, ⟨by (with_reducible repeat ((refine blk_drewN ?_ _))); exact BK102.out⟩, ⟨by repeat ((with_reducible first | exact HB.out | apply pw_below_drewN))⟩⟩
  replace c11 := Bool.eq_false_iff.mpr c11
  subst c11
  have H1 : (cleanselaw20_MatchLists.j0 k l0 l1 t103 true a2_0 a2_1 a2_2 a2_3 a2_4 l2_5 a3_0 a3_1 a3_2 a3_3 a3_4 l3_5) = some r := by rw [if_neg (show ¬ (false = true) by decide)] at H; exact H
  clear H
  have H := H1
  clear H1
  have H' := Aside0.mk H
  clear H
  have hnb19 := NB101_102.out
  have hnc19 := NB102_101.out
  have hcz20_0 := cel_ BK101.out 0 rfl
  have hcz20_1 := cel_ BK101.out 1 rfl
  have hcz20_2 := cel_ BK101.out 2 rfl
  have hcz20_3 := cel_ BK101.out 3 rfl
  have hcz20_4 := cel_ BK101.out 4 rfl
  have hcz20_5 := cel_ BK101.out 5 rfl
  have hfz20_0 := blk_frozen BK101.out 0
  have hfz20_1 := blk_frozen BK101.out 1
  have hfz20_2 := blk_frozen BK101.out 2
  have hfz20_3 := blk_frozen BK101.out 3
  have hfz20_4 := blk_frozen BK101.out 4
  have hfz20_5 := blk_frozen BK101.out 5
  have hcz21_0 := cel_ BK102.out 0 rfl
  have hcz21_1 := cel_ BK102.out 1 rfl
  have hcz21_2 := cel_ BK102.out 2 rfl
  have hcz21_3 := cel_ BK102.out 3 rfl
  have hcz21_4 := cel_ BK102.out 4 rfl
  have hcz21_5 := cel_ BK102.out 5 rfl
  have hfz21_0 := blk_frozen BK102.out 0
  have hfz21_1 := blk_frozen BK102.out 1
  have hfz21_2 := blk_frozen BK102.out 2
  have hfz21_3 := blk_frozen BK102.out 3
  have hfz21_4 := blk_frozen BK102.out 4
  have hfz21_5 := blk_frozen BK102.out 5
  go_wp2_with (first | ((with_reducible refine gate_dst (N := 19) rfl ?_); refine Kd.N_lit k29 _ 29 ?hg (N' := 19) ?hd (xs := ([(⟨(⟨a2_0, a2_1, a2_2⟩ : S26), a2_3, a2_4, l2_5⟩ : S29), (⟨(⟨a3_0, a3_1, a3_2⟩ : S26), a3_3, a3_4, l3_5⟩ : S29)] : List (S29))) (inner := [.int .i64 a2_0, .string a2_1, .string a2_2, .int .i64 a2_3, .int .i64 a2_4, .slice A2_5 l2_5.length c2_5, .int .i64 a3_0, .string a3_1, .string a3_2, .int .i64 a3_3, .int .i64 a3_4, .slice A3_5 l3_5.length c3_5]) (ok := (fun k_ => ((P0_ k_ ∨ P1_ k_ ∨ P2_5_ k_ ∨ P3_5_ k_) ∨ w.heap.size ≤ k_) ∧ k_ ≠ gb101 ∧ k_ ≠ gb102)) (okp := (fun k_ => ((P0_ k_ ∨ P1_ k_ ∨ P2_5_ k_ ∨ P3_5_ k_) ∨ w.heap.size ≤ k_) ∧ k_ ≠ gb101 ∧ k_ ≠ gb102)) ?hr ?hp (fun _ hk => hk) ((show ∀ k_, w9.heap.size ≤ k_ → (fun k_ => ((P0_ k_ ∨ P1_ k_ ∨ P2_5_ k_ ∨ P3_5_ k_) ∨ w.heap.size ≤ k_) ∧ k_ ≠ gb101 ∧ k_ ≠ gb102) k_ from fun k_ hk => ⟨(.inr (Nat.le_trans (below_size HB.out) hk)), Kd.freshB (by exact BK101.out) k_ hk, Kd.freshB (by exact BK102.out) k_ hk⟩) _ (Nat.le_refl _)) (Below.refl _ _) (Nat.le_refl _) (by simp) ?_; (case hd => rfl); (case hg => rfl); (case hr => (go_simp; done)); (case hp => exact (Reps.c6 (show Kd.FK k29 _ _ (⟨(⟨a2_0, a2_1, a2_2⟩ : S26), a2_3, a2_4, l2_5⟩ : S29) [.int .i64 a2_0, .string a2_1, .string a2_2, .int .i64 a2_3, .int .i64 a2_4, .slice A2_5 l2_5.length c2_5] from (k29_mkF _ _ (⟨(⟨a2_0, a2_1, a2_2⟩ : S26), a2_3, a2_4, l2_5⟩ : S29) (Kd.V_reads' (Kd.V_mono (ok' := (fun k_ => ((P0_ k_ ∨ P1_ k_ ∨ P2_5_ k_ ∨ P3_5_ k_) ∨ w.heap.size ≤ k_) ∧ k_ ≠ gb101 ∧ k_ ≠ gb102)) (HO2_5.out) (fun k_ hk => ⟨hk.1.1, ⟨hk.1.2, hk.2⟩⟩))).2.1 (Kd.V_F (Kd.V_mono (ok' := (fun k_ => ((P0_ k_ ∨ P1_ k_ ∨ P2_5_ k_ ∨ P3_5_ k_) ∨ w.heap.size ≤ k_) ∧ k_ ≠ gb101 ∧ k_ ≠ gb102)) (HO2_5.out) (fun k_ hk => ⟨hk.1.1, ⟨hk.1.2, hk.2⟩⟩))))) (Reps.c6 (show Kd.FK k29 _ _ (⟨(⟨a3_0, a3_1, a3_2⟩ : S26), a3_3, a3_4, l3_5⟩ : S29) [.int .i64 a3_0, .string a3_1, .string a3_2, .int .i64 a3_3, .int .i64 a3_4, .slice A3_5 l3_5.length c3_5] from (k29_mkF _ _ (⟨(⟨a3_0, a3_1, a3_2⟩ : S26), a3_3, a3_4, l3_5⟩ : S29) (Kd.V_reads' (Kd.V_mono (ok' := (fun k_ => ((P0_ k_ ∨ P1_ k_ ∨ P2_5_ k_ ∨ P3_5_ k_) ∨ w.heap.size ≤ k_) ∧ k_ ≠ gb101 ∧ k_ ≠ gb102)) (HO3_5.out) (fun k_ hk => ⟨hk.1.1, ⟨hk.1.2, hk.2⟩⟩))).2.1 (Kd.V_F (Kd.V_mono (ok' := (fun k_ => ((P0_ k_ ∨ P1_ k_ ∨ P2_5_ k_ ∨ P3_5_ k_) ∨ w.heap.size ≤ k_) ∧ k_ ≠ gb101 ∧ k_ ≠ gb102)) (HO3_5.out) (fun k_ hk => ⟨hk.1.1, ⟨hk.1.2, hk.2⟩⟩))))) (Reps.none _ _)))); intro v105 w22 ho23 hb hg_ hnew_; clear hg_ hnew_; ((rw [← Ny104.out] at ho23)); have n0_ := Aside0.mk (Kd.V_elder' (by exact HO0.out) (Kd.N_base ho23) hb); have n1_ := Aside0.mk (Kd.V_elder' (by exact HO1.out) (Kd.N_base ho23) hb); have n2_ := Aside0.mk (Kd.V_elder' (by exact HO2_5.out) (Kd.N_base ho23) hb); have n3_ := Aside0.mk (Kd.V_elder' (by exact HO3_5.out) (Kd.N_base ho23) hb); have n4_ := Aside0.mk (Kd.N_lower ho23 (below_size HB.out)); have n5_ := Aside0.mk (blk_below (by exact BK101.out) hb); have n6_ := Aside0.mk (blk_below (by exact BK102.out) hb); have n7_ := Aside0.mk (below_step HB.out hb); clear HO0; clear HO1; clear HO2_5; clear HO3_5; clear BK101; clear BK102; clear HB; have HO0 := n0_; have HO1 := n1_; have HO2_5 := n2_; have HO3_5 := n3_; have HO106 := n4_; have BK101 := n5_; have BK102 := n6_; have HB := n7_; clear n0_ n1_ n2_ n3_ n4_ n5_ n6_ n7_; clear hb ho23; obtain ⟨Ao24, co24, eo24⟩ := Kd.N_slice HO106.out; subst eo24) | ((with_reducible refine gate_callee (f := 10) rfl ?_); refine goesL_ (some 20) rfl rfl Tryd.func10 (by kernel_rfl) rfl #[.slice A0 l0.length c0, .slice Ao24 y104.length co24, .int .i64 2] rfl (by (try simp only [List.map_toArray, List.map_cons, List.map_nil]); rfl) ?_; (with_reducible refine (cleanseref20_Few.calls k _ _ l0 _ _ y104 2 false _ ?side1 ?side2 ?side3 ?side4 A10.out).mono ?_); (case side1 => repeat ((exact (Kd.V_reads' HO0.out).2.2))); (case side2 => exact (Kd.V_reads' HO0.out).2.1); (case side3 => repeat ((exact (Kd.N_reads' HO106.out).2.2))); (case side4 => exact (Kd.N_reads' HO106.out).2.1); rintro e w' ⟨rfl, ⟨nd, rfl⟩⟩; refine ⟨_, rfl, ?_⟩))
  go_meet
  case rel => exact ⟨_, (true), (by rfl), H', ⟨by omega⟩, ⟨by (with_reducible repeat ((apply Kd.V_drewN))); exact Kd.V_mono HO0.out (fun _ hk => ⟨hk.1.1.1, ⟨hk.1.1.2, hk.1.2⟩⟩)⟩, ⟨by (with_reducible repeat ((apply Kd.V_drewN))); exact Kd.V_mono HO1.out (fun _ hk => ⟨hk.1.1.1, ⟨hk.1.1.2, hk.1.2⟩⟩)⟩, ⟨by (with_reducible repeat ((apply Kd.V_drewN))); exact Kd.V_mono HO2_5.out (fun _ hk => ⟨hk.1.1.1, ⟨hk.1.1.2, hk.1.2⟩⟩)⟩, ⟨by (with_reducible repeat ((apply Kd.V_drewN))); exact Kd.V_mono HO3_5.out (fun _ hk => ⟨hk.1.1.1, ⟨hk.1.1.2, hk.1.2⟩⟩)⟩, ⟨by (with_reducible repeat ((refine blk_drewN ?_ _))); exact BK101.out⟩, ⟨by (with_reducible repeat ((refine blk_drewN ?_ _))); exact BK102.out⟩, ⟨by repeat ((with_reducible first | exact HB.out | apply pw_below_drewN))⟩⟩
 clear HC6
 obtain ⟨kq, x26_5, rfl, HA, HJ5, HO_0, HO_1, HO_102005, HO_103005, BK101, BK102, HB⟩ := hcut
 cases kq with
 | zero => exact absurd HA.out (by simp [cleanselaw20_MatchLists.j0])
 | succ kj5 =>
  have H := HA.out
  clear HA
  simp only [cleanselaw20_MatchLists.j0] at H
  by_cases c25 : x26_5 = true
  ·subst c25
   have H1 : (some t103) = some r := by rw [if_pos rfl] at H; exact H
   clear H
   have H := H1
   clear H1
   obtain rfl := Option.some.inj H
   go_wp2
   go_ret
   exact ⟨by rfl, by repeat ((with_reducible (exact HB.out)))⟩
  replace c25 := Bool.eq_false_iff.mpr c25
  subst c25
  have H1 : ((some (([] : List (S24)) : List (S24))).bind fun y109 => (if y109.length + l0.length < 2513169434916 then ((some (y109 ++ l0 : List (S24))).bind fun y112 => (if y112.length + l1.length < 2513169434916 then (cleanselaw20_MatchLists.l0 kj5 l0 l1 t103 (y112 ++ l1) ([] : List (S24)) ([] : List (S24)) 0 a2_0 a2_1 a2_2 a2_3 a2_4 l2_5 a3_0 a3_1 a3_2 a3_3 a3_4 l3_5) else (none))) else (none))) = some r := by rw [if_neg (show ¬ (false = true) by decide)] at H; exact H
  clear H
  have H := H1
  clear H1
  obtain ⟨y109, hy109⟩ : ∃ y_ : List (S24), y_ = (([] : List (S24))) := ⟨_, rfl⟩
  replace H : (if y109.length + l0.length < 2513169434916 then ((some (y109 ++ l0 : List (S24))).bind fun y112 => (if y112.length + l1.length < 2513169434916 then (cleanselaw20_MatchLists.l0 kj5 l0 l1 t103 (y112 ++ l1) ([] : List (S24)) ([] : List (S24)) 0 a2_0 a2_1 a2_2 a2_3 a2_4 l2_5 a3_0 a3_1 a3_2 a3_3 a3_4 l3_5) else (none))) else (none)) = some r := by (have H2_ := (Option.bind_some _ _).symm.trans H; rw [hy109]; with_reducible exact H2_)
  have Ny109 := Aside0.mk hy109
  clear hy109
  by_cases c26 : y109.length + l0.length < 2513169434916
  ·rw [if_pos c26] at H
   have LMc26 := Aside0.mk c26
   clear c26
   obtain ⟨y112, hy112⟩ : ∃ y_ : List (S24), y_ = (y109 ++ l0) := ⟨_, rfl⟩
   replace H : (if y112.length + l1.length < 2513169434916 then (cleanselaw20_MatchLists.l0 kj5 l0 l1 t103 (y112 ++ l1) ([] : List (S24)) ([] : List (S24)) 0 a2_0 a2_1 a2_2 a2_3 a2_4 l2_5 a3_0 a3_1 a3_2 a3_3 a3_4 l3_5) else (none)) = some r := by (have H2_ := (Option.bind_some _ _).symm.trans H; rw [hy112]; with_reducible exact H2_)
   have Ny112 := Aside0.mk hy112
   clear hy112
   by_cases c27 : y112.length + l1.length < 2513169434916
   ·rw [if_pos c27] at H
    have LMc27 := Aside0.mk c27
    clear c27
    obtain ⟨y115, hy115⟩ : ∃ y_ : List (S24), y_ = (y112 ++ l1) := ⟨_, rfl⟩
    replace H : (cleanselaw20_MatchLists.l0 kj5 l0 l1 t103 y115 ([] : List (S24)) ([] : List (S24)) 0 a2_0 a2_1 a2_2 a2_3 a2_4 l2_5 a3_0 a3_1 a3_2 a3_3 a3_4 l3_5) = some r := by (rw [hy115]; with_reducible exact H)
    have Ny115 := Aside0.mk hy115
    clear hy115
    have H' := Aside0.mk H
    clear H
    go_wp2_with (first | ((with_reducible refine gate_dst (N := 28) rfl ?_); refine Kd.N_lit k24 _ 24 ?hg (N' := 28) ?hd (xs := ([] : List (S24))) (inner := []) (ok := (fun k_ => ((P0_ k_ ∨ P1_ k_ ∨ P2_5_ k_ ∨ P3_5_ k_) ∨ w.heap.size ≤ k_) ∧ k_ ≠ gb101 ∧ k_ ≠ gb102)) (okp := (fun k_ => ((P0_ k_ ∨ P1_ k_ ∨ P2_5_ k_ ∨ P3_5_ k_) ∨ w.heap.size ≤ k_) ∧ k_ ≠ gb101 ∧ k_ ≠ gb102)) ?hr ?hp (fun _ hk => hk) ((show ∀ k_, wc.heap.size ≤ k_ → (fun k_ => ((P0_ k_ ∨ P1_ k_ ∨ P2_5_ k_ ∨ P3_5_ k_) ∨ w.heap.size ≤ k_) ∧ k_ ≠ gb101 ∧ k_ ≠ gb102) k_ from fun k_ hk => ⟨(.inr (Nat.le_trans (below_size HB.out) hk)), Kd.freshB (by exact BK101.out) k_ hk, Kd.freshB (by exact BK102.out) k_ hk⟩) _ (Nat.le_refl _)) (Below.refl _ _) (Nat.le_refl _) (by simp) ?_; (case hd => rfl); (case hg => rfl); (case hr => (go_simp; done)); (case hp => exact (Reps.none _ _)); intro v110 w28 ho29 hb hg_ hnew_; clear hg_ hnew_; ((rw [← Ny109.out] at ho29)); have n0_ := Aside0.mk (Kd.V_elder' (by exact HO_0.out) (Kd.N_base ho29) hb); have n1_ := Aside0.mk (Kd.V_elder' (by exact HO_1.out) (Kd.N_base ho29) hb); have n2_ := Aside0.mk (Kd.V_elder' (by exact HO_102005.out) (Kd.N_base ho29) hb); have n3_ := Aside0.mk (Kd.V_elder' (by exact HO_103005.out) (Kd.N_base ho29) hb); have n4_ := Aside0.mk (Kd.N_lower ho29 (below_size HB.out)); have n5_ := Aside0.mk (blk_below (by exact BK101.out) hb); have n6_ := Aside0.mk (blk_below (by exact BK102.out) hb); have n7_ := Aside0.mk (below_step HB.out hb); clear HO_0; clear HO_1; clear HO_102005; clear HO_103005; clear BK101; clear BK102; clear HB; have HO_0 := n0_; have HO_1 := n1_; have HO_102005 := n2_; have HO_103005 := n3_; have HO111 := n4_; have BK101 := n5_; have BK102 := n6_; have HB := n7_; clear n0_ n1_ n2_ n3_ n4_ n5_ n6_ n7_; clear hb ho29) | ((with_reducible refine gate_builtin (b := .append) (xs := #[.tmp 28, .tmp 29]) rfl ?_); at_builtin; refine Kd.N_append_rows k24 (w0 := w) w.heap.size rfl (.tmp 28) (.tmp 29) 31 24 (.agg #[(.string ⟨#[]⟩), (.int .i64 0), (.int .i64 0), (.slice none 0 0)]) 56 rfl Tryd.underlying31 info24 rfl (by decide) (by omega) v110 y109 l0 _ _ _ (fun k_ => ((P0_ k_ ∨ P1_ k_ ∨ P2_5_ k_ ∨ P3_5_ k_) ∨ w.heap.size ≤ k_) ∧ k_ ≠ gb101 ∧ k_ ≠ gb102) (fun k_ => ((fun k_ => ((P0_ k_ ∨ P1_ k_ ∨ P2_5_ k_ ∨ P3_5_ k_) ∨ w.heap.size ≤ k_) ∧ k_ ≠ gb101 ∧ k_ ≠ gb102)) k_ ∧ some k_ ≠ (v110 : Value).ownBlock) rfl rfl ?aO ?aR (fun _ hk => hk) ?aF ?aB ?aS ?aL ?_; (case aR => exact (by exact Kd.V_F (Kd.V_mono (ok' := (fun k_ => ((fun k_ => ((P0_ k_ ∨ P1_ k_ ∨ P2_5_ k_ ∨ P3_5_ k_) ∨ w.heap.size ≤ k_) ∧ k_ ≠ gb101 ∧ k_ ≠ gb102)) k_ ∧ some k_ ≠ (v110 : Value).ownBlock)) (HO_0.out) (fun k_ hk => ⟨⟨hk.1.1, ⟨hk.1.2.1, hk.1.2.2⟩⟩, hk.2⟩)))); (case aB => exact HB.out); (case aF => exact (fun k_ hk => ⟨(.inr (Nat.le_trans (below_size HB.out) hk)), Kd.freshB (by exact BK101.out) k_ hk, Kd.freshB (by exact BK102.out) k_ hk⟩)); (case aO => exact (by exact HO111.out)); (case aS => exact (below_size HB.out)); (case aL => have := LMc26.out; omega); intro v113 w30 ho hb hg hat; rw [← Ny112.out] at ho; have n0_ := Aside0.mk (Kd.V_afterv (ok := (fun k_ => ((P0_ k_ ∨ P1_ k_ ∨ P2_5_ k_ ∨ P3_5_ k_) ∨ w.heap.size ≤ k_) ∧ k_ ≠ gb101 ∧ k_ ≠ gb102)) (by exact HO_0.out) hg hat); have n1_ := Aside0.mk (Kd.V_afterv (ok := (fun k_ => ((P0_ k_ ∨ P1_ k_ ∨ P2_5_ k_ ∨ P3_5_ k_) ∨ w.heap.size ≤ k_) ∧ k_ ≠ gb101 ∧ k_ ≠ gb102)) (by exact HO_1.out) hg hat); have n2_ := Aside0.mk (Kd.V_afterv (ok := (fun k_ => ((P0_ k_ ∨ P1_ k_ ∨ P2_5_ k_ ∨ P3_5_ k_) ∨ w.heap.size ≤ k_) ∧ k_ ≠ gb101 ∧ k_ ≠ gb102)) (by exact HO_102005.out) hg hat); have n3_ := Aside0.mk (Kd.V_afterv (ok := (fun k_ => ((P0_ k_ ∨ P1_ k_ ∨ P2_5_ k_ ∨ P3_5_ k_) ∨ w.heap.size ≤ k_) ∧ k_ ≠ gb101 ∧ k_ ≠ gb102)) (by exact HO_103005.out) hg hat); have n4_ := Aside0.mk (blk_grown (by exact BK101.out) hg (Kd.N_ne HO111.out BK101.out (by decide))); have n5_ := Aside0.mk (blk_grown (by exact BK102.out) hg (Kd.N_ne HO111.out BK102.out (by decide))); have n6_ := Aside0.mk (hb); have n7_ := Aside0.mk (ho); clear HO_0; clear HO_1; clear HO_102005; clear HO_103005; clear BK101; clear BK102; clear HB; clear HO111; have HO_0 := n0_; have HO_1 := n1_; have HO_102005 := n2_; have HO_103005 := n3_; have BK101 := n4_; have BK102 := n5_; have HB := n6_; have HO114 := n7_; clear n0_ n1_ n2_ n3_ n4_ n5_ n6_ n7_; clear ho hb hg hat) | ((with_reducible refine gate_builtin (b := .append) (xs := #[.tmp 30, .tmp 31]) rfl ?_); at_builtin; refine Kd.N_append_rows k24 (w0 := w) w.heap.size rfl (.tmp 30) (.tmp 31) 31 24 (.agg #[(.string ⟨#[]⟩), (.int .i64 0), (.int .i64 0), (.slice none 0 0)]) 56 rfl Tryd.underlying31 info24 rfl (by decide) (by omega) v113 y112 l1 _ _ _ (fun k_ => ((P0_ k_ ∨ P1_ k_ ∨ P2_5_ k_ ∨ P3_5_ k_) ∨ w.heap.size ≤ k_) ∧ k_ ≠ gb101 ∧ k_ ≠ gb102) (fun k_ => ((fun k_ => ((P0_ k_ ∨ P1_ k_ ∨ P2_5_ k_ ∨ P3_5_ k_) ∨ w.heap.size ≤ k_) ∧ k_ ≠ gb101 ∧ k_ ≠ gb102)) k_ ∧ some k_ ≠ (v113 : Value).ownBlock) rfl rfl ?aO ?aR (fun _ hk => hk) ?aF ?aB ?aS ?aL ?_; (case aR => exact (by exact Kd.V_F (Kd.V_mono (ok' := (fun k_ => ((fun k_ => ((P0_ k_ ∨ P1_ k_ ∨ P2_5_ k_ ∨ P3_5_ k_) ∨ w.heap.size ≤ k_) ∧ k_ ≠ gb101 ∧ k_ ≠ gb102)) k_ ∧ some k_ ≠ (v113 : Value).ownBlock)) (HO_1.out) (fun k_ hk => ⟨⟨hk.1.1, ⟨hk.1.2.1, hk.1.2.2⟩⟩, hk.2⟩)))); (case aB => exact HB.out); (case aF => exact (fun k_ hk => ⟨(.inr (Nat.le_trans (below_size HB.out) hk)), Kd.freshB (by exact BK101.out) k_ hk, Kd.freshB (by exact BK102.out) k_ hk⟩)); (case aO => exact (by exact HO114.out)); (case aS => exact (below_size HB.out)); (case aL => have := LMc27.out; omega); intro v116 w31 ho hb hg hat; rw [← Ny115.out] at ho; have n0_ := Aside0.mk (Kd.V_afterv (ok := (fun k_ => ((P0_ k_ ∨ P1_ k_ ∨ P2_5_ k_ ∨ P3_5_ k_) ∨ w.heap.size ≤ k_) ∧ k_ ≠ gb101 ∧ k_ ≠ gb102)) (by exact HO_0.out) hg hat); have n1_ := Aside0.mk (Kd.V_afterv (ok := (fun k_ => ((P0_ k_ ∨ P1_ k_ ∨ P2_5_ k_ ∨ P3_5_ k_) ∨ w.heap.size ≤ k_) ∧ k_ ≠ gb101 ∧ k_ ≠ gb102)) (by exact HO_1.out) hg hat); have n2_ := Aside0.mk (Kd.V_afterv (ok := (fun k_ => ((P0_ k_ ∨ P1_ k_ ∨ P2_5_ k_ ∨ P3_5_ k_) ∨ w.heap.size ≤ k_) ∧ k_ ≠ gb101 ∧ k_ ≠ gb102)) (by exact HO_102005.out) hg hat); have n3_ := Aside0.mk (Kd.V_afterv (ok := (fun k_ => ((P0_ k_ ∨ P1_ k_ ∨ P2_5_ k_ ∨ P3_5_ k_) ∨ w.heap.size ≤ k_) ∧ k_ ≠ gb101 ∧ k_ ≠ gb102)) (by exact HO_103005.out) hg hat); have n4_ := Aside0.mk (blk_grown (by exact BK101.out) hg (Kd.N_ne HO114.out BK101.out (by decide))); have n5_ := Aside0.mk (blk_grown (by exact BK102.out) hg (Kd.N_ne HO114.out BK102.out (by decide))); have n6_ := Aside0.mk (hb); have n7_ := Aside0.mk (ho); clear HO_0; clear HO_1; clear HO_102005; clear HO_103005; clear BK101; clear BK102; clear HB; clear HO114; have HO_0 := n0_; have HO_1 := n1_; have HO_102005 := n2_; have HO_103005 := n3_; have BK101 := n4_; have BK102 := n5_; have HB := n6_; have HO117 := n7_; clear n0_ n1_ n2_ n3_ n4_ n5_ n6_ n7_; clear ho hb hg hat))
    go_loopg [11, 12, 13] kj5 (fun kq v11 v12 v13 w' => ∃ (x11_2 : List (S24)) (x12_2 : List (S24)) (x13_2 : Int), v13 = .int .i64 x13_2 ∧ Aside0 (cleanselaw20_MatchLists.l0 kq l0 l1 t103 y115 x11_2 x12_2 x13_2 a2_0 a2_1 a2_2 a2_3 a2_4 l2_5 a3_0 a3_1 a3_2 a3_3 a3_4 l3_5 = some r) ∧ Aside0 (kq ≤ kj5) ∧ Aside0 (Kd.V k24 24 w' w.heap.size (fun k_ => ((P0_ k_ ∨ P1_ k_ ∨ P2_5_ k_ ∨ P3_5_ k_) ∨ w.heap.size ≤ k_) ∧ some k_ ≠ (v116 : Value).ownBlock ∧ some k_ ≠ (v11 : Value).ownBlock ∧ some k_ ≠ (v12 : Value).ownBlock ∧ k_ ≠ gb101 ∧ k_ ≠ gb102) (.slice A0 l0.length c0) l0) ∧ Aside0 (Kd.V k24 24 w' w.heap.size (fun k_ => ((P0_ k_ ∨ P1_ k_ ∨ P2_5_ k_ ∨ P3_5_ k_) ∨ w.heap.size ≤ k_) ∧ some k_ ≠ (v116 : Value).ownBlock ∧ some k_ ≠ (v11 : Value).ownBlock ∧ some k_ ≠ (v12 : Value).ownBlock ∧ k_ ≠ gb101 ∧ k_ ≠ gb102) (.slice A1 l1.length c1) l1) ∧ Aside0 (Kd.N k24 24 w' w.heap.size (fun k_ => ((P0_ k_ ∨ P1_ k_ ∨ P2_5_ k_ ∨ P3_5_ k_) ∨ w.heap.size ≤ k_) ∧ some k_ ≠ (v11 : Value).ownBlock ∧ some k_ ≠ (v12 : Value).ownBlock ∧ k_ ≠ gb101 ∧ k_ ≠ gb102) v116 y115) ∧ Aside0 (Kd.N k24 24 w' w.heap.size (fun k_ => ((P0_ k_ ∨ P1_ k_ ∨ P2_5_ k_ ∨ P3_5_ k_) ∨ w.heap.size ≤ k_) ∧ some k_ ≠ (v116 : Value).ownBlock ∧ some k_ ≠ (v12 : Value).ownBlock ∧ k_ ≠ gb101 ∧ k_ ≠ gb102) v11 x11_2) ∧ Aside0 (Kd.N k24 24 w' w.heap.size (fun k_ => ((P0_ k_ ∨ P1_ k_ ∨ P2_5_ k_ ∨ P3_5_ k_) ∨ w.heap.size ≤ k_) ∧ some k_ ≠ (v116 : Value).ownBlock ∧ some k_ ≠ (v11 : Value).ownBlock ∧ k_ ≠ gb101 ∧ k_ ≠ gb102) v12 x12_2) ∧ Aside0 (Kd.V k50 50 w' w.heap.size (fun k_ => ((P0_ k_ ∨ P1_ k_ ∨ P2_5_ k_ ∨ P3_5_ k_) ∨ w.heap.size ≤ k_) ∧ some k_ ≠ (v116 : Value).ownBlock ∧ some k_ ≠ (v11 : Value).ownBlock ∧ some k_ ≠ (v12 : Value).ownBlock ∧ k_ ≠ gb101 ∧ k_ ≠ gb102) (.slice A2_5 l2_5.length c2_5) l2_5) ∧ Aside0 (Kd.V k50 50 w' w.heap.size (fun k_ => ((P0_ k_ ∨ P1_ k_ ∨ P2_5_ k_ ∨ P3_5_ k_) ∨ w.heap.size ≤ k_) ∧ some k_ ≠ (v116 : Value).ownBlock ∧ some k_ ≠ (v11 : Value).ownBlock ∧ some k_ ≠ (v12 : Value).ownBlock ∧ k_ ≠ gb101 ∧ k_ ≠ gb102) (.slice A3_5 l3_5.length c3_5) l3_5) ∧ Aside0 (w'.heap[gb101]? = some (.cells #[.int .i64 a2_0, .string a2_1, .string a2_2, .int .i64 a2_3, .int .i64 a2_4, (.slice A2_5 l2_5.length c2_5)] 29 (0, 0))) ∧ Aside0 (w'.heap[gb102]? = some (.cells #[.int .i64 a3_0, .string a3_1, .string a3_2, .int .i64 a3_3, .int .i64 a3_4, (.slice A3_5 l3_5.length c3_5)] 29 (0, 0))) ∧ Aside0 (Below w.heap.size w w'))
    case atStart => exact ⟨(([] : List (S24))), (([] : List (S24))), (0), (by rfl), H', ⟨Nat.le_refl _⟩, ⟨by exact Kd.V_mono HO_0.out (fun _ hk => ⟨hk.1.1, ⟨hk.2, ⟨(by simp [Value.ownBlock]), ⟨(by simp [Value.ownBlock]), ⟨hk.1.2.1, hk.1.2.2⟩⟩⟩⟩⟩)⟩, ⟨by exact Kd.V_mono HO_1.out (fun _ hk => ⟨hk.1.1, ⟨hk.2, ⟨(by simp [Value.ownBlock]), ⟨(by simp [Value.ownBlock]), ⟨hk.1.2.1, hk.1.2.2⟩⟩⟩⟩⟩)⟩, ⟨by exact Kd.N_mono HO117.out (fun _ hk => ⟨hk.1, ⟨(by simp [Value.ownBlock]), ⟨(by simp [Value.ownBlock]), ⟨hk.2.1, hk.2.2⟩⟩⟩⟩)⟩, ⟨by (exact Kd.N_nil _ _ _ _ _)⟩, ⟨by (exact Kd.N_nil _ _ _ _ _)⟩, ⟨by exact Kd.V_mono HO_102005.out (fun _ hk => ⟨hk.1.1, ⟨hk.2, ⟨(by simp [Value.ownBlock]), ⟨(by simp [Value.ownBlock]), ⟨hk.1.2.1, hk.1.2.2⟩⟩⟩⟩⟩)⟩, ⟨by exact Kd.V_mono HO_103005.out (fun _ hk => ⟨hk.1.1, ⟨hk.2, ⟨(by simp [Value.ownBlock]), ⟨(by simp [Value.ownBlock]), ⟨hk.1.2.1, hk.1.2.2⟩⟩⟩⟩⟩)⟩, ⟨by exact BK101.out⟩, ⟨by exact BK102.out⟩, ⟨by repeat ((with_reducible (exact HB.out)))⟩⟩
    clear H'
    obtain ⟨x11_2, x12_2, x13_2, rfl, HA, HK2, HO_0, HO_1, HO_10, HO_11, HO_12, HO_102005, HO_103005, BK101, BK102, HB⟩ := hrel
    cases gk with
    | zero => exact absurd HA.out (by simp [cleanselaw20_MatchLists.l0])
    | succ k2 =>
     have H := HA.out
     clear HA
     simp only [cleanselaw20_MatchLists.l0] at H
     by_cases c32 : x13_2 < (y115.length : Int)
     ·rw [if_pos c32] at H
      have c32b0 : decide (x13_2 < (y115.length : Int)) = true := decide_eq_true c32
      clear c32
      obtain ⟨ji33, hji33⟩ : ∃ j_ : Int, (wrap64 ((wrap64 ((y115.length : Int) - 1)) - x13_2)) = j_ := ⟨_, rfl⟩
      replace H : (if 0 ≤ (ji33) then (if (ji33) < (y115.length : Int) then (if x11_2.length < 2513169434916 then ((some (x11_2 ++ [(⟨(rd_T24 y115 (ji33)).f0, (rd_T24 y115 (ji33)).f1, (rd_T24 y115 (ji33)).f2, (rd_T24 y115 (ji33)).f3⟩ : S24)] : List (S24))).bind fun y119 => (if 0 ≤ x13_2 then ((cleanseref20_About.f k2 ((rd_T24 y115 x13_2).f0) ((rd_T24 y115 x13_2).f1) ((rd_T24 y115 x13_2).f2) ((rd_T24 y115 x13_2).f3) a2_0 a2_1 a2_2 a2_3 a2_4 l2_5 a3_0 a3_1 a3_2 a3_3 a3_4 l3_5).bind fun t123 => (if t123 = true then (if x12_2.length < 2513169434916 then (cleanselaw20_MatchLists.l0 k2 l0 l1 t103 y115 y119 (x12_2 ++ [(⟨(rd_T24 y115 x13_2).f0, (rd_T24 y115 x13_2).f1, (rd_T24 y115 x13_2).f2, (rd_T24 y115 x13_2).f3⟩ : S24)]) (wrap64 (x13_2 + 1)) a2_0 a2_1 a2_2 a2_3 a2_4 l2_5 a3_0 a3_1 a3_2 a3_3 a3_4 l3_5) else (none)) else (cleanselaw20_MatchLists.l0 k2 l0 l1 t103 y115 y119 x12_2 (wrap64 (x13_2 + 1)) a2_0 a2_1 a2_2 a2_3 a2_4 l2_5 a3_0 a3_1 a3_2 a3_3 a3_4 l3_5))) else (none))) else (none)) else (none)) else (none)) = some r := by (rw [hji33] at H; exact H)
      have hji33w : (IntKind.i64.wrap ((wrap64 ((y115.length : Int) - 1)) - x13_2)) = ji33 := (i64_w _).trans hji33
      by_cases c34 : 0 ≤ (ji33)
      ·rw [if_pos c34] at H
       have c34b0 : decide (0 ≤ (ji33)) = true := decide_eq_true c34
       clear c34
       by_cases c35 : (ji33) < (y115.length : Int)
       ·rw [if_pos c35] at H
        have c35b0 : decide ((ji33) < (y115.length : Int)) = true := decide_eq_true c35
        clear c35
        by_cases c36 : x11_2.length < 2513169434916
        ·rw [if_pos c36] at H
         have LMc36 := Aside0.mk c36
         clear c36
         obtain ⟨y119, hy119⟩ : ∃ y_ : List (S24), y_ = (x11_2 ++ [(⟨(rd_T24 y115 (ji33)).f0, (rd_T24 y115 (ji33)).f1, (rd_T24 y115 (ji33)).f2, (rd_T24 y115 (ji33)).f3⟩ : S24)]) := ⟨_, rfl⟩
         replace H : (if 0 ≤ x13_2 then ((cleanseref20_About.f k2 ((rd_T24 y115 x13_2).f0) ((rd_T24 y115 x13_2).f1) ((rd_T24 y115 x13_2).f2) ((rd_T24 y115 x13_2).f3) a2_0 a2_1 a2_2 a2_3 a2_4 l2_5 a3_0 a3_1 a3_2 a3_3 a3_4 l3_5).bind fun t123 => (if t123 = true then (if x12_2.length < 2513169434916 then (cleanselaw20_MatchLists.l0 k2 l0 l1 t103 y115 y119 (x12_2 ++ [(⟨(rd_T24 y115 x13_2).f0, (rd_T24 y115 x13_2).f1, (rd_T24 y115 x13_2).f2, (rd_T24 y115 x13_2).f3⟩ : S24)]) (wrap64 (x13_2 + 1)) a2_0 a2_1 a2_2 a2_3 a2_4 l2_5 a3_0 a3_1 a3_2 a3_3 a3_4 l3_5) else (none)) else (cleanselaw20_MatchLists.l0 k2 l0 l1 t103 y115 y119 x12_2 (wrap64 (x13_2 + 1)) a2_0 a2_1 a2_2 a2_3 a2_4 l2_5 a3_0 a3_1 a3_2 a3_3 a3_4 l3_5))) else (none)) = some r := by (have H2_ := (Option.bind_some _ _).symm.trans H; rw [hy119]; with_reducible exact H2_)
         have Ny119 := Aside0.mk hy119
         clear hy119
         by_cases c37 : 0 ≤ x13_2
         ·rw [if_pos c37] at H
          have c37b0 : decide (0 ≤ x13_2) = true := decide_eq_true c37
          clear c37
          replace H := Option.bind_eq_some_iff.mp H
          obtain ⟨t123, A380, H⟩ := H
          replace H : (if t123 = true then (if x12_2.length < 2513169434916 then (cleanselaw20_MatchLists.l0 k2 l0 l1 t103 y115 y119 (x12_2 ++ [(⟨(rd_T24 y115 x13_2).f0, (rd_T24 y115 x13_2).f1, (rd_T24 y115 x13_2).f2, (rd_T24 y115 x13_2).f3⟩ : S24)]) (wrap64 (x13_2 + 1)) a2_0 a2_1 a2_2 a2_3 a2_4 l2_5 a3_0 a3_1 a3_2 a3_3 a3_4 l3_5) else (none)) else (cleanselaw20_MatchLists.l0 k2 l0 l1 t103 y115 y119 x12_2 (wrap64 (x13_2 + 1)) a2_0 a2_1 a2_2 a2_3 a2_4 l2_5 a3_0 a3_1 a3_2 a3_3 a3_4 l3_5)) = some r := H
          have A38 := Aside0.mk A380
          clear A380
          by_cases c39 : t123 = true
          ·subst c39
           have H1 : (if x12_2.length < 2513169434916 then (cleanselaw20_MatchLists.l0 k2 l0 l1 t103 y115 y119 (x12_2 ++ [(⟨(rd_T24 y115 x13_2).f0, (rd_T24 y115 x13_2).f1, (rd_T24 y115 x13_2).f2, (rd_T24 y115 x13_2).f3⟩ : S24)]) (wrap64 (x13_2 + 1)) a2_0 a2_1 a2_2 a2_3 a2_4 l2_5 a3_0 a3_1 a3_2 a3_3 a3_4 l3_5) else (none)) = some r := by rw [if_pos rfl] at H; exact H
           clear H
           have H := H1
           clear H1
           by_cases c40 : x12_2.length < 2513169434916
           ·rw [if_pos c40] at H
            have LMc40 := Aside0.mk c40
            clear c40
            obtain ⟨y125, hy125⟩ : ∃ y_ : List (S24), y_ = (x12_2 ++ [(⟨(rd_T24 y115 x13_2).f0, (rd_T24 y115 x13_2).f1, (rd_T24 y115 x13_2).f2, (rd_T24 y115 x13_2).f3⟩ : S24)]) := ⟨_, rfl⟩
            replace H : (cleanselaw20_MatchLists.l0 k2 l0 l1 t103 y115 y119 y125 (wrap64 (x13_2 + 1)) a2_0 a2_1 a2_2 a2_3 a2_4 l2_5 a3_0 a3_1 a3_2 a3_3 a3_4 l3_5) = some r := by (rw [hy125]; with_reducible exact H)
            have Ny125 := Aside0.mk hy125
            clear hy125
            have H' := Aside0.mk H
            clear H
            obtain ⟨Ao41, co41, eo41⟩ := Kd.N_slice HO_10.out
            subst eo41
            have p118 : 0 ≤ ((ji33) : Int) := of_decide_eq_true (by (with_reducible assumption))
            have q118 : (ji33) < (y115.length : Int) := of_decide_eq_true (by (with_reducible assumption))
            obtain ⟨ad118, A118_3, c118_3, e118, hx118_0, hx118_1, hx118_2, hx118_3, hl118_3, hi118_3⟩ := at_T24 (Kd.N_reads' HO_10.out).2.2 (ji33) p118 q118
            cases e118
            obtain ⟨ce118, hce118, hMe118, hcc118⟩ := Kd.N_get HO_10.out z24 (ji33) p118 (by (exact q118))
            obtain ⟨ua118_3, uc118_3, rfl, ul118_3, ge118_3⟩ := k24_openF hMe118
            have hv118_3 := hcc118 3 _ rfl
            rw [add_field _ _ 3 (by omega)] at hv118_3
            replace hv118_3 := Option.some.inj (hv118_3.symm.trans hx118_3)
            injection hv118_3 with hva_ hvn_ hvc_
            rw [hva_] at ge118_3
            rw [hvc_] at ul118_3
            have HL118_3 := Aside0.mk (show Kd.V k43 43 _ w.heap.size _ _ ((rd_T24 y115 (ji33)).f3) from Kd.V_mk ul118_3 ge118_3)
            clear hva_ hvn_ hvc_ ge118_3 ul118_3
            clear hcc118 hce118
            have HR118_3 := Aside0.mk hi118_3
            have HC118_3 := Aside0.mk hl118_3
            clear hi118_3 hl118_3
            replace p118 := eq_true p118
            replace q118 := eq_true q118
            try go_wp2_with (first | ((with_reducible refine gate_builtin (b := .append) (xs := #[.tmp 39, .tmp 48]) rfl ?_); at_builtin; refine Kd.N_append k24 (w0 := w) w.heap.size rfl (.tmp 39) (.tmp 48) 31 24 (.agg #[(.string ⟨#[]⟩), (.int .i64 0), (.int .i64 0), (.slice none 0 0)]) 56 rfl Tryd.underlying31 info24 rfl (by decide) (by omega) u11 x11_2 (⟨(rd_T24 y115 (ji33)).f0, (rd_T24 y115 (ji33)).f1, (rd_T24 y115 (ji33)).f2, (rd_T24 y115 (ji33)).f3⟩ : S24) [.string ((rd_T24 y115 (ji33)).f0), .int .i64 ((rd_T24 y115 (ji33)).f1), .int .i64 ((rd_T24 y115 (ji33)).f2), .slice A118_3 ((rd_T24 y115 (ji33)).f3).length c118_3] (fun k_ => ((P0_ k_ ∨ P1_ k_ ∨ P2_5_ k_ ∨ P3_5_ k_) ∨ w.heap.size ≤ k_) ∧ some k_ ≠ (.slice (some ad118) y115.length co41 : Value).ownBlock ∧ some k_ ≠ (u12 : Value).ownBlock ∧ k_ ≠ gb101 ∧ k_ ≠ gb102) (fun k_ => ((fun k_ => ((P0_ k_ ∨ P1_ k_ ∨ P2_5_ k_ ∨ P3_5_ k_) ∨ w.heap.size ≤ k_) ∧ some k_ ≠ (.slice (some ad118) y115.length co41 : Value).ownBlock ∧ some k_ ≠ (u12 : Value).ownBlock ∧ k_ ≠ gb101 ∧ k_ ≠ gb102)) k_ ∧ some k_ ≠ (u11 : Value).ownBlock) rfl rfl ?aP (fun _ hk => hk) ?aF ?aO ?aB ?aS ?aL ?_; (case aP => exact (k24_mkF _ _ (⟨(rd_T24 y115 (ji33)).f0, (rd_T24 y115 (ji33)).f1, (rd_T24 y115 (ji33)).f2, (rd_T24 y115 (ji33)).f3⟩ : S24) (Kd.V_reads' (Kd.V_mono (ok' := (fun k_ => ((fun k_ => ((P0_ k_ ∨ P1_ k_ ∨ P2_5_ k_ ∨ P3_5_ k_) ∨ w.heap.size ≤ k_) ∧ some k_ ≠ (.slice (some ad118) y115.length co41 : Value).ownBlock ∧ some k_ ≠ (u12 : Value).ownBlock ∧ k_ ≠ gb101 ∧ k_ ≠ gb102)) k_ ∧ some k_ ≠ (u11 : Value).ownBlock)) (HL118_3.out) (fun k_ hk => ⟨⟨hk.1.1, ⟨hk.2, ⟨hk.1.2.2.1, ⟨hk.1.2.2.2.1, hk.1.2.2.2.2⟩⟩⟩⟩, hk.1.2.1⟩))).2.1 (Kd.V_F (Kd.V_mono (ok' := (fun k_ => ((fun k_ => ((P0_ k_ ∨ P1_ k_ ∨ P2_5_ k_ ∨ P3_5_ k_) ∨ w.heap.size ≤ k_) ∧ some k_ ≠ (.slice (some ad118) y115.length co41 : Value).ownBlock ∧ some k_ ≠ (u12 : Value).ownBlock ∧ k_ ≠ gb101 ∧ k_ ≠ gb102)) k_ ∧ some k_ ≠ (u11 : Value).ownBlock)) (HL118_3.out) (fun k_ hk => ⟨⟨hk.1.1, ⟨hk.2, ⟨hk.1.2.2.1, ⟨hk.1.2.2.2.1, hk.1.2.2.2.2⟩⟩⟩⟩, hk.1.2.1⟩))))); (case aB => exact HB.out); (case aF => exact (fun k_ hk => ⟨(.inr (Nat.le_trans (below_size HB.out) hk)), Kd.fresh' (Kd.N_lt (by exact HO_10.out)) k_ hk, Kd.fresh' (Kd.N_lt (by exact HO_12.out)) k_ hk, Kd.freshB (by exact BK101.out) k_ hk, Kd.freshB (by exact BK102.out) k_ hk⟩)); (case aO => exact (by exact HO_11.out)); (case aS => exact (below_size HB.out)); (case aL => have := LMc36.out; omega); intro v120 w42 ho hb hg hat; rw [← Ny119.out] at ho; have n0_ := Aside0.mk (Kd.V_afterv (ok := (fun k_ => ((P0_ k_ ∨ P1_ k_ ∨ P2_5_ k_ ∨ P3_5_ k_) ∨ w.heap.size ≤ k_) ∧ some k_ ≠ (.slice (some ad118) y115.length co41 : Value).ownBlock ∧ some k_ ≠ (u12 : Value).ownBlock ∧ k_ ≠ gb101 ∧ k_ ≠ gb102)) (by exact Kd.V_mono HO_0.out (fun _ hk => ⟨⟨hk.1, ⟨hk.2.1, ⟨hk.2.2.2.1, ⟨hk.2.2.2.2.1, hk.2.2.2.2.2⟩⟩⟩⟩, hk.2.2.1⟩)) hg hat); have n1_ := Aside0.mk (Kd.V_afterv (ok := (fun k_ => ((P0_ k_ ∨ P1_ k_ ∨ P2_5_ k_ ∨ P3_5_ k_) ∨ w.heap.size ≤ k_) ∧ some k_ ≠ (.slice (some ad118) y115.length co41 : Value).ownBlock ∧ some k_ ≠ (u12 : Value).ownBlock ∧ k_ ≠ gb101 ∧ k_ ≠ gb102)) (by exact Kd.V_mono HO_1.out (fun _ hk => ⟨⟨hk.1, ⟨hk.2.1, ⟨hk.2.2.2.1, ⟨hk.2.2.2.2.1, hk.2.2.2.2.2⟩⟩⟩⟩, hk.2.2.1⟩)) hg hat); have n2_ := Aside0.mk (Kd.N_afterv (ok := (fun k_ => ((P0_ k_ ∨ P1_ k_ ∨ P2_5_ k_ ∨ P3_5_ k_) ∨ w.heap.size ≤ k_) ∧ some k_ ≠ (u12 : Value).ownBlock ∧ k_ ≠ gb101 ∧ k_ ≠ gb102)) (by exact Kd.N_mono HO_10.out (fun _ hk => ⟨⟨hk.1, ⟨hk.2.2.1, ⟨hk.2.2.2.1, hk.2.2.2.2⟩⟩⟩, hk.2.1⟩)) hg hat); have n3_ := Aside0.mk (Kd.N_afterv (ok := (fun k_ => ((P0_ k_ ∨ P1_ k_ ∨ P2_5_ k_ ∨ P3_5_ k_) ∨ w.heap.size ≤ k_) ∧ some k_ ≠ (.slice (some ad118) y115.length co41 : Value).ownBlock ∧ k_ ≠ gb101 ∧ k_ ≠ gb102)) (by exact Kd.N_mono HO_12.out (fun _ hk => ⟨⟨hk.1, ⟨hk.2.1, ⟨hk.2.2.2.1, hk.2.2.2.2⟩⟩⟩, hk.2.2.1⟩)) hg hat); have n4_ := Aside0.mk (Kd.V_afterv (ok := (fun k_ => ((P0_ k_ ∨ P1_ k_ ∨ P2_5_ k_ ∨ P3_5_ k_) ∨ w.heap.size ≤ k_) ∧ some k_ ≠ (.slice (some ad118) y115.length co41 : Value).ownBlock ∧ some k_ ≠ (u12 : Value).ownBlock ∧ k_ ≠ gb101 ∧ k_ ≠ gb102)) (by exact Kd.V_mono HO_102005.out (fun _ hk => ⟨⟨hk.1, ⟨hk.2.1, ⟨hk.2.2.2.1, ⟨hk.2.2.2.2.1, hk.2.2.2.2.2⟩⟩⟩⟩, hk.2.2.1⟩)) hg hat); have n5_ := Aside0.mk (Kd.V_afterv (ok := (fun k_ => ((P0_ k_ ∨ P1_ k_ ∨ P2_5_ k_ ∨ P3_5_ k_) ∨ w.heap.size ≤ k_) ∧ some k_ ≠ (.slice (some ad118) y115.length co41 : Value).ownBlock ∧ some k_ ≠ (u12 : Value).ownBlock ∧ k_ ≠ gb101 ∧ k_ ≠ gb102)) (by exact Kd.V_mono HO_103005.out (fun _ hk => ⟨⟨hk.1, ⟨hk.2.1, ⟨hk.2.2.2.1, ⟨hk.2.2.2.2.1, hk.2.2.2.2.2⟩⟩⟩⟩, hk.2.2.1⟩)) hg hat); have n6_ := Aside0.mk (blk_grown (by exact BK101.out) hg (Kd.N_ne HO_11.out BK101.out (by decide))); have n7_ := Aside0.mk (blk_grown (by exact BK102.out) hg (Kd.N_ne HO_11.out BK102.out (by decide))); have n8_ := Aside0.mk (Kd.V_afterv (ok := (fun k_ => ((P0_ k_ ∨ P1_ k_ ∨ P2_5_ k_ ∨ P3_5_ k_) ∨ w.heap.size ≤ k_) ∧ some k_ ≠ (.slice (some ad118) y115.length co41 : Value).ownBlock ∧ some k_ ≠ (u12 : Value).ownBlock ∧ k_ ≠ gb101 ∧ k_ ≠ gb102)) (by exact Kd.V_mono HL118_3.out (fun _ hk => ⟨⟨hk.1.1, ⟨hk.2, ⟨hk.1.2.2.1, ⟨hk.1.2.2.2.1, hk.1.2.2.2.2⟩⟩⟩⟩, hk.1.2.1⟩)) hg hat); have n9_ := Aside0.mk (hb); have n10_ := Aside0.mk (ho); clear HO_0; clear HO_1; clear HO_10; clear HO_12; clear HO_102005; clear HO_103005; clear BK101; clear BK102; clear HL118_3; clear HB; clear HO_11; have HO_0 := n0_; have HO_1 := n1_; have HO_10 := n2_; have HO_12 := n3_; have HO_102005 := n4_; have HO_103005 := n5_; have BK101 := n6_; have BK102 := n7_; have HL118_3 := n8_; have HB := n9_; have HO121 := n10_; clear n0_ n1_ n2_ n3_ n4_ n5_ n6_ n7_ n8_ n9_ n10_; clear ho hb hg hat))
            have n0_ := Aside0.mk (Kd.V_drew HO_0.out)
            have n1_ := Aside0.mk (Kd.V_drew HO_1.out)
            have n2_ := Aside0.mk (Kd.N_drew HO_10.out)
            have n3_ := Aside0.mk (Kd.N_drew HO_12.out)
            have n4_ := Aside0.mk (Kd.V_drew HO_102005.out)
            have n5_ := Aside0.mk (Kd.V_drew HO_103005.out)
            have n6_ := Aside0.mk (Kd.V_drew HL118_3.out)
            have n7_ := Aside0.mk (Kd.N_drew HO121.out)
            have n8_ := Aside0.mk (blk_drew BK101.out)
            have n9_ := Aside0.mk (blk_drew BK102.out)
            have n10_ := Aside0.mk (below_drew1 HB.out)
            clear HO_0
            clear HO_1
            clear HO_10
            clear HO_12
            clear HO_102005
            clear HO_103005
            clear HL118_3
            clear HO121
            clear BK101
            clear BK102
            clear HB
            have HO_0 := n0_
            have HO_1 := n1_
            have HO_10 := n2_
            have HO_12 := n3_
            have HO_102005 := n4_
            have HO_103005 := n5_
            have HL118_3 := n6_
            have HO121 := n7_
            have BK101 := n8_
            have BK102 := n9_
            have HB := n10_
            clear n0_ n1_ n2_ n3_ n4_ n5_ n6_ n7_ n8_ n9_ n10_
            have p122 : 0 ≤ (x13_2 : Int) := of_decide_eq_true (by (with_reducible assumption))
            have q122 : x13_2 < (y115.length : Int) := of_decide_eq_true (by (with_reducible assumption))
            obtain ⟨ad122, A122_3, c122_3, e122, hx122_0, hx122_1, hx122_2, hx122_3, hl122_3, hi122_3⟩ := at_T24 (Kd.N_reads' HO_10.out).2.2 x13_2 p122 q122
            obtain rfl : ad118 = ad122 := (by injection e122)
            obtain ⟨ce122, hce122, hMe122, hcc122⟩ := Kd.N_get HO_10.out z24 x13_2 p122 (by (exact q122))
            obtain ⟨ua122_3, uc122_3, rfl, ul122_3, ge122_3⟩ := k24_openF hMe122
            have hv122_3 := hcc122 3 _ rfl
            rw [add_field _ _ 3 (by omega)] at hv122_3
            replace hv122_3 := Option.some.inj (hv122_3.symm.trans hx122_3)
            injection hv122_3 with hva_ hvn_ hvc_
            rw [hva_] at ge122_3
            rw [hvc_] at ul122_3
            have HL122_3 := Aside0.mk (show Kd.V k43 43 _ w.heap.size _ _ ((rd_T24 y115 x13_2).f3) from Kd.V_mk ul122_3 ge122_3)
            clear hva_ hvn_ hvc_ ge122_3 ul122_3
            clear hcc122 hce122
            have HR122_3 := Aside0.mk hi122_3
            have HC122_3 := Aside0.mk hl122_3
            clear hi122_3 hl122_3
            replace p122 := eq_true p122
            replace q122 := eq_true q122
            refine start_ (n := 7) (S := fun w' => w'.cell? ⟨gb101, 0, none⟩ = some (.int .i64 a2_0) ∧ w'.cell? ⟨gb101, 1, none⟩ = some (.string a2_1) ∧ w'.cell? ⟨gb101, 2, none⟩ = some (.string a2_2) ∧ w'.cell? ⟨gb101, 3, none⟩ = some (.int .i64 a2_3) ∧ w'.cell? ⟨gb101, 4, none⟩ = some (.int .i64 a2_4) ∧ w'.cell? ⟨gb101, 5, none⟩ = some (.slice A2_5 l2_5.length c2_5) ∧ w'.cell? ⟨gb102, 0, none⟩ = some (.int .i64 a3_0) ∧ w'.cell? ⟨gb102, 1, none⟩ = some (.string a3_1) ∧ w'.cell? ⟨gb102, 2, none⟩ = some (.string a3_2) ∧ w'.cell? ⟨gb102, 3, none⟩ = some (.int .i64 a3_3) ∧ w'.cell? ⟨gb102, 4, none⟩ = some (.int .i64 a3_4) ∧ w'.cell? ⟨gb102, 5, none⟩ = some (.slice A3_5 l3_5.length c3_5) ∧ w'.cell? (ad118.add ((x13_2).toNat * 4)) = some (.string ((rd_T24 y115 x13_2).f0)) ∧ w'.cell? ⟨(ad118.add ((x13_2).toNat * 4)).block, (ad118.add ((x13_2).toNat * 4)).off + 1, none⟩ = some (.int .i64 ((rd_T24 y115 x13_2).f1)) ∧ w'.cell? ⟨(ad118.add ((x13_2).toNat * 4)).block, (ad118.add ((x13_2).toNat * 4)).off + 2, none⟩ = some (.int .i64 ((rd_T24 y115 x13_2).f2)) ∧ w'.cell? ⟨(ad118.add ((x13_2).toNat * 4)).block, (ad118.add ((x13_2).toNat * 4)).off + 3, none⟩ = some (.slice A122_3 ((rd_T24 y115 x13_2).f3).length c122_3)) (ds := []) #[Z0,Z0,Z0,Z0,Z0,Z0,Z0] (by kernel_rfl) rfl rfl ⟨(blk_cell BK101.out 0).trans rfl, (blk_cell BK101.out 1).trans rfl, (blk_cell BK101.out 2).trans rfl, (blk_cell BK101.out 3).trans rfl, (blk_cell BK101.out 4).trans rfl, (blk_cell BK101.out 5).trans rfl, (blk_cell BK102.out 0).trans rfl, (blk_cell BK102.out 1).trans rfl, (blk_cell BK102.out 2).trans rfl, (blk_cell BK102.out 3).trans rfl, (blk_cell BK102.out 4).trans rfl, (blk_cell BK102.out 5).trans rfl, hx122_0, hx122_1, hx122_2, hx122_3⟩ (fun hHeld => ?_)
            generalize w42.drew = w43 at HO_0 HO_1 HO_10 HO_12 HO_102005 HO_103005 HL118_3 HO121 BK101 BK102 HB HL122_3 HR122_3 hx122_0 hx122_1 hx122_2 hx122_3 hHeld ⊢
            refine pure_ (i := 0) (N := some 50) (v := ?_) (a' := ?_) #[Z1,Z0,Z0,Z0,Z0,Z0,Z0] rfl rfl (by kernel_rfl) (fun _ _ _ h => h) (Or.inl ⟨by rfl, ?_⟩) ?_ ?_
            rotate_left; intro w'; go_simp; with_reducible rfl; rotate_left; simp only [Act.put, pS_, pZ_, pC_, i64_w, i32_w]; rfl
            refine pure_ (i := 1) (N := some 51) (v := ?_) (a' := ?_) #[Z1,Z1,Z0,Z0,Z0,Z0,Z0] rfl rfl (by kernel_rfl) (fun _ _ _ h => h) (Or.inl ⟨by rfl, ?_⟩) ?_ ?_
            rotate_left; intro w'; go_simp; with_reducible rfl; rotate_left; simp only [Act.put, pS_, pZ_, pC_, i64_w, i32_w]; rfl
            refine pure_ (i := 2) (N := some 52) (v := ?_) (a' := ?_) #[Z1,Z1,Z1,Z0,Z0,Z0,Z0] rfl rfl (by kernel_rfl) (fun _ _ _ h => h) (Or.inl ⟨by rfl, ?_⟩) ?_ ?_
            rotate_left; intro w'; go_simp; with_reducible rfl; rotate_left; simp only [Act.put, pS_, pZ_, pC_, i64_w, i32_w]; rfl
            refine take_ (i := 3) (N := some 53) (v := ?_) (a' := ?_) #[Z1,Z1,Z1,Z1,Z0,Z0,Z0] rfl rfl (by kernel_rfl) (fun _ _ _ h => h) (Or.inl ⟨by rfl, ?_⟩) hHeld ?_ ?_
            rotate_left; rintro w' ⟨s0, s1, s2, s3, s4, s5, s6, s7, s8, s9, s10, s11, s12, s13, s14, s15⟩; go_simp; with_reducible rfl; rotate_left; simp only [Act.put, pS_, pZ_, pC_, i64_w, i32_w]; rfl
            refine take_ (i := 4) (N := some 54) (v := ?_) (a' := ?_) #[Z1,Z1,Z1,Z1,Z1,Z0,Z0] rfl rfl (by kernel_rfl) (fun _ _ _ h => h) (Or.inl ⟨by rfl, ?_⟩) hHeld ?_ ?_
            rotate_left; rintro w' ⟨s0, s1, s2, s3, s4, s5, s6, s7, s8, s9, s10, s11, s12, s13, s14, s15⟩; go_simp; with_reducible rfl; rotate_left; simp only [Act.put, pS_, pZ_, pC_, i64_w, i32_w]; rfl
            refine take_ (i := 5) (N := some 55) (v := ?_) (a' := ?_) #[Z1,Z1,Z1,Z1,Z1,Z1,Z0] rfl rfl (by kernel_rfl) (fun _ _ _ h => h) (Or.inl ⟨by rfl, ?_⟩) hHeld ?_ ?_
            rotate_left; rintro w' ⟨s0, s1, s2, s3, s4, s5, s6, s7, s8, s9, s10, s11, s12, s13, s14, s15⟩; go_simp; with_reducible rfl; rotate_left; simp only [Act.put, pS_, pZ_, pC_, i64_w, i32_w]; rfl
            refine one_ (i := 6) (N := some 56) #[Z1,Z1,Z1,Z1,Z1,Z1,Z1] rfl rfl (by kernel_rfl) (by decide) (fun K hK => ?_)
            refine goes_ Tryd.func14 (by kernel_rfl) rfl #[.agg #[.string ((rd_T24 y115 x13_2).f0), .int .i64 ((rd_T24 y115 x13_2).f1), .int .i64 ((rd_T24 y115 x13_2).f2), .slice A122_3 ((rd_T24 y115 x13_2).f3).length c122_3], .agg #[.int .i64 a2_0, .string a2_1, .string a2_2, .int .i64 a2_3, .int .i64 a2_4, .slice A2_5 l2_5.length c2_5], .agg #[.int .i64 a3_0, .string a3_1, .string a3_2, .int .i64 a3_3, .int .i64 a3_4, .slice A3_5 l3_5.length c3_5]] (by rfl) rfl rfl (by (try simp only [List.map_toArray, List.map_cons, List.map_nil]); rfl) ?_
            with_reducible refine (cleanseref20_About.calls k2 ((rd_T24 y115 x13_2).f0) ((rd_T24 y115 x13_2).f1) ((rd_T24 y115 x13_2).f2) _ _ ((rd_T24 y115 x13_2).f3) a2_0 a2_1 a2_2 a2_3 a2_4 _ _ l2_5 a3_0 a3_1 a3_2 a3_3 a3_4 _ _ l3_5 true _ ?side1 ?side2 ?side3 ?side4 ?side5 ?side6 A38.out).mono ?_
            (case side1 => repeat ((exact (by repeat ((with_reducible exact HR122_3.out))))))
            (case side2 => exact HC122_3.out)
            (case side3 => repeat ((exact (Kd.V_reads' HO_102005.out).2.2)))
            (case side4 => exact (Kd.V_reads' HO_102005.out).2.1)
            (case side5 => repeat ((exact (Kd.V_reads' HO_103005.out).2.2)))
            (case side6 => exact (Kd.V_reads' HO_103005.out).2.1)
            rintro e w44 ⟨rfl, hb⟩
            have HS12_ := (hb.cell (World.block_lt_of_cell? _ _ (hHeld.2.2.2.2.2.2.2.2.2.2.2.2.1))).trans (hHeld.2.2.2.2.2.2.2.2.2.2.2.2.1)
            have HS13_ := (hb.cell (World.block_lt_of_cell? _ _ (hHeld.2.2.2.2.2.2.2.2.2.2.2.2.2.1))).trans (hHeld.2.2.2.2.2.2.2.2.2.2.2.2.2.1)
            have HS14_ := (hb.cell (World.block_lt_of_cell? _ _ (hHeld.2.2.2.2.2.2.2.2.2.2.2.2.2.2.1))).trans (hHeld.2.2.2.2.2.2.2.2.2.2.2.2.2.2.1)
            have HS15_ := (hb.cell (World.block_lt_of_cell? _ _ (hHeld.2.2.2.2.2.2.2.2.2.2.2.2.2.2.2))).trans (hHeld.2.2.2.2.2.2.2.2.2.2.2.2.2.2.2)
            refine ⟨_, rfl, ?_⟩
            have n0_ := Aside0.mk (Kd.V_below (by exact HO_0.out) hb)
            have n1_ := Aside0.mk (Kd.V_below (by exact HO_1.out) hb)
            have n2_ := Aside0.mk (Kd.N_below (by exact HO_10.out) hb)
            have n3_ := Aside0.mk (Kd.N_below (by exact HO_12.out) hb)
            have n4_ := Aside0.mk (Kd.V_below (by exact HO_102005.out) hb)
            have n5_ := Aside0.mk (Kd.V_below (by exact HO_103005.out) hb)
            have n6_ := Aside0.mk (Kd.V_below (by exact HL118_3.out) hb)
            have n7_ := Aside0.mk (Kd.N_below (by exact HO121.out) hb)
            have n8_ := Aside0.mk (Kd.V_below (by exact HL122_3.out) hb)
            have n9_ := Aside0.mk (blk_below (by exact BK101.out) hb)
            have n10_ := Aside0.mk (blk_below (by exact BK102.out) hb)
            have n11_ := Aside0.mk (Kd.C_below (by repeat ((with_reducible exact HR122_3.out))) hb)
            have n12_ := Aside0.mk (below_step HB.out hb)
            clear HO_0
            clear HO_1
            clear HO_10
            clear HO_12
            clear HO_102005
            clear HO_103005
            clear HL118_3
            clear HO121
            clear HL122_3
            clear BK101
            clear BK102
            clear HR122_3
            clear HB
            have HO_0 := n0_
            have HO_1 := n1_
            have HO_10 := n2_
            have HO_12 := n3_
            have HO_102005 := n4_
            have HO_103005 := n5_
            have HL118_3 := n6_
            have HO121 := n7_
            have HL122_3 := n8_
            have BK101 := n9_
            have BK102 := n10_
            have HR122_3 := n11_
            have HB := n12_
            clear n0_ n1_ n2_ n3_ n4_ n5_ n6_ n7_ n8_ n9_ n10_ n11_ n12_
            (try clear hb)
            refine hK.out _ _ ⟨(blk_cell BK101.out 0).trans rfl, (blk_cell BK101.out 1).trans rfl, (blk_cell BK101.out 2).trans rfl, (blk_cell BK101.out 3).trans rfl, (blk_cell BK101.out 4).trans rfl, (blk_cell BK101.out 5).trans rfl, (blk_cell BK102.out 0).trans rfl, (blk_cell BK102.out 1).trans rfl, (blk_cell BK102.out 2).trans rfl, (blk_cell BK102.out 3).trans rfl, (blk_cell BK102.out 4).trans rfl, (blk_cell BK102.out 5).trans rfl, HS12_, HS13_, HS14_, HS15_⟩ (fun hHeld => ?_)
            clear hK K
            refine norm_ (a' := ?_) ?_ ?_
            rotate_left; show Act.put _ (some 56) _ = _; simp only [Act.put, pS_, pZ_, pC_, i64_w, i32_w]; rfl
            refine done_ (by kernel_rfl) ?_
            have p124 : 0 ≤ (x13_2 : Int) := of_decide_eq_true (by (with_reducible assumption))
            have q124 : x13_2 < (y115.length : Int) := of_decide_eq_true (by (with_reducible assumption))
            obtain ⟨ad124, A124_3, c124_3, e124, hx124_0, hx124_1, hx124_2, hx124_3, hl124_3, hi124_3⟩ := at_T24 (Kd.N_reads' HO_10.out).2.2 x13_2 p124 q124
            obtain rfl : ad118 = ad124 := (by injection e124)
            obtain ⟨eq1_, eq2_⟩ : A124_3 = A122_3 ∧ c124_3 = c122_3 := by have h_ := Option.some.inj (hx124_3.symm.trans HS15_); injection h_ with h1_ _ h2_; exact ⟨h1_, h2_⟩
            subst eq1_
            subst eq2_
            obtain ⟨ce124, hce124, hMe124, hcc124⟩ := Kd.N_get HO_10.out z24 x13_2 p124 (by (exact q124))
            obtain ⟨ua124_3, uc124_3, rfl, ul124_3, ge124_3⟩ := k24_openF hMe124
            have hv124_3 := hcc124 3 _ rfl
            rw [add_field _ _ 3 (by omega)] at hv124_3
            replace hv124_3 := Option.some.inj (hv124_3.symm.trans hx124_3)
            injection hv124_3 with hva_ hvn_ hvc_
            rw [hva_] at ge124_3
            rw [hvc_] at ul124_3
            have HL124_3 := Aside0.mk (show Kd.V k43 43 _ w.heap.size _ _ ((rd_T24 y115 x13_2).f3) from Kd.V_mk ul124_3 ge124_3)
            clear hva_ hvn_ hvc_ ge124_3 ul124_3
            clear hcc124 hce124
            have HR124_3 := Aside0.mk hi124_3
            have HC124_3 := Aside0.mk hl124_3
            clear hi124_3 hl124_3
            replace p124 := eq_true p124
            replace q124 := eq_true q124
            try go_wp2_with (first | ((with_reducible refine gate_builtin (b := .append) (xs := #[.tmp 57, .tmp 62]) rfl ?_); at_builtin; refine Kd.N_append k24 (w0 := w) w.heap.size rfl (.tmp 57) (.tmp 62) 31 24 (.agg #[(.string ⟨#[]⟩), (.int .i64 0), (.int .i64 0), (.slice none 0 0)]) 56 rfl Tryd.underlying31 info24 rfl (by decide) (by omega) u12 x12_2 (⟨(rd_T24 y115 x13_2).f0, (rd_T24 y115 x13_2).f1, (rd_T24 y115 x13_2).f2, (rd_T24 y115 x13_2).f3⟩ : S24) [.string ((rd_T24 y115 x13_2).f0), .int .i64 ((rd_T24 y115 x13_2).f1), .int .i64 ((rd_T24 y115 x13_2).f2), .slice A124_3 ((rd_T24 y115 x13_2).f3).length c124_3] (fun k_ => ((P0_ k_ ∨ P1_ k_ ∨ P2_5_ k_ ∨ P3_5_ k_) ∨ w.heap.size ≤ k_) ∧ some k_ ≠ (.slice (some ad118) y115.length co41 : Value).ownBlock ∧ some k_ ≠ (v120 : Value).ownBlock ∧ k_ ≠ gb101 ∧ k_ ≠ gb102) (fun k_ => ((fun k_ => ((P0_ k_ ∨ P1_ k_ ∨ P2_5_ k_ ∨ P3_5_ k_) ∨ w.heap.size ≤ k_) ∧ some k_ ≠ (.slice (some ad118) y115.length co41 : Value).ownBlock ∧ some k_ ≠ (v120 : Value).ownBlock ∧ k_ ≠ gb101 ∧ k_ ≠ gb102)) k_ ∧ some k_ ≠ (u12 : Value).ownBlock) rfl rfl ?aP (fun _ hk => hk) ?aF ?aO ?aB ?aS ?aL ?_; (case aP => exact (k24_mkF _ _ (⟨(rd_T24 y115 x13_2).f0, (rd_T24 y115 x13_2).f1, (rd_T24 y115 x13_2).f2, (rd_T24 y115 x13_2).f3⟩ : S24) (Kd.V_reads' (Kd.V_mono (ok' := (fun k_ => ((fun k_ => ((P0_ k_ ∨ P1_ k_ ∨ P2_5_ k_ ∨ P3_5_ k_) ∨ w.heap.size ≤ k_) ∧ some k_ ≠ (.slice (some ad118) y115.length co41 : Value).ownBlock ∧ some k_ ≠ (v120 : Value).ownBlock ∧ k_ ≠ gb101 ∧ k_ ≠ gb102)) k_ ∧ some k_ ≠ (u12 : Value).ownBlock)) (HL124_3.out) (fun k_ hk => ⟨⟨hk.1.1.1, ⟨hk.2, ⟨hk.1.2, ⟨hk.1.1.2.2.1, hk.1.1.2.2.2⟩⟩⟩⟩, hk.1.1.2.1⟩))).2.1 (Kd.V_F (Kd.V_mono (ok' := (fun k_ => ((fun k_ => ((P0_ k_ ∨ P1_ k_ ∨ P2_5_ k_ ∨ P3_5_ k_) ∨ w.heap.size ≤ k_) ∧ some k_ ≠ (.slice (some ad118) y115.length co41 : Value).ownBlock ∧ some k_ ≠ (v120 : Value).ownBlock ∧ k_ ≠ gb101 ∧ k_ ≠ gb102)) k_ ∧ some k_ ≠ (u12 : Value).ownBlock)) (HL124_3.out) (fun k_ hk => ⟨⟨hk.1.1.1, ⟨hk.2, ⟨hk.1.2, ⟨hk.1.1.2.2.1, hk.1.1.2.2.2⟩⟩⟩⟩, hk.1.1.2.1⟩))))); (case aB => exact HB.out); (case aF => exact (fun k_ hk => ⟨(.inr (Nat.le_trans (below_size HB.out) hk)), Kd.fresh' (Kd.N_lt (by exact HO_10.out)) k_ hk, Kd.fresh' (Kd.N_lt (by exact HO121.out)) k_ hk, Kd.freshB (by exact BK101.out) k_ hk, Kd.freshB (by exact BK102.out) k_ hk⟩)); (case aO => exact (by exact Kd.N_mono HO_12.out (fun _ hk => ⟨hk.1.1, ⟨hk.1.2.1, ⟨hk.2, ⟨hk.1.2.2.1, hk.1.2.2.2⟩⟩⟩⟩))); (case aS => exact (below_size HB.out)); (case aL => have := LMc40.out; omega); intro v126 w45 ho hb hg hat; rw [← Ny125.out] at ho; have n0_ := Aside0.mk (Kd.V_afterv (ok := (fun k_ => ((P0_ k_ ∨ P1_ k_ ∨ P2_5_ k_ ∨ P3_5_ k_) ∨ w.heap.size ≤ k_) ∧ some k_ ≠ (.slice (some ad118) y115.length co41 : Value).ownBlock ∧ some k_ ≠ (v120 : Value).ownBlock ∧ k_ ≠ gb101 ∧ k_ ≠ gb102)) (by exact Kd.V_mono HO_0.out (fun _ hk => ⟨⟨hk.1.1, ⟨hk.1.2.1, ⟨hk.2, ⟨hk.1.2.2.2.1, hk.1.2.2.2.2⟩⟩⟩⟩, hk.1.2.2.1⟩)) hg hat); have n1_ := Aside0.mk (Kd.V_afterv (ok := (fun k_ => ((P0_ k_ ∨ P1_ k_ ∨ P2_5_ k_ ∨ P3_5_ k_) ∨ w.heap.size ≤ k_) ∧ some k_ ≠ (.slice (some ad118) y115.length co41 : Value).ownBlock ∧ some k_ ≠ (v120 : Value).ownBlock ∧ k_ ≠ gb101 ∧ k_ ≠ gb102)) (by exact Kd.V_mono HO_1.out (fun _ hk => ⟨⟨hk.1.1, ⟨hk.1.2.1, ⟨hk.2, ⟨hk.1.2.2.2.1, hk.1.2.2.2.2⟩⟩⟩⟩, hk.1.2.2.1⟩)) hg hat); have n2_ := Aside0.mk (Kd.N_afterv (ok := (fun k_ => ((P0_ k_ ∨ P1_ k_ ∨ P2_5_ k_ ∨ P3_5_ k_) ∨ w.heap.size ≤ k_) ∧ some k_ ≠ (v120 : Value).ownBlock ∧ k_ ≠ gb101 ∧ k_ ≠ gb102)) (by exact Kd.N_mono HO_10.out (fun _ hk => ⟨⟨hk.1.1, ⟨hk.2, ⟨hk.1.2.2.1, hk.1.2.2.2⟩⟩⟩, hk.1.2.1⟩)) hg hat); have n3_ := Aside0.mk (Kd.V_afterv (ok := (fun k_ => ((P0_ k_ ∨ P1_ k_ ∨ P2_5_ k_ ∨ P3_5_ k_) ∨ w.heap.size ≤ k_) ∧ some k_ ≠ (.slice (some ad118) y115.length co41 : Value).ownBlock ∧ some k_ ≠ (v120 : Value).ownBlock ∧ k_ ≠ gb101 ∧ k_ ≠ gb102)) (by exact Kd.V_mono HO_102005.out (fun _ hk => ⟨⟨hk.1.1, ⟨hk.1.2.1, ⟨hk.2, ⟨hk.1.2.2.2.1, hk.1.2.2.2.2⟩⟩⟩⟩, hk.1.2.2.1⟩)) hg hat); have n4_ := Aside0.mk (Kd.V_afterv (ok := (fun k_ => ((P0_ k_ ∨ P1_ k_ ∨ P2_5_ k_ ∨ P3_5_ k_) ∨ w.heap.size ≤ k_) ∧ some k_ ≠ (.slice (some ad118) y115.length co41 : Value).ownBlock ∧ some k_ ≠ (v120 : Value).ownBlock ∧ k_ ≠ gb101 ∧ k_ ≠ gb102)) (by exact Kd.V_mono HO_103005.out (fun _ hk => ⟨⟨hk.1.1, ⟨hk.1.2.1, ⟨hk.2, ⟨hk.1.2.2.2.1, hk.1.2.2.2.2⟩⟩⟩⟩, hk.1.2.2.1⟩)) hg hat); have n5_ := Aside0.mk (blk_grown (by exact BK101.out) hg (Kd.N_ne HO_12.out BK101.out (by decide))); have n6_ := Aside0.mk (blk_grown (by exact BK102.out) hg (Kd.N_ne HO_12.out BK102.out (by decide))); have n7_ := Aside0.mk (Kd.V_afterv (ok := (fun k_ => ((P0_ k_ ∨ P1_ k_ ∨ P2_5_ k_ ∨ P3_5_ k_) ∨ w.heap.size ≤ k_) ∧ some k_ ≠ (.slice (some ad118) y115.length co41 : Value).ownBlock ∧ some k_ ≠ (v120 : Value).ownBlock ∧ k_ ≠ gb101 ∧ k_ ≠ gb102)) (by exact Kd.V_mono HL118_3.out (fun _ hk => ⟨⟨hk.1.1, ⟨hk.1.2.1, ⟨hk.2, ⟨hk.1.2.2.2.1, hk.1.2.2.2.2⟩⟩⟩⟩, hk.1.2.2.1⟩)) hg hat); have n8_ := Aside0.mk (Kd.N_afterv (ok := (fun k_ => ((P0_ k_ ∨ P1_ k_ ∨ P2_5_ k_ ∨ P3_5_ k_) ∨ w.heap.size ≤ k_) ∧ some k_ ≠ (.slice (some ad118) y115.length co41 : Value).ownBlock ∧ k_ ≠ gb101 ∧ k_ ≠ gb102)) (by exact Kd.N_mono HO121.out (fun _ hk => ⟨⟨hk.1, ⟨hk.2.1, ⟨hk.2.2.2.1, hk.2.2.2.2⟩⟩⟩, hk.2.2.1⟩)) hg hat); have n9_ := Aside0.mk (Kd.V_afterv (ok := (fun k_ => ((P0_ k_ ∨ P1_ k_ ∨ P2_5_ k_ ∨ P3_5_ k_) ∨ w.heap.size ≤ k_) ∧ some k_ ≠ (.slice (some ad118) y115.length co41 : Value).ownBlock ∧ some k_ ≠ (v120 : Value).ownBlock ∧ k_ ≠ gb101 ∧ k_ ≠ gb102)) (by exact Kd.V_mono HL122_3.out (fun _ hk => ⟨⟨hk.1.1.1, ⟨hk.2, ⟨hk.1.2, ⟨hk.1.1.2.2.1, hk.1.1.2.2.2⟩⟩⟩⟩, hk.1.1.2.1⟩)) hg hat); have n10_ := Aside0.mk (Kd.V_afterv (ok := (fun k_ => ((P0_ k_ ∨ P1_ k_ ∨ P2_5_ k_ ∨ P3_5_ k_) ∨ w.heap.size ≤ k_) ∧ some k_ ≠ (.slice (some ad118) y115.length co41 : Value).ownBlock ∧ some k_ ≠ (v120 : Value).ownBlock ∧ k_ ≠ gb101 ∧ k_ ≠ gb102)) (by exact Kd.V_mono HL124_3.out (fun _ hk => ⟨⟨hk.1.1.1, ⟨hk.2, ⟨hk.1.2, ⟨hk.1.1.2.2.1, hk.1.1.2.2.2⟩⟩⟩⟩, hk.1.1.2.1⟩)) hg hat); have n11_ := Aside0.mk (hb); have n12_ := Aside0.mk (ho); clear HO_0; clear HO_1; clear HO_10; clear HO_102005; clear HO_103005; clear BK101; clear BK102; clear HL118_3; clear HO121; clear HL122_3; clear HL124_3; clear HB; clear HO_12; have HO_0 := n0_; have HO_1 := n1_; have HO_10 := n2_; have HO_102005 := n3_; have HO_103005 := n4_; have BK101 := n5_; have BK102 := n6_; have HL118_3 := n7_; have HO121 := n8_; have HL122_3 := n9_; have HL124_3 := n10_; have HB := n11_; have HO127 := n12_; clear n0_ n1_ n2_ n3_ n4_ n5_ n6_ n7_ n8_ n9_ n10_ n11_ n12_; clear ho hb hg hat))
            go_roundg k2
            case measure => have := HJ5.out; have := HK2.out; omega
            case rel => exact ⟨(y119), (y125), (wrap64 (x13_2 + 1)), (by rfl), H', ⟨by have := HJ5.out; have := HK2.out; omega⟩, ⟨by exact Kd.V_mono HO_0.out (fun _ hk => ⟨hk.1.1, ⟨hk.1.2.1, ⟨hk.1.2.2.1, ⟨hk.2, ⟨hk.1.2.2.2.1, hk.1.2.2.2.2⟩⟩⟩⟩⟩)⟩, ⟨by exact Kd.V_mono HO_1.out (fun _ hk => ⟨hk.1.1, ⟨hk.1.2.1, ⟨hk.1.2.2.1, ⟨hk.2, ⟨hk.1.2.2.2.1, hk.1.2.2.2.2⟩⟩⟩⟩⟩)⟩, ⟨by exact Kd.N_mono HO_10.out (fun _ hk => ⟨hk.1.1, ⟨hk.1.2.1, ⟨hk.2, ⟨hk.1.2.2.1, hk.1.2.2.2⟩⟩⟩⟩)⟩, ⟨by exact Kd.N_mono HO121.out (fun _ hk => ⟨hk.1.1, ⟨hk.1.2.1, ⟨hk.2, ⟨hk.1.2.2.1, hk.1.2.2.2⟩⟩⟩⟩)⟩, ⟨by exact HO127.out⟩, ⟨by exact Kd.V_mono HO_102005.out (fun _ hk => ⟨hk.1.1, ⟨hk.1.2.1, ⟨hk.1.2.2.1, ⟨hk.2, ⟨hk.1.2.2.2.1, hk.1.2.2.2.2⟩⟩⟩⟩⟩)⟩, ⟨by exact Kd.V_mono HO_103005.out (fun _ hk => ⟨hk.1.1, ⟨hk.1.2.1, ⟨hk.1.2.2.1, ⟨hk.2, ⟨hk.1.2.2.2.1, hk.1.2.2.2.2⟩⟩⟩⟩⟩)⟩, ⟨by exact BK101.out⟩, ⟨by exact BK102.out⟩, ⟨by repeat ((with_reducible (exact HB.out)))⟩⟩
           rw [if_neg c40] at H
           exact absurd H (by simp)
          replace c39 := Bool.eq_false_iff.mpr c39
          subst c39
          have H1 : (cleanselaw20_MatchLists.l0 k2 l0 l1 t103 y115 y119 x12_2 (wrap64 (x13_2 + 1)) a2_0 a2_1 a2_2 a2_3 a2_4 l2_5 a3_0 a3_1 a3_2 a3_3 a3_4 l3_5) = some r := by rw [if_neg (show ¬ (false = true) by decide)] at H; exact H
          clear H
          have H := H1
          clear H1
          have H' := Aside0.mk H
          clear H
          obtain ⟨Ao46, co46, eo46⟩ := Kd.N_slice HO_10.out
          subst eo46
          have p118 : 0 ≤ ((ji33) : Int) := of_decide_eq_true (by (with_reducible assumption))
          have q118 : (ji33) < (y115.length : Int) := of_decide_eq_true (by (with_reducible assumption))
          obtain ⟨ad118, A118_3, c118_3, e118, hx118_0, hx118_1, hx118_2, hx118_3, hl118_3, hi118_3⟩ := at_T24 (Kd.N_reads' HO_10.out).2.2 (ji33) p118 q118
          cases e118
          obtain ⟨ce118, hce118, hMe118, hcc118⟩ := Kd.N_get HO_10.out z24 (ji33) p118 (by (exact q118))
          obtain ⟨ua118_3, uc118_3, rfl, ul118_3, ge118_3⟩ := k24_openF hMe118
          have hv118_3 := hcc118 3 _ rfl
          rw [add_field _ _ 3 (by omega)] at hv118_3
          replace hv118_3 := Option.some.inj (hv118_3.symm.trans hx118_3)
          injection hv118_3 with hva_ hvn_ hvc_
          rw [hva_] at ge118_3
          rw [hvc_] at ul118_3
          have HL118_3 := Aside0.mk (show Kd.V k43 43 _ w.heap.size _ _ ((rd_T24 y115 (ji33)).f3) from Kd.V_mk ul118_3 ge118_3)
          clear hva_ hvn_ hvc_ ge118_3 ul118_3
          clear hcc118 hce118
          have HR118_3 := Aside0.mk hi118_3
          have HC118_3 := Aside0.mk hl118_3
          clear hi118_3 hl118_3
          replace p118 := eq_true p118
          replace q118 := eq_true q118
          try go_wp2_with (first | ((with_reducible refine gate_builtin (b := .append) (xs := #[.tmp 39, .tmp 48]) rfl ?_); at_builtin; refine Kd.N_append k24 (w0 := w) w.heap.size rfl (.tmp 39) (.tmp 48) 31 24 (.agg #[(.string ⟨#[]⟩), (.int .i64 0), (.int .i64 0), (.slice none 0 0)]) 56 rfl Tryd.underlying31 info24 rfl (by decide) (by omega) u11 x11_2 (⟨(rd_T24 y115 (ji33)).f0, (rd_T24 y115 (ji33)).f1, (rd_T24 y115 (ji33)).f2, (rd_T24 y115 (ji33)).f3⟩ : S24) [.string ((rd_T24 y115 (ji33)).f0), .int .i64 ((rd_T24 y115 (ji33)).f1), .int .i64 ((rd_T24 y115 (ji33)).f2), .slice A118_3 ((rd_T24 y115 (ji33)).f3).length c118_3] (fun k_ => ((P0_ k_ ∨ P1_ k_ ∨ P2_5_ k_ ∨ P3_5_ k_) ∨ w.heap.size ≤ k_) ∧ some k_ ≠ (.slice (some ad118) y115.length co46 : Value).ownBlock ∧ some k_ ≠ (u12 : Value).ownBlock ∧ k_ ≠ gb101 ∧ k_ ≠ gb102) (fun k_ => ((fun k_ => ((P0_ k_ ∨ P1_ k_ ∨ P2_5_ k_ ∨ P3_5_ k_) ∨ w.heap.size ≤ k_) ∧ some k_ ≠ (.slice (some ad118) y115.length co46 : Value).ownBlock ∧ some k_ ≠ (u12 : Value).ownBlock ∧ k_ ≠ gb101 ∧ k_ ≠ gb102)) k_ ∧ some k_ ≠ (u11 : Value).ownBlock) rfl rfl ?aP (fun _ hk => hk) ?aF ?aO ?aB ?aS ?aL ?_; (case aP => exact (k24_mkF _ _ (⟨(rd_T24 y115 (ji33)).f0, (rd_T24 y115 (ji33)).f1, (rd_T24 y115 (ji33)).f2, (rd_T24 y115 (ji33)).f3⟩ : S24) (Kd.V_reads' (Kd.V_mono (ok' := (fun k_ => ((fun k_ => ((P0_ k_ ∨ P1_ k_ ∨ P2_5_ k_ ∨ P3_5_ k_) ∨ w.heap.size ≤ k_) ∧ some k_ ≠ (.slice (some ad118) y115.length co46 : Value).ownBlock ∧ some k_ ≠ (u12 : Value).ownBlock ∧ k_ ≠ gb101 ∧ k_ ≠ gb102)) k_ ∧ some k_ ≠ (u11 : Value).ownBlock)) (HL118_3.out) (fun k_ hk => ⟨⟨hk.1.1, ⟨hk.2, ⟨hk.1.2.2.1, ⟨hk.1.2.2.2.1, hk.1.2.2.2.2⟩⟩⟩⟩, hk.1.2.1⟩))).2.1 (Kd.V_F (Kd.V_mono (ok' := (fun k_ => ((fun k_ => ((P0_ k_ ∨ P1_ k_ ∨ P2_5_ k_ ∨ P3_5_ k_) ∨ w.heap.size ≤ k_) ∧ some k_ ≠ (.slice (some ad118) y115.length co46 : Value).ownBlock ∧ some k_ ≠ (u12 : Value).ownBlock ∧ k_ ≠ gb101 ∧ k_ ≠ gb102)) k_ ∧ some k_ ≠ (u11 : Value).ownBlock)) (HL118_3.out) (fun k_ hk => ⟨⟨hk.1.1, ⟨hk.2, ⟨hk.1.2.2.1, ⟨hk.1.2.2.2.1, hk.1.2.2.2.2⟩⟩⟩⟩, hk.1.2.1⟩))))); (case aB => exact HB.out); (case aF => exact (fun k_ hk => ⟨(.inr (Nat.le_trans (below_size HB.out) hk)), Kd.fresh' (Kd.N_lt (by exact HO_10.out)) k_ hk, Kd.fresh' (Kd.N_lt (by exact HO_12.out)) k_ hk, Kd.freshB (by exact BK101.out) k_ hk, Kd.freshB (by exact BK102.out) k_ hk⟩)); (case aO => exact (by exact HO_11.out)); (case aS => exact (below_size HB.out)); (case aL => have := LMc36.out; omega); intro v120 w47 ho hb hg hat; rw [← Ny119.out] at ho; have n0_ := Aside0.mk (Kd.V_afterv (ok := (fun k_ => ((P0_ k_ ∨ P1_ k_ ∨ P2_5_ k_ ∨ P3_5_ k_) ∨ w.heap.size ≤ k_) ∧ some k_ ≠ (.slice (some ad118) y115.length co46 : Value).ownBlock ∧ some k_ ≠ (u12 : Value).ownBlock ∧ k_ ≠ gb101 ∧ k_ ≠ gb102)) (by exact Kd.V_mono HO_0.out (fun _ hk => ⟨⟨hk.1, ⟨hk.2.1, ⟨hk.2.2.2.1, ⟨hk.2.2.2.2.1, hk.2.2.2.2.2⟩⟩⟩⟩, hk.2.2.1⟩)) hg hat); have n1_ := Aside0.mk (Kd.V_afterv (ok := (fun k_ => ((P0_ k_ ∨ P1_ k_ ∨ P2_5_ k_ ∨ P3_5_ k_) ∨ w.heap.size ≤ k_) ∧ some k_ ≠ (.slice (some ad118) y115.length co46 : Value).ownBlock ∧ some k_ ≠ (u12 : Value).ownBlock ∧ k_ ≠ gb101 ∧ k_ ≠ gb102)) (by exact Kd.V_mono HO_1.out (fun _ hk => ⟨⟨hk.1, ⟨hk.2.1, ⟨hk.2.2.2.1, ⟨hk.2.2.2.2.1, hk.2.2.2.2.2⟩⟩⟩⟩, hk.2.2.1⟩)) hg hat); have n2_ := Aside0.mk (Kd.N_afterv (ok := (fun k_ => ((P0_ k_ ∨ P1_ k_ ∨ P2_5_ k_ ∨ P3_5_ k_) ∨ w.heap.size ≤ k_) ∧ some k_ ≠ (u12 : Value).ownBlock ∧ k_ ≠ gb101 ∧ k_ ≠ gb102)) (by exact Kd.N_mono HO_10.out (fun _ hk => ⟨⟨hk.1, ⟨hk.2.2.1, ⟨hk.2.2.2.1, hk.2.2.2.2⟩⟩⟩, hk.2.1⟩)) hg hat); have n3_ := Aside0.mk (Kd.N_afterv (ok := (fun k_ => ((P0_ k_ ∨ P1_ k_ ∨ P2_5_ k_ ∨ P3_5_ k_) ∨ w.heap.size ≤ k_) ∧ some k_ ≠ (.slice (some ad118) y115.length co46 : Value).ownBlock ∧ k_ ≠ gb101 ∧ k_ ≠ gb102)) (by exact Kd.N_mono HO_12.out (fun _ hk => ⟨⟨hk.1, ⟨hk.2.1, ⟨hk.2.2.2.1, hk.2.2.2.2⟩⟩⟩, hk.2.2.1⟩)) hg hat); have n4_ := Aside0.mk (Kd.V_afterv (ok := (fun k_ => ((P0_ k_ ∨ P1_ k_ ∨ P2_5_ k_ ∨ P3_5_ k_) ∨ w.heap.size ≤ k_) ∧ some k_ ≠ (.slice (some ad118) y115.length co46 : Value).ownBlock ∧ some k_ ≠ (u12 : Value).ownBlock ∧ k_ ≠ gb101 ∧ k_ ≠ gb102)) (by exact Kd.V_mono HO_102005.out (fun _ hk => ⟨⟨hk.1, ⟨hk.2.1, ⟨hk.2.2.2.1, ⟨hk.2.2.2.2.1, hk.2.2.2.2.2⟩⟩⟩⟩, hk.2.2.1⟩)) hg hat); have n5_ := Aside0.mk (Kd.V_afterv (ok := (fun k_ => ((P0_ k_ ∨ P1_ k_ ∨ P2_5_ k_ ∨ P3_5_ k_) ∨ w.heap.size ≤ k_) ∧ some k_ ≠ (.slice (some ad118) y115.length co46 : Value).ownBlock ∧ some k_ ≠ (u12 : Value).ownBlock ∧ k_ ≠ gb101 ∧ k_ ≠ gb102)) (by exact Kd.V_mono HO_103005.out (fun _ hk => ⟨⟨hk.1, ⟨hk.2.1, ⟨hk.2.2.2.1, ⟨hk.2.2.2.2.1, hk.2.2.2.2.2⟩⟩⟩⟩, hk.2.2.1⟩)) hg hat); have n6_ := Aside0.mk (blk_grown (by exact BK101.out) hg (Kd.N_ne HO_11.out BK101.out (by decide))); have n7_ := Aside0.mk (blk_grown (by exact BK102.out) hg (Kd.N_ne HO_11.out BK102.out (by decide))); have n8_ := Aside0.mk (Kd.V_afterv (ok := (fun k_ => ((P0_ k_ ∨ P1_ k_ ∨ P2_5_ k_ ∨ P3_5_ k_) ∨ w.heap.size ≤ k_) ∧ some k_ ≠ (.slice (some ad118) y115.length co46 : Value).ownBlock ∧ some k_ ≠ (u12 : Value).ownBlock ∧ k_ ≠ gb101 ∧ k_ ≠ gb102)) (by exact Kd.V_mono HL118_3.out (fun _ hk => ⟨⟨hk.1.1, ⟨hk.2, ⟨hk.1.2.2.1, ⟨hk.1.2.2.2.1, hk.1.2.2.2.2⟩⟩⟩⟩, hk.1.2.1⟩)) hg hat); have n9_ := Aside0.mk (hb); have n10_ := Aside0.mk (ho); clear HO_0; clear HO_1; clear HO_10; clear HO_12; clear HO_102005; clear HO_103005; clear BK101; clear BK102; clear HL118_3; clear HB; clear HO_11; have HO_0 := n0_; have HO_1 := n1_; have HO_10 := n2_; have HO_12 := n3_; have HO_102005 := n4_; have HO_103005 := n5_; have BK101 := n6_; have BK102 := n7_; have HL118_3 := n8_; have HB := n9_; have HO121 := n10_; clear n0_ n1_ n2_ n3_ n4_ n5_ n6_ n7_ n8_ n9_ n10_; clear ho hb hg hat))
          have n0_ := Aside0.mk (Kd.V_drew HO_0.out)
          have n1_ := Aside0.mk (Kd.V_drew HO_1.out)
          have n2_ := Aside0.mk (Kd.N_drew HO_10.out)
          have n3_ := Aside0.mk (Kd.N_drew HO_12.out)
          have n4_ := Aside0.mk (Kd.V_drew HO_102005.out)
          have n5_ := Aside0.mk (Kd.V_drew HO_103005.out)
          have n6_ := Aside0.mk (Kd.V_drew HL118_3.out)
          have n7_ := Aside0.mk (Kd.N_drew HO121.out)
          have n8_ := Aside0.mk (blk_drew BK101.out)
          have n9_ := Aside0.mk (blk_drew BK102.out)
          have n10_ := Aside0.mk (below_drew1 HB.out)
          clear HO_0
          clear HO_1
          clear HO_10
          clear HO_12
          clear HO_102005
          clear HO_103005
          clear HL118_3
          clear HO121
          clear BK101
          clear BK102
          clear HB
          have HO_0 := n0_
          have HO_1 := n1_
          have HO_10 := n2_
          have HO_12 := n3_
          have HO_102005 := n4_
          have HO_103005 := n5_
          have HL118_3 := n6_
          have HO121 := n7_
          have BK101 := n8_
          have BK102 := n9_
          have HB := n10_
          clear n0_ n1_ n2_ n3_ n4_ n5_ n6_ n7_ n8_ n9_ n10_
          have p122 : 0 ≤ (x13_2 : Int) := of_decide_eq_true (by (with_reducible assumption))
          have q122 : x13_2 < (y115.length : Int) := of_decide_eq_true (by (with_reducible assumption))
          obtain ⟨ad122, A122_3, c122_3, e122, hx122_0, hx122_1, hx122_2, hx122_3, hl122_3, hi122_3⟩ := at_T24 (Kd.N_reads' HO_10.out).2.2 x13_2 p122 q122
          obtain rfl : ad118 = ad122 := (by injection e122)
          obtain ⟨ce122, hce122, hMe122, hcc122⟩ := Kd.N_get HO_10.out z24 x13_2 p122 (by (exact q122))
          obtain ⟨ua122_3, uc122_3, rfl, ul122_3, ge122_3⟩ := k24_openF hMe122
          have hv122_3 := hcc122 3 _ rfl
          rw [add_field _ _ 3 (by omega)] at hv122_3
          replace hv122_3 := Option.some.inj (hv122_3.symm.trans hx122_3)
          injection hv122_3 with hva_ hvn_ hvc_
          rw [hva_] at ge122_3
          rw [hvc_] at ul122_3
          have HL122_3 := Aside0.mk (show Kd.V k43 43 _ w.heap.size _ _ ((rd_T24 y115 x13_2).f3) from Kd.V_mk ul122_3 ge122_3)
          clear hva_ hvn_ hvc_ ge122_3 ul122_3
          clear hcc122 hce122
          have HR122_3 := Aside0.mk hi122_3
          have HC122_3 := Aside0.mk hl122_3
          clear hi122_3 hl122_3
          replace p122 := eq_true p122
          replace q122 := eq_true q122
          refine start_ (n := 7) (S := fun w' => w'.cell? ⟨gb101, 0, none⟩ = some (.int .i64 a2_0) ∧ w'.cell? ⟨gb101, 1, none⟩ = some (.string a2_1) ∧ w'.cell? ⟨gb101, 2, none⟩ = some (.string a2_2) ∧ w'.cell? ⟨gb101, 3, none⟩ = some (.int .i64 a2_3) ∧ w'.cell? ⟨gb101, 4, none⟩ = some (.int .i64 a2_4) ∧ w'.cell? ⟨gb101, 5, none⟩ = some (.slice A2_5 l2_5.length c2_5) ∧ w'.cell? ⟨gb102, 0, none⟩ = some (.int .i64 a3_0) ∧ w'.cell? ⟨gb102, 1, none⟩ = some (.string a3_1) ∧ w'.cell? ⟨gb102, 2, none⟩ = some (.string a3_2) ∧ w'.cell? ⟨gb102, 3, none⟩ = some (.int .i64 a3_3) ∧ w'.cell? ⟨gb102, 4, none⟩ = some (.int .i64 a3_4) ∧ w'.cell? ⟨gb102, 5, none⟩ = some (.slice A3_5 l3_5.length c3_5) ∧ w'.cell? (ad118.add ((x13_2).toNat * 4)) = some (.string ((rd_T24 y115 x13_2).f0)) ∧ w'.cell? ⟨(ad118.add ((x13_2).toNat * 4)).block, (ad118.add ((x13_2).toNat * 4)).off + 1, none⟩ = some (.int .i64 ((rd_T24 y115 x13_2).f1)) ∧ w'.cell? ⟨(ad118.add ((x13_2).toNat * 4)).block, (ad118.add ((x13_2).toNat * 4)).off + 2, none⟩ = some (.int .i64 ((rd_T24 y115 x13_2).f2)) ∧ w'.cell? ⟨(ad118.add ((x13_2).toNat * 4)).block, (ad118.add ((x13_2).toNat * 4)).off + 3, none⟩ = some (.slice A122_3 ((rd_T24 y115 x13_2).f3).length c122_3)) (ds := []) #[Z0,Z0,Z0,Z0,Z0,Z0,Z0] (by kernel_rfl) rfl rfl ⟨(blk_cell BK101.out 0).trans rfl, (blk_cell BK101.out 1).trans rfl, (blk_cell BK101.out 2).trans rfl, (blk_cell BK101.out 3).trans rfl, (blk_cell BK101.out 4).trans rfl, (blk_cell BK101.out 5).trans rfl, (blk_cell BK102.out 0).trans rfl, (blk_cell BK102.out 1).trans rfl, (blk_cell BK102.out 2).trans rfl, (blk_cell BK102.out 3).trans rfl, (blk_cell BK102.out 4).trans rfl, (blk_cell BK102.out 5).trans rfl, hx122_0, hx122_1, hx122_2, hx122_3⟩ (fun hHeld => ?_)
          generalize w47.drew = w48 at HO_0 HO_1 HO_10 HO_12 HO_102005 HO_103005 HL118_3 HO121 BK101 BK102 HB HL122_3 HR122_3 hx122_0 hx122_1 hx122_2 hx122_3 hHeld ⊢
          refine pure_ (i := 0) (N := some 50) (v := ?_) (a' := ?_) #[Z1,Z0,Z0,Z0,Z0,Z0,Z0] rfl rfl (by kernel_rfl) (fun _ _ _ h => h) (Or.inl ⟨by rfl, ?_⟩) ?_ ?_
          rotate_left; intro w'; go_simp; with_reducible rfl; rotate_left; simp only [Act.put, pS_, pZ_, pC_, i64_w, i32_w]; rfl
          refine pure_ (i := 1) (N := some 51) (v := ?_) (a' := ?_) #[Z1,Z1,Z0,Z0,Z0,Z0,Z0] rfl rfl (by kernel_rfl) (fun _ _ _ h => h) (Or.inl ⟨by rfl, ?_⟩) ?_ ?_
          rotate_left; intro w'; go_simp; with_reducible rfl; rotate_left; simp only [Act.put, pS_, pZ_, pC_, i64_w, i32_w]; rfl
          refine pure_ (i := 2) (N := some 52) (v := ?_) (a' := ?_) #[Z1,Z1,Z1,Z0,Z0,Z0,Z0] rfl rfl (by kernel_rfl) (fun _ _ _ h => h) (Or.inl ⟨by rfl, ?_⟩) ?_ ?_
          rotate_left; intro w'; go_simp; with_reducible rfl; rotate_left; simp only [Act.put, pS_, pZ_, pC_, i64_w, i32_w]; rfl
          refine take_ (i := 3) (N := some 53) (v := ?_) (a' := ?_) #[Z1,Z1,Z1,Z1,Z0,Z0,Z0] rfl rfl (by kernel_rfl) (fun _ _ _ h => h) (Or.inl ⟨by rfl, ?_⟩) hHeld ?_ ?_
          rotate_left; rintro w' ⟨s0, s1, s2, s3, s4, s5, s6, s7, s8, s9, s10, s11, s12, s13, s14, s15⟩; go_simp; with_reducible rfl; rotate_left; simp only [Act.put, pS_, pZ_, pC_, i64_w, i32_w]; rfl
          refine take_ (i := 4) (N := some 54) (v := ?_) (a' := ?_) #[Z1,Z1,Z1,Z1,Z1,Z0,Z0] rfl rfl (by kernel_rfl) (fun _ _ _ h => h) (Or.inl ⟨by rfl, ?_⟩) hHeld ?_ ?_
          rotate_left; rintro w' ⟨s0, s1, s2, s3, s4, s5, s6, s7, s8, s9, s10, s11, s12, s13, s14, s15⟩; go_simp; with_reducible rfl; rotate_left; simp only [Act.put, pS_, pZ_, pC_, i64_w, i32_w]; rfl
          refine take_ (i := 5) (N := some 55) (v := ?_) (a' := ?_) #[Z1,Z1,Z1,Z1,Z1,Z1,Z0] rfl rfl (by kernel_rfl) (fun _ _ _ h => h) (Or.inl ⟨by rfl, ?_⟩) hHeld ?_ ?_
          rotate_left; rintro w' ⟨s0, s1, s2, s3, s4, s5, s6, s7, s8, s9, s10, s11, s12, s13, s14, s15⟩; go_simp; with_reducible rfl; rotate_left; simp only [Act.put, pS_, pZ_, pC_, i64_w, i32_w]; rfl
          refine one_ (i := 6) (N := some 56) #[Z1,Z1,Z1,Z1,Z1,Z1,Z1] rfl rfl (by kernel_rfl) (by decide) (fun K hK => ?_)
          refine goes_ Tryd.func14 (by kernel_rfl) rfl #[.agg #[.string ((rd_T24 y115 x13_2).f0), .int .i64 ((rd_T24 y115 x13_2).f1), .int .i64 ((rd_T24 y115 x13_2).f2), .slice A122_3 ((rd_T24 y115 x13_2).f3).length c122_3], .agg #[.int .i64 a2_0, .string a2_1, .string a2_2, .int .i64 a2_3, .int .i64 a2_4, .slice A2_5 l2_5.length c2_5], .agg #[.int .i64 a3_0, .string a3_1, .string a3_2, .int .i64 a3_3, .int .i64 a3_4, .slice A3_5 l3_5.length c3_5]] (by rfl) rfl rfl (by (try simp only [List.map_toArray, List.map_cons, List.map_nil]); rfl) ?_
          with_reducible refine (cleanseref20_About.calls k2 ((rd_T24 y115 x13_2).f0) ((rd_T24 y115 x13_2).f1) ((rd_T24 y115 x13_2).f2) _ _ ((rd_T24 y115 x13_2).f3) a2_0 a2_1 a2_2 a2_3 a2_4 _ _ l2_5 a3_0 a3_1 a3_2 a3_3 a3_4 _ _ l3_5 false _ ?side1 ?side2 ?side3 ?side4 ?side5 ?side6 A38.out).mono ?_
          (case side1 => repeat ((exact (by repeat ((with_reducible exact HR122_3.out))))))
          (case side2 => exact HC122_3.out)
          (case side3 => repeat ((exact (Kd.V_reads' HO_102005.out).2.2)))
          (case side4 => exact (Kd.V_reads' HO_102005.out).2.1)
          (case side5 => repeat ((exact (Kd.V_reads' HO_103005.out).2.2)))
          (case side6 => exact (Kd.V_reads' HO_103005.out).2.1)
          rintro e w49 ⟨rfl, hb⟩
          have HS12_ := (hb.cell (World.block_lt_of_cell? _ _ (hHeld.2.2.2.2.2.2.2.2.2.2.2.2.1))).trans (hHeld.2.2.2.2.2.2.2.2.2.2.2.2.1)
          have HS13_ := (hb.cell (World.block_lt_of_cell? _ _ (hHeld.2.2.2.2.2.2.2.2.2.2.2.2.2.1))).trans (hHeld.2.2.2.2.2.2.2.2.2.2.2.2.2.1)
          have HS14_ := (hb.cell (World.block_lt_of_cell? _ _ (hHeld.2.2.2.2.2.2.2.2.2.2.2.2.2.2.1))).trans (hHeld.2.2.2.2.2.2.2.2.2.2.2.2.2.2.1)
          have HS15_ := (hb.cell (World.block_lt_of_cell? _ _ (hHeld.2.2.2.2.2.2.2.2.2.2.2.2.2.2.2))).trans (hHeld.2.2.2.2.2.2.2.2.2.2.2.2.2.2.2)
          refine ⟨_, rfl, ?_⟩
          have n0_ := Aside0.mk (Kd.V_below (by exact HO_0.out) hb)
          have n1_ := Aside0.mk (Kd.V_below (by exact HO_1.out) hb)
          have n2_ := Aside0.mk (Kd.N_below (by exact HO_10.out) hb)
          have n3_ := Aside0.mk (Kd.N_below (by exact HO_12.out) hb)
          have n4_ := Aside0.mk (Kd.V_below (by exact HO_102005.out) hb)
          have n5_ := Aside0.mk (Kd.V_below (by exact HO_103005.out) hb)
          have n6_ := Aside0.mk (Kd.V_below (by exact HL118_3.out) hb)
          have n7_ := Aside0.mk (Kd.N_below (by exact HO121.out) hb)
          have n8_ := Aside0.mk (Kd.V_below (by exact HL122_3.out) hb)
          have n9_ := Aside0.mk (blk_below (by exact BK101.out) hb)
          have n10_ := Aside0.mk (blk_below (by exact BK102.out) hb)
          have n11_ := Aside0.mk (Kd.C_below (by repeat ((with_reducible exact HR122_3.out))) hb)
          have n12_ := Aside0.mk (below_step HB.out hb)
          clear HO_0
          clear HO_1
          clear HO_10
          clear HO_12
          clear HO_102005
          clear HO_103005
          clear HL118_3
          clear HO121
          clear HL122_3
          clear BK101
          clear BK102
          clear HR122_3
          clear HB
          have HO_0 := n0_
          have HO_1 := n1_
          have HO_10 := n2_
          have HO_12 := n3_
          have HO_102005 := n4_
          have HO_103005 := n5_
          have HL118_3 := n6_
          have HO121 := n7_
          have HL122_3 := n8_
          have BK101 := n9_
          have BK102 := n10_
          have HR122_3 := n11_
          have HB := n12_
          clear n0_ n1_ n2_ n3_ n4_ n5_ n6_ n7_ n8_ n9_ n10_ n11_ n12_
          (try clear hb)
          refine hK.out _ _ ⟨(blk_cell BK101.out 0).trans rfl, (blk_cell BK101.out 1).trans rfl, (blk_cell BK101.out 2).trans rfl, (blk_cell BK101.out 3).trans rfl, (blk_cell BK101.out 4).trans rfl, (blk_cell BK101.out 5).trans rfl, (blk_cell BK102.out 0).trans rfl, (blk_cell BK102.out 1).trans rfl, (blk_cell BK102.out 2).trans rfl, (blk_cell BK102.out 3).trans rfl, (blk_cell BK102.out 4).trans rfl, (blk_cell BK102.out 5).trans rfl, HS12_, HS13_, HS14_, HS15_⟩ (fun hHeld => ?_)
          clear hK K
          refine norm_ (a' := ?_) ?_ ?_
          rotate_left; show Act.put _ (some 56) _ = _; simp only [Act.put, pS_, pZ_, pC_, i64_w, i32_w]; rfl
          refine done_ (by kernel_rfl) ?_
          try go_wp2
          go_roundg k2
          case measure => have := HJ5.out; have := HK2.out; omega
          case rel => exact ⟨(y119), (x12_2), (wrap64 (x13_2 + 1)), (by rfl), H', ⟨by have := HJ5.out; have := HK2.out; omega⟩, ⟨by exact Kd.V_mono HO_0.out (fun _ hk => ⟨hk.1.1, ⟨hk.1.2.1, ⟨hk.2, ⟨hk.1.2.2.1, ⟨hk.1.2.2.2.1, hk.1.2.2.2.2⟩⟩⟩⟩⟩)⟩, ⟨by exact Kd.V_mono HO_1.out (fun _ hk => ⟨hk.1.1, ⟨hk.1.2.1, ⟨hk.2, ⟨hk.1.2.2.1, ⟨hk.1.2.2.2.1, hk.1.2.2.2.2⟩⟩⟩⟩⟩)⟩, ⟨by exact Kd.N_mono HO_10.out (fun _ hk => ⟨hk.1.1, ⟨hk.2, ⟨hk.1.2.1, ⟨hk.1.2.2.1, hk.1.2.2.2⟩⟩⟩⟩)⟩, ⟨by exact HO121.out⟩, ⟨by exact Kd.N_mono HO_12.out (fun _ hk => ⟨hk.1.1, ⟨hk.1.2.1, ⟨hk.2, ⟨hk.1.2.2.1, hk.1.2.2.2⟩⟩⟩⟩)⟩, ⟨by exact Kd.V_mono HO_102005.out (fun _ hk => ⟨hk.1.1, ⟨hk.1.2.1, ⟨hk.2, ⟨hk.1.2.2.1, ⟨hk.1.2.2.2.1, hk.1.2.2.2.2⟩⟩⟩⟩⟩)⟩, ⟨by exact Kd.V_mono HO_103005.out (fun _ hk => ⟨hk.1.1, ⟨hk.1.2.1, ⟨hk.2, ⟨hk.1.2.2.1, ⟨hk.1.2.2.2.1, hk.1.2.2.2.2⟩⟩⟩⟩⟩)⟩, ⟨by exact BK101.out⟩, ⟨by exact BK102.out⟩, ⟨by repeat ((with_reducible (exact HB.out)))⟩⟩
         rw [if_neg c37] at H
         exact absurd H (by simp)
        rw [if_neg c36] at H
        exact absurd H (by simp)
       rw [if_neg c35] at H
       exact absurd H (by simp)
      rw [if_neg c34] at H
      exact absurd H (by simp)
     rw [if_neg c32] at H
     have c32b0 : decide (x13_2 < (y115.length : Int)) = false := decide_eq_false c32
     clear c32
     replace H := Option.bind_eq_some_iff.mp H
     obtain ⟨t128, A500, H⟩ := H
     replace H : (if t103 = true then ((match_Weight.f k2 l0 a2_0 a2_1 a2_2 a2_3 a2_4 l2_5 a3_0 a3_1 a3_2 a3_3 a3_4 l3_5).bind fun t129 => ((match_Weight.f k2 l1 a2_0 a2_1 a2_2 a2_3 a2_4 l2_5 a3_0 a3_1 a3_2 a3_3 a3_4 l3_5).bind fun t130 => (if t128 = (wrap64 (t129 + t130)) then ((match_Weight.f k2 x11_2 a2_0 a2_1 a2_2 a2_3 a2_4 l2_5 a3_0 a3_1 a3_2 a3_3 a3_4 l3_5).bind fun t131 => (if t128 = t131 then ((match_Weight.f k2 x12_2 a2_0 a2_1 a2_2 a2_3 a2_4 l2_5 a3_0 a3_1 a3_2 a3_3 a3_4 l3_5).bind fun t132 => (some (t128 == t132))) else (some false))) else (some false)))) else (some false)) = some r := H
     have A50 := Aside0.mk A500
     clear A500
     by_cases c51 : t103 = true
     ·subst c51
      have H1 : ((match_Weight.f k2 l0 a2_0 a2_1 a2_2 a2_3 a2_4 l2_5 a3_0 a3_1 a3_2 a3_3 a3_4 l3_5).bind fun t129 => ((match_Weight.f k2 l1 a2_0 a2_1 a2_2 a2_3 a2_4 l2_5 a3_0 a3_1 a3_2 a3_3 a3_4 l3_5).bind fun t130 => (if t128 = (wrap64 (t129 + t130)) then ((match_Weight.f k2 x11_2 a2_0 a2_1 a2_2 a2_3 a2_4 l2_5 a3_0 a3_1 a3_2 a3_3 a3_4 l3_5).bind fun t131 => (if t128 = t131 then ((match_Weight.f k2 x12_2 a2_0 a2_1 a2_2 a2_3 a2_4 l2_5 a3_0 a3_1 a3_2 a3_3 a3_4 l3_5).bind fun t132 => (some (t128 == t132))) else (some false))) else (some false)))) = some r := by rw [if_pos rfl] at H; exact H
      clear H
      have H := H1
      clear H1
      replace H := Option.bind_eq_some_iff.mp H
      obtain ⟨t129, A520, H⟩ := H
      replace H : ((match_Weight.f k2 l1 a2_0 a2_1 a2_2 a2_3 a2_4 l2_5 a3_0 a3_1 a3_2 a3_3 a3_4 l3_5).bind fun t130 => (if t128 = (wrap64 (t129 + t130)) then ((match_Weight.f k2 x11_2 a2_0 a2_1 a2_2 a2_3 a2_4 l2_5 a3_0 a3_1 a3_2 a3_3 a3_4 l3_5).bind fun t131 => (if t128 = t131 then ((match_Weight.f k2 x12_2 a2_0 a2_1 a2_2 a2_3 a2_4 l2_5 a3_0 a3_1 a3_2 a3_3 a3_4 l3_5).bind fun t132 => (some (t128 == t132))) else (some false))) else (some false))) = some r := H
      have A52 := Aside0.mk A520
      clear A520
      replace H := Option.bind_eq_some_iff.mp H
      obtain ⟨t130, A530, H⟩ := H
      replace H : (if t128 = (wrap64 (t129 + t130)) then ((match_Weight.f k2 x11_2 a2_0 a2_1 a2_2 a2_3 a2_4 l2_5 a3_0 a3_1 a3_2 a3_3 a3_4 l3_5).bind fun t131 => (if t128 = t131 then ((match_Weight.f k2 x12_2 a2_0 a2_1 a2_2 a2_3 a2_4 l2_5 a3_0 a3_1 a3_2 a3_3 a3_4 l3_5).bind fun t132 => (some (t128 == t132))) else (some false))) else (some false)) = some r := H
      have A53 := Aside0.mk A530
      clear A530
      by_cases c54 : t128 = (wrap64 (t129 + t130))
      ·rw [if_pos c54] at H
       have c54b0 : (t128 == (wrap64 (t129 + t130))) = true := beq_iff_eq.mpr c54
       have c54b1 : (t128 != (wrap64 (t129 + t130))) = false := bne_eq_false_iff_eq.mpr c54
       clear c54
       replace H := Option.bind_eq_some_iff.mp H
       obtain ⟨t131, A550, H⟩ := H
       replace H : (if t128 = t131 then ((match_Weight.f k2 x12_2 a2_0 a2_1 a2_2 a2_3 a2_4 l2_5 a3_0 a3_1 a3_2 a3_3 a3_4 l3_5).bind fun t132 => (some (t128 == t132))) else (some false)) = some r := H
       have A55 := Aside0.mk A550
       clear A550
       by_cases c56 : t128 = t131
       ·rw [if_pos c56] at H
        have c56b0 : (t128 == t131) = true := beq_iff_eq.mpr c56
        have c56b1 : (t128 != t131) = false := bne_eq_false_iff_eq.mpr c56
        clear c56
        replace H := Option.bind_eq_some_iff.mp H
        obtain ⟨t132, A570, H⟩ := H
        replace H : (some (t128 == t132)) = some r := H
        have A57 := Aside0.mk A570
        clear A570
        obtain rfl := Option.some.inj H
        obtain ⟨Ao58, co58, eo58⟩ := Kd.N_slice HO_10.out
        subst eo58
        have hnb59 := NB101_102.out
        have hnc59 := NB102_101.out
        have hcz60_0 := cel_ BK101.out 0 rfl
        have hcz60_1 := cel_ BK101.out 1 rfl
        have hcz60_2 := cel_ BK101.out 2 rfl
        have hcz60_3 := cel_ BK101.out 3 rfl
        have hcz60_4 := cel_ BK101.out 4 rfl
        have hcz60_5 := cel_ BK101.out 5 rfl
        have hfz60_0 := blk_frozen BK101.out 0
        have hfz60_1 := blk_frozen BK101.out 1
        have hfz60_2 := blk_frozen BK101.out 2
        have hfz60_3 := blk_frozen BK101.out 3
        have hfz60_4 := blk_frozen BK101.out 4
        have hfz60_5 := blk_frozen BK101.out 5
        have hcz61_0 := cel_ BK102.out 0 rfl
        have hcz61_1 := cel_ BK102.out 1 rfl
        have hcz61_2 := cel_ BK102.out 2 rfl
        have hcz61_3 := cel_ BK102.out 3 rfl
        have hcz61_4 := cel_ BK102.out 4 rfl
        have hcz61_5 := cel_ BK102.out 5 rfl
        have hfz61_0 := blk_frozen BK102.out 0
        have hfz61_1 := blk_frozen BK102.out 1
        have hfz61_2 := blk_frozen BK102.out 2
        have hfz61_3 := blk_frozen BK102.out 3
        have hfz61_4 := blk_frozen BK102.out 4
        have hfz61_5 := blk_frozen BK102.out 5
        try go_wp2_with (first | ((with_reducible refine gate_callee (f := 13) rfl ?_); refine goesL_ (some 67) rfl rfl Tryd.func13 (by kernel_rfl) rfl #[.slice Ao58 y115.length co58, .agg #[.int .i64 a2_0, .string a2_1, .string a2_2, .int .i64 a2_3, .int .i64 a2_4, .slice A2_5 l2_5.length c2_5], .agg #[.int .i64 a3_0, .string a3_1, .string a3_2, .int .i64 a3_3, .int .i64 a3_4, .slice A3_5 l3_5.length c3_5]] rfl (by (try simp only [List.map_toArray, List.map_cons, List.map_nil]); rfl) ?_; (with_reducible refine (match_Weight.calls k2 _ _ y115 a2_0 a2_1 a2_2 a2_3 a2_4 _ _ l2_5 a3_0 a3_1 a3_2 a3_3 a3_4 _ _ l3_5 t128 _ ?side1 ?side2 ?side3 ?side4 ?side5 ?side6 ?sGl A50.out).mono ?_); (case sGl => exact Gl.below HGl.out HB.out); (case side1 => repeat ((exact (Kd.N_reads' HO_10.out).2.2))); (case side2 => exact (Kd.N_reads' HO_10.out).2.1); (case side3 => repeat ((exact (Kd.V_reads' HO_102005.out).2.2))); (case side4 => exact (Kd.V_reads' HO_102005.out).2.1); (case side5 => repeat ((exact (Kd.V_reads' HO_103005.out).2.2))); (case side6 => exact (Kd.V_reads' HO_103005.out).2.1); rintro e w62 ⟨rfl, hb⟩; refine ⟨_, rfl, ?_⟩; have n0_ := Aside0.mk (Kd.V_below (by exact HO_0.out) hb); have n1_ := Aside0.mk (Kd.V_below (by exact HO_1.out) hb); have n2_ := Aside0.mk (Kd.N_below (by exact HO_10.out) hb); have n3_ := Aside0.mk (Kd.N_below (by exact HO_11.out) hb); have n4_ := Aside0.mk (Kd.N_below (by exact HO_12.out) hb); have n5_ := Aside0.mk (Kd.V_below (by exact HO_102005.out) hb); have n6_ := Aside0.mk (Kd.V_below (by exact HO_103005.out) hb); have n7_ := Aside0.mk (blk_below (by exact BK101.out) hb); have n8_ := Aside0.mk (blk_below (by exact BK102.out) hb); have n9_ := Aside0.mk (below_step HB.out hb); clear HO_0; clear HO_1; clear HO_10; clear HO_11; clear HO_12; clear HO_102005; clear HO_103005; clear BK101; clear BK102; clear HB; have HO_0 := n0_; have HO_1 := n1_; have HO_10 := n2_; have HO_11 := n3_; have HO_12 := n4_; have HO_102005 := n5_; have HO_103005 := n6_; have BK101 := n7_; have BK102 := n8_; have HB := n9_; clear n0_ n1_ n2_ n3_ n4_ n5_ n6_ n7_ n8_ n9_; (try clear hb)))
        have n0_ := Aside0.mk (Kd.V_drew HO_0.out)
        have n1_ := Aside0.mk (Kd.V_drew HO_1.out)
        have n2_ := Aside0.mk (Kd.N_drew HO_10.out)
        have n3_ := Aside0.mk (Kd.N_drew HO_11.out)
        have n4_ := Aside0.mk (Kd.N_drew HO_12.out)
        have n5_ := Aside0.mk (Kd.V_drew HO_102005.out)
        have n6_ := Aside0.mk (Kd.V_drew HO_103005.out)
        have n7_ := Aside0.mk (blk_drew BK101.out)
        have n8_ := Aside0.mk (blk_drew BK102.out)
        have n9_ := Aside0.mk (below_drew1 HB.out)
        clear HO_0
        clear HO_1
        clear HO_10
        clear HO_11
        clear HO_12
        clear HO_102005
        clear HO_103005
        clear BK101
        clear BK102
        clear HB
        have HO_0 := n0_
        have HO_1 := n1_
        have HO_10 := n2_
        have HO_11 := n3_
        have HO_12 := n4_
        have HO_102005 := n5_
        have HO_103005 := n6_
        have BK101 := n7_
        have BK102 := n8_
        have HB := n9_
        clear n0_ n1_ n2_ n3_ n4_ n5_ n6_ n7_ n8_ n9_
        refine start_ (n := 31) (S := fun w' => w'.cell? ⟨gb101, 0, none⟩ = some (.int .i64 a2_0) ∧ w'.cell? ⟨gb101, 1, none⟩ = some (.string a2_1) ∧ w'.cell? ⟨gb101, 2, none⟩ = some (.string a2_2) ∧ w'.cell? ⟨gb101, 3, none⟩ = some (.int .i64 a2_3) ∧ w'.cell? ⟨gb101, 4, none⟩ = some (.int .i64 a2_4) ∧ w'.cell? ⟨gb101, 5, none⟩ = some (.slice A2_5 l2_5.length c2_5) ∧ w'.cell? ⟨gb102, 0, none⟩ = some (.int .i64 a3_0) ∧ w'.cell? ⟨gb102, 1, none⟩ = some (.string a3_1) ∧ w'.cell? ⟨gb102, 2, none⟩ = some (.string a3_2) ∧ w'.cell? ⟨gb102, 3, none⟩ = some (.int .i64 a3_3) ∧ w'.cell? ⟨gb102, 4, none⟩ = some (.int .i64 a3_4) ∧ w'.cell? ⟨gb102, 5, none⟩ = some (.slice A3_5 l3_5.length c3_5)) (ds := []) #[Z0,Z0,Z0,Z0,Z0,Z0,Z0,Z0,Z0,Z0,Z0,Z0,Z0,Z0,Z0,Z0,Z0,Z0,Z0,Z0,Z0,Z0,Z0,Z0,Z0,Z0,Z0,Z0,Z0,Z0,Z0] (by kernel_rfl) rfl rfl ⟨(blk_cell BK101.out 0).trans rfl, (blk_cell BK101.out 1).trans rfl, (blk_cell BK101.out 2).trans rfl, (blk_cell BK101.out 3).trans rfl, (blk_cell BK101.out 4).trans rfl, (blk_cell BK101.out 5).trans rfl, (blk_cell BK102.out 0).trans rfl, (blk_cell BK102.out 1).trans rfl, (blk_cell BK102.out 2).trans rfl, (blk_cell BK102.out 3).trans rfl, (blk_cell BK102.out 4).trans rfl, (blk_cell BK102.out 5).trans rfl⟩ (fun hHeld => ?_); refine with_tabW cleanselaw20_MatchLists.tab14 cleanselaw20_MatchLists.bits14 (fun HT_ HW_ => ?_)
        generalize w62.drew = w63 at HO_0 HO_1 HO_10 HO_11 HO_12 HO_102005 HO_103005 BK101 BK102 HB hHeld ⊢
        refine pure_ (i := 0) (N := some 68) (v := ?_) (a' := ?_) #[Z1,Z0,Z0,Z0,Z0,Z0,Z0,Z0,Z0,Z0,Z0,Z0,Z0,Z0,Z0,Z0,Z0,Z0,Z0,Z0,Z0,Z0,Z0,Z0,Z0,Z0,Z0,Z0,Z0,Z0,Z0] rfl rfl (any_of HT_.out (by kernel_rfl)) (fun _ _ _ h => h) (Or.inl ⟨by rfl, ?_⟩) ?_ ?_
        rotate_left; intro w'; go_simp; with_reducible rfl; rotate_left; simp only [Act.put, pS_, pZ_, pC_, i64_w, i32_w]; rfl
        refine pure_ (i := 1) (N := some 69) (v := ?_) (a' := ?_) #[Z1,Z1,Z0,Z0,Z0,Z0,Z0,Z0,Z0,Z0,Z0,Z0,Z0,Z0,Z0,Z0,Z0,Z0,Z0,Z0,Z0,Z0,Z0,Z0,Z0,Z0,Z0,Z0,Z0,Z0,Z0] rfl rfl (any_of HT_.out (by kernel_rfl)) (fun _ _ _ h => h) (Or.inl ⟨by rfl, ?_⟩) ?_ ?_
        rotate_left; intro w'; go_simp; with_reducible rfl; rotate_left; simp only [Act.put, pS_, pZ_, pC_, i64_w, i32_w]; rfl
        refine pure_ (i := 2) (N := some 70) (v := ?_) (a' := ?_) #[Z1,Z1,Z1,Z0,Z0,Z0,Z0,Z0,Z0,Z0,Z0,Z0,Z0,Z0,Z0,Z0,Z0,Z0,Z0,Z0,Z0,Z0,Z0,Z0,Z0,Z0,Z0,Z0,Z0,Z0,Z0] rfl rfl (any_of HT_.out (by kernel_rfl)) (fun _ _ _ h => h) (Or.inl ⟨by rfl, ?_⟩) ?_ ?_
        rotate_left; intro w'; go_simp; with_reducible rfl; rotate_left; simp only [Act.put, pS_, pZ_, pC_, i64_w, i32_w]; rfl
        refine pure_ (i := 3) (N := some 71) (v := ?_) (a' := ?_) #[Z1,Z1,Z1,Z1,Z0,Z0,Z0,Z0,Z0,Z0,Z0,Z0,Z0,Z0,Z0,Z0,Z0,Z0,Z0,Z0,Z0,Z0,Z0,Z0,Z0,Z0,Z0,Z0,Z0,Z0,Z0] rfl rfl (any_of HT_.out (by kernel_rfl)) (fun _ _ _ h => h) (Or.inl ⟨by rfl, ?_⟩) ?_ ?_
        rotate_left; intro w'; go_simp; with_reducible rfl; rotate_left; simp only [Act.put, pS_, pZ_, pC_, i64_w, i32_w]; rfl
        refine pure_ (i := 7) (N := some 75) (v := ?_) (a' := ?_) #[Z1,Z1,Z1,Z1,Z0,Z0,Z0,Z1,Z0,Z0,Z0,Z0,Z0,Z0,Z0,Z0,Z0,Z0,Z0,Z0,Z0,Z0,Z0,Z0,Z0,Z0,Z0,Z0,Z0,Z0,Z0] rfl rfl (any_of HT_.out (by kernel_rfl)) (fun _ _ _ h => h) (Or.inl ⟨by rfl, ?_⟩) ?_ ?_
        rotate_left; intro w'; go_simp; with_reducible rfl; rotate_left; simp only [Act.put, pS_, pZ_, pC_, i64_w, i32_w]; rfl
        refine take_ (i := 4) (N := some 72) (v := ?_) (a' := ?_) #[Z1,Z1,Z1,Z1,Z1,Z0,Z0,Z1,Z0,Z0,Z0,Z0,Z0,Z0,Z0,Z0,Z0,Z0,Z0,Z0,Z0,Z0,Z0,Z0,Z0,Z0,Z0,Z0,Z0,Z0,Z0] rfl rfl (take_ofW HT_.out HW_.out (by kernel_rfl)) (fun _ _ _ h => h) (Or.inl ⟨by rfl, ?_⟩) hHeld ?_ ?_
        rotate_left; rintro w' ⟨s0, s1, s2, s3, s4, s5, s6, s7, s8, s9, s10, s11⟩; go_simp; with_reducible rfl; rotate_left; simp only [Act.put, pS_, pZ_, pC_, i64_w, i32_w]; rfl
        refine take_ (i := 5) (N := some 73) (v := ?_) (a' := ?_) #[Z1,Z1,Z1,Z1,Z1,Z1,Z0,Z1,Z0,Z0,Z0,Z0,Z0,Z0,Z0,Z0,Z0,Z0,Z0,Z0,Z0,Z0,Z0,Z0,Z0,Z0,Z0,Z0,Z0,Z0,Z0] rfl rfl (take_ofW HT_.out HW_.out (by kernel_rfl)) (fun _ _ _ h => h) (Or.inl ⟨by rfl, ?_⟩) hHeld ?_ ?_
        rotate_left; rintro w' ⟨s0, s1, s2, s3, s4, s5, s6, s7, s8, s9, s10, s11⟩; go_simp; with_reducible rfl; rotate_left; simp only [Act.put, pS_, pZ_, pC_, i64_w, i32_w]; rfl
        refine take_ (i := 8) (N := some 76) (v := ?_) (a' := ?_) #[Z1,Z1,Z1,Z1,Z1,Z1,Z0,Z1,Z1,Z0,Z0,Z0,Z0,Z0,Z0,Z0,Z0,Z0,Z0,Z0,Z0,Z0,Z0,Z0,Z0,Z0,Z0,Z0,Z0,Z0,Z0] rfl rfl (take_ofW HT_.out HW_.out (by kernel_rfl)) (fun _ _ _ h => h) (Or.inl ⟨by rfl, ?_⟩) hHeld ?_ ?_
        rotate_left; rintro w' ⟨s0, s1, s2, s3, s4, s5, s6, s7, s8, s9, s10, s11⟩; go_simp; with_reducible rfl; rotate_left; simp only [Act.put, pS_, pZ_, pC_, i64_w, i32_w]; rfl
        refine take_ (i := 9) (N := some 77) (v := ?_) (a' := ?_) #[Z1,Z1,Z1,Z1,Z1,Z1,Z0,Z1,Z1,Z1,Z0,Z0,Z0,Z0,Z0,Z0,Z0,Z0,Z0,Z0,Z0,Z0,Z0,Z0,Z0,Z0,Z0,Z0,Z0,Z0,Z0] rfl rfl (take_ofW HT_.out HW_.out (by kernel_rfl)) (fun _ _ _ h => h) (Or.inl ⟨by rfl, ?_⟩) hHeld ?_ ?_
        rotate_left; rintro w' ⟨s0, s1, s2, s3, s4, s5, s6, s7, s8, s9, s10, s11⟩; go_simp; with_reducible rfl; rotate_left; simp only [Act.put, pS_, pZ_, pC_, i64_w, i32_w]; rfl
        refine one_ (i := 6) (N := some 74) #[Z1,Z1,Z1,Z1,Z1,Z1,Z1,Z1,Z1,Z1,Z0,Z0,Z0,Z0,Z0,Z0,Z0,Z0,Z0,Z0,Z0,Z0,Z0,Z0,Z0,Z0,Z0,Z0,Z0,Z0,Z0] rfl rfl (one_of HT_.out (by kernel_rfl)) (by decide) (fun K hK => ?_)
        refine goes_ Tryd.func13 (by kernel_rfl) rfl #[.slice A0 l0.length c0, .agg #[.int .i64 a2_0, .string a2_1, .string a2_2, .int .i64 a2_3, .int .i64 a2_4, .slice A2_5 l2_5.length c2_5], .agg #[.int .i64 a3_0, .string a3_1, .string a3_2, .int .i64 a3_3, .int .i64 a3_4, .slice A3_5 l3_5.length c3_5]] (by rfl) rfl rfl (by (try simp only [List.map_toArray, List.map_cons, List.map_nil]); rfl) ?_
        with_reducible refine (match_Weight.calls k2 _ _ l0 a2_0 a2_1 a2_2 a2_3 a2_4 _ _ l2_5 a3_0 a3_1 a3_2 a3_3 a3_4 _ _ l3_5 t129 _ ?side1 ?side2 ?side3 ?side4 ?side5 ?side6 ?sGl A52.out).mono ?_
        case sGl => exact Gl.below HGl.out HB.out
        (case side1 => repeat ((exact (Kd.V_reads' HO_0.out).2.2)))
        (case side2 => exact (Kd.V_reads' HO_0.out).2.1)
        (case side3 => repeat ((exact (Kd.V_reads' HO_102005.out).2.2)))
        (case side4 => exact (Kd.V_reads' HO_102005.out).2.1)
        (case side5 => repeat ((exact (Kd.V_reads' HO_103005.out).2.2)))
        (case side6 => exact (Kd.V_reads' HO_103005.out).2.1)
        rintro e w64 ⟨rfl, hb⟩
        refine ⟨_, rfl, ?_⟩
        have n0_ := Aside0.mk (Kd.V_below (by exact HO_0.out) hb)
        have n1_ := Aside0.mk (Kd.V_below (by exact HO_1.out) hb)
        have n2_ := Aside0.mk (Kd.N_below (by exact HO_10.out) hb)
        have n3_ := Aside0.mk (Kd.N_below (by exact HO_11.out) hb)
        have n4_ := Aside0.mk (Kd.N_below (by exact HO_12.out) hb)
        have n5_ := Aside0.mk (Kd.V_below (by exact HO_102005.out) hb)
        have n6_ := Aside0.mk (Kd.V_below (by exact HO_103005.out) hb)
        have n7_ := Aside0.mk (blk_below (by exact BK101.out) hb)
        have n8_ := Aside0.mk (blk_below (by exact BK102.out) hb)
        have n9_ := Aside0.mk (below_step HB.out hb)
        clear HO_0
        clear HO_1
        clear HO_10
        clear HO_11
        clear HO_12
        clear HO_102005
        clear HO_103005
        clear BK101
        clear BK102
        clear HB
        have HO_0 := n0_
        have HO_1 := n1_
        have HO_10 := n2_
        have HO_11 := n3_
        have HO_12 := n4_
        have HO_102005 := n5_
        have HO_103005 := n6_
        have BK101 := n7_
        have BK102 := n8_
        have HB := n9_
        clear n0_ n1_ n2_ n3_ n4_ n5_ n6_ n7_ n8_ n9_
        (try clear hb)
        refine hK.out _ _ ⟨(blk_cell BK101.out 0).trans rfl, (blk_cell BK101.out 1).trans rfl, (blk_cell BK101.out 2).trans rfl, (blk_cell BK101.out 3).trans rfl, (blk_cell BK101.out 4).trans rfl, (blk_cell BK101.out 5).trans rfl, (blk_cell BK102.out 0).trans rfl, (blk_cell BK102.out 1).trans rfl, (blk_cell BK102.out 2).trans rfl, (blk_cell BK102.out 3).trans rfl, (blk_cell BK102.out 4).trans rfl, (blk_cell BK102.out 5).trans rfl⟩ (fun hHeld => ?_)
        clear hK K
        refine norm_ (a' := ?_) ?_ ?_
        rotate_left; show Act.put _ (some 74) _ = _; simp only [Act.put, pS_, pZ_, pC_, i64_w, i32_w]; rfl
        refine one_ (i := 10) (N := some 78) #[Z1,Z1,Z1,Z1,Z1,Z1,Z1,Z1,Z1,Z1,Z1,Z0,Z0,Z0,Z0,Z0,Z0,Z0,Z0,Z0,Z0,Z0,Z0,Z0,Z0,Z0,Z0,Z0,Z0,Z0,Z0] rfl rfl (one_of HT_.out (by kernel_rfl)) (by decide) (fun K hK => ?_)
        refine goes_ Tryd.func13 (by kernel_rfl) rfl #[.slice A1 l1.length c1, .agg #[.int .i64 a2_0, .string a2_1, .string a2_2, .int .i64 a2_3, .int .i64 a2_4, .slice A2_5 l2_5.length c2_5], .agg #[.int .i64 a3_0, .string a3_1, .string a3_2, .int .i64 a3_3, .int .i64 a3_4, .slice A3_5 l3_5.length c3_5]] (by rfl) rfl rfl (by (try simp only [List.map_toArray, List.map_cons, List.map_nil]); rfl) ?_
        with_reducible refine (match_Weight.calls k2 _ _ l1 a2_0 a2_1 a2_2 a2_3 a2_4 _ _ l2_5 a3_0 a3_1 a3_2 a3_3 a3_4 _ _ l3_5 t130 _ ?side1 ?side2 ?side3 ?side4 ?side5 ?side6 ?sGl A53.out).mono ?_
        case sGl => exact Gl.below HGl.out HB.out
        (case side1 => repeat ((exact (Kd.V_reads' HO_1.out).2.2)))
        (case side2 => exact (Kd.V_reads' HO_1.out).2.1)
        (case side3 => repeat ((exact (Kd.V_reads' HO_102005.out).2.2)))
        (case side4 => exact (Kd.V_reads' HO_102005.out).2.1)
        (case side5 => repeat ((exact (Kd.V_reads' HO_103005.out).2.2)))
        (case side6 => exact (Kd.V_reads' HO_103005.out).2.1)
        rintro e w65 ⟨rfl, hb⟩
        refine ⟨_, rfl, ?_⟩
        have n0_ := Aside0.mk (Kd.V_below (by exact HO_0.out) hb)
        have n1_ := Aside0.mk (Kd.V_below (by exact HO_1.out) hb)
        have n2_ := Aside0.mk (Kd.N_below (by exact HO_10.out) hb)
        have n3_ := Aside0.mk (Kd.N_below (by exact HO_11.out) hb)
        have n4_ := Aside0.mk (Kd.N_below (by exact HO_12.out) hb)
        have n5_ := Aside0.mk (Kd.V_below (by exact HO_102005.out) hb)
        have n6_ := Aside0.mk (Kd.V_below (by exact HO_103005.out) hb)
        have n7_ := Aside0.mk (blk_below (by exact BK101.out) hb)
        have n8_ := Aside0.mk (blk_below (by exact BK102.out) hb)
        have n9_ := Aside0.mk (below_step HB.out hb)
        clear HO_0
        clear HO_1
        clear HO_10
        clear HO_11
        clear HO_12
        clear HO_102005
        clear HO_103005
        clear BK101
        clear BK102
        clear HB
        have HO_0 := n0_
        have HO_1 := n1_
        have HO_10 := n2_
        have HO_11 := n3_
        have HO_12 := n4_
        have HO_102005 := n5_
        have HO_103005 := n6_
        have BK101 := n7_
        have BK102 := n8_
        have HB := n9_
        clear n0_ n1_ n2_ n3_ n4_ n5_ n6_ n7_ n8_ n9_
        (try clear hb)
        obtain ⟨Ao66, co66, eo66⟩ := Kd.N_slice HO_11.out
        (subst eo66)
        refine hK.out _ _ ⟨(blk_cell BK101.out 0).trans rfl, (blk_cell BK101.out 1).trans rfl, (blk_cell BK101.out 2).trans rfl, (blk_cell BK101.out 3).trans rfl, (blk_cell BK101.out 4).trans rfl, (blk_cell BK101.out 5).trans rfl, (blk_cell BK102.out 0).trans rfl, (blk_cell BK102.out 1).trans rfl, (blk_cell BK102.out 2).trans rfl, (blk_cell BK102.out 3).trans rfl, (blk_cell BK102.out 4).trans rfl, (blk_cell BK102.out 5).trans rfl⟩ (fun hHeld => ?_)
        clear hK K
        refine norm_ (a' := ?_) ?_ ?_
        rotate_left; show Act.put _ (some 78) _ = _; simp only [Act.put, pS_, pZ_, pC_, i64_w, i32_w]; rfl
        refine pure_ (i := 11) (N := some 79) (v := ?_) (a' := ?_) #[Z1,Z1,Z1,Z1,Z1,Z1,Z1,Z1,Z1,Z1,Z1,Z1,Z0,Z0,Z0,Z0,Z0,Z0,Z0,Z0,Z0,Z0,Z0,Z0,Z0,Z0,Z0,Z0,Z0,Z0,Z0] rfl rfl (any_of HT_.out (by kernel_rfl)) (fun _ _ _ h => h) (Or.inl ⟨by rfl, ?_⟩) ?_ ?_
        rotate_left; intro w'; go_simp; with_reducible rfl; rotate_left; simp only [Act.put, pS_, pZ_, pC_, i64_w, i32_w]; rfl
        refine pure_ (i := 12) (N := some 80) (v := ?_) (a' := ?_) #[Z1,Z1,Z1,Z1,Z1,Z1,Z1,Z1,Z1,Z1,Z1,Z1,Z1,Z0,Z0,Z0,Z0,Z0,Z0,Z0,Z0,Z0,Z0,Z0,Z0,Z0,Z0,Z0,Z0,Z0,Z0] rfl rfl (any_of HT_.out (by kernel_rfl)) (fun _ _ _ h => h) (Or.inl ⟨by rfl, ?_⟩) ?_ ?_
        rotate_left; intro w'; go_simp; with_reducible rfl; rotate_left; simp only [Act.put, pS_, pZ_, pC_, i64_w, i32_w]; rfl
        refine pure_ (i := 13) (N := some 81) (v := ?_) (a' := ?_) #[Z1,Z1,Z1,Z1,Z1,Z1,Z1,Z1,Z1,Z1,Z1,Z1,Z1,Z1,Z0,Z0,Z0,Z0,Z0,Z0,Z0,Z0,Z0,Z0,Z0,Z0,Z0,Z0,Z0,Z0,Z0] rfl rfl (any_of HT_.out (by kernel_rfl)) (fun _ _ _ h => h) (Or.inl ⟨by rfl, ?_⟩) ?_ ?_
        rotate_left; intro w'; go_simp; with_reducible rfl; rotate_left; simp only [Act.put, pS_, pZ_, pC_, i64_w, i32_w]; rfl
        refine pure_ (i := 14) (N := some 82) (v := ?_) (a' := ?_) #[Z1,Z1,Z1,Z1,Z1,Z1,Z1,Z1,Z1,Z1,Z1,Z1,Z1,Z1,Z1,Z0,Z0,Z0,Z0,Z0,Z0,Z0,Z0,Z0,Z0,Z0,Z0,Z0,Z0,Z0,Z0] rfl rfl (any_of HT_.out (by kernel_rfl)) (fun _ _ _ h => h) (Or.inl ⟨by rfl, ?_⟩) ?_ ?_
        rotate_left; intro w'; go_simp; with_reducible rfl; rotate_left; simp only [Act.put, pS_, pZ_, pC_, i64_w, i32_w]; rfl
        refine pure_ (i := 15) (N := some 83) (v := ?_) (a' := ?_) #[Z1,Z1,Z1,Z1,Z1,Z1,Z1,Z1,Z1,Z1,Z1,Z1,Z1,Z1,Z1,Z1,Z0,Z0,Z0,Z0,Z0,Z0,Z0,Z0,Z0,Z0,Z0,Z0,Z0,Z0,Z0] rfl rfl (any_of HT_.out (by kernel_rfl)) (fun _ _ _ h => h) (Or.inl ⟨by rfl, ?_⟩) ?_ ?_
        rotate_left; intro w'; go_simp; with_reducible rfl; rotate_left; simp only [Act.put, pS_, pZ_, pC_, i64_w, i32_w]; rfl
        refine pure_ (i := 16) (N := some 84) (v := ?_) (a' := ?_) #[Z1,Z1,Z1,Z1,Z1,Z1,Z1,Z1,Z1,Z1,Z1,Z1,Z1,Z1,Z1,Z1,Z1,Z0,Z0,Z0,Z0,Z0,Z0,Z0,Z0,Z0,Z0,Z0,Z0,Z0,Z0] rfl rfl (any_of HT_.out (by kernel_rfl)) (fun _ _ _ h => h) (Or.inl ⟨by rfl, ?_⟩) ?_ ?_
        rotate_left; intro w'; go_simp; with_reducible rfl; rotate_left; simp only [Act.put, pS_, pZ_, pC_, i64_w, i32_w]; rfl
        refine take_ (i := 17) (N := some 85) (v := ?_) (a' := ?_) #[Z1,Z1,Z1,Z1,Z1,Z1,Z1,Z1,Z1,Z1,Z1,Z1,Z1,Z1,Z1,Z1,Z1,Z1,Z0,Z0,Z0,Z0,Z0,Z0,Z0,Z0,Z0,Z0,Z0,Z0,Z0] rfl rfl (take_ofW HT_.out HW_.out (by kernel_rfl)) (fun _ _ _ h => h) (Or.inl ⟨by rfl, ?_⟩) hHeld ?_ ?_
        rotate_left; rintro w' ⟨s0, s1, s2, s3, s4, s5, s6, s7, s8, s9, s10, s11⟩; go_simp; with_reducible rfl; rotate_left; simp only [Act.put, pS_, pZ_, pC_, i64_w, i32_w]; rfl
        refine take_ (i := 18) (N := some 86) (v := ?_) (a' := ?_) #[Z1,Z1,Z1,Z1,Z1,Z1,Z1,Z1,Z1,Z1,Z1,Z1,Z1,Z1,Z1,Z1,Z1,Z1,Z1,Z0,Z0,Z0,Z0,Z0,Z0,Z0,Z0,Z0,Z0,Z0,Z0] rfl rfl (take_ofW HT_.out HW_.out (by kernel_rfl)) (fun _ _ _ h => h) (Or.inl ⟨by rfl, ?_⟩) hHeld ?_ ?_
        rotate_left; rintro w' ⟨s0, s1, s2, s3, s4, s5, s6, s7, s8, s9, s10, s11⟩; go_simp; with_reducible rfl; rotate_left; simp only [Act.put, pS_, pZ_, pC_, i64_w, i32_w]; rfl
        refine one_ (i := 19) (N := some 87) #[Z1,Z1,Z1,Z1,Z1,Z1,Z1,Z1,Z1,Z1,Z1,Z1,Z1,Z1,Z1,Z1,Z1,Z1,Z1,Z1,Z0,Z0,Z0,Z0,Z0,Z0,Z0,Z0,Z0,Z0,Z0] rfl rfl (one_of HT_.out (by kernel_rfl)) (by decide) (fun K hK => ?_)
        refine goes_ Tryd.func13 (by kernel_rfl) rfl #[.slice Ao66 x11_2.length co66, .agg #[.int .i64 a2_0, .string a2_1, .string a2_2, .int .i64 a2_3, .int .i64 a2_4, .slice A2_5 l2_5.length c2_5], .agg #[.int .i64 a3_0, .string a3_1, .string a3_2, .int .i64 a3_3, .int .i64 a3_4, .slice A3_5 l3_5.length c3_5]] (by rfl) rfl rfl (by (try simp only [List.map_toArray, List.map_cons, List.map_nil]); rfl) ?_
        with_reducible refine (match_Weight.calls k2 _ _ x11_2 a2_0 a2_1 a2_2 a2_3 a2_4 _ _ l2_5 a3_0 a3_1 a3_2 a3_3 a3_4 _ _ l3_5 t131 _ ?side1 ?side2 ?side3 ?side4 ?side5 ?side6 ?sGl A55.out).mono ?_
        case sGl => exact Gl.below HGl.out HB.out
        (case side1 => repeat ((exact (Kd.N_reads' HO_11.out).2.2)))
        (case side2 => exact (Kd.N_reads' HO_11.out).2.1)
        (case side3 => repeat ((exact (Kd.V_reads' HO_102005.out).2.2)))
        (case side4 => exact (Kd.V_reads' HO_102005.out).2.1)
        (case side5 => repeat ((exact (Kd.V_reads' HO_103005.out).2.2)))
        (case side6 => exact (Kd.V_reads' HO_103005.out).2.1)
        rintro e w67 ⟨rfl, hb⟩
        refine ⟨_, rfl, ?_⟩
        have n0_ := Aside0.mk (Kd.V_below (by exact HO_0.out) hb)
        have n1_ := Aside0.mk (Kd.V_below (by exact HO_1.out) hb)
        have n2_ := Aside0.mk (Kd.N_below (by exact HO_10.out) hb)
        have n3_ := Aside0.mk (Kd.N_below (by exact HO_11.out) hb)
        have n4_ := Aside0.mk (Kd.N_below (by exact HO_12.out) hb)
        have n5_ := Aside0.mk (Kd.V_below (by exact HO_102005.out) hb)
        have n6_ := Aside0.mk (Kd.V_below (by exact HO_103005.out) hb)
        have n7_ := Aside0.mk (blk_below (by exact BK101.out) hb)
        have n8_ := Aside0.mk (blk_below (by exact BK102.out) hb)
        have n9_ := Aside0.mk (below_step HB.out hb)
        clear HO_0
        clear HO_1
        clear HO_10
        clear HO_11
        clear HO_12
        clear HO_102005
        clear HO_103005
        clear BK101
        clear BK102
        clear HB
        have HO_0 := n0_
        have HO_1 := n1_
        have HO_10 := n2_
        have HO_11 := n3_
        have HO_12 := n4_
        have HO_102005 := n5_
        have HO_103005 := n6_
        have BK101 := n7_
        have BK102 := n8_
        have HB := n9_
        clear n0_ n1_ n2_ n3_ n4_ n5_ n6_ n7_ n8_ n9_
        (try clear hb)
        obtain ⟨Ao68, co68, eo68⟩ := Kd.N_slice HO_12.out
        (subst eo68)
        refine hK.out _ _ ⟨(blk_cell BK101.out 0).trans rfl, (blk_cell BK101.out 1).trans rfl, (blk_cell BK101.out 2).trans rfl, (blk_cell BK101.out 3).trans rfl, (blk_cell BK101.out 4).trans rfl, (blk_cell BK101.out 5).trans rfl, (blk_cell BK102.out 0).trans rfl, (blk_cell BK102.out 1).trans rfl, (blk_cell BK102.out 2).trans rfl, (blk_cell BK102.out 3).trans rfl, (blk_cell BK102.out 4).trans rfl, (blk_cell BK102.out 5).trans rfl⟩ (fun hHeld => ?_)
        clear hK K
        refine norm_ (a' := ?_) ?_ ?_
        rotate_left; show Act.put _ (some 87) _ = _; simp only [Act.put, pS_, pZ_, pC_, i64_w, i32_w]; rfl
        refine pure_ (i := 20) (N := some 88) (v := ?_) (a' := ?_) #[Z1,Z1,Z1,Z1,Z1,Z1,Z1,Z1,Z1,Z1,Z1,Z1,Z1,Z1,Z1,Z1,Z1,Z1,Z1,Z1,Z1,Z0,Z0,Z0,Z0,Z0,Z0,Z0,Z0,Z0,Z0] rfl rfl (any_of HT_.out (by kernel_rfl)) (fun _ _ _ h => h) (Or.inl ⟨by rfl, ?_⟩) ?_ ?_
        rotate_left; intro w'; go_simp; with_reducible rfl; rotate_left; simp only [Act.put, pS_, pZ_, pC_, i64_w, i32_w]; rfl
        refine pure_ (i := 21) (N := some 89) (v := ?_) (a' := ?_) #[Z1,Z1,Z1,Z1,Z1,Z1,Z1,Z1,Z1,Z1,Z1,Z1,Z1,Z1,Z1,Z1,Z1,Z1,Z1,Z1,Z1,Z1,Z0,Z0,Z0,Z0,Z0,Z0,Z0,Z0,Z0] rfl rfl (any_of HT_.out (by kernel_rfl)) (fun _ _ _ h => h) (Or.inl ⟨by rfl, ?_⟩) ?_ ?_
        rotate_left; intro w'; go_simp; with_reducible rfl; rotate_left; simp only [Act.put, pS_, pZ_, pC_, i64_w, i32_w]; rfl
        refine pure_ (i := 22) (N := some 90) (v := ?_) (a' := ?_) #[Z1,Z1,Z1,Z1,Z1,Z1,Z1,Z1,Z1,Z1,Z1,Z1,Z1,Z1,Z1,Z1,Z1,Z1,Z1,Z1,Z1,Z1,Z1,Z0,Z0,Z0,Z0,Z0,Z0,Z0,Z0] rfl rfl (any_of HT_.out (by kernel_rfl)) (fun _ _ _ h => h) (Or.inl ⟨by rfl, ?_⟩) ?_ ?_
        rotate_left; intro w'; go_simp; with_reducible rfl; rotate_left; simp only [Act.put, pS_, pZ_, pC_, i64_w, i32_w]; rfl
        refine pure_ (i := 23) (N := some 91) (v := ?_) (a' := ?_) #[Z1,Z1,Z1,Z1,Z1,Z1,Z1,Z1,Z1,Z1,Z1,Z1,Z1,Z1,Z1,Z1,Z1,Z1,Z1,Z1,Z1,Z1,Z1,Z1,Z0,Z0,Z0,Z0,Z0,Z0,Z0] rfl rfl (any_of HT_.out (by kernel_rfl)) (fun _ _ _ h => h) (Or.inl ⟨by rfl, ?_⟩) ?_ ?_
        rotate_left; intro w'; go_simp; with_reducible rfl; rotate_left; simp only [Act.put, pS_, pZ_, pC_, i64_w, i32_w]; rfl
        refine pure_ (i := 24) (N := some 92) (v := ?_) (a' := ?_) #[Z1,Z1,Z1,Z1,Z1,Z1,Z1,Z1,Z1,Z1,Z1,Z1,Z1,Z1,Z1,Z1,Z1,Z1,Z1,Z1,Z1,Z1,Z1,Z1,Z1,Z0,Z0,Z0,Z0,Z0,Z0] rfl rfl (any_of HT_.out (by kernel_rfl)) (fun _ _ _ h => h) (Or.inl ⟨by rfl, ?_⟩) ?_ ?_
        rotate_left; intro w'; go_simp; with_reducible rfl; rotate_left; simp only [Act.put, pS_, pZ_, pC_, i64_w, i32_w]; rfl
        refine take_ (i := 25) (N := some 93) (v := ?_) (a' := ?_) #[Z1,Z1,Z1,Z1,Z1,Z1,Z1,Z1,Z1,Z1,Z1,Z1,Z1,Z1,Z1,Z1,Z1,Z1,Z1,Z1,Z1,Z1,Z1,Z1,Z1,Z1,Z0,Z0,Z0,Z0,Z0] rfl rfl (take_ofW HT_.out HW_.out (by kernel_rfl)) (fun _ _ _ h => h) (Or.inl ⟨by rfl, ?_⟩) hHeld ?_ ?_
        rotate_left; rintro w' ⟨s0, s1, s2, s3, s4, s5, s6, s7, s8, s9, s10, s11⟩; go_simp; with_reducible rfl; rotate_left; simp only [Act.put, pS_, pZ_, pC_, i64_w, i32_w]; rfl
        refine take_ (i := 26) (N := some 94) (v := ?_) (a' := ?_) #[Z1,Z1,Z1,Z1,Z1,Z1,Z1,Z1,Z1,Z1,Z1,Z1,Z1,Z1,Z1,Z1,Z1,Z1,Z1,Z1,Z1,Z1,Z1,Z1,Z1,Z1,Z1,Z0,Z0,Z0,Z0] rfl rfl (take_ofW HT_.out HW_.out (by kernel_rfl)) (fun _ _ _ h => h) (Or.inl ⟨by rfl, ?_⟩) hHeld ?_ ?_
        rotate_left; rintro w' ⟨s0, s1, s2, s3, s4, s5, s6, s7, s8, s9, s10, s11⟩; go_simp; with_reducible rfl; rotate_left; simp only [Act.put, pS_, pZ_, pC_, i64_w, i32_w]; rfl
        refine one_ (i := 27) (N := some 95) #[Z1,Z1,Z1,Z1,Z1,Z1,Z1,Z1,Z1,Z1,Z1,Z1,Z1,Z1,Z1,Z1,Z1,Z1,Z1,Z1,Z1,Z1,Z1,Z1,Z1,Z1,Z1,Z1,Z0,Z0,Z0] rfl rfl (one_of HT_.out (by kernel_rfl)) (by decide) (fun K hK => ?_)
        refine goes_ Tryd.func13 (by kernel_rfl) rfl #[.slice Ao68 x12_2.length co68, .agg #[.int .i64 a2_0, .string a2_1, .string a2_2, .int .i64 a2_3, .int .i64 a2_4, .slice A2_5 l2_5.length c2_5], .agg #[.int .i64 a3_0, .string a3_1, .string a3_2, .int .i64 a3_3, .int .i64 a3_4, .slice A3_5 l3_5.length c3_5]] (by rfl) rfl rfl (by (try simp only [List.map_toArray, List.map_cons, List.map_nil]); rfl) ?_
        with_reducible refine (match_Weight.calls k2 _ _ x12_2 a2_0 a2_1 a2_2 a2_3 a2_4 _ _ l2_5 a3_0 a3_1 a3_2 a3_3 a3_4 _ _ l3_5 t132 _ ?side1 ?side2 ?side3 ?side4 ?side5 ?side6 ?sGl A57.out).mono ?_
        case sGl => exact Gl.below HGl.out HB.out
        (case side1 => repeat ((exact (Kd.N_reads' HO_12.out).2.2)))
        (case side2 => exact (Kd.N_reads' HO_12.out).2.1)
        (case side3 => repeat ((exact (Kd.V_reads' HO_102005.out).2.2)))
        (case side4 => exact (Kd.V_reads' HO_102005.out).2.1)
        (case side5 => repeat ((exact (Kd.V_reads' HO_103005.out).2.2)))
        (case side6 => exact (Kd.V_reads' HO_103005.out).2.1)
        rintro e w69 ⟨rfl, hb⟩
        refine ⟨_, rfl, ?_⟩
        have n0_ := Aside0.mk (Kd.V_below (by exact HO_0.out) hb)
        have n1_ := Aside0.mk (Kd.V_below (by exact HO_1.out) hb)
        have n2_ := Aside0.mk (Kd.N_below (by exact HO_10.out) hb)
        have n3_ := Aside0.mk (Kd.N_below (by exact HO_11.out) hb)
        have n4_ := Aside0.mk (Kd.N_below (by exact HO_12.out) hb)
        have n5_ := Aside0.mk (Kd.V_below (by exact HO_102005.out) hb)
        have n6_ := Aside0.mk (Kd.V_below (by exact HO_103005.out) hb)
        have n7_ := Aside0.mk (blk_below (by exact BK101.out) hb)
        have n8_ := Aside0.mk (blk_below (by exact BK102.out) hb)
        have n9_ := Aside0.mk (below_step HB.out hb)
        clear HO_0
        clear HO_1
        clear HO_10
        clear HO_11
        clear HO_12
        clear HO_102005
        clear HO_103005
        clear BK101
        clear BK102
        clear HB
        have HO_0 := n0_
        have HO_1 := n1_
        have HO_10 := n2_
        have HO_11 := n3_
        have HO_12 := n4_
        have HO_102005 := n5_
        have HO_103005 := n6_
        have BK101 := n7_
        have BK102 := n8_
        have HB := n9_
        clear n0_ n1_ n2_ n3_ n4_ n5_ n6_ n7_ n8_ n9_
        (try clear hb)
        refine hK.out _ _ ⟨(blk_cell BK101.out 0).trans rfl, (blk_cell BK101.out 1).trans rfl, (blk_cell BK101.out 2).trans rfl, (blk_cell BK101.out 3).trans rfl, (blk_cell BK101.out 4).trans rfl, (blk_cell BK101.out 5).trans rfl, (blk_cell BK102.out 0).trans rfl, (blk_cell BK102.out 1).trans rfl, (blk_cell BK102.out 2).trans rfl, (blk_cell BK102.out 3).trans rfl, (blk_cell BK102.out 4).trans rfl, (blk_cell BK102.out 5).trans rfl⟩ (fun hHeld => ?_)
        clear hK K
        refine norm_ (a' := ?_) ?_ ?_
        rotate_left; show Act.put _ (some 95) _ = _; simp only [Act.put, pS_, pZ_, pC_, i64_w, i32_w]; rfl
        refine pure_ (i := 28) (N := some 96) (v := ?_) (a' := ?_) #[Z1,Z1,Z1,Z1,Z1,Z1,Z1,Z1,Z1,Z1,Z1,Z1,Z1,Z1,Z1,Z1,Z1,Z1,Z1,Z1,Z1,Z1,Z1,Z1,Z1,Z1,Z1,Z1,Z1,Z0,Z0] rfl rfl (any_of HT_.out (by kernel_rfl)) (fun _ _ _ h => h) (Or.inl ⟨by rfl, ?_⟩) ?_ ?_
        rotate_left; intro w'; go_simp; with_reducible rfl; rotate_left; simp only [Act.put, pS_, pZ_, pC_, i64_w, i32_w]; rfl
        refine pure_ (i := 29) (N := some 97) (v := ?_) (a' := ?_) #[Z1,Z1,Z1,Z1,Z1,Z1,Z1,Z1,Z1,Z1,Z1,Z1,Z1,Z1,Z1,Z1,Z1,Z1,Z1,Z1,Z1,Z1,Z1,Z1,Z1,Z1,Z1,Z1,Z1,Z1,Z0] rfl rfl (any_of HT_.out (by kernel_rfl)) (fun _ _ _ h => h) (Or.inl ⟨by rfl, ?_⟩) ?_ ?_
        rotate_left; intro w'; go_simp; with_reducible rfl; rotate_left; simp only [Act.put, pS_, pZ_, pC_, i64_w, i32_w]; rfl
        refine pure_ (i := 30) (N := some 8) (v := ?_) (a' := ?_) #[Z1,Z1,Z1,Z1,Z1,Z1,Z1,Z1,Z1,Z1,Z1,Z1,Z1,Z1,Z1,Z1,Z1,Z1,Z1,Z1,Z1,Z1,Z1,Z1,Z1,Z1,Z1,Z1,Z1,Z1,Z1] rfl rfl (any_of HT_.out (by kernel_rfl)) (fun _ _ _ h => h) (Or.inl ⟨by rfl, ?_⟩) ?_ ?_
        rotate_left; intro w'; go_simp; with_reducible rfl; rotate_left; simp only [Act.put, pS_, pZ_, pC_, i64_w, i32_w]; rfl
        refine done_ (done_of HT_.out (by kernel_rfl)) ?_
        try go_wp2
        go_ret
        exact ⟨by rfl, by repeat ((with_reducible (exact HB.out)))⟩
       rw [if_neg c56] at H
       have c56b0 : (t128 == t131) = false := beq_eq_false_iff_ne.mpr c56
       have c56b1 : (t128 != t131) = true := bne_iff_ne.mpr c56
       exact absurd ((Option.some.inj H).trans HT.out) (by decide)
      rw [if_neg c54] at H
      have c54b0 : (t128 == (wrap64 (t129 + t130))) = false := beq_eq_false_iff_ne.mpr c54
      have c54b1 : (t128 != (wrap64 (t129 + t130))) = true := bne_iff_ne.mpr c54
      exact absurd ((Option.some.inj H).trans HT.out) (by decide)
     replace c51 := Bool.eq_false_iff.mpr c51
     subst c51
     have H1 : (some false) = some r := by rw [if_neg (show ¬ (false = true) by decide)] at H; exact H
     clear H
     have H := H1
     clear H1
     exact absurd ((Option.some.inj H).trans HT.out) (by decide)
   rw [if_neg c27] at H
   exact absurd H (by simp)
  rw [if_neg c26] at H
  exact absurd H (by simp)

end Go.Proofs.YtiffkknhnmpgbaaDoor.LLists
end

section
/- The plain law of MatchLists. -/
namespace Go.Proofs.YtiffkknhnmpgbaaDoor.Pure
open Go Go.RowKit Go.Proofs.YtiffkknhnmpgbaaDoor.Q Go.Proofs.YtiffkknhnmpgbaaDoor.R Go.Proofs.YtiffkknhnmpgbaaDoor.LLists Go.Proofs.YtiffkknhnmpgbaaDoorW.PrintWords Go.Proofs.YtiffkknhnmpgbaaDoorW.PrintLast Go.Proofs.YtiffkknhnmpgbaaDoorW.PrintMore
set_option linter.unusedVariables false
set_option linter.unusedSimpArgs false
theorem weightS_app (x y : List Ma) (ta tb : Int) (a b : List Ce) : weightS (x ++ y) ta tb a b = weightS x ta tb a b + weightS y ta tb a b := by
  unfold weightS; rw [List.map_append]
  induction x with
  | nil => simp
  | cons m x ih => simp only [List.map_cons, List.cons_append, List.sum_cons, ih]; omega
theorem weightS_rev (x : List Ma) (ta tb : Int) (a b : List Ce) : weightS x.reverse ta tb a b = weightS x ta tb a b := by
  induction x with
  | nil => rfl
  | cons m x ih =>
    rw [List.reverse_cons, weightS_app, ih]
    simp only [weightS, List.map_cons, List.map_nil, List.sum_cons, List.sum_nil]; omega
theorem weightS_filter (x : List Ma) (ta tb : Int) (a b : List Ce) : weightS (x.filter fun m => aboutB m.f1 m.f2 m.f3 ta tb) ta tb a b = weightS x ta tb a b := by
  induction x with
  | nil => rfl
  | cons m x ih =>
    rw [List.filter_cons]
    by_cases h : aboutB m.f1 m.f2 m.f3 ta tb = true
    · rw [if_pos h]
      simp only [weightS, List.map_cons, List.sum_cons] at ih ⊢; omega
    · rw [if_neg h]
      have e : addS m ta tb a b = 0 := by unfold addS; rw [if_neg h]
      simp only [weightS, List.map_cons, List.sum_cons, e] at ih ⊢; omega
theorem weightS_bound (x : List Ma) (ta tb : Int) (a b : List Ce) : -300000 * (x.length : Int) ≤ weightS x ta tb a b ∧ weightS x ta tb a b ≤ 300000 * (x.length : Int) := by
  induction x with
  | nil => simp [weightS]
  | cons m x ih =>
    have := add_bound m ta tb a b
    simp only [weightS, List.map_cons, List.sum_cons, List.length_cons] at ih ⊢; omega
theorem lists_l0 (x0 x1 l : List Ma) (a b : Rec) (hn : l.length ≤ 16) (hT : ∀ m ∈ l, TsOk m.f3) (R : Bool)
    (fin : Ev (fun k => cleanselaw20_MatchLists.l0 k x0 x1 true l l.reverse (l.filter fun m => aboutB m.f1 m.f2 m.f3 a.r3 b.r3) (l.length : Int) a.r0 a.r1 a.r2 a.r3 a.r4 a.r5 b.r0 b.r1 b.r2 b.r3 b.r4 b.r5) R) :
    ∀ (d i : Nat), d + i = l.length → Ev (fun k => cleanselaw20_MatchLists.l0 k x0 x1 true l (l.reverse.take i) ((l.take i).filter fun m => aboutB m.f1 m.f2 m.f3 a.r3 b.r3) (i : Int) a.r0 a.r1 a.r2 a.r3 a.r4 a.r5 b.r0 b.r1 b.r2 b.r3 b.r4 b.r5) R
  | 0, i, hd => by
    have e : i = l.length := by omega
    subst e
    rw [List.take_of_length_le (by simp), List.take_of_length_le (by omega)]
    exact fin
  | d + 1, i, hd => by
    have hi : i < l.length := by omega
    have ih := lists_l0 x0 x1 l a b hn hT R fin d (i + 1) (by omega)
    have hj : l.length - 1 - i < l.length := by omega
    have h1 : rd_T24 l (i : Int) = l[i] := by simp [rd_T24, List.getD_eq_getElem?_getD, hi]
    have h2 : rd_T24 l ((l.length - 1 - i : Nat) : Int) = l[l.length - 1 - i] := by simp [rd_T24, List.getD_eq_getElem?_getD, hj]
    have hw : ∀ x : Int, -1000000000 ≤ x → x ≤ 1000000000 → wrap64 x = x := fun x y z => by unfold wrap64; omega
    have ew : wrap64 (wrap64 ((l.length : Int) - 1) - (i : Int)) = ((l.length - 1 - i : Nat) : Int) := by
      rw [hw ((l.length : Int) - 1) (by omega) (by omega), hw _ (by omega) (by omega)]; omega
    have er : l.reverse.take (i + 1) = l.reverse.take i ++ [l[l.length - 1 - i]] := by
      rw [List.take_succ_eq_append_getElem (by simpa using hi), List.getElem_reverse]
    have ef : (l.take (i + 1)).filter (fun m => aboutB m.f1 m.f2 m.f3 a.r3 b.r3) = (l.take i).filter (fun m => aboutB m.f1 m.f2 m.f3 a.r3 b.r3) ++ (if aboutB l[i].f1 l[i].f2 l[i].f3 a.r3 b.r3 = true then [l[i]] else []) := by
      rw [List.take_succ_eq_append_getElem hi, List.filter_append]
      congr 1
      simp only [List.filter_cons, List.filter_nil]
    have lr : (l.reverse.take i).length ≤ 16 := by simp; omega
    have lf : ((l.take i).filter fun m => aboutB m.f1 m.f2 m.f3 a.r3 b.r3).length ≤ 16 := by
      have := List.length_filter_le (fun m => aboutB m.f1 m.f2 m.f3 a.r3 b.r3) (l.take i)
      simp at this ⊢; omega
    have hA := refAbout_f l[i].f0 l[i].f1 l[i].f2 l[i].f3 (hT _ (List.getElem_mem hi)) a b
    rw [er, ef] at ih
    refine Ev.step (fun k => by
      simp only [cleanselaw20_MatchLists.l0]
      rw [ew, h1, h2, if_pos (by omega), if_pos (by omega), if_pos (by omega), if_pos (by omega), Option.bind_some, if_pos (by omega), hw ((i : Int) + 1) (by omega) (by omega)]) (Ev.bind hA ?_)
    by_cases hc : aboutB l[i].f1 l[i].f2 l[i].f3 a.r3 b.r3 = true
    · rw [if_pos hc] at ih
      exact Ev.congr (fun k => by rw [if_pos hc, if_pos (Nat.lt_of_le_of_lt lf (by omega))]; rfl) ih
    · rw [if_neg hc, List.append_nil] at ih
      exact Ev.congr (fun k => by rw [if_neg hc]; rfl) ih
theorem lists_ev (l0 l1 : List Ma) (a b : Rec) (h0 : ∀ m ∈ l0, TsOk m.f3) (h1 : ∀ m ∈ l1, TsOk m.f3) (ha : CsOk a.r5) (hb : CsOk b.r5) :
    Ev (fun k => cleanselaw20_MatchLists.f k l0 l1 a.r0 a.r1 a.r2 a.r3 a.r4 a.r5 b.r0 b.r1 b.r2 b.r3 b.r4 b.r5) true := by
  have j0t : Ev (fun k => cleanselaw20_MatchLists.j0 k l0 l1 true true a.r0 a.r1 a.r2 a.r3 a.r4 a.r5 b.r0 b.r1 b.r2 b.r3 b.r4 b.r5) true := Ev.step (f := fun _ => some true) (fun k => by simp only [cleanselaw20_MatchLists.j0]; rw [if_pos trivial]) (Ev.now _)
  obtain ⟨c, hc1, hc2⟩ := few_f2 l0 [(⟨⟨a.r0, a.r1, a.r2⟩, a.r3, a.r4, a.r5⟩ : Rc), (⟨⟨b.r0, b.r1, b.r2⟩, b.r3, b.r4, b.r5⟩ : Rc)] 2 (by omega)
  refine Ev.congr (fun k => by unfold cleanselaw20_MatchLists.f cleanselaw20_head.f; rw [Option.bind_some]) (Ev.bind hc1 ?_)
  cases c with
  | false => exact Ev.congr (fun k => by rw [if_neg (by decide)]) j0t
  | true =>
    obtain ⟨n0, _, f1, f2⟩ := hc2 rfl
    have fa := CsFit.of ha (f2 _ List.mem_cons_self)
    have fb := CsFit.of hb (f2 _ (List.mem_cons_of_mem _ List.mem_cons_self))
    obtain ⟨c2, hd1, hd2⟩ := few_f2 l1 ([] : List Rc) 0 (by omega)
    refine Ev.congr (fun k => by rw [if_pos rfl]) (Ev.bind hd1 ?_)
    cases c2 with
    | false => exact j0t
    | true =>
      obtain ⟨n1, _, _, _⟩ := hd2 rfl
      have hT : ∀ m ∈ l0 ++ l1, TsOk m.f3 := fun m hm => (List.mem_append.1 hm).elim (h0 m) (h1 m)
      obtain ⟨l, hl⟩ : ∃ l, l0 ++ l1 = l := ⟨_, rfl⟩
      have hn : l.length ≤ 16 := by rw [← hl, List.length_append]; omega
      rw [hl] at hT
      have w := weight_f l (by omega) hT a b fa fb
      have w0 := weight_f l0 (by omega) h0 a b fa fb
      have w1 := weight_f l1 (by omega) h1 a b fa fb
      have wr := weight_f l.reverse (by simp; omega) (fun m hm => hT m (List.mem_reverse.1 hm)) a b fa fb
      have lf := List.length_filter_le (fun m : Ma => aboutB m.f1 m.f2 m.f3 a.r3 b.r3) l
      have wf := weight_f (l.filter fun m => aboutB m.f1 m.f2 m.f3 a.r3 b.r3) (by omega) (fun m hm => hT m (List.mem_filter.1 hm).1) a b fa fb
      rw [weightS_rev] at wr
      rw [weightS_filter] at wf
      have b0 := weightS_bound l0 a.r3 b.r3 a.r5 b.r5
      have b1 := weightS_bound l1 a.r3 b.r3 a.r5 b.r5
      have eS : wrap64 (weightS l0 a.r3 b.r3 a.r5 b.r5 + weightS l1 a.r3 b.r3 a.r5 b.r5) = weightS l a.r3 b.r3 a.r5 b.r5 := by
        rw [← hl, weightS_app]; unfold wrap64; omega
      refine Ev.step (fun k => by
        simp only [cleanselaw20_MatchLists.j0]
        rw [if_neg (by decide), Option.bind_some, if_pos (by simp; omega), Option.bind_some, List.nil_append, if_pos (by omega), hl]; rfl) (lists_l0 l0 l1 l a b hn hT true ?_ l.length 0 (by omega))
      refine Ev.step (fun k => by
        simp only [cleanselaw20_MatchLists.l0]
        rw [if_neg (by omega)]) (Ev.bind w (Ev.bind w0 (Ev.bind w1 ?_)))
      rw [eS]
      refine Ev.congr (fun k => by rw [if_pos rfl]) (Ev.bind wr ?_)
      refine Ev.congr (fun k => by rw [if_pos rfl]) (Ev.bind wf ?_)
      rw [beq_self_eq_true]
      exact Ev.now _
end Go.Proofs.YtiffkknhnmpgbaaDoor.Pure
namespace Go.Proofs.YtiffkknhnmpgbaaDoor
open Go.RowKit Go.Proofs.YtiffkknhnmpgbaaDoor.R Go.Proofs.YtiffkknhnmpgbaaDoorW.PrintWords
theorem heap24 : Kd.Heap k24 := Kd.heap_iso _ (Kd.heap_pair Kd.heap_string (Kd.heap_pair (Kd.heap_int _) (Kd.heap_pair (Kd.heap_int _) (Kd.heap_slice 43 heap43))))
end Go.Proofs.YtiffkknhnmpgbaaDoor
end
