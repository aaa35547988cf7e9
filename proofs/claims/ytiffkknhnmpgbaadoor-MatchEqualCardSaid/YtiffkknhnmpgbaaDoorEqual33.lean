/- Parts of the proof of Equal: words, contracts and plain laws. -/
import Derived.Sort.MapsRangeIn
import Derived.Test.YtiffkknhnmpgbaaDoorEqual4
import Derived.Test.YtiffkknhnmpgbaaDoorEqual11
import Derived.Test.YtiffkknhnmpgbaaDoorEqual17
import Derived.Test.YtiffkknhnmpgbaaDoorEqual18
import Derived.Test.YtiffkknhnmpgbaaDoorEqual29
import Derived.Test.YtiffkknhnmpgbaaDoorEqual31
namespace Go.Proofs.YtiffkknhnmpgbaaDoor.R
end Go.Proofs.YtiffkknhnmpgbaaDoor.R
section
/- match.Edges. -/
namespace Go.Proofs.YtiffkknhnmpgbaaDoor
open Go Go.RowKit Go.Maps Go.Sort Go.Proofs.YtiffkknhnmpgbaaDoor.R Go.Proofs.YtiffkknhnmpgbaaDoorW.PrintWords Go.Proofs.YtiffkknhnmpgbaaDoorW.PrintLast Go.Proofs.YtiffkknhnmpgbaaDoorW.PrintMore
set_option linter.unusedVariables false
set_option linter.unusedSimpArgs false
def kP : Kd (Int × Int) := Kd.pair (Kd.int .i64) (Kd.int .i64)
def rdP (xs : List (Int × Int)) (i : Int) : Int × Int := xs.getD i.toNat (0, 0)
theorem at_P {w : World} {A : Option Addr} {n : Nat} {xs : List (Int × Int)} (h : Kd.C kP w A n xs) (i : Int) (h0 : 0 ≤ i) (h1 : i < n) : ∃ ad, A = some ad ∧ w.cell? (ad.add (i.toNat * 2)) = some (.int .i64 (rdP xs i).1) ∧ w.cell? ⟨(ad.add (i.toNat * 2)).block, (ad.add (i.toNat * 2)).off + 1, none⟩ = some (.int .i64 (rdP xs i).2) := by
  obtain ⟨ad, c, e, _, hK, hc0⟩ := Kd.C_get h (0, 0) i h0 h1
  have hc : ∀ j u, c[j]? = some u → w.cell? (ad.add (i.toNat * 2 + j)) = some u := hc0
  obtain ⟨_, _, rfl, rfl, rfl⟩ := hK
  exact ⟨ad, e, hc 0 _ rfl, by rw [← add_field _ _ 1 (by omega)]; exact hc 1 _ rfl⟩
def okP (n : Nat) (p : Int × Int) : Bool := (decide (0 ≤ p.1) && decide (p.1 ≤ wrap64 (p.2 - 1))) && (decide (0 ≤ p.2) && decide (p.2 ≤ (n : Int) - 1))
/-- What match.Edges answers: one edge for each pair whose weight is not 0, in order. -/
def EdgesSpec (n : Nat) (l2 : List (Int × Int)) (wt : Int × Int → Int) (es : List S60) (code : Int) : Prop :=
  if l2.all (okP n) = true then code = 0 ∧ es.Pairwise (fun x y => x.f0 < y.f0 ∨ x.f0 = y.f0 ∧ x.f1 < y.f1) ∧ ∀ x : S60, x ∈ es ↔ (x.f0, x.f1) ∈ l2 ∧ x.f2 = wt (x.f0, x.f1) ∧ x.f2 ≠ 0 else es = [] ∧ code = 1
theorem spec_bad {n : Nat} {l2 : List (Int × Int)} {wt : Int × Int → Int} {i : Nat} (hi : i < l2.length) (h : okP n l2[i] = false) : EdgesSpec n l2 wt [] 1 := by
  unfold EdgesSpec
  rw [if_neg]
  · exact ⟨rfl, rfl⟩
  · intro hall
    rw [List.all_eq_true.1 hall _ (List.getElem_mem hi)] at h
    cases h
theorem okP_bounds {n : Nat} {p : Int × Int} (hn : n ≤ 1000) (h : okP n p = true) : 0 ≤ p.1 ∧ p.1 < p.2 ∧ p.2 < n := by
  simp only [okP, Bool.and_eq_true, decide_eq_true_eq] at h
  obtain ⟨⟨h1, h2⟩, h3, h4⟩ := h
  have e : wrap64 (p.2 - 1) = p.2 - 1 := by simp only [wrap64]; omega
  omega
theorem okP_wf {n : Nat} {p : Int × Int} (hn : n ≤ 1000) (h : okP n p = true) : wfp p := by
  obtain ⟨h1, h2, h3⟩ := okP_bounds hn h
  constructor <;> (simp only [Lit.wf, IntKind.min, IntKind.max, IntKind.signed, IntKind.bits, Bool.and_eq_true, decide_eq_true_eq, if_true]; omega)
theorem Kinfo60 : (Tryd.prog.info? 60).map (fun i => (i.zero, i.size, i.bytes)) = some (some (.agg #[.int .i64 0, .int .i64 0, .int .i64 0]), 3, 24) := by kernel_rfl
def rowP (wt : Int × Int → Int) (ss : List (Int × Int)) : List (Int × Int) := ss.filter fun p => wt p != 0
def rowC (wt : Int × Int → Int) (ss : List (Int × Int)) : List Value := (rowP wt ss).flatMap (encE wt)
theorem nodup_len {α : Type} [BEq α] [LawfulBEq α] : ∀ {a b : List α}, a.Nodup → (∀ x ∈ a, x ∈ b) → a.length ≤ b.length
  | [], b, _, _ => Nat.zero_le _
  | x :: a, b, hn, hs => by
    have hx := hs x (by simp)
    have h := nodup_len (a := a) (b := b.erase x) (List.nodup_cons.1 hn).2 (fun y hy => (List.mem_erase_of_ne (fun (e : y = x) => (List.nodup_cons.1 hn).1 (e ▸ hy))).2 (hs y (by simp [hy])))
    rw [List.length_erase_of_mem hx] at h
    have := List.length_pos_of_mem hx
    simp; omega
theorem row_ne_map {H : Type} {P : Program} {k : TypeId} {R : Value → Option (DataW H × List MemPlace)} {w : World} {b n : Nat} {D : DataW H} {base : Nat} {e : TypeId} {size : Nat} {v : Value} {m : Nat} {xs : List Value}
    (h : w.ownsRow base e size v m xs) (hr : w.ownsMap P k R b n D) : some b ≠ v.ownBlock := by
  obtain ⟨es, clock, hb, _⟩ := hr
  rcases h.2 with ⟨rfl, _⟩ | ⟨g, cap, cur, rfl, _, hg, _⟩
  · simp [Value.ownBlock]
  · intro e1
    have : b = g := by simpa [Value.ownBlock] using e1
    subst this
    rw [hb] at hg
    cases hg
theorem cell3_new (w : World) (x y z : Value) (t : TypeId) : ∀ j u, [x, y, z][j]? = some u → (w.alloc (.cells #[x, y, z] t)).cell? ((⟨w.heap.size, 0, none⟩ : Addr).add j) = some u := by
  intro j u hj
  match j, hj with
  | 0, hj => simp at hj; subst hj; simp [Addr.add]
  | 1, hj => simp at hj; subst hj; simp [Addr.add]
  | 2, hj => simp at hj; subst hj; simp [Addr.add]
theorem cell3_new1 (w : World) (o : Obj) (x y z : Value) (t : TypeId) : ∀ j u, [x, y, z][j]? = some u → ((w.alloc o).alloc (.cells #[x, y, z] t)).cell? ((⟨w.heap.size + 1, 0, none⟩ : Addr).add j) = some u := by
  have h := cell3_new (w.alloc o) x y z t
  have e : (w.alloc o).heap.size = w.heap.size + 1 := by simp
  rwa [e] at h
def mkE (wt : Int × Int → Int) (p : Int × Int) : S60 := ⟨p.1, p.2, wt p⟩
theorem reps_edges (wt : Int × Int → Int) (w : World) (base : Nat) (ok : Nat → Prop) : ∀ (ps : List (Int × Int)) (acc : List S60) (cs : List Value), Reps (k60.M w base ok) 3 acc cs → Reps (k60.M w base ok) 3 (acc ++ ps.map (mkE wt)) (cs ++ ps.flatMap (encE wt))
  | [], acc, cs, h => by simpa using h
  | p :: ps, acc, cs, h => by
    have h2 := reps_edges wt w base ok ps (acc ++ [mkE wt p]) (cs ++ encE wt p) (h.snoc (k60_mkM w base ok (mkE wt p)) rfl)
    simpa using h2
theorem R_edges (wt : Int × Int → Int) {w : World} {base n : Nat} {v : Value} {ps : List (Int × Int)} (h : w.ownsRow base 60 3 v n (ps.flatMap (encE wt))) (hn : ps.length = n) : Kd.R k60 60 w base (fun _ => True) v (ps.map (mkE wt)) := by
  subst hn
  have h3 : w.ownsRow base 60 3 v (ps.map (mkE wt)).length (ps.flatMap (encE wt)) := by simpa using h
  exact ⟨fun _ _ => trivial, _, h3, reps_edges wt w base (fun k => True ∧ some k ≠ v.ownBlock) ps [] [] (Reps.none _ _)⟩
theorem spec_good {n : Nat} {l2 : List (Int × Int)} {wt : Int × Int → Int} {ss : List (Int × Int)} (hall : ∀ j (h : j < l2.length), okP n l2[j] = true) (hnd : ss.Nodup) (hmem : ∀ p, p ∈ ss ↔ p ∈ l2) :
    EdgesSpec n l2 wt (((rowP wt ss).mergeSort fun x y => !(ltOf cmpP) y x).map (mkE wt)) 0 := by
  unfold EdgesSpec
  rw [if_pos (List.all_eq_true.2 fun p hp => by obtain ⟨j, hj, e⟩ := List.mem_iff_getElem.1 hp; rw [← e]; exact hall j hj)]
  obtain ⟨h1, h2⟩ := sorted_pairs (rowP wt ss) (hnd.sublist List.filter_sublist)
  refine ⟨rfl, ?_, fun x => ?_⟩
  · rw [List.pairwise_map]
    exact h1
  · rw [List.mem_map]
    constructor
    · rintro ⟨p, hp, rfl⟩
      have h3 := (h2 p).1 hp
      simp only [rowP, List.mem_filter, bne_iff_ne, ne_eq] at h3
      exact ⟨(hmem p).1 h3.1, rfl, h3.2⟩
    · rintro ⟨hx, e, hne⟩
      refine ⟨(x.f0, x.f1), (h2 _).2 ?_, ?_⟩
      · simp only [rowP, List.mem_filter, bne_iff_ne, ne_eq]
        exact ⟨(hmem _).2 hx, by rw [← e]; exact hne⟩
      · obtain ⟨a, b, c⟩ := x
        simp only [mkE] at e ⊢
        rw [← e]
set_option maxRecDepth 100000 in
set_option maxHeartbeats 4000000 in
theorem edges_walk (k : Nat) (A0 : Option Addr) (c0 : Nat) (l0 : List S24) (A1 : Option Addr) (c1 : Nat) (l1 : List S29) (A2 : Option Addr) (c2 : Nat) (l2 : List (Int × Int)) (w : World)
    (hr0 : Kd.C k24 w A0 l0.length l0) (hc0 : l0.length ≤ c0) (hr1 : Kd.C k29 w A1 l1.length l1) (hc1 : l1.length ≤ c1) (hr2 : Kd.C kP w A2 l2.length l2) (hc2 : l2.length ≤ c2) (hG : Gl w)
    (hl0 : l0.length ≤ 200) (hl1 : l1.length ≤ 1000) (hl2 : l2.length ≤ 20000) (wt : Int × Int → Int)
    (hW : (∀ j (h : j < l2.length), okP l1.length l2[j] = true) → ∀ p ∈ l2, okP l1.length p = true → U.match_Weight.f k l0 (rd_T29 l1 p.1).f0.f0 (rd_T29 l1 p.1).f0.f1 (rd_T29 l1 p.1).f0.f2 (rd_T29 l1 p.1).f1 (rd_T29 l1 p.1).f2 (rd_T29 l1 p.1).f3 (rd_T29 l1 p.2).f0.f0 (rd_T29 l1 p.2).f0.f1 (rd_T29 l1 p.2).f0.f2 (rd_T29 l1 p.2).f1 (rd_T29 l1 p.2).f2 (rd_T29 l1 p.2).f3 = some (wt p))
    (hwf : (∀ j (h : j < l2.length), okP l1.length l2[j] = true) → ∀ p ∈ l2, (Lit.int .i64 (wt p)).wf = true) :
    Calls Tryd.prog 16 #[.slice A0 l0.length c0, .slice A1 l1.length c1, .slice A2 l2.length c2] w fun e w' => ∃ v es code, e = .returned (.tuple #[v, .int .i64 code]) ∧ Kd.R k60 60 w' w.heap.size (fun _ => True) v es ∧ Below w.heap.size w w' ∧ EdgesSpec l1.length l2 wt es code := by
  have d1 : decide ((20000 : Int) < (l2.length : Int)) = false := decide_eq_false (by omega)
  have d2 : decide ((200 : Int) < (l0.length : Int)) = false := decide_eq_false (by omega)
  have HR2 := Aside0.mk hr2
  have HR1 := Aside0.mk hr1
  have HR0 := Aside0.mk hr0
  have HB := Aside0.mk (Below.refl w.heap.size w)
  clear hr0 hr1 hr2
  have hmm := @run_makeMap Tryd.prog
  go_enter Tryd.func16, Tryd.ntmps16
  go_wp2
  go_loopw [28] (fun v wr => ∃ i : Nat, i ≤ l2.length ∧ v = .int .i64 i ∧ (∀ j (h : j < i) (h' : j < l2.length), okP l1.length l2[j] = true) ∧ Aside0 (Below w.heap.size w wr)) (fun v _ => l2.length - (intOf v).toNat)
  case atStart => exact ⟨0, Nat.zero_le _, rfl, fun j h => absurd h (Nat.not_lt_zero _), HB⟩
  case round =>
    obtain ⟨i, hi, rfl, hj, HB⟩ := hrel
    by_cases hlt : i < l2.length
    · have hlt3 : (i : Int) < (l2.length : Int) := by omega
      obtain ⟨ad, rfl, hx0, hx1⟩ := at_P HR2.out (i : Int) (by omega) (by omega)
      have hr : rdP l2 (i : Int) = l2[i] := by simp [rdP, List.getD_eq_getElem?_getD, hlt]
      rw [hr] at hx0 hx1
      simp only [Int.toNat_natCast] at hx0 hx1
      replace hx0 := (HB.out.cell (World.block_lt_of_cell? w _ hx0)).trans hx0
      replace hx1 := (HB.out.cell (World.block_lt_of_cell? w _ hx1)).trans hx1
      obtain ⟨p, hp⟩ : ∃ p, l2[i] = p := ⟨_, rfl⟩
      rw [hp] at hx0 hx1
      have hps : okP l1.length p = false → EdgesSpec l1.length l2 wt [] 1 := fun h => spec_bad hlt (by rw [hp]; exact h)
      cases k1 : decide (0 ≤ p.1) with
      | false =>
        have hs := hps (by simp only [okP, k1, Bool.false_and])
        go_wp2
        refine bodyPost_ret (results_tmp2 rfl _ _ _) rfl ?_
        exact ⟨_, _, _, rfl, Kd.R_nil _ _ _ _ _, below_alloc HB.out _, hs⟩
      | true =>
        cases k2 : decide (p.1 ≤ wrap64 (p.2 - 1)) with
        | false =>
          have hs := hps (by simp only [okP, k1, k2, Bool.false_and, Bool.and_false])
          go_wp2
          refine bodyPost_ret (results_tmp2 rfl _ _ _) rfl ?_
          exact ⟨_, _, _, rfl, Kd.R_nil _ _ _ _ _, below_alloc HB.out _, hs⟩
        | true =>
          cases k3 : decide (0 ≤ p.2) with
          | false =>
            have hs := hps (by simp only [okP, k3, Bool.false_and, Bool.and_false])
            go_wp2
            refine bodyPost_ret (results_tmp2 rfl _ _ _) rfl ?_
            exact ⟨_, _, _, rfl, Kd.R_nil _ _ _ _ _, below_alloc HB.out _, hs⟩
          | true =>
            cases k4 : decide (p.2 ≤ (l1.length : Int) - 1) with
            | false =>
              have hs := hps (by simp only [okP, k4, Bool.and_false])
              go_wp2
              refine bodyPost_ret (results_tmp2 rfl _ _ _) rfl ?_
              exact ⟨_, _, _, rfl, Kd.R_nil _ _ _ _ _, below_alloc HB.out _, hs⟩
            | true =>
              have hs : okP l1.length p = true := by simp only [okP, k1, k2, k3, k4, Bool.and_self]
              clear hps
              go_wp2
              go_roundw
              case rel =>
                refine ⟨i + 1, by omega, by go_num, fun j h h' => ?_, ⟨below_alloc HB.out _⟩⟩
                by_cases e : j = i
                · subst e; rw [hp]; exact hs
                · exact hj j (by omega) h'
              case measure => simp [intOf]; omega
    · obtain rfl : i = l2.length := by omega
      replace hW := hW (fun j h => hj j h h)
      replace hwf := hwf (fun j h => hj j h h)
      have hbm := WOn.made wr wt
      have hB2 : Below w.heap.size w (wr.alloc (.map #[] 0)) := below_alloc HB.out _
      obtain ⟨b, hb⟩ : ∃ b, wr.heap.size = b := ⟨_, rfl⟩
      have hbge : w.heap.size ≤ b := by rw [← hb]; exact HB.out.size
      rw [hb] at hbm
      go_wp2
      go_loopw [52] (fun v w2 => ∃ (i n : Nat) (ks : List (Int × Int)), i ≤ l2.length ∧ n ≤ i ∧ v = .int .i64 i ∧ WOn w2 b n ks wt ∧ (∀ p, p ∈ ks ↔ p ∈ l2.take i) ∧ Aside0 (Below w.heap.size w w2)) (fun v _ => l2.length - (intOf v).toNat)
      case atStart => exact ⟨0, 0, [], Nat.zero_le _, Nat.le_refl _, rfl, hbm, fun p => by simp, ⟨hB2⟩⟩
      case round =>
        obtain ⟨i, n, ks, hi, hn, rfl, hM, hks, HB2⟩ := hrel
        by_cases hlt : i < l2.length
        · have hlt3 : (i : Int) < (l2.length : Int) := by omega
          obtain ⟨ad, rfl, hx0, hx1⟩ := at_P HR2.out (i : Int) (by omega) (by omega)
          have hr : rdP l2 (i : Int) = l2[i] := by simp [rdP, List.getD_eq_getElem?_getD, hlt]
          rw [hr] at hx0 hx1
          simp only [Int.toNat_natCast] at hx0 hx1
          replace hx0 := (HB2.out.cell (World.block_lt_of_cell? w _ hx0)).trans hx0
          replace hx1 := (HB2.out.cell (World.block_lt_of_cell? w _ hx1)).trans hx1
          have hok := hj i (by omega) hlt
          have hpm : l2[i] ∈ l2 := List.getElem_mem hlt
          have htk : l2.take (i + 1) = l2.take i ++ [l2[i]] := List.take_succ_eq_append_getElem hlt
          obtain ⟨p, hp⟩ : ∃ p, l2[i] = p := ⟨_, rfl⟩
          rw [hp] at hx0 hx1 hok hpm htk
          obtain ⟨g1, g2, g3⟩ := okP_bounds hl1 hok
          have hpw := okP_wf hl1 hok
          have hwp := hW p hpm hok
          have hM3 : WOn (wr.alloc (.cells #[.int .i64 p.1, .int .i64 p.2] 57)) b n ks wt := hM.kept (fun D hD => hD.kept (World.grownBy_alloc _ _ none) (by simp))
          have HTK := Aside0.mk htk
          clear htk hr hp
          by_cases hin : p ∈ ks
          · have hdec : decide (p ∈ ks) = true := decide_eq_true hin
            go_wp2_with (at_lookup; refine w_lookup rfl _ _ 75 rfl Tryd.underlying75 (Tryd.zeroValue3 _) rfl hM3 p hpw rfl ?_; intro c; rw [hdec])
            go_roundw
            case rel =>
              refine ⟨i + 1, n, ks, by omega, by omega, by go_num, hM3, fun q => ?_, ⟨below_alloc HB2.out _⟩⟩
              rw [HTK.out, List.mem_append, hks q]
              constructor
              · exact .inl
              · rintro (h | h)
                · exact h
                · simp at h; subst h; exact (hks q).1 hin
            case measure => simp [intOf]; omega
          · have hdec : decide (p ∈ ks) = false := decide_eq_false hin
            go_wp2_with (at_lookup; refine w_lookup rfl _ _ 75 rfl Tryd.underlying75 (Tryd.zeroValue3 _) rfl hM3 p hpw rfl ?_; intro c; rw [hdec])
            obtain ⟨W3, hW3⟩ : ∃ W3, wr.alloc (.cells #[.int .i64 p.1, .int .i64 p.2] 57) = W3 := ⟨_, rfl⟩
            have hB6 : W3.heap[wr.heap.size]? = some (.cells #[.int .i64 p.1, .int .i64 p.2] 57 (0, 0)) := by rw [← hW3]; exact blk_new wr _
            have hB3 : Below w.heap.size w W3 := by rw [← hW3]; exact below_alloc HB2.out _
            rw [hW3] at hM3 ⊢
            have u0 := cell_regrown ((blk_cell hB6 0).trans rfl)
            have u1 := cell_regrown ((blk_cell hB6 1).trans rfl)
            obtain ⟨ad1, A5, c5, e1, x0, x1, x2, x3, x4, x5, hcx, hCx⟩ := at_T29 (Kd.C_below HR1.out hB3) p.1 (by omega) (by omega)
            obtain ⟨ad2, A6, c6, e2, y0, y1, y2, y3, y4, y5, hcy, hCy⟩ := at_T29 (Kd.C_below HR1.out hB3) p.2 (by omega) (by omega)
            subst e1
            cases e2
            have X0 := cell_regrown x0
            have X1 := cell_regrown x1
            have X2 := cell_regrown x2
            have X3 := cell_regrown x3
            have X4 := cell_regrown x4
            have X5 := cell_regrown x5
            have Y0 := cell_regrown y0
            have Y1 := cell_regrown y1
            have Y2 := cell_regrown y2
            have Y3 := cell_regrown y3
            have Y4 := cell_regrown y4
            have Y5 := cell_regrown y5
            have cW := fun d os => Calls.regrown_of (U.match_Weight.calls k A0 c0 l0 _ _ _ _ _ A5 c5 _ _ _ _ _ _ A6 c6 _ (wt p) (grow (redrawn W3 d) os) (Kd.C_below (Kd.C_below HR0.out hB3) (below_regrown W3 d os)) hc0 (Kd.C_below hCx (below_regrown W3 d os)) hcx (Kd.C_below hCy (below_regrown W3 d os)) hcy ((hG.below hB3).below (below_regrown W3 d os)) hwp)
            have q1 := eq_true (show (0 : Int) ≤ p.1 by omega)
            have q2 := eq_true (show p.1 < (l1.length : Int) by omega)
            have q3 := eq_true (show (0 : Int) ≤ p.2 by omega)
            have q4 := eq_true (show p.2 < (l1.length : Int) by omega)
            clear x0 x1 x2 x3 x4 x5 y0 y1 y2 y3 y4 y5 hcx hCx hcy hCy
            refine wp_region_quiet_tail_below 14 (by kernel_rfl) (by kernel_rfl) ?_
            simp only [List.take_succ_cons, List.take_zero, List.drop_succ_cons, List.drop_zero]
            repeat (quiet_step (first | exact cW _ _))
            refine wpQuiet_nil ?_
            intro _ hw'
            obtain ⟨⟨dq, osq⟩, hw''⟩ := hw'
            subst hw''
            obtain ⟨W4, hW4⟩ : ∃ W4, grow (redrawn W3 dq) osq = W4 := ⟨_, rfl⟩
            have hb4 : Below W3.heap.size W3 W4 := by rw [← hW4]; exact below_regrown W3 dq osq
            dsimp only
            rw [hW4]
            have hM4 : WOn W4 b n ks wt := hM3.kept (fun D hD => hD.kept (row := none) { os := hb4.os, tape := hb4.tape, output := hb4.output, size := hb4.size, block := fun j hj _ => hb4.block j hj } (by simp))
            have hB4 : Below w.heap.size w W4 := below_step hB3 hb4
            clear u0 u1 X0 X1 X2 X3 X4 X5 Y0 Y1 Y2 Y3 Y4 Y5 cW hW4 hW3
            refine w_store rfl rfl _ _ _ 75 rfl Tryd.underlying75 (by omega) rfl hM4 p hpw hin rfl rfl (hwf p hpm) ?_
            intro w5 hM5 hgr
            go_wp2
            go_roundw
            case rel =>
              refine ⟨i + 1, n + 1, ks ++ [p], by omega, by omega, by go_num, hM5, fun q => ?_, ⟨hB4.grown hgr hB4.size (fun j e => by cases e; exact hbge)⟩⟩
              rw [HTK.out, List.mem_append, List.mem_append, hks q]
            case measure => simp [intOf]; omega
        · obtain rfl : i = l2.length := by omega
          obtain ⟨D, hown, hT, hnd, hkw, hhas, hatk, hsz, hall⟩ := hM
          go_wp2_with (at_range; refine wpList_range_own _ rfl _ 75 rfl 57 3 KlawP Tryd.underlying75 wElem b n D rfl hown ?_; intro w0 hrg0 hg0 hs0)
          obtain ⟨ri, hri⟩ : ∃ ri, wr.heap.size = ri := ⟨_, rfl⟩
          rw [hri] at hrg0 hs0
          have hrge : w.heap.size ≤ ri := by rw [← hri]; exact HB2.out.size
          have HB3 : Aside0 (Below w.heap.size w w0) := ⟨HB2.out.grown hg0 HB2.out.size (fun j e => by cases e)⟩
          rw [hri]
          go_frame
          go_loopw [15] (fun v w3 => ∃ (left : Lit → Bool) (cnt : Nat) (ss : List (Int × Int)), w3.ranges Tryd.prog 57 wElem b ri n D left cnt ∧ ss.length + cnt ≤ Maps.size D ∧ ss.Nodup ∧ (∀ p, p ∈ ss → p ∈ ks) ∧ (∀ p ∈ ks, left (pk p) = !decide (p ∈ ss)) ∧ (∀ kl, left kl = true → has D kl = true) ∧
              w3.ownsRow w.heap.size 60 3 v (rowP wt ss).length (rowC wt ss) ∧ Aside0 (Below w.heap.size w w3)) (fun _ w3 => w3.rangeLeft b ri)
          case atStart =>
            exact ⟨_, _, [], hrg0, by simp, List.nodup_nil, fun p h => (by cases h), fun p hp => (by rw [hhas p (hkw p hp)]; simp [hp]), fun kl h => h, World.ownsRow_nil _ _ _ _, HB3⟩
          case round =>
            obtain ⟨left, cnt, ss, hrg, hcs, hsn, hsk, hlf, hlh, hrow, HB4⟩ := hrel
            go_wp2_with (at_next; refine wpList_next_ranges _ rfl _ rfl 57 KlawP wElem pairV (fun c : Int => Value.int .i64 c) (fun key kl hk => by obtain ⟨p, hp, _⟩ := key_inv hk; exact ⟨p, hp⟩) (fun v y hv => by obtain ⟨c, hc, _⟩ := plainElem_int_inv Tryd.underlying3 hv; exact ⟨c, hc⟩) b ri n _ _ _ rfl hrg ?_ ?_)
            · intro hc0 hl0
              have hssl : ∀ p, p ∈ ss ↔ p ∈ l2 := fun p => by
                rw [show (p ∈ l2 ↔ p ∈ ks) from by rw [hks p, List.take_length]]
                refine ⟨hsk p, fun hp => ?_⟩
                have h1 := hlf p hp
                rw [hl0] at h1
                simpa using h1
              have hsp := spec_good (wt := wt) (fun j h => hj j h h) hsn hssl
              have hsl : ss.length ≤ 20000 := Nat.le_trans (nodup_len hsn fun p hp => (hssl p).1 hp) hl2
              have hrl : (rowP wt ss).length ≤ ss.length := List.length_filter_le _ _
              have hsc := sort_calls wt hrow rfl (by omega)
              have hRB := own_base hrow
              have HSP := Aside0.mk hsp
              clear hssl hsp hlf hks hsk hl0
              go_wp2_with (go_at_call 27; with_reducible refine hsc.mono ?_; rintro e w' ⟨rfl, hrow2, hg5⟩)
              refine bodyPost_ret (results_tmp2 rfl _ _ _) rfl ?_
              exact ⟨_, _, _, rfl, R_edges wt hrow2 (by simp), HB4.out.grown hg5 HB4.out.size (fun j hj => hRB j hj), HSP.out⟩
            · intro x1 x2 c kl y1 y2 w4 cnt2 hkey hlk hv hat hrg2 hlt2 hg2 hs2 hen
              obtain ⟨p, hpv, hpw, rfl⟩ := key_inv hkey
              obtain ⟨p1, p2⟩ := p
              have e1 : x1 = p1 ∧ x2 = p2 := by simpa [pairV] using hpv
              obtain ⟨rfl, rfl⟩ := e1
              obtain ⟨q, hq, hqe⟩ := hall _ (hlh _ hlk)
              have hxq := pk_inj hpw (hkw q hq) hqe
              subst hxq
              have hnss : (x1, x2) ∉ ss := by
                have h1 := hlf _ hq
                rw [hlk] at h1
                simpa using h1
              have hc : c = wt (x1, x2) := by
                obtain ⟨c', h1, h2, _⟩ := plainElem_int_inv Tryd.underlying3 hv
                have h3 := hatk _ hq (.lit (.int .i64 0))
                rw [hat, (Prod.mk.inj h2).1] at h3
                simp at h1 h3
                omega
              subst hc
              simp only [pairV] at hen ⊢
              obtain ⟨i60, hi60, hz60⟩ := Option.map_eq_some_iff.1 Kinfo60
              simp only [Prod.mk.injEq] at hz60
              obtain ⟨iz0, iz1, iz2⟩ := hz60
              cases hw0 : (wt (x1, x2) != 0) with
              | false =>
                have hw0' : wt (x1, x2) = 0 := by simpa using hw0
                go_wp2
                go_roundw
                case rel =>
                  refine ⟨_, cnt2, ss ++ [(x1, x2)], hrg2.alloc _, by simp; omega, by rw [List.nodup_append]; exact ⟨hsn, by simp, fun a ha b hb e => by simp at hb; subst hb; subst e; exact hnss ha⟩, fun q hq2 => ?_, fun q hq2 => ?_, fun kl hkl => ?_, ?_, ?_⟩
                  · rcases List.mem_append.1 hq2 with h | h
                    · exact hsk q h
                    · simp at h; subst h; exact hq
                  · by_cases e : q = (x1, x2)
                    · subst e
                      simp [pk, Lit.sameKey]
                    · have hne := sameKey_ne (fun h => e (pk_inj (hkw q hq2) hpw h))
                      simp only [hne, Bool.not_false, Bool.and_true, hlf q hq2]
                      simp [e]
                  · simp only [Bool.and_eq_true] at hkl
                    exact hlh kl hkl.1
                  · have e1 : rowP wt (ss ++ [(x1, x2)]) = rowP wt ss := by simp [rowP, hw0']
                    rw [rowC, e1]
                    exact (hrow.kept hg2 (Or.inr (row_ne_iter hrow hrg).symm)).alloc _
                  · exact ⟨below_alloc (HB4.out.grown hg2 HB4.out.size (fun j hj => by cases hj; exact hrge)) _⟩
                case measure => rw [(hrg2.alloc _).left_eq, hrg.left_eq]; exact hlt2
              | true =>
                have hrow4 := hrow.kept hg2 (Or.inr (row_ne_iter hrow hrg).symm)
                have hsl : ss.length ≤ 20000 := Nat.le_trans (nodup_len hsn fun p hp => by have := (hks p).1 (hsk p hp); rwa [List.take_length] at this) hl2
                have hrl : (rowP wt ss).length ≤ ss.length := List.length_filter_le _ _
                have HS2 := Aside0.mk hs2
                clear hs2
                have hB5 := HB4.out.grown hg2 HB4.out.size (fun j hj => by cases hj; exact hrge)
                go_wp2_with (at_builtin; refine wpList_append_own _ rfl _ _ 54 rfl w.heap.size 60 i60 (.agg #[.int .i64 0, .int .i64 0, .int .i64 0]) 3 24 Tryd.underlying54 hi60 iz0 iz1 iz2 rfl (by decide) _ _ _ rfl ((hrow4.alloc _).alloc _) ⟨_, 0, none⟩ 1 1 [.int .i64 x1, .int .i64 x2, .int .i64 (wt (x1, x2))] rfl rfl (cell3_new1 _ _ _ _ _ _) (by simp [Value.oneCell']) (by simp only [maxLen]; omega) (by omega) (by have := hB5.size; simp; omega) ?_; intro v' w5 hown' hgrow _)
                have e1 : rowP wt (ss ++ [(x1, x2)]) = rowP wt ss ++ [(x1, x2)] := by
                  have : wt (x1, x2) ≠ 0 := by simpa using hw0
                  simp [rowP, this]
                have hrg5 := ((hrg2.alloc (.cells #[.int .i64 x1, .int .i64 x2] 57)).alloc (.cells #[.int .i64 x1, .int .i64 x2, .int .i64 (wt (x1, x2))] 60)).kept hgrow (row_ne_map hrow hrg.owns) (row_ne_iter hrow hrg)
                have HE := Aside0.mk e1
                clear e1
                go_roundw
                case rel =>
                  refine ⟨_, cnt2, ss ++ [(x1, x2)], hrg5, by simp; omega, by rw [List.nodup_append]; exact ⟨hsn, by simp, fun a ha b hb e => by simp at hb; subst hb; subst e; exact hnss ha⟩, fun q hq2 => ?_, fun q hq2 => ?_, fun kl hkl => ?_, ?_, ?_⟩
                  · rcases List.mem_append.1 hq2 with h | h
                    · exact hsk q h
                    · simp at h; subst h; exact hq
                  · by_cases e : q = (x1, x2)
                    · subst e
                      simp [pk, Lit.sameKey]
                    · have hne := sameKey_ne (fun h => e (pk_inj (hkw q hq2) hpw h))
                      simp only [hne, Bool.not_false, Bool.and_true, hlf q hq2]
                      simp [e]
                  · simp only [Bool.and_eq_true] at hkl
                    exact hlh kl hkl.1
                  · rw [rowC, HE.out, List.flatMap_append, List.length_append]
                    exact hown'
                  · exact ⟨(below_alloc (below_alloc hB5 _) _).grown hgrow (below_alloc (below_alloc hB5 _) _).size (fun j hj => own_base hrow j hj)⟩
                case measure => rw [hrg5.left_eq, hrg.left_eq]; exact hlt2
end Go.Proofs.YtiffkknhnmpgbaaDoor
end

section
/- match.Edges, in the form of the printed contracts. -/
namespace Go.Proofs.YtiffkknhnmpgbaaDoor
open Go Go.RowKit Go.Sort Go.Proofs.YtiffkknhnmpgbaaDoor.R Go.Proofs.YtiffkknhnmpgbaaDoorW.PrintWords
set_option linter.unusedVariables false
set_option linter.unusedSimpArgs false
abbrev PairI := S57
def toP (x : PairI) : Int × Int := (x.f0, x.f1)
def wfI (x : Int) : Bool := decide (-9223372036854775808 ≤ x) && decide (x ≤ 9223372036854775807)
theorem wfI_wf {x : Int} (h : wfI x = true) : (Lit.int .i64 x).wf = true := by
  simp only [wfI, Bool.and_eq_true, decide_eq_true_eq] at h
  simp only [Lit.wf, IntKind.min, IntKind.max, IntKind.signed, IntKind.bits, Bool.and_eq_true, decide_eq_true_eq, if_true]
  omega
/-- The weight of a pair of indices. -/
def wtO (k : Nat) (l0 : List S24) (l1 : List S29) (p : Int × Int) : Option Int :=
  (U.match_Weight.f k l0 (rd_T29 l1 p.1).f0.f0 (rd_T29 l1 p.1).f0.f1 (rd_T29 l1 p.1).f0.f2 (rd_T29 l1 p.1).f1 (rd_T29 l1 p.1).f2 (rd_T29 l1 p.1).f3 (rd_T29 l1 p.2).f0.f0 (rd_T29 l1 p.2).f0.f1 (rd_T29 l1 p.2).f0.f2 (rd_T29 l1 p.2).f1 (rd_T29 l1 p.2).f2 (rd_T29 l1 p.2).f3).bind fun x => if wfI x = true then some x else none
def ltB (p q : Int × Int) : Bool := decide (p.1 < q.1) || (decide (p.1 = q.1) && decide (p.2 < q.2))
/-- Each pair once, in order. -/
def insP (p : Int × Int) : List (Int × Int) → List (Int × Int)
  | [] => [p]
  | q :: l => if p = q then q :: l else if ltB p q = true then p :: q :: l else q :: insP p l
def canon : List (Int × Int) → List (Int × Int)
  | [] => []
  | p :: l => insP p (canon l)
theorem mem_insP (p : Int × Int) : ∀ (l : List (Int × Int)) (x : Int × Int), x ∈ insP p l ↔ x = p ∨ x ∈ l
  | [], x => by simp [insP]
  | q :: l, x => by
    unfold insP
    by_cases h : p = q
    · rw [if_pos h, List.mem_cons, h]
      exact ⟨fun h => .inr h, fun h => h.elim .inl id⟩
    · rw [if_neg h]
      by_cases h2 : ltB p q = true
      · rw [if_pos h2, List.mem_cons]
      · rw [if_neg h2, List.mem_cons, List.mem_cons, mem_insP p l x]
        constructor
        · rintro (h | h | h)
          · exact .inr (.inl h)
          · exact .inl h
          · exact .inr (.inr h)
        · rintro (h | h | h)
          · exact .inr (.inl h)
          · exact .inl h
          · exact .inr (.inr h)
theorem lt_insP (p : Int × Int) : ∀ (l : List (Int × Int)), l.Pairwise (fun p q => p.1 < q.1 ∨ p.1 = q.1 ∧ p.2 < q.2) → (insP p l).Pairwise (fun p q => p.1 < q.1 ∨ p.1 = q.1 ∧ p.2 < q.2)
  | [], _ => by simp [insP]
  | q :: l, h => by
    obtain ⟨h1, h2⟩ := List.pairwise_cons.1 h
    unfold insP
    by_cases e : p = q
    · rw [if_pos e]; exact h
    · rw [if_neg e]
      by_cases g : ltB p q = true
      · rw [if_pos g]
        have g2 : p.1 < q.1 ∨ p.1 = q.1 ∧ p.2 < q.2 := by simpa [ltB] using g
        refine List.pairwise_cons.2 ⟨fun x hx => ?_, h⟩
        rcases List.mem_cons.1 hx with rfl | hx
        · exact g2
        · have := h1 x hx
          omega
      · rw [if_neg g]
        have g2 : ¬ (p.1 < q.1 ∨ p.1 = q.1 ∧ p.2 < q.2) := by simpa [ltB] using g
        refine List.pairwise_cons.2 ⟨fun x hx => ?_, lt_insP p l h2⟩
        rcases (mem_insP p l x).1 hx with rfl | hx
        · have e2 : ¬ (x.1 = q.1 ∧ x.2 = q.2) := fun h3 => e (Prod.ext h3.1 h3.2)
          omega
        · exact h1 x hx
theorem canon_lt : ∀ (l : List (Int × Int)), (canon l).Pairwise (fun p q => p.1 < q.1 ∨ p.1 = q.1 ∧ p.2 < q.2)
  | [] => List.Pairwise.nil
  | p :: l => lt_insP p _ (canon_lt l)
theorem mem_canon : ∀ (l : List (Int × Int)) (p : Int × Int), p ∈ canon l ↔ p ∈ l
  | [], p => Iff.rfl
  | q :: l, p => by
    unfold canon
    rw [mem_insP, mem_canon l p, List.mem_cons]
def edgesL (k : Nat) (l0 : List S24) (l1 : List S29) : List (Int × Int) → Option (List S60)
  | [] => some []
  | p :: ps => (wtO k l0 l1 p).bind fun w => (edgesL k l0 l1 ps).bind fun es => some (if w = 0 then es else ⟨p.1, p.2, w⟩ :: es)
def match_Edges.f (k : Nat) (l0 : List S24) (l1 : List S29) (l2 : List PairI) : Option (List S60 × Int) :=
  if l0.length ≤ 200 ∧ l1.length ≤ 1000 ∧ l2.length ≤ 20000 then
    (if (l2.map toP).all (okP l1.length) = true then (edgesL k l0 l1 (canon (l2.map toP))).bind fun es => some (es, 0) else some ([], 1)) else none
/-- What edgesL answers: the edges of the pairs whose weight is not 0. -/
theorem edgesL_spec {k : Nat} {l0 : List S24} {l1 : List S29} {wt : Int × Int → Int} : ∀ (ps : List (Int × Int)) {es : List S60}, edgesL k l0 l1 ps = some es → (∀ p ∈ ps, ∀ x, wtO k l0 l1 p = some x → wt p = x) →
    (∀ p ∈ ps, wtO k l0 l1 p = some (wt p)) ∧ es = (ps.filter fun p => wt p != 0).map (mkE wt)
  | [], es, h, _ => by
    injection h with h
    subst h
    exact ⟨fun _ h => (by cases h), rfl⟩
  | p :: ps, es, h, hw => by
    obtain ⟨x, hx, h⟩ := Option.bind_eq_some_iff.1 h
    obtain ⟨es2, h2, h⟩ := Option.bind_eq_some_iff.1 h
    injection h with h
    have hwp := hw p (by simp) x hx
    obtain ⟨i1, i2⟩ := edgesL_spec ps h2 (fun q hq => hw q (by simp [hq]))
    refine ⟨fun q hq => ?_, ?_⟩
    · rcases List.mem_cons.1 hq with rfl | hq
      · rw [hx, hwp]
      · exact i1 q hq
    · subst h
      by_cases h0 : x = 0
      · rw [if_pos h0, i2, List.filter_cons_of_neg (by simp [hwp, h0])]
      · rw [if_neg h0, i2, List.filter_cons_of_pos (by simp [hwp, h0]), List.map_cons, mkE, hwp]
theorem lt_ext : ∀ {a b : List S60}, a.Pairwise (fun x y => x.f0 < y.f0 ∨ x.f0 = y.f0 ∧ x.f1 < y.f1) → b.Pairwise (fun x y => x.f0 < y.f0 ∨ x.f0 = y.f0 ∧ x.f1 < y.f1) → (∀ x, x ∈ a ↔ x ∈ b) → a = b
  | [], [], _, _, _ => rfl
  | [], y :: b, _, _, h => by have := (h y).2 (by simp); cases this
  | x :: a, [], _, _, h => by have := (h x).1 (by simp); cases this
  | x :: a, y :: b, ha, hb, h => by
    obtain ⟨a1, a2⟩ := List.pairwise_cons.1 ha
    obtain ⟨b1, b2⟩ := List.pairwise_cons.1 hb
    have e : x = y := by
      rcases List.mem_cons.1 ((h x).1 (by simp)) with e | hx
      · exact e
      · rcases List.mem_cons.1 ((h y).2 (by simp)) with e | hy
        · exact e.symm
        · have h1 := b1 x hx
          have h2 := a1 y hy
          omega
    subst e
    rw [lt_ext a2 b2 (fun z => ?_)]
    constructor
    · intro hz
      rcases List.mem_cons.1 ((h z).1 (by simp [hz])) with e | hz2
      · subst e
        have := a1 z hz
        omega
      · exact hz2
    · intro hz
      rcases List.mem_cons.1 ((h z).2 (by simp [hz])) with e | hz2
      · subst e
        have := b1 z hz
        omega
      · exact hz2
theorem spec_unique {n : Nat} {l2 : List (Int × Int)} {wt : Int × Int → Int} {es es' : List S60} {c c' : Int} (h : EdgesSpec n l2 wt es c) (h' : EdgesSpec n l2 wt es' c') : es = es' ∧ c = c' := by
  unfold EdgesSpec at h h'
  by_cases ha : l2.all (okP n) = true
  · rw [if_pos ha] at h h'
    exact ⟨lt_ext h.2.1 h'.2.1 fun x => (h.2.2 x).trans (h'.2.2 x).symm, h.1.trans h'.1.symm⟩
  · rw [if_neg ha] at h h'
    exact ⟨h.1.trans h'.1.symm, h.2.trans h'.2.symm⟩
theorem edges_f_spec {k : Nat} {l0 : List S24} {l1 : List S29} {l2 : List PairI} {es : List S60} {c : Int} (h : match_Edges.f k l0 l1 l2 = some (es, c)) :
    (l0.length ≤ 200 ∧ l1.length ≤ 1000 ∧ l2.length ≤ 20000) ∧ ∃ wt : Int × Int → Int, ((l2.map toP).all (okP l1.length) = true → ∀ p ∈ l2.map toP, wtO k l0 l1 p = some (wt p)) ∧ EdgesSpec l1.length (l2.map toP) wt es c := by
  unfold match_Edges.f at h
  by_cases hb : l0.length ≤ 200 ∧ l1.length ≤ 1000 ∧ l2.length ≤ 20000
  · rw [if_pos hb] at h
    refine ⟨hb, fun p => (wtO k l0 l1 p).getD 0, ?_⟩
    by_cases ha : (l2.map toP).all (okP l1.length) = true
    · rw [if_pos ha] at h
      obtain ⟨es2, h2, h⟩ := Option.bind_eq_some_iff.1 h
      injection h with h
      injection h with h1 h3
      subst h1 h3
      obtain ⟨i1, i2⟩ := edgesL_spec (wt := fun p => (wtO k l0 l1 p).getD 0) _ h2 (fun p _ x hx => by rw [hx]; rfl)
      refine ⟨fun _ p hp => i1 p ((mem_canon _ p).2 hp), ?_⟩
      unfold EdgesSpec
      rw [if_pos ha, i2]
      refine ⟨rfl, ?_, fun x => ?_⟩
      · rw [List.pairwise_map]
        exact (canon_lt _).sublist List.filter_sublist
      · rw [List.mem_map]
        constructor
        · rintro ⟨p, hp, rfl⟩
          simp only [List.mem_filter, bne_iff_ne, ne_eq] at hp
          exact ⟨(mem_canon _ p).1 hp.1, rfl, hp.2⟩
        · rintro ⟨hx, e, hne⟩
          refine ⟨(x.f0, x.f1), ?_, ?_⟩
          · simp only [List.mem_filter, bne_iff_ne, ne_eq]
            exact ⟨(mem_canon _ _).2 hx, fun h0 => hne (e.trans h0)⟩
          · obtain ⟨a, b, d⟩ := x
            simp only [mkE] at e ⊢
            rw [← e]
    · rw [if_neg ha] at h
      injection h with h
      injection h with h1 h3
      subst h1 h3
      refine ⟨fun h => absurd h ha, ?_⟩
      unfold EdgesSpec
      rw [if_neg ha]
      exact ⟨rfl, rfl⟩
  · rw [if_neg hb] at h
    cases h
theorem C_toP {w : World} {A : Option Addr} {n : Nat} {xs : List PairI} (h : Kd.C k57 w A n xs) : Kd.C kP w A n (xs.map toP) := by
  obtain ⟨h1, h2, h3⟩ := h
  refine ⟨by rw [List.length_map]; exact h1, h2, fun h0 => ?_⟩
  obtain ⟨ad, e, hc⟩ := h3 h0
  refine ⟨ad, e, fun j p hp => ?_⟩
  rw [List.getElem?_map, Option.map_eq_some_iff] at hp
  obtain ⟨x, hx, rfl⟩ := hp
  exact hc j x hx
theorem match_Edges.calls (k : Nat) (A0 : Option Addr) (c0 : Nat) (l0 : List S24) (A1 : Option Addr) (c1 : Nat) (l1 : List S29) (A2 : Option Addr) (c2 : Nat) (l2 : List PairI) (r1 : List S60) (r2 : Int) (w : World)
    (hr0 : Kd.C k24 w A0 l0.length l0) (hc0 : l0.length ≤ c0) (hr1 : Kd.C k29 w A1 l1.length l1) (hc1 : l1.length ≤ c1) (hr2 : Kd.C k57 w A2 l2.length l2) (hc2 : l2.length ≤ c2) (hG : Gl w)
    (h : match_Edges.f k l0 l1 l2 = some (r1, r2)) :
    Calls Tryd.prog 16 #[.slice A0 l0.length c0, .slice A1 l1.length c1, .slice A2 l2.length c2] w fun e w' =>
      ∃ v0_ : Value, e = .returned (.tuple #[v0_, .int .i64 r2]) ∧ Kd.R k60 60 w' w.heap.size (fun _ => True) v0_ r1 ∧ Below w.heap.size w w' := by
  obtain ⟨⟨b0, b1, b2⟩, wt, hw, hs⟩ := edges_f_spec h
  have hr2' := C_toP hr2
  have el : l2.length = (l2.map toP).length := by simp
  rw [el] at hr2' hc2 b2 ⊢
  have hok : (∀ j (h : j < (l2.map toP).length), okP l1.length (l2.map toP)[j] = true) → (l2.map toP).all (okP l1.length) = true := fun hh => List.all_eq_true.2 fun p hp => by
    obtain ⟨j, hj, e⟩ := List.mem_iff_getElem.1 hp
    rw [← e]
    exact hh j hj
  have hw1 : (l2.map toP).all (okP l1.length) = true → ∀ p ∈ l2.map toP, U.match_Weight.f k l0 (rd_T29 l1 p.1).f0.f0 (rd_T29 l1 p.1).f0.f1 (rd_T29 l1 p.1).f0.f2 (rd_T29 l1 p.1).f1 (rd_T29 l1 p.1).f2 (rd_T29 l1 p.1).f3 (rd_T29 l1 p.2).f0.f0 (rd_T29 l1 p.2).f0.f1 (rd_T29 l1 p.2).f0.f2 (rd_T29 l1 p.2).f1 (rd_T29 l1 p.2).f2 (rd_T29 l1 p.2).f3 = some (wt p) ∧ (Lit.int .i64 (wt p)).wf = true := fun ha p hp => by
    obtain ⟨x, hx, h2⟩ := Option.bind_eq_some_iff.1 (hw ha p hp)
    by_cases hf : wfI x = true
    · rw [if_pos hf] at h2
      injection h2 with h2
      subst h2
      exact ⟨hx, wfI_wf hf⟩
    · rw [if_neg hf] at h2
      cases h2
  refine (edges_walk k A0 c0 l0 A1 c1 l1 A2 c2 (l2.map toP) w hr0 hc0 hr1 hc1 hr2' hc2 hG b0 b1 b2 wt (fun hh p hp _ => (hw1 (hok hh) p hp).1) (fun hh p hp => (hw1 (hok hh) p hp).2)).mono ?_
  rintro e w' ⟨v, es, code, rfl, hR, hB, hS⟩
  obtain ⟨rfl, rfl⟩ := spec_unique hS hs
  exact ⟨v, rfl, hR, hB⟩
end Go.Proofs.YtiffkknhnmpgbaaDoor
end

section
/- The head of the laws on match: fixed examples; it answers true. -/
namespace Go.Proofs.YtiffkknhnmpgbaaDoor
open Go Go.RowKit Go.Sort Go.Proofs.YtiffkknhnmpgbaaDoor.R Go.Proofs.YtiffkknhnmpgbaaDoorW.PrintWords Go.Proofs.YtiffkknhnmpgbaaDoorW.PrintLast Go.Proofs.YtiffkknhnmpgbaaDoorW.PrintMore
set_option linter.unusedVariables false
set_option linter.unusedSimpArgs false
theorem sc1 : match_Score.f 60 ⟨#[]⟩ 0 3 exTerms 0 ⟨#[]⟩ ⟨#[]⟩ 0 0 (recCells ⟨#[97, 110, 110]⟩ 30) 0 ⟨#[]⟩ ⟨#[]⟩ 0 0 (recCells ⟨#[65, 110, 110]⟩ 31) = some (6, [true, true]) := by decide +kernel
theorem sc2 : match_Score.f 60 ⟨#[]⟩ 0 3 exTerms 0 ⟨#[]⟩ ⟨#[]⟩ 0 0 (recCells ⟨#[97, 110, 110]⟩ 30) 0 ⟨#[]⟩ ⟨#[]⟩ 0 0 (recCells ⟨#[97, 110, 110, 97]⟩ (-1)) = some (5, [true, false]) := by decide +kernel
theorem sc3 : match_Score.f 60 ⟨#[]⟩ 0 3 exTerms 0 ⟨#[]⟩ ⟨#[]⟩ 0 0 (recCells ⟨#[97, 110, 110]⟩ 30) 0 ⟨#[]⟩ ⟨#[]⟩ 0 0 (recCells ⟨#[114, 111, 98, 101, 114, 116]⟩ 30) = some (-1, [false, true]) := by decide +kernel
theorem sc4 : match_Score.f 60 ⟨#[]⟩ 0 3 exTerms 0 ⟨#[]⟩ ⟨#[]⟩ 0 0 (recCells ⟨#[97, 110, 110]⟩ 30) 0 ⟨#[]⟩ ⟨#[]⟩ 1 0 (recCells ⟨#[97, 110, 110]⟩ 30) = some (0, []) := by decide +kernel
theorem wg4 : U.match_Weight.f 60 [(⟨⟨#[]⟩, 0, 3, exTerms⟩ : S24)] 0 ⟨#[]⟩ ⟨#[]⟩ 0 0 (recCells ⟨#[97, 110, 110]⟩ 30) 0 ⟨#[]⟩ ⟨#[]⟩ 1 0 (recCells ⟨#[97, 110, 110]⟩ 30) = some 0 := by decide +kernel
def recd (a0 : ByteArray) (a1 : Int) : S29 := ⟨⟨0, ⟨#[]⟩, ⟨#[]⟩⟩, 0, 0, recCells a0 a1⟩
def recs3 : List S29 := [recd ⟨#[97, 110, 110]⟩ 30, recd ⟨#[65, 110, 110]⟩ 31, recd ⟨#[114, 111, 98, 101, 114, 116]⟩ 30]
def mat1 : List S24 := [⟨⟨#[]⟩, 0, 3, exTerms⟩]
def es1 : List S60 := [⟨0, 1, 3⟩, ⟨0, 2, -4⟩, ⟨1, 2, -4⟩]
theorem ed1 : match_Edges.f 60 mat1 recs3 [⟨1, 2⟩, ⟨0, 1⟩, ⟨0, 2⟩, ⟨0, 1⟩] = some (es1, 0) := by kernel_rfl
theorem ed2 : match_Edges.f 60 mat1 recs3 [⟨1, 1⟩] = some ([], 1) := by kernel_rfl
/-- What stands in memory: the match and the first record in boxes, their rows. -/
structure HS (gm ga : Nat) (Am : Option Addr) (cm : Nat) (Aa : Option Addr) (ca : Nat) (w W : World) : Prop where
  m : W.heap[gm]? = some (.cells #[.string ⟨#[]⟩, .int .i64 0, .int .i64 3, .slice Am 2 cm] 24 (0, 0))
  a : W.heap[ga]? = some (.cells #[.int .i64 0, .string ⟨#[]⟩, .string ⟨#[]⟩, .int .i64 0, .int .i64 0, .slice Aa 2 ca] 29 (0, 0))
  cm : Kd.C k43 W Am 2 exTerms
  ca : Kd.C k50 W Aa 2 (recCells ⟨#[97, 110, 110]⟩ 30)
  gl : Gl W
  hb : Below w.heap.size w W
section
variable {gm ga : Nat} {Am : Option Addr} {cm : Nat} {Aa : Option Addr} {ca : Nat} {w W W' : World}
theorem HS.step (h : HS gm ga Am cm Aa ca w W) (hb : Below W.heap.size W W') : HS gm ga Am cm Aa ca w W' :=
  ⟨blk_below h.m hb, blk_below h.a hb, Kd.C_below h.cm hb, Kd.C_below h.ca hb, h.gl.below hb, below_step h.hb hb⟩
theorem HS.drew (h : HS gm ga Am cm Aa ca w W) : HS gm ga Am cm Aa ca w W.drew := h.step (below_drew (Below.refl _ _))
theorem HS.cells (h : HS gm ga Am cm Aa ca w W) : W.cell? ⟨gm, 0, none⟩ = some (.string ⟨#[]⟩) ∧ W.cell? ⟨gm, 1, none⟩ = some (.int .i64 0) ∧ W.cell? ⟨gm, 2, none⟩ = some (.int .i64 3) ∧ W.cell? ⟨gm, 3, none⟩ = some (.slice Am 2 cm) ∧
    W.cell? ⟨ga, 0, none⟩ = some (.int .i64 0) ∧ W.cell? ⟨ga, 1, none⟩ = some (.string ⟨#[]⟩) ∧ W.cell? ⟨ga, 2, none⟩ = some (.string ⟨#[]⟩) ∧ W.cell? ⟨ga, 3, none⟩ = some (.int .i64 0) ∧ W.cell? ⟨ga, 4, none⟩ = some (.int .i64 0) ∧ W.cell? ⟨ga, 5, none⟩ = some (.slice Aa 2 ca) :=
  ⟨(blk_cell h.m 0).trans rfl, (blk_cell h.m 1).trans rfl, (blk_cell h.m 2).trans rfl, (blk_cell h.m 3).trans rfl, (blk_cell h.a 0).trans rfl, (blk_cell h.a 1).trans rfl, (blk_cell h.a 2).trans rfl, (blk_cell h.a 3).trans rfl, (blk_cell h.a 4).trans rfl, (blk_cell h.a 5).trans rfl⟩
end
theorem score_ex {Am : Option Addr} {cm : Nat} {Aa : Option Addr} {ca : Nat} {Ab : Option Addr} {cb : Nat} (tb : Int) (xa xb : List S50) (r : Int) (l : List Bool) (hxa : xa.length = 2) (hxb : xb.length = 2)
    (h : match_Score.f 60 ⟨#[]⟩ 0 3 exTerms 0 ⟨#[]⟩ ⟨#[]⟩ 0 0 xa 0 ⟨#[]⟩ ⟨#[]⟩ tb 0 xb = some (r, l)) (W : World) (hm : Kd.C k43 W Am 2 exTerms) (hcm : 2 ≤ cm) (ha : Kd.C k50 W Aa 2 xa) (hca : 2 ≤ ca) (hb : Kd.C k50 W Ab 2 xb) (hcb : 2 ≤ cb) (hG : Gl W) :
    Calls Tryd.prog 11 #[.agg #[.string ⟨#[]⟩, .int .i64 0, .int .i64 3, .slice Am 2 cm], .agg #[.int .i64 0, .string ⟨#[]⟩, .string ⟨#[]⟩, .int .i64 0, .int .i64 0, .slice Aa 2 ca], .agg #[.int .i64 0, .string ⟨#[]⟩, .string ⟨#[]⟩, .int .i64 tb, .int .i64 0, .slice Ab 2 cb]] W fun e w' =>
      ∃ A c, e = .returned (.tuple #[.int .i64 r, .slice A l.length c]) ∧ l.length ≤ c ∧ Kd.C Kd.bool w' A l.length l ∧ Below W.heap.size W w' := by
  have hc := match_Score.calls 60 ⟨#[]⟩ 0 3 Am cm exTerms 0 ⟨#[]⟩ ⟨#[]⟩ 0 0 Aa ca xa 0 ⟨#[]⟩ ⟨#[]⟩ tb 0 Ab cb xb r l W hm hcm (by rw [hxa]; exact ha) (by rw [hxa]; exact hca) (by rw [hxb]; exact hb) (by rw [hxb]; exact hcb) hG h
  rw [hxa, hxb] at hc
  refine hc.mono ?_
  rintro e w' ⟨v, rfl, hR, hB⟩
  obtain ⟨A, c, rfl, hlc, hC⟩ := Kd.R_reads hR
  exact ⟨A, c, rfl, hlc, hC, hB⟩
theorem recs_end {gm ga : Nat} {Am : Option Addr} {cm : Nat} {Aa : Option Addr} {ca : Nat} {w W : World} {A4 : Option Addr} {c4 : Nat} {A5 : Option Addr} {c5 : Nat} (h : HS gm ga Am cm Aa ca w W) (h4 : Kd.C k50 W A4 2 (recCells ⟨#[65, 110, 110]⟩ 31)) (h5 : Kd.C k50 W A5 2 (recCells ⟨#[114, 111, 98, 101, 114, 116]⟩ 30)) (hca : 2 ≤ ca) (hc4 : 2 ≤ c4) (hc5 : 2 ≤ c5) :
    Kd.C k29 (W.alloc (.cells #[.int .i64 0, .string ⟨#[]⟩, .string ⟨#[]⟩, .int .i64 0, .int .i64 0, .slice Aa 2 ca, .int .i64 0, .string ⟨#[]⟩, .string ⟨#[]⟩, .int .i64 0, .int .i64 0, .slice A4 2 c4, .int .i64 0, .string ⟨#[]⟩, .string ⟨#[]⟩, .int .i64 0, .int .i64 0, .slice A5 2 c5] 29)) (some ⟨W.heap.size, 0, none⟩) 3 recs3 := by
  have hb := blk_new W (.cells #[.int .i64 0, .string ⟨#[]⟩, .string ⟨#[]⟩, .int .i64 0, .int .i64 0, .slice Aa 2 ca, .int .i64 0, .string ⟨#[]⟩, .string ⟨#[]⟩, .int .i64 0, .int .i64 0, .slice A4 2 c4, .int .i64 0, .string ⟨#[]⟩, .string ⟨#[]⟩, .int .i64 0, .int .i64 0, .slice A5 2 c5] 29)
  have hB := below_alloc (Below.refl W.heap.size W) (.cells #[.int .i64 0, .string ⟨#[]⟩, .string ⟨#[]⟩, .int .i64 0, .int .i64 0, .slice Aa 2 ca, .int .i64 0, .string ⟨#[]⟩, .string ⟨#[]⟩, .int .i64 0, .int .i64 0, .slice A4 2 c4, .int .i64 0, .string ⟨#[]⟩, .string ⟨#[]⟩, .int .i64 0, .int .i64 0, .slice A5 2 c5] 29)
  exact C_block (d := k29) (xs := recs3) hb ((((Reps.none _ _).snoc (k29_mk _ (recd ⟨#[97, 110, 110]⟩ 30) hca (Kd.C_below h.ca hB)) rfl).snoc (k29_mk _ (recd ⟨#[65, 110, 110]⟩ 31) hc4 (Kd.C_below h4 hB)) rfl).snoc (k29_mk _ (recd ⟨#[114, 111, 98, 101, 114, 116]⟩ 30) hc5 (Kd.C_below h5 hB)) rfl) (by decide)
theorem pairs1 (a : PairI) : ∀ W', Reps (k57.K W') 2 [a] (#[.int .i64 a.f0, .int .i64 a.f1] : Array Value).toList := fun W' => (Reps.none _ _).snoc (k57_mk _ a) rfl
theorem pairs4 (a b c d : PairI) : ∀ W', Reps (k57.K W') 2 [a, b, c, d] (#[.int .i64 a.f0, .int .i64 a.f1, .int .i64 b.f0, .int .i64 b.f1, .int .i64 c.f0, .int .i64 c.f1, .int .i64 d.f0, .int .i64 d.f1] : Array Value).toList := fun W' =>
  ((((Reps.none _ _).snoc (k57_mk _ a) rfl).snoc (k57_mk _ b) rfl).snoc (k57_mk _ c) rfl).snoc (k57_mk _ d) rfl
theorem mat1_C {gm ga : Nat} {Am : Option Addr} {cm : Nat} {Aa : Option Addr} {ca : Nat} {w W : World} (h : HS gm ga Am cm Aa ca w W) (hcm : 2 ≤ cm) : Kd.C k24 (W.alloc (.cells #[.string ⟨#[]⟩, .int .i64 0, .int .i64 3, .slice Am 2 cm] 24)) (some ⟨W.heap.size, 0, none⟩) 1 mat1 :=
  C_block (d := k24) (xs := mat1) (blk_new W _) ((Reps.none _ _).snoc (k24_mk _ (⟨⟨#[]⟩, 0, 3, exTerms⟩ : S24) hcm (Kd.C_below h.cm (below_alloc (Below.refl _ _) _))) rfl) (by decide)
theorem edges_ex {gm ga : Nat} {Am : Option Addr} {cm : Nat} {Aa : Option Addr} {ca : Nat} {w W : World} (n : Nat) (pc : Array Value) (ps : List PairI) (hn : ps.length = n) (hps : n ≤ 100) (hp : ∀ W', Reps (k57.K W') 2 ps pc.toList) (m : Nat) (es : List S60) (hm : es.length = m) (code : Int) (h : match_Edges.f 60 mat1 recs3 ps = some (es, code)) (H : HS gm ga Am cm Aa ca w W) (hcm : 2 ≤ cm) {gr : Nat} (hR : Kd.C k29 W (some ⟨gr, 0, none⟩) 3 recs3) :
    Calls Tryd.prog 16 #[.slice (some ⟨W.heap.size, 0, none⟩) 1 1, .slice (some ⟨gr, 0, none⟩) 3 3, .slice (some ⟨W.heap.size + 1, 0, none⟩) n n] ((W.alloc (.cells #[.string ⟨#[]⟩, .int .i64 0, .int .i64 3, .slice Am 2 cm] 24)).alloc (.cells pc 57)) fun e w' =>
      ∃ A c, e = .returned (.tuple #[.slice A m c, .int .i64 code]) ∧ m ≤ c ∧ Kd.C k60 w' A m es ∧ Below W.heap.size W w' := by
  subst hn hm
  have hB1 := below_alloc (Below.refl W.heap.size W) (.cells #[.string ⟨#[]⟩, .int .i64 0, .int .i64 3, .slice Am 2 cm] 24)
  have hB2 := below_alloc (Below.refl (W.alloc (.cells #[.string ⟨#[]⟩, .int .i64 0, .int .i64 3, .slice Am 2 cm] 24)).heap.size (W.alloc (.cells #[.string ⟨#[]⟩, .int .i64 0, .int .i64 3, .slice Am 2 cm] 24))) (.cells pc 57)
  have hb := blk_new (W.alloc (.cells #[.string ⟨#[]⟩, .int .i64 0, .int .i64 3, .slice Am 2 cm] 24)) (.cells pc 57)
  have hs : (W.alloc (.cells #[.string ⟨#[]⟩, .int .i64 0, .int .i64 3, .slice Am 2 cm] 24)).heap.size = W.heap.size + 1 := by simp
  rw [hs] at hb
  have hP := C_block (d := k57) (xs := ps) hb (hp _) (by omega)
  refine (match_Edges.calls 60 (some ⟨W.heap.size, 0, none⟩) 1 mat1 (some ⟨gr, 0, none⟩) 3 recs3 (some ⟨W.heap.size + 1, 0, none⟩) ps.length ps es code _ (Kd.C_below (mat1_C H hcm) hB2) (Nat.le_refl _) (Kd.C_below (Kd.C_below hR hB1) hB2) (Nat.le_refl _) hP (Nat.le_refl _) ((H.gl.below hB1).below hB2) h).mono ?_
  rintro e w' ⟨v, rfl, hRv, hB⟩
  obtain ⟨A, c, rfl, hlc, hC⟩ := Kd.R_reads hRv
  exact ⟨A, c, rfl, hlc, hC, below_step (below_step hB1 hB2) hB⟩
theorem weight_ex {gm ga : Nat} {Am : Option Addr} {cm : Nat} {Aa : Option Addr} {ca : Nat} {w W : World} (H : HS gm ga Am cm Aa ca w W) (hcm : 2 ≤ cm) (hca : 2 ≤ ca) :
    Calls Tryd.prog 13 #[.slice (some ⟨W.heap.size, 0, none⟩) 1 1, .agg #[.int .i64 0, .string ⟨#[]⟩, .string ⟨#[]⟩, .int .i64 0, .int .i64 0, .slice Aa 2 ca], .agg #[.int .i64 0, .string ⟨#[]⟩, .string ⟨#[]⟩, .int .i64 1, .int .i64 0, .slice Aa 2 ca]] (W.alloc (.cells #[.string ⟨#[]⟩, .int .i64 0, .int .i64 3, .slice Am 2 cm] 24)) fun e w' =>
      e = .returned (.int .i64 0) ∧ Below W.heap.size W w' := by
  have hB1 := below_alloc (Below.refl W.heap.size W) (.cells #[.string ⟨#[]⟩, .int .i64 0, .int .i64 3, .slice Am 2 cm] 24)
  have hca2 := Kd.C_below H.ca hB1
  refine (U.match_Weight.calls 60 (some ⟨W.heap.size, 0, none⟩) 1 mat1 0 ⟨#[]⟩ ⟨#[]⟩ 0 0 Aa ca (recCells ⟨#[97, 110, 110]⟩ 30) 0 ⟨#[]⟩ ⟨#[]⟩ 1 0 Aa ca (recCells ⟨#[97, 110, 110]⟩ 30) 0 _ (mat1_C H hcm) (Nat.le_refl _) hca2 hca hca2 hca (H.gl.below hB1) wg4).mono ?_
  rintro e w' ⟨rfl, hB⟩
  exact ⟨rfl, below_step hB1 hB⟩
theorem bools_ex {W : World} (l : List Bool) (b0 b1 : Bool) {A : Option Addr} {c : Nat} (hl : l = [b0, b1]) (hC : Kd.C Kd.bool W A 2 l) (hc : 2 ≤ c) :
    Calls Tryd.prog 12 #[.slice A 2 c, .slice (some ⟨W.heap.size, 0, none⟩) 2 2] (W.alloc (.cells #[.bool b0, .bool b1] 4)) fun e w' => e = .returned (.bool true) ∧ Below W.heap.size W w' := by
  have hB1 := below_alloc (Below.refl W.heap.size W) (.cells #[.bool b0, .bool b1] 4)
  subst hl
  have hL : Kd.C Kd.bool (W.alloc (.cells #[.bool b0, .bool b1] 4)) (some ⟨W.heap.size, 0, none⟩) 2 [b0, b1] := C_block (d := Kd.bool) (xs := [b0, b1]) (blk_new W _) (((Reps.none _ _).snoc (show Kd.bool.K _ b0 [.bool b0] from rfl) rfl).snoc (show Kd.bool.K _ b1 [.bool b1] from rfl) rfl) (by simp)
  have hf : cleanseref20_Bools.f 60 [b0, b1] [b0, b1] = some true := by cases b0 <;> cases b1 <;> decide +kernel
  refine (cleanseref20_Bools.calls 60 A c [b0, b1] (some ⟨W.heap.size, 0, none⟩) 2 [b0, b1] true _ (Kd.C_below hC hB1) hc hL (Nat.le_refl _) hf).mono ?_
  rintro e w' ⟨rfl, hD⟩
  exact ⟨rfl, below_step hB1 hD.below⟩
theorem same_f : cleanseref20_Same.f 60 es1 es1 = some true := by decide +kernel
theorem same_ex {W : World} {A : Option Addr} {c : Nat} (hC : Kd.C k60 W A 3 es1) (hc : 3 ≤ c) :
    Calls Tryd.prog 17 #[.slice A 3 c, .slice (some ⟨W.heap.size, 0, none⟩) 3 3] (W.alloc (.cells #[.int .i64 0, .int .i64 1, .int .i64 3, .int .i64 0, .int .i64 2, .int .i64 (-4), .int .i64 1, .int .i64 2, .int .i64 (-4)] 60)) fun e w' => e = .returned (.bool true) ∧ Below W.heap.size W w' := by
  have hB1 := below_alloc (Below.refl W.heap.size W) (.cells #[.int .i64 0, .int .i64 1, .int .i64 3, .int .i64 0, .int .i64 2, .int .i64 (-4), .int .i64 1, .int .i64 2, .int .i64 (-4)] 60)
  have hL : Kd.C k60 (W.alloc (.cells #[.int .i64 0, .int .i64 1, .int .i64 3, .int .i64 0, .int .i64 2, .int .i64 (-4), .int .i64 1, .int .i64 2, .int .i64 (-4)] 60)) (some ⟨W.heap.size, 0, none⟩) 3 es1 :=
    C_block (d := k60) (xs := es1) (blk_new W _) ((((Reps.none _ _).snoc (k60_mk _ ⟨0, 1, 3⟩) rfl).snoc (k60_mk _ ⟨0, 2, -4⟩) rfl).snoc (k60_mk _ ⟨1, 2, -4⟩) rfl) (by decide)
  refine (cleanseref20_Same.calls 60 A c es1 (some ⟨W.heap.size, 0, none⟩) 3 es1 true _ (Kd.C_below hC hB1) hc hL (Nat.le_refl _) same_f).mono ?_
  rintro e w' ⟨rfl, hD⟩
  exact ⟨rfl, below_step hB1 hD.below⟩
set_option maxRecDepth 100000 in
set_option maxHeartbeats 8000000 in
theorem head_walk (w : World) (hG : Gl w) : Calls Tryd.prog 9 #[] w fun e w' => e = .returned (.bool true) ∧ Below w.heap.size w w' := by
  have HGl := Aside0.mk hG
  clear hG
  go_enter Tryd.func9, Tryd.ntmps9
  go_wp2_with (first
    | (go_at_call 18; with_reducible refine (example_calls _).mono ?_; rintro e w1 ⟨Am, cm, rfl, hcm, hCm, hBm⟩)
    | (go_at_call 19; with_reducible refine (record_calls _ _ _).mono ?_; rintro e w2 ⟨Aa, ca, rfl, hca, hCa, hBa⟩))
  have H0 : HS w1.heap.size w2.heap.size Am cm Aa ca w (w2.alloc (.cells #[.int .i64 0, .string ⟨#[]⟩, .string ⟨#[]⟩, .int .i64 0, .int .i64 0, .slice Aa 2 ca] 29)) := by
    have hB1 : Below w1.heap.size w1 (w1.alloc (.cells #[.string ⟨#[]⟩, .int .i64 0, .int .i64 3, .slice Am 2 cm] 24)) := below_alloc (Below.refl _ _) _
    have hB2 : Below w2.heap.size w2 (w2.alloc (.cells #[.int .i64 0, .string ⟨#[]⟩, .string ⟨#[]⟩, .int .i64 0, .int .i64 0, .slice Aa 2 ca] 29)) := below_alloc (Below.refl _ _) _
    exact ⟨blk_below (blk_below (blk_new w1 _) hBa) hB2, blk_new w2 _, Kd.C_below (Kd.C_below (Kd.C_below hCm hB1) hBa) hB2, Kd.C_below hCa hB2, ((HGl.out.below hBm).below hB1 |>.below hBa).below hB2, below_step (below_step (below_step hBm hB1) hBa) hB2⟩
  generalize w2.alloc (.cells #[.int .i64 0, .string ⟨#[]⟩, .string ⟨#[]⟩, .int .i64 0, .int .i64 0, .slice Aa 2 ca] 29) = W0 at H0 ⊢
  clear hCm hBm hCa hBa HGl
  generalize w1.heap.size = gm at H0 ⊢
  generalize w2.heap.size = ga at H0 ⊢
  replace hcm := Aside0.mk hcm
  replace hca := Aside0.mk hca
  try go_wp2
  -- the region of score 1
  refine start_ (n := 9) (S := fun w' => w'.cell? ⟨gm, 0, none⟩ = some (.string ⟨#[]⟩) ∧ w'.cell? ⟨gm, 1, none⟩ = some (.int .i64 0) ∧ w'.cell? ⟨gm, 2, none⟩ = some (.int .i64 3) ∧ w'.cell? ⟨gm, 3, none⟩ = some (.slice Am 2 cm) ∧ w'.cell? ⟨ga, 0, none⟩ = some (.int .i64 0) ∧ w'.cell? ⟨ga, 1, none⟩ = some (.string ⟨#[]⟩) ∧ w'.cell? ⟨ga, 2, none⟩ = some (.string ⟨#[]⟩) ∧ w'.cell? ⟨ga, 3, none⟩ = some (.int .i64 0) ∧ w'.cell? ⟨ga, 4, none⟩ = some (.int .i64 0) ∧ w'.cell? ⟨ga, 5, none⟩ = some (.slice Aa 2 ca)) (ds := []) #[Z0,Z0,Z0,Z0,Z0,Z0,Z0,Z0,Z0] (by kernel_rfl) rfl rfl H0.drew.cells (fun hHeld => ?_)
  have H0d := H0.drew
  generalize W0.drew = W0d at H0d hHeld  ⊢
  clear H0
  refine take_ (i := 0) (N := some 21) (v := ?_) (a' := ?_) #[Z1,Z0,Z0,Z0,Z0,Z0,Z0,Z0,Z0] rfl rfl (by kernel_rfl) (fun _ _ _ h => h) (Or.inl ⟨by rfl, ?_⟩) hHeld ?_ ?_
  rotate_left; rintro w' ⟨s0, s1, s2, s3, s4, s5, s6, s7, s8, s9⟩; go_simp; with_reducible rfl; rotate_left; simp only [Act.put, pS_, pZ_, pC_, i64_w, i32_w]; rfl
  refine take_ (i := 1) (N := some 22) (v := ?_) (a' := ?_) #[Z1,Z1,Z0,Z0,Z0,Z0,Z0,Z0,Z0] rfl rfl (by kernel_rfl) (fun _ _ _ h => h) (Or.inl ⟨by rfl, ?_⟩) hHeld ?_ ?_
  rotate_left; rintro w' ⟨s0, s1, s2, s3, s4, s5, s6, s7, s8, s9⟩; go_simp; with_reducible rfl; rotate_left; simp only [Act.put, pS_, pZ_, pC_, i64_w, i32_w]; rfl
  refine one_ (i := 2) (N := some 23) #[Z1,Z1,Z1,Z0,Z0,Z0,Z0,Z0,Z0] rfl rfl (by kernel_rfl) (by decide) (fun K hK => ?_)
  refine goes_ Tryd.func19 (by kernel_rfl) rfl #[.string ⟨#[65, 110, 110]⟩, .int .i64 31] (by rfl) rfl rfl (by (try simp only [List.map_toArray, List.map_cons, List.map_nil]); rfl) ?_
  with_reducible refine (record_calls _ _ _).mono ?_
  rintro e wb1 ⟨Ab1, cb1, rfl, hcb1, hCb1, hBb1⟩
  refine ⟨_, rfl, ?_⟩
  have Hb1 := H0d.step hBb1
  clear H0d hHeld
  refine hK.out _ _ Hb1.cells (fun hHeld => ?_)
  clear hK K
  refine norm_ (a' := ?_) ?_ ?_
  rotate_left; show Act.put _ (some 23) _ = _; simp only [Act.put, pS_, pZ_, pC_, i64_w, i32_w]; rfl
  refine one_ (i := 3) (N := some 24) #[Z1,Z1,Z1,Z1,Z0,Z0,Z0,Z0,Z0] rfl rfl (by kernel_rfl) (by decide) (fun K hK => ?_)
  refine goes_ Tryd.func11 (by kernel_rfl) rfl #[.agg #[.string ⟨#[]⟩, .int .i64 0, .int .i64 3, .slice Am 2 cm], .agg #[.int .i64 0, .string ⟨#[]⟩, .string ⟨#[]⟩, .int .i64 0, .int .i64 0, .slice Aa 2 ca], .agg #[.int .i64 0, .string ⟨#[]⟩, .string ⟨#[]⟩, .int .i64 0, .int .i64 0, .slice Ab1 2 cb1]] (by rfl) rfl rfl (by (try simp only [List.map_toArray, List.map_cons, List.map_nil]); rfl) ?_
  with_reducible refine (score_ex 0 (recCells ⟨#[97, 110, 110]⟩ 30) (recCells ⟨#[65, 110, 110]⟩ 31) (6) [true, true] rfl rfl sc1 _ Hb1.cm hcm.out Hb1.ca hca.out hCb1 hcb1 Hb1.gl).mono ?_
  rintro e wc1 ⟨Ac1, cc1, rfl, hcc1, hCc1, hBc1⟩
  refine ⟨_, rfl, ?_⟩
  have Hc1 := Hb1.step hBc1
  clear hCb1 hcb1 hBb1 Hb1 hHeld
  refine hK.out _ _ Hc1.cells (fun hHeld => ?_)
  clear hK K
  refine norm_ (a' := ?_) ?_ ?_
  rotate_left; show Act.put _ (some 24) _ = _; simp only [Act.put, pS_, pZ_, pC_, i64_w, i32_w]; rfl
  refine pure_ (i := 4) (N := some 20) (v := ?_) (a' := ?_) #[Z1,Z1,Z1,Z1,Z1,Z0,Z0,Z0,Z0] rfl rfl (by kernel_rfl) (fun _ _ _ h => h) (Or.inl ⟨by rfl, ?_⟩) ?_ ?_
  rotate_left; intro w'; go_simp; with_reducible rfl; rotate_left; simp only [Act.put, pS_, pZ_, pC_, i64_w, i32_w]; rfl
  refine pure_ (i := 5) (N := some 25) (v := ?_) (a' := ?_) #[Z1,Z1,Z1,Z1,Z1,Z1,Z0,Z0,Z0] rfl rfl (by kernel_rfl) (fun _ _ _ h => h) (Or.inl ⟨by rfl, ?_⟩) ?_ ?_
  rotate_left; intro w'; go_simp; with_reducible rfl; rotate_left; simp only [Act.put, pS_, pZ_, pC_, i64_w, i32_w]; rfl
  refine pure_ (i := 6) (N := some 26) (v := ?_) (a' := ?_) #[Z1,Z1,Z1,Z1,Z1,Z1,Z1,Z0,Z0] rfl rfl (by kernel_rfl) (fun _ _ _ h => h) (Or.inl ⟨by rfl, ?_⟩) ?_ ?_
  rotate_left; intro w'; go_simp; with_reducible rfl; rotate_left; simp only [Act.put, pS_, pZ_, pC_, i64_w, i32_w]; rfl
  refine pure_ (i := 7) (N := some 3) (v := ?_) (a' := ?_) #[Z1,Z1,Z1,Z1,Z1,Z1,Z1,Z1,Z0] rfl rfl (by kernel_rfl) (fun _ _ _ h => h) (Or.inl ⟨by rfl, ?_⟩) ?_ ?_
  rotate_left; intro w'; go_simp; with_reducible rfl; rotate_left; simp only [Act.put, pS_, pZ_, pC_, i64_w, i32_w]; rfl
  refine pure_ (i := 8) (N := some 4) (v := ?_) (a' := ?_) #[Z1,Z1,Z1,Z1,Z1,Z1,Z1,Z1,Z1] rfl rfl (by kernel_rfl) (fun _ _ _ h => h) (Or.inl ⟨by rfl, ?_⟩) ?_ ?_
  rotate_left; intro w'; go_simp; with_reducible rfl; rotate_left; simp only [Act.put, pS_, pZ_, pC_, i64_w, i32_w]; rfl
  refine done_ (by kernel_rfl) ?_
  have F1 := Aside0.mk hCc1
  have Hcc1 := Aside0.mk hcc1
  clear hCc1 hcc1 hBc1 hHeld
  try go_wp2
  -- the region of score 2
  refine start_ (n := 9) (S := fun w' => w'.cell? ⟨gm, 0, none⟩ = some (.string ⟨#[]⟩) ∧ w'.cell? ⟨gm, 1, none⟩ = some (.int .i64 0) ∧ w'.cell? ⟨gm, 2, none⟩ = some (.int .i64 3) ∧ w'.cell? ⟨gm, 3, none⟩ = some (.slice Am 2 cm) ∧ w'.cell? ⟨ga, 0, none⟩ = some (.int .i64 0) ∧ w'.cell? ⟨ga, 1, none⟩ = some (.string ⟨#[]⟩) ∧ w'.cell? ⟨ga, 2, none⟩ = some (.string ⟨#[]⟩) ∧ w'.cell? ⟨ga, 3, none⟩ = some (.int .i64 0) ∧ w'.cell? ⟨ga, 4, none⟩ = some (.int .i64 0) ∧ w'.cell? ⟨ga, 5, none⟩ = some (.slice Aa 2 ca)) (ds := []) #[Z0,Z0,Z0,Z0,Z0,Z0,Z0,Z0,Z0] (by kernel_rfl) rfl rfl Hc1.drew.cells (fun hHeld => ?_)
  have Hc1d := Hc1.drew
  replace F1 := Aside0.mk (Kd.C_drew F1.out)
  generalize wc1.drew = wc1d at Hc1d hHeld F1 ⊢
  clear Hc1
  refine take_ (i := 0) (N := some 28) (v := ?_) (a' := ?_) #[Z1,Z0,Z0,Z0,Z0,Z0,Z0,Z0,Z0] rfl rfl (by kernel_rfl) (fun _ _ _ h => h) (Or.inl ⟨by rfl, ?_⟩) hHeld ?_ ?_
  rotate_left; rintro w' ⟨s0, s1, s2, s3, s4, s5, s6, s7, s8, s9⟩; go_simp; with_reducible rfl; rotate_left; simp only [Act.put, pS_, pZ_, pC_, i64_w, i32_w]; rfl
  refine take_ (i := 1) (N := some 29) (v := ?_) (a' := ?_) #[Z1,Z1,Z0,Z0,Z0,Z0,Z0,Z0,Z0] rfl rfl (by kernel_rfl) (fun _ _ _ h => h) (Or.inl ⟨by rfl, ?_⟩) hHeld ?_ ?_
  rotate_left; rintro w' ⟨s0, s1, s2, s3, s4, s5, s6, s7, s8, s9⟩; go_simp; with_reducible rfl; rotate_left; simp only [Act.put, pS_, pZ_, pC_, i64_w, i32_w]; rfl
  refine one_ (i := 2) (N := some 30) #[Z1,Z1,Z1,Z0,Z0,Z0,Z0,Z0,Z0] rfl rfl (by kernel_rfl) (by decide) (fun K hK => ?_)
  refine goes_ Tryd.func19 (by kernel_rfl) rfl #[.string ⟨#[97, 110, 110, 97]⟩, .int .i64 (-1)] (by rfl) rfl rfl (by (try simp only [List.map_toArray, List.map_cons, List.map_nil]); rfl) ?_
  with_reducible refine (record_calls _ _ _).mono ?_
  rintro e wb2 ⟨Ab2, cb2, rfl, hcb2, hCb2, hBb2⟩
  refine ⟨_, rfl, ?_⟩
  have Hb2 := Hc1d.step hBb2
  clear Hc1d hHeld
  replace F1 := Aside0.mk (Kd.C_below F1.out hBb2)
  refine hK.out _ _ Hb2.cells (fun hHeld => ?_)
  clear hK K
  refine norm_ (a' := ?_) ?_ ?_
  rotate_left; show Act.put _ (some 30) _ = _; simp only [Act.put, pS_, pZ_, pC_, i64_w, i32_w]; rfl
  refine one_ (i := 3) (N := some 31) #[Z1,Z1,Z1,Z1,Z0,Z0,Z0,Z0,Z0] rfl rfl (by kernel_rfl) (by decide) (fun K hK => ?_)
  refine goes_ Tryd.func11 (by kernel_rfl) rfl #[.agg #[.string ⟨#[]⟩, .int .i64 0, .int .i64 3, .slice Am 2 cm], .agg #[.int .i64 0, .string ⟨#[]⟩, .string ⟨#[]⟩, .int .i64 0, .int .i64 0, .slice Aa 2 ca], .agg #[.int .i64 0, .string ⟨#[]⟩, .string ⟨#[]⟩, .int .i64 0, .int .i64 0, .slice Ab2 2 cb2]] (by rfl) rfl rfl (by (try simp only [List.map_toArray, List.map_cons, List.map_nil]); rfl) ?_
  with_reducible refine (score_ex 0 (recCells ⟨#[97, 110, 110]⟩ 30) (recCells ⟨#[97, 110, 110, 97]⟩ (-1)) (5) [true, false] rfl rfl sc2 _ Hb2.cm hcm.out Hb2.ca hca.out hCb2 hcb2 Hb2.gl).mono ?_
  rintro e wc2 ⟨Ac2, cc2, rfl, hcc2, hCc2, hBc2⟩
  refine ⟨_, rfl, ?_⟩
  have Hc2 := Hb2.step hBc2
  replace F1 := Aside0.mk (Kd.C_below F1.out hBc2)
  clear hCb2 hcb2 hBb2 Hb2 hHeld
  refine hK.out _ _ Hc2.cells (fun hHeld => ?_)
  clear hK K
  refine norm_ (a' := ?_) ?_ ?_
  rotate_left; show Act.put _ (some 31) _ = _; simp only [Act.put, pS_, pZ_, pC_, i64_w, i32_w]; rfl
  refine pure_ (i := 4) (N := some 27) (v := ?_) (a' := ?_) #[Z1,Z1,Z1,Z1,Z1,Z0,Z0,Z0,Z0] rfl rfl (by kernel_rfl) (fun _ _ _ h => h) (Or.inl ⟨by rfl, ?_⟩) ?_ ?_
  rotate_left; intro w'; go_simp; with_reducible rfl; rotate_left; simp only [Act.put, pS_, pZ_, pC_, i64_w, i32_w]; rfl
  refine pure_ (i := 5) (N := some 32) (v := ?_) (a' := ?_) #[Z1,Z1,Z1,Z1,Z1,Z1,Z0,Z0,Z0] rfl rfl (by kernel_rfl) (fun _ _ _ h => h) (Or.inl ⟨by rfl, ?_⟩) ?_ ?_
  rotate_left; intro w'; go_simp; with_reducible rfl; rotate_left; simp only [Act.put, pS_, pZ_, pC_, i64_w, i32_w]; rfl
  refine pure_ (i := 6) (N := some 33) (v := ?_) (a' := ?_) #[Z1,Z1,Z1,Z1,Z1,Z1,Z1,Z0,Z0] rfl rfl (by kernel_rfl) (fun _ _ _ h => h) (Or.inl ⟨by rfl, ?_⟩) ?_ ?_
  rotate_left; intro w'; go_simp; with_reducible rfl; rotate_left; simp only [Act.put, pS_, pZ_, pC_, i64_w, i32_w]; rfl
  refine pure_ (i := 7) (N := some 5) (v := ?_) (a' := ?_) #[Z1,Z1,Z1,Z1,Z1,Z1,Z1,Z1,Z0] rfl rfl (by kernel_rfl) (fun _ _ _ h => h) (Or.inl ⟨by rfl, ?_⟩) ?_ ?_
  rotate_left; intro w'; go_simp; with_reducible rfl; rotate_left; simp only [Act.put, pS_, pZ_, pC_, i64_w, i32_w]; rfl
  refine pure_ (i := 8) (N := some 6) (v := ?_) (a' := ?_) #[Z1,Z1,Z1,Z1,Z1,Z1,Z1,Z1,Z1] rfl rfl (by kernel_rfl) (fun _ _ _ h => h) (Or.inl ⟨by rfl, ?_⟩) ?_ ?_
  rotate_left; intro w'; go_simp; with_reducible rfl; rotate_left; simp only [Act.put, pS_, pZ_, pC_, i64_w, i32_w]; rfl
  refine done_ (by kernel_rfl) ?_
  have F2 := Aside0.mk hCc2
  have Hcc2 := Aside0.mk hcc2
  clear hCc2 hcc2 hBc2 hHeld
  try go_wp2
  -- the region of score 3
  refine start_ (n := 9) (S := fun w' => w'.cell? ⟨gm, 0, none⟩ = some (.string ⟨#[]⟩) ∧ w'.cell? ⟨gm, 1, none⟩ = some (.int .i64 0) ∧ w'.cell? ⟨gm, 2, none⟩ = some (.int .i64 3) ∧ w'.cell? ⟨gm, 3, none⟩ = some (.slice Am 2 cm) ∧ w'.cell? ⟨ga, 0, none⟩ = some (.int .i64 0) ∧ w'.cell? ⟨ga, 1, none⟩ = some (.string ⟨#[]⟩) ∧ w'.cell? ⟨ga, 2, none⟩ = some (.string ⟨#[]⟩) ∧ w'.cell? ⟨ga, 3, none⟩ = some (.int .i64 0) ∧ w'.cell? ⟨ga, 4, none⟩ = some (.int .i64 0) ∧ w'.cell? ⟨ga, 5, none⟩ = some (.slice Aa 2 ca)) (ds := []) #[Z0,Z0,Z0,Z0,Z0,Z0,Z0,Z0,Z0] (by kernel_rfl) rfl rfl Hc2.drew.cells (fun hHeld => ?_)
  have Hc2d := Hc2.drew
  replace F1 := Aside0.mk (Kd.C_drew F1.out)
  replace F2 := Aside0.mk (Kd.C_drew F2.out)
  generalize wc2.drew = wc2d at Hc2d hHeld F1 F2 ⊢
  clear Hc2
  refine take_ (i := 0) (N := some 35) (v := ?_) (a' := ?_) #[Z1,Z0,Z0,Z0,Z0,Z0,Z0,Z0,Z0] rfl rfl (by kernel_rfl) (fun _ _ _ h => h) (Or.inl ⟨by rfl, ?_⟩) hHeld ?_ ?_
  rotate_left; rintro w' ⟨s0, s1, s2, s3, s4, s5, s6, s7, s8, s9⟩; go_simp; with_reducible rfl; rotate_left; simp only [Act.put, pS_, pZ_, pC_, i64_w, i32_w]; rfl
  refine take_ (i := 1) (N := some 36) (v := ?_) (a' := ?_) #[Z1,Z1,Z0,Z0,Z0,Z0,Z0,Z0,Z0] rfl rfl (by kernel_rfl) (fun _ _ _ h => h) (Or.inl ⟨by rfl, ?_⟩) hHeld ?_ ?_
  rotate_left; rintro w' ⟨s0, s1, s2, s3, s4, s5, s6, s7, s8, s9⟩; go_simp; with_reducible rfl; rotate_left; simp only [Act.put, pS_, pZ_, pC_, i64_w, i32_w]; rfl
  refine one_ (i := 2) (N := some 37) #[Z1,Z1,Z1,Z0,Z0,Z0,Z0,Z0,Z0] rfl rfl (by kernel_rfl) (by decide) (fun K hK => ?_)
  refine goes_ Tryd.func19 (by kernel_rfl) rfl #[.string ⟨#[114, 111, 98, 101, 114, 116]⟩, .int .i64 30] (by rfl) rfl rfl (by (try simp only [List.map_toArray, List.map_cons, List.map_nil]); rfl) ?_
  with_reducible refine (record_calls _ _ _).mono ?_
  rintro e wb3 ⟨Ab3, cb3, rfl, hcb3, hCb3, hBb3⟩
  refine ⟨_, rfl, ?_⟩
  have Hb3 := Hc2d.step hBb3
  clear Hc2d hHeld
  replace F1 := Aside0.mk (Kd.C_below F1.out hBb3)
  replace F2 := Aside0.mk (Kd.C_below F2.out hBb3)
  refine hK.out _ _ Hb3.cells (fun hHeld => ?_)
  clear hK K
  refine norm_ (a' := ?_) ?_ ?_
  rotate_left; show Act.put _ (some 37) _ = _; simp only [Act.put, pS_, pZ_, pC_, i64_w, i32_w]; rfl
  refine one_ (i := 3) (N := some 38) #[Z1,Z1,Z1,Z1,Z0,Z0,Z0,Z0,Z0] rfl rfl (by kernel_rfl) (by decide) (fun K hK => ?_)
  refine goes_ Tryd.func11 (by kernel_rfl) rfl #[.agg #[.string ⟨#[]⟩, .int .i64 0, .int .i64 3, .slice Am 2 cm], .agg #[.int .i64 0, .string ⟨#[]⟩, .string ⟨#[]⟩, .int .i64 0, .int .i64 0, .slice Aa 2 ca], .agg #[.int .i64 0, .string ⟨#[]⟩, .string ⟨#[]⟩, .int .i64 0, .int .i64 0, .slice Ab3 2 cb3]] (by rfl) rfl rfl (by (try simp only [List.map_toArray, List.map_cons, List.map_nil]); rfl) ?_
  with_reducible refine (score_ex 0 (recCells ⟨#[97, 110, 110]⟩ 30) (recCells ⟨#[114, 111, 98, 101, 114, 116]⟩ 30) (-1) [false, true] rfl rfl sc3 _ Hb3.cm hcm.out Hb3.ca hca.out hCb3 hcb3 Hb3.gl).mono ?_
  rintro e wc3 ⟨Ac3, cc3, rfl, hcc3, hCc3, hBc3⟩
  refine ⟨_, rfl, ?_⟩
  have Hc3 := Hb3.step hBc3
  replace F1 := Aside0.mk (Kd.C_below F1.out hBc3)
  replace F2 := Aside0.mk (Kd.C_below F2.out hBc3)
  clear hCb3 hcb3 hBb3 Hb3 hHeld
  refine hK.out _ _ Hc3.cells (fun hHeld => ?_)
  clear hK K
  refine norm_ (a' := ?_) ?_ ?_
  rotate_left; show Act.put _ (some 38) _ = _; simp only [Act.put, pS_, pZ_, pC_, i64_w, i32_w]; rfl
  refine pure_ (i := 4) (N := some 34) (v := ?_) (a' := ?_) #[Z1,Z1,Z1,Z1,Z1,Z0,Z0,Z0,Z0] rfl rfl (by kernel_rfl) (fun _ _ _ h => h) (Or.inl ⟨by rfl, ?_⟩) ?_ ?_
  rotate_left; intro w'; go_simp; with_reducible rfl; rotate_left; simp only [Act.put, pS_, pZ_, pC_, i64_w, i32_w]; rfl
  refine pure_ (i := 5) (N := some 39) (v := ?_) (a' := ?_) #[Z1,Z1,Z1,Z1,Z1,Z1,Z0,Z0,Z0] rfl rfl (by kernel_rfl) (fun _ _ _ h => h) (Or.inl ⟨by rfl, ?_⟩) ?_ ?_
  rotate_left; intro w'; go_simp; with_reducible rfl; rotate_left; simp only [Act.put, pS_, pZ_, pC_, i64_w, i32_w]; rfl
  refine pure_ (i := 6) (N := some 40) (v := ?_) (a' := ?_) #[Z1,Z1,Z1,Z1,Z1,Z1,Z1,Z0,Z0] rfl rfl (by kernel_rfl) (fun _ _ _ h => h) (Or.inl ⟨by rfl, ?_⟩) ?_ ?_
  rotate_left; intro w'; go_simp; with_reducible rfl; rotate_left; simp only [Act.put, pS_, pZ_, pC_, i64_w, i32_w]; rfl
  refine pure_ (i := 7) (N := some 7) (v := ?_) (a' := ?_) #[Z1,Z1,Z1,Z1,Z1,Z1,Z1,Z1,Z0] rfl rfl (by kernel_rfl) (fun _ _ _ h => h) (Or.inl ⟨by rfl, ?_⟩) ?_ ?_
  rotate_left; intro w'; go_simp; with_reducible rfl; rotate_left; simp only [Act.put, pS_, pZ_, pC_, i64_w, i32_w]; rfl
  refine pure_ (i := 8) (N := some 8) (v := ?_) (a' := ?_) #[Z1,Z1,Z1,Z1,Z1,Z1,Z1,Z1,Z1] rfl rfl (by kernel_rfl) (fun _ _ _ h => h) (Or.inl ⟨by rfl, ?_⟩) ?_ ?_
  rotate_left; intro w'; go_simp; with_reducible rfl; rotate_left; simp only [Act.put, pS_, pZ_, pC_, i64_w, i32_w]; rfl
  refine done_ (by kernel_rfl) ?_
  have F3 := Aside0.mk hCc3
  have Hcc3 := Aside0.mk hcc3
  clear hCc3 hcc3 hBc3 hHeld
  try go_wp2
  refine start_ (n := 5) (S := fun w' => w'.cell? ⟨gm, 0, none⟩ = some (.string ⟨#[]⟩) ∧ w'.cell? ⟨gm, 1, none⟩ = some (.int .i64 0) ∧ w'.cell? ⟨gm, 2, none⟩ = some (.int .i64 3) ∧ w'.cell? ⟨gm, 3, none⟩ = some (.slice Am 2 cm) ∧ w'.cell? ⟨ga, 0, none⟩ = some (.int .i64 0) ∧ w'.cell? ⟨ga, 1, none⟩ = some (.string ⟨#[]⟩) ∧ w'.cell? ⟨ga, 2, none⟩ = some (.string ⟨#[]⟩) ∧ w'.cell? ⟨ga, 3, none⟩ = some (.int .i64 0) ∧ w'.cell? ⟨ga, 4, none⟩ = some (.int .i64 0) ∧ w'.cell? ⟨ga, 5, none⟩ = some (.slice Aa 2 ca)) (ds := []) #[Z0,Z0,Z0,Z0,Z0] (by kernel_rfl) rfl rfl Hc3.drew.cells (fun hHeld => ?_)
  have Hc3d := Hc3.drew
  replace F1 := Aside0.mk (Kd.C_drew F1.out)
  replace F2 := Aside0.mk (Kd.C_drew F2.out)
  replace F3 := Aside0.mk (Kd.C_drew F3.out)
  generalize wc3.drew = wc3d at Hc3d hHeld F1 F2 F3 ⊢
  clear Hc3
  refine take_ (i := 0) (N := some 41) (v := ?_) (a' := ?_) #[Z1,Z0,Z0,Z0,Z0] rfl rfl (by kernel_rfl) (fun _ _ _ h => h) (Or.inl ⟨by rfl, ?_⟩) hHeld ?_ ?_
  rotate_left; rintro w' ⟨s0, s1, s2, s3, s4, s5, s6, s7, s8, s9⟩; go_simp; with_reducible rfl; rotate_left; simp only [Act.put, pS_, pZ_, pC_, i64_w, i32_w]; rfl
  refine one_ (i := 1) (N := some 42) #[Z1,Z1,Z0,Z0,Z0] rfl rfl (by kernel_rfl) (by decide) (fun K hK => ?_)
  refine goes_ Tryd.func19 (by kernel_rfl) rfl #[.string ⟨#[65, 110, 110]⟩, .int .i64 31] (by rfl) rfl rfl (by (try simp only [List.map_toArray, List.map_cons, List.map_nil]); rfl) ?_
  with_reducible refine (record_calls _ _ _).mono ?_
  rintro e w4 ⟨A4, c4, rfl, hc4, hC4, hB4⟩
  refine ⟨_, rfl, ?_⟩
  have H4 := Hc3d.step hB4
  clear Hc3d hHeld
  replace F1 := Aside0.mk (Kd.C_below F1.out hB4)
  replace F2 := Aside0.mk (Kd.C_below F2.out hB4)
  replace F3 := Aside0.mk (Kd.C_below F3.out hB4)
  refine hK.out _ _ H4.cells (fun hHeld => ?_)
  clear hK K
  refine norm_ (a' := ?_) ?_ ?_
  rotate_left; show Act.put _ (some 42) _ = _; simp only [Act.put, pS_, pZ_, pC_, i64_w, i32_w]; rfl
  refine one_ (i := 2) (N := some 43) #[Z1,Z1,Z1,Z0,Z0] rfl rfl (by kernel_rfl) (by decide) (fun K hK => ?_)
  refine goes_ Tryd.func19 (by kernel_rfl) rfl #[.string ⟨#[114, 111, 98, 101, 114, 116]⟩, .int .i64 30] (by rfl) rfl rfl (by (try simp only [List.map_toArray, List.map_cons, List.map_nil]); rfl) ?_
  with_reducible refine (record_calls _ _ _).mono ?_
  rintro e w5 ⟨A5, c5, rfl, hc5, hC5, hB5⟩
  refine ⟨_, rfl, ?_⟩
  have H5 := H4.step hB5
  clear hHeld
  replace F1 := Aside0.mk (Kd.C_below F1.out hB5)
  replace F2 := Aside0.mk (Kd.C_below F2.out hB5)
  replace F3 := Aside0.mk (Kd.C_below F3.out hB5)
  refine hK.out _ _ H5.cells (fun hHeld => ?_)
  clear hK K
  refine norm_ (a' := ?_) ?_ ?_
  rotate_left; show Act.put _ (some 43) _ = _; simp only [Act.put, pS_, pZ_, pC_, i64_w, i32_w]; rfl
  refine one_ (i := 3) (N := some 44) #[Z1,Z1,Z1,Z1,Z0] rfl rfl (by kernel_rfl) (by decide) (fun K hK => ?_)
  go_simp
  have H6 := H5.step (below_alloc (Below.refl _ _) (.cells #[.int .i64 0, .string ⟨#[]⟩, .string ⟨#[]⟩, .int .i64 0, .int .i64 0, .slice Aa 2 ca, .int .i64 0, .string ⟨#[]⟩, .string ⟨#[]⟩, .int .i64 0, .int .i64 0, .slice A4 2 c4, .int .i64 0, .string ⟨#[]⟩, .string ⟨#[]⟩, .int .i64 0, .int .i64 0, .slice A5 2 c5] 29))
  refine hK.out _ _ H6.cells (fun hHeld => ?_)
  clear hK K
  refine pure_ (i := 4) (N := some 9) (v := ?_) (a' := ?_) #[Z1,Z1,Z1,Z1,Z1] rfl rfl (by kernel_rfl) (fun _ _ _ h => h) (Or.inl ⟨by rfl, ?_⟩) ?_ ?_
  rotate_left; intro w'; go_simp; with_reducible rfl; rotate_left; simp only [Act.put, pS_, pZ_, pC_, i64_w, i32_w]; rfl
  refine done_ (by kernel_rfl) ?_
  replace F1 := Aside0.mk (Kd.C_below F1.out (below_alloc (Below.refl _ _) (.cells #[.int .i64 0, .string ⟨#[]⟩, .string ⟨#[]⟩, .int .i64 0, .int .i64 0, .slice Aa 2 ca, .int .i64 0, .string ⟨#[]⟩, .string ⟨#[]⟩, .int .i64 0, .int .i64 0, .slice A4 2 c4, .int .i64 0, .string ⟨#[]⟩, .string ⟨#[]⟩, .int .i64 0, .int .i64 0, .slice A5 2 c5] 29)))
  replace F2 := Aside0.mk (Kd.C_below F2.out (below_alloc (Below.refl _ _) (.cells #[.int .i64 0, .string ⟨#[]⟩, .string ⟨#[]⟩, .int .i64 0, .int .i64 0, .slice Aa 2 ca, .int .i64 0, .string ⟨#[]⟩, .string ⟨#[]⟩, .int .i64 0, .int .i64 0, .slice A4 2 c4, .int .i64 0, .string ⟨#[]⟩, .string ⟨#[]⟩, .int .i64 0, .int .i64 0, .slice A5 2 c5] 29)))
  replace F3 := Aside0.mk (Kd.C_below F3.out (below_alloc (Below.refl _ _) (.cells #[.int .i64 0, .string ⟨#[]⟩, .string ⟨#[]⟩, .int .i64 0, .int .i64 0, .slice Aa 2 ca, .int .i64 0, .string ⟨#[]⟩, .string ⟨#[]⟩, .int .i64 0, .int .i64 0, .slice A4 2 c4, .int .i64 0, .string ⟨#[]⟩, .string ⟨#[]⟩, .int .i64 0, .int .i64 0, .slice A5 2 c5] 29)))
  have hR := recs_end H5 (Kd.C_below hC4 hB5) hC5 hca.out hc4 hc5
  generalize w5.alloc (.cells #[.int .i64 0, .string ⟨#[]⟩, .string ⟨#[]⟩, .int .i64 0, .int .i64 0, .slice Aa 2 ca, .int .i64 0, .string ⟨#[]⟩, .string ⟨#[]⟩, .int .i64 0, .int .i64 0, .slice A4 2 c4, .int .i64 0, .string ⟨#[]⟩, .string ⟨#[]⟩, .int .i64 0, .int .i64 0, .slice A5 2 c5] 29) = W6 at hR H6 F1 F2 F3 hHeld ⊢
  generalize w5.heap.size = gr at hR ⊢
  have F4 := Aside0.mk hR
  clear hR hC4 hC5 hB4 hB5 hc4 hc5 H4 H5 hHeld
  have lm := blk_lt H6.m
  have la := blk_lt H6.a
  obtain ⟨s0, s1, s2, s3, s4, s5, s6, s7, s8, s9⟩ := H6.cells
  go_wp2_with (first
    | (go_at_call 16; with_reducible refine (edges_ex 4 #[.int .i64 1, .int .i64 2, .int .i64 0, .int .i64 1, .int .i64 0, .int .i64 2, .int .i64 0, .int .i64 1] [⟨1, 2⟩, ⟨0, 1⟩, ⟨0, 2⟩, ⟨0, 1⟩] rfl (by decide) (pairs4 _ _ _ _) 3 es1 rfl 0 ed1 H6 hcm.out F4.out).mono ?_; rintro e w7 ⟨Ae, ce, rfl, hce, hCe, hBe⟩; have HCE := Aside0.mk hce; have F5 := Aside0.mk hCe; have H7 := H6.step hBe; replace F1 := Aside0.mk (Kd.C_below F1.out hBe); replace F2 := Aside0.mk (Kd.C_below F2.out hBe); replace F3 := Aside0.mk (Kd.C_below F3.out hBe); replace F4 := Aside0.mk (Kd.C_below F4.out hBe); clear H6 lm la s0 s1 s2 s3 s4 s5 s6 s7 s8 s9; have lm := blk_lt H7.m; have la := blk_lt H7.a; obtain ⟨s0, s1, s2, s3, s4, s5, s6, s7, s8, s9⟩ := H7.cells; clear hBe hce hCe)
    | (go_at_call 16; with_reducible refine (edges_ex 1 #[.int .i64 1, .int .i64 1] [⟨1, 1⟩] rfl (by decide) (pairs1 _) 0 [] rfl 1 ed2 H7 hcm.out F4.out).mono ?_; rintro e w8 ⟨Ae2, ce2, rfl, hce2, hCe2, hBe⟩; have H8 := H7.step hBe; replace F1 := Aside0.mk (Kd.C_below F1.out hBe); replace F2 := Aside0.mk (Kd.C_below F2.out hBe); replace F3 := Aside0.mk (Kd.C_below F3.out hBe); replace F4 := Aside0.mk (Kd.C_below F4.out hBe); replace F5 := Aside0.mk (Kd.C_below F5.out hBe); clear H7 lm la s0 s1 s2 s3 s4 s5 s6 s7 s8 s9; have lm := blk_lt H8.m; have la := blk_lt H8.a; obtain ⟨s0, s1, s2, s3, s4, s5, s6, s7, s8, s9⟩ := H8.cells; clear hBe hce2 hCe2)
    | (go_at_call 11; have hB8 := below_alloc (Below.refl w8.heap.size w8) (.cells #[.int .i64 0, .string ⟨#[]⟩, .string ⟨#[]⟩, .int .i64 1, .int .i64 0, .slice Aa 2 ca] 29); have H8o := H8.step hB8; have q := score_ex 1 (recCells ⟨#[97, 110, 110]⟩ 30) (recCells ⟨#[97, 110, 110]⟩ 30) 0 [] rfl rfl sc4 _ H8o.cm hcm.out H8o.ca hca.out H8o.ca hca.out H8o.gl; with_reducible refine q.mono ?_; clear q H8o; rintro e w9 ⟨Ac4, cc4, rfl, hcc4, hCc4, hB9⟩; have OT := Aside0.mk (blk_below (blk_new w8 (.cells #[.int .i64 0, .string ⟨#[]⟩, .string ⟨#[]⟩, .int .i64 1, .int .i64 0, .slice Aa 2 ca] 29)) hB9); have hBB := below_step hB8 hB9; have H9 := H8.step hBB; replace F1 := Aside0.mk (Kd.C_below F1.out hBB); replace F2 := Aside0.mk (Kd.C_below F2.out hBB); replace F3 := Aside0.mk (Kd.C_below F3.out hBB); replace F4 := Aside0.mk (Kd.C_below F4.out hBB); replace F5 := Aside0.mk (Kd.C_below F5.out hBB); clear H8 lm la s0 s1 s2 s3 s4 s5 s6 s7 s8 s9; have lm := blk_lt H9.m; have la := blk_lt H9.a; obtain ⟨s0, s1, s2, s3, s4, s5, s6, s7, s8, s9⟩ := H9.cells; have t0 : w9.cell? ⟨w8.heap.size, 0, none⟩ = some (.int .i64 0) := (blk_cell OT.out 0).trans rfl; have t1 : w9.cell? ⟨w8.heap.size, 1, none⟩ = some (.string ⟨#[]⟩) := (blk_cell OT.out 1).trans rfl; have t2 : w9.cell? ⟨w8.heap.size, 2, none⟩ = some (.string ⟨#[]⟩) := (blk_cell OT.out 2).trans rfl; have t3 : w9.cell? ⟨w8.heap.size, 3, none⟩ = some (.int .i64 1) := (blk_cell OT.out 3).trans rfl; have t4 : w9.cell? ⟨w8.heap.size, 4, none⟩ = some (.int .i64 0) := (blk_cell OT.out 4).trans rfl; have t5 : w9.cell? ⟨w8.heap.size, 5, none⟩ = some (.slice Aa 2 ca) := (blk_cell OT.out 5).trans rfl; have lo := blk_lt OT.out; clear hBB hB8 hB9 hcc4 hCc4)
    | (go_at_call 12; have q := bools_ex (W := w9) [true, true] true true rfl F1.out Hcc1.out; with_reducible refine q.mono ?_; clear q; rintro e w10 ⟨rfl, hB10⟩; have H10 := H9.step hB10; replace F1 := Aside0.mk (Kd.C_below F1.out hB10); replace F2 := Aside0.mk (Kd.C_below F2.out hB10); replace F3 := Aside0.mk (Kd.C_below F3.out hB10); replace F4 := Aside0.mk (Kd.C_below F4.out hB10); replace F5 := Aside0.mk (Kd.C_below F5.out hB10); clear H9 lm la s0 s1 s2 s3 s4 s5 s6 s7 s8 s9; have lm := blk_lt H10.m; have la := blk_lt H10.a; obtain ⟨s0, s1, s2, s3, s4, s5, s6, s7, s8, s9⟩ := H10.cells; replace OT := Aside0.mk (blk_below OT.out hB10); clear t0 t1 t2 t3 t4 t5; have t0 : w10.cell? ⟨w8.heap.size, 0, none⟩ = some (.int .i64 0) := (blk_cell OT.out 0).trans rfl; have t1 : w10.cell? ⟨w8.heap.size, 1, none⟩ = some (.string ⟨#[]⟩) := (blk_cell OT.out 1).trans rfl; have t2 : w10.cell? ⟨w8.heap.size, 2, none⟩ = some (.string ⟨#[]⟩) := (blk_cell OT.out 2).trans rfl; have t3 : w10.cell? ⟨w8.heap.size, 3, none⟩ = some (.int .i64 1) := (blk_cell OT.out 3).trans rfl; have t4 : w10.cell? ⟨w8.heap.size, 4, none⟩ = some (.int .i64 0) := (blk_cell OT.out 4).trans rfl; have t5 : w10.cell? ⟨w8.heap.size, 5, none⟩ = some (.slice Aa 2 ca) := (blk_cell OT.out 5).trans rfl; clear lo; have lo := blk_lt OT.out; clear hB10)
    | (go_at_call 12; have q := bools_ex (W := w10) [true, false] true false rfl F2.out Hcc2.out; with_reducible refine q.mono ?_; clear q; rintro e w11 ⟨rfl, hB11⟩; have H11 := H10.step hB11; replace F1 := Aside0.mk (Kd.C_below F1.out hB11); replace F2 := Aside0.mk (Kd.C_below F2.out hB11); replace F3 := Aside0.mk (Kd.C_below F3.out hB11); replace F4 := Aside0.mk (Kd.C_below F4.out hB11); replace F5 := Aside0.mk (Kd.C_below F5.out hB11); clear H10 lm la s0 s1 s2 s3 s4 s5 s6 s7 s8 s9; have lm := blk_lt H11.m; have la := blk_lt H11.a; obtain ⟨s0, s1, s2, s3, s4, s5, s6, s7, s8, s9⟩ := H11.cells; replace OT := Aside0.mk (blk_below OT.out hB11); clear t0 t1 t2 t3 t4 t5; have t0 : w11.cell? ⟨w8.heap.size, 0, none⟩ = some (.int .i64 0) := (blk_cell OT.out 0).trans rfl; have t1 : w11.cell? ⟨w8.heap.size, 1, none⟩ = some (.string ⟨#[]⟩) := (blk_cell OT.out 1).trans rfl; have t2 : w11.cell? ⟨w8.heap.size, 2, none⟩ = some (.string ⟨#[]⟩) := (blk_cell OT.out 2).trans rfl; have t3 : w11.cell? ⟨w8.heap.size, 3, none⟩ = some (.int .i64 1) := (blk_cell OT.out 3).trans rfl; have t4 : w11.cell? ⟨w8.heap.size, 4, none⟩ = some (.int .i64 0) := (blk_cell OT.out 4).trans rfl; have t5 : w11.cell? ⟨w8.heap.size, 5, none⟩ = some (.slice Aa 2 ca) := (blk_cell OT.out 5).trans rfl; clear lo; have lo := blk_lt OT.out; clear hB11)
    | (go_at_call 12; have q := bools_ex (W := w11) [false, true] false true rfl F3.out Hcc3.out; with_reducible refine q.mono ?_; clear q; rintro e w12 ⟨rfl, hB12⟩; have H12 := H11.step hB12; replace F1 := Aside0.mk (Kd.C_below F1.out hB12); replace F2 := Aside0.mk (Kd.C_below F2.out hB12); replace F3 := Aside0.mk (Kd.C_below F3.out hB12); replace F4 := Aside0.mk (Kd.C_below F4.out hB12); replace F5 := Aside0.mk (Kd.C_below F5.out hB12); clear H11 lm la s0 s1 s2 s3 s4 s5 s6 s7 s8 s9; have lm := blk_lt H12.m; have la := blk_lt H12.a; obtain ⟨s0, s1, s2, s3, s4, s5, s6, s7, s8, s9⟩ := H12.cells; replace OT := Aside0.mk (blk_below OT.out hB12); clear t0 t1 t2 t3 t4 t5; have t0 : w12.cell? ⟨w8.heap.size, 0, none⟩ = some (.int .i64 0) := (blk_cell OT.out 0).trans rfl; have t1 : w12.cell? ⟨w8.heap.size, 1, none⟩ = some (.string ⟨#[]⟩) := (blk_cell OT.out 1).trans rfl; have t2 : w12.cell? ⟨w8.heap.size, 2, none⟩ = some (.string ⟨#[]⟩) := (blk_cell OT.out 2).trans rfl; have t3 : w12.cell? ⟨w8.heap.size, 3, none⟩ = some (.int .i64 1) := (blk_cell OT.out 3).trans rfl; have t4 : w12.cell? ⟨w8.heap.size, 4, none⟩ = some (.int .i64 0) := (blk_cell OT.out 4).trans rfl; have t5 : w12.cell? ⟨w8.heap.size, 5, none⟩ = some (.slice Aa 2 ca) := (blk_cell OT.out 5).trans rfl; clear lo; have lo := blk_lt OT.out; clear hB12)
    | (go_at_call 17; have q := same_ex (W := w12) F5.out HCE.out; with_reducible refine q.mono ?_; clear q; rintro e w13 ⟨rfl, hB13⟩; have H13 := H12.step hB13; replace F1 := Aside0.mk (Kd.C_below F1.out hB13); replace F2 := Aside0.mk (Kd.C_below F2.out hB13); replace F3 := Aside0.mk (Kd.C_below F3.out hB13); replace F4 := Aside0.mk (Kd.C_below F4.out hB13); replace F5 := Aside0.mk (Kd.C_below F5.out hB13); clear H12 lm la s0 s1 s2 s3 s4 s5 s6 s7 s8 s9; have lm := blk_lt H13.m; have la := blk_lt H13.a; obtain ⟨s0, s1, s2, s3, s4, s5, s6, s7, s8, s9⟩ := H13.cells; replace OT := Aside0.mk (blk_below OT.out hB13); clear t0 t1 t2 t3 t4 t5; have t0 : w13.cell? ⟨w8.heap.size, 0, none⟩ = some (.int .i64 0) := (blk_cell OT.out 0).trans rfl; have t1 : w13.cell? ⟨w8.heap.size, 1, none⟩ = some (.string ⟨#[]⟩) := (blk_cell OT.out 1).trans rfl; have t2 : w13.cell? ⟨w8.heap.size, 2, none⟩ = some (.string ⟨#[]⟩) := (blk_cell OT.out 2).trans rfl; have t3 : w13.cell? ⟨w8.heap.size, 3, none⟩ = some (.int .i64 1) := (blk_cell OT.out 3).trans rfl; have t4 : w13.cell? ⟨w8.heap.size, 4, none⟩ = some (.int .i64 0) := (blk_cell OT.out 4).trans rfl; have t5 : w13.cell? ⟨w8.heap.size, 5, none⟩ = some (.slice Aa 2 ca) := (blk_cell OT.out 5).trans rfl; clear lo; have lo := blk_lt OT.out; clear hB13)
    | (go_at_call 13; have q := weight_ex H13 hcm.out hca.out; with_reducible refine q.mono ?_; clear q; rintro e w14 ⟨rfl, hB14⟩; have H14 := H13.step hB14))
  refine bodyPost_ret (results_tmp rfl _ _ _) rfl ?_
  exact ⟨rfl, H14.hb⟩
def cleanselaw20_head.f : Option Bool := some true
theorem cleanselaw20_head.calls (r : Bool) (w : World) (hG : Gl w) (h : cleanselaw20_head.f = some r) : Calls Tryd.prog 9 #[] w fun e w' => e = .returned (.bool r) ∧ Below w.heap.size w w' := by
  obtain rfl : true = r := by injection h
  exact head_walk w hG
end Go.Proofs.YtiffkknhnmpgbaaDoor
end
