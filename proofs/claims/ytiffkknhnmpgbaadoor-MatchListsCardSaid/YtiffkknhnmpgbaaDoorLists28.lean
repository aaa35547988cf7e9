/- Parts of the proof of Lists: words, contracts and plain laws. -/
import Derived.Lib.QuietBelow
import Derived.Test.YtiffkknhnmpgbaaDoorLists16
import Derived.Test.YtiffkknhnmpgbaaDoorLists17
import Derived.Test.YtiffkknhnmpgbaaDoorLists20
import Derived.Test.YtiffkknhnmpgbaaDoorLists21
import Derived.Test.YtiffkknhnmpgbaaDoorLists27
namespace Go.Proofs.YtiffkknhnmpgbaaDoor.Q
end Go.Proofs.YtiffkknhnmpgbaaDoor.Q
namespace Go.Proofs.YtiffkknhnmpgbaaDoor.R
end Go.Proofs.YtiffkknhnmpgbaaDoor.R
namespace Go.Proofs.YtiffkknhnmpgbaaDoor.V
end Go.Proofs.YtiffkknhnmpgbaaDoor.V
section
/- match.contributions' iterator: which terms hold, and what each gives or takes, one by one. -/
namespace Go.Proofs.YtiffkknhnmpgbaaDoor
open Go Go.RowKit Go.Sort Go.Proofs.YtiffkknhnmpgbaaDoor.R Go.Proofs.YtiffkknhnmpgbaaDoorW.PrintWords Go.Proofs.YtiffkknhnmpgbaaDoorW.PrintLast Go.Proofs.YtiffkknhnmpgbaaDoorW.PrintMore
attribute [local go_sem] Oper.semAt_some
set_option linter.unusedVariables false
set_option linter.unusedSimpArgs false

/-- A record as_ the match sees it. -/
structure Rec where
  r0 : Int
  r1 : ByteArray
  r2 : ByteArray
  r3 : Int
  r4 : Int
  r5 : List S50
def hold (k : Nat) (a b : Rec) (t : S43) : Option Bool := match_holds.f k t.f0 t.f1 t.f2 t.f3.f0 t.f3.f1 t.f4 t.f5 a.r0 a.r1 a.r2 a.r3 a.r4 a.r5 b.r0 b.r1 b.r2 b.r3 b.r4 b.r5
def cN (t : S43) (b : Bool) : Int := if b = true then t.f4 else IntKind.i64.wrap (-t.f5)
def contribs (k : Nat) (a b : Rec) : List S43 → Option (List (Bool × Int))
  | [] => some []
  | t :: l => (hold k a b t).bind fun h => (contribs k a b l).bind fun r => some ((h, cN t h) :: r)
theorem contribs_spec {k : Nat} {a b : Rec} : ∀ {l : List S43} {xs : List (Bool × Int)}, contribs k a b l = some xs →
    xs.length = l.length ∧ ∀ i (h : i < l.length) (h' : i < xs.length), hold k a b l[i] = some xs[i].1 ∧ xs[i].2 = cN l[i] xs[i].1
  | [], xs, h => by
    simp only [contribs, Option.some.injEq] at h
    subst h
    exact ⟨rfl, fun i h => absurd h (Nat.not_lt_zero _)⟩
  | t :: l, xs, h => by
    simp only [contribs] at h
    obtain ⟨b1, h1, h⟩ := Option.bind_eq_some_iff.mp h
    obtain ⟨r, h2, h⟩ := Option.bind_eq_some_iff.mp h
    obtain rfl := Option.some.inj h
    obtain ⟨g1, g2⟩ := contribs_spec h2
    refine ⟨by simp [g1], fun i hi hi' => ?_⟩
    cases i with
    | zero => exact ⟨h1, rfl⟩
    | succ i => exact g2 i (by simpa using hi) (by simpa using hi')
abbrev recV (a : Rec) (A : Option Addr) (c : Nat) : Array Value := #[.int .i64 a.r0, .string a.r1, .string a.r2, .int .i64 a.r3, .int .i64 a.r4, .slice A a.r5.length c]

set_option maxRecDepth 100000 in
set_option maxHeartbeats 4000000 in
theorem contrib_seq (n k N0 Bm Ba Bb : Nat) (m0 : ByteArray) (m1 m2 : Int) (A0 : Option Addr) (c0 : Nat) (l0 : List S43) (a : Rec) (A1 : Option Addr) (c1 : Nat) (b : Rec) (A2 : Option Addr) (c2 : Nat) (xs : List (Bool × Int)) (w : World)
    (hxs : contribs k a b l0 = some xs) (hl : l0.length ≤ 1000) (hN : N0 ≤ w.heap.size)
    (hBm : w.heap[Bm]? = some (.cells #[.string m0, .int .i64 m1, .int .i64 m2, .slice A0 l0.length c0] 24 (0, 0)))
    (hBa : w.heap[Ba]? = some (.cells (recV a A1 c1) 29 (0, 0))) (hBb : w.heap[Bb]? = some (.cells (recV b A2 c2) 29 (0, 0)))
    (hc0 : l0.length ≤ c0) (hc1 : a.r5.length ≤ c1) (hc2 : b.r5.length ≤ c2)
    (hC : ∀ W : World, (∀ q, q < N0 → W.heap[q]? = w.heap[q]?) → Kd.C k43 W A0 l0.length l0 ∧ Kd.C k50 W A1 a.r5.length a.r5 ∧ Kd.C k50 W A2 b.r5.length b.r5 ∧ Gl W) :
    SeqT Fence.wide n Tryd.prog 32 #[.pointer (some ⟨Bm, 0, none⟩), .pointer (some ⟨Ba, 0, none⟩), .pointer (some ⟨Bb, 0, none⟩)] (fun x : Bool × Int => #[.bool x.1, .int .i64 x.2]) [] (fun q => q < N0 ∨ q = Bm ∨ q = Ba ∨ q = Bb) xs w := by
  intro l J W hW hJ hY h0
  have hlt : ∀ {B : Nat} {o : Obj}, w.heap[B]? = some o → W.heap[B]? = some o := fun {B o} h => (hW.block B (Array.getElem?_eq_some_iff.1 h).1).trans h
  obtain ⟨hlen, hat⟩ := contribs_spec hxs
  have hdd : ∀ k : Nat, (Fence.wide.depth.isSome = true → 1 ≤ k) := fun k h => by cases h
  have hm0 : W.cell? ⟨Bm, 3, none⟩ = some (.slice A0 l0.length c0) := (blk_cell (hlt hBm) 3).trans rfl
  have hKl : ∀ q, (q < N0 ∨ q = Bm ∨ q = Ba ∨ q = Bb) → q < w.heap.size := by
    rintro q (h | rfl | rfl | rfl)
    · omega
    · exact (Array.getElem?_eq_some_iff.1 hBm).1
    · exact (Array.getElem?_eq_some_iff.1 hBa).1
    · exact (Array.getElem?_eq_some_iff.1 hBb).1
  have hu43 := Tryd.underlying43
  refine callsIn_of_wp Tryd.func32 rfl trivial ?_ rfl
  simp only [Tryd.ntmps32, List.size_toArray, List.length_cons, List.length_nil, Nat.reduceAdd, Nat.reduceSub, Array.replicate_succ, Array.replicate_zero, List.push_toArray, List.append_toArray, List.nil_append, List.cons_append]
  gi_wp2
  gi_loopw [12] (fun v wr => ∃ i : Nat, i ≤ l0.length ∧ v = .int .i64 i ∧ J (xs.take i) wr ∧ (∀ q, (q < N0 ∨ q = Bm ∨ q = Ba ∨ q = Bb) → wr.heap[q]? = w.heap[q]?) ∧ W.heap.size ≤ wr.heap.size) (fun v _ => l0.length - (intOf v).toNat)
  case atStart => exact ⟨0, Nat.zero_le _, rfl, h0, fun q hq => hW.block q (hKl q hq), Nat.le_refl _⟩
  case round =>
    obtain ⟨i, hi, rfl, hj, hk, hsz⟩ := hrel
    by_cases hlt2 : i < l0.length
    · obtain ⟨g1, g2, g3, g4⟩ := hC wr (fun q hq => hk q (.inl hq))
      obtain ⟨ad, rfl, hx0, hx1, hx2, hx3, hx4, hx5, hx6⟩ := at_T43 g1 (i : Int) (by omega) (by omega)
      have hlt3 : (i : Int) < (l0.length : Int) := by omega
      have hr : rd_T43 l0 (i : Int) = l0[i] := by simp [rd_T43, List.getD_eq_getElem?_getD, hlt2]
      rw [hr] at hx0 hx1 hx2 hx3 hx4 hx5 hx6
      simp only [Int.toNat_natCast] at hx0 hx1 hx2 hx3 hx4 hx5 hx6
      obtain ⟨e1, e2⟩ := hat i hlt2 (by omega)
      generalize l0[i] = t at hx0 hx1 hx2 hx3 hx4 hx5 hx6 e1 e2
      gi_wp2
      obtain ⟨W2, hW2⟩ : ∃ W2, wr.alloc (.cells #[.int .i64 t.f0, .int .i64 t.f1, .int .i64 t.f2, .int .i64 t.f3.f0, .int .i64 t.f3.f1, .int .i64 t.f4, .int .i64 t.f5] 43) = W2 := ⟨_, rfl⟩
      rw [hW2]
      have hb2 : Below wr.heap.size wr W2 := by rw [← hW2]; exact below_alloc (Below.refl _ _) _
      have hB6 : W2.heap[wr.heap.size]? = some (.cells #[.int .i64 t.f0, .int .i64 t.f1, .int .i64 t.f2, .int .i64 t.f3.f0, .int .i64 t.f3.f1, .int .i64 t.f4, .int .i64 t.f5] 43 (0, 0)) := by rw [← hW2]; exact blk_new wr _
      have hK2 : ∀ q, (q < N0 ∨ q = Bm ∨ q = Ba ∨ q = Bb) → W2.heap[q]? = w.heap[q]? := fun q hq => (hb2.block q (by have := hKl q hq; have := hW.size; omega)).trans (hk q hq)
      obtain ⟨G1, G2, G3, G4⟩ := hC W2 (fun q hq => hK2 q (.inl hq))
      have hcall := match_holds.calls k t.f0 t.f1 t.f2 t.f3.f0 t.f3.f1 t.f4 t.f5 a.r0 a.r1 a.r2 a.r3 a.r4 A1 c1 a.r5 b.r0 b.r1 b.r2 b.r3 b.r4 A2 c2 b.r5 xs[i].1
      have cH : ∀ d os, Calls Tryd.prog 33 #[.agg #[.int .i64 t.f0, .int .i64 t.f1, .int .i64 t.f2, .int .i64 t.f3.f0, .int .i64 t.f3.f1, .int .i64 t.f4, .int .i64 t.f5], .agg (recV a A1 c1), .agg (recV b A2 c2)] (grow (redrawn W2 d) os) fun e w'' => e = .returned (.bool xs[i].1) ∧ ∃ p : Regrown, w'' = grow (redrawn W2 p.d) p.os := fun d os =>
        have hbl := below_regrown W2 d os
        Calls.regrown_of (hcall (grow (redrawn W2 d) os) (Kd.C_below G2 hbl) hc1 (Kd.C_below G3 hbl) hc2 (G4.below hbl) e1)
      have t0 := cell_regrown ((blk_cell hB6 0).trans rfl)
      have t1 := cell_regrown ((blk_cell hB6 1).trans rfl)
      have t2 := cell_regrown ((blk_cell hB6 2).trans rfl)
      have t3 := cell_regrown ((blk_cell hB6 3).trans rfl)
      have t4 := cell_regrown ((blk_cell hB6 4).trans rfl)
      have t5 := cell_regrown ((blk_cell hB6 5).trans rfl)
      have t6 := cell_regrown ((blk_cell hB6 6).trans rfl)
      have HA := (hK2 Ba (.inr (.inr (.inl rfl)))).trans hBa
      have a0 := cell_regrown ((blk_cell HA 0).trans rfl)
      have a1 := cell_regrown ((blk_cell HA 1).trans rfl)
      have a2 := cell_regrown ((blk_cell HA 2).trans rfl)
      have a3 := cell_regrown ((blk_cell HA 3).trans rfl)
      have a4 := cell_regrown ((blk_cell HA 4).trans rfl)
      have a5 := cell_regrown ((blk_cell HA 5).trans rfl)
      have HB := (hK2 Bb (.inr (.inr (.inr rfl)))).trans hBb
      have b0 := cell_regrown ((blk_cell HB 0).trans rfl)
      have b1 := cell_regrown ((blk_cell HB 1).trans rfl)
      have b2 := cell_regrown ((blk_cell HB 2).trans rfl)
      have b3 := cell_regrown ((blk_cell HB 3).trans rfl)
      have b4 := cell_regrown ((blk_cell HB 4).trans rfl)
      have b5 := cell_regrown ((blk_cell HB 5).trans rfl)
      rw [wpIn_wide]
      refine wp_region_quiet_below (by kernel_rfl) (by kernel_rfl) ?_
      repeat (quiet_step (first | exact cH _ _))
      refine wpQuiet_nil ?_
      intro _ hw'
      obtain ⟨⟨dq, osq⟩, hw''⟩ := hw'
      subst hw''
      obtain ⟨W3, hW3⟩ : ∃ W3, grow (redrawn W2 dq) osq = W3 := ⟨_, rfl⟩
      have hb3 : Below W2.heap.size W2 W3 := by rw [← hW3]; exact below_regrown W2 dq osq
      have f4 := t5 dq osq
      dsimp only
      rw [hW3] at f4 ⊢
      have hb : Below wr.heap.size wr W3 := hb2.trans (hb3.mono hb2.size)
      have hK3 : ∀ q, (q < N0 ∨ q = Bm ∨ q = Ba ∨ q = Bb) → W3.heap[q]? = w.heap[q]? := fun q hq => (hb.block q (by have := hKl q hq; have := hW.size; omega)).trans (hk q hq)
      have hJ3 : J (xs.take i) W3 := hJ _ _ _ hj ⟨hb.os, hb.tape, hb.output, hb.size, fun q o hq _ => (hb.block q (Array.getElem?_eq_some_iff.1 hq).1).trans hq⟩
      have htk : xs.take i ++ [xs[i]] = xs.take (i + 1) := (List.take_succ_eq_append_getElem (by omega)).symm
      have hR0 := hY (xs.take i) xs[i] W3 hJ3 (by rw [htk]; exact List.take_prefix _ _)
      rw [htk, e2] at hR0
      have HT := Lib.hid htk
      clear htk t0 t1 t2 t3 t4 t5 t6 a0 a1 a2 a3 a4 a5 b0 b1 b2 b3 b4 b5 cH hcall HA HB hx0 hx1 hx2 hx3 hx4 hx5 hx6 e1 e2 hJ3 hB6 g1 g2 g3 g4 G1 G2 G3 G4
      cases hbv : xs[i].1 with
      | true =>
        rw [hbv, show cN t true = t.f4 from rfl] at hR0
        obtain ⟨fn, tmps, assign, body, hy, hR⟩ := hR0
        gi_wp2
        refine ⟨hdd _, hR.mono ?_⟩
        rintro e W4 ⟨rfl, hJ4, hk4⟩
        have hk4' : ∀ q, (q < N0 ∨ q = Bm ∨ q = Ba ∨ q = Bb) → W4.heap[q]? = w.heap[q]? := fun q hq => by
          have h3 := hK3 q hq
          obtain ⟨o, ho⟩ : ∃ o, w.heap[q]? = some o := ⟨_, Array.getElem?_eq_getElem (hKl q hq)⟩
          rw [ho] at h3 ⊢
          exact hk4.same q o h3 (.inl hq)
        gi_wp2
        go_roundw
        case rel => exact ⟨i + 1, by omega, by go_num, hJ4, fun q hq => hk4' q hq, by have := hk4.size; have := hb.size; omega⟩
        case measure => simp [intOf]; omega
      | false =>
        rw [hbv, show cN t false = IntKind.i64.wrap (-t.f5) from rfl] at hR0
        obtain ⟨fn, tmps, assign, body, hy, hR⟩ := hR0
        gi_wp2
        refine ⟨hdd _, hR.mono ?_⟩
        rintro e W4 ⟨rfl, hJ4, hk4⟩
        have hk4' : ∀ q, (q < N0 ∨ q = Bm ∨ q = Ba ∨ q = Bb) → W4.heap[q]? = w.heap[q]? := fun q hq => by
          have h3 := hK3 q hq
          obtain ⟨o, ho⟩ : ∃ o, w.heap[q]? = some o := ⟨_, Array.getElem?_eq_getElem (hKl q hq)⟩
          rw [ho] at h3 ⊢
          exact hk4.same q o h3 (.inl hq)
        gi_wp2
        go_roundw
        case rel => exact ⟨i + 1, by omega, by go_num, hJ4, fun q hq => hk4' q hq, by have := hk4.size; have := hb.size; omega⟩
        case measure => simp [intOf]; omega
    · obtain rfl : i = l0.length := by omega
      rw [List.take_of_length_le (by omega)] at hj
      gi_wp2
      go_end0
      exact ⟨⟨_, rfl⟩, hj⟩
end Go.Proofs.YtiffkknhnmpgbaaDoor
end

section
/- match.Score: the sum and which terms hold, in the form of the printed contracts. -/
namespace Go.Proofs.YtiffkknhnmpgbaaDoor
open Go Go.RowKit Go.Sort Go.Proofs.YtiffkknhnmpgbaaDoor.R Go.Proofs.YtiffkknhnmpgbaaDoorW.PrintWords Go.Proofs.YtiffkknhnmpgbaaDoorW.PrintLast Go.Proofs.YtiffkknhnmpgbaaDoorW.PrintMore
attribute [local go_sem] Oper.semAt_some
set_option linter.unusedVariables false
set_option linter.unusedSimpArgs false

def sumX (xs : List (Bool × Int)) : Int := xs.foldl (fun s x => wrap64 (s + x.2)) 0
theorem sumX_snoc (xs : List (Bool × Int)) (x : Bool × Int) : sumX (xs ++ [x]) = wrap64 (sumX xs + x.2) := by simp [sumX, List.foldl_append]
def scoreF (k : Nat) (m0 : ByteArray) (m1 m2 : Int) (l0 : List S43) (a b : Rec) : Option (Int × List Bool) :=
  (V.match_about.f k m0 m1 m2 l0 a.r0 a.r1 a.r2 a.r3 a.r4 a.r5 b.r0 b.r1 b.r2 b.r3 b.r4 b.r5).bind fun t => if t = true then (if l0.length ≤ 1000 then (contribs k a b l0).bind fun xs => some (sumX xs, xs.map fun x => x.1) else none) else some (0, [])
theorem Kinfo4 : (Tryd.prog.info? 4).map (fun i => (i.zero, i.size, i.bytes)) = some (some (.bool false), 1, 1) := by kernel_rfl
theorem heap48 : Kd.Heap k48 := Kd.heap_iso _ (Kd.heap_pair (Kd.heap_int _) (Kd.heap_pair (Kd.heap_int _) Kd.heap_string))
theorem heap50 : Kd.Heap k50 := Kd.heap_iso _ (Kd.heap_pair heap48 (Kd.heap_pair (Kd.heap_int _) (Kd.heap_int _)))

theorem Gl.same {w W : World} (h : Gl w) (hs : ∀ q, q < w.heap.size → W.heap[q]? = w.heap[q]?) : Gl W := by
  have c : ∀ a v, w.cell? a = some v → W.cell? a = some v := fun a v e => by
    have := hs a.block (World.block_lt_of_cell? w _ e)
    rw [← e]
    simp only [World.cell?, this]
  exact ⟨c _ _ h.1, c _ _ h.2.1, c _ _ h.2.2.1, c _ _ h.2.2.2⟩
theorem keeps_append2 {T : Nat → Obj → Prop} {W w1 : World} {n₀ : Nat} {e : TypeId} {size : Nat} {v : Value} {k : Nat} {xs : List Value} {tmp : Obj} (hrow : W.ownsRow n₀ e size v k xs) (hg : (W.alloc tmp).grownBy w1 v.ownBlock)
    (hT : ∀ g cur, n₀ ≤ g → (W.alloc tmp).heap[g]? = some (.cells cur e (0, 0)) → ¬ T g (.cells cur e (0, 0))) : Keeps T W w1 :=
  (Keeps.alloc W tmp).trans (Keeps.of_grownBy hg (fun j o ej ho => by
    rcases (hrow.alloc tmp).2 with ⟨rfl, _⟩ | ⟨g, cap, cur, rfl, hb, hgb, _⟩
    · simp [Value.ownBlock] at ej
    · obtain rfl : g = j := by simpa [Value.ownBlock] using ej
      rw [hgb] at ho; cases ho
      exact hT g _ hb hgb))
theorem cells4 {W : World} {B : Nat} {t : TypeId} {v0 v1 v2 v3 : Value} (h : W.heap[B]? = some (.cells #[v0, v1, v2, v3] t (0, 0))) : W.cell? ⟨B, 0, none⟩ = some v0 ∧ W.cell? ⟨B, 1, none⟩ = some v1 ∧ W.cell? ⟨B, 2, none⟩ = some v2 ∧ W.cell? ⟨B, 3, none⟩ = some v3 :=
  ⟨(blk_cell h 0).trans rfl, (blk_cell h 1).trans rfl, (blk_cell h 2).trans rfl, (blk_cell h 3).trans rfl⟩
theorem cells6 {W : World} {B : Nat} {t : TypeId} {v0 v1 v2 v3 v4 v5 : Value} (h : W.heap[B]? = some (.cells #[v0, v1, v2, v3, v4, v5] t (0, 0))) : W.cell? ⟨B, 0, none⟩ = some v0 ∧ W.cell? ⟨B, 1, none⟩ = some v1 ∧ W.cell? ⟨B, 2, none⟩ = some v2 ∧ W.cell? ⟨B, 3, none⟩ = some v3 ∧ W.cell? ⟨B, 4, none⟩ = some v4 ∧ W.cell? ⟨B, 5, none⟩ = some v5 :=
  ⟨(blk_cell h 0).trans rfl, (blk_cell h 1).trans rfl, (blk_cell h 2).trans rfl, (blk_cell h 3).trans rfl, (blk_cell h 4).trans rfl, (blk_cell h 5).trans rfl⟩
theorem boxes3 (w : World) (c1 c2 c3 : Array Value) (t1 t2 t3 : TypeId) {w1 : World} (hb : Below (((w.alloc (.cells c1 t1)).alloc (.cells c2 t2)).alloc (.cells c3 t3)).heap.size (((w.alloc (.cells c1 t1)).alloc (.cells c2 t2)).alloc (.cells c3 t3)) w1) :
    w1.heap[w.heap.size]? = some (.cells c1 t1 (0, 0)) ∧ w1.heap[w.heap.size + 1]? = some (.cells c2 t2 (0, 0)) ∧ w1.heap[w.heap.size + 1 + 1]? = some (.cells c3 t3 (0, 0)) ∧ Below w.heap.size w w1 ∧ w.heap.size + 3 ≤ w1.heap.size := by
  have h0 : Below w.heap.size w (((w.alloc (.cells c1 t1)).alloc (.cells c2 t2)).alloc (.cells c3 t3)) := ((below_alloc (Below.refl _ w) _).alloc (by simp) _).alloc (by simp; omega) _
  have h1 := blk_new w (.cells c1 t1)
  have h2 := blk_new (w.alloc (.cells c1 t1)) (.cells c2 t2)
  have h3 := blk_new ((w.alloc (.cells c1 t1)).alloc (.cells c2 t2)) (.cells c3 t3)
  rw [World.size_alloc] at h2
  rw [World.size_alloc, World.size_alloc] at h3
  refine ⟨blk_below (blk_alloc (blk_alloc h1 _) _) hb, blk_below (blk_alloc h2 _) hb, blk_below h3 hb, below_step h0 hb, ?_⟩
  have := hb.size
  simp at this
  omega
set_option maxRecDepth 100000 in
set_option maxHeartbeats 4000000 in
theorem contributions_calls (m0 : ByteArray) (m1 m2 : Int) (A0 : Option Addr) (n0 c0 : Nat) (a0 : Int) (a1 a2 : ByteArray) (a3 a4 : Int) (A1 : Option Addr) (n1 c1 : Nat) (b0 : Int) (b1 b2 : ByteArray) (b3 b4 : Int) (A2 : Option Addr) (n2 c2 : Nat) (w : World) :
    Calls Tryd.prog 21 #[.agg #[.string m0, .int .i64 m1, .int .i64 m2, .slice A0 n0 c0], .agg #[.int .i64 a0, .string a1, .string a2, .int .i64 a3, .int .i64 a4, .slice A1 n1 c1], .agg #[.int .i64 b0, .string b1, .string b2, .int .i64 b3, .int .i64 b4, .slice A2 n2 c2]] w fun e w' =>
      e = .returned (.func (.func 32) #[] #[.pointer (some ⟨w.heap.size, 0, none⟩), .pointer (some ⟨w.heap.size + 1, 0, none⟩), .pointer (some ⟨w.heap.size + 1 + 1, 0, none⟩)]) ∧
      w' = ((w.alloc (.cells #[.string m0, .int .i64 m1, .int .i64 m2, .slice A0 n0 c0] 24)).alloc (.cells #[.int .i64 a0, .string a1, .string a2, .int .i64 a3, .int .i64 a4, .slice A1 n1 c1] 29)).alloc (.cells #[.int .i64 b0, .string b1, .string b2, .int .i64 b3, .int .i64 b4, .slice A2 n2 c2] 29) := by
  have hu24 := Tryd.underlying24
  have hu29 := Tryd.underlying29
  go_enter Tryd.func21, Tryd.ntmps21
  go_wp2
  go_ret
  exact ⟨rfl, rfl⟩

set_option maxRecDepth 100000 in
set_option maxHeartbeats 4000000 in
theorem score_calls (k : Nat) (m0 : ByteArray) (m1 m2 : Int) (A0 : Option Addr) (c0 : Nat) (l0 : List S43) (a : Rec) (A1 : Option Addr) (c1 : Nat) (b : Rec) (A2 : Option Addr) (c2 : Nat) (r1 : Int) (r2 : List Bool) (w : World)
    (hr0 : Kd.C k43 w A0 l0.length l0) (hc0 : l0.length ≤ c0) (hr1 : Kd.C k50 w A1 a.r5.length a.r5) (hc1 : a.r5.length ≤ c1) (hr2 : Kd.C k50 w A2 b.r5.length b.r5) (hc2 : b.r5.length ≤ c2) (hG : Gl w)
    (h : scoreF k m0 m1 m2 l0 a b = some (r1, r2)) :
    Calls Tryd.prog 11 #[.agg #[.string m0, .int .i64 m1, .int .i64 m2, .slice A0 l0.length c0], .agg (recV a A1 c1), .agg (recV b A2 c2)] w fun e w' => ∃ v : Value, e = .returned (.tuple #[.int .i64 r1, v]) ∧ Kd.R Kd.bool 4 w' w.heap.size (fun _ => True) v r2 ∧ Below w.heap.size w w' := by
  have hdd : ∀ k : Nat, (Fence.wide.depth.isSome = true → 1 ≤ k) := fun k h => by cases h
  obtain ⟨t, ht, h⟩ := Option.bind_eq_some_iff.mp h
  have hab := fun (W : World) (hb : Below w.heap.size w W) => V.match_about.calls k m0 m1 m2 A0 c0 l0 a.r0 a.r1 a.r2 a.r3 a.r4 A1 c1 a.r5 b.r0 b.r1 b.r2 b.r3 b.r4 A2 c2 b.r5 t W (Kd.C_below hr0 hb) hc0 (Kd.C_below hr1 hb) hc1 (Kd.C_below hr2 hb) hc2 ht
  have hu24 := Tryd.underlying24
  have hu29 := Tryd.underlying29
  cases t with
  | false =>
    rw [if_neg (by decide)] at h
    simp only [Option.some.injEq, Prod.mk.injEq] at h
    obtain ⟨rfl, rfl⟩ := h
    go_enter Tryd.func11, Tryd.ntmps11
    go_wp2_with (go_at_call 20; refine (hab _ (((below_alloc (Below.refl _ w) _).alloc (by simp) _).alloc (by simp; omega) _)).mono ?_; rintro e w8 ⟨rfl, hb⟩)
    refine bodyPost_ret (results_tmp2 rfl _ _ _) rfl ?_
    exact ⟨_, rfl, Kd.R_nil _ _ _ _ _, below_step (((below_alloc (Below.refl _ w) _).alloc (by simp) _).alloc (by simp; omega) _) hb⟩
  | true =>
    rw [if_pos rfl] at h
    by_cases hl : l0.length ≤ 1000
    · rw [if_pos hl] at h
      obtain ⟨xs, hxs, h⟩ := Option.bind_eq_some_iff.mp h
      simp only [Option.some.injEq, Prod.mk.injEq] at h
      obtain ⟨rfl, rfl⟩ := h
      refine (callsIn_wide (n := 6)).1 ?_
      refine callsIn_of_wp_marks Tryd.func11 rfl trivial ?_ rfl
      simp only [Tryd.ntmps11, List.size_toArray, List.length_cons, List.length_nil, Nat.reduceAdd, Nat.reduceSub, Array.replicate_succ, Array.replicate_zero, List.push_toArray, List.append_toArray, List.nil_append, List.cons_append]
      gi_wp2_with ((first | refine ⟨trivial, hdd _, ?_⟩ | refine ⟨trivial, ?_⟩); gi_at_call 20; refine (callsIn_wide.2 (hab _ (((below_alloc (Below.refl _ w) _).alloc (by simp) _).alloc (by simp; omega) _))).mono ?_; rintro e w1 ⟨rfl, hb1⟩; obtain ⟨M1, M2, M3, hbw, hs3⟩ := boxes3 w _ _ _ _ _ _ hb1; obtain ⟨W0, hW0⟩ : ∃ W0, (w1.alloc (.cells #[.int .i64 0] 3)).alloc (.cells #[.slice none 0 0] 34) = W0 := ⟨_, rfl⟩; have hbW0 : Below w1.heap.size w1 W0 := (by rw [← hW0]; exact (below_alloc (Below.refl _ w1) _).alloc (by simp) _); have N1 := blk_below M1 hbW0; have N2 := blk_below M2 hbW0; have N3 := blk_below M3 hbW0; obtain ⟨p0, p1, p2, p3⟩ := cells4 N1; obtain ⟨q0, q1, q2, q3, q4, q5⟩ := cells6 N2; obtain ⟨s0, s1, s2, s3, s4, s5⟩ := cells6 N3)
      have hcc := contributions_calls m0 m1 m2 A0 l0.length c0 a.r0 a.r1 a.r2 a.r3 a.r4 A1 a.r5.length c1 b.r0 b.r1 b.r2 b.r3 b.r4 A2 b.r5.length c2 W0
      refine ⟨trivial, (callsIn_wide.2 hcc).mono ?_⟩
      clear hcc
      rintro e w2 ⟨rfl, rfl⟩
      dsimp only
      obtain ⟨W1, hW1⟩ : ∃ W1, ((W0.alloc (.cells #[.string m0, .int .i64 m1, .int .i64 m2, .slice A0 l0.length c0] 24)).alloc (.cells (recV a A1 c1) 29)).alloc (.cells (recV b A2 c2) 29) = W1 := ⟨_, rfl⟩
      rw [hW1]
      gi_wp2
      have hb01 : Below W0.heap.size W0 W1 := by rw [← hW1]; exact ((below_alloc (Below.refl _ W0) _).alloc (by simp) _).alloc (by simp; omega) _
      have hbw0 : Below w.heap.size w W0 := below_step hbw hbW0
      have hbw1 : Below w.heap.size w W1 := below_step hbw0 hb01
      obtain ⟨K1, K2, K3, _, hs4⟩ := boxes3 W0 #[.string m0, .int .i64 m1, .int .i64 m2, .slice A0 l0.length c0] (recV a A1 c1) (recV b A2 c2) 24 29 29 (w1 := W1) (by rw [hW1]; exact Below.refl _ W1)
      have hsz0 : w1.heap.size + 2 ≤ W0.heap.size := by rw [← hW0]; simp
      have hS1 : Boxed W1 w1.heap.size 3 (.int .i64 0) := by
        have h1 : Boxed W0 w1.heap.size 3 (.int .i64 0) := by rw [← hW0]; exact (Boxed.new w1 3 _).alloc _
        exact (hb01.block _ h1.lt).trans h1
      have hT1 : Boxed W1 (w1.heap.size + 1) 34 (.slice none 0 0) := by
        have h1 : Boxed W0 (w1.heap.size + 1) 34 (.slice none 0 0) := by
          rw [← hW0]
          have := Boxed.new (w1.alloc (.cells #[.int .i64 0] 3)) 34 (.slice none 0 0)
          rwa [World.size_alloc] at this
        exact (hb01.block _ h1.lt).trans h1
      have hseq := fun n => contrib_seq n k w.heap.size W0.heap.size (W0.heap.size + 1) (W0.heap.size + 1 + 1) m0 m1 m2 A0 c0 l0 a A1 c1 b A2 c2 xs W1 hxs hl hbw1.size K1 K2 K3 hc0 hc1 hc2 (fun W hW => by
        have hh : ∀ q, q < w.heap.size → W.heap[q]? = w.heap[q]? := fun q hq => (hW q hq).trans (hbw1.block q hq)
        exact ⟨Kd.Heap.C heap43 hh hr0, Kd.Heap.C heap50 hh hr1, Kd.Heap.C heap50 hh hr2, hG.same hh⟩)
      obtain ⟨i4, hi, hz⟩ := Option.map_eq_some_iff.1 Kinfo4
      simp only [Prod.mk.injEq] at hz
      obtain ⟨iz0, iz1, iz2⟩ := hz
      have hws : w.heap.size ≤ w1.heap.size := hbw.size
      have hlen := (contribs_spec hxs).1
      have hbx : ∀ q, (q = W0.heap.size ∨ q = W0.heap.size + 1 ∨ q = W0.heap.size + 1 + 1) → ∃ cs t, t ≠ 4 ∧ W1.heap[q]? = some (.cells cs t (0, 0)) := by
        rintro q (rfl | rfl | rfl)
        · exact ⟨_, _, by decide, K1⟩
        · exact ⟨_, _, by decide, K2⟩
        · exact ⟨_, _, by decide, K3⟩
      clear p0 p1 p2 p3 q0 q1 q2 q3 q4 q5 s0 s1 s2 s3 s4 s5 N1 N2 N3 M1 M2 M3 hab hu24 hu29 hr0 hr1 hr2 hW0 hW1
      refine wpIn_rangeFunc_T (gf := 32) (lb := #[.pointer (some ⟨W0.heap.size, 0, none⟩), .pointer (some ⟨W0.heap.size + 1, 0, none⟩), .pointer (some ⟨W0.heap.size + 1 + 1, 0, none⟩)]) rfl (by omega) rfl trivial (enters_of Tryd.func32 (by kernel_rfl) rfl) (hseq _) (Below.refl _ W1) (fun q hq => by rcases hq with h | h | h | h <;> omega) (fun _ => rfl)
        (fun pre W => (Boxed W w1.heap.size 3 (.int .i64 (sumX pre)) ∧ ∃ v, Boxed W (w1.heap.size + 1) 34 v ∧ W.ownsRow w.heap.size 4 1 v pre.length (pre.map fun x => Value.bool x.1)) ∧ Below w.heap.size w W ∧ ∀ q, (q = W0.heap.size ∨ q = W0.heap.size + 1 ∨ q = W0.heap.size + 1 + 1) → W.heap[q]? = W1.heap[q]?)
        ?hI1 ?hI2 ⟨⟨hS1, _, hT1, World.ownsRow_nil _ _ _ _⟩, hbw1, fun _ _ => rfl⟩
        (fun x => { tmps := #[.agg #[.string m0, .int .i64 m1, .int .i64 m2, .slice A0 l0.length c0], .agg (recV a A1 c1), .agg (recV b A2 c2), .pointer (some ⟨w.heap.size, 0, none⟩), .pointer (some ⟨w.heap.size + 1, 0, none⟩), .pointer (some ⟨w.heap.size + 1 + 1, 0, none⟩), .int .i64 0, .slice none 0 0, .pointer (some ⟨w1.heap.size, 0, none⟩), .pointer (some ⟨w1.heap.size + 1, 0, none⟩), .bool x.1, .int .i64 x.2,
          .agg #[.string m0, .int .i64 m1, .int .i64 m2, .slice A0 l0.length c0], .agg (recV a A1 c1), .agg (recV b A2 c2), .bool true, .bool false, .agg #[.string m0, .int .i64 m1, .int .i64 m2, .slice A0 l0.length c0], .agg (recV a A1 c1), .agg (recV b A2 c2),
          .func (.func 32) #[] #[.pointer (some ⟨W0.heap.size, 0, none⟩), .pointer (some ⟨W0.heap.size + 1, 0, none⟩), .pointer (some ⟨W0.heap.size + 1 + 1, 0, none⟩)], .bool x.1, .int .i64 x.2, undef, undef, undef, undef, undef, undef, undef, undef, undef], defers := [] }) ?assign ?body ?done
      case hI1 =>
        rintro pre W W' ⟨⟨h1, v, h2, h3⟩, h4, h5⟩ ht
        exact ⟨⟨Boxed.turn h1 ht not_NcS_cells, v, Boxed.turn h2 ht not_NcS_cells, ownsRow_turn h3 ht (fun _ _ _ => not_NcS_cells)⟩, below_turn h4 ht (Nat.le_refl _) (fun q o hq h => by have := h.1; have := hbw1.size; omega), fun q hq => by
          obtain ⟨cs, t, _, e⟩ := hbx q hq
          rw [e]
          exact ht.same _ _ ((h5 q hq).trans e) not_NcS_cells⟩
      case hI2 =>
        rintro pre W W' ⟨⟨h1, v, h2, h3⟩, h4, h5⟩ ht
        have nt : ∀ q o, ¬ TyS [] W1.heap.size q o := fun q o h => by obtain ⟨_, _, _, _, _, h⟩ := h; cases h
        exact ⟨⟨Boxed.turn h1 ht (nt _ _), v, Boxed.turn h2 ht (nt _ _), ownsRow_turn h3 ht (fun _ _ _ => nt _ _)⟩, below_turn h4 ht (Nat.le_refl _) (fun q o hq => nt _ _), fun q hq => by
          obtain ⟨cs, t, _, e⟩ := hbx q hq
          rw [e]
          exact ht.same _ _ ((h5 q hq).trans e) (nt _ _)⟩
      case assign =>
        intro l x W K hK
        gi_wp2
        exact hK
      case body =>
        rintro l pre x W ⟨⟨hS, v, hv, hrow⟩, hb, hbq⟩ hpre
        have hpl : pre.length + 1 ≤ 1000 := by have := hpre.length_le; simp at this; omega
        have hsc := hS.cell
        have hsf := hS.frozen
        have hrow1 : (W.setCell ⟨w1.heap.size, 0, none⟩ (.int .i64 (sumX (pre ++ [x])))).ownsRow w.heap.size 4 1 v pre.length (pre.map fun x => Value.bool x.1) := hrow.kept (grownBy_setCell' W _ _) (.inr (hS.not_row (by decide) hrow).symm)
        have hv1 : Boxed (W.setCell ⟨w1.heap.size, 0, none⟩ (.int .i64 (sumX (pre ++ [x])))) (w1.heap.size + 1) 34 v := hv.other (by omega) _
        have hS1 : Boxed (W.setCell ⟨w1.heap.size, 0, none⟩ (.int .i64 (sumX (pre ++ [x])))) w1.heap.size 3 (.int .i64 (sumX (pre ++ [x]))) := hS.set _
        obtain ⟨W5, hW5⟩ : ∃ W5, W.setCell ⟨w1.heap.size, 0, none⟩ (.int .i64 (sumX (pre ++ [x]))) = W5 := ⟨_, rfl⟩
        rw [hW5] at hrow1 hv1 hS1
        have hb5 : Below w.heap.size w W5 := by rw [← hW5]; exact hb.setCell (p := ⟨w1.heap.size, 0, none⟩) hws _
        have hk5 : Keeps (fun k o => NcS W1.heap.size k o ∨ (k < w.heap.size ∨ k = W0.heap.size ∨ k = W0.heap.size + 1 ∨ k = W0.heap.size + 1 + 1) ∨ TyS [] W1.heap.size k o) W W5 := by
          rw [← hW5]
          refine Keeps.box _ hS ?_
          rintro (h | h | h)
          · exact not_NcS_cells h
          · omega
          · obtain ⟨_, _, _, _, _, h⟩ := h; cases h
        have hvc := hv1.cell
        rw [sumX_snoc] at hW5
        gi_wp2_with (gi_at_builtin; refine wpListIn_append_own _ rfl _ _ 34 rfl w.heap.size 4 i4 (.bool false) 1 1 Tryd.underlying34 hi iz0 iz1 iz2 rfl (by decide) _ _ _ rfl (hrow1.alloc _) ⟨W5.heap.size, 0, none⟩ 1 1 [.bool x.1] rfl rfl (cell_one_new _ _ _) (by simp [Value.oneCell']) (by simp only [maxLen]; omega) (by omega) (by simp; have := hb5.size; omega) ?_; intro v' w5 hown' hgrow _; obtain ⟨g', cap', rfl⟩ := ownsRow_succ hown'; obtain ⟨hv1', hv2, hr2, hk2, hb2⟩ := hv1.appended (by decide) hrow1 hb5.size (by omega) hown' hgrow; have hc1' := hv1'.cell; have hf1 := hv1'.frozen)
        have nrow : ∀ q cur, w.heap.size ≤ q → (W5.alloc (.cells #[.bool x.1] 4)).heap[q]? = some (.cells cur 4 (0, 0)) → ¬ (NcS W1.heap.size q (.cells cur 4 (0, 0)) ∨ (q < w.heap.size ∨ q = W0.heap.size ∨ q = W0.heap.size + 1 ∨ q = W0.heap.size + 1 + 1) ∨ TyS [] W1.heap.size q (.cells cur 4 (0, 0))) := by
          intro q cur hq hg
          rintro (h | (h | h) | h)
          · exact not_NcS_cells h
          · omega
          · obtain ⟨cs, t, ht, e⟩ := hbx q h
            have e2 : W5.heap[q]? = some (.cells cs t (0, 0)) := hk5.same q _ ((hbq q h).trans e) (.inr (.inl (.inr h)))
            rw [blk_alloc e2 _] at hg
            cases hg
            exact ht rfl
          · obtain ⟨_, _, _, _, _, h⟩ := h; cases h
        have hkk := hk5.trans ((keeps_append2 hrow1 hgrow nrow).trans (Keeps.box (.slice (some ⟨g', 0, none⟩) (pre.length + 1) cap') hv1' (by
          rintro (h | h | h)
          · exact not_NcS_cells h
          · omega
          · obtain ⟨_, _, _, _, _, h⟩ := h; cases h)))
        refine ⟨hkk, ⟨((hS1.alloc _).kept hgrow (hS1.not_row (by decide) hrow1)).other (by omega) _, _, hv2, by simpa using hr2⟩, hb5.trans hb2, fun q hq => ?_⟩
        obtain ⟨cs, t, _, e⟩ := hbx q hq
        rw [e]
        exact hkk.same _ _ ((hbq q hq).trans e) (.inr (.inl (.inr hq)))
      case done =>
        rintro D W hD ⟨⟨hS, v, hv, hrow⟩, hb, hbq⟩ hK
        have hsc := cell_regrown hS.cell
        have hvc := cell_regrown hv.cell
        gi_wp2
        rw [wpIn_wide]
        refine wp_region_quiet_below (by kernel_rfl) (by kernel_rfl) ?_
        repeat (quiet_step (fail))
        refine wpQuiet_nil ?_
        intro _ hw'
        obtain ⟨⟨dq, osq⟩, hw''⟩ := hw'
        subst hw''
        obtain ⟨W3, hW3⟩ : ∃ W3, grow (redrawn W dq) osq = W3 := ⟨_, rfl⟩
        have hb3 : Below W.heap.size W W3 := by rw [← hW3]; exact below_regrown W dq osq
        dsimp only
        rw [hW3]
        have hDW : D < W.heap.size := (Array.getElem?_eq_some_iff.1 hK).1
        have hK2 := (hb3.block D hDW).trans hK
        clear hsc hvc
        have hro := ownsRow_putObj (ownsRow_same hrow (W' := W3) (fun q cur _ hq => (hb3.block q (Array.getElem?_eq_some_iff.1 hq).1).trans hq)) (.deferred none) hK2 rfl
        have hbD := (hb.trans (hb3.mono hb.size)).trans (belowK_b (w := w) (Nat.le_refl _) W3 D _ (.deferred none) (by have := hbw1.size; omega) hK2 rfl rfl)
        gi_wp2
        refine ⟨by simp, .inl ⟨_, _, rfl, run_takeDeferred hK2, ?_⟩⟩
        refine ⟨_, results_tmp2 rfl _ _ _, v, rfl, ?_, hbD⟩
        refine Kd.R_of_own ?_ (fun _ _ => trivial)
        have he : (xs.map fun x => Value.bool x.1) = encs Value.bool (xs.map fun x => x.1) := by unfold encs; rw [List.map_map]; rfl
        rw [he] at hro
        simpa using hro
    · rw [if_neg hl] at h
      cases h
end Go.Proofs.YtiffkknhnmpgbaaDoor
end

section
/- match.Score, in the form of the printed contracts. -/
namespace Go.Proofs.YtiffkknhnmpgbaaDoor
open Go Go.RowKit Go.Proofs.YtiffkknhnmpgbaaDoor.R Go.Proofs.YtiffkknhnmpgbaaDoorW.PrintWords
def match_Score.f (k : Nat) (a0_0 : ByteArray) (a0_1 a0_2 : Int) (l0_3 : List S43) (a1_0 : Int) (a1_1 a1_2 : ByteArray) (a1_3 a1_4 : Int) (l1_5 : List S50) (a2_0 : Int) (a2_1 a2_2 : ByteArray) (a2_3 a2_4 : Int) (l2_5 : List S50) : Option (Int × List Bool) :=
  scoreF k a0_0 a0_1 a0_2 l0_3 ⟨a1_0, a1_1, a1_2, a1_3, a1_4, l1_5⟩ ⟨a2_0, a2_1, a2_2, a2_3, a2_4, l2_5⟩
theorem match_Score.calls (k : Nat) (a0_0 : ByteArray) (a0_1 : Int) (a0_2 : Int) (A0_3 : Option Addr) (c0_3 : Nat) (l0_3 : List S43) (a1_0 : Int) (a1_1 : ByteArray) (a1_2 : ByteArray) (a1_3 : Int) (a1_4 : Int) (A1_5 : Option Addr) (c1_5 : Nat) (l1_5 : List S50) (a2_0 : Int) (a2_1 : ByteArray) (a2_2 : ByteArray) (a2_3 : Int) (a2_4 : Int) (A2_5 : Option Addr) (c2_5 : Nat) (l2_5 : List S50) (r1 : Int) (r2 : List Bool) (w : World)
    (hr0_3 : Kd.C k43 w A0_3 l0_3.length l0_3) (hc0_3 : l0_3.length ≤ c0_3) (hr1_5 : Kd.C k50 w A1_5 l1_5.length l1_5) (hc1_5 : l1_5.length ≤ c1_5) (hr2_5 : Kd.C k50 w A2_5 l2_5.length l2_5) (hc2_5 : l2_5.length ≤ c2_5) (hG : Gl w)
    (h : match_Score.f k a0_0 a0_1 a0_2 l0_3 a1_0 a1_1 a1_2 a1_3 a1_4 l1_5 a2_0 a2_1 a2_2 a2_3 a2_4 l2_5 = some (r1, r2)) :
    Calls Tryd.prog 11 #[.agg #[.string a0_0, .int .i64 a0_1, .int .i64 a0_2, .slice A0_3 l0_3.length c0_3], .agg #[.int .i64 a1_0, .string a1_1, .string a1_2, .int .i64 a1_3, .int .i64 a1_4, .slice A1_5 l1_5.length c1_5], .agg #[.int .i64 a2_0, .string a2_1, .string a2_2, .int .i64 a2_3, .int .i64 a2_4, .slice A2_5 l2_5.length c2_5]] w fun e w' =>
      ∃ v1_ : Value, e = .returned (.tuple #[.int .i64 r1, v1_]) ∧ Kd.R Kd.bool 4 w' w.heap.size (fun _ => True) v1_ r2 ∧ Below w.heap.size w w' :=
  score_calls k a0_0 a0_1 a0_2 A0_3 c0_3 l0_3 ⟨a1_0, a1_1, a1_2, a1_3, a1_4, l1_5⟩ A1_5 c1_5 ⟨a2_0, a2_1, a2_2, a2_3, a2_4, l2_5⟩ A2_5 c2_5 r1 r2 w hr0_3 hc0_3 hr1_5 hc1_5 hr2_5 hc2_5 hG h
end Go.Proofs.YtiffkknhnmpgbaaDoor
end

section
namespace Go.Proofs.YtiffkknhnmpgbaaDoor.U
open Go.RowKit Go.Proofs.YtiffkknhnmpgbaaDoor.Q Go.Proofs.YtiffkknhnmpgbaaDoor.R Go.Proofs.YtiffkknhnmpgbaaDoor.V Go.Proofs.YtiffkknhnmpgbaaDoorW.PrintWords Go.Proofs.YtiffkknhnmpgbaaDoorW.PrintLast Go.Proofs.YtiffkknhnmpgbaaDoorW.PrintMore
attribute [local go_sem] max2_int min2_int max_two min_two max_three min_three max_four min_four   -- for this text's walks alone
set_option linter.unusedVariables false
set_option linter.unusedSimpArgs false

-- by hand: function 11 (match_Score)

-- by hand: function 20 (match_about)

/-! ### match_Weight: function 13 -/
def match_Weight.l0 : Nat → Int → List (S24) → Int → Int → Int → ByteArray → ByteArray → Int → Int → List (S50) → Int → ByteArray → ByteArray → Int → Int → List (S50) → Option (Int)
 | 0, _, _, _, _, _, _, _, _, _, _, _, _, _, _, _, _ => none
 | k + 1, x7, x12, x13, x14, x102000, x102001, x102002, x102003, x102004, x102005, x103000, x103001, x103002, x103003, x103004, x103005 => if x14 < x13 then (if 0 ≤ x14 then (if x14 < (x12.length : Int) then ((match_about.f k ((rd_T24 x12 x14).f0) ((rd_T24 x12 x14).f1) ((rd_T24 x12 x14).f2) ((rd_T24 x12 x14).f3) x102000 x102001 x102002 x102003 x102004 x102005 x103000 x103001 x103002 x103003 x103004 x103005).bind fun t105 => (if t105 = true then ((match_Score.f k ((rd_T24 x12 x14).f0) ((rd_T24 x12 x14).f1) ((rd_T24 x12 x14).f2) ((rd_T24 x12 x14).f3) x102000 x102001 x102002 x102003 x102004 x102005 x103000 x103001 x103002 x103003 x103004 x103005).bind fun bt106 => (match_Weight.l0 k (wrap64 (x7 + (wrap64 (bt106.1 - ((rd_T24 x12 x14).f2))))) x12 x13 (wrap64 (x14 + 1)) x102000 x102001 x102002 x102003 x102004 x102005 x103000 x103001 x103002 x103003 x103004 x103005)) else (match_Weight.l0 k x7 x12 x13 (wrap64 (x14 + 1)) x102000 x102001 x102002 x102003 x102004 x102005 x103000 x103001 x103002 x103003 x103004 x103005))) else (none)) else (none)) else (some x7)
def match_Weight.f (k : Nat) (l0 : List (S24)) (a1_0 : Int) (a1_1 : ByteArray) (a1_2 : ByteArray) (a1_3 : Int) (a1_4 : Int) (l1_5 : List (S50)) (a2_0 : Int) (a2_1 : ByteArray) (a2_2 : ByteArray) (a2_3 : Int) (a2_4 : Int) (l2_5 : List (S50)) : Option (Int) := match_Weight.l0 k 0 l0 (l0.length : Int) 0 a1_0 a1_1 a1_2 a1_3 a1_4 l1_5 a2_0 a2_1 a2_2 a2_3 a2_4 l2_5
set_option maxHeartbeats 8000000 in
set_option maxRecDepth 100000 in
theorem match_Weight.calls (k : Nat) (A0 : Option Addr) (c0 : Nat) (l0 : List (S24)) (a1_0 : Int) (a1_1 : ByteArray) (a1_2 : ByteArray) (a1_3 : Int) (a1_4 : Int) (A1_5 : Option Addr) (c1_5 : Nat) (l1_5 : List (S50)) (a2_0 : Int) (a2_1 : ByteArray) (a2_2 : ByteArray) (a2_3 : Int) (a2_4 : Int) (A2_5 : Option Addr) (c2_5 : Nat) (l2_5 : List (S50)) (r : Int) (w : World) (hr0 : Kd.C k24 w A0 l0.length l0) (hc0 : l0.length ≤ c0) (hr1_5 : Kd.C k50 w A1_5 l1_5.length l1_5) (hc1_5 : l1_5.length ≤ c1_5) (hr2_5 : Kd.C k50 w A2_5 l2_5.length l2_5) (hc2_5 : l2_5.length ≤ c2_5) (hG : Gl w) (h : match_Weight.f k l0 a1_0 a1_1 a1_2 a1_3 a1_4 l1_5 a2_0 a2_1 a2_2 a2_3 a2_4 l2_5 = some r) :
  Calls Tryd.prog 13 #[.slice A0 l0.length c0, .agg #[.int .i64 a1_0, .string a1_1, .string a1_2, .int .i64 a1_3, .int .i64 a1_4, .slice A1_5 l1_5.length c1_5], .agg #[.int .i64 a2_0, .string a2_1, .string a2_2, .int .i64 a2_3, .int .i64 a2_4, .slice A2_5 l2_5.length c2_5]] w fun e w' => e = .returned (.int .i64 r) ∧ Below w.heap.size w w' := by
 have HGl := Aside0.mk hG
 clear hG
 have hu29 := Tryd.underlying29
 have hu24 := Tryd.underlying24
 have HR0 := Aside0.mk hr0
 have HC0 := Aside0.mk hc0
 clear hr0 hc0
 have HR1_5 := Aside0.mk hr1_5
 have HC1_5 := Aside0.mk hc1_5
 clear hr1_5 hc1_5
 have HR2_5 := Aside0.mk hr2_5
 have HC2_5 := Aside0.mk hc2_5
 clear hr2_5 hc2_5
 have HB := Aside0.mk (Below.refl w.heap.size w)
 have H : (match_Weight.l0 k 0 l0 (l0.length : Int) 0 a1_0 a1_1 a1_2 a1_3 a1_4 l1_5 a2_0 a2_1 a2_2 a2_3 a2_4 l2_5) = some r := h
 clear h
 have H' := Aside0.mk H
 clear H
 go_enter Tryd.func13, Tryd.ntmps13
 go_wp2_with (first | ((with_reducible refine gate_dst (N := 4) rfl ?_); refine box_event ?hg (N := 4) ?hd (cs := #[.int .i64 a1_0, .string a1_1, .string a1_2, .int .i64 a1_3, .int .i64 a1_4, .slice A1_5 l1_5.length c1_5]) (t := 29) ?hr ?_; (case hd => rfl); (case hg => rfl); (case hr => (go_simp; done)); intro gb101 hg w4 hbox hb; have n0_ := Aside0.mk (below_step HB.out hb); have n1_ := Aside0.mk (hbox); clear HB; have HB := n0_; have BK101 := n1_; clear n0_ n1_; clear hb hbox hg) | ((with_reducible refine gate_dst (N := 5) rfl ?_); refine box_event ?hg (N := 5) ?hd (cs := #[.int .i64 a2_0, .string a2_1, .string a2_2, .int .i64 a2_3, .int .i64 a2_4, .slice A2_5 l2_5.length c2_5]) (t := 29) ?hr ?_; (case hd => rfl); (case hg => rfl); (case hr => (go_simp; done)); intro gb102 hg w5 hbox hb; have n0_ := Aside0.mk (blk_below (by exact BK101.out) hb); have n1_ := Aside0.mk (below_step HB.out hb); have n2_ := Aside0.mk (hbox); have n5_ := Aside0.mk ((by rw [hg]; exact Nat.ne_of_lt (blk_lt (by exact BK101.out)) : gb101 ≠ gb102)); have n6_ := Aside0.mk ((by rw [hg]; exact Nat.ne_of_gt (blk_lt (by exact BK101.out)) : gb102 ≠ gb101)); clear BK101; clear HB; have BK101 := n0_; have HB := n1_; have BK102 := n2_; have NB101_102 := n5_; have NB102_101 := n6_; clear n0_ n1_ n2_ n5_ n6_; clear hb hbox hg))
 go_loopg [7, 14] k (fun kq v7 v14 w' => ∃ (x7_1 : Int) (x14_1 : Int), v7 = .int .i64 x7_1 ∧ v14 = .int .i64 x14_1 ∧ Aside0 (match_Weight.l0 kq x7_1 l0 (l0.length : Int) x14_1 a1_0 a1_1 a1_2 a1_3 a1_4 l1_5 a2_0 a2_1 a2_2 a2_3 a2_4 l2_5 = some r) ∧ Aside0 (kq ≤ k) ∧ Aside0 (w'.heap[gb101]? = some (.cells #[.int .i64 a1_0, .string a1_1, .string a1_2, .int .i64 a1_3, .int .i64 a1_4, (.slice A1_5 l1_5.length c1_5)] 29 (0, 0))) ∧ Aside0 (w'.heap[gb102]? = some (.cells #[.int .i64 a2_0, .string a2_1, .string a2_2, .int .i64 a2_3, .int .i64 a2_4, (.slice A2_5 l2_5.length c2_5)] 29 (0, 0))) ∧ Aside0 (Below w.heap.size w w'))
 case atStart => exact ⟨(0), (0), (by rfl), (by rfl), H', ⟨Nat.le_refl _⟩, ⟨by exact BK101.out⟩, ⟨by exact BK102.out⟩, ⟨by repeat ((with_reducible (exact HB.out)))⟩⟩
 clear H'
 obtain ⟨x7_1, x14_1, rfl, rfl, HA, HK1, BK101, BK102, HB⟩ := hrel
 cases gk with
 | zero => exact absurd HA.out (by simp [match_Weight.l0])
 | succ k1 =>
  have H := HA.out
  clear HA
  simp only [match_Weight.l0] at H
  by_cases c6 : x14_1 < (l0.length : Int)
  ·rw [if_pos c6] at H
   have c6b0 : decide (x14_1 < (l0.length : Int)) = true := decide_eq_true c6
   clear c6
   by_cases c7 : 0 ≤ x14_1
   ·rw [if_pos c7] at H
    have c7b0 : decide (0 ≤ x14_1) = true := decide_eq_true c7
    clear c7
    by_cases c8 : x14_1 < (l0.length : Int)
    ·rw [if_pos c8] at H
     have c8b0 : decide (x14_1 < (l0.length : Int)) = true := decide_eq_true c8
     clear c8
     replace H := Option.bind_eq_some_iff.mp H
     obtain ⟨t105, A90, H⟩ := H
     replace H : (if t105 = true then ((match_Score.f k1 ((rd_T24 l0 x14_1).f0) ((rd_T24 l0 x14_1).f1) ((rd_T24 l0 x14_1).f2) ((rd_T24 l0 x14_1).f3) a1_0 a1_1 a1_2 a1_3 a1_4 l1_5 a2_0 a2_1 a2_2 a2_3 a2_4 l2_5).bind fun bt106 => (match_Weight.l0 k1 (wrap64 (x7_1 + (wrap64 (bt106.1 - ((rd_T24 l0 x14_1).f2))))) l0 (l0.length : Int) (wrap64 (x14_1 + 1)) a1_0 a1_1 a1_2 a1_3 a1_4 l1_5 a2_0 a2_1 a2_2 a2_3 a2_4 l2_5)) else (match_Weight.l0 k1 x7_1 l0 (l0.length : Int) (wrap64 (x14_1 + 1)) a1_0 a1_1 a1_2 a1_3 a1_4 l1_5 a2_0 a2_1 a2_2 a2_3 a2_4 l2_5)) = some r := H
     have A9 := Aside0.mk A90
     clear A90
     by_cases c10 : t105 = true
     ·subst c10
      have H1 : ((match_Score.f k1 ((rd_T24 l0 x14_1).f0) ((rd_T24 l0 x14_1).f1) ((rd_T24 l0 x14_1).f2) ((rd_T24 l0 x14_1).f3) a1_0 a1_1 a1_2 a1_3 a1_4 l1_5 a2_0 a2_1 a2_2 a2_3 a2_4 l2_5).bind fun bt106 => (match_Weight.l0 k1 (wrap64 (x7_1 + (wrap64 (bt106.1 - ((rd_T24 l0 x14_1).f2))))) l0 (l0.length : Int) (wrap64 (x14_1 + 1)) a1_0 a1_1 a1_2 a1_3 a1_4 l1_5 a2_0 a2_1 a2_2 a2_3 a2_4 l2_5)) = some r := by rw [if_pos rfl] at H; exact H
      clear H
      have H := H1
      clear H1
      replace H := Option.bind_eq_some_iff.mp H
      obtain ⟨⟨t106, t107⟩, A110, H⟩ := H
      replace H : (match_Weight.l0 k1 (wrap64 (x7_1 + (wrap64 (t106 - ((rd_T24 l0 x14_1).f2))))) l0 (l0.length : Int) (wrap64 (x14_1 + 1)) a1_0 a1_1 a1_2 a1_3 a1_4 l1_5 a2_0 a2_1 a2_2 a2_3 a2_4 l2_5) = some r := H
      have A11 := Aside0.mk A110
      clear A110
      have H' := Aside0.mk H
      clear H
      have p103 : 0 ≤ (x14_1 : Int) := of_decide_eq_true (by (with_reducible assumption))
      have q103 : x14_1 < (l0.length : Int) := of_decide_eq_true (by (with_reducible assumption))
      obtain ⟨ad103, A103_3, c103_3, e103, hx103_0, hx103_1, hx103_2, hx103_3, hl103_3, hi103_3⟩ := at_T24 HR0.out x14_1 p103 q103
      cases e103
      replace hx103_0 := (HB.out.cell (World.block_lt_of_cell? w _ hx103_0)).trans hx103_0
      replace hx103_1 := (HB.out.cell (World.block_lt_of_cell? w _ hx103_1)).trans hx103_1
      replace hx103_2 := (HB.out.cell (World.block_lt_of_cell? w _ hx103_2)).trans hx103_2
      replace hx103_3 := (HB.out.cell (World.block_lt_of_cell? w _ hx103_3)).trans hx103_3
      have HR103_3 := Aside0.mk hi103_3
      have HC103_3 := Aside0.mk hl103_3
      clear hi103_3 hl103_3
      replace p103 := eq_true p103
      replace q103 := eq_true q103
      go_wp2_with (first | ((with_reducible refine gate_dst (N := 9) rfl ?_); refine box_event ?hg (N := 9) ?hd (cs := #[.string (⟨#[]⟩ : ByteArray), .int .i64 0, .int .i64 0, .slice none 0 0]) (t := 24) ?hr ?_; (case hd => rfl); (case hg => rfl); (case hr => (go_simp; done)); intro gb104 hg w12 hbox hb; have n0_ := Aside0.mk (blk_below (by exact BK101.out) hb); have n1_ := Aside0.mk (blk_below (by exact BK102.out) hb); have n2_ := Aside0.mk (below_step HB.out hb); have n3_ := Aside0.mk (hbox); have n5_ := Aside0.mk ((by rw [hg]; exact (below_size HB.out) : w.heap.size ≤ gb104)); have n6_ := Aside0.mk ((by rw [hg]; exact Nat.ne_of_lt (blk_lt (by exact BK101.out)) : gb101 ≠ gb104)); have n7_ := Aside0.mk ((by rw [hg]; exact Nat.ne_of_gt (blk_lt (by exact BK101.out)) : gb104 ≠ gb101)); have n8_ := Aside0.mk ((by rw [hg]; exact Nat.ne_of_lt (blk_lt (by exact BK102.out)) : gb102 ≠ gb104)); have n9_ := Aside0.mk ((by rw [hg]; exact Nat.ne_of_gt (blk_lt (by exact BK102.out)) : gb104 ≠ gb102)); clear BK101; clear BK102; clear HB; have BK101 := n0_; have BK102 := n1_; have HB := n2_; have BK104 := n3_; have GE104 := n5_; have NB101_104 := n6_; have NB104_101 := n7_; have NB102_104 := n8_; have NB104_102 := n9_; clear n0_ n1_ n2_ n3_ n5_ n6_ n7_ n8_ n9_; clear hb hbox hg; have hnb13 := NB104_101.out; have hnc13 := NB101_104.out; have hnb14 := NB104_102.out; have hnc14 := NB102_104.out; have hcz15_0 := cel_ BK104.out 0 rfl; have hcz15_1 := cel_ BK104.out 1 rfl; have hcz15_2 := cel_ BK104.out 2 rfl; have hcz15_3 := cel_ BK104.out 3 rfl; have hfz15_0 := blk_frozen BK104.out 0; have hfz15_1 := blk_frozen BK104.out 1; have hfz15_2 := blk_frozen BK104.out 2; have hfz15_3 := blk_frozen BK104.out 3; have hnb16 := NB101_102.out; have hnc16 := NB102_101.out; have hcz17_0 := cel_ BK101.out 0 rfl; have hcz17_1 := cel_ BK101.out 1 rfl; have hcz17_2 := cel_ BK101.out 2 rfl; have hcz17_3 := cel_ BK101.out 3 rfl; have hcz17_4 := cel_ BK101.out 4 rfl; have hcz17_5 := cel_ BK101.out 5 rfl; have hfz17_0 := blk_frozen BK101.out 0; have hfz17_1 := blk_frozen BK101.out 1; have hfz17_2 := blk_frozen BK101.out 2; have hfz17_3 := blk_frozen BK101.out 3; have hfz17_4 := blk_frozen BK101.out 4; have hfz17_5 := blk_frozen BK101.out 5; have hcz18_0 := cel_ BK102.out 0 rfl; have hcz18_1 := cel_ BK102.out 1 rfl; have hcz18_2 := cel_ BK102.out 2 rfl; have hcz18_3 := cel_ BK102.out 3 rfl; have hcz18_4 := cel_ BK102.out 4 rfl; have hcz18_5 := cel_ BK102.out 5 rfl; have hfz18_0 := blk_frozen BK102.out 0; have hfz18_1 := blk_frozen BK102.out 1; have hfz18_2 := blk_frozen BK102.out 2; have hfz18_3 := blk_frozen BK102.out 3; have hfz18_4 := blk_frozen BK102.out 4; have hfz18_5 := blk_frozen BK102.out 5) | ((with_reducible refine gate_callee (f := 20) rfl ?_); refine goesL_ (some 21) rfl rfl Tryd.func20 (by kernel_rfl) rfl #[.agg #[.string ((rd_T24 l0 x14_1).f0), .int .i64 ((rd_T24 l0 x14_1).f1), .int .i64 ((rd_T24 l0 x14_1).f2), .slice A103_3 ((rd_T24 l0 x14_1).f3).length c103_3], .agg #[.int .i64 a1_0, .string a1_1, .string a1_2, .int .i64 a1_3, .int .i64 a1_4, .slice A1_5 l1_5.length c1_5], .agg #[.int .i64 a2_0, .string a2_1, .string a2_2, .int .i64 a2_3, .int .i64 a2_4, .slice A2_5 l2_5.length c2_5]] rfl (by (try simp only [List.map_toArray, List.map_cons, List.map_nil]); rfl) ?_; (with_reducible refine (match_about.calls k1 ((rd_T24 l0 x14_1).f0) ((rd_T24 l0 x14_1).f1) ((rd_T24 l0 x14_1).f2) _ _ ((rd_T24 l0 x14_1).f3) a1_0 a1_1 a1_2 a1_3 a1_4 _ _ l1_5 a2_0 a2_1 a2_2 a2_3 a2_4 _ _ l2_5 true _ ?side1 ?side2 ?side3 ?side4 ?side5 ?side6 A9.out).mono ?_); (case side1 => exact Kd.C_below HR103_3.out (by repeat ((with_reducible first | exact HB.out | refine below_set ?_ GE104.out)))); (case side2 => exact HC103_3.out); (case side3 => exact Kd.C_below HR1_5.out (by repeat ((with_reducible first | exact HB.out | refine below_set ?_ GE104.out)))); (case side4 => exact HC1_5.out); (case side5 => exact Kd.C_below HR2_5.out (by repeat ((with_reducible first | exact HB.out | refine below_set ?_ GE104.out)))); (case side6 => exact HC2_5.out); rintro e w19 ⟨rfl, hb⟩; refine ⟨_, rfl, ?_⟩; have n0_ := Aside0.mk (blk_below (g := gb101) (o := .cells #[.int .i64 a1_0, .string a1_1, .string a1_2, .int .i64 a1_3, .int .i64 a1_4, .slice A1_5 l1_5.length c1_5] 29 (0, 0)) (by refine blk_far ?_ NB101_104.out _; refine blk_far ?_ NB101_104.out _; refine blk_far ?_ NB101_104.out _; refine blk_far ?_ NB101_104.out _; exact BK101.out) hb); have n1_ := Aside0.mk (blk_below (g := gb102) (o := .cells #[.int .i64 a2_0, .string a2_1, .string a2_2, .int .i64 a2_3, .int .i64 a2_4, .slice A2_5 l2_5.length c2_5] 29 (0, 0)) (by refine blk_far ?_ NB102_104.out _; refine blk_far ?_ NB102_104.out _; refine blk_far ?_ NB102_104.out _; refine blk_far ?_ NB102_104.out _; exact BK102.out) hb); have n2_ := Aside0.mk (blk_below (g := gb104) (o := .cells #[.string ((rd_T24 l0 x14_1).f0), .int .i64 ((rd_T24 l0 x14_1).f1), .int .i64 ((rd_T24 l0 x14_1).f2), .slice A103_3 ((rd_T24 l0 x14_1).f3).length c103_3] 24 (0, 0)) (by refine blk_put (cs := #[.string ((rd_T24 l0 x14_1).f0), .int .i64 ((rd_T24 l0 x14_1).f1), .int .i64 ((rd_T24 l0 x14_1).f2), .slice none 0 0]) ?_ 3 _ rfl; refine blk_put (cs := #[.string ((rd_T24 l0 x14_1).f0), .int .i64 ((rd_T24 l0 x14_1).f1), .int .i64 0, .slice none 0 0]) ?_ 2 _ rfl; refine blk_put (cs := #[.string ((rd_T24 l0 x14_1).f0), .int .i64 0, .int .i64 0, .slice none 0 0]) ?_ 1 _ rfl; refine blk_put (cs := #[.string (⟨#[]⟩ : ByteArray), .int .i64 0, .int .i64 0, .slice none 0 0]) ?_ 0 _ rfl; exact BK104.out) hb); have n3_ := Aside0.mk (below_step (by repeat ((with_reducible first | exact HB.out | refine below_set ?_ GE104.out))) hb); clear BK101; clear BK102; clear BK104; clear HB; have BK101 := n0_; have BK102 := n1_; have BK104 := n2_; have HB := n3_; clear n0_ n1_ n2_ n3_; (try clear hb); have hcz20_0 := cel_ BK104.out 0 rfl; have hcz20_1 := cel_ BK104.out 1 rfl; have hcz20_2 := cel_ BK104.out 2 rfl; have hcz20_3 := cel_ BK104.out 3 rfl; have hfz20_0 := blk_frozen BK104.out 0; have hfz20_1 := blk_frozen BK104.out 1; have hfz20_2 := blk_frozen BK104.out 2; have hfz20_3 := blk_frozen BK104.out 3; have hcz21_0 := cel_ BK101.out 0 rfl; have hcz21_1 := cel_ BK101.out 1 rfl; have hcz21_2 := cel_ BK101.out 2 rfl; have hcz21_3 := cel_ BK101.out 3 rfl; have hcz21_4 := cel_ BK101.out 4 rfl; have hcz21_5 := cel_ BK101.out 5 rfl; have hfz21_0 := blk_frozen BK101.out 0; have hfz21_1 := blk_frozen BK101.out 1; have hfz21_2 := blk_frozen BK101.out 2; have hfz21_3 := blk_frozen BK101.out 3; have hfz21_4 := blk_frozen BK101.out 4; have hfz21_5 := blk_frozen BK101.out 5; have hcz22_0 := cel_ BK102.out 0 rfl; have hcz22_1 := cel_ BK102.out 1 rfl; have hcz22_2 := cel_ BK102.out 2 rfl; have hcz22_3 := cel_ BK102.out 3 rfl; have hcz22_4 := cel_ BK102.out 4 rfl; have hcz22_5 := cel_ BK102.out 5 rfl; have hfz22_0 := blk_frozen BK102.out 0; have hfz22_1 := blk_frozen BK102.out 1; have hfz22_2 := blk_frozen BK102.out 2; have hfz22_3 := blk_frozen BK102.out 3; have hfz22_4 := blk_frozen BK102.out 4; have hfz22_5 := blk_frozen BK102.out 5) | ((with_reducible refine gate_callee (f := 11) rfl ?_); refine goesL_ (some 26) rfl rfl Tryd.func11 (by kernel_rfl) rfl #[.agg #[.string ((rd_T24 l0 x14_1).f0), .int .i64 ((rd_T24 l0 x14_1).f1), .int .i64 ((rd_T24 l0 x14_1).f2), .slice A103_3 ((rd_T24 l0 x14_1).f3).length c103_3], .agg #[.int .i64 a1_0, .string a1_1, .string a1_2, .int .i64 a1_3, .int .i64 a1_4, .slice A1_5 l1_5.length c1_5], .agg #[.int .i64 a2_0, .string a2_1, .string a2_2, .int .i64 a2_3, .int .i64 a2_4, .slice A2_5 l2_5.length c2_5]] rfl (by (try simp only [List.map_toArray, List.map_cons, List.map_nil]); rfl) ?_; (with_reducible refine (match_Score.calls k1 ((rd_T24 l0 x14_1).f0) ((rd_T24 l0 x14_1).f1) ((rd_T24 l0 x14_1).f2) _ _ ((rd_T24 l0 x14_1).f3) a1_0 a1_1 a1_2 a1_3 a1_4 _ _ l1_5 a2_0 a2_1 a2_2 a2_3 a2_4 _ _ l2_5 t106 t107 _ ?side1 ?side2 ?side3 ?side4 ?side5 ?side6 ?sGl A11.out).mono ?_); (case sGl => exact Gl.below HGl.out HB.out); (case side1 => repeat ((exact (Kd.C_below HR103_3.out HB.out)))); (case side2 => exact HC103_3.out); (case side3 => repeat ((exact (Kd.C_below HR1_5.out HB.out)))); (case side4 => exact HC1_5.out); (case side5 => repeat ((exact (Kd.C_below HR2_5.out HB.out)))); (case side6 => exact HC2_5.out); rintro e w23 ⟨v108, rfl, ho0, hb⟩; refine ⟨_, rfl, ?_⟩; have n0_ := Aside0.mk (Kd.R_lower ho0 (below_size HB.out)); have n1_ := Aside0.mk (blk_below (by exact BK101.out) hb); have n2_ := Aside0.mk (blk_below (by exact BK102.out) hb); have n3_ := Aside0.mk (blk_below (by exact BK104.out) hb); have n4_ := Aside0.mk (below_step HB.out hb); clear BK101; clear BK102; clear BK104; clear HB; have HO109 := n0_; have BK101 := n1_; have BK102 := n2_; have BK104 := n3_; have HB := n4_; clear n0_ n1_ n2_ n3_ n4_; (try clear hb); (try clear ho0); have hcz24_0 := cel_ BK104.out 0 rfl; have hcz24_1 := cel_ BK104.out 1 rfl; have hcz24_2 := cel_ BK104.out 2 rfl; have hcz24_3 := cel_ BK104.out 3 rfl; have hfz24_0 := blk_frozen BK104.out 0; have hfz24_1 := blk_frozen BK104.out 1; have hfz24_2 := blk_frozen BK104.out 2; have hfz24_3 := blk_frozen BK104.out 3))
      go_roundg k1
      case measure => have := HK1.out; omega
      case rel => exact ⟨(wrap64 (x7_1 + (wrap64 (t106 - ((rd_T24 l0 x14_1).f2))))), (wrap64 (x14_1 + 1)), (by rfl), (by rfl), H', ⟨by have := HK1.out; omega⟩, ⟨by exact BK101.out⟩, ⟨by exact BK102.out⟩, ⟨by repeat ((with_reducible (exact HB.out)))⟩⟩
     replace c10 := Bool.eq_false_iff.mpr c10
     subst c10
     have H1 : (match_Weight.l0 k1 x7_1 l0 (l0.length : Int) (wrap64 (x14_1 + 1)) a1_0 a1_1 a1_2 a1_3 a1_4 l1_5 a2_0 a2_1 a2_2 a2_3 a2_4 l2_5) = some r := by rw [if_neg (show ¬ (false = true) by decide)] at H; exact H
     clear H
     have H := H1
     clear H1
     have H' := Aside0.mk H
     clear H
     have p103 : 0 ≤ (x14_1 : Int) := of_decide_eq_true (by (with_reducible assumption))
     have q103 : x14_1 < (l0.length : Int) := of_decide_eq_true (by (with_reducible assumption))
     obtain ⟨ad103, A103_3, c103_3, e103, hx103_0, hx103_1, hx103_2, hx103_3, hl103_3, hi103_3⟩ := at_T24 HR0.out x14_1 p103 q103
     cases e103
     replace hx103_0 := (HB.out.cell (World.block_lt_of_cell? w _ hx103_0)).trans hx103_0
     replace hx103_1 := (HB.out.cell (World.block_lt_of_cell? w _ hx103_1)).trans hx103_1
     replace hx103_2 := (HB.out.cell (World.block_lt_of_cell? w _ hx103_2)).trans hx103_2
     replace hx103_3 := (HB.out.cell (World.block_lt_of_cell? w _ hx103_3)).trans hx103_3
     have HR103_3 := Aside0.mk hi103_3
     have HC103_3 := Aside0.mk hl103_3
     clear hi103_3 hl103_3
     replace p103 := eq_true p103
     replace q103 := eq_true q103
     go_wp2_with (first | ((with_reducible refine gate_dst (N := 9) rfl ?_); refine box_event ?hg (N := 9) ?hd (cs := #[.string (⟨#[]⟩ : ByteArray), .int .i64 0, .int .i64 0, .slice none 0 0]) (t := 24) ?hr ?_; (case hd => rfl); (case hg => rfl); (case hr => (go_simp; done)); intro gb104 hg w25 hbox hb; have n0_ := Aside0.mk (blk_below (by exact BK101.out) hb); have n1_ := Aside0.mk (blk_below (by exact BK102.out) hb); have n2_ := Aside0.mk (below_step HB.out hb); have n3_ := Aside0.mk (hbox); have n5_ := Aside0.mk ((by rw [hg]; exact (below_size HB.out) : w.heap.size ≤ gb104)); have n6_ := Aside0.mk ((by rw [hg]; exact Nat.ne_of_lt (blk_lt (by exact BK101.out)) : gb101 ≠ gb104)); have n7_ := Aside0.mk ((by rw [hg]; exact Nat.ne_of_gt (blk_lt (by exact BK101.out)) : gb104 ≠ gb101)); have n8_ := Aside0.mk ((by rw [hg]; exact Nat.ne_of_lt (blk_lt (by exact BK102.out)) : gb102 ≠ gb104)); have n9_ := Aside0.mk ((by rw [hg]; exact Nat.ne_of_gt (blk_lt (by exact BK102.out)) : gb104 ≠ gb102)); clear BK101; clear BK102; clear HB; have BK101 := n0_; have BK102 := n1_; have HB := n2_; have BK104 := n3_; have GE104 := n5_; have NB101_104 := n6_; have NB104_101 := n7_; have NB102_104 := n8_; have NB104_102 := n9_; clear n0_ n1_ n2_ n3_ n5_ n6_ n7_ n8_ n9_; clear hb hbox hg; have hnb26 := NB104_101.out; have hnc26 := NB101_104.out; have hnb27 := NB104_102.out; have hnc27 := NB102_104.out; have hcz28_0 := cel_ BK104.out 0 rfl; have hcz28_1 := cel_ BK104.out 1 rfl; have hcz28_2 := cel_ BK104.out 2 rfl; have hcz28_3 := cel_ BK104.out 3 rfl; have hfz28_0 := blk_frozen BK104.out 0; have hfz28_1 := blk_frozen BK104.out 1; have hfz28_2 := blk_frozen BK104.out 2; have hfz28_3 := blk_frozen BK104.out 3; have hnb29 := NB101_102.out; have hnc29 := NB102_101.out; have hcz30_0 := cel_ BK101.out 0 rfl; have hcz30_1 := cel_ BK101.out 1 rfl; have hcz30_2 := cel_ BK101.out 2 rfl; have hcz30_3 := cel_ BK101.out 3 rfl; have hcz30_4 := cel_ BK101.out 4 rfl; have hcz30_5 := cel_ BK101.out 5 rfl; have hfz30_0 := blk_frozen BK101.out 0; have hfz30_1 := blk_frozen BK101.out 1; have hfz30_2 := blk_frozen BK101.out 2; have hfz30_3 := blk_frozen BK101.out 3; have hfz30_4 := blk_frozen BK101.out 4; have hfz30_5 := blk_frozen BK101.out 5; have hcz31_0 := cel_ BK102.out 0 rfl; have hcz31_1 := cel_ BK102.out 1 rfl; have hcz31_2 := cel_ BK102.out 2 rfl; have hcz31_3 := cel_ BK102.out 3 rfl; have hcz31_4 := cel_ BK102.out 4 rfl; have hcz31_5 := cel_ BK102.out 5 rfl; have hfz31_0 := blk_frozen BK102.out 0; have hfz31_1 := blk_frozen BK102.out 1; have hfz31_2 := blk_frozen BK102.out 2; have hfz31_3 := blk_frozen BK102.out 3; have hfz31_4 := blk_frozen BK102.out 4; have hfz31_5 := blk_frozen BK102.out 5) | ((with_reducible refine gate_callee (f := 20) rfl ?_); refine goesL_ (some 21) rfl rfl Tryd.func20 (by kernel_rfl) rfl #[.agg #[.string ((rd_T24 l0 x14_1).f0), .int .i64 ((rd_T24 l0 x14_1).f1), .int .i64 ((rd_T24 l0 x14_1).f2), .slice A103_3 ((rd_T24 l0 x14_1).f3).length c103_3], .agg #[.int .i64 a1_0, .string a1_1, .string a1_2, .int .i64 a1_3, .int .i64 a1_4, .slice A1_5 l1_5.length c1_5], .agg #[.int .i64 a2_0, .string a2_1, .string a2_2, .int .i64 a2_3, .int .i64 a2_4, .slice A2_5 l2_5.length c2_5]] rfl (by (try simp only [List.map_toArray, List.map_cons, List.map_nil]); rfl) ?_; (with_reducible refine (match_about.calls k1 ((rd_T24 l0 x14_1).f0) ((rd_T24 l0 x14_1).f1) ((rd_T24 l0 x14_1).f2) _ _ ((rd_T24 l0 x14_1).f3) a1_0 a1_1 a1_2 a1_3 a1_4 _ _ l1_5 a2_0 a2_1 a2_2 a2_3 a2_4 _ _ l2_5 false _ ?side1 ?side2 ?side3 ?side4 ?side5 ?side6 A9.out).mono ?_); (case side1 => exact Kd.C_below HR103_3.out (by repeat ((with_reducible first | exact HB.out | refine below_set ?_ GE104.out)))); (case side2 => exact HC103_3.out); (case side3 => exact Kd.C_below HR1_5.out (by repeat ((with_reducible first | exact HB.out | refine below_set ?_ GE104.out)))); (case side4 => exact HC1_5.out); (case side5 => exact Kd.C_below HR2_5.out (by repeat ((with_reducible first | exact HB.out | refine below_set ?_ GE104.out)))); (case side6 => exact HC2_5.out); rintro e w32 ⟨rfl, hb⟩; refine ⟨_, rfl, ?_⟩; have n0_ := Aside0.mk (blk_below (g := gb101) (o := .cells #[.int .i64 a1_0, .string a1_1, .string a1_2, .int .i64 a1_3, .int .i64 a1_4, .slice A1_5 l1_5.length c1_5] 29 (0, 0)) (by refine blk_far ?_ NB101_104.out _; refine blk_far ?_ NB101_104.out _; refine blk_far ?_ NB101_104.out _; refine blk_far ?_ NB101_104.out _; exact BK101.out) hb); have n1_ := Aside0.mk (blk_below (g := gb102) (o := .cells #[.int .i64 a2_0, .string a2_1, .string a2_2, .int .i64 a2_3, .int .i64 a2_4, .slice A2_5 l2_5.length c2_5] 29 (0, 0)) (by refine blk_far ?_ NB102_104.out _; refine blk_far ?_ NB102_104.out _; refine blk_far ?_ NB102_104.out _; refine blk_far ?_ NB102_104.out _; exact BK102.out) hb); have n2_ := Aside0.mk (blk_below (g := gb104) (o := .cells #[.string ((rd_T24 l0 x14_1).f0), .int .i64 ((rd_T24 l0 x14_1).f1), .int .i64 ((rd_T24 l0 x14_1).f2), .slice A103_3 ((rd_T24 l0 x14_1).f3).length c103_3] 24 (0, 0)) (by refine blk_put (cs := #[.string ((rd_T24 l0 x14_1).f0), .int .i64 ((rd_T24 l0 x14_1).f1), .int .i64 ((rd_T24 l0 x14_1).f2), .slice none 0 0]) ?_ 3 _ rfl; refine blk_put (cs := #[.string ((rd_T24 l0 x14_1).f0), .int .i64 ((rd_T24 l0 x14_1).f1), .int .i64 0, .slice none 0 0]) ?_ 2 _ rfl; refine blk_put (cs := #[.string ((rd_T24 l0 x14_1).f0), .int .i64 0, .int .i64 0, .slice none 0 0]) ?_ 1 _ rfl; refine blk_put (cs := #[.string (⟨#[]⟩ : ByteArray), .int .i64 0, .int .i64 0, .slice none 0 0]) ?_ 0 _ rfl; exact BK104.out) hb); have n3_ := Aside0.mk (below_step (by repeat ((with_reducible first | exact HB.out | refine below_set ?_ GE104.out))) hb); clear BK101; clear BK102; clear BK104; clear HB; have BK101 := n0_; have BK102 := n1_; have BK104 := n2_; have HB := n3_; clear n0_ n1_ n2_ n3_; (try clear hb)))
     go_roundg k1
     case measure => have := HK1.out; omega
     case rel => exact ⟨(x7_1), (wrap64 (x14_1 + 1)), (by rfl), (by rfl), H', ⟨by have := HK1.out; omega⟩, ⟨by exact BK101.out⟩, ⟨by exact BK102.out⟩, ⟨by repeat ((with_reducible (exact HB.out)))⟩⟩
    rw [if_neg c8] at H
    exact absurd H (by simp)
   rw [if_neg c7] at H
   exact absurd H (by simp)
  rw [if_neg c6] at H
  have c6b0 : decide (x14_1 < (l0.length : Int)) = false := decide_eq_false c6
  clear c6
  obtain rfl := Option.some.inj H
  go_wp2
  go_ret
  exact ⟨by rfl, by repeat ((with_reducible (exact HB.out)))⟩

/-! ### cmp_isNaN_int: function 46 -/
def cmp_isNaN_int.f (a0 : Int) : Option (Bool) := some (a0 != a0)
set_option maxHeartbeats 8000000 in
set_option maxRecDepth 100000 in
theorem cmp_isNaN_int.calls (a0 : Int) (r : Bool) (w : World) (h : cmp_isNaN_int.f a0 = some r) :
  Calls Tryd.prog 46 #[.int .i64 a0] w fun e w' => e = .returned (.bool r) ∧ Drawn0 w w' := by
 have H : (some (a0 != a0)) = some r := h
 clear h
 obtain rfl := Option.some.inj H
 go_enter Tryd.func46, Tryd.ntmps46
 go_wp2
 go_ret
 exact ⟨by rfl, by exact Drawn0.refl _⟩

/-! ### cmp_Compare_int: function 30 -/
def cmp_Compare_int.f (a0 : Int) (a1 : Int) : Option (Int) := (cmp_isNaN_int.f a0).bind fun t110 => ((cmp_isNaN_int.f a1).bind fun t111 => (if t110 = true then (if t111 = true then (some 0) else (some (-1))) else (if t111 = true then (some 1) else (if a0 < a1 then (some (-1)) else (if a0 > a1 then (some 1) else (some 0))))))
set_option maxHeartbeats 8000000 in
set_option maxRecDepth 100000 in
theorem cmp_Compare_int.calls (a0 : Int) (a1 : Int) (r : Int) (w : World) (h : cmp_Compare_int.f a0 a1 = some r) :
  Calls Tryd.prog 30 #[.int .i64 a0, .int .i64 a1] w fun e w' => e = .returned (.int .i64 r) ∧ Drawn0 w w' := by
 have H : ((cmp_isNaN_int.f a0).bind fun t110 => ((cmp_isNaN_int.f a1).bind fun t111 => (if t110 = true then (if t111 = true then (some 0) else (some (-1))) else (if t111 = true then (some 1) else (if a0 < a1 then (some (-1)) else (if a0 > a1 then (some 1) else (some 0))))))) = some r := h
 clear h
 replace H := Option.bind_eq_some_iff.mp H
 obtain ⟨t110, A30, H⟩ := H
 replace H : ((cmp_isNaN_int.f a1).bind fun t111 => (if t110 = true then (if t111 = true then (some 0) else (some (-1))) else (if t111 = true then (some 1) else (if a0 < a1 then (some (-1)) else (if a0 > a1 then (some 1) else (some 0)))))) = some r := H
 have A3 := Aside0.mk A30
 clear A30
 replace H := Option.bind_eq_some_iff.mp H
 obtain ⟨t111, A40, H⟩ := H
 replace H : (if t110 = true then (if t111 = true then (some 0) else (some (-1))) else (if t111 = true then (some 1) else (if a0 < a1 then (some (-1)) else (if a0 > a1 then (some 1) else (some 0))))) = some r := H
 have A4 := Aside0.mk A40
 clear A40
 by_cases c5 : t110 = true
 ·subst c5
  have H1 : (if t111 = true then (some 0) else (some (-1))) = some r := by rw [if_pos rfl] at H; exact H
  clear H
  have H := H1
  clear H1
  by_cases c6 : t111 = true
  ·subst c6
   have H1 : (some 0) = some r := by rw [if_pos rfl] at H; exact H
   clear H
   have H := H1
   clear H1
   obtain rfl := Option.some.inj H
   go_enter Tryd.func30, Tryd.ntmps30
   go_wp2_with (first | ((with_reducible refine gate_callee (f := 46) rfl ?_); refine goesL_ (some 8) rfl rfl Tryd.func46 (by kernel_rfl) rfl #[.int .i64 a0] rfl (by (try simp only [List.map_toArray, List.map_cons, List.map_nil]); rfl) ?_; (with_reducible refine (cmp_isNaN_int.calls a0 true _ A3.out).mono ?_); rintro e w' ⟨rfl, ⟨nd, rfl⟩⟩; refine ⟨_, rfl, ?_⟩) | ((with_reducible refine gate_callee (f := 46) rfl ?_); refine goesL_ (some 10) rfl rfl Tryd.func46 (by kernel_rfl) rfl #[.int .i64 a1] rfl (by (try simp only [List.map_toArray, List.map_cons, List.map_nil]); rfl) ?_; (with_reducible refine (cmp_isNaN_int.calls a1 true _ A4.out).mono ?_); rintro e w' ⟨rfl, ⟨nd, rfl⟩⟩; refine ⟨_, rfl, ?_⟩))
   go_ret
   exact ⟨by rfl, by repeat (first | exact Drawn0.refl _ | apply Drawn0.step)⟩
  replace c6 := Bool.eq_false_iff.mpr c6
  subst c6
  have H1 : (some (-1)) = some r := by rw [if_neg (show ¬ (false = true) by decide)] at H; exact H
  clear H
  have H := H1
  clear H1
  obtain rfl := Option.some.inj H
  go_enter Tryd.func30, Tryd.ntmps30
  go_wp2_with (first | ((with_reducible refine gate_callee (f := 46) rfl ?_); refine goesL_ (some 8) rfl rfl Tryd.func46 (by kernel_rfl) rfl #[.int .i64 a0] rfl (by (try simp only [List.map_toArray, List.map_cons, List.map_nil]); rfl) ?_; (with_reducible refine (cmp_isNaN_int.calls a0 true _ A3.out).mono ?_); rintro e w' ⟨rfl, ⟨nd, rfl⟩⟩; refine ⟨_, rfl, ?_⟩) | ((with_reducible refine gate_callee (f := 46) rfl ?_); refine goesL_ (some 10) rfl rfl Tryd.func46 (by kernel_rfl) rfl #[.int .i64 a1] rfl (by (try simp only [List.map_toArray, List.map_cons, List.map_nil]); rfl) ?_; (with_reducible refine (cmp_isNaN_int.calls a1 false _ A4.out).mono ?_); rintro e w' ⟨rfl, ⟨nd, rfl⟩⟩; refine ⟨_, rfl, ?_⟩))
  go_ret
  exact ⟨by rfl, by repeat (first | exact Drawn0.refl _ | apply Drawn0.step)⟩
 replace c5 := Bool.eq_false_iff.mpr c5
 subst c5
 have H1 : (if t111 = true then (some 1) else (if a0 < a1 then (some (-1)) else (if a0 > a1 then (some 1) else (some 0)))) = some r := by rw [if_neg (show ¬ (false = true) by decide)] at H; exact H
 clear H
 have H := H1
 clear H1
 by_cases c7 : t111 = true
 ·subst c7
  have H1 : (some 1) = some r := by rw [if_pos rfl] at H; exact H
  clear H
  have H := H1
  clear H1
  obtain rfl := Option.some.inj H
  go_enter Tryd.func30, Tryd.ntmps30
  go_wp2_with (first | ((with_reducible refine gate_callee (f := 46) rfl ?_); refine goesL_ (some 8) rfl rfl Tryd.func46 (by kernel_rfl) rfl #[.int .i64 a0] rfl (by (try simp only [List.map_toArray, List.map_cons, List.map_nil]); rfl) ?_; (with_reducible refine (cmp_isNaN_int.calls a0 false _ A3.out).mono ?_); rintro e w' ⟨rfl, ⟨nd, rfl⟩⟩; refine ⟨_, rfl, ?_⟩) | ((with_reducible refine gate_callee (f := 46) rfl ?_); refine goesL_ (some 10) rfl rfl Tryd.func46 (by kernel_rfl) rfl #[.int .i64 a1] rfl (by (try simp only [List.map_toArray, List.map_cons, List.map_nil]); rfl) ?_; (with_reducible refine (cmp_isNaN_int.calls a1 true _ A4.out).mono ?_); rintro e w' ⟨rfl, ⟨nd, rfl⟩⟩; refine ⟨_, rfl, ?_⟩))
  go_ret
  exact ⟨by rfl, by repeat (first | exact Drawn0.refl _ | apply Drawn0.step)⟩
 replace c7 := Bool.eq_false_iff.mpr c7
 subst c7
 have H1 : (if a0 < a1 then (some (-1)) else (if a0 > a1 then (some 1) else (some 0))) = some r := by rw [if_neg (show ¬ (false = true) by decide)] at H; exact H
 clear H
 have H := H1
 clear H1
 by_cases c8 : a0 < a1
 ·rw [if_pos c8] at H
  have c8b0 : decide (a0 < a1) = true := decide_eq_true c8
  clear c8
  obtain rfl := Option.some.inj H
  go_enter Tryd.func30, Tryd.ntmps30
  go_wp2_with (first | ((with_reducible refine gate_callee (f := 46) rfl ?_); refine goesL_ (some 8) rfl rfl Tryd.func46 (by kernel_rfl) rfl #[.int .i64 a0] rfl (by (try simp only [List.map_toArray, List.map_cons, List.map_nil]); rfl) ?_; (with_reducible refine (cmp_isNaN_int.calls a0 false _ A3.out).mono ?_); rintro e w' ⟨rfl, ⟨nd, rfl⟩⟩; refine ⟨_, rfl, ?_⟩) | ((with_reducible refine gate_callee (f := 46) rfl ?_); refine goesL_ (some 10) rfl rfl Tryd.func46 (by kernel_rfl) rfl #[.int .i64 a1] rfl (by (try simp only [List.map_toArray, List.map_cons, List.map_nil]); rfl) ?_; (with_reducible refine (cmp_isNaN_int.calls a1 false _ A4.out).mono ?_); rintro e w' ⟨rfl, ⟨nd, rfl⟩⟩; refine ⟨_, rfl, ?_⟩))
  go_ret
  exact ⟨by rfl, by repeat (first | exact Drawn0.refl _ | apply Drawn0.step)⟩
 rw [if_neg c8] at H
 have c8b0 : decide (a0 < a1) = false := decide_eq_false c8
 clear c8
 by_cases c9 : a0 > a1
 ·rw [if_pos c9] at H
  have c9b0 : decide (a1 < a0) = true := decide_eq_true c9
  clear c9
  obtain rfl := Option.some.inj H
  go_enter Tryd.func30, Tryd.ntmps30
  go_wp2_with (first | ((with_reducible refine gate_callee (f := 46) rfl ?_); refine goesL_ (some 8) rfl rfl Tryd.func46 (by kernel_rfl) rfl #[.int .i64 a0] rfl (by (try simp only [List.map_toArray, List.map_cons, List.map_nil]); rfl) ?_; (with_reducible refine (cmp_isNaN_int.calls a0 false _ A3.out).mono ?_); rintro e w' ⟨rfl, ⟨nd, rfl⟩⟩; refine ⟨_, rfl, ?_⟩) | ((with_reducible refine gate_callee (f := 46) rfl ?_); refine goesL_ (some 10) rfl rfl Tryd.func46 (by kernel_rfl) rfl #[.int .i64 a1] rfl (by (try simp only [List.map_toArray, List.map_cons, List.map_nil]); rfl) ?_; (with_reducible refine (cmp_isNaN_int.calls a1 false _ A4.out).mono ?_); rintro e w' ⟨rfl, ⟨nd, rfl⟩⟩; refine ⟨_, rfl, ?_⟩))
  go_ret
  exact ⟨by rfl, by repeat (first | exact Drawn0.refl _ | apply Drawn0.step)⟩
 rw [if_neg c9] at H
 have c9b0 : decide (a1 < a0) = false := decide_eq_false c9
 clear c9
 obtain rfl := Option.some.inj H
 go_enter Tryd.func30, Tryd.ntmps30
 go_wp2_with (first | ((with_reducible refine gate_callee (f := 46) rfl ?_); refine goesL_ (some 8) rfl rfl Tryd.func46 (by kernel_rfl) rfl #[.int .i64 a0] rfl (by (try simp only [List.map_toArray, List.map_cons, List.map_nil]); rfl) ?_; (with_reducible refine (cmp_isNaN_int.calls a0 false _ A3.out).mono ?_); rintro e w' ⟨rfl, ⟨nd, rfl⟩⟩; refine ⟨_, rfl, ?_⟩) | ((with_reducible refine gate_callee (f := 46) rfl ?_); refine goesL_ (some 10) rfl rfl Tryd.func46 (by kernel_rfl) rfl #[.int .i64 a1] rfl (by (try simp only [List.map_toArray, List.map_cons, List.map_nil]); rfl) ?_; (with_reducible refine (cmp_isNaN_int.calls a1 false _ A4.out).mono ?_); rintro e w' ⟨rfl, ⟨nd, rfl⟩⟩; refine ⟨_, rfl, ?_⟩))
 go_ret
 exact ⟨by rfl, by repeat (first | exact Drawn0.refl _ | apply Drawn0.step)⟩

end Go.Proofs.YtiffkknhnmpgbaaDoor.U
end

section
namespace Go.Proofs.YtiffkknhnmpgbaaDoor.U
open Go.RowKit Go.Proofs.YtiffkknhnmpgbaaDoor.Q Go.Proofs.YtiffkknhnmpgbaaDoor.R Go.Proofs.YtiffkknhnmpgbaaDoor.V Go.Proofs.YtiffkknhnmpgbaaDoorW.PrintWords Go.Proofs.YtiffkknhnmpgbaaDoorW.PrintLast Go.Proofs.YtiffkknhnmpgbaaDoorW.PrintMore
attribute [local go_sem] max2_int min2_int max_two min_two max_three min_three max_four min_four   -- for this text's walks alone
set_option linter.unusedVariables false
set_option linter.unusedSimpArgs false

def match_Edges_1.T1 : Bool × List (List Nat × List Nat) := (true, [([], []), ([0], [0]), ([], []), ([2], [2]), ([1, 3], [1, 3]), ([], []), ([5], [5]), ([], []), ([7], [7]), ([6, 8, 4], [6, 8]), ([4, 9], [4, 9]), ([10, 9], [10]), ([11, 11, 0, 1, 2, 3, 4, 5, 6, 7, 8, 9, 10, 11], [11])])
def match_Edges_1.B1 : List Nat := [0, 1, 0, 4, 15, 0, 32, 0, 128, 511, 1023, 2047, 4095]
theorem match_Edges_1.tab1 : rtab .any (opsOf Tryd.f28 1) = match_Edges_1.T1 := by kernel_rfl
theorem match_Edges_1.bits1 : waitsOk match_Edges_1.T1.2 match_Edges_1.B1 = true := by kernel_rfl
end Go.Proofs.YtiffkknhnmpgbaaDoor.U
end

section
/- The records of the given examples. -/
namespace Go.Proofs.YtiffkknhnmpgbaaDoor
open Go Go.RowKit Go.Sort Go.Proofs.YtiffkknhnmpgbaaDoor.R Go.Proofs.YtiffkknhnmpgbaaDoorW.PrintWords
set_option linter.unusedVariables false
set_option linter.unusedSimpArgs false
/-- A row out of a block's cells. -/
theorem C_block {α : Type} {d : Kd α} {w : World} {g : Nat} {t : TypeId} {cs : Array Value} {xs : List α} (h : w.heap[g]? = some (.cells cs t (0, 0))) (hr : Reps (d.K w) d.sz xs cs.toList) (hn : xs.length ≤ 9223372036854775807) : Kd.C d w (some ⟨g, 0, none⟩) xs.length xs := by
  refine ⟨rfl, hn, fun _ => ⟨_, rfl, fun j p hp => ?_⟩⟩
  have hj : j < xs.length := (List.getElem?_eq_some_iff.1 hp).1
  have hm : (j + 1) * d.sz ≤ xs.length * d.sz := Nat.mul_le_mul_right _ hj
  have h1 := hr.1
  rw [Nat.add_mul, Nat.one_mul] at hm
  refine ⟨_, ?_, hr.2 j p hp, fun i u hu => ?_⟩
  · rw [List.length_take, List.length_drop]; omega
  · have hi : i < d.sz := by
      have := (List.getElem?_eq_some_iff.1 hu).1
      rw [List.length_take] at this
      omega
    rw [List.getElem?_take_of_lt hi, List.getElem?_drop, Array.getElem?_toList] at hu
    have := blk_cell h (j * d.sz + i)
    have e : (⟨g, 0, none⟩ : Addr).add (j * d.sz + i) = ⟨g, j * d.sz + i, none⟩ := by
      simp only [Addr.add, Nat.zero_add]
      split
      · rename_i h0; rw [h0]
      · rfl
    rw [e, this, hu]
def recCells (a0 : ByteArray) (a1 : Int) : List S50 := [⟨⟨1, 0, a0⟩, 0, 0⟩, if a1 < 0 then ⟨⟨0, 0, ⟨#[]⟩⟩, 0, 0⟩ else ⟨⟨2, a1, ⟨#[]⟩⟩, 0, 0⟩]
theorem rec_end (a0 : ByteArray) (a1 : Int) (w : World) (x2 : Obj) (x : S48) (he : recCells a0 a1 = [⟨⟨1, 0, a0⟩, 0, 0⟩, ⟨x, 0, 0⟩]) (g : Nat) (hg : g = w.heap.size + 1 + 1) :
    ∀ W, W = ((w.alloc (.cells #[.int .i64 0, .string ⟨#[]⟩, .string ⟨#[]⟩, .int .i64 0, .int .i64 0, .slice (some ⟨g, 0, none⟩) 2 2] 29)).alloc x2).alloc (.cells #[.int .i64 1, .int .i64 0, .string a0, .int .i64 0, .int .i64 0, .int .i64 x.f0, .int .i64 x.f1, .string x.f2, .int .i64 0, .int .i64 0] 50) →
    W.heap[w.heap.size]? = some (.cells #[.int .i64 0, .string ⟨#[]⟩, .string ⟨#[]⟩, .int .i64 0, .int .i64 0, .slice (some ⟨g, 0, none⟩) 2 2] 29 (0, 0)) ∧ Kd.C k50 W (some ⟨g, 0, none⟩) 2 (recCells a0 a1) ∧ Below w.heap.size w W := by
  rintro W rfl
  subst hg
  refine ⟨blk_alloc (blk_alloc (blk_new w _) _) _, ?_, below_alloc (below_alloc (below_alloc (Below.refl _ _) _) _) _⟩
  have hb := blk_new ((w.alloc (.cells #[.int .i64 0, .string ⟨#[]⟩, .string ⟨#[]⟩, .int .i64 0, .int .i64 0, .slice (some ⟨w.heap.size + 1 + 1, 0, none⟩) 2 2] 29)).alloc x2) (.cells #[.int .i64 1, .int .i64 0, .string a0, .int .i64 0, .int .i64 0, .int .i64 x.f0, .int .i64 x.f1, .string x.f2, .int .i64 0, .int .i64 0] 50)
  have e : ((w.alloc (.cells #[.int .i64 0, .string ⟨#[]⟩, .string ⟨#[]⟩, .int .i64 0, .int .i64 0, .slice (some ⟨w.heap.size + 1 + 1, 0, none⟩) 2 2] 29)).alloc x2).heap.size = w.heap.size + 1 + 1 := by simp
  rw [e] at hb
  rw [he]
  exact C_block (d := k50) (xs := [⟨⟨1, 0, a0⟩, 0, 0⟩, ⟨x, 0, 0⟩]) hb (((Reps.none _ _).snoc (k50_mk _ ⟨⟨1, 0, a0⟩, 0, 0⟩) rfl).snoc (k50_mk _ ⟨x, 0, 0⟩) rfl) (by simp)
set_option maxRecDepth 100000 in
set_option maxHeartbeats 4000000 in
theorem record_calls (a0 : ByteArray) (a1 : Int) (w : World) :
    Calls Tryd.prog 19 #[.string a0, .int .i64 a1] w fun e w' => ∃ A c, e = .returned (.agg #[.int .i64 0, .string ⟨#[]⟩, .string ⟨#[]⟩, .int .i64 0, .int .i64 0, .slice A 2 c]) ∧ 2 ≤ c ∧ Kd.C k50 w' A 2 (recCells a0 a1) ∧ Below w.heap.size w w' := by
  by_cases c3 : a1 < 0
  · have c3b0 : decide (a1 < 0) = true := decide_eq_true c3
    have he : recCells a0 a1 = [⟨⟨1, 0, a0⟩, 0, 0⟩, ⟨⟨0, 0, ⟨#[]⟩⟩, 0, 0⟩] := by simp [recCells, c3]
    have HE := Aside0.mk (rec_end a0 a1 w (.cells #[.int .i64 0, .int .i64 0, .string ⟨#[]⟩] 48) _ he _ rfl)
    clear he
    go_enter Tryd.func19, Tryd.ntmps19
    go_wp2
    obtain ⟨h1, h2, h3⟩ := HE.out _ rfl
    refine bodyPost_ret (results_cell_row rfl _ _ w.heap.size 29 #[.int .i64 0, .string ⟨#[]⟩, .string ⟨#[]⟩, .int .i64 0, .int .i64 0, .slice (some ⟨w.heap.size + 1 + 1, 0, none⟩) 2 2] (0, 0) _ rfl h1 Tryd.underlying29 rfl (by kernel_rfl)) rfl ?_
    exact ⟨_, _, rfl, Nat.le_refl _, h2, h3⟩
  · have c3b0 : decide (a1 < 0) = false := decide_eq_false c3
    have he : recCells a0 a1 = [⟨⟨1, 0, a0⟩, 0, 0⟩, ⟨⟨2, a1, ⟨#[]⟩⟩, 0, 0⟩] := by simp [recCells, c3]
    have HE := Aside0.mk (rec_end a0 a1 w (.cells #[.int .i64 2, .int .i64 a1, .string ⟨#[]⟩] 48) _ he _ rfl)
    clear he
    go_enter Tryd.func19, Tryd.ntmps19
    go_wp2
    obtain ⟨h1, h2, h3⟩ := HE.out _ rfl
    refine bodyPost_ret (results_cell_row rfl _ _ w.heap.size 29 #[.int .i64 0, .string ⟨#[]⟩, .string ⟨#[]⟩, .int .i64 0, .int .i64 0, .slice (some ⟨w.heap.size + 1 + 1, 0, none⟩) 2 2] (0, 0) _ rfl h1 Tryd.underlying29 rfl (by kernel_rfl)) rfl ?_
    exact ⟨_, _, rfl, Nat.le_refl _, h2, h3⟩
def exTerms : List S43 := [⟨0, 2, 0, ⟨1, 2⟩, 5, 2⟩, ⟨1, 5, 10, ⟨4, 5⟩, 1, 0⟩]
theorem ex_end (w : World) : ∀ W g, g = w.heap.size + 1 → W = (w.alloc (.cells #[.string ⟨#[]⟩, .int .i64 0, .int .i64 3, .slice (some ⟨g, 0, none⟩) 2 2] 24)).alloc (.cells #[.int .i64 0, .int .i64 2, .int .i64 0, .int .i64 1, .int .i64 2, .int .i64 5, .int .i64 2, .int .i64 1, .int .i64 5, .int .i64 10, .int .i64 4, .int .i64 5, .int .i64 1, .int .i64 0] 43) →
    W.heap[w.heap.size]? = some (.cells #[.string ⟨#[]⟩, .int .i64 0, .int .i64 3, .slice (some ⟨g, 0, none⟩) 2 2] 24 (0, 0)) ∧ Kd.C k43 W (some ⟨g, 0, none⟩) 2 exTerms ∧ Below w.heap.size w W := by
  rintro W g rfl rfl
  refine ⟨blk_alloc (blk_new w _) _, ?_, below_alloc (below_alloc (Below.refl _ _) _) _⟩
  have hb := blk_new (w.alloc (.cells #[.string ⟨#[]⟩, .int .i64 0, .int .i64 3, .slice (some ⟨w.heap.size + 1, 0, none⟩) 2 2] 24)) (.cells #[.int .i64 0, .int .i64 2, .int .i64 0, .int .i64 1, .int .i64 2, .int .i64 5, .int .i64 2, .int .i64 1, .int .i64 5, .int .i64 10, .int .i64 4, .int .i64 5, .int .i64 1, .int .i64 0] 43)
  have e : (w.alloc (.cells #[.string ⟨#[]⟩, .int .i64 0, .int .i64 3, .slice (some ⟨w.heap.size + 1, 0, none⟩) 2 2] 24)).heap.size = w.heap.size + 1 := by simp
  rw [e] at hb
  exact C_block (d := k43) (xs := exTerms) hb (((Reps.none _ _).snoc (k43_mk _ ⟨0, 2, 0, ⟨1, 2⟩, 5, 2⟩) rfl).snoc (k43_mk _ ⟨1, 5, 10, ⟨4, 5⟩, 1, 0⟩) rfl) (by decide)
set_option maxRecDepth 100000 in
set_option maxHeartbeats 4000000 in
theorem example_calls (w : World) :
    Calls Tryd.prog 18 #[] w fun e w' => ∃ A c, e = .returned (.agg #[.string ⟨#[]⟩, .int .i64 0, .int .i64 3, .slice A 2 c]) ∧ 2 ≤ c ∧ Kd.C k43 w' A 2 exTerms ∧ Below w.heap.size w w' := by
  go_enter Tryd.func18, Tryd.ntmps18
  go_wp2
  obtain ⟨h1, h2, h3⟩ := ex_end w _ _ rfl rfl
  refine bodyPost_ret (results_cell_row rfl _ _ w.heap.size 24 #[.string ⟨#[]⟩, .int .i64 0, .int .i64 3, .slice (some ⟨w.heap.size + 1, 0, none⟩) 2 2] (0, 0) _ rfl h1 Tryd.underlying24 rfl (by kernel_rfl)) rfl ?_
  exact ⟨_, _, rfl, Nat.le_refl _, h2, h3⟩
end Go.Proofs.YtiffkknhnmpgbaaDoor
end

section
/- Match in plain values: what the printed contracts of match and of its reference tell. -/
namespace Go.Proofs.YtiffkknhnmpgbaaDoor.Pure
open Go Go.RowKit Go.Proofs.YtiffkknhnmpgbaaDoor.Q Go.Proofs.YtiffkknhnmpgbaaDoor.R Go.Proofs.YtiffkknhnmpgbaaDoorW.PrintWords Go.Proofs.YtiffkknhnmpgbaaDoorW.PrintLast Go.Proofs.YtiffkknhnmpgbaaDoorW.PrintMore
set_option linter.unusedVariables false
set_option linter.unusedSimpArgs false
abbrev Wg := S43
abbrev Ce := S50
abbrev Ma := S24
abbrev Rc := S29
structure TOk (t : Wg) : Prop where
  m : I64 t.f1
  tol : I64 t.f2
  n : I64 t.f3.f0
  d : I64 t.f3.f1
def TsOk (l : List Wg) : Prop := ∀ t ∈ l, TOk t
def CsOk (l : List Ce) : Prop := ∀ c ∈ l, I64 c.f0.f1
def Short (l : List Ce) : Prop := l.length ≤ 14 ∧ ∀ c ∈ l, c.f0.f2.size ≤ 210
def rvB (n d : Int) : Bool := decide (0 < d) && decide (d ≤ 1000000000) && decide (n.natAbs ≤ 1000000000) && (((Nat.gcd n.natAbs d.natAbs : Nat) : Int) == 1)
theorem rValid_f (n d : Int) (hn : I64 n) (hd : I64 d) : Ev (fun k => ratio_Valid.f k n d) (rvB n d) := by
  unfold rvB
  by_cases h1 : 0 < d
  · by_cases h2 : d ≤ 1000000000
    · by_cases h3 : n.natAbs ≤ 1000000000
      · rw [decide_eq_true h1, decide_eq_true h2, decide_eq_true h3]
        refine Ev.congr (f := fun k => (ratio_common.f k [(n.natAbs : Int), (d.natAbs : Int)]).bind fun t => some (t == 1)) (fun k => ?_) (Ev.bind (common_f n.natAbs d.natAbs) (Ev.now _))
        unfold ratio_Valid.f
        rw [if_pos h1, if_pos h2, mag_f _ hn, Option.bind_some, if_pos (by omega), mag_f _ hd, Option.bind_some, Option.bind_some]
      · rw [decide_eq_false h3, Bool.and_false, Bool.false_and]
        refine Ev.congr (f := fun _ => some false) (fun k => ?_) (Ev.now _)
        unfold ratio_Valid.f
        rw [if_pos h1, if_pos h2, mag_f _ hn, Option.bind_some, if_neg (by omega)]
    · rw [decide_eq_false h2, Bool.and_false, Bool.false_and, Bool.false_and]
      exact Ev.congr (f := fun _ => some false) (fun k => by unfold ratio_Valid.f; rw [if_pos h1, if_neg h2]) (Ev.now _)
  · rw [decide_eq_false h1, Bool.false_and, Bool.false_and, Bool.false_and]
    exact Ev.congr (f := fun _ => some false) (fun k => by unfold ratio_Valid.f; rw [if_neg h1]) (Ev.now _)
theorem refValid_f (n d : Int) (hn : I64 n) (hd : I64 d) : Ev (fun k => cleanseref01_Valid.f k n d) (rvB n d) := by
  unfold rvB
  by_cases h1 : 0 < d
  · by_cases h2 : d ≤ 1000000000
    · by_cases h3 : n.natAbs ≤ 1000000000
      · rw [decide_eq_true h1, decide_eq_true h2, decide_eq_true h3]
        refine Ev.congr (f := fun k => (cleanseref01_Gcd.f k (n.natAbs : Int) (d.natAbs : Int)).bind fun t => some (t == 1)) (fun k => ?_) (Ev.bind (refGcd_f n.natAbs d.natAbs) (Ev.now _))
        unfold cleanseref01_Valid.f
        rw [if_pos (by omega), if_pos h2, if_pos (by omega), if_pos (by omega), size_f _ hn, Option.bind_some, size_f _ hd, Option.bind_some]
      · rw [decide_eq_false h3, Bool.and_false, Bool.false_and]
        by_cases h4 : n ≥ -1000000000
        · exact Ev.congr (f := fun _ => some false) (fun k => by unfold cleanseref01_Valid.f; rw [if_pos (by omega), if_pos h2, if_pos h4, if_neg (by omega)]) (Ev.now _)
        · exact Ev.congr (f := fun _ => some false) (fun k => by unfold cleanseref01_Valid.f; rw [if_pos (by omega), if_pos h2, if_neg h4]) (Ev.now _)
    · rw [decide_eq_false h2, Bool.and_false, Bool.false_and, Bool.false_and]
      exact Ev.congr (f := fun _ => some false) (fun k => by unfold cleanseref01_Valid.f; rw [if_pos (by omega), if_neg h2]) (Ev.now _)
  · rw [decide_eq_false h1, Bool.false_and, Bool.false_and, Bool.false_and]
    exact Ev.congr (f := fun _ => some false) (fun k => by unfold cleanseref01_Valid.f; rw [if_neg (by omega)]) (Ev.now _)
/-- A valid term. -/
def goodB (t : Wg) : Bool := rvB t.f3.f0 t.f3.f1 && (decide (0 ≤ t.f3.f0) && decide (t.f3.f0 ≤ t.f3.f1)) && (decide (1 ≤ t.f1) && decide (t.f1 ≤ 5)) && (decide (0 ≤ t.f2) && decide (t.f2 ≤ 1000000000)) && (decide (0 ≤ t.f4) && decide (t.f4 ≤ 1000)) && (decide (0 ≤ t.f5) && decide (t.f5 ≤ 1000))
theorem good_out {t : Wg} (h : goodB t = true) : (∃ p q : Nat, Low (t.f3.f0, t.f3.f1) p q) ∧ 1 ≤ t.f1 ∧ t.f1 ≤ 5 ∧ 0 ≤ t.f2 ∧ t.f2 ≤ 1000000000 ∧ 0 ≤ t.f4 ∧ t.f4 ≤ 1000 ∧ 0 ≤ t.f5 ∧ t.f5 ≤ 1000 := by
  simp only [goodB, rvB, Bool.and_eq_true, decide_eq_true_eq, beq_iff_eq] at h
  obtain ⟨⟨⟨⟨⟨⟨⟨⟨a1, a2⟩, a3⟩, a4⟩, b1, b2⟩, c1, c2⟩, d1, d2⟩, e1, e2⟩, f1, f2⟩ := h
  exact ⟨⟨t.f3.f0.natAbs, t.f3.f1.natAbs, by simp; omega, by simp; omega, by omega, by omega, by omega, by omega⟩, c1, c2, d1, d2, e1, e2, f1, f2⟩
theorem bad_f (t : Wg) (h : TOk t) : Ev (fun k => bad k t) (!goodB t) := by
  unfold bad
  refine Ev.congr (fun k => by unfold match_valid_1.f; rfl) (Ev.bind (rValid_f _ _ h.n h.d) ?_)
  have step : ∀ b : Bool, Ev (fun k => match_valid_1.j0 k b t.f0 t.f1 t.f2 t.f3.f0 t.f3.f1 t.f4 t.f5) (!(b && (decide (1 ≤ t.f1) && decide (t.f1 ≤ 5)) && (decide (0 ≤ t.f2) && decide (t.f2 ≤ 1000000000)) && (decide (0 ≤ t.f4) && decide (t.f4 ≤ 1000)) && (decide (0 ≤ t.f5) && decide (t.f5 ≤ 1000)))) := by
    intro b
    refine Ev.step (f := fun _ => some _) (fun k => ?_) (Ev.now _)
    simp only [match_valid_1.j0, between_tot, Option.bind_some]
    cases b with
    | false => rfl
    | true =>
      rw [if_pos rfl]
      cases (decide (1 ≤ t.f1) && decide (t.f1 ≤ 5)) with
      | false => rfl
      | true =>
        rw [if_pos rfl]
        cases (decide (0 ≤ t.f2) && decide (t.f2 ≤ 1000000000)) with
        | false => rfl
        | true =>
          rw [if_pos rfl]
          cases (decide (0 ≤ t.f4) && decide (t.f4 ≤ 1000)) with
          | false => rfl
          | true => rw [if_pos rfl]; simp
  unfold goodB
  cases rvB t.f3.f0 t.f3.f1 with
  | false =>
    refine Ev.congr (fun k => by rw [if_neg (by decide)]) ?_
    have := step false
    simpa using this
  | true =>
    refine Ev.congr (fun k => by rw [if_pos rfl, between_tot, Option.bind_some]) ?_
    rw [Bool.true_and]
    exact step _
theorem vIdx_f (l : List Wg) (hl : l.length < 4611686018427387904) (h : TsOk l) : ∀ (d i : Nat), d + i = l.length → ∃ r : Int, (decide (0 ≤ r) = !((l.drop i).all goodB)) ∧ ∃ K, ∀ k, K ≤ k → ∀ j, d + 1 ≤ j → vIdx k j l (i : Int) = some r
  | 0, i, hd => ⟨-1, by rw [List.drop_of_length_le (by omega)]; rfl, 0, fun k _ j hj => by
      obtain ⟨j, rfl⟩ : ∃ m, j = m + 1 := ⟨j - 1, by omega⟩
      simp only [vIdx]
      rw [if_neg (by omega)]⟩
  | d + 1, i, hd => by
    have hi : i < l.length := by omega
    have hr : rd_T43 l (i : Int) = l[i] := by simp [rd_T43, List.getD_eq_getElem?_getD, hi]
    obtain ⟨K1, hK1⟩ := bad_f l[i] (h _ (List.getElem_mem hi))
    replace hK1 : ∀ k, K1 ≤ k → bad k l[i] = some (!goodB l[i]) := hK1
    rw [List.drop_eq_getElem_cons hi, List.all_cons]
    cases hg : goodB l[i] with
    | false =>
      refine ⟨(i : Int), by simp, K1, fun k hk j hj => ?_⟩
      obtain ⟨j, rfl⟩ : ∃ m, j = m + 1 := ⟨j - 1, by omega⟩
      simp only [vIdx]
      rw [if_pos (by omega), if_pos (by omega), hr, hK1 k hk, hg, Option.bind_some]
      rfl
    | true =>
      obtain ⟨r, h1, K2, h2⟩ := vIdx_f l hl h d (i + 1) (by omega)
      refine ⟨r, by rw [h1]; simp, max K1 K2, fun k hk j hj => ?_⟩
      obtain ⟨j, rfl⟩ : ∃ m, j = m + 1 := ⟨j - 1, by omega⟩
      simp only [vIdx]
      rw [if_pos (by omega), if_pos (by omega), hr, hK1 k (by omega), hg, Option.bind_some, Bool.not_true, if_neg (by decide), wrap_succ _ (by omega)]
      exact h2 k (by omega) j (by omega)
def validB (m2 : Int) (l : List Wg) : Bool := decide (0 ≤ m2) && decide (m2 ≤ 10000) && decide ((l.length : Int) ≤ 200) && l.all goodB
theorem valid_f2 (m0 : ByteArray) (m1 m2 : Int) (l : List Wg) (h : TsOk l) : Ev (fun k => match_valid.f k m0 m1 m2 l) (validB m2 l) := by
  unfold match_valid.f validB
  cases hc : (decide (0 ≤ m2) && decide (m2 ≤ 10000) && decide ((l.length : Int) ≤ 200)) with
  | false =>
    rw [Bool.false_and]
    exact Ev.congr (f := fun _ => some false) (fun k => by rw [if_neg (by decide)]) (Ev.now _)
  | true =>
    simp only [Bool.and_eq_true, decide_eq_true_eq] at hc
    obtain ⟨r, h1, K, h2⟩ := vIdx_f l (by omega) h l.length 0 (by omega)
    refine ⟨max K (l.length + 1), fun k hk => ?_⟩
    simp only [if_true]
    unfold sContainsFunc.f sIndexFunc.f
    have := h2 k (by omega) k (by omega)
    rw [show ((0 : Nat) : Int) = 0 from rfl] at this
    rw [this, Option.bind_some, Option.bind_some, h1]
    simp
def aboutB (m1 m2 : Int) (l : List Wg) (ta tb : Int) : Bool := decide (m1 = ta) && decide (m1 = tb) && validB m2 l
theorem about_f (m0 : ByteArray) (m1 m2 : Int) (l : List Wg) (h : TsOk l) (a b : Rec) : Ev (fun k => V.match_about.f k m0 m1 m2 l a.r0 a.r1 a.r2 a.r3 a.r4 a.r5 b.r0 b.r1 b.r2 b.r3 b.r4 b.r5) (aboutB m1 m2 l a.r3 b.r3) := by
  unfold V.match_about.f aboutB
  by_cases h1 : m1 = a.r3
  · by_cases h2 : m1 = b.r3
    · rw [decide_eq_true h1, decide_eq_true h2]
      exact Ev.congr (fun k => by rw [if_pos h1, if_pos h2]) (Ev.bind (valid_f2 m0 m1 m2 l h) (Ev.now _))
    · rw [decide_eq_false h2, Bool.and_false, Bool.false_and]
      exact Ev.congr (f := fun _ => some false) (fun k => by rw [if_pos h1, if_neg h2]) (Ev.now _)
  · rw [decide_eq_false h1, Bool.false_and, Bool.false_and]
    exact Ev.congr (f := fun _ => some false) (fun k => by rw [if_neg h1]) (Ev.now _)
end Go.Proofs.YtiffkknhnmpgbaaDoor.Pure
end

section
/- Match in plain values: terms, scores, weights, and what bounds the sizes. -/
namespace Go.Proofs.YtiffkknhnmpgbaaDoor.Pure
open Go Go.RowKit Go.Proofs.YtiffkknhnmpgbaaDoor.Q Go.Proofs.YtiffkknhnmpgbaaDoor.R Go.Proofs.YtiffkknhnmpgbaaDoorW.PrintWords Go.Proofs.YtiffkknhnmpgbaaDoorW.PrintLast Go.Proofs.YtiffkknhnmpgbaaDoorW.PrintMore
set_option linter.unusedVariables false
set_option linter.unusedSimpArgs false
def ofC (t : Wg) (x y : Ce) : Int × Int × Int := ofS t.f1 t.f2 x.f0.f0 x.f0.f1 x.f0.f2 y.f0.f0 y.f0.f1 y.f0.f2
/-- Whether a term holds for the cells of two records. -/
def holdS (t : Wg) (a b : List Ce) : Bool :=
  if 0 ≤ t.f0 ∧ t.f0 < (a.length : Int) ∧ t.f0 < (b.length : Int) then decide ((ofC t (rd_T50 a t.f0) (rd_T50 b t.f0)).2.2 = 0) && decide (t.f3.f0 * (ofC t (rd_T50 a t.f0) (rd_T50 b t.f0)).2.1 ≤ (ofC t (rd_T50 a t.f0) (rd_T50 b t.f0)).1 * t.f3.f1) else false
theorem cmpN_ge {p q a b : Nat} : (0 ≤ cmpN p q a b) ↔ ((a : Int) * (q : Int) ≤ (p : Int) * (b : Int)) := by
  have e1 : ((a * q : Nat) : Int) = (a : Int) * (q : Int) := Int.natCast_mul a q
  have e2 : ((p * b : Nat) : Int) = (p : Int) * (b : Int) := Int.natCast_mul p b
  rw [← e1, ← e2]
  unfold cmpN
  by_cases h1 : p * b < a * q
  · rw [if_pos h1]; constructor <;> intro h <;> omega
  · rw [if_neg h1]
    by_cases h2 : a * q < p * b
    · rw [if_pos h2]; constructor <;> intro h <;> omega
    · rw [if_neg h2]; constructor <;> intro h <;> omega
theorem rd_mem {l : List Ce} {i : Int} (h0 : 0 ≤ i) (h : i < (l.length : Int)) : rd_T50 l i ∈ l := by
  unfold rd_T50
  have : i.toNat < l.length := by omega
  rw [List.getD_eq_getElem?_getD, List.getElem?_eq_getElem this]
  exact List.getElem_mem this
def CsFit (l : List Ce) : Prop := l.length ≤ 1000 ∧ ∀ c ∈ l, I64 c.f0.f1 ∧ c.f0.f2.size ≤ 1000
theorem CsFit.of {l : List Ce} (h : CsOk l) (k : Short l) : CsFit l := ⟨by have := k.1; omega, fun c hc => ⟨h c hc, by have := k.2 c hc; omega⟩⟩
theorem mn_eq (a b : Int) : mn a b = if a ≤ b then a else b := by
  unfold mn
  split <;> split <;> omega
theorem hold_f (a b : Rec) (t : Wg) (hg : goodB t = true) (h : TOk t) (ha : CsFit a.r5) (hb : CsFit b.r5) : Ev (fun k => hold k a b t) (holdS t a.r5 b.r5) := by
  obtain ⟨⟨n, d, hL⟩, g1, g2, g3, g4, _⟩ := good_out hg
  unfold hold holdS
  refine Ev.congr (fun k => by unfold match_holds.f; rw [between_tot, Option.bind_some]) ?_
  have la := ha.1
  have lb := hb.1
  have hw : wrap64 (mn (a.r5.length : Int) (b.r5.length : Int) - 1) = mn (a.r5.length : Int) (b.r5.length : Int) - 1 := by
    rw [mn_eq]; unfold wrap64; split <;> omega
  rw [hw]
  by_cases hc : 0 ≤ t.f0 ∧ t.f0 < (a.r5.length : Int) ∧ t.f0 < (b.r5.length : Int)
  · have c1 : (decide (0 ≤ t.f0) && decide (t.f0 ≤ mn (a.r5.length : Int) (b.r5.length : Int) - 1)) = true := by
      rw [mn_eq]; simp only [Bool.and_eq_true, decide_eq_true_eq]; split <;> omega
    rw [c1, if_pos hc]
    have hx := ha.2 _ (rd_mem hc.1 hc.2.1)
    have hy := hb.2 _ (rd_mem hc.1 hc.2.2)
    refine Ev.congr (fun k => by rw [if_pos rfl, if_pos hc.1, if_pos hc.2.1, if_pos hc.2.2]) (Ev.bind (of_f t.f1 t.f2 _ _ _ _ _ _ (by simp only [Lit.wf, IntKind.min, IntKind.max, IntKind.signed, IntKind.bits, Bool.and_eq_true, decide_eq_true_eq, if_true]; have := h.m; omega) h.tol hx.1 hy.1 hx.2 hy.2) ?_)
    have hl := ofS_low t.f1 t.f2 (rd_T50 a.r5 t.f0).f0.f0 (rd_T50 a.r5 t.f0).f0.f1 (rd_T50 a.r5 t.f0).f0.f2 (rd_T50 b.r5 t.f0).f0.f0 (rd_T50 b.r5 t.f0).f0.f1 (rd_T50 b.r5 t.f0).f0.f2 hx.2 hy.2
    unfold ofC
    generalize ofS t.f1 t.f2 (rd_T50 a.r5 t.f0).f0.f0 (rd_T50 a.r5 t.f0).f0.f1 (rd_T50 a.r5 t.f0).f0.f2 (rd_T50 b.r5 t.f0).f0.f0 (rd_T50 b.r5 t.f0).f0.f1 (rd_T50 b.r5 t.f0).f0.f2 = r at hl ⊢
    by_cases h0 : r.2.2 = 0
    · obtain ⟨p, q, hp⟩ := hl h0
      rw [decide_eq_true h0, Bool.true_and]
      refine Ev.congr (fun k => by rw [if_pos h0]) (Ev.bind (Cmp_low hp hL) ?_)
      have e : decide (cmpN p q n d ≥ 0) = decide (t.f3.f0 * r.2.1 ≤ r.1 * t.f3.f1) := by
        have e1 := hp.fst
        have e2 := hp.snd
        have e3 := hL.fst
        have e4 := hL.snd
        simp only at e1 e2 e3 e4
        rw [e1, e2, e3, e4]
        exact decide_eq_decide.2 cmpN_ge
      rw [← e]
      exact Ev.now _
    · rw [decide_eq_false h0, Bool.false_and]
      exact Ev.congr (f := fun _ => some false) (fun k => by rw [if_neg h0]) (Ev.now _)
  · have c1 : (decide (0 ≤ t.f0) && decide (t.f0 ≤ mn (a.r5.length : Int) (b.r5.length : Int) - 1)) = false := by
      rw [mn_eq, Bool.eq_false_iff]; simp only [ne_eq, Bool.and_eq_true, decide_eq_true_eq]; split <;> omega
    rw [c1, if_neg hc]
    exact Ev.congr (f := fun _ => some false) (fun k => by rw [if_neg (by decide)]) (Ev.now _)
/-- What a term gives or takes. -/
def giveS (t : Wg) (a b : List Ce) : Int := if holdS t a b = true then t.f4 else -t.f5
theorem cN_eq {t : Wg} (hg : goodB t = true) (b : Bool) : cN t b = if b = true then t.f4 else -t.f5 := by
  obtain ⟨_, _, _, _, _, _, _, h5, h6⟩ := good_out hg
  unfold cN
  cases b with
  | true => rfl
  | false => rw [if_neg (by decide), if_neg (by decide), show IntKind.i64.wrap (-t.f5) = wrap64 (-t.f5) from i64_w _]; unfold wrap64; omega
theorem contribs_f (a b : Rec) (ha : CsFit a.r5) (hb : CsFit b.r5) : ∀ (l : List Wg), TsOk l → l.all goodB = true → Ev (fun k => contribs k a b l) (l.map fun t => (holdS t a.r5 b.r5, giveS t a.r5 b.r5))
  | [], _, _ => Ev.now _
  | t :: l, h, hg => by
    rw [List.all_cons, Bool.and_eq_true] at hg
    refine Ev.congr (fun k => by unfold contribs; rfl) (Ev.bind (hold_f a b t hg.1 (h t (by simp)) ha hb) (Ev.bind (contribs_f a b ha hb l (fun x hx => h x (by simp [hx])) hg.2) ?_))
    rw [cN_eq hg.1]
    exact Ev.now _
theorem sumX_acc : ∀ (xs : List (Bool × Int)) (s : Int) (n : Nat), xs.length ≤ n → n ≤ 1000 → (∀ x ∈ xs, -1000 ≤ x.2 ∧ x.2 ≤ 1000) → -1000000 ≤ s - 1000 * (xs.length : Int) → s + 1000 * (xs.length : Int) ≤ 1000000 → xs.foldl (fun s x => wrap64 (s + x.2)) s = s + (xs.map (·.2)).sum
  | [], s, _, _, _, _, _, _ => by simp
  | x :: xs, s, n, hn, hn2, hb, h1, h2 => by
    have hx := hb x (by simp)
    simp only [List.length_cons] at hn h1 h2
    have e : wrap64 (s + x.2) = s + x.2 := by unfold wrap64; omega
    rw [List.foldl_cons, e, sumX_acc xs (s + x.2) n (by omega) hn2 (fun y hy => hb y (by simp [hy])) (by omega) (by omega), List.map_cons, List.sum_cons]
    omega
theorem give_bound {t : Wg} (hg : goodB t = true) (a b : List Ce) : -1000 ≤ giveS t a b ∧ giveS t a b ≤ 1000 := by
  obtain ⟨_, _, _, _, _, h3, h4, h5, h6⟩ := good_out hg
  unfold giveS
  split <;> omega
theorem sumX_eq (l : List Wg) (hg : l.all goodB = true) (hl : l.length ≤ 200) (a b : List Ce) : sumX (l.map fun t => (holdS t a b, giveS t a b)) = (l.map fun t => giveS t a b).sum := by
  unfold sumX
  rw [sumX_acc _ 0 l.length (by simp) (by omega) (fun x hx => by
    obtain ⟨t, ht, rfl⟩ := List.mem_map.1 hx
    exact give_bound (List.all_eq_true.1 hg t ht) a b) (by simp; omega) (by simp; omega)]
  simp [Function.comp_def]
theorem sum_bound (l : List Wg) (hg : l.all goodB = true) (a b : List Ce) : -1000 * (l.length : Int) ≤ (l.map fun t => giveS t a b).sum ∧ (l.map fun t => giveS t a b).sum ≤ 1000 * (l.length : Int) := by
  induction l with
  | nil => simp
  | cons t l ih =>
    rw [List.all_cons, Bool.and_eq_true] at hg
    have h1 := give_bound hg.1 a b
    have h2 := ih hg.2
    simp only [List.map_cons, List.sum_cons, List.length_cons]
    omega
/-- The score, and which terms hold. -/
def scoreS (m1 m2 : Int) (l : List Wg) (ta tb : Int) (a b : List Ce) : Int × List Bool :=
  if aboutB m1 m2 l ta tb = true then ((l.map fun t => giveS t a b).sum, l.map fun t => holdS t a b) else (0, [])
theorem about_valid {m1 m2 : Int} {l : List Wg} {ta tb : Int} (h : aboutB m1 m2 l ta tb = true) : validB m2 l = true ∧ m1 = ta ∧ m1 = tb := by
  simp only [aboutB, Bool.and_eq_true, decide_eq_true_eq] at h
  exact ⟨h.2, h.1.1, h.1.2⟩
theorem valid_out {m2 : Int} {l : List Wg} (h : validB m2 l = true) : 0 ≤ m2 ∧ m2 ≤ 10000 ∧ l.length ≤ 200 ∧ l.all goodB = true := by
  simp only [validB, Bool.and_eq_true, decide_eq_true_eq] at h
  exact ⟨h.1.1.1, h.1.1.2, by have := h.1.2; omega, h.2⟩
theorem score_f (m0 : ByteArray) (m1 m2 : Int) (l : List Wg) (h : TsOk l) (a b : Rec) (ha : CsFit a.r5) (hb : CsFit b.r5) : Ev (fun k => match_Score.f k m0 m1 m2 l a.r0 a.r1 a.r2 a.r3 a.r4 a.r5 b.r0 b.r1 b.r2 b.r3 b.r4 b.r5) (scoreS m1 m2 l a.r3 b.r3 a.r5 b.r5) := by
  unfold match_Score.f scoreF scoreS
  refine Ev.bind (about_f m0 m1 m2 l h a b) ?_
  cases hA : aboutB m1 m2 l a.r3 b.r3 with
  | false => rw [if_neg (by decide)]; exact Ev.congr (f := fun _ => some (0, [])) (fun k => by rw [if_neg (by decide)]) (Ev.now _)
  | true =>
    obtain ⟨h1, h2, h3, h4⟩ := valid_out (about_valid hA).1
    rw [if_pos rfl]
    refine Ev.congr (fun k => by rw [if_pos rfl, if_pos (by omega)]) (Ev.bind (contribs_f a b ha hb l h h4) ?_)
    rw [sumX_eq l h4 h3, List.map_map]
    exact Ev.now _
/-- What a match adds to the weight. -/
def addS (m : Ma) (ta tb : Int) (a b : List Ce) : Int := if aboutB m.f1 m.f2 m.f3 ta tb = true then (scoreS m.f1 m.f2 m.f3 ta tb a b).1 - m.f2 else 0
theorem add_bound (m : Ma) (ta tb : Int) (a b : List Ce) : -300000 ≤ addS m ta tb a b ∧ addS m ta tb a b ≤ 300000 := by
  unfold addS scoreS
  by_cases hA : aboutB m.f1 m.f2 m.f3 ta tb = true
  · obtain ⟨h1, h2, h3, h4⟩ := valid_out (about_valid hA).1
    have := sum_bound m.f3 h4 a b
    rw [if_pos hA, if_pos hA]
    simp only
    omega
  · rw [if_neg hA]; omega
def weightS (ms : List Ma) (ta tb : Int) (a b : List Ce) : Int := (ms.map fun m => addS m ta tb a b).sum
theorem weight_l (ms : List Ma) (hl : ms.length ≤ 1000) (h : ∀ m ∈ ms, TsOk m.f3) (a b : Rec) (ha : CsFit a.r5) (hb : CsFit b.r5) : ∀ (d i : Nat) (s : Int), d + i = ms.length → -300000 * (i : Int) ≤ s → s ≤ 300000 * (i : Int) →
    Ev (fun k => U.match_Weight.l0 k s ms (ms.length : Int) (i : Int) a.r0 a.r1 a.r2 a.r3 a.r4 a.r5 b.r0 b.r1 b.r2 b.r3 b.r4 b.r5) (s + ((ms.drop i).map fun m => addS m a.r3 b.r3 a.r5 b.r5).sum)
  | 0, i, s, hd, h1, h2 => by
    rw [List.drop_of_length_le (by omega)]
    refine Ev.step (f := fun _ => some _) (fun k => ?_) (Ev.now _)
    simp only [U.match_Weight.l0]
    rw [if_neg (by omega)]
    simp
  | d + 1, i, s, hd, h1, h2 => by
    have hi : i < ms.length := by omega
    have hr : rd_T24 ms (i : Int) = ms[i] := by simp [rd_T24, List.getD_eq_getElem?_getD, hi]
    have hT := h _ (List.getElem_mem hi)
    have hb1 := add_bound ms[i] a.r3 b.r3 a.r5 b.r5
    have ih := weight_l ms hl h a b ha hb d (i + 1) (s + addS ms[i] a.r3 b.r3 a.r5 b.r5) (by omega) (by omega) (by omega)
    rw [List.drop_eq_getElem_cons hi, List.map_cons, List.sum_cons, ← Int.add_assoc]
    refine Ev.step (fun k => by simp only [U.match_Weight.l0]; rw [if_pos (by omega), if_pos (by omega), if_pos (by omega), hr, wrap_succ _ (by omega)]) (Ev.bind (about_f ms[i].f0 ms[i].f1 ms[i].f2 ms[i].f3 hT a b) ?_)
    have hwp : ∀ x : Int, -1000000000 ≤ x → x ≤ 1000000000 → wrap64 x = x := fun x y z => by unfold wrap64; omega
    unfold addS at ih hb1 ⊢
    cases hA : aboutB ms[i].f1 ms[i].f2 ms[i].f3 a.r3 b.r3 with
    | false =>
      rw [hA, if_neg (by decide), Int.add_zero] at ih
      rw [if_neg (by decide), Int.add_zero]
      exact Ev.congr (fun k => by rw [if_neg (by decide)]) ih
    | true =>
      rw [hA, if_pos rfl] at ih hb1
      rw [if_pos rfl]
      refine Ev.congr (fun k => by rw [if_pos rfl]) (Ev.bind (score_f ms[i].f0 ms[i].f1 ms[i].f2 ms[i].f3 hT a b ha hb) ?_)
      rw [hwp ((scoreS ms[i].f1 ms[i].f2 ms[i].f3 a.r3 b.r3 a.r5 b.r5).1 - ms[i].f2) (by omega) (by omega), hwp _ (by omega) (by omega)]
      exact ih
theorem weight_f (ms : List Ma) (hl : ms.length ≤ 1000) (h : ∀ m ∈ ms, TsOk m.f3) (a b : Rec) (ha : CsFit a.r5) (hb : CsFit b.r5) : Ev (fun k => U.match_Weight.f k ms a.r0 a.r1 a.r2 a.r3 a.r4 a.r5 b.r0 b.r1 b.r2 b.r3 b.r4 b.r5) (weightS ms a.r3 b.r3 a.r5 b.r5) := by
  have := weight_l ms hl h a b ha hb ms.length 0 0 (by omega) (by omega) (by omega)
  rw [Int.zero_add] at this
  exact this
end Go.Proofs.YtiffkknhnmpgbaaDoor.Pure
end

section
/- Match in plain values: the sizes (Few), and what the reference holds for valid. -/
namespace Go.Proofs.YtiffkknhnmpgbaaDoor.Pure
open Go Go.RowKit Go.Proofs.YtiffkknhnmpgbaaDoor.Q Go.Proofs.YtiffkknhnmpgbaaDoor.R Go.Proofs.YtiffkknhnmpgbaaDoorW.PrintWords Go.Proofs.YtiffkknhnmpgbaaDoorW.PrintLast Go.Proofs.YtiffkknhnmpgbaaDoorW.PrintMore
set_option linter.unusedVariables false
set_option linter.unusedSimpArgs false
theorem few_l2 (rs : List Rc) (i : Nat) (hi : i < rs.length) (hl : rs[i].f3.length ≤ 14) (b : Bool) (P : Prop) (hn : Ev (fun k => cleanseref20_Few.l1 k rs (wrap64 ((i : Int) + 1))) b) :
    ∀ (d j : Nat), d + j = rs[i].f3.length → ∃ c, Ev (fun k => cleanseref20_Few.l2 k rs (i : Int) (j : Int)) c ∧ (c = true → b = true ∧ ∀ x ∈ rs[i].f3.drop j, x.f0.f2.size ≤ 210) := by
  have hr : rd_T29 rs (i : Int) = rs[i] := by simp [rd_T29, List.getD_eq_getElem?_getD, hi]
  intro d
  induction d with
  | zero =>
    intro j hd
    refine ⟨b, Ev.step (fun k => by simp only [cleanseref20_Few.l2]; rw [if_pos (by omega), if_pos (by omega), hr, if_neg (by omega)]) hn, fun h => ⟨h, fun x hx => ?_⟩⟩
    rw [List.drop_of_length_le (by omega)] at hx
    cases hx
  | succ d ih =>
    intro j hd
    have hj : j < rs[i].f3.length := by omega
    have hc : rd_T50 rs[i].f3 (j : Int) = rs[i].f3[j] := by simp [rd_T50, List.getD_eq_getElem?_getD, hj]
    by_cases h1 : ((rs[i].f3[j].f0.f2.size : Nat) : Int) > 210
    · exact ⟨false, Ev.step (f := fun _ => some false) (fun k => by simp only [cleanseref20_Few.l2]; rw [if_pos (by omega), if_pos (by omega), hr, if_pos (by omega), if_pos (by omega), hc, if_pos h1]) (Ev.now _), fun h => by cases h⟩
    · obtain ⟨c, hc1, hc2⟩ := ih (j + 1) (by omega)
      refine ⟨c, Ev.step (fun k => by simp only [cleanseref20_Few.l2]; rw [if_pos (by omega), if_pos (by omega), hr, if_pos (by omega), if_pos (by omega), hc, if_neg h1, wrap_succ _ (by omega)]) hc1, fun h => ⟨(hc2 h).1, fun x hx => ?_⟩⟩
      rw [List.drop_eq_getElem_cons hj] at hx
      rcases List.mem_cons.1 hx with rfl | hx
      · omega
      · exact (hc2 h).2 x hx
theorem few_l1 (rs : List Rc) (hn : rs.length < 100000) : ∀ (d i : Nat), d + i = rs.length → ∃ c, Ev (fun k => cleanseref20_Few.l1 k rs (i : Int)) c ∧ (c = true → ∀ r ∈ rs.drop i, Short r.f3)
  | 0, i, hd => ⟨true, Ev.step (f := fun _ => some true) (fun k => by simp only [cleanseref20_Few.l1]; rw [if_neg (by omega)]) (Ev.now _), fun _ r hr => by
      rw [List.drop_of_length_le (by omega)] at hr
      cases hr⟩
  | d + 1, i, hd => by
    have hi : i < rs.length := by omega
    have hr : rd_T29 rs (i : Int) = rs[i] := by simp [rd_T29, List.getD_eq_getElem?_getD, hi]
    obtain ⟨b, hb1, hb2⟩ := few_l1 rs hn d (i + 1) (by omega)
    by_cases h1 : ((rs[i].f3.length : Nat) : Int) > 14
    · exact ⟨false, Ev.step (f := fun _ => some false) (fun k => by simp only [cleanseref20_Few.l1]; rw [if_pos (by omega), if_pos (by omega), hr, if_pos h1]) (Ev.now _), fun h => by cases h⟩
    · obtain ⟨c, hc1, hc2⟩ := few_l2 rs i hi (by omega) b True (by rw [wrap_succ _ (by omega)]; exact hb1) rs[i].f3.length 0 (by omega)
      refine ⟨c, Ev.step (fun k => by simp only [cleanseref20_Few.l1]; rw [if_pos (by omega), if_pos (by omega), hr, if_neg h1]; rfl) hc1, fun h r hr2 => ?_⟩
      rw [List.drop_eq_getElem_cons hi] at hr2
      obtain ⟨e1, e2⟩ := hc2 h
      rcases List.mem_cons.1 hr2 with rfl | hr2
      · exact ⟨by omega, by simpa using e2⟩
      · exact hb2 e1 r hr2
theorem few_l0 (ms : List Ma) (rs : List Rc) (hm : ms.length ≤ 8) (hn : rs.length < 100000) : ∀ (d i : Nat), d + i = ms.length → ∃ c, Ev (fun k => cleanseref20_Few.l0 k ms rs (i : Int)) c ∧ (c = true → (∀ m ∈ ms.drop i, m.f3.length ≤ 20) ∧ ∀ r ∈ rs, Short r.f3)
  | 0, i, hd => by
    obtain ⟨b, hb1, hb2⟩ := few_l1 rs hn rs.length 0 (by omega)
    refine ⟨b, Ev.step (fun k => by simp only [cleanseref20_Few.l0]; rw [if_neg (by omega)]; rfl) hb1, fun h => ⟨fun m hm2 => ?_, by simpa using hb2 h⟩⟩
    rw [List.drop_of_length_le (by omega)] at hm2
    cases hm2
  | d + 1, i, hd => by
    have hi : i < ms.length := by omega
    have hr : rd_T24 ms (i : Int) = ms[i] := by simp [rd_T24, List.getD_eq_getElem?_getD, hi]
    obtain ⟨b, hb1, hb2⟩ := few_l0 ms rs hm hn d (i + 1) (by omega)
    by_cases h1 : ((ms[i].f3.length : Nat) : Int) > 20
    · exact ⟨false, Ev.step (f := fun _ => some false) (fun k => by simp only [cleanseref20_Few.l0]; rw [if_pos (by omega), if_pos (by omega), hr, if_pos h1]) (Ev.now _), fun h => by cases h⟩
    · refine ⟨b, Ev.step (fun k => by simp only [cleanseref20_Few.l0]; rw [if_pos (by omega), if_pos (by omega), hr, if_neg h1, wrap_succ _ (by omega)]) hb1, fun h => ?_⟩
      obtain ⟨e1, e2⟩ := hb2 h
      refine ⟨fun m hm2 => ?_, e2⟩
      rw [List.drop_eq_getElem_cons hi] at hm2
      rcases List.mem_cons.1 hm2 with rfl | hm2
      · omega
      · exact e1 m hm2
theorem few_f2 (ms : List Ma) (rs : List Rc) (n : Int) (hn : n < 100000) : ∃ c, Ev (fun k => cleanseref20_Few.f k ms rs n) c ∧ (c = true → ms.length ≤ 8 ∧ (rs.length : Int) ≤ n ∧ (∀ m ∈ ms, m.f3.length ≤ 20) ∧ ∀ r ∈ rs, Short r.f3) := by
  unfold cleanseref20_Few.f
  by_cases h1 : (ms.length : Int) > 8
  · exact ⟨false, Ev.congr (fun k => by rw [if_pos h1]) (Ev.step (f := fun _ => some false) (fun k => by simp only [cleanseref20_Few.j0]; rw [if_pos trivial]) (Ev.now _)), fun h => by cases h⟩
  · by_cases h2 : (rs.length : Int) > n
    · exact ⟨false, Ev.congr (fun k => by rw [if_neg h1, decide_eq_true h2]) (Ev.step (f := fun _ => some false) (fun k => by simp only [cleanseref20_Few.j0]; rw [if_pos trivial]) (Ev.now _)), fun h => by cases h⟩
    · obtain ⟨b, hb1, hb2⟩ := few_l0 ms rs (by omega) (by omega) ms.length 0 (by omega)
      refine ⟨b, Ev.congr (fun k => by rw [if_neg h1, decide_eq_false h2]) (Ev.step (fun k => by simp only [cleanseref20_Few.j0]; rw [if_neg (by decide)]; rfl) hb1), fun h => ?_⟩
      obtain ⟨e1, e2⟩ := hb2 h
      exact ⟨by omega, by omega, by simpa using e1, e2⟩
theorem refV_l0 (m0 : ByteArray) (m1 m2 : Int) (l : List Wg) (hl : l.length ≤ 200) (h : TsOk l) : ∀ (d i : Nat), d + i = l.length → Ev (fun k => cleanseref20_Valid.l0 k (i : Int) m0 m1 m2 l) ((l.drop i).all goodB)
  | 0, i, hd => by
    rw [List.drop_of_length_le (by omega)]
    exact Ev.step (f := fun _ => some true) (fun k => by simp only [cleanseref20_Valid.l0]; rw [if_neg (by omega)]) (Ev.now _)
  | d + 1, i, hd => by
    have hi : i < l.length := by omega
    have hr : rd_T43 l (i : Int) = l[i] := by simp [rd_T43, List.getD_eq_getElem?_getD, hi]
    have ih := refV_l0 m0 m1 m2 l hl h d (i + 1) (by omega)
    have hT := h _ (List.getElem_mem hi)
    rw [List.drop_eq_getElem_cons hi, List.all_cons]
    generalize (l.drop (i + 1)).all goodB = rest at ih ⊢
    generalize l[i] = t at hr hT ⊢
    have j2 : ∀ b : Bool, Ev (fun k => cleanseref20_Valid.j2 k (i : Int) b m0 m1 m2 l t.f0 t.f1 t.f2 t.f3.f0 t.f3.f1 t.f4 t.f5) (!b && (rvB t.f3.f0 t.f3.f1 && (decide (0 ≤ t.f3.f0) && decide (t.f3.f0 ≤ t.f3.f1)) && (decide (0 ≤ t.f4) && decide (t.f4 ≤ 1000)) && (decide (0 ≤ t.f5) && decide (t.f5 ≤ 1000))) && rest) := by
      intro b
      cases b with
      | true => exact Ev.step (f := fun _ => some false) (fun k => by simp only [cleanseref20_Valid.j2]; rw [if_pos trivial]) (Ev.now _)
      | false =>
        refine Ev.step (fun k => by simp only [cleanseref20_Valid.j2]; rw [if_neg (by decide)]) (Ev.bind (refValid_f _ _ hT.n hT.d) ?_)
        cases rvB t.f3.f0 t.f3.f1 with
        | false => exact Ev.congr (f := fun _ => some false) (fun k => by rw [if_neg (by decide)]) (Ev.now _)
        | true =>
          refine Ev.congr (fun k => by rw [if_pos rfl]) ?_
          have F : ∀ (c : Prop) [Decidable c] (e : Bool), e = false → c → Ev (fun k => if c then some false else cleanseref20_Valid.l0 k (i : Int) m0 m1 m2 l) e := fun c _ e he hc => by subst he; exact Ev.congr (f := fun _ => some false) (fun k => by rw [if_pos hc]) (Ev.now _)
          by_cases a1 : t.f3.f0 < 0
          · rw [show decide (0 ≤ t.f3.f0) = false from decide_eq_false (by omega)]
            exact Ev.congr (f := fun _ => some false) (fun k => by rw [if_pos a1]) (Ev.now _)
          · rw [show decide (0 ≤ t.f3.f0) = true from decide_eq_true (by omega)]
            by_cases a2 : t.f3.f0 > t.f3.f1
            · rw [show decide (t.f3.f0 ≤ t.f3.f1) = false from decide_eq_false (by omega)]
              exact Ev.congr (f := fun _ => some false) (fun k => by rw [if_neg a1, if_pos a2]) (Ev.now _)
            · rw [show decide (t.f3.f0 ≤ t.f3.f1) = true from decide_eq_true (by omega)]
              by_cases a3 : t.f4 < 0
              · rw [show decide (0 ≤ t.f4) = false from decide_eq_false (by omega)]
                exact Ev.congr (f := fun _ => some false) (fun k => by rw [if_neg a1, if_neg a2, if_pos a3]) (Ev.now _)
              · rw [show decide (0 ≤ t.f4) = true from decide_eq_true (by omega)]
                by_cases a4 : t.f4 > 1000
                · rw [show decide (t.f4 ≤ 1000) = false from decide_eq_false (by omega)]
                  exact Ev.congr (f := fun _ => some false) (fun k => by rw [if_neg a1, if_neg a2, if_neg a3, if_pos a4]) (Ev.now _)
                · rw [show decide (t.f4 ≤ 1000) = true from decide_eq_true (by omega)]
                  by_cases a5 : t.f5 < 0
                  · rw [show decide (0 ≤ t.f5) = false from decide_eq_false (by omega)]
                    exact Ev.congr (f := fun _ => some false) (fun k => by rw [if_neg a1, if_neg a2, if_neg a3, if_neg a4, if_pos a5]) (Ev.now _)
                  · rw [show decide (0 ≤ t.f5) = true from decide_eq_true (by omega)]
                    by_cases a6 : t.f5 > 1000
                    · rw [show decide (t.f5 ≤ 1000) = false from decide_eq_false (by omega)]
                      exact Ev.congr (f := fun _ => some false) (fun k => by rw [if_neg a1, if_neg a2, if_neg a3, if_neg a4, if_neg a5, if_pos a6]) (Ev.now _)
                    · rw [show decide (t.f5 ≤ 1000) = true from decide_eq_true (by omega)]
                      exact Ev.congr (fun k => by rw [if_neg a1, if_neg a2, if_neg a3, if_neg a4, if_neg a5, if_neg a6, wrap_succ _ (by omega)]) ih
    have e : (goodB t && rest) = (!(!((decide (1 ≤ t.f1) && decide (t.f1 ≤ 5)) && (decide (0 ≤ t.f2) && decide (t.f2 ≤ 1000000000)))) && (rvB t.f3.f0 t.f3.f1 && (decide (0 ≤ t.f3.f0) && decide (t.f3.f0 ≤ t.f3.f1)) && (decide (0 ≤ t.f4) && decide (t.f4 ≤ 1000)) && (decide (0 ≤ t.f5) && decide (t.f5 ≤ 1000))) && rest) := by
      unfold goodB
      generalize rvB t.f3.f0 t.f3.f1 = b1
      generalize (decide (0 ≤ t.f3.f0) && decide (t.f3.f0 ≤ t.f3.f1)) = b2
      generalize (decide (1 ≤ t.f1) && decide (t.f1 ≤ 5)) = b3
      generalize (decide (0 ≤ t.f2) && decide (t.f2 ≤ 1000000000)) = b4
      generalize (decide (0 ≤ t.f4) && decide (t.f4 ≤ 1000)) = b5
      generalize (decide (0 ≤ t.f5) && decide (t.f5 ≤ 1000)) = b6
      cases b1 <;> cases b2 <;> cases b3 <;> cases b4 <;> cases b5 <;> cases b6 <;> rfl
    rw [e]
    refine Ev.step (fun k => by simp only [cleanseref20_Valid.l0]; rw [if_pos (by omega), if_pos (by omega), hr]) ?_
    by_cases b1 : t.f1 < 1
    · have := j2 true
      rw [show (decide (1 ≤ t.f1) && decide (t.f1 ≤ 5)) = false by rw [decide_eq_false (by omega)]; rfl]
      exact Ev.congr (fun k => by rw [if_pos b1]) this
    · by_cases b2 : t.f1 > 5
      · have := j2 true
        rw [show (decide (1 ≤ t.f1) && decide (t.f1 ≤ 5)) = false by rw [Bool.and_comm, decide_eq_false (by omega)]; rfl]
        exact Ev.congr (fun k => by rw [if_neg b1, if_pos b2]) this
      · rw [show (decide (1 ≤ t.f1) && decide (t.f1 ≤ 5)) = true by rw [decide_eq_true (by omega), decide_eq_true (by omega)]; rfl]
        by_cases b3 : t.f2 < 0
        · have := j2 true
          rw [show (decide (0 ≤ t.f2) && decide (t.f2 ≤ 1000000000)) = false by rw [decide_eq_false (by omega)]; rfl]
          exact Ev.congr (fun k => by rw [if_neg b1, if_neg b2, if_pos b3]) this
        · have := j2 (decide (t.f2 > 1000000000))
          rw [show (decide (0 ≤ t.f2) && decide (t.f2 ≤ 1000000000)) = !decide (t.f2 > 1000000000) by
            rw [decide_eq_true (show 0 ≤ t.f2 by omega), Bool.true_and, ← decide_not]
            exact decide_eq_decide.2 (by omega)]
          rw [Bool.true_and, Bool.not_not]
          exact Ev.congr (fun k => by rw [if_neg b1, if_neg b2, if_neg b3]) this
theorem refV_f (m0 : ByteArray) (m1 m2 : Int) (l : List Wg) (h : TsOk l) : Ev (fun k => cleanseref20_Valid.f k m0 m1 m2 l) (validB m2 l) := by
  have j0 : ∀ b : Bool, (b = false → l.length ≤ 200) → Ev (fun k => cleanseref20_Valid.j0 k b m0 m1 m2 l) (!b && l.all goodB) := by
    intro b hb
    cases b with
    | true => exact Ev.step (f := fun _ => some false) (fun k => by simp only [cleanseref20_Valid.j0]; rw [if_pos trivial]) (Ev.now _)
    | false =>
      have := refV_l0 m0 m1 m2 l (hb rfl) h l.length 0 (by omega)
      exact Ev.step (fun k => by simp only [cleanseref20_Valid.j0]; rw [if_neg (by decide)]; rfl) this
  unfold cleanseref20_Valid.f validB
  by_cases h1 : m2 < 0
  · rw [decide_eq_false (show ¬ 0 ≤ m2 by omega)]
    exact Ev.congr (fun k => by rw [if_pos h1]) (j0 true (fun h => by cases h))
  · rw [decide_eq_true (show 0 ≤ m2 by omega)]
    by_cases h2 : m2 > 10000
    · rw [decide_eq_false (show ¬ m2 ≤ 10000 by omega)]
      exact Ev.congr (fun k => by rw [if_neg h1, if_pos h2]) (j0 true (fun h => by cases h))
    · rw [decide_eq_true (show m2 ≤ 10000 by omega), show decide ((l.length : Int) ≤ 200) = !decide ((l.length : Int) > 200) by rw [← decide_not]; exact decide_eq_decide.2 (by omega)]
      exact Ev.congr (fun k => by rw [if_neg h1, if_neg h2]) (j0 (decide ((l.length : Int) > 200)) (fun h => by simp at h; omega))
theorem refAbout_f (m0 : ByteArray) (m1 m2 : Int) (l : List Wg) (h : TsOk l) (a b : Rec) : Ev (fun k => cleanseref20_About.f k m0 m1 m2 l a.r0 a.r1 a.r2 a.r3 a.r4 a.r5 b.r0 b.r1 b.r2 b.r3 b.r4 b.r5) (aboutB m1 m2 l a.r3 b.r3) := by
  unfold cleanseref20_About.f aboutB
  refine Ev.bind (refV_f m0 m1 m2 l h) ?_
  cases validB m2 l with
  | false => rw [Bool.and_false]; exact Ev.congr (f := fun _ => some false) (fun k => by rw [if_neg (by decide)]) (Ev.now _)
  | true =>
    rw [Bool.and_true]
    by_cases h1 : m1 = a.r3
    · rw [decide_eq_true h1, Bool.true_and]
      refine Ev.congr (f := fun _ => some (decide (m1 = b.r3))) (fun k => ?_) (Ev.now _)
      rw [if_pos rfl, if_pos h1.symm]
      congr 1
      by_cases h2 : m1 = b.r3
      · rw [h2]; simp
      · rw [decide_eq_false h2]
        exact beq_false_of_ne (fun e => h2 e.symm)
    · rw [decide_eq_false h1, Bool.false_and]
      exact Ev.congr (f := fun _ => some false) (fun k => by rw [if_pos rfl, if_neg (fun e => h1 e.symm)]) (Ev.now _)
end Go.Proofs.YtiffkknhnmpgbaaDoor.Pure
end
