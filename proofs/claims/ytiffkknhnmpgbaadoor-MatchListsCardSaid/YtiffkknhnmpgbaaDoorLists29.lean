/- Parts of the proof of Lists: words, contracts and plain laws. -/
import Derived.Test.YtiffkknhnmpgbaaDoorLists4
import Derived.Test.YtiffkknhnmpgbaaDoorLists28
namespace Go.Proofs.YtiffkknhnmpgbaaDoor.R
end Go.Proofs.YtiffkknhnmpgbaaDoor.R
/- The closure of match.Edges: it compares two edges by their two ends; it lays blocks of its own and draws. -/
namespace Go.Proofs.YtiffkknhnmpgbaaDoor
open Go Go.RowKit Go.Sort Go.Proofs.YtiffkknhnmpgbaaDoor.R Go.Proofs.YtiffkknhnmpgbaaDoorW.PrintWords Go.Proofs.YtiffkknhnmpgbaaDoorW.PrintLast Go.Proofs.YtiffkknhnmpgbaaDoorW.PrintMore
set_option linter.unusedVariables false
set_option linter.unusedSimpArgs false
def cmpI (a b : Int) : Int := if a < b then -1 else if a > b then 1 else 0
def cmpP (p q : Int × Int) : Int := if cmpI p.1 q.1 = 0 then cmpI p.2 q.2 else cmpI p.1 q.1
theorem compare_f (a b : Int) : U.cmp_Compare_int.f a b = some (cmpI a b) := by
  have e : ∀ x : Int, (x != x) = false := fun x => by simp
  simp only [U.cmp_Compare_int.f, U.cmp_isNaN_int.f, e, Option.bind_some, cmpI]
  by_cases h1 : a < b
  · simp [h1]
  · by_cases h2 : a > b <;> simp [h1, h2]
theorem or_f (a b : Int) : U.cmp_Or_int.f 3 [a, b] = some (if a = 0 then b else a) := by
  have r0 : rd [a, b] 0 = a := rfl
  have r1 : rd [a, b] 1 = b := rfl
  have w1 : wrap64 (0 + 1) = 1 := by simp [wrap64]
  have w2 : wrap64 (1 + 1) = 2 := by simp [wrap64]
  unfold U.cmp_Or_int.f
  simp only [U.cmp_Or_int.l0, List.length_cons, List.length_nil, r0, r1, w1, w2]
  by_cases h1 : a = 0
  · by_cases h2 : b = 0 <;> simp [h1, h2, r1]
  · simp [h1]
theorem compare_calls (a b : Int) (W : World) (n : Nat) : Calls Tryd.prog 30 #[.int .i64 a, .int .i64 b] (W.drewN n) fun e w'' => e = .returned (.int .i64 (cmpI a b)) ∧ ∃ m, w'' = W.drewN m :=
  (U.cmp_Compare_int.calls a b _ (W.drewN n) (compare_f a b)).mono fun e w'' ⟨he, m, hm⟩ => ⟨he, n + m, by rw [hm, World.drewN_drewN]⟩
theorem or_calls (a b : Int) (W : World) (g c : Nat) (e : TypeId) (h : W.heap[g]? = some (.cells #[.int .i64 a, .int .i64 b] e (0, 0))) (hc : 2 ≤ c) :
    Calls Tryd.prog 29 #[.slice (some ⟨g, 0, none⟩) 2 c] W fun e w' => e = .returned (.int .i64 (if a = 0 then b else a)) ∧ ∃ m, w' = W.drewN m := by
  have hr : Kd.C (Kd.int .i64) W (some ⟨g, 0, none⟩) 2 [a, b] := Kd.C_of_reads (d := (0 : Int)) ⟨rfl, by omega, fun _ => ⟨_, rfl, fun j hj => by
    match j, hj with
    | 0, _ => exact (blk_cell h 0).trans rfl
    | 1, _ => exact (blk_cell h 1).trans rfl⟩⟩
  refine (U.cmp_Or_int.calls 3 _ c [a, b] _ W hr hc (or_f a b)).mono ?_
  rintro e w' ⟨rfl, m, rfl⟩
  exact ⟨rfl, m, rfl⟩
theorem two_blocks (W : World) (o1 o2 : Obj) : (W.alloc o1).alloc o2 = grow W #[o1, o2] ∧ ((W.alloc o1).alloc o2).heap[W.heap.size]? = some o1 ∧ ((W.alloc o1).alloc o2).heap[W.heap.size + 1]? = some o2 := by
  have e : (W.alloc o1).alloc o2 = grow W #[o1, o2] := by rw [alloc_eq_grow, alloc_eq_grow, grow_grow]; rfl
  refine ⟨e, ?_, ?_⟩ <;> rw [e] <;> simp [grow, Array.getElem?_append]
theorem grown_last (W : World) (os : Array Obj) (n m : Nat) (o : Obj) : ((((grow W os).drewN n).alloc o).drewN m) = grow (W.drewN (n + m)) (os.push o) := by
  rw [alloc_eq_grow]
  simp [grow, World.drewN, Nat.add_assoc]
theorem grown_ex {W W2 W3 : World} {os : Array Obj} {n : Nat} (h2 : W2 = grow W os) (h3 : W2.drewN n = W3) (m : Nat) (o : Obj) : ∃ q os', (W3.alloc o).drewN m = grow (W.drewN q) os' :=
  ⟨n + m, os.push o, by rw [← h3, h2]; exact grown_last W os n m o⟩
theorem last_block (W : World) (o : Obj) : (W.alloc o).heap[W.heap.size]? = some o := blk_new W o
set_option maxRecDepth 100000 in
set_option maxHeartbeats 4000000 in
theorem edge_cmp (a0 a1 a2 b0 b1 b2 : Int) (W : World) :
    Calls Tryd.prog 28 #[.agg #[.int .i64 a0, .int .i64 a1, .int .i64 a2], .agg #[.int .i64 b0, .int .i64 b1, .int .i64 b2]] W fun e w' => e = .returned (.int .i64 (cmpP (a0, a1) (b0, b1))) ∧ ∃ q os', w' = grow (W.drewN q) os' := by
  have cc := compare_calls
  have hcp : cmpP (a0, a1) (b0, b1) = if cmpI a0 b0 = 0 then cmpI a1 b1 else cmpI a0 b0 := rfl
  rw [hcp]
  clear hcp
  generalize hd0 : cmpI a0 b0 = d0
  generalize hd1 : cmpI a1 b1 = d1
  have c0 := cc a0 b0
  have c1 := cc a1 b1
  rw [hd0] at c0
  rw [hd1] at c1
  clear hd0 hd1 cc
  obtain ⟨dd, hdd⟩ : ∃ dd, (if d0 = 0 then d1 else d0) = dd := ⟨_, rfl⟩
  rw [hdd]
  have HDD := Aside0.mk hdd
  clear hdd
  go_enter Tryd.func28, Tryd.ntmps28
  go_wp2
  obtain ⟨W2, hW2⟩ : ∃ W2, ((W.alloc (.cells #[.int .i64 a0, .int .i64 a1, .int .i64 a2] 60)).alloc (.cells #[.int .i64 b0, .int .i64 b1, .int .i64 b2] 60)) = W2 := ⟨_, rfl⟩
  have hB0 := (two_blocks W (.cells #[.int .i64 a0, .int .i64 a1, .int .i64 a2] 60) (.cells #[.int .i64 b0, .int .i64 b1, .int .i64 b2] 60)).2.1
  have hB1 := (two_blocks W (.cells #[.int .i64 a0, .int .i64 a1, .int .i64 a2] 60) (.cells #[.int .i64 b0, .int .i64 b1, .int .i64 b2] 60)).2.2
  have hgr := (two_blocks W (.cells #[.int .i64 a0, .int .i64 a1, .int .i64 a2] 60) (.cells #[.int .i64 b0, .int .i64 b1, .int .i64 b2] 60)).1
  rw [hW2] at hgr hB0 hB1
  rw [hW2]
  clear hW2
  have x0 : W2.cell? ⟨W.heap.size, 0, none⟩ = some (.int .i64 a0) := (blk_cell hB0 0).trans rfl
  have x1 : W2.cell? ⟨W.heap.size, 1, none⟩ = some (.int .i64 a1) := (blk_cell hB0 1).trans rfl
  have y0 : W2.cell? ⟨W.heap.size + 1, 0, none⟩ = some (.int .i64 b0) := (blk_cell hB1 0).trans rfl
  have y1 : W2.cell? ⟨W.heap.size + 1, 1, none⟩ = some (.int .i64 b1) := (blk_cell hB1 1).trans rfl
  clear hB0 hB1
  have hGR := Aside0.mk hgr
  clear hgr
  refine wp_region_quiet_tail (C := fun w' => ∃ n, w' = W2.drewN n) 10 (by kernel_rfl) (by kernel_rfl) ⟨1, rfl⟩ ?_
  simp only [List.take_succ_cons, List.take_zero, List.drop_succ_cons, List.drop_zero]
  repeat (quiet_step (first | with_reducible exact c0 _ _ | with_reducible exact c1 _ _))
  refine wpQuiet_nil ?_
  intro _ hw'
  obtain ⟨nq, hw''⟩ := hw'
  subst hw''
  obtain ⟨W3, hW3⟩ : ∃ W3, W2.drewN nq = W3 := ⟨_, rfl⟩
  rw [hW3]
  have HW3 := Aside0.mk hW3
  clear x0 x1 y0 y1 c0 c1 hW3
  have co := or_calls d0 d1 (W3.alloc (.cells #[.int .i64 d0, .int .i64 d1] 3)) W3.heap.size 2 3 (last_block _ _) (Nat.le_refl _)
  rw [HDD.out] at co
  go_wp2_with (go_at_call 29; with_reducible refine co.mono ?_; rintro e w' ⟨rfl, m, rfl⟩)
  refine bodyPost_ret (results_tmp rfl _ _ _) rfl ?_
  exact ⟨rfl, grown_ex hGR.out HW3.out m _⟩
end Go.Proofs.YtiffkknhnmpgbaaDoor
