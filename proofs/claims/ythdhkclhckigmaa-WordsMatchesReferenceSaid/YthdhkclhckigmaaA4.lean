/- slices.AppendSeq and slices.Collect over the words of a text. -/
import Derived.Test.YthdhkclhckigmaaA3
namespace Go.Proofs.Ythdhkclhckigmaa
open Go Go.RowKit Go.Shelf Go.Proofs.YthdhkclhckigmaaW.PrintWords
attribute [local go_sem] Oper.semAt_some
set_option linter.unusedVariables false
set_option linter.unusedSimpArgs false

theorem Kinfo9 : (Try.prog.info? 9).map (fun i => (i.zero, i.size, i.bytes)) = some (some (.string ⟨#[]⟩), 1, 16) := by kernel_rfl
abbrev encW (x : List UInt8) : Value := .string (ofL x)

theorem ownsRow_abides {β : Type} {S : Nat → Obj → Prop} {n₀ B : Nat} {t e : TypeId} {w : World} (f : β → List Value) (k : β → Nat) (hn : n₀ ≤ w.heap.size)
    (hB : ∀ v, ¬ S B (.cells #[v] t (0, 0))) (he : ∀ j cur, ¬ S j (.cells cur e (0, 0))) (hlo : ∀ j o, j < n₀ → ¬ S j o) :
    AbidesT S (fun (s : β) W => (∃ v, Boxed W B t v ∧ W.ownsRow n₀ e 1 v (k s) (f s)) ∧ Below n₀ w W) := by
  rintro s W W' ⟨⟨v, hv, hr⟩, hb⟩ ht
  exact ⟨⟨v, Boxed.turn hv ht (hB v), ownsRow_turn hr ht (fun j cur _ => he j cur)⟩, below_turn hb ht hn hlo⟩

theorem keeps_append {T : Nat → Obj → Prop} {W w1 : World} {n₀ : Nat} {e : TypeId} {size : Nat} {v : Value} {k : Nat} {xs : List Value} {tmp : Obj} (hrow : W.ownsRow n₀ e size v k xs) (hg : (W.alloc tmp).grownBy w1 v.ownBlock)
    (hT : ∀ g cur, n₀ ≤ g → ¬ T g (.cells cur e (0, 0))) : Keeps T W w1 :=
  (Keeps.alloc W tmp).trans (Keeps.of_grownBy hg (fun j o ej ho => by
    rcases (hrow.alloc tmp).2 with ⟨rfl, _⟩ | ⟨g, cap, cur, rfl, hb, hgb, _⟩
    · simp [Value.ownBlock] at ej
    · obtain rfl : g = j := by simpa [Value.ownBlock] using ej
      rw [hgb] at ho; cases ho
      exact hT g _ hb))

set_option maxHeartbeats 1000000 in
theorem appendSeq_in (n gf : Nat) (hn : 3 ≤ n) (lb : Array Value) (eg : ∀ args w, (callFunc gf args).run Try.prog w = .ok (.enter gf args) w) (Kb : Nat → Prop) (xs : List (List UInt8)) (w : World) (hKb : ∀ k, Kb k → k < w.heap.size)
    (hlen : xs.length ≤ 1000000) (hseq : ∀ m, SeqT Fence.wide m Try.prog gf lb (fun x : List UInt8 => #[encW x]) IterTs Kb xs w) :
    CallsIn Fence.wide n Try.prog 33 #[.slice none 0 0, .func (.func gf) #[] lb] w fun e w' => ∃ v, e = .returned v ∧ w'.ownsRow w.heap.size 9 1 v xs.length (xs.map encW) ∧ Below w.heap.size w w' := by
  have h1 : 1 ≤ n := by omega
  obtain ⟨i9, hi, hz⟩ := Option.map_eq_some_iff.1 Kinfo9
  simp only [Prod.mk.injEq] at hz
  obtain ⟨iz0, iz1, iz2⟩ := hz
  refine callsIn_of_wp_marks Try.func33 rfl trivial ?_ rfl
  simp only [Try.ntmps33, List.size_toArray, List.length_cons, List.length_nil, Nat.reduceAdd, Nat.reduceSub, Array.replicate_succ, Array.replicate_zero, List.push_toArray, List.append_toArray, List.nil_append, List.cons_append]
  gi_wp2
  refine wpIn_rangeFunc_T (gf := gf) (lb := lb) rfl h1 rfl trivial eg (hseq (n - 1)) ((Below.refl _ w).alloc (Nat.le_refl _) _) (fun k hk => by have := hKb k hk; simp; omega) (fun _ => rfl)
    (fun pre W => (∃ v, Boxed W w.heap.size 22 v ∧ W.ownsRow w.heap.size 9 1 v pre.length (pre.map encW)) ∧ Below w.heap.size w W)
    (ownsRow_abides (fun pre : List (List UInt8) => pre.map encW) List.length (Nat.le_refl _) (fun v h => not_NcS_cells h) (fun j cur h => not_NcS_cells h) (fun j o hj h => by have := h.1; simp at this; omega))
    (ownsRow_abides (fun pre : List (List UInt8) => pre.map encW) List.length (Nat.le_refl _) (fun v h => absurd (TyS.cells.1 h).2 (by decide)) (fun j cur h => absurd (TyS.cells.1 h).2 (by decide)) (fun j o hj h => by have := h.1; simp at this; omega))
    ⟨⟨_, Boxed.new w 22 _, World.ownsRow_nil _ _ _ _⟩, (Below.refl _ w).alloc (Nat.le_refl _) _⟩
    (fun x => { tmps := #[.slice none 0 0, .func (.func gf) #[] lb, .pointer (some ⟨w.heap.size, 0, none⟩), undef, .slice none 0 0, encW x, .func (.func gf) #[] lb, encW x, undef, undef, undef, undef, undef], defers := [] }) ?assign ?body ?done
  case assign =>
    intro l x W K hK
    gi_wp2
    exact hK
  case body =>
    rintro l pre x W ⟨⟨v, hv, hrow⟩, hb⟩ hpre
    have hpl : pre.length + 1 ≤ 1000000 := by have := hpre.length_le; simp at this; omega
    have hvc := hv.cell
    gi_wp2_with (gi_at_builtin; refine wpListIn_append_own _ rfl _ _ 22 rfl w.heap.size 9 i9 (.string ⟨#[]⟩) 1 16 Try.underlying22 hi iz0 iz1 iz2 rfl (by decide) _ _ _ rfl (hrow.alloc _) ⟨W.heap.size, 0, none⟩ 1 1 [encW x] rfl rfl (cell_one_new _ _ _) (by simp [Value.oneCell', encW]) (by simp only [maxLen]; omega) (by omega) (by have := hb.size; simp; omega) ?_; intro v' w1 hown' hgrow _; obtain ⟨g', cap', rfl⟩ := ownsRow_succ hown'; obtain ⟨hv1, hv2, hr2, hk2, hb2⟩ := hv.appended (by decide) hrow hb.size (Nat.le_refl _) hown' hgrow; have hc1 := hv1.cell; have hf1 := hv1.frozen)
    refine ⟨(keeps_append hrow hgrow (fun g cur hg => ?_)).trans (Keeps.box _ hv1 ?_), ⟨_, hv2, by simpa using hr2⟩, hb.trans hb2⟩
    · rintro (h | h | h)
      · exact not_NcS_cells h
      · have := hKb _ h; omega
      · exact absurd (TyS.cells.1 h).2 (by decide)
    · rintro (h | h | h)
      · exact not_NcS_cells h
      · have := hKb _ h; omega
      · exact absurd (TyS.cells.1 h).2 (by decide)
  case done =>
    rintro D W hD ⟨⟨v, hv, hrow⟩, hb⟩ hK
    have hvc := hv.cell
    simp at hD
    gi_wp2
    refine ⟨by simp, .inl ⟨_, _, rfl, run_takeDeferred hK, ?_⟩⟩
    exact ⟨_, results_tmp rfl _ _ _, v, rfl, ownsRow_putObj hrow _ hK rfl, hb.trans (belowK_b (w := w) (Nat.le_refl _) W D _ _ (by omega) hK rfl rfl)⟩

end Go.Proofs.Ythdhkclhckigmaa
