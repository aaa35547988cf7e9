/- Parts of the proof of Lists: words, contracts and plain laws. -/
import Derived.RangeFuncNested
import Derived.RangeFuncBound
import Derived.RangeFuncCalls
import Derived.RangeFuncLeaves
import Derived.RangeFuncBox
import Derived.Deep.Draws
/- A law for 'for x := range f' over an iterator that keeps state of its own in cells: what the iterator may turn is told by the types of its cells. No program in sight. -/
namespace Go.Proofs.YtiffkknhnmpgbaaDoor
open Go Go.RowKit

/-- W' is W but for new blocks and for blocks of which S holds. -/
structure Turn (S : Nat → Obj → Prop) (W W' : World) : Prop where
  os : W'.os = W.os
  tape : W'.tape = W.tape
  output : W'.output = W.output
  size : W.heap.size ≤ W'.heap.size
  same : ∀ k o, W.heap[k]? = some o → ¬ S k o → W'.heap[k]? = some o

theorem Turn.refl (S : Nat → Obj → Prop) (W : World) : Turn S W W := ⟨rfl, rfl, rfl, Nat.le_refl _, fun _ _ h _ => h⟩
theorem Turn.trans {S : Nat → Obj → Prop} {A B C : World} (h : Turn S A B) (k : Turn S B C) : Turn S A C :=
  ⟨k.os.trans h.os, k.tape.trans h.tape, k.output.trans h.output, Nat.le_trans h.size k.size, fun i o hi hS => k.same i o (h.same i o hi hS) hS⟩
theorem Turn.imp {S S' : Nat → Obj → Prop} {A B : World} (h : Turn S A B) (hi : ∀ k o, S k o → S' k o) : Turn S' A B :=
  ⟨h.os, h.tape, h.output, h.size, fun k o hk hS => h.same k o hk (fun hs => hS (hi k o hs))⟩
/-- One step that writes one block. -/
theorem Turn.of_grownBy {S : Nat → Obj → Prop} {W W' : World} {row : Option Nat} (hg : W.grownBy W' row) (hr : ∀ j o, row = some j → W.heap[j]? = some o → S j o) : Turn S W W' :=
  ⟨hg.os, hg.tape, hg.output, hg.size, fun k o hk hS => (hg.block k (Array.getElem?_eq_some_iff.1 hk).1 (fun e => hS (hr k o e.symm hk))).trans hk⟩
theorem Turn.alloc {S : Nat → Obj → Prop} (W : World) (o : Obj) : Turn S W (W.alloc o) := Turn.of_grownBy (World.grownBy_alloc W o none) (fun j _ e => by cases e)
theorem Turn.drewN {S : Nat → Obj → Prop} (W : World) (n : Nat) : Turn S W (W.drewN n) := ⟨rfl, rfl, rfl, Nat.le_refl _, fun _ _ h _ => h⟩
theorem Turn.drew {S : Nat → Obj → Prop} (W : World) : Turn S W W.drew := ⟨rfl, rfl, rfl, Nat.le_refl _, fun _ _ h _ => h⟩
theorem Turn.box {S : Nat → Obj → Prop} {W : World} {B : Nat} {t : TypeId} {v : Value} (u : Value) (h : Boxed W B t v) (hS : S B (.cells #[v] t (0, 0))) : Turn S W (W.setCell ⟨B, 0, none⟩ u) :=
  Turn.of_grownBy (grownBy_setCell' W B u) (fun j o e ho => by cases e; rw [show W.heap[B]? = _ from h] at ho; cases ho; exact hS)

/-- What W' keeps of W. -/
structure Keeps (T : Nat → Obj → Prop) (W W' : World) : Prop where
  size : W.heap.size ≤ W'.heap.size
  same : ∀ k o, W.heap[k]? = some o → T k o → W'.heap[k]? = some o
theorem Keeps.refl (T : Nat → Obj → Prop) (W : World) : Keeps T W W := ⟨Nat.le_refl _, fun _ _ h _ => h⟩
theorem Keeps.trans {T : Nat → Obj → Prop} {A B C : World} (h : Keeps T A B) (k : Keeps T B C) : Keeps T A C := ⟨Nat.le_trans h.size k.size, fun i o hi hT => k.same i o (h.same i o hi hT) hT⟩
theorem Keeps.imp {T T' : Nat → Obj → Prop} {A B : World} (h : Keeps T A B) (hi : ∀ k o, T' k o → T k o) : Keeps T' A B := ⟨h.size, fun k o hk hT => h.same k o hk (hi k o hT)⟩
theorem Keeps.of_grownBy {T : Nat → Obj → Prop} {W W' : World} {row : Option Nat} (hg : W.grownBy W' row) (hr : ∀ j o, row = some j → W.heap[j]? = some o → ¬ T j o) : Keeps T W W' :=
  ⟨hg.size, fun k o hk hT => (hg.block k (Array.getElem?_eq_some_iff.1 hk).1 (fun e => hr k o e.symm hk hT)).trans hk⟩
theorem Keeps.alloc {T : Nat → Obj → Prop} (W : World) (o : Obj) : Keeps T W (W.alloc o) := Keeps.of_grownBy (World.grownBy_alloc W o none) (fun j _ e => by cases e)
theorem Keeps.box {T : Nat → Obj → Prop} {W : World} {B : Nat} {t : TypeId} {v : Value} (u : Value) (h : Boxed W B t v) (hT : ¬ T B (.cells #[v] t (0, 0))) : Keeps T W (W.setCell ⟨B, 0, none⟩ u) :=
  Keeps.of_grownBy (grownBy_setCell' W B u) (fun j o e ho => by cases e; rw [show W.heap[B]? = _ from h] at ho; cases ho; exact hT)
theorem Keeps.putObj {T : Nat → Obj → Prop} {W : World} {l : Nat} {o : Obj} (o' : Obj) (h : W.heap[l]? = some o) (hT : ¬ T l o) : Keeps T W (W.putObj l o') :=
  Keeps.of_grownBy (grownBy_putObj' W l o') (fun j o2 e ho => by cases e; rw [h] at ho; cases ho; exact hT)

/-- Cells of one of the types Ts, in a block from B on. -/
def TyS (Ts : List TypeId) (B : Nat) (k : Nat) (o : Obj) : Prop := B ≤ k ∧ ∃ cs t fr, o = .cells cs t fr ∧ t ∈ Ts
/-- No cells, in a block from B on. -/
def NcS (B : Nat) (k : Nat) (o : Obj) : Prop := B ≤ k ∧ o.isCells = false

theorem TyS.cells {Ts : List TypeId} {B k : Nat} {cs : Array Value} {t : TypeId} {fr : Nat × Nat} : TyS Ts B k (.cells cs t fr) ↔ B ≤ k ∧ t ∈ Ts := by
  constructor
  · rintro ⟨h, cs', t', fr', e, ht⟩
    cases e
    exact ⟨h, ht⟩
  · rintro ⟨h, ht⟩
    exact ⟨h, _, _, _, rfl, ht⟩
theorem not_NcS_cells {B k : Nat} {cs : Array Value} {t : TypeId} {fr : Nat × Nat} : ¬ NcS B k (.cells cs t fr) := fun h => by cases h.2

def AbidesT {β : Type} (S : Nat → Obj → Prop) (J : β → World → Prop) : Prop := ∀ s W W', J s W → Turn S W W' → J s W'

theorem Boxed.turn {S : Nat → Obj → Prop} {W W' : World} {B : Nat} {t : TypeId} {v : Value} (h : Boxed W B t v) (ht : Turn S W W') (hS : ¬ S B (.cells #[v] t (0, 0))) : Boxed W' B t v := ht.same B _ h hS
theorem Boxed.keeps {T : Nat → Obj → Prop} {W W' : World} {B : Nat} {t : TypeId} {v : Value} (h : Boxed W B t v) (ht : Keeps T W W') (hT : T B (.cells #[v] t (0, 0))) : Boxed W' B t v := ht.same B _ h hT
theorem ownsRow_same {W W' : World} {base : Nat} {e : TypeId} {size : Nat} {v : Value} {n : Nat} {xs : List Value} (h : W.ownsRow base e size v n xs)
    (hs : ∀ k cur, base ≤ k → W.heap[k]? = some (.cells cur e (0, 0)) → W'.heap[k]? = some (.cells cur e (0, 0))) : W'.ownsRow base e size v n xs := by
  refine ⟨h.1, ?_⟩
  rcases h.2 with h0 | ⟨g, cap, cur, hv, hb, hg, rest⟩
  · exact .inl h0
  · exact .inr ⟨g, cap, cur, hv, hb, hs g cur hb hg, rest⟩
theorem ownsRow_turn {S : Nat → Obj → Prop} {W W' : World} {base : Nat} {e : TypeId} {size : Nat} {v : Value} {n : Nat} {xs : List Value} (h : W.ownsRow base e size v n xs) (ht : Turn S W W')
    (hS : ∀ k cur, base ≤ k → ¬ S k (.cells cur e (0, 0))) : W'.ownsRow base e size v n xs := ownsRow_same h (fun k cur hb hk => ht.same k _ hk (hS k cur hb))
theorem ownsRow_keeps {T : Nat → Obj → Prop} {W W' : World} {base : Nat} {e : TypeId} {size : Nat} {v : Value} {n : Nat} {xs : List Value} (h : W.ownsRow base e size v n xs) (ht : Keeps T W W')
    (hT : ∀ k cur, base ≤ k → T k (.cells cur e (0, 0))) : W'.ownsRow base e size v n xs := ownsRow_same h (fun k cur hb hk => ht.same k _ hk (hT k cur hb))
theorem below_turn {S : Nat → Obj → Prop} {n₀ : Nat} {w W W' : World} (h : Below n₀ w W) (ht : Turn S W W') (hn : n₀ ≤ w.heap.size) (hS : ∀ k o, k < n₀ → ¬ S k o) : Below n₀ w W' :=
  ⟨ht.os.trans h.os, ht.tape.trans h.tape, ht.output.trans h.output, Nat.le_trans h.size ht.size, fun k hk => by
    have hb := h.block k hk
    have hlt : k < w.heap.size := Nat.lt_of_lt_of_le hk hn
    obtain ⟨o, ho⟩ : ∃ o, w.heap[k]? = some o := ⟨_, Array.getElem?_eq_getElem hlt⟩
    rw [ho] at hb ⊢
    exact ht.same k o hb (hS k o hk)⟩

/-- THE CONTRACT OF AN ITERATOR VALUE over the list xs: what it turns of its own accord are cells of types Ts in blocks laid since its call began; it asks of the rounds that they keep these, and the blocks of which Kb holds. Each round hands back true. -/
def SeqT {α : Type} (F : Fence) (n : Nat) (P : Program) (g : Nat) (lb : Array Value) (encs : α → Array Value) (Ts : List TypeId) (Kb : Nat → Prop) (xs : List α) (w : World) : Prop :=
  ∀ (l : Nat) (J : List α → World → Prop) (W : World), Below w.heap.size w W → AbidesT (TyS Ts W.heap.size) J →
    (∀ pre x W1, J pre W1 → (pre ++ [x]) <+: xs → YieldAt F (n - 1) P l (encs x) W1 fun e W' => e = .returned (.bool true) ∧ J (pre ++ [x]) W' ∧ Keeps (fun k o => Kb k ∨ TyS Ts W.heap.size k o) W1 W') →
    J [] W →
    CallsIn F n P g (#[.func (.yield l) #[] #[]] ++ lb) W fun e W' => (∃ v, e = .returned v) ∧ J xs W'

/-- What a round owes. -/
def postT {α : Type} (B : Nat) (Ts : List TypeId) (Kb : Nat → Prop) (I : List α → World → Prop) (xs : List α) (W : World) : Exit → Act → World → Prop
  | .normal, _, W' => Keeps (fun k o => NcS B k o ∨ Kb k ∨ TyS Ts B k o) W W' ∧ I xs W'
  | _, _, _ => False

variable {F : Fence} {n : Nat} {P : Program}

theorem wpIn_rangeFunc_T {α : Type} {g : Operand} {ps : Array Tmp} {assign body : Code} {Q : Exit → Act → World → Prop} {a : Act} {w : World}
    (hro : F.round = none) (h1 : 1 ≤ n) {gf : Nat} {lb : Array Value} (hg : a.eval g = .func (.func gf) #[] lb) (hFg : F.fn gf) (eg : ∀ args w, (callFunc gf args).run P w = .ok (.enter gf args) w)
    {encs : α → Array Value} {Ts : List TypeId} {Kb : Nat → Prop} {xs : List α} {w0 : World} (hseq : SeqT F (n - 1) P gf lb encs Ts Kb xs w0)
    (hb0 : Below w0.heap.size w0 w) (hKb : ∀ k, Kb k → k < w.heap.size) (hps : ∀ x, (encs x).size = ps.size)
    (I : List α → World → Prop) (hI1 : AbidesT (NcS w.heap.size) I) (hI2 : AbidesT (TyS Ts w.heap.size) I) (h0 : I [] w) (a₁ : α → Act)
    (hassign : ∀ (l : Nat) (x : α) (W : World) (K : Act → World → Prop), K (a₁ x) W →
      assign.wpIn (F.inRound l) (n - 1 - 1) P (Exit.then K (fun _ _ _ => False)) { tmps := (ps.zip (encs x)).foldl (fun t (p, v) => t.setIfInBounds p v) a.tmps, defers := [] } W)
    (hbody : ∀ (l : Nat) (pre : List α) (x : α) (W : World), I pre W → (pre ++ [x]) <+: xs → body.wpIn (F.inRound l) (n - 1 - 1) P (postT w.heap.size Ts Kb I (pre ++ [x]) W) (a₁ x) W)
    (hdone : ∀ (D : Nat) (W : World), w.heap.size ≤ D → I xs W → W.heap[D]? = some (.deferred (some [])) → Q .normal { a with defers := { target := .collected D, args := #[] } :: a.defers } W) :
    (Code.rangeFunc g ps assign body).wpIn F n P Q a w := by
  have put : ∀ {s : List α} {W : World} {l : Nat} {o : Obj} (o' : Obj), I s W → w.heap.size ≤ l → W.heap[l]? = some o → o.isCells = false → I s (W.putObj l o') := fun o' hs hl ho hc =>
    hI1 _ _ _ hs (Turn.of_grownBy (grownBy_putObj' _ _ o') (fun j o2 e h2 => by cases e; rw [ho] at h2; cases h2; exact ⟨hl, hc⟩))
  refine wpIn_rangeFunc ?_
  intro fn hfn
  rw [hro]
  obtain ⟨rec, hrec⟩ : ∃ rec : LoopState → Option Code → Loop, rec = fun st pe => { state := st, pending := pe, fn, tmps := a.tmps, params := ps, assign, body, defers := w.heap.size } := ⟨_, rfl⟩
  obtain ⟨W1, hW1⟩ : ∃ W1, (w.alloc (.deferred (some []))).alloc (.loop (rec .ready none)) = W1 := ⟨_, rfl⟩
  have hL1 : W1.heap[w.heap.size + 1]? = some (.loop (rec .ready none)) := by
    rw [← hW1]; have := World.alloc_heap_new (w.alloc (.deferred (some []))) (.loop (rec .ready none)); rwa [World.size_alloc] at this
  have hK1 : W1.heap[w.heap.size]? = some (.deferred (some [])) := by
    rw [← hW1]; exact (Below.heap_alloc _ _ _ (by simp)).trans (World.alloc_heap_new w _)
  have hI1' : I [] W1 := by rw [← hW1]; exact hI1 _ _ _ (hI1 _ _ _ h0 (Turn.alloc _ _)) (Turn.alloc _ _)
  have hs1 : W1.heap.size = w.heap.size + 2 := by rw [← hW1]; simp
  have hb1 : Below w0.heap.size w0 W1 := by
    rw [← hW1]; exact hb0.trans ((((Below.refl _ w).alloc (Nat.le_refl _) _).alloc (by simp) _).mono hb0.size)
  refine ⟨w.heap.size + 1, [{ target := .collected w.heap.size, args := #[] }], W1, { target := .fn (.func gf) lb, args := #[.func (.yield (w.heap.size + 1)) #[] #[]] }, W1, gf,
    #[.func (.yield (w.heap.size + 1)) #[] #[]] ++ lb, W1, ?_, ?_, ?_, ?_, fun _ => h1, ?_⟩
  · rw [← hW1, hrec]; exact run_enterLoop_outer _ _ _ _ _
  · simp only [resolve, hg]
    simp [go_sem]
  · intro f' hf'; simp [Target.leads] at hf'; subst hf'; exact hFg
  · simp [invoke, go_sem, eg]
  · refine (hseq (w.heap.size + 1)
      (fun pre W => I pre W ∧ W.heap[w.heap.size + 1]? = some (.loop (rec .ready none)) ∧ W.heap[w.heap.size]? = some (.deferred (some [])))
      W1 hb1
      (fun s A B hs ht => ⟨hI2 s A B hs.1 (ht.imp (fun k o hk => ⟨by have := hk.1; omega, hk.2⟩)), ht.same _ _ hs.2.1 (fun hk => by obtain ⟨_, _, _, _, e, _⟩ := hk; cases e), ht.same _ _ hs.2.2 (fun hk => by obtain ⟨_, _, _, _, e, _⟩ := hk; cases e)⟩)
      ?_ ⟨hI1', hL1, hK1⟩).mono ?_
    · -- one round
      rintro pre x W ⟨hi, hl, hk⟩ hlen
      have hlt : w.heap.size + 1 < W.heap.size := (Array.getElem?_eq_some_iff.1 hl).1
      have hy := run_yield (P := P) (args := encs x) hl (by rw [hrec]; exact hps x)
      rw [hrec] at hy
      refine ⟨fn, _, assign, body, hy, roundIn_of_wpIn hfn (hassign _ x W _ ⟨_, run_beginRound hl (by rw [hrec]), ?_⟩)⟩
      have hl2 : (W.putObj (w.heap.size + 1) (.loop { rec .ready none with state := .busy })).heap[w.heap.size + 1]? = some (.loop { rec .ready none with state := .busy }) := World.putObj_heap_same hlt
      have hk2 : (W.putObj (w.heap.size + 1) (.loop { rec .ready none with state := .busy })).heap[w.heap.size]? = some (.deferred (some [])) := (World.putObj_heap_other (by omega)).trans hk
      have nT : ∀ (r : Loop), ¬ ((fun k o => Kb k ∨ TyS Ts W1.heap.size k o) (w.heap.size + 1) (Obj.loop r)) := fun r h => by
        rcases h with h | h
        · have := hKb _ h; omega
        · obtain ⟨_, _, _, _, e, _⟩ := h; cases e
      refine wpIn_mono (hbody _ pre x _ (put _ hi (by omega) hl rfl) hlen) ?_
      rintro e a3 W3 hp
      cases e with
      | normal =>
        obtain ⟨hk3, hi3⟩ := hp
        have hl3 := hk3.same _ _ hl2 (.inl ⟨by omega, rfl⟩)
        have hk4 := hk3.same _ _ hk2 (.inl ⟨by omega, rfl⟩)
        have hr := run_endRound (P := P) none hl3
        rw [hrec] at hr hl3
        refine ⟨_, _, hr, rfl, ⟨put _ hi3 (by omega) hl3 rfl, ?_, (World.putObj_heap_other (by omega)).trans hk4⟩, ?_⟩
        · rw [hrec]; exact World.putObj_heap_same (Array.getElem?_eq_some_iff.1 hl3).1
        · refine ((Keeps.putObj _ hl (nT _)).trans (hk3.imp (fun k o h => ?_))).trans (Keeps.putObj _ hl3 (nT _))
          rcases h with h | h
          · exact .inr (.inl h)
          · exact .inr (.inr ⟨by have := h.1; omega, h.2⟩)
      | ret => exact hp.elim
      | exit id => exact hp.elim
      | goto t => exact hp.elim
      | panic ch => exact hp.elim
      | outgrown => exact hp.elim
    · -- behind the iterator
      rintro e W2 ⟨⟨v, rfl⟩, hi, hl, hk⟩
      exact ⟨none, _, by have := run_endLoop (P := P) hl (by rw [hrec]; simp); rw [hrec] at this; exact this, hdone _ _ (Nat.le_refl _) (put _ hi (by omega) hl rfl) ((World.putObj_heap_other (by omega)).trans hk)⟩

theorem room_of_none {F : Fence} (hd : F.depth = none) (k : Nat) : F.room k := fun d h => by rw [hd] at h; cases h
theorem RoundIn.anyDepth {F : Fence} (hd : F.depth = none) {m m' : Nat} {P : Program} {l : Nat} {f : FuncId} {tmps : Array Value} {assign body : Code} {w : World} {R : Ending → World → Prop}
    (h : RoundIn F m P l f tmps assign body w R) : RoundIn F m' P l f tmps assign body w R := ⟨h.1, fun c cs _ => h.2 c cs (room_of_none hd _)⟩
theorem YieldAt.anyDepth {F : Fence} (hd : F.depth = none) {m : Nat} (m' : Nat) {P : Program} {l : Nat} {args : Array Value} {W : World} {R : Ending → World → Prop} (h : YieldAt F m P l args W R) : YieldAt F m' P l args W R := by
  obtain ⟨fn, tmps, assign, body, hy, hR⟩ := h
  exact ⟨fn, tmps, assign, body, hy, RoundIn.anyDepth hd hR⟩

end Go.Proofs.YtiffkknhnmpgbaaDoor
