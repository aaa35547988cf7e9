/- words.Fold: for every text of at most 1000000 bytes, the words of the text with one blank between them; in the form of the printed contracts. -/
import Derived.RangeFuncNested
import Derived.RangeFuncBound
import Derived.RangeFuncCalls
import Derived.RangeFuncLeaves
import Derived.RangeFuncBox
import Derived.Deep.Draws
import Derived.Lib.Hide
import Derived.Test.YtgomlpndoolllaaDoorProg
import Derived.Test.YtgomlpndoolllaaDoorWWords
import Derived.Shelf.Abstract
import Derived.WalkKit
import Derived.OwnWalkIn
import Derived.TacticsInMore
import Derived.LoopNIn
import Derived.LoopIn
import Derived.Maps.AppendAt
import Derived.Outline
import Derived.Test.YtgomlpndoolllaaDoorH0
/- A law for 'for x := range f' over an iterator that keeps state of its own in cells: what the iterator may turn is told by the types of its cells. No program in sight. -/
namespace Go.Proofs.YtgomlpndoolllaaDoor
open Go Go.RowKit

/-- W' is W but for new blocks and for blocks of which S holds. -/
structure Turn (S : Nat → Obj → Prop) (W W' : World) : Prop where
  os : W'.os = W.os
  tape : W'.tape = W.tape
  output : W'.output = W.output
  size : W.heap.size ≤ W'.heap.size
  same : ∀ k o, W.heap[k]? = some o → ¬ S k o → W'.heap[k]? = some o

theorem Turn.refl (S : Nat → Obj → Prop) (W : World) : Turn S W W := ⟨rfl, rfl, rfl, Nat.le_refl _, fun _ _ h _ => h⟩
theorem Turn.trans {S : Nat → Obj → Prop} {A B C : World} (h : Turn S A B) (k : Turn S B C) : Turn S A C :=
  ⟨k.os.trans h.os, k.tape.trans h.tape, k.output.trans h.output, Nat.le_trans h.size k.size, fun i o hi hS => k.same i o (h.same i o hi hS) hS⟩
theorem Turn.imp {S S' : Nat → Obj → Prop} {A B : World} (h : Turn S A B) (hi : ∀ k o, S k o → S' k o) : Turn S' A B :=
  ⟨h.os, h.tape, h.output, h.size, fun k o hk hS => h.same k o hk (fun hs => hS (hi k o hs))⟩
/-- One step that writes one block. -/
theorem Turn.of_grownBy {S : Nat → Obj → Prop} {W W' : World} {row : Option Nat} (hg : W.grownBy W' row) (hr : ∀ j o, row = some j → W.heap[j]? = some o → S j o) : Turn S W W' :=
  ⟨hg.os, hg.tape, hg.output, hg.size, fun k o hk hS => (hg.block k (Array.getElem?_eq_some_iff.1 hk).1 (fun e => hS (hr k o e.symm hk))).trans hk⟩
theorem Turn.alloc {S : Nat → Obj → Prop} (W : World) (o : Obj) : Turn S W (W.alloc o) := Turn.of_grownBy (World.grownBy_alloc W o none) (fun j _ e => by cases e)
theorem Turn.drewN {S : Nat → Obj → Prop} (W : World) (n : Nat) : Turn S W (W.drewN n) := ⟨rfl, rfl, rfl, Nat.le_refl _, fun _ _ h _ => h⟩
theorem Turn.drew {S : Nat → Obj → Prop} (W : World) : Turn S W W.drew := ⟨rfl, rfl, rfl, Nat.le_refl _, fun _ _ h _ => h⟩
theorem Turn.box {S : Nat → Obj → Prop} {W : World} {B : Nat} {t : TypeId} {v : Value} (u : Value) (h : Boxed W B t v) (hS : S B (.cells #[v] t (0, 0))) : Turn S W (W.setCell ⟨B, 0, none⟩ u) :=
  Turn.of_grownBy (grownBy_setCell' W B u) (fun j o e ho => by cases e; rw [show W.heap[B]? = _ from h] at ho; cases ho; exact hS)

/-- What W' keeps of W. -/
structure Keeps (T : Nat → Obj → Prop) (W W' : World) : Prop where
  size : W.heap.size ≤ W'.heap.size
  same : ∀ k o, W.heap[k]? = some o → T k o → W'.heap[k]? = some o
theorem Keeps.refl (T : Nat → Obj → Prop) (W : World) : Keeps T W W := ⟨Nat.le_refl _, fun _ _ h _ => h⟩
theorem Keeps.trans {T : Nat → Obj → Prop} {A B C : World} (h : Keeps T A B) (k : Keeps T B C) : Keeps T A C := ⟨Nat.le_trans h.size k.size, fun i o hi hT => k.same i o (h.same i o hi hT) hT⟩
theorem Keeps.imp {T T' : Nat → Obj → Prop} {A B : World} (h : Keeps T A B) (hi : ∀ k o, T' k o → T k o) : Keeps T' A B := ⟨h.size, fun k o hk hT => h.same k o hk (hi k o hT)⟩
theorem Keeps.of_turn {S T : Nat → Obj → Prop} {W W' : World} (h : Turn S W W') (hT : ∀ k o, W.heap[k]? = some o → T k o → ¬ S k o) : Keeps T W W' := ⟨h.size, fun k o hk hk' => h.same k o hk (hT k o hk hk')⟩
theorem Keeps.of_grownBy {T : Nat → Obj → Prop} {W W' : World} {row : Option Nat} (hg : W.grownBy W' row) (hr : ∀ j o, row = some j → W.heap[j]? = some o → ¬ T j o) : Keeps T W W' :=
  ⟨hg.size, fun k o hk hT => (hg.block k (Array.getElem?_eq_some_iff.1 hk).1 (fun e => hr k o e.symm hk hT)).trans hk⟩
theorem Keeps.alloc {T : Nat → Obj → Prop} (W : World) (o : Obj) : Keeps T W (W.alloc o) := Keeps.of_grownBy (World.grownBy_alloc W o none) (fun j _ e => by cases e)
theorem Keeps.box {T : Nat → Obj → Prop} {W : World} {B : Nat} {t : TypeId} {v : Value} (u : Value) (h : Boxed W B t v) (hT : ¬ T B (.cells #[v] t (0, 0))) : Keeps T W (W.setCell ⟨B, 0, none⟩ u) :=
  Keeps.of_grownBy (grownBy_setCell' W B u) (fun j o e ho => by cases e; rw [show W.heap[B]? = _ from h] at ho; cases ho; exact hT)
theorem Keeps.putObj {T : Nat → Obj → Prop} {W : World} {l : Nat} {o : Obj} (o' : Obj) (h : W.heap[l]? = some o) (hT : ¬ T l o) : Keeps T W (W.putObj l o') :=
  Keeps.of_grownBy (grownBy_putObj' W l o') (fun j o2 e ho => by cases e; rw [h] at ho; cases ho; exact hT)

/-- Cells of one of the types Ts, in a block from B on. -/
def TyS (Ts : List TypeId) (B : Nat) (k : Nat) (o : Obj) : Prop := B ≤ k ∧ ∃ cs t fr, o = .cells cs t fr ∧ t ∈ Ts
/-- No cells, in a block from B on. -/
def NcS (B : Nat) (k : Nat) (o : Obj) : Prop := B ≤ k ∧ o.isCells = false

theorem TyS.cells {Ts : List TypeId} {B k : Nat} {cs : Array Value} {t : TypeId} {fr : Nat × Nat} : TyS Ts B k (.cells cs t fr) ↔ B ≤ k ∧ t ∈ Ts := by
  constructor
  · rintro ⟨h, cs', t', fr', e, ht⟩
    cases e
    exact ⟨h, ht⟩
  · rintro ⟨h, ht⟩
    exact ⟨h, _, _, _, rfl, ht⟩
theorem not_NcS_cells {B k : Nat} {cs : Array Value} {t : TypeId} {fr : Nat × Nat} : ¬ NcS B k (.cells cs t fr) := fun h => by cases h.2

def AbidesT {β : Type} (S : Nat → Obj → Prop) (J : β → World → Prop) : Prop := ∀ s W W', J s W → Turn S W W' → J s W'

theorem Boxed.turn {S : Nat → Obj → Prop} {W W' : World} {B : Nat} {t : TypeId} {v : Value} (h : Boxed W B t v) (ht : Turn S W W') (hS : ¬ S B (.cells #[v] t (0, 0))) : Boxed W' B t v := ht.same B _ h hS
theorem Boxed.keeps {T : Nat → Obj → Prop} {W W' : World} {B : Nat} {t : TypeId} {v : Value} (h : Boxed W B t v) (ht : Keeps T W W') (hT : T B (.cells #[v] t (0, 0))) : Boxed W' B t v := ht.same B _ h hT
theorem ownsRow_same {W W' : World} {base : Nat} {e : TypeId} {size : Nat} {v : Value} {n : Nat} {xs : List Value} (h : W.ownsRow base e size v n xs)
    (hs : ∀ k cur, base ≤ k → W.heap[k]? = some (.cells cur e (0, 0)) → W'.heap[k]? = some (.cells cur e (0, 0))) : W'.ownsRow base e size v n xs := by
  refine ⟨h.1, ?_⟩
  rcases h.2 with h0 | ⟨g, cap, cur, hv, hb, hg, rest⟩
  · exact .inl h0
  · exact .inr ⟨g, cap, cur, hv, hb, hs g cur hb hg, rest⟩
theorem ownsRow_turn {S : Nat → Obj → Prop} {W W' : World} {base : Nat} {e : TypeId} {size : Nat} {v : Value} {n : Nat} {xs : List Value} (h : W.ownsRow base e size v n xs) (ht : Turn S W W')
    (hS : ∀ k cur, base ≤ k → ¬ S k (.cells cur e (0, 0))) : W'.ownsRow base e size v n xs := ownsRow_same h (fun k cur hb hk => ht.same k _ hk (hS k cur hb))
theorem ownsRow_keeps {T : Nat → Obj → Prop} {W W' : World} {base : Nat} {e : TypeId} {size : Nat} {v : Value} {n : Nat} {xs : List Value} (h : W.ownsRow base e size v n xs) (ht : Keeps T W W')
    (hT : ∀ k cur, base ≤ k → T k (.cells cur e (0, 0))) : W'.ownsRow base e size v n xs := ownsRow_same h (fun k cur hb hk => ht.same k _ hk (hT k cur hb))
theorem below_turn {S : Nat → Obj → Prop} {n₀ : Nat} {w W W' : World} (h : Below n₀ w W) (ht : Turn S W W') (hn : n₀ ≤ w.heap.size) (hS : ∀ k o, k < n₀ → ¬ S k o) : Below n₀ w W' :=
  ⟨ht.os.trans h.os, ht.tape.trans h.tape, ht.output.trans h.output, Nat.le_trans h.size ht.size, fun k hk => by
    have hb := h.block k hk
    have hlt : k < w.heap.size := Nat.lt_of_lt_of_le hk hn
    obtain ⟨o, ho⟩ : ∃ o, w.heap[k]? = some o := ⟨_, Array.getElem?_eq_getElem hlt⟩
    rw [ho] at hb ⊢
    exact ht.same k o hb (hS k o hk)⟩

/-- THE CONTRACT OF AN ITERATOR VALUE over the list xs: what it turns of its own accord are cells of types Ts in blocks laid since its call began; it asks of the rounds that they keep these, and the blocks of which Kb holds. Each round hands back true. -/
def SeqT {α : Type} (F : Fence) (n : Nat) (P : Program) (g : Nat) (lb : Array Value) (encs : α → Array Value) (Ts : List TypeId) (Kb : Nat → Prop) (xs : List α) (w : World) : Prop :=
  ∀ (l : Nat) (J : List α → World → Prop) (W : World), Below w.heap.size w W → AbidesT (TyS Ts W.heap.size) J →
    (∀ pre x W1, J pre W1 → (pre ++ [x]) <+: xs → YieldAt F (n - 1) P l (encs x) W1 fun e W' => e = .returned (.bool true) ∧ J (pre ++ [x]) W' ∧ Keeps (fun k o => Kb k ∨ TyS Ts W.heap.size k o) W1 W') →
    J [] W →
    CallsIn F n P g (#[.func (.yield l) #[] #[]] ++ lb) W fun e W' => (∃ v, e = .returned v) ∧ J xs W'

/-- What a round owes. -/
def postT {α : Type} (B : Nat) (Ts : List TypeId) (Kb : Nat → Prop) (I : List α → World → Prop) (xs : List α) (W : World) : Exit → Act → World → Prop
  | .normal, _, W' => Keeps (fun k o => NcS B k o ∨ Kb k ∨ TyS Ts B k o) W W' ∧ I xs W'
  | _, _, _ => False

variable {F : Fence} {n : Nat} {P : Program}

theorem wpIn_rangeFunc_T {α : Type} {g : Operand} {ps : Array Tmp} {assign body : Code} {Q : Exit → Act → World → Prop} {a : Act} {w : World}
    (hro : F.round = none) (h1 : 1 ≤ n) {gf : Nat} {lb : Array Value} (hg : a.eval g = .func (.func gf) #[] lb) (hFg : F.fn gf) (eg : ∀ args w, (callFunc gf args).run P w = .ok (.enter gf args) w)
    {encs : α → Array Value} {Ts : List TypeId} {Kb : Nat → Prop} {xs : List α} {w0 : World} (hseq : SeqT F (n - 1) P gf lb encs Ts Kb xs w0)
    (hb0 : Below w0.heap.size w0 w) (hKb : ∀ k, Kb k → k < w.heap.size) (hps : ∀ x, (encs x).size = ps.size)
    (I : List α → World → Prop) (hI1 : AbidesT (NcS w.heap.size) I) (hI2 : AbidesT (TyS Ts w.heap.size) I) (h0 : I [] w) (a₁ : α → Act)
    (hassign : ∀ (l : Nat) (x : α) (W : World) (K : Act → World → Prop), K (a₁ x) W →
      assign.wpIn (F.inRound l) (n - 1 - 1) P (Exit.then K (fun _ _ _ => False)) { tmps := (ps.zip (encs x)).foldl (fun t (p, v) => t.setIfInBounds p v) a.tmps, defers := [] } W)
    (hbody : ∀ (l : Nat) (pre : List α) (x : α) (W : World), I pre W → (pre ++ [x]) <+: xs → body.wpIn (F.inRound l) (n - 1 - 1) P (postT w.heap.size Ts Kb I (pre ++ [x]) W) (a₁ x) W)
    (hdone : ∀ (D : Nat) (W : World), w.heap.size ≤ D → I xs W → W.heap[D]? = some (.deferred (some [])) → Q .normal { a with defers := { target := .collected D, args := #[] } :: a.defers } W) :
    (Code.rangeFunc g ps assign body).wpIn F n P Q a w := by
  have put : ∀ {s : List α} {W : World} {l : Nat} {o : Obj} (o' : Obj), I s W → w.heap.size ≤ l → W.heap[l]? = some o → o.isCells = false → I s (W.putObj l o') := fun o' hs hl ho hc =>
    hI1 _ _ _ hs (Turn.of_grownBy (grownBy_putObj' _ _ o') (fun j o2 e h2 => by cases e; rw [ho] at h2; cases h2; exact ⟨hl, hc⟩))
  refine wpIn_rangeFunc ?_
  intro fn hfn
  rw [hro]
  obtain ⟨rec, hrec⟩ : ∃ rec : LoopState → Option Code → Loop, rec = fun st pe => { state := st, pending := pe, fn, tmps := a.tmps, params := ps, assign, body, defers := w.heap.size } := ⟨_, rfl⟩
  obtain ⟨W1, hW1⟩ : ∃ W1, (w.alloc (.deferred (some []))).alloc (.loop (rec .ready none)) = W1 := ⟨_, rfl⟩
  have hL1 : W1.heap[w.heap.size + 1]? = some (.loop (rec .ready none)) := by
    rw [← hW1]; have := World.alloc_heap_new (w.alloc (.deferred (some []))) (.loop (rec .ready none)); rwa [World.size_alloc] at this
  have hK1 : W1.heap[w.heap.size]? = some (.deferred (some [])) := by
    rw [← hW1]; exact (Below.heap_alloc _ _ _ (by simp)).trans (World.alloc_heap_new w _)
  have hI1' : I [] W1 := by rw [← hW1]; exact hI1 _ _ _ (hI1 _ _ _ h0 (Turn.alloc _ _)) (Turn.alloc _ _)
  have hs1 : W1.heap.size = w.heap.size + 2 := by rw [← hW1]; simp
  have hb1 : Below w0.heap.size w0 W1 := by
    rw [← hW1]; exact hb0.trans ((((Below.refl _ w).alloc (Nat.le_refl _) _).alloc (by simp) _).mono hb0.size)
  refine ⟨w.heap.size + 1, [{ target := .collected w.heap.size, args := #[] }], W1, { target := .fn (.func gf) lb, args := #[.func (.yield (w.heap.size + 1)) #[] #[]] }, W1, gf,
    #[.func (.yield (w.heap.size + 1)) #[] #[]] ++ lb, W1, ?_, ?_, ?_, ?_, fun _ => h1, ?_⟩
  · rw [← hW1, hrec]; exact run_enterLoop_outer _ _ _ _ _
  · simp only [resolve, hg]
    simp [go_sem]
  · intro f' hf'; simp [Target.leads] at hf'; subst hf'; exact hFg
  · simp [invoke, go_sem, eg]
  · refine (hseq (w.heap.size + 1)
      (fun pre W => I pre W ∧ W.heap[w.heap.size + 1]? = some (.loop (rec .ready none)) ∧ W.heap[w.heap.size]? = some (.deferred (some [])))
      W1 hb1
      (fun s A B hs ht => ⟨hI2 s A B hs.1 (ht.imp (fun k o hk => ⟨by have := hk.1; omega, hk.2⟩)), ht.same _ _ hs.2.1 (fun hk => by obtain ⟨_, _, _, _, e, _⟩ := hk; cases e), ht.same _ _ hs.2.2 (fun hk => by obtain ⟨_, _, _, _, e, _⟩ := hk; cases e)⟩)
      ?_ ⟨hI1', hL1, hK1⟩).mono ?_
    · -- one round
      rintro pre x W ⟨hi, hl, hk⟩ hlen
      have hlt : w.heap.size + 1 < W.heap.size := (Array.getElem?_eq_some_iff.1 hl).1
      have hy := run_yield (P := P) (args := encs x) hl (by rw [hrec]; exact hps x)
      rw [hrec] at hy
      refine ⟨fn, _, assign, body, hy, roundIn_of_wpIn hfn (hassign _ x W _ ⟨_, run_beginRound hl (by rw [hrec]), ?_⟩)⟩
      have hl2 : (W.putObj (w.heap.size + 1) (.loop { rec .ready none with state := .busy })).heap[w.heap.size + 1]? = some (.loop { rec .ready none with state := .busy }) := World.putObj_heap_same hlt
      have hk2 : (W.putObj (w.heap.size + 1) (.loop { rec .ready none with state := .busy })).heap[w.heap.size]? = some (.deferred (some [])) := (World.putObj_heap_other (by omega)).trans hk
      have nT : ∀ (r : Loop), ¬ ((fun k o => Kb k ∨ TyS Ts W1.heap.size k o) (w.heap.size + 1) (Obj.loop r)) := fun r h => by
        rcases h with h | h
        · have := hKb _ h; omega
        · obtain ⟨_, _, _, _, e, _⟩ := h; cases e
      refine wpIn_mono (hbody _ pre x _ (put _ hi (by omega) hl rfl) hlen) ?_
      rintro e a3 W3 hp
      cases e with
      | normal =>
        obtain ⟨hk3, hi3⟩ := hp
        have hl3 := hk3.same _ _ hl2 (.inl ⟨by omega, rfl⟩)
        have hk4 := hk3.same _ _ hk2 (.inl ⟨by omega, rfl⟩)
        have hr := run_endRound (P := P) none hl3
        rw [hrec] at hr hl3
        refine ⟨_, _, hr, rfl, ⟨put _ hi3 (by omega) hl3 rfl, ?_, (World.putObj_heap_other (by omega)).trans hk4⟩, ?_⟩
        · rw [hrec]; exact World.putObj_heap_same (Array.getElem?_eq_some_iff.1 hl3).1
        · refine ((Keeps.putObj _ hl (nT _)).trans (hk3.imp (fun k o h => ?_))).trans (Keeps.putObj _ hl3 (nT _))
          rcases h with h | h
          · exact .inr (.inl h)
          · exact .inr (.inr ⟨by have := h.1; omega, h.2⟩)
      | ret => exact hp.elim
      | exit id => exact hp.elim
      | goto t => exact hp.elim
      | panic ch => exact hp.elim
      | outgrown => exact hp.elim
    · -- behind the iterator
      rintro e W2 ⟨⟨v, rfl⟩, hi, hl, hk⟩
      exact ⟨none, _, by have := run_endLoop (P := P) hl (by rw [hrec]; simp); rw [hrec] at this; exact this, hdone _ _ (Nat.le_refl _) (put _ hi (by omega) hl rfl) ((World.putObj_heap_other (by omega)).trans hk)⟩

theorem room_of_none {F : Fence} (hd : F.depth = none) (k : Nat) : F.room k := fun d h => by rw [hd] at h; cases h
theorem RoundIn.anyDepth {F : Fence} (hd : F.depth = none) {m m' : Nat} {P : Program} {l : Nat} {f : FuncId} {tmps : Array Value} {assign body : Code} {w : World} {R : Ending → World → Prop}
    (h : RoundIn F m P l f tmps assign body w R) : RoundIn F m' P l f tmps assign body w R := ⟨h.1, fun c cs _ => h.2 c cs (room_of_none hd _)⟩
theorem YieldAt.anyDepth {F : Fence} (hd : F.depth = none) {m : Nat} (m' : Nat) {P : Program} {l : Nat} {args : Array Value} {W : World} {R : Ending → World → Prop} (h : YieldAt F m P l args W R) : YieldAt F m' P l args W R := by
  obtain ⟨fn, tmps, assign, body, hy, hR⟩ := h
  exact ⟨fn, tmps, assign, body, hy, RoundIn.anyDepth hd hR⟩

end Go.Proofs.YtgomlpndoolllaaDoor

/- What the words of a text are, as plain functions on lists of bytes; no program in sight. -/
namespace Go.Proofs.YtgomlpndoolllaaDoor

/-- Induction from the end of a list. -/
@[elab_as_elim] theorem snocInd {α : Type} {P : List α → Prop} (nil : P []) (snoc : ∀ l a, P l → P (l ++ [a])) (l : List α) : P l := by
  have key : ∀ r : List α, P r.reverse := by
    intro r
    induction r with
    | nil => exact nil
    | cons a r ih => rw [List.reverse_cons]; exact snoc _ _ ih
  have := key l.reverse
  rwa [List.reverse_reverse] at this

/-- A letter in lower case, a digit; 0 for any other byte. -/
def lowC (c : UInt8) : UInt8 := if 65 ≤ c ∧ c ≤ 90 then c + 32 else if (97 ≤ c ∧ c ≤ 122) ∨ (48 ≤ c ∧ c ≤ 57) then c else 0
/-- The words that are closed, and the one that is open. -/
def stepW (s : List (List UInt8) × List UInt8) (c : UInt8) : List (List UInt8) × List UInt8 :=
  if lowC c = 0 then (if s.2 = [] then s.1 else s.1 ++ [s.2], []) else (s.1, s.2 ++ [lowC c])
def scanW (l : List UInt8) : List (List UInt8) × List UInt8 := l.foldl stepW ([], [])
def flushW (s : List (List UInt8) × List UInt8) : List (List UInt8) := if s.2 = [] then s.1 else s.1 ++ [s.2]
def wordsL (l : List UInt8) : List (List UInt8) := flushW (scanW l)

theorem scanW_append (l r : List UInt8) : scanW (l ++ r) = r.foldl stepW (scanW l) := by simp [scanW, List.foldl_append]
theorem scanW_snoc (l : List UInt8) (c : UInt8) : scanW (l ++ [c]) = stepW (scanW l) c := by simp [scanW_append]
theorem scanW_take (l : List UInt8) (k : Nat) (h : k < l.length) : scanW (l.take (k + 1)) = stepW (scanW (l.take k)) l[k] := by
  rw [List.take_succ_eq_append_getElem h, scanW_snoc]
theorem foldl_stepW_prefix : ∀ (r : List UInt8) (s : List (List UInt8) × List UInt8), s.1 <+: (r.foldl stepW s).1
  | [], s => List.prefix_refl _
  | c :: r, s => by
    refine List.IsPrefix.trans ?_ (foldl_stepW_prefix r (stepW s c))
    unfold stepW
    split
    · dsimp only
      split
      · exact List.prefix_refl _
      · exact List.prefix_append _ _
    · exact List.prefix_refl _
theorem flushW_prefix (s : List (List UInt8) × List UInt8) : s.1 <+: flushW s := by
  unfold flushW
  split
  · exact List.prefix_refl _
  · exact List.prefix_append _ _
theorem scanW_prefix (l : List UInt8) (k : Nat) : (scanW (l.take k)).1 <+: wordsL l := by
  have h := foldl_stepW_prefix (l.drop k) (scanW (l.take k))
  rw [← scanW_append, List.take_append_drop] at h
  exact h.trans (flushW_prefix _)
/-- At a byte that is neither letter nor digit the open word is closed. -/
theorem flush_at (l : List UInt8) (k : Nat) (h : k < l.length) (h0 : lowC l[k] = 0) : scanW (l.take (k + 1)) = (flushW (scanW (l.take k)), []) := by
  rw [scanW_take l k h]
  unfold stepW flushW
  rw [if_pos h0]
theorem flush_prefix (l : List UInt8) (k : Nat) (h : k < l.length) (h0 : lowC l[k] = 0) : flushW (scanW (l.take k)) <+: wordsL l := by
  have := scanW_prefix l (k + 1)
  rwa [flush_at l k h h0] at this
theorem letter_at (l : List UInt8) (k : Nat) (h : k < l.length) (h0 : ¬ lowC l[k] = 0) : scanW (l.take (k + 1)) = ((scanW (l.take k)).1, (scanW (l.take k)).2 ++ [lowC l[k]]) := by
  rw [scanW_take l k h]
  unfold stepW
  rw [if_neg h0]
theorem scanW_len (l : List UInt8) : (scanW l).2.length ≤ l.length := by
  induction l using snocInd with
  | nil => simp [scanW]
  | snoc l c ih =>
    rw [scanW_snoc]
    unfold stepW
    split
    · simp
    · simp; omega
theorem scanW_take_len (l : List UInt8) (k : Nat) : (scanW (l.take k)).2.length ≤ k := Nat.le_trans (scanW_len _) (List.length_take_le _ _)
theorem word_len {l : List UInt8} {x : List UInt8} (h : x ∈ wordsL l) : x.length ≤ l.length := by
  have key : ∀ l : List UInt8, ∀ y ∈ (scanW l).1, y.length ≤ l.length := by
    intro l
    induction l using snocInd with
    | nil => simp [scanW]
    | snoc l c ih =>
      rw [scanW_snoc]
      unfold stepW
      intro y hy
      rw [List.length_append]
      split at hy
      · dsimp only at hy
        split at hy
        · have := ih y hy; omega
        · rcases List.mem_append.1 hy with hy | hy
          · have := ih y hy; omega
          · rw [List.mem_singleton.1 hy]; have := scanW_len l; omega
      · have := ih y hy; omega
  unfold wordsL flushW at h
  split at h
  · exact key l x h
  · rcases List.mem_append.1 h with h | h
    · exact key l x h
    · rw [List.mem_singleton.1 h]; exact scanW_len l
/-- How many words a text has. -/
theorem words_len (l : List UInt8) : (wordsL l).length ≤ l.length := by
  have key : ∀ l : List UInt8, (scanW l).1.length + (if (scanW l).2 = [] then 0 else 1) ≤ l.length := by
    intro l
    induction l using snocInd with
    | nil => simp [scanW]
    | snoc l c ih =>
      rw [scanW_snoc]
      unfold stepW
      rw [List.length_append]
      split
      · dsimp only
        split
        · rename_i h; rw [if_pos h] at ih; simp; omega
        · rename_i h; rw [if_neg h] at ih; simp; omega
      · dsimp only
        split at ih
        · split <;> simp <;> omega
        · split <;> simp <;> omega
  have := key l
  unfold wordsL flushW
  split
  · rename_i h; rw [if_pos h] at this; omega
  · rename_i h; rw [if_neg h] at this; simp; omega

/-- The words with one blank between them. -/
def joinB : List (List UInt8) → List UInt8
  | [] => []
  | [x] => x
  | x :: y :: r => x ++ 32 :: joinB (y :: r)
def foldL (l : List UInt8) : List UInt8 := joinB (wordsL l)
theorem joinB_len1 : ∀ (xs : List (List UInt8)), xs ≠ [] → (joinB xs).length + 1 = (xs.map fun x => x.length + 1).sum
  | [], h => absurd rfl h
  | [x], _ => by simp [joinB]
  | x :: y :: r, _ => by
    have ih := joinB_len1 (y :: r) (by simp)
    simp only [joinB, List.map_cons, List.sum_cons, List.length_append, List.length_cons] at ih ⊢
    omega
theorem scanW_tot (l : List UInt8) : ((scanW l).1.map fun x => x.length + 1).sum + (scanW l).2.length ≤ l.length := by
  induction l using snocInd with
  | nil => simp [scanW]
  | snoc l c ih =>
    rw [scanW_snoc, List.length_append]
    unfold stepW
    split
    · dsimp only
      split
      · simp; omega
      · simp only [List.map_append, List.sum_append, List.map_cons, List.map_nil, List.sum_cons, List.sum_nil, List.length_nil, List.length_singleton]; omega
    · simp only [List.length_append, List.length_singleton]; omega
theorem foldL_len (l : List UInt8) : (foldL l).length ≤ l.length := by
  have h := scanW_tot l
  unfold foldL wordsL flushW
  split
  · rename_i h0
    by_cases hn : (scanW l).1 = []
    · rw [hn]; simp [joinB]
    · have := joinB_len1 _ hn; omega
  · rename_i h0
    have := joinB_len1 ((scanW l).1 ++ [(scanW l).2]) (by simp)
    rw [List.map_append, List.sum_append] at this
    simp only [List.map_cons, List.map_nil, List.sum_cons, List.sum_nil] at this
    omega
def ofL (l : List UInt8) : ByteArray := ⟨l.toArray⟩
@[simp] theorem ofL_data (l : List UInt8) : (ofL l).data.toList = l := rfl
@[simp] theorem ofL_size (l : List UInt8) : (ofL l).size = l.length := rfl

end Go.Proofs.YtgomlpndoolllaaDoor

/- The iterator over the words of a text (words.all and its two closures): for every text of at most 1000000 bytes, and whatever a caller keeps between two rounds that abides writes to the iterator's own cells, the words of the text come, in order. -/
namespace Go.Proofs.YtgomlpndoolllaaDoor
open Go Go.RowKit Go.Shelf Go.Proofs.YtgomlpndoolllaaDoorW.PrintWords
attribute [local go_sem] Oper.semAt_some
set_option linter.unusedVariables false
set_option linter.unusedSimpArgs false

theorem Kinfo5 : (Tryd.prog.info? 5).map (fun i => (i.zero, i.size, i.bytes)) = some (some (.int .u8 0), 1, 1) := by kernel_rfl

def lowI (c : Int) : Int := if 65 ≤ c ∧ c ≤ 90 then c + 32 else if (97 ≤ c ∧ c ≤ 122) ∨ (48 ≤ c ∧ c ≤ 57) then c else 0

theorem ret_int {k : IntKind} {a b : Int} (h : a = b) : Ending.returned (.int k a) = .returned (.int k b) := by rw [h]
theorem lower_calls (c : Int) (w : World) (h0 : 0 ≤ c) (h1 : c ≤ 255) :
    Calls Tryd.prog 74 #[.int .u8 c] w fun e w' => e = .returned (.int .u8 (lowI c)) ∧ w = w' := by
  by_cases a1 : 65 ≤ c
  · by_cases a2 : c ≤ 90
    · go_enter Tryd.func74, Tryd.ntmps74
      go_wp2
      go_ret
      refine ⟨ret_int ?_, rfl⟩
      unfold lowI; rw [if_pos ⟨a1, a2⟩]; omega
    · have a5 : 48 ≤ c := by omega
      have a6 : ¬ c ≤ 57 := by omega
      by_cases a3 : 97 ≤ c
      · by_cases a4 : c ≤ 122
        · go_enter Tryd.func74, Tryd.ntmps74
          go_wp2
          go_ret
          refine ⟨ret_int ?_, rfl⟩
          unfold lowI; rw [if_neg (by omega), if_pos (by omega)]
        · go_enter Tryd.func74, Tryd.ntmps74
          go_wp2
          go_ret
          refine ⟨ret_int ?_, rfl⟩
          unfold lowI; rw [if_neg (by omega), if_neg (by omega)]
      · go_enter Tryd.func74, Tryd.ntmps74
        go_wp2
        go_ret
        refine ⟨ret_int ?_, rfl⟩
        unfold lowI; rw [if_neg (by omega), if_neg (by omega)]
  · have a5 : ¬ 97 ≤ c := by omega
    by_cases a3 : 48 ≤ c
    · by_cases a4 : c ≤ 57
      · go_enter Tryd.func74, Tryd.ntmps74
        go_wp2
        go_ret
        refine ⟨ret_int ?_, rfl⟩
        unfold lowI; rw [if_neg (by omega), if_pos (by omega)]
      · go_enter Tryd.func74, Tryd.ntmps74
        go_wp2
        go_ret
        refine ⟨ret_int ?_, rfl⟩
        unfold lowI; rw [if_neg (by omega), if_neg (by omega)]
    · go_enter Tryd.func74, Tryd.ntmps74
      go_wp2
      go_ret
      refine ⟨ret_int ?_, rfl⟩
      unfold lowI; rw [if_neg (by omega), if_neg (by omega)]

theorem all_calls (s : ByteArray) (w : World) :
    Calls Tryd.prog 65 #[.string s] w fun e w' => e = .returned (.func (.func 72) #[] #[.pointer (some ⟨w.heap.size, 0, none⟩)]) ∧ w' = w.alloc (.cells #[.string s] 9) := by
  go_enter Tryd.func65, Tryd.ntmps65
  go_wp2
  go_ret
  exact ⟨rfl, rfl⟩

end Go.Proofs.YtgomlpndoolllaaDoor

/- The iterator over the words of a text: its closures flush and the iterator itself. -/
namespace Go.Proofs.YtgomlpndoolllaaDoor
open Go Go.RowKit Go.Shelf Go.Proofs.YtgomlpndoolllaaDoorW.PrintWords
attribute [local go_sem] Oper.semAt_some
set_option linter.unusedVariables false
set_option linter.unusedSimpArgs false
set_option maxRecDepth 100000

def numsB (l : List UInt8) : List Int := l.map fun b => (b.toNat : Int)
theorem strOfNums_numsB (l : List UInt8) : strOfNums (numsB l) = ofL l := by
  unfold strOfNums numsB ofL
  congr 2
  rw [List.map_map]
  conv => rhs; rw [← List.map_id l]
  apply List.map_congr_left
  intro b _
  simp
theorem ofL_toList (l : List UInt8) : (ofL l).toList = l := by
  rw [Go.ByteArray.toList_eq]; rfl

theorem own_zero {W : World} {base : Nat} {e : TypeId} {size n c : Nat} {A : Option Addr} {xs : List Value} (h : W.ownsRow base e size (.slice A n c) n xs) : W.ownsRow base e size (.slice A 0 c) 0 [] := by
  refine ⟨by simp, ?_⟩
  rcases h.2 with ⟨h1, h2⟩ | ⟨g, cap, cur, hv, hb, hg, h1, h2, h3, h4⟩
  · injection h1 with h1 h3 h4
    subst h1 h3 h4
    exact .inl ⟨rfl, rfl⟩
  · injection hv with hv h5 h6
    subst hv h6
    exact .inr ⟨g, _, cur, rfl, hb, hg, Nat.zero_le _, h2, h3, by simp⟩

/-- The iterator's own state: the open word in a box, the yield in a box, the text; and what the caller keeps. -/
structure It (B0 Bt l : Nat) (s : ByteArray) (J : List (List UInt8) → World → Prop) (d : List (List UInt8) × List UInt8) (W : World) : Prop where
  word : ∃ v, Boxed W (B0 + 1) 41 v ∧ W.ownsRow B0 5 1 v d.2.length (nums .u8 (numsB d.2))
  yld : Boxed W B0 94 (.func (.yield l) #[] #[])
  text : Boxed W Bt 9 (.string s)
  inv : J d.1 W

abbrev IterTs : List TypeId := [5, 94, 41]

theorem flush_in (n l B0 Bt : Nat) (s : ByteArray) (J : List (List UInt8) → World → Prop) (xs : List (List UInt8)) (hBt : Bt < B0) (hJ : AbidesT (TyS IterTs B0) J)
    (hY : ∀ m pre x W1, J pre W1 → (pre ++ [x]) <+: xs → YieldAt Fence.wide m Tryd.prog l #[.string (ofL x)] W1 fun e W' => e = .returned (.bool true) ∧ J (pre ++ [x]) W' ∧ Keeps (fun k o => k = Bt ∨ TyS IterTs B0 k o) W1 W')
    (dn : List (List UInt8)) (cur : List UInt8) (hd : flushW (dn, cur) <+: xs) (W : World) (h : It B0 Bt l s J (dn, cur) W) :
    CallsIn Fence.wide n Tryd.prog 73 #[.pointer (some ⟨B0 + 1, 0, none⟩), .pointer (some ⟨B0, 0, none⟩)] W fun e W2 => e = .returned (.bool true) ∧ It B0 Bt l s J (flushW (dn, cur), []) W2 := by
  obtain ⟨v, hv, hrow⟩ := h.word
  dsimp only at hrow
  have hconv := own_string (P := Tryd.prog) (src := 41) (dst := 9) (e := 5) Tryd.underlying41 Tryd.underlying5 Tryd.underlying9 hrow
  rw [strOfNums_numsB] at hconv
  obtain ⟨A, c, rfl⟩ := own_slice hrow
  obtain ⟨i5, hi5, hz⟩ := Option.map_eq_some_iff.1 Kinfo5
  simp only [Prod.mk.injEq] at hz
  have hcut := (print_take_int (P := Tryd.prog) (k := .u8) 41 5 Tryd.underlying41 hi5 hz.2.1 A c (numsB cur) 0 (Int.le_refl _) (by simp) (by have := own_le hrow; simpa [numsB] using this)).1
  rw [show (numsB cur).length = cur.length by simp [numsB]] at hcut
  simp only [Int.toNat_zero, List.take_zero, List.length_nil] at hcut
  have hc1 := hv.cell
  have hf1 := hv.frozen
  have hy1 := h.yld.cell
  have hlt := hv.lt
  obtain ⟨W1, hW1⟩ : ∃ W1, W.setCell ⟨B0 + 1, 0, none⟩ (.slice A 0 c) = W1 := ⟨_, rfl⟩
  have hturn : Turn (TyS IterTs B0) W W1 := by rw [← hW1]; exact Turn.box _ hv (TyS.cells.2 ⟨by omega, by decide⟩)
  have hv1 : Boxed W1 (B0 + 1) 41 (.slice A 0 c) := by rw [← hW1]; exact hv.set _
  have hrow1 : W1.ownsRow B0 5 1 (.slice A 0 c) 0 [] := by
    rw [← hW1]
    exact (own_zero hrow).kept (grownBy_setCell' W _ _) (.inr (hv.not_row (by decide) (own_zero hrow)).symm)
  have hyl1 : Boxed W1 B0 94 (.func (.yield l) #[] #[]) := by rw [← hW1]; exact h.yld.other (by omega) _
  have htx1 : Boxed W1 Bt 9 (.string s) := by rw [← hW1]; exact h.text.other (by omega) _
  have hJ1 : J dn W1 := hJ _ _ _ h.inv hturn
  have hy2 := hyl1.cell
  cases cur with
  | nil =>
    have e0 : ofL [] = (⟨#[]⟩ : ByteArray) := rfl
    rw [e0] at hconv
    simp only [List.length_nil] at hconv hcut hc1 hv
    refine callsIn_of_wp Tryd.func73 rfl trivial ?_ rfl
    simp only [Tryd.ntmps73, List.size_toArray, List.length_cons, List.length_nil, Nat.reduceAdd, Nat.reduceSub, Array.replicate_succ, Array.replicate_zero, List.push_toArray, List.append_toArray, List.nil_append, List.cons_append]
    gi_wp2
    refine ⟨fun _ h => (by cases h), ?_⟩
    gi_wp2
    go_ret
    exact ⟨rfl, ⟨_, hv1, hrow1⟩, hyl1, htx1, by simpa [flushW] using hJ1⟩
  | cons x r =>
    have hfl : flushW (dn, x :: r) = dn ++ [x :: r] := by simp [flushW]
    rw [hfl] at hd ⊢
    have hR0 := hY (n - 1) dn (x :: r) W1 hJ1 hd
    obtain ⟨t, ht⟩ : ∃ t, ofL (x :: r) = t := ⟨_, rfl⟩
    clear hrow h
    obtain ⟨m, hm⟩ : ∃ m, (x :: r).length = m := ⟨_, rfl⟩
    rw [hm] at hconv hcut hc1 hv
    clear hm
    have ht1 : t.toList = x :: r := by rw [← ht, ofL_toList]
    have ht2 : t.toList.isEmpty = false := by rw [ht1]; rfl
    have HT := Lib.hid ht1
    clear ht1
    rw [ht] at hconv hR0
    obtain ⟨fn, tmps, assign, body, hy, hR⟩ := hR0
    have hdd : ∀ k : Nat, (Fence.wide.depth.isSome = true → 1 ≤ k) := fun k h => by cases h
    subst hW1
    refine callsIn_of_wp Tryd.func73 rfl trivial ?_ rfl
    simp only [Tryd.ntmps73, List.size_toArray, List.length_cons, List.length_nil, Nat.reduceAdd, Nat.reduceSub, Array.replicate_succ, Array.replicate_zero, List.push_toArray, List.append_toArray, List.nil_append, List.cons_append]
    gi_wp2
    refine ⟨hdd _, hR.mono ?_⟩
    rintro e W3 ⟨rfl, hJ3, hk3⟩
    gi_wp2
    go_ret
    refine ⟨rfl, ⟨_, Boxed.keeps hv1 hk3 (.inr (TyS.cells.2 ⟨by omega, by decide⟩)), ?_⟩, Boxed.keeps hyl1 hk3 (.inr (TyS.cells.2 ⟨by omega, by decide⟩)), Boxed.keeps htx1 hk3 (.inl rfl), hJ3⟩
    exact ownsRow_keeps hrow1 hk3 (fun k cur hk => .inr (TyS.cells.2 ⟨hk, by decide⟩))

end Go.Proofs.YtgomlpndoolllaaDoor

/- The iterator over the words of a text: the iterator itself, and its contract. -/
namespace Go.Proofs.YtgomlpndoolllaaDoor
open Go Go.RowKit Go.Shelf Go.Proofs.YtgomlpndoolllaaDoorW.PrintWords
attribute [local go_sem] Oper.semAt_some
set_option linter.unusedVariables false
set_option linter.unusedSimpArgs false
set_option maxRecDepth 100000

theorem lowI_lowC (c : UInt8) : lowI (c.toNat : Int) = ((lowC c).toNat : Int) := by
  have h := c.toNat_lt
  unfold lowI lowC
  by_cases h1 : 65 ≤ c ∧ c ≤ 90
  · have h1' : 65 ≤ (c.toNat : Int) ∧ (c.toNat : Int) ≤ 90 := by simpa [UInt8.le_iff_toNat_le] using ⟨by have := h1.1; simp [UInt8.le_iff_toNat_le] at this; omega, by have := h1.2; simp [UInt8.le_iff_toNat_le] at this; omega⟩
    rw [if_pos h1, if_pos h1']
    rw [UInt8.toNat_add]
    simp
    omega
  · have h1' : ¬ (65 ≤ (c.toNat : Int) ∧ (c.toNat : Int) ≤ 90) := by
      intro hh; apply h1; simp [UInt8.le_iff_toNat_le]; omega
    rw [if_neg h1, if_neg h1']
    by_cases h2 : (97 ≤ c ∧ c ≤ 122) ∨ (48 ≤ c ∧ c ≤ 57)
    · rw [if_pos h2, if_pos]
      simp [UInt8.le_iff_toNat_le] at h2; omega
    · rw [if_neg h2, if_neg]
      · rfl
      · intro hh; apply h2; simp [UInt8.le_iff_toNat_le]; omega

theorem lower_callsC (c : UInt8) (w : World) : Calls Tryd.prog 74 #[.int .u8 (c.toNat : Int)] w fun e w' => e = .returned (.int .u8 ((lowC c).toNat : Int)) ∧ w = w' := by
  rw [← lowI_lowC]
  have := c.toNat_lt
  exact lower_calls _ w (by omega) (by omega)
theorem numsB_snoc (l : List UInt8) (c : UInt8) : numsB (l ++ [c]) = numsB l ++ [(c.toNat : Int)] := by simp [numsB]

theorem turn_append {W w1 : World} {B0 : Nat} {v : Value} {k : Nat} {xs : List Value} {tmp : Obj} (hrow : W.ownsRow B0 5 1 v k xs) (hg : (W.alloc tmp).grownBy w1 v.ownBlock) : Turn (TyS IterTs B0) W w1 :=
  (Turn.alloc W tmp).trans (Turn.of_grownBy hg (fun j o ej ho => by
    rcases (hrow.alloc tmp).2 with ⟨rfl, _⟩ | ⟨g, cap, cur, rfl, hb, hgb, _⟩
    · simp [Value.ownBlock] at ej
    · obtain rfl : g = j := by simpa [Value.ownBlock] using ej
      rw [hgb] at ho; cases ho
      exact TyS.cells.2 ⟨hb, by decide⟩))

set_option maxHeartbeats 1000000 in
theorem all1_in (n l Bt : Nat) (s : ByteArray) (hs : s.size ≤ 1000000) (J : List (List UInt8) → World → Prop) (W : World) (hBt : Bt < W.heap.size) (hJ : AbidesT (TyS IterTs W.heap.size) J)
    (hY : ∀ m pre x W1, J pre W1 → (pre ++ [x]) <+: wordsL s.data.toList → YieldAt Fence.wide m Tryd.prog l #[.string (ofL x)] W1 fun e W' => e = .returned (.bool true) ∧ J (pre ++ [x]) W' ∧ Keeps (fun k o => k = Bt ∨ TyS IterTs W.heap.size k o) W1 W')
    (ht : Boxed W Bt 9 (.string s)) (h0 : J [] W) :
    CallsIn Fence.wide n Tryd.prog 72 #[.func (.yield l) #[] #[], .pointer (some ⟨Bt, 0, none⟩)] W fun e W' => (∃ v, e = .returned v) ∧ J (wordsL s.data.toList) W' := by
  have hdd : ∀ k : Nat, (Fence.wide.depth.isSome = true → 1 ≤ k) := fun k h => by cases h
  have HF := fun m dn cur hd W1 h => flush_in m l W.heap.size Bt s J (wordsL s.data.toList) hBt hJ hY dn cur hd W1 h
  have ht0 := ht.cell
  have ht1 := (ht.alloc (.cells #[.func (.yield l) #[] #[]] 94)).cell
  have ht2 := ((ht.alloc (.cells #[.func (.yield l) #[] #[]] 94)).alloc (.cells #[.slice none 0 0] 41)).cell
  obtain ⟨i5, hi5, hz⟩ := Option.map_eq_some_iff.1 Kinfo5
  simp only [Prod.mk.injEq] at hz
  obtain ⟨iz0, iz1, iz2⟩ := hz
  refine callsIn_of_wp Tryd.func72 rfl trivial ?_ rfl
  simp only [Tryd.ntmps72, List.size_toArray, List.length_cons, List.length_nil, Nat.reduceAdd, Nat.reduceSub, Array.replicate_succ, Array.replicate_zero, List.push_toArray, List.append_toArray, List.nil_append, List.cons_append]
  gi_wp2
  gi_loopw [10] (fun c wr => ∃ k : Nat, k ≤ s.size ∧ c = .int .i64 k ∧ It W.heap.size Bt l s J (scanW (s.data.toList.take k)) wr) (fun c _ => s.size - (intOf c).toNat)
  case atStart =>
    refine ⟨0, Nat.zero_le _, rfl, ?_⟩
    have hb2 := Boxed.new (W.alloc (.cells #[.func (.yield l) #[] #[]] 94)) 41 (.slice none 0 0)
    rw [World.size_alloc] at hb2
    exact ⟨⟨_, hb2, by simpa [scanW, numsB, nums] using World.ownsRow_nil _ _ _ _⟩, (Boxed.new W 94 _).alloc _, (ht.alloc _).alloc _, by
      simpa [scanW] using hJ _ _ _ h0 ((Turn.alloc _ _).trans (Turn.alloc _ _))⟩
  case round =>
    obtain ⟨k, hk, rfl, hI⟩ := hrel
    obtain ⟨dn, cur, hdc⟩ : ∃ dn cur, scanW (s.data.toList.take k) = (dn, cur) := ⟨_, _, rfl⟩
    have hcl : cur.length ≤ k := by have := scanW_take_len s.data.toList k; rw [hdc] at this; exact this
    rw [hdc] at hI
    obtain ⟨v, hv, hrow⟩ := hI.word
    dsimp only at hrow
    have htc := hI.text.cell
    have hvc := hv.cell
    have hvf := hv.frozen
    have hbs : W.heap.size + 1 < wr.heap.size := hv.lt
    by_cases hlt : k < s.size
    · have hlen : k < s.data.toList.length := by simpa using hlt
      have hget : s.data.toList[k] = s[k] := rfl
      by_cases hx : lowC s[k] = 0
      · have hx0 : (((lowC s[k]).toNat : Int) != 0) = false := by rw [hx]; rfl
        have hfl := flush_at s.data.toList k hlen (by rw [hget]; exact hx)
        have hpre := flush_prefix s.data.toList k hlen (by rw [hget]; exact hx)
        rw [hdc] at hfl hpre
        have hFl := HF (n - 1) _ _ hpre wr hI
        have HFL := Lib.hid hfl
        clear hx hfl hpre hdc
        gi_wp2_with (first
          | (refine ⟨trivial, hdd _, ?_⟩; gi_at_call 74; refine (callsIn_wide.2 (lower_callsC _ _)).mono ?_; rintro e w' ⟨rfl, rfl⟩)
          | (refine ⟨trivial, hdd _, ?_⟩; gi_at_call 73; refine hFl.mono ?_; clear hFl; rintro e w' ⟨rfl, hI2⟩))
        go_roundw
        case rel => exact ⟨k + 1, by omega, by go_num, by rw [HFL.out]; exact hI2⟩
        case measure => simp [intOf]; omega
      · have hx0 : (((lowC s[k]).toNat : Int) != 0) = true := by
          have : (lowC s[k]).toNat ≠ 0 := fun h => hx (UInt8.toNat_inj.1 (by rw [h]; rfl))
          simp; omega
        have hle := letter_at s.data.toList k hlen (by rw [hget]; exact hx)
        rw [hdc, hget] at hle
        have HLE := Lib.hid hle
        clear hx hle hdc
        gi_wp2_with (first
          | (refine ⟨trivial, hdd _, ?_⟩; gi_at_call 74; refine (callsIn_wide.2 (lower_callsC _ _)).mono ?_; rintro e w' ⟨rfl, rfl⟩)
          | (gi_at_builtin; refine wpListIn_append_own _ rfl _ _ 41 rfl W.heap.size 5 i5 (.int .u8 0) 1 1 Tryd.underlying41 hi5 iz0 iz1 iz2 rfl (by decide) _ _ _ rfl (hrow.alloc _) ⟨_, 0, none⟩ 1 1 [.int .u8 ((lowC s[k]).toNat : Int)] rfl rfl (cell_one_new _ _ _) (by simp [Value.oneCell']) (by simp only [maxLen]; omega) (by omega) (by simp; omega) ?_; intro v' w1 hown' hgrow _; obtain ⟨g', cap', rfl⟩ := ownsRow_succ hown'; obtain ⟨hv1, hv2, hr2, hk2, hb2⟩ := hv.appended (by decide) hrow (by omega) (by omega) hown' hgrow; have hc1 := hv1.cell; have hf1 := hv1.frozen))
        go_roundw
        case rel =>
          refine ⟨k + 1, by omega, by go_num, ?_⟩
          rw [HLE.out]
          have hall : ∀ {B : Nat} {t : TypeId} {u : Value}, t ≠ 5 → B ≠ W.heap.size + 1 → Boxed wr B t u → Boxed (w1.setCell ⟨W.heap.size + 1, 0, none⟩ (.slice (some ⟨g', 0, none⟩) (cur.length + 1) cap')) B t u := fun ht5 hne hb =>
            (((hb.alloc _).kept hgrow (hb.not_row ht5 hrow))).other hne _
          refine ⟨⟨_, hv2, ?_⟩, hall (by decide) (by omega) hI.yld, hall (by decide) (by omega) hI.text, ?_⟩
          · rw [numsB_snoc, nums_append, List.length_append, List.length_singleton]
            exact hr2
          · exact hJ _ _ _ hI.inv ((turn_append hrow hgrow).trans (Turn.box _ hv1 (TyS.cells.2 ⟨by omega, by decide⟩)))
        case measure => simp [intOf]; omega
    · obtain rfl : k = s.size := by omega
      have hd2 : (dn, cur) = scanW s.data.toList := by
        rw [← hdc, List.take_of_length_le (by simp)]
      have hw : flushW (dn, cur) = wordsL s.data.toList := by rw [hd2]; rfl
      have hFl := HF (n - 1) dn cur (by rw [hw]; exact List.prefix_refl _) wr hI
      rw [hw] at hFl
      clear hd2 hw hdc
      gi_wp2_with (refine ⟨trivial, hdd _, ?_⟩; gi_at_call 73; refine hFl.mono ?_; clear hFl; rintro e w' ⟨rfl, hI2⟩)
      go_end0
      exact ⟨⟨_, rfl⟩, hI2.inv⟩

/-- words.all's value, made in w, its text in block Bt. -/
theorem all_seq (n Bt : Nat) (s : ByteArray) (hs : s.size ≤ 1000000) (w : World) (ht : Boxed w Bt 9 (.string s)) :
    SeqT Fence.wide n Tryd.prog 72 #[.pointer (some ⟨Bt, 0, none⟩)] (fun x : List UInt8 => #[Value.string (ofL x)]) IterTs (fun k => k = Bt) (wordsL s.data.toList) w := by
  intro l J W hW hJ hY h0
  have hlt : Bt < w.heap.size := ht.lt
  refine all1_in n l Bt s hs J W (Nat.lt_of_lt_of_le hlt hW.size) hJ (fun m pre x W1 hj hp => YieldAt.anyDepth rfl m (hY pre x W1 hj hp)) ((hW.block Bt hlt).trans ht) h0

end Go.Proofs.YtgomlpndoolllaaDoor

/- slices.AppendSeq and slices.Collect over the words of a text. -/
namespace Go.Proofs.YtgomlpndoolllaaDoor
open Go Go.RowKit Go.Shelf Go.Proofs.YtgomlpndoolllaaDoorW.PrintWords
attribute [local go_sem] Oper.semAt_some
set_option linter.unusedVariables false
set_option linter.unusedSimpArgs false
set_option maxRecDepth 100000

theorem Kinfo9 : (Tryd.prog.info? 9).map (fun i => (i.zero, i.size, i.bytes)) = some (some (.string ⟨#[]⟩), 1, 16) := by kernel_rfl
abbrev encW (x : List UInt8) : Value := .string (ofL x)

theorem ownsRow_abides {β : Type} {S : Nat → Obj → Prop} {n₀ B : Nat} {t e : TypeId} {w : World} (f : β → List Value) (k : β → Nat) (hn : n₀ ≤ w.heap.size)
    (hB : ∀ v, ¬ S B (.cells #[v] t (0, 0))) (he : ∀ j cur, ¬ S j (.cells cur e (0, 0))) (hlo : ∀ j o, j < n₀ → ¬ S j o) :
    AbidesT S (fun (s : β) W => (∃ v, Boxed W B t v ∧ W.ownsRow n₀ e 1 v (k s) (f s)) ∧ Below n₀ w W) := by
  rintro s W W' ⟨⟨v, hv, hr⟩, hb⟩ ht
  exact ⟨⟨v, Boxed.turn hv ht (hB v), ownsRow_turn hr ht (fun j cur _ => he j cur)⟩, below_turn hb ht hn hlo⟩

theorem keeps_append {T : Nat → Obj → Prop} {W w1 : World} {n₀ : Nat} {e : TypeId} {size : Nat} {v : Value} {k : Nat} {xs : List Value} {tmp : Obj} (hrow : W.ownsRow n₀ e size v k xs) (hg : (W.alloc tmp).grownBy w1 v.ownBlock)
    (hT : ∀ g cur, n₀ ≤ g → ¬ T g (.cells cur e (0, 0))) : Keeps T W w1 :=
  (Keeps.alloc W tmp).trans (Keeps.of_grownBy hg (fun j o ej ho => by
    rcases (hrow.alloc tmp).2 with ⟨rfl, _⟩ | ⟨g, cap, cur, rfl, hb, hgb, _⟩
    · simp [Value.ownBlock] at ej
    · obtain rfl : g = j := by simpa [Value.ownBlock] using ej
      rw [hgb] at ho; cases ho
      exact hT g _ hb))

set_option maxHeartbeats 1000000 in
theorem appendSeq_in (n gf : Nat) (hn : 3 ≤ n) (lb : Array Value) (eg : ∀ args w, (callFunc gf args).run Tryd.prog w = .ok (.enter gf args) w) (Kb : Nat → Prop) (xs : List (List UInt8)) (w : World) (hKb : ∀ k, Kb k → k < w.heap.size)
    (hlen : xs.length ≤ 1000000) (hseq : ∀ m, SeqT Fence.wide m Tryd.prog gf lb (fun x : List UInt8 => #[encW x]) IterTs Kb xs w) :
    CallsIn Fence.wide n Tryd.prog 71 #[.slice none 0 0, .func (.func gf) #[] lb] w fun e w' => ∃ v, e = .returned v ∧ w'.ownsRow w.heap.size 9 1 v xs.length (xs.map encW) ∧ Below w.heap.size w w' := by
  have h1 : 1 ≤ n := by omega
  obtain ⟨i9, hi, hz⟩ := Option.map_eq_some_iff.1 Kinfo9
  simp only [Prod.mk.injEq] at hz
  obtain ⟨iz0, iz1, iz2⟩ := hz
  refine callsIn_of_wp_marks Tryd.func71 rfl trivial ?_ rfl
  simp only [Tryd.ntmps71, List.size_toArray, List.length_cons, List.length_nil, Nat.reduceAdd, Nat.reduceSub, Array.replicate_succ, Array.replicate_zero, List.push_toArray, List.append_toArray, List.nil_append, List.cons_append]
  gi_wp2
  refine wpIn_rangeFunc_T (gf := gf) (lb := lb) rfl h1 rfl trivial eg (hseq (n - 1)) ((Below.refl _ w).alloc (Nat.le_refl _) _) (fun k hk => by have := hKb k hk; simp; omega) (fun _ => rfl)
    (fun pre W => (∃ v, Boxed W w.heap.size 22 v ∧ W.ownsRow w.heap.size 9 1 v pre.length (pre.map encW)) ∧ Below w.heap.size w W)
    (ownsRow_abides (fun pre : List (List UInt8) => pre.map encW) List.length (Nat.le_refl _) (fun v h => not_NcS_cells h) (fun j cur h => not_NcS_cells h) (fun j o hj h => by have := h.1; simp at this; omega))
    (ownsRow_abides (fun pre : List (List UInt8) => pre.map encW) List.length (Nat.le_refl _) (fun v h => absurd (TyS.cells.1 h).2 (by decide)) (fun j cur h => absurd (TyS.cells.1 h).2 (by decide)) (fun j o hj h => by have := h.1; simp at this; omega))
    ⟨⟨_, Boxed.new w 22 _, World.ownsRow_nil _ _ _ _⟩, (Below.refl _ w).alloc (Nat.le_refl _) _⟩
    (fun x => { tmps := #[.slice none 0 0, .func (.func gf) #[] lb, .pointer (some ⟨w.heap.size, 0, none⟩), undef, .slice none 0 0, encW x, .func (.func gf) #[] lb, encW x, undef, undef, undef, undef, undef], defers := [] }) ?assign ?body ?done
  case assign =>
    intro l x W K hK
    gi_wp2
    exact hK
  case body =>
    rintro l pre x W ⟨⟨v, hv, hrow⟩, hb⟩ hpre
    have hpl : pre.length + 1 ≤ 1000000 := by have := hpre.length_le; simp at this; omega
    have hvc := hv.cell
    gi_wp2_with (gi_at_builtin; refine wpListIn_append_own _ rfl _ _ 22 rfl w.heap.size 9 i9 (.string ⟨#[]⟩) 1 16 Tryd.underlying22 hi iz0 iz1 iz2 rfl (by decide) _ _ _ rfl (hrow.alloc _) ⟨W.heap.size, 0, none⟩ 1 1 [encW x] rfl rfl (cell_one_new _ _ _) (by simp [Value.oneCell', encW]) (by simp only [maxLen]; omega) (by omega) (by have := hb.size; simp; omega) ?_; intro v' w1 hown' hgrow _; obtain ⟨g', cap', rfl⟩ := ownsRow_succ hown'; obtain ⟨hv1, hv2, hr2, hk2, hb2⟩ := hv.appended (by decide) hrow hb.size (Nat.le_refl _) hown' hgrow; have hc1 := hv1.cell; have hf1 := hv1.frozen)
    refine ⟨(keeps_append hrow hgrow (fun g cur hg => ?_)).trans (Keeps.box _ hv1 ?_), ⟨_, hv2, by simpa using hr2⟩, hb.trans hb2⟩
    · rintro (h | h | h)
      · exact not_NcS_cells h
      · have := hKb _ h; omega
      · exact absurd (TyS.cells.1 h).2 (by decide)
    · rintro (h | h | h)
      · exact not_NcS_cells h
      · have := hKb _ h; omega
      · exact absurd (TyS.cells.1 h).2 (by decide)
  case done =>
    rintro D W hD ⟨⟨v, hv, hrow⟩, hb⟩ hK
    have hvc := hv.cell
    simp at hD
    gi_wp2
    refine ⟨by simp, .inl ⟨_, _, rfl, run_takeDeferred hK, ?_⟩⟩
    exact ⟨_, results_tmp rfl _ _ _, v, rfl, ownsRow_putObj hrow _ hK rfl, hb.trans (belowK_b (w := w) (Nat.le_refl _) W D _ _ (by omega) hK rfl rfl)⟩

end Go.Proofs.YtgomlpndoolllaaDoor

namespace Go.Proofs.YtgomlpndoolllaaDoor
open Go Go.RowKit Go.Shelf Go.Proofs.YtgomlpndoolllaaDoorW.PrintWords
attribute [local go_sem] Oper.semAt_some
set_option linter.unusedVariables false
set_option linter.unusedSimpArgs false
set_option maxRecDepth 100000

theorem collect_in (n gf : Nat) (hn : 4 ≤ n) (lb : Array Value) (eg : ∀ args w, (callFunc gf args).run Tryd.prog w = .ok (.enter gf args) w) (Kb : Nat → Prop) (xs : List (List UInt8)) (w : World) (hKb : ∀ k, Kb k → k < w.heap.size)
    (hlen : xs.length ≤ 1000000) (hseq : ∀ m, SeqT Fence.wide m Tryd.prog gf lb (fun x : List UInt8 => #[encW x]) IterTs Kb xs w) :
    CallsIn Fence.wide n Tryd.prog 64 #[.func (.func gf) #[] lb] w fun e w' => ∃ v, e = .returned v ∧ w'.ownsRow w.heap.size 9 1 v xs.length (xs.map encW) ∧ Below w.heap.size w w' := by
  have hdd : ∀ k : Nat, (Fence.wide.depth.isSome = true → 1 ≤ k) := fun k h => by cases h
  refine callsIn_of_wp Tryd.func64 rfl trivial ?_ rfl
  simp only [Tryd.ntmps64, List.size_toArray, List.length_cons, List.length_nil, Nat.reduceAdd, Nat.reduceSub, Array.replicate_succ, Array.replicate_zero, List.push_toArray, List.append_toArray, List.nil_append, List.cons_append]
  gi_wp2_with (refine ⟨trivial, hdd _, ?_⟩; gi_at_call 71; refine (appendSeq_in (n - 1) gf (by omega) lb eg Kb xs w hKb hlen hseq).mono ?_; rintro e w' ⟨v, rfl, hrow, hb⟩)
  go_ret
  exact ⟨v, rfl, hrow, hb⟩

theorem joinB_lib (xs : List (List UInt8)) : Lib.join xs [32] = joinB xs := by
  induction xs with
  | nil => rfl
  | cons x r ih =>
    cases r with
    | nil => simp [joinB, Lib.join]
    | cons y r => simp [joinB, Lib.join] at ih ⊢; rw [← ih]

theorem join_own (xs : List (List UInt8)) (v : Value) (w : World) (base : Nat) (hrow : w.ownsRow base 9 1 v xs.length (xs.map encW)) (hxl : xs.length ≤ 1000000) (hjl : (joinB xs).length ≤ 1000000) :
    Calls Tryd.prog 63 #[v, .string ⟨#[32]⟩] w fun e w' => e = .returned (.string (ofL (joinB xs))) ∧ Below w.heap.size w w' := by
  have hmap : (xs.map ofL).map (fun x => x.data.toList) = xs := by rw [List.map_map]; exact List.map_id xs
  have hcells := hrow
  rcases hrow.2 with ⟨rfl, h0⟩ | ⟨g, cap, cur, rfl, hb, hg, hn, _⟩
  · obtain rfl : xs = [] := List.eq_nil_of_length_eq_zero h0
    exact (Tryd.strings_Join_none none 0 ⟨#[32]⟩ w).mono fun e w' ⟨he, hw⟩ => ⟨he, hw ▸ Below.refl _ _⟩
  · have hj := Tryd.strings_Join g 0 cap (xs.map ofL) ⟨#[32]⟩ w (fun j x hx => by
        have hc := hcells.cells (g := g) rfl j (.string x) (by
          rw [List.getElem?_map] at hx ⊢
          cases hxs : xs[j]? with
          | none => rw [hxs] at hx; cases hx
          | some y => rw [hxs] at hx; simp at hx; simp [hx])
        by_cases hj0 : j = 0 <;> simpa [Addr.add, hj0] using hc) (Array.getElem?_eq_some_iff.1 hg).1 (by simp; omega) (by simpa using hn) (by
        rw [hmap]
        have : (Lib.join xs [32]).length ≤ 1000000 := by rw [joinB_lib]; exact hjl
        exact Nat.le_trans this (by omega))
    rw [hmap, List.length_map] at hj
    refine hj.mono fun e w' ⟨he, hw⟩ => ⟨?_, hw⟩
    rw [he]
    have : Lib.join xs [32] = joinB xs := joinB_lib xs
    exact congrArg (fun z => Ending.returned (.string (ofL z))) this

def words_Fold.f (a0 : ByteArray) : Option ByteArray := if a0.size ≤ 1000000 then some (ofL (foldL a0.data.toList)) else none

theorem words_Fold.calls (a0 : ByteArray) (r : ByteArray) (w : World) (h : words_Fold.f a0 = some r) :
    Calls Tryd.prog 51 #[.string a0] w fun e w' => e = .returned (.string r) ∧ Below w.heap.size w w' := by
  have hdd : ∀ k : Nat, (Fence.wide.depth.isSome = true → 1 ≤ k) := fun k h => by cases h
  unfold words_Fold.f at h
  split at h
  · rename_i hs
    obtain rfl := Option.some.inj h
    clear h
    have hsz := hs
    have hlen := words_len a0.data.toList
    have hfl := foldL_len a0.data.toList
    have hll : a0.data.toList.length = a0.size := Array.length_toList
    rw [hll] at hlen hfl
    have HC := collect_in 5 72 (by omega) #[.pointer (some ⟨w.heap.size, 0, none⟩)] (enters_of Tryd.func72 (by kernel_rfl) rfl) (fun k => k = w.heap.size) (wordsL a0.data.toList) (w.alloc (.cells #[.string a0] 9))
      (fun k hk => by rw [hk]; simp) (by omega) (fun m => all_seq m w.heap.size a0 hs _ (Boxed.new w 9 _))
    obtain ⟨xs, hxs⟩ : ∃ xs, wordsL a0.data.toList = xs := ⟨_, rfl⟩
    have hjl : (joinB xs).length ≤ 1000000 := by rw [← hxs]; exact Nat.le_trans hfl (by omega)
    have hxl : xs.length ≤ 1000000 := by rw [← hxs]; omega
    have hfo : foldL a0.data.toList = joinB xs := by unfold foldL; rw [hxs]
    rw [hxs] at HC
    rw [hfo]
    clear hxs hfo hlen hfl
    have hmap : (xs.map ofL).map (fun x => x.data.toList) = xs := by rw [List.map_map]; exact List.map_id xs
    refine (callsIn_wide (n := 6)).1 ?_
    refine callsIn_of_wp Tryd.func51 rfl trivial ?_ rfl
    simp only [Tryd.ntmps51, List.size_toArray, List.length_cons, List.length_nil, Nat.reduceAdd, Nat.reduceSub, Array.replicate_succ, Array.replicate_zero, List.push_toArray, List.append_toArray, List.nil_append, List.cons_append]
    gi_wp2_with (first
      | ((first | refine ⟨trivial, hdd _, ?_⟩ | refine ⟨trivial, ?_⟩); gi_at_call 65; refine (callsIn_wide.2 (all_calls _ _)).mono ?_; rintro e w' ⟨rfl, rfl⟩)
      | ((first | refine ⟨trivial, hdd _, ?_⟩ | refine ⟨trivial, ?_⟩); gi_at_call 64; refine HC.mono ?_; clear HC; rintro e w' ⟨v, rfl, hrow, hb⟩))
    refine ⟨trivial, ?_⟩
    refine (callsIn_wide.2 (join_own xs v w' _ hrow hxl hjl)).mono ?_
    rintro e w2 ⟨rfl, hb2⟩
    gi_wp2
    go_ret
    exact ⟨rfl, ((Below.refl _ w).alloc (Nat.le_refl _) _).trans ((hb.trans (hb2.mono (by have := hb.size; omega))).mono (by simp))⟩
  · cases h

end Go.Proofs.YtgomlpndoolllaaDoor
