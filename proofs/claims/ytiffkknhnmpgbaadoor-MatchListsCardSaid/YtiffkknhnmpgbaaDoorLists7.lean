/- Parts of the proof of Lists: words, contracts and plain laws. -/
import Derived.Test.YtiffkknhnmpgbaaDoorProg
import Derived.WideKeyPair
import Derived.Maps.Keyed
import Derived.ChangeKeys
/- Keys of the type [2]int: what a key reads as_, that two keys that read alike are equal, and that every key is a pair. -/
namespace Go.Proofs.YtiffkknhnmpgbaaDoor
open Go Go.Maps Go.WideMaps
set_option linter.unusedVariables false
set_option linter.unusedSimpArgs false
theorem arrKey : ArrKey Tryd.prog 57 3 2 := ⟨Tryd.underlying57, by kernel_rfl, by kernel_rfl, by kernel_rfl⟩
theorem KlawP : Keyed Tryd.prog 57 := Keyed.of_law arrKey.law
def pk (p : Int × Int) : Lit := .string (keyBytes [.int .i64 p.1, .int .i64 p.2])
def wfp (p : Int × Int) : Prop := (Lit.int .i64 p.1).wf = true ∧ (Lit.int .i64 p.2).wf = true
def pairV (p : Int × Int) : Value := .agg #[.int .i64 p.1, .int .i64 p.2]
theorem pk_inj {p q : Int × Int} (hp : wfp p) (hq : wfp q) (h : pk p = pk q) : p = q := by
  have e : keyBytes [.int .i64 p.1, .int .i64 p.2] = keyBytes [.int .i64 q.1, .int .i64 q.2] := by injection h
  have := keyBytes_inj (l := [.int .i64 p.1, .int .i64 p.2]) (l' := [.int .i64 q.1, .int .i64 q.2]) ⟨rfl, rfl, trivial⟩ (fun a ha => by
    rcases List.mem_cons.1 ha with rfl | ha
    · exact hp.1
    · rcases List.mem_cons.1 ha with rfl | ha
      · exact hp.2
      · cases ha) (fun a ha => by
    rcases List.mem_cons.1 ha with rfl | ha
    · exact hq.1
    · rcases List.mem_cons.1 ha with rfl | ha
      · exact hq.2
      · cases ha) e
  injection this with h1 h2
  injection h2 with h2 _
  injection h1 with _ h1
  injection h2 with _ h2
  exact Prod.ext h1 h2
theorem typesSize : ∃ m, Tryd.prog.types.size = m + 1 := ⟨Tryd.prog.types.size - 1, by
  have : 0 < Tryd.prog.types.size := of_decide_eq_true (by kernel_rfl)
  omega⟩
theorem key_pair {p : Int × Int} (h : wfp p) : keyOf Tryd.prog 57 (pairV p) = some (pk p) := keyOf_pair arrKey Tryd.underlying3 typesSize h.1 h.2
theorem list2 {α : Type} {l : List α} (h : l.length = 2) : ∃ a b, l = [a, b] := by
  match l, h with
  | [a, b], _ => exact ⟨a, b, rfl⟩
theorem intLit {d : Nat} {v : Value} {ls : List Lit} (h : Tryd.prog.keyLits (d + 1) 3 [v] = some ls) : ∃ n, v = .int .i64 n ∧ (Lit.int .i64 n).wf = true ∧ ls = [.int .i64 n] := by
  unfold Program.keyLits at h
  simp only [Tryd.underlying3] at h
  cases v with
  | int q n =>
    simp only at h
    split at h
    · rename_i hc
      obtain ⟨rfl, hw⟩ := hc
      exact ⟨n, rfl, hw, by injection h with h; exact h.symm⟩
    · cases h
  | _ => cases h
theorem key_inv {v : Value} {kl : Lit} (h : keyOf Tryd.prog 57 v = some kl) : ∃ p, v = pairV p ∧ wfp p ∧ kl = pk p := by
  obtain ⟨m, hm⟩ := typesSize
  unfold keyOf at h
  simp only [Tryd.underlying57] at h
  split at h
  · rename_i hc
    rw [Bool.and_eq_true] at hc
    obtain ⟨_, hf⟩ := hc
    obtain ⟨cs, rfl⟩ : ∃ cs, v = .agg cs := by
      cases v <;> first | exact ⟨_, rfl⟩ | (simp [Value.formed, Tryd.underlying57] at hf)
    obtain ⟨ls, h1, h2⟩ := Option.map_eq_some_iff.1 h
    rw [hm] at h1
    unfold Program.keyLits at h1
    simp only [Tryd.underlying57, Value.cells] at h1
    split at h1
    · rename_i hl
      rw [arrKey.size] at hl
      obtain ⟨c0, c1, hl2⟩ := list2 hl
      rw [hl2, show List.range 2 = [0, 1] from rfl, List.mapM_cons, List.mapM_cons, List.mapM_nil] at h1
      simp only [bind, Option.map_eq_some_iff, Option.bind_eq_some_iff, pure, Option.some.injEq, arrKey.one] at h1
      obtain ⟨_, ⟨y0, h0, _, ⟨y1, h3, _, rfl, rfl⟩, rfl⟩, rfl⟩ := h1
      obtain ⟨a, rfl, wa, rfl⟩ := intLit h0
      obtain ⟨b, rfl, wb, rfl⟩ := intLit h3
      refine ⟨(a, b), ?_, ⟨wa, wb⟩, ?_⟩
      · obtain ⟨l⟩ := cs
        simp only at hl2
        subst hl2
        rfl
      · rw [← h2]; rfl
    · cases h1
  · cases h
end Go.Proofs.YtiffkknhnmpgbaaDoor
