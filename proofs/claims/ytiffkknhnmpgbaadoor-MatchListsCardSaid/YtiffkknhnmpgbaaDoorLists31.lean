/- Parts of the proof of Lists: words, contracts and plain laws. -/
import Derived.OpenShut
import Derived.WideShapes
import Derived.Deep.Slices
import Derived.WalkKit
import Derived.ProofKit
import Derived.Test.YtiffkknhnmpgbaaDoorLists17
import Derived.Test.YtiffkknhnmpgbaaDoorLists28
namespace Go.Proofs.YtiffkknhnmpgbaaDoor.Pure
end Go.Proofs.YtiffkknhnmpgbaaDoor.Pure
namespace Go.Proofs.YtiffkknhnmpgbaaDoor.R
end Go.Proofs.YtiffkknhnmpgbaaDoor.R
/- What the arguments of the laws on match read as_: matches, records, lists of them, pairs; opened for the walks. -/
namespace Go.Proofs.YtiffkknhnmpgbaaDoor
open Go Go.RowKit Go.ChangeShapes Go.WideShapes Go.Deep Go.Proofs.YtiffkknhnmpgbaaDoor.R Go.Proofs.YtiffkknhnmpgbaaDoor.Pure Go.Proofs.YtiffkknhnmpgbaaDoorW.PrintWords
set_option linter.unusedVariables false
set_option linter.unusedSimpArgs false
/-- What reads as_ a thing of type T is a thing of the kind d. -/
def Opens (T : TypeId) {α : Type} (d : Kd α) (ok : α → Prop) : Prop :=
  ∀ (H : Type) (enc : TypeId × Value → H) (W : World) (fuel : Nat) (cs : List Value) (y : DataW H × List MemPlace), DataW.trod enc Tryd.prog W 0 (fun _ => true) true fuel T cs = some y → ∃ x, d.K W x cs ∧ ok x
theorem opens_int : Opens 3 (Kd.int .i64) I64 := fun H enc W fuel cs y h => by
  obtain ⟨n, rfl, _, w⟩ := DataW.trod_int Tryd.underlying3 h
  exact ⟨n, rfl, i64_of w⟩
theorem opens_str : Opens 9 Kd.string (fun _ => True) := fun H enc W fuel cs y h => by
  obtain ⟨s, rfl, _, w⟩ := DataW.trod_string Tryd.underlying9 h
  exact ⟨s, rfl, trivial⟩
theorem cells_each {W : World} {a : Addr} {n : Nat} {cs : List Value} (h : W.cells? 0 a n = some cs) : cs.length = n ∧ ∀ i, i < n → W.cell? (a.add i) = cs[i]? := by
  obtain ⟨_, h1, h2⟩ := World.cells?_some h
  exact ⟨h1, h2⟩
theorem add_add_ (a : Addr) (i j : Nat) : (a.add i).add j = a.add (i + j) := by
  unfold Addr.add
  by_cases hi : i = 0
  · subst hi; simp
  · by_cases hj : j = 0
    · subst hj; simp [hi]
    · simp [hi, hj, Nat.add_assoc]
theorem cs_int : Tryd.prog.cellsOf 3 = 1 := by kernel_rfl
theorem cs_str : Tryd.prog.cellsOf 9 = 1 := by kernel_rfl
theorem cs_ratio : Tryd.prog.cellsOf 41 = 2 := by kernel_rfl
theorem cs_value : Tryd.prog.cellsOf 48 = 3 := by kernel_rfl
theorem cs_key : Tryd.prog.cellsOf 26 = 3 := by kernel_rfl
theorem cs_terms : Tryd.prog.cellsOf 22 = 1 := by kernel_rfl
theorem cs_cells : Tryd.prog.cellsOf 27 = 1 := by kernel_rfl
theorem opens_slice {T e : TypeId} {α : Type} [Inhabited α] {d : Kd α} {ok : α → Prop} (hT : Tryd.prog.underlying T = some (.slice e)) (hc : Tryd.prog.cellsOf e = d.sz) (he : Opens e d ok) : Opens T (Kd.slice e d) (fun l => ∀ x ∈ l, ok x) := by
  intro H enc W fuel cs y h
  rcases open_slice hT h with ⟨rfl, _⟩ | ⟨a, len, cap, m, n, D, Pl, rfl, _, hl, hm, hm2, _, hel⟩
  · exact ⟨[], ⟨none, 0, rfl, Nat.le_refl _, Kd.C_nil _ _⟩, fun x hx => (by cases hx)⟩
  · have hlm : len ≤ m := by rw [hm2]; split <;> omega
    have hx : ∀ i : Nat, ∃ x : α, i < len → ok x ∧ ∃ cs', W.cells? 0 (a.add (i * d.sz)) d.sz = some cs' ∧ d.K W x cs' := fun i => by
      by_cases hi : i < len
      · obtain ⟨cs', h1, h2⟩ := hel i (by omega)
        obtain ⟨x, hx, hk⟩ := he H enc W n cs' _ h2
        rw [hc] at h1
        exact ⟨x, fun _ => ⟨hk, cs', h1, hx⟩⟩
      · exact ⟨default, fun h => absurd h hi⟩
    obtain ⟨f, hf⟩ := Classical.axiomOfChoice hx
    have hll : ((List.range len).map f).length = len := by simp
    have hmx : maxLen ≤ 9223372036854775807 := by decide
    refine ⟨(List.range len).map f, ⟨some a, cap, by rw [hll], by rw [hll]; exact hl, ?_⟩, fun x hx => ?_⟩
    · rw [hll]
      refine ⟨hll, by omega, fun _ => ⟨a, rfl, fun j p hp => ?_⟩⟩
      have hj : j < len := by have := (List.getElem?_eq_some_iff.1 hp).1; rwa [hll] at this
      have hpj : p = f j := by simpa [hj] using hp.symm
      subst hpj
      obtain ⟨_, cs', h1, h2⟩ := (hf j) hj
      obtain ⟨hlen, hcell⟩ := cells_each h1
      refine ⟨cs', hlen, h2, fun i u hu => ?_⟩
      have hi : i < d.sz := by have := (List.getElem?_eq_some_iff.1 hu).1; omega
      have := hcell i hi
      rw [hu, add_add_] at this
      exact this
    · obtain ⟨i, hi, rfl⟩ := List.mem_map.1 hx
      exact ((hf i) (by simpa using hi)).1
theorem trod_parts {T : TypeId} {fs : Array Field} {H : Type} {enc : TypeId × Value → H} {W : World} {fuel : Nat} {cs : List Value} {y : DataW H × List MemPlace} (hT : Tryd.prog.underlying T = some (.struct fs)) (h : DataW.trod enc Tryd.prog W 0 (fun _ => true) true fuel T cs = some y) :
    cs.length = Tryd.prog.cellsOf T ∧ ∃ n, ∀ (i : Nat) (f : Field), fs[i]? = some f → ∃ yi, DataW.trod enc Tryd.prog W 0 (fun _ => true) true n f.type ((cs.drop f.offset).take (Tryd.prog.cellsOf f.type)) = some yi := by
  obtain ⟨xs, n, _, _, hl, hlen, hg⟩ := DataW.trod_struct hT h
  refine ⟨hl, n, fun i f hf => ?_⟩
  have hi : i < xs.length := by rw [hlen]; exact (Array.getElem?_eq_some_iff.1 hf).1
  exact ⟨xs[i], by rw [hg i f hf, List.getElem?_eq_getElem hi]⟩
theorem list_2 {α : Type} {l : List α} (h : l.length = 2) : ∃ c0 c1, l = [c0, c1] := by
  match l, h with
  | [c0, c1], _ => exact ⟨c0, c1, rfl⟩
theorem list_3 {α : Type} {l : List α} (h : l.length = 3) : ∃ c0 c1 c2, l = [c0, c1, c2] := by
  match l, h with
  | [c0, c1, c2], _ => exact ⟨c0, c1, c2, rfl⟩
theorem list_4 {α : Type} {l : List α} (h : l.length = 4) : ∃ c0 c1 c2 c3, l = [c0, c1, c2, c3] := by
  match l, h with
  | [c0, c1, c2, c3], _ => exact ⟨c0, c1, c2, c3, rfl⟩
theorem list_5 {α : Type} {l : List α} (h : l.length = 5) : ∃ c0 c1 c2 c3 c4, l = [c0, c1, c2, c3, c4] := by
  match l, h with
  | [c0, c1, c2, c3, c4], _ => exact ⟨c0, c1, c2, c3, c4, rfl⟩
theorem list_6 {α : Type} {l : List α} (h : l.length = 6) : ∃ c0 c1 c2 c3 c4 c5, l = [c0, c1, c2, c3, c4, c5] := by
  match l, h with
  | [c0, c1, c2, c3, c4, c5], _ => exact ⟨c0, c1, c2, c3, c4, c5, rfl⟩
theorem list_7 {α : Type} {l : List α} (h : l.length = 7) : ∃ c0 c1 c2 c3 c4 c5 c6, l = [c0, c1, c2, c3, c4, c5, c6] := by
  match l, h with
  | [c0, c1, c2, c3, c4, c5, c6], _ => exact ⟨c0, c1, c2, c3, c4, c5, c6, rfl⟩
set_option maxRecDepth 100000 in
theorem opens_ratio : Opens 41 k41 (fun x => I64 x.f0 ∧ I64 x.f1) := by
  intro H enc W fuel cs y h
  obtain ⟨hl, n, hg⟩ := trod_parts Tryd.underlying41 h
  rw [show Tryd.prog.cellsOf 41 = 2 by kernel_rfl] at hl
  obtain ⟨c0, c1, rfl⟩ := list_2 hl
  obtain ⟨y0, h0⟩ := hg 0 _ rfl
  obtain ⟨x0, k0, o0⟩ := opens_int H enc W n [c0] y0 (by simpa [cs_int, cs_str, cs_ratio, cs_value, cs_key, cs_terms, cs_cells] using h0)
  obtain ⟨y1, h1⟩ := hg 1 _ rfl
  obtain ⟨x1, k1, o1⟩ := opens_int H enc W n [c1] y1 (by simpa [cs_int, cs_str, cs_ratio, cs_value, cs_key, cs_terms, cs_cells] using h1)
  exact ⟨⟨x0, x1⟩, ⟨[c0], [c1], rfl, k0, k1⟩, ⟨o0, o1⟩⟩
set_option maxRecDepth 100000 in
theorem opens_weigh : Opens 43 k43 (TOk) := by
  intro H enc W fuel cs y h
  obtain ⟨hl, n, hg⟩ := trod_parts Tryd.underlying43 h
  rw [show Tryd.prog.cellsOf 43 = 7 by kernel_rfl] at hl
  obtain ⟨c0, c1, c2, c3, c4, c5, c6, rfl⟩ := list_7 hl
  obtain ⟨y0, h0⟩ := hg 0 _ rfl
  obtain ⟨x0, k0, o0⟩ := opens_int H enc W n [c0] y0 (by simpa [cs_int, cs_str, cs_ratio, cs_value, cs_key, cs_terms, cs_cells] using h0)
  obtain ⟨y1, h1⟩ := hg 1 _ rfl
  obtain ⟨x1, k1, o1⟩ := opens_int H enc W n [c1] y1 (by simpa [cs_int, cs_str, cs_ratio, cs_value, cs_key, cs_terms, cs_cells] using h1)
  obtain ⟨y2, h2⟩ := hg 2 _ rfl
  obtain ⟨x2, k2, o2⟩ := opens_int H enc W n [c2] y2 (by simpa [cs_int, cs_str, cs_ratio, cs_value, cs_key, cs_terms, cs_cells] using h2)
  obtain ⟨y3, h3⟩ := hg 3 _ rfl
  obtain ⟨x3, k3, o3⟩ := opens_ratio H enc W n [c3, c4] y3 (by simpa [cs_int, cs_str, cs_ratio, cs_value, cs_key, cs_terms, cs_cells] using h3)
  obtain ⟨y4, h4⟩ := hg 4 _ rfl
  obtain ⟨x4, k4, o4⟩ := opens_int H enc W n [c5] y4 (by simpa [cs_int, cs_str, cs_ratio, cs_value, cs_key, cs_terms, cs_cells] using h4)
  obtain ⟨y5, h5⟩ := hg 5 _ rfl
  obtain ⟨x5, k5, o5⟩ := opens_int H enc W n [c6] y5 (by simpa [cs_int, cs_str, cs_ratio, cs_value, cs_key, cs_terms, cs_cells] using h5)
  exact ⟨⟨x0, x1, x2, x3, x4, x5⟩, ⟨[c0], [c1, c2, c3, c4, c5, c6], rfl, k0, ⟨[c1], [c2, c3, c4, c5, c6], rfl, k1, ⟨[c2], [c3, c4, c5, c6], rfl, k2, ⟨[c3, c4], [c5, c6], rfl, k3, ⟨[c5], [c6], rfl, k4, k5⟩⟩⟩⟩⟩, ⟨o1, o2, o3.1, o3.2⟩⟩
set_option maxRecDepth 100000 in
theorem opens_value : Opens 48 k48 (fun x => I64 x.f1) := by
  intro H enc W fuel cs y h
  obtain ⟨hl, n, hg⟩ := trod_parts Tryd.underlying48 h
  rw [show Tryd.prog.cellsOf 48 = 3 by kernel_rfl] at hl
  obtain ⟨c0, c1, c2, rfl⟩ := list_3 hl
  obtain ⟨y0, h0⟩ := hg 0 _ rfl
  obtain ⟨x0, k0, o0⟩ := opens_int H enc W n [c0] y0 (by simpa [cs_int, cs_str, cs_ratio, cs_value, cs_key, cs_terms, cs_cells] using h0)
  obtain ⟨y1, h1⟩ := hg 1 _ rfl
  obtain ⟨x1, k1, o1⟩ := opens_int H enc W n [c1] y1 (by simpa [cs_int, cs_str, cs_ratio, cs_value, cs_key, cs_terms, cs_cells] using h1)
  obtain ⟨y2, h2⟩ := hg 2 _ rfl
  obtain ⟨x2, k2, o2⟩ := opens_str H enc W n [c2] y2 (by simpa [cs_int, cs_str, cs_ratio, cs_value, cs_key, cs_terms, cs_cells] using h2)
  exact ⟨⟨x0, x1, x2⟩, ⟨[c0], [c1, c2], rfl, k0, ⟨[c1], [c2], rfl, k1, k2⟩⟩, o1⟩
set_option maxRecDepth 100000 in
theorem opens_cell : Opens 50 k50 (fun x => I64 x.f0.f1) := by
  intro H enc W fuel cs y h
  obtain ⟨hl, n, hg⟩ := trod_parts Tryd.underlying50 h
  rw [show Tryd.prog.cellsOf 50 = 5 by kernel_rfl] at hl
  obtain ⟨c0, c1, c2, c3, c4, rfl⟩ := list_5 hl
  obtain ⟨y0, h0⟩ := hg 0 _ rfl
  obtain ⟨x0, k0, o0⟩ := opens_value H enc W n [c0, c1, c2] y0 (by simpa [cs_int, cs_str, cs_ratio, cs_value, cs_key, cs_terms, cs_cells] using h0)
  obtain ⟨y1, h1⟩ := hg 1 _ rfl
  obtain ⟨x1, k1, o1⟩ := opens_int H enc W n [c3] y1 (by simpa [cs_int, cs_str, cs_ratio, cs_value, cs_key, cs_terms, cs_cells] using h1)
  obtain ⟨y2, h2⟩ := hg 2 _ rfl
  obtain ⟨x2, k2, o2⟩ := opens_int H enc W n [c4] y2 (by simpa [cs_int, cs_str, cs_ratio, cs_value, cs_key, cs_terms, cs_cells] using h2)
  exact ⟨⟨x0, x1, x2⟩, ⟨[c0, c1, c2], [c3, c4], rfl, k0, ⟨[c3], [c4], rfl, k1, k2⟩⟩, o0⟩
set_option maxRecDepth 100000 in
theorem opens_key : Opens 26 k26 (fun _ => True) := by
  intro H enc W fuel cs y h
  obtain ⟨hl, n, hg⟩ := trod_parts Tryd.underlying26 h
  rw [show Tryd.prog.cellsOf 26 = 3 by kernel_rfl] at hl
  obtain ⟨c0, c1, c2, rfl⟩ := list_3 hl
  obtain ⟨y0, h0⟩ := hg 0 _ rfl
  obtain ⟨x0, k0, o0⟩ := opens_int H enc W n [c0] y0 (by simpa [cs_int, cs_str, cs_ratio, cs_value, cs_key, cs_terms, cs_cells] using h0)
  obtain ⟨y1, h1⟩ := hg 1 _ rfl
  obtain ⟨x1, k1, o1⟩ := opens_str H enc W n [c1] y1 (by simpa [cs_int, cs_str, cs_ratio, cs_value, cs_key, cs_terms, cs_cells] using h1)
  obtain ⟨y2, h2⟩ := hg 2 _ rfl
  obtain ⟨x2, k2, o2⟩ := opens_str H enc W n [c2] y2 (by simpa [cs_int, cs_str, cs_ratio, cs_value, cs_key, cs_terms, cs_cells] using h2)
  exact ⟨⟨x0, x1, x2⟩, ⟨[c0], [c1, c2], rfl, k0, ⟨[c1], [c2], rfl, k1, k2⟩⟩, trivial⟩
instance : Inhabited Wg := ⟨z43⟩
instance : Inhabited Ce := ⟨z50⟩
instance : Inhabited Ma := ⟨z24⟩
instance : Inhabited Rc := ⟨z29⟩
theorem opens_terms : Opens 22 (Kd.slice 43 k43) TsOk := opens_slice Tryd.underlying22 (by kernel_rfl) opens_weigh
theorem opens_cells : Opens 27 (Kd.slice 50 k50) CsOk := opens_slice Tryd.underlying27 (by kernel_rfl) opens_cell
set_option maxRecDepth 100000 in
theorem opens_match : Opens 24 k24 (fun x => I64 x.f2 ∧ TsOk x.f3) := by
  intro H enc W fuel cs y h
  obtain ⟨hl, n, hg⟩ := trod_parts Tryd.underlying24 h
  rw [show Tryd.prog.cellsOf 24 = 4 by kernel_rfl] at hl
  obtain ⟨c0, c1, c2, c3, rfl⟩ := list_4 hl
  obtain ⟨y0, h0⟩ := hg 0 _ rfl
  obtain ⟨x0, k0, o0⟩ := opens_str H enc W n [c0] y0 (by simpa [cs_int, cs_str, cs_ratio, cs_value, cs_key, cs_terms, cs_cells] using h0)
  obtain ⟨y1, h1⟩ := hg 1 _ rfl
  obtain ⟨x1, k1, o1⟩ := opens_int H enc W n [c1] y1 (by simpa [cs_int, cs_str, cs_ratio, cs_value, cs_key, cs_terms, cs_cells] using h1)
  obtain ⟨y2, h2⟩ := hg 2 _ rfl
  obtain ⟨x2, k2, o2⟩ := opens_int H enc W n [c2] y2 (by simpa [cs_int, cs_str, cs_ratio, cs_value, cs_key, cs_terms, cs_cells] using h2)
  obtain ⟨y3, h3⟩ := hg 3 _ rfl
  obtain ⟨x3, k3, o3⟩ := opens_terms H enc W n [c3] y3 (by simpa [cs_int, cs_str, cs_ratio, cs_value, cs_key, cs_terms, cs_cells] using h3)
  exact ⟨⟨x0, x1, x2, x3⟩, ⟨[c0], [c1, c2, c3], rfl, k0, ⟨[c1], [c2, c3], rfl, k1, ⟨[c2], [c3], rfl, k2, k3⟩⟩⟩, ⟨o2, o3⟩⟩
set_option maxRecDepth 100000 in
theorem opens_rec : Opens 29 k29 (fun x => CsOk x.f3) := by
  intro H enc W fuel cs y h
  obtain ⟨hl, n, hg⟩ := trod_parts Tryd.underlying29 h
  rw [show Tryd.prog.cellsOf 29 = 6 by kernel_rfl] at hl
  obtain ⟨c0, c1, c2, c3, c4, c5, rfl⟩ := list_6 hl
  obtain ⟨y0, h0⟩ := hg 0 _ rfl
  obtain ⟨x0, k0, o0⟩ := opens_key H enc W n [c0, c1, c2] y0 (by simpa [cs_int, cs_str, cs_ratio, cs_value, cs_key, cs_terms, cs_cells] using h0)
  obtain ⟨y1, h1⟩ := hg 1 _ rfl
  obtain ⟨x1, k1, o1⟩ := opens_int H enc W n [c3] y1 (by simpa [cs_int, cs_str, cs_ratio, cs_value, cs_key, cs_terms, cs_cells] using h1)
  obtain ⟨y2, h2⟩ := hg 2 _ rfl
  obtain ⟨x2, k2, o2⟩ := opens_int H enc W n [c4] y2 (by simpa [cs_int, cs_str, cs_ratio, cs_value, cs_key, cs_terms, cs_cells] using h2)
  obtain ⟨y3, h3⟩ := hg 3 _ rfl
  obtain ⟨x3, k3, o3⟩ := opens_cells H enc W n [c5] y3 (by simpa [cs_int, cs_str, cs_ratio, cs_value, cs_key, cs_terms, cs_cells] using h3)
  exact ⟨⟨x0, x1, x2, x3⟩, ⟨[c0, c1, c2], [c3, c4, c5], rfl, k0, ⟨[c3], [c4, c5], rfl, k1, ⟨[c4], [c5], rfl, k2, k3⟩⟩⟩, o3⟩
theorem opens_matches : Opens 31 (Kd.slice 24 k24) (fun l => ∀ x ∈ l, I64 x.f2 ∧ TsOk x.f3) := opens_slice Tryd.underlying31 (by kernel_rfl) opens_match
set_option maxRecDepth 100000 in
theorem open_rec {H : Type} {enc : TypeId × Value → H} {W : World} {v : Value} {d : DataW H} {ps : List MemPlace} {base : Nat} (hv : Value.okWide Tryd.prog W .any base 29 v) (h : DataW.Trod enc Tryd.prog W 0 (fun _ => true) true 29 v d ps) :
    ∃ (r0 : Int) (r1 r2 : ByteArray) (r3 r4 : Int) (A : Option Addr) (c : Nat) (l : List Ce), v = .agg #[.int .i64 r0, .string r1, .string r2, .int .i64 r3, .int .i64 r4, .slice A l.length c] ∧ l.length ≤ c ∧ Kd.C k50 W A l.length l ∧ CsOk l := by
  obtain ⟨cs, rfl, _⟩ := okWide_struct Tryd.underlying29 hv
  obtain ⟨fuel, hf⟩ := h
  obtain ⟨x, hK, ho⟩ := opens_rec H enc W fuel _ _ hf
  obtain ⟨A, c, e, hl, hC⟩ := k29_open hK
  refine ⟨x.f0.f0, x.f0.f1, x.f0.f2, x.f1, x.f2, A, c, x.f3, ?_, hl, hC, ho⟩
  obtain ⟨cs⟩ := cs
  simp only [Value.cells] at e
  subst e
  rfl
set_option maxRecDepth 100000 in
theorem open_slc {T e : TypeId} {α : Type} {d0 : Kd α} {ok : List α → Prop} (hT : Tryd.prog.underlying T = some (.slice e)) (ho : Opens T (Kd.slice e d0) ok) {H : Type} {enc : TypeId × Value → H} {W : World} {v : Value} {d : DataW H} {ps : List MemPlace} {base : Nat} (hv : Value.okWide Tryd.prog W .any base T v) (h : DataW.Trod enc Tryd.prog W 0 (fun _ => true) true T v d ps) :
    ∃ (A : Option Addr) (c : Nat) (l : List α), v = .slice A l.length c ∧ l.length ≤ c ∧ Kd.C d0 W A l.length l ∧ ok l := by
  obtain ⟨a, len, cap, rfl⟩ := okWide_slice hT hv
  obtain ⟨fuel, hf⟩ := h
  obtain ⟨x, ⟨A, c, e, hl, hC⟩, hk⟩ := ho H enc W fuel _ _ hf
  refine ⟨A, c, x, ?_, hl, hC, hk⟩
  simpa [Value.cells] using e
end Go.Proofs.YtiffkknhnmpgbaaDoor
