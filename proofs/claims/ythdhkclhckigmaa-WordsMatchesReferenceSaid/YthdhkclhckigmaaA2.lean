/- The iterator over the words of a text: its closures flush and the iterator itself. -/
import Derived.Test.YthdhkclhckigmaaA1
import Derived.Outline
import Derived.Lib.Hide
namespace Go.Proofs.Ythdhkclhckigmaa
open Go Go.RowKit Go.Shelf Go.Proofs.YthdhkclhckigmaaW.PrintWords
attribute [local go_sem] Oper.semAt_some
set_option linter.unusedVariables false
set_option linter.unusedSimpArgs false

def numsB (l : List UInt8) : List Int := l.map fun b => (b.toNat : Int)
theorem strOfNums_numsB (l : List UInt8) : strOfNums (numsB l) = ofL l := by
  unfold strOfNums numsB ofL
  congr 2
  rw [List.map_map]
  conv => rhs; rw [← List.map_id l]
  apply List.map_congr_left
  intro b _
  simp
theorem ofL_toList (l : List UInt8) : (ofL l).toList = l := by
  rw [Go.ByteArray.toList_eq]; rfl

theorem own_zero {W : World} {base : Nat} {e : TypeId} {size n c : Nat} {A : Option Addr} {xs : List Value} (h : W.ownsRow base e size (.slice A n c) n xs) : W.ownsRow base e size (.slice A 0 c) 0 [] := by
  refine ⟨by simp, ?_⟩
  rcases h.2 with ⟨h1, h2⟩ | ⟨g, cap, cur, hv, hb, hg, h1, h2, h3, h4⟩
  · injection h1 with h1 h3 h4
    subst h1 h3 h4
    exact .inl ⟨rfl, rfl⟩
  · injection hv with hv h5 h6
    subst hv h6
    exact .inr ⟨g, _, cur, rfl, hb, hg, Nat.zero_le _, h2, h3, by simp⟩

/-- The iterator's own state: the open word in a box, the yield in a box, the text; and what the caller keeps. -/
structure It (B0 Bt l : Nat) (s : ByteArray) (J : List (List UInt8) → World → Prop) (d : List (List UInt8) × List UInt8) (W : World) : Prop where
  word : ∃ v, Boxed W (B0 + 1) 32 v ∧ W.ownsRow B0 5 1 v d.2.length (nums .u8 (numsB d.2))
  yld : Boxed W B0 30 (.func (.yield l) #[] #[])
  text : Boxed W Bt 9 (.string s)
  inv : J d.1 W

abbrev IterTs : List TypeId := [5, 30, 32]

theorem flush_in (n l B0 Bt : Nat) (s : ByteArray) (J : List (List UInt8) → World → Prop) (xs : List (List UInt8)) (hBt : Bt < B0) (hJ : AbidesT (TyS IterTs B0) J)
    (hY : ∀ m pre x W1, J pre W1 → (pre ++ [x]) <+: xs → YieldAt Fence.wide m Try.prog l #[.string (ofL x)] W1 fun e W' => e = .returned (.bool true) ∧ J (pre ++ [x]) W' ∧ Keeps (fun k o => k = Bt ∨ TyS IterTs B0 k o) W1 W')
    (dn : List (List UInt8)) (cur : List UInt8) (hd : flushW (dn, cur) <+: xs) (W : World) (h : It B0 Bt l s J (dn, cur) W) :
    CallsIn Fence.wide n Try.prog 35 #[.pointer (some ⟨B0 + 1, 0, none⟩), .pointer (some ⟨B0, 0, none⟩)] W fun e W2 => e = .returned (.bool true) ∧ It B0 Bt l s J (flushW (dn, cur), []) W2 := by
  obtain ⟨v, hv, hrow⟩ := h.word
  dsimp only at hrow
  have hconv := own_string (P := Try.prog) (src := 32) (dst := 9) (e := 5) Try.underlying32 Try.underlying5 Try.underlying9 hrow
  rw [strOfNums_numsB] at hconv
  obtain ⟨A, c, rfl⟩ := own_slice hrow
  obtain ⟨i5, hi5, hz⟩ := Option.map_eq_some_iff.1 Kinfo5
  simp only [Prod.mk.injEq] at hz
  have hcut := (print_take_int (P := Try.prog) (k := .u8) 32 5 Try.underlying32 hi5 hz.2.1 A c (numsB cur) 0 (Int.le_refl _) (by simp) (by have := own_le hrow; simpa [numsB] using this)).1
  rw [show (numsB cur).length = cur.length by simp [numsB]] at hcut
  simp only [Int.toNat_zero, List.take_zero, List.length_nil] at hcut
  have hc1 := hv.cell
  have hf1 := hv.frozen
  have hy1 := h.yld.cell
  have hlt := hv.lt
  obtain ⟨W1, hW1⟩ : ∃ W1, W.setCell ⟨B0 + 1, 0, none⟩ (.slice A 0 c) = W1 := ⟨_, rfl⟩
  have hturn : Turn (TyS IterTs B0) W W1 := by rw [← hW1]; exact Turn.box _ hv (TyS.cells.2 ⟨by omega, by decide⟩)
  have hv1 : Boxed W1 (B0 + 1) 32 (.slice A 0 c) := by rw [← hW1]; exact hv.set _
  have hrow1 : W1.ownsRow B0 5 1 (.slice A 0 c) 0 [] := by
    rw [← hW1]
    exact (own_zero hrow).kept (grownBy_setCell' W _ _) (.inr (hv.not_row (by decide) (own_zero hrow)).symm)
  have hyl1 : Boxed W1 B0 30 (.func (.yield l) #[] #[]) := by rw [← hW1]; exact h.yld.other (by omega) _
  have htx1 : Boxed W1 Bt 9 (.string s) := by rw [← hW1]; exact h.text.other (by omega) _
  have hJ1 : J dn W1 := hJ _ _ _ h.inv hturn
  have hy2 := hyl1.cell
  cases cur with
  | nil =>
    have e0 : ofL [] = (⟨#[]⟩ : ByteArray) := rfl
    rw [e0] at hconv
    simp only [List.length_nil] at hconv hcut hc1 hv
    refine callsIn_of_wp Try.func35 rfl trivial ?_ rfl
    simp only [Try.ntmps35, List.size_toArray, List.length_cons, List.length_nil, Nat.reduceAdd, Nat.reduceSub, Array.replicate_succ, Array.replicate_zero, List.push_toArray, List.append_toArray, List.nil_append, List.cons_append]
    gi_wp2
    refine ⟨fun _ h => (by cases h), ?_⟩
    gi_wp2
    go_ret
    exact ⟨rfl, ⟨_, hv1, hrow1⟩, hyl1, htx1, by simpa [flushW] using hJ1⟩
  | cons x r =>
    have hfl : flushW (dn, x :: r) = dn ++ [x :: r] := by simp [flushW]
    rw [hfl] at hd ⊢
    have hR0 := hY (n - 1) dn (x :: r) W1 hJ1 hd
    obtain ⟨t, ht⟩ : ∃ t, ofL (x :: r) = t := ⟨_, rfl⟩
    clear hrow h
    obtain ⟨m, hm⟩ : ∃ m, (x :: r).length = m := ⟨_, rfl⟩
    rw [hm] at hconv hcut hc1 hv
    clear hm
    have ht1 : t.toList = x :: r := by rw [← ht, ofL_toList]
    have ht2 : t.toList.isEmpty = false := by rw [ht1]; rfl
    have HT := Lib.hid ht1
    clear ht1
    rw [ht] at hconv hR0
    obtain ⟨fn, tmps, assign, body, hy, hR⟩ := hR0
    have hdd : ∀ k : Nat, (Fence.wide.depth.isSome = true → 1 ≤ k) := fun k h => by cases h
    subst hW1
    refine callsIn_of_wp Try.func35 rfl trivial ?_ rfl
    simp only [Try.ntmps35, List.size_toArray, List.length_cons, List.length_nil, Nat.reduceAdd, Nat.reduceSub, Array.replicate_succ, Array.replicate_zero, List.push_toArray, List.append_toArray, List.nil_append, List.cons_append]
    gi_wp2
    refine ⟨hdd _, hR.mono ?_⟩
    rintro e W3 ⟨rfl, hJ3, hk3⟩
    gi_wp2
    go_ret
    refine ⟨rfl, ⟨_, Boxed.keeps hv1 hk3 (.inr (TyS.cells.2 ⟨by omega, by decide⟩)), ?_⟩, Boxed.keeps hyl1 hk3 (.inr (TyS.cells.2 ⟨by omega, by decide⟩)), Boxed.keeps htx1 hk3 (.inl rfl), hJ3⟩
    exact ownsRow_keeps hrow1 hk3 (fun k cur hk => .inr (TyS.cells.2 ⟨hk, by decide⟩))

end Go.Proofs.Ythdhkclhckigmaa
