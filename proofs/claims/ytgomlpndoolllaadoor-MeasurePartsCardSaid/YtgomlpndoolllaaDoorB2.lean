/- words.Tokens: for every text of at most 1000000 bytes the words of the text, sorted, each once; in the form of the printed contracts. -/
import Derived.Test.YtgomlpndoolllaaDoorA5
import GoSem.Op.String
import Derived.Test.YtgomlpndoolllaaDoorH0
import Derived.Sort.MapsRangeIn
import Derived.Sort.KeysCollected
import Derived.Sort.OwnSorted
import Derived.Maps.Views
import Derived.Maps.OwnIn
import Derived.StringKeys
/- The order of texts, and sorted lists without repetitions, as plain functions. -/
namespace Go.Proofs.YtgomlpndoolllaaDoor
open Go

abbrev bl : List UInt8 → List UInt8 → Bool := Op.bytesLess

theorem bl_nil_r (x : List UInt8) : bl x [] = false := by cases x <;> rfl
theorem bl_nil_l (y : List UInt8) : bl [] y = decide (y ≠ []) := by cases y <;> rfl
theorem bl_cons (a b : UInt8) (x y : List UInt8) : bl (a :: x) (b :: y) = (decide (a < b) || (a == b && bl x y)) := rfl
theorem bl_irrefl : ∀ x : List UInt8, bl x x = false
  | [] => rfl
  | a :: x => by rw [bl_cons, bl_irrefl x]; simp
theorem bl_trans : ∀ {x y z : List UInt8}, bl x y = true → bl y z = true → bl x z = true
  | _, [], _, h, _ => by rw [bl_nil_r] at h; cases h
  | _, _ :: _, [], _, h => by rw [bl_nil_r] at h; cases h
  | [], _ :: _, _ :: _, _, _ => rfl
  | a :: x, b :: y, c :: z, h, k => by
    rw [bl_cons] at h k ⊢
    simp only [Bool.or_eq_true, decide_eq_true_eq, Bool.and_eq_true, beq_iff_eq] at h k ⊢
    rcases h with h | ⟨rfl, h⟩
    · rcases k with k | ⟨rfl, k⟩
      · exact .inl (UInt8.lt_trans h k)
      · exact .inl h
    · rcases k with k | ⟨rfl, k⟩
      · exact .inl k
      · exact .inr ⟨rfl, bl_trans h k⟩
theorem bl_total : ∀ {x y : List UInt8}, x ≠ y → bl x y = true ∨ bl y x = true
  | [], [], h => absurd rfl h
  | [], _ :: _, _ => .inl rfl
  | _ :: _, [], _ => .inr rfl
  | a :: x, b :: y, h => by
    rw [bl_cons, bl_cons]
    simp only [Bool.or_eq_true, decide_eq_true_eq, Bool.and_eq_true, beq_iff_eq]
    by_cases hab : a = b
    · subst hab
      have hxy : x ≠ y := fun e => h (by rw [e])
      rcases bl_total hxy with k | k
      · exact .inl (.inr ⟨rfl, k⟩)
      · exact .inr (.inr ⟨rfl, k⟩)
    · have : a.toNat ≠ b.toNat := fun e => hab (UInt8.toNat_inj.1 e)
      rcases Nat.lt_or_gt_of_ne this with k | k
      · exact .inl (.inl (UInt8.lt_iff_toNat_lt.2 k))
      · exact .inr (.inl (UInt8.lt_iff_toNat_lt.2 k))
theorem bl_asymm {x y : List UInt8} (h : bl x y = true) : bl y x = false := by
  cases k : bl y x with
  | false => rfl
  | true => have := bl_trans h k; rw [bl_irrefl] at this; cases this
theorem bl_ne {x y : List UInt8} (h : bl x y = true) : x ≠ y := fun e => by rw [e, bl_irrefl] at h; cases h

/-- Each element is less than all that follow. -/
def Inc (l : List (List UInt8)) : Prop := l.Pairwise fun x y => bl x y = true
theorem Inc.ext : ∀ {a b : List (List UInt8)}, Inc a → Inc b → (∀ x, x ∈ a ↔ x ∈ b) → a = b
  | [], [], _, _, _ => rfl
  | [], y :: b, _, _, h => absurd ((h y).2 (List.mem_cons_self)) (by simp)
  | x :: a, [], _, _, h => absurd ((h x).1 (List.mem_cons_self)) (by simp)
  | x :: a, y :: b, ha, hb, h => by
    have ha' := List.pairwise_cons.1 ha
    have hb' := List.pairwise_cons.1 hb
    have hxy : x = y := by
      rcases List.mem_cons.1 ((h x).1 List.mem_cons_self) with e | e
      · exact e
      · rcases List.mem_cons.1 ((h y).2 List.mem_cons_self) with e' | e'
        · exact e'.symm
        · have h1 := hb'.1 x e
          have h2 := ha'.1 y e'
          rw [bl_asymm h1] at h2; cases h2
    subst hxy
    congr 1
    refine Inc.ext ha'.2 hb'.2 (fun z => ?_)
    constructor
    · intro hz
      rcases List.mem_cons.1 ((h z).1 (List.mem_cons_of_mem _ hz)) with e | e
      · subst e; have := ha'.1 z hz; rw [bl_irrefl] at this; cases this
      · exact e
    · intro hz
      rcases List.mem_cons.1 ((h z).2 (List.mem_cons_of_mem _ hz)) with e | e
      · subst e; have := hb'.1 z hz; rw [bl_irrefl] at this; cases this
      · exact e
theorem Inc.nodup {l : List (List UInt8)} (h : Inc l) : l.Nodup := h.imp (fun h => bl_ne h)

def insU (x : List UInt8) : List (List UInt8) → List (List UInt8)
  | [] => [x]
  | y :: r => if x = y then y :: r else if bl x y = true then x :: y :: r else y :: insU x r
def sortU : List (List UInt8) → List (List UInt8)
  | [] => []
  | x :: r => insU x (sortU r)
theorem mem_insU (x : List UInt8) : ∀ (l : List (List UInt8)) (z : List UInt8), z ∈ insU x l ↔ z = x ∨ z ∈ l
  | [], z => by simp [insU]
  | y :: r, z => by
    unfold insU
    split
    · rename_i h; subst h; simp
    · split
      · simp
      · rw [List.mem_cons, mem_insU x r z, List.mem_cons]
        constructor
        · rintro (h | h | h) <;> simp [h]
        · rintro (h | h | h) <;> simp [h]
theorem insU_inc (x : List UInt8) : ∀ (l : List (List UInt8)), Inc l → Inc (insU x l)
  | [], _ => List.pairwise_singleton _ _
  | y :: r, h => by
    have h' := List.pairwise_cons.1 h
    unfold insU
    split
    · exact h
    · rename_i hne
      split
      · rename_i hxy
        refine List.pairwise_cons.2 ⟨fun z hz => ?_, h⟩
        rcases List.mem_cons.1 hz with e | e
        · subst e; exact hxy
        · exact bl_trans hxy (h'.1 z e)
      · rename_i hxy
        refine List.pairwise_cons.2 ⟨fun z hz => ?_, insU_inc x r h'.2⟩
        rcases (mem_insU x r z).1 hz with e | e
        · subst e; exact (bl_total hne).resolve_left hxy
        · exact h'.1 z e
theorem sortU_inc : ∀ l, Inc (sortU l)
  | [] => List.Pairwise.nil
  | x :: r => insU_inc x _ (sortU_inc r)
theorem mem_sortU : ∀ (l : List (List UInt8)) (z : List UInt8), z ∈ sortU l ↔ z ∈ l
  | [], z => by simp [sortU]
  | x :: r, z => by rw [sortU, mem_insU, mem_sortU r z, List.mem_cons]
theorem sortU_eq {l t : List (List UInt8)} (ht : Inc t) (h : ∀ x, x ∈ t ↔ x ∈ l) : t = sortU l := ht.ext (sortU_inc l) (fun x => by rw [h, mem_sortU])
theorem sortU_of_inc {t : List (List UInt8)} (ht : Inc t) : sortU t = t := (sortU_eq ht (fun _ => Iff.rfl)).symm
theorem sortU_congr {l r : List (List UInt8)} (h : ∀ x, x ∈ l ↔ x ∈ r) : sortU l = sortU r := sortU_eq (sortU_inc l) (fun x => by rw [mem_sortU, h])
theorem insU_len (x : List UInt8) : ∀ l : List (List UInt8), (insU x l).length ≤ l.length + 1
  | [] => by simp [insU]
  | y :: r => by
    unfold insU
    split
    · simp
    · split
      · simp
      · have := insU_len x r; simp; omega
theorem sortU_len : ∀ l : List (List UInt8), (sortU l).length ≤ l.length
  | [] => by simp [sortU]
  | x :: r => by have := insU_len x (sortU r); have := sortU_len r; simp [sortU]; omega

/-- A list without repetitions, sorted by 'not greater'. -/
theorem merge_inc {ss : List (List UInt8)} (hn : ss.Nodup) (le : List UInt8 → List UInt8 → Bool) (hle : ∀ x y, le x y = !bl y x) : Inc (ss.mergeSort le) ∧ ∀ x, x ∈ ss.mergeSort le ↔ x ∈ ss := by
  have hp : (ss.mergeSort le).Perm ss := List.mergeSort_perm ss le
  refine ⟨?_, fun x => hp.mem_iff⟩
  have hs := List.pairwise_mergeSort (le := le) (fun a b c h1 h2 => by
    rw [hle] at h1 h2 ⊢
    by_cases hab : a = b
    · subst hab; exact h2
    · by_cases hbc : b = c
      · subst hbc; exact h1
      · simp only [Bool.not_eq_true'] at h1 h2 ⊢
        have k1 := (bl_total hab).resolve_right (by rw [h1]; simp)
        have k2 := (bl_total hbc).resolve_right (by rw [h2]; simp)
        exact bl_asymm (bl_trans k1 k2)) (fun a b => by
    rw [hle, hle]
    cases h : bl b a with
    | false => simp
    | true => rw [bl_asymm h]; simp) ss
  have hnd : (ss.mergeSort le).Nodup := hp.nodup_iff.2 hn
  refine (hs.and hnd).imp (fun {a b} h => ?_)
  have h1 := h.1
  rw [hle] at h1
  simp only [Bool.not_eq_true'] at h1
  exact (bl_total h.2).resolve_right (by rw [h1]; simp)

end Go.Proofs.YtgomlpndoolllaaDoor

/- words.sorted: the keys of a set of texts that the call has made, sorted. -/
namespace Go.Proofs.YtgomlpndoolllaaDoor
open Go Go.RowKit Go.Shelf Go.Maps Go.Sort Go.Proofs.YtgomlpndoolllaaDoorW.PrintWords
attribute [local go_sem] Oper.semAt_some
set_option linter.unusedVariables false
set_option linter.unusedSimpArgs false

theorem Klaw9 : Keyed Tryd.prog 9 := string_keyed Tryd.underlying9
noncomputable abbrev setElem : Value → Option (DataW Unit × List MemPlace) := plainElem (H := Unit) Tryd.prog 4

set_option maxRecDepth 100000 in
set_option maxHeartbeats 1000000 in
theorem sorted_in (n b nn : Nat) (D0 : DataW Unit) (w : World) (hown : w.ownsMap Tryd.prog 9 setElem b nn D0) (hsz : Maps.size D0 ≤ 1000000) :
    CallsIn Fence.wide n Tryd.prog 66 #[.map (some b)] w fun e w' => ∃ (v : Value) (ss : List (List UInt8)), e = .returned v ∧ (ss.Nodup ∧ ∀ x, x ∈ ss ↔ Maps.has D0 (.string x) = true) ∧
      w'.ownsRow w.heap.size 9 1 v ss.length ((ss.mergeSort leB).map encStr) ∧ Below w.heap.size w w' := by
  have hdd : ∀ k : Nat, (Fence.wide.depth.isSome = true → 1 ≤ k) := fun k h => by cases h
  obtain ⟨i0, hi, hz0, hz1, hz2⟩ := info_parts Kinfo9
  have hbl := hown.lt
  refine callsIn_of_wp Tryd.func66 rfl trivial ?_ rfl
  simp only [Tryd.ntmps66, List.size_toArray, List.length_cons, List.length_nil, Nat.reduceAdd, Nat.reduceSub, Array.replicate_succ, Array.replicate_zero, List.push_toArray, List.append_toArray, List.nil_append, List.cons_append]
  gi_wp2_with (gi_at_range; refine wpListIn_range_own _ rfl _ 57 rfl 9 4 Klaw9 Tryd.underlying57 _ b nn _ rfl hown ?_; intro w0 hrg0 hg0 hs0)
  go_frame
  gi_loopw [3] (fun v wr => ∃ (left : Lit → Bool) (cnt : Nat) (ss : List (List UInt8)), wr.ranges Tryd.prog 9 setElem b w.heap.size nn D0 left cnt ∧ ss.length + cnt ≤ Maps.size D0 ∧
      wr.ownsRow w.heap.size 9 1 v ss.length (ss.map encStr) ∧ Collected D0 left ss ∧ Below w.heap.size w wr)
    (fun _ wr => wr.rangeLeft b w.heap.size)
  case atStart =>
    exact ⟨_, _, [], hrg0, by simp, World.ownsRow_nil _ _ _ _, Collected.start D0, (Below.refl _ _).grown hg0 (Nat.le_refl _) (fun j hj => by cases hj)⟩
  case round =>
    obtain ⟨left, cnt, ss, hrg, hcs, hrow, hC, hnx⟩ := hrel
    gi_wp2_with (gi_at_next; refine wpListIn_next_ranges _ rfl _ rfl 9 Klaw9 setElem encStr id (fun key kl hk => by obtain ⟨x, hx, _⟩ := Maps.keyOf_str Tryd.underlying9 hk; exact ⟨x, hx⟩) (fun v _ _ => ⟨v, rfl⟩) b w.heap.size nn _ _ _ rfl hrg ?_ ?_)
    · -- nothing is left
      intro hc0 hl0
      rcases hrow.2 with ⟨rfl, hl⟩ | ⟨g, cap, cur, rfl, hbase, hb, h1, h2, h3, h4⟩
      · obtain rfl : ss = [] := List.eq_nil_of_length_eq_zero hl
        gi_wp2_with (refine ⟨trivial, hdd _, ?_⟩; gi_at_call 75; refine (callsIn_wide.2 (Tryd.slices_Sort_string_none none 0 _)).mono ?_; rintro e w' ⟨rfl, rfl⟩)
        go_ret
        exact ⟨_, [], rfl, ⟨hC.1, fun x => by rw [hC.2, hl0]; simp⟩, by simpa using World.ownsRow_nil _ _ _ _, hnx⟩
      · have hH : Holds encStr wr g 0 ss.toArray := holds_of_block hb (by simpa using h4)
        have hgl : g < wr.heap.size := (Array.getElem?_eq_some_iff.1 hb).1
        have hc := Tryd.slices_Sort_string g 0 cap ss wr hH hgl (by omega)
        gi_wp2_with (refine ⟨trivial, hdd _, ?_⟩; gi_at_call 75; refine (callsIn_wide.2 hc).mono ?_; rintro e w' ⟨rfl, nn, os, rfl⟩)
        go_ret
        exact ⟨_, ss, rfl, ⟨hC.1, fun x => by rw [hC.2, hl0]; simp⟩, ownsRow_sorted (by simp) hbase hb h1 h2 h3, hnx.grown (grownBy_sorted _) hnx.size (fun j hj => by cases hj; exact hbase)⟩
    · -- an entry has come
      intro x c kl yd yp w2 cnt2 hkey hlk hv hat hrg2 hlt hg2 hs2 hen
      obtain ⟨x', ex, rfl, _⟩ := Maps.keyOf_str Tryd.underlying9 hkey
      obtain rfl : x = x' := encStr_inj ex
      have hrow2 := hrow.kept hg2 (Or.inr (row_ne_iter hrow hrg).symm)
      clear hs2
      gi_wp2_with (gi_at_builtin; refine wpListIn_append_own _ rfl _ _ 22 rfl w.heap.size 9 i0 (.string ⟨#[]⟩) 1 16 Tryd.underlying22 hi hz0 hz1 hz2 rfl (by decide) _ _ _ rfl (hrow2.alloc _) ⟨w2.heap.size, 0, none⟩ 1 1 [encStr x] rfl rfl (cell_one_new _ _ _) (by simp [Value.oneCell', encStr]) (by unfold maxLen at *; omega) (by omega) (by have := hnx.size; have := hg2.size; simp; omega) ?_; intro v' w3 hown' hg3 hnil3; go_frame)
      have hrg3 := (hrg2.alloc _).kept hg3 (row_ne_low hrow2 hbl) (row_ne_iter hrow2 hrg2)
      go_roundw
      case rel =>
        refine ⟨_, cnt2, ss ++ [x], hrg3, by simp; omega, by simpa using hown', hC.step hlk hat, ?_⟩
        exact ((hnx.grown hg2 hnx.size (fun j hj => by cases hj; exact Nat.le_refl _)).alloc (by have := hnx.size; have := hg2.size; omega) _).grown hg3 (by have := hnx.size; have := hg2.size; simp; omega) (fun j hj => (hrow2.lt j hj).1)
      case measure => rw [hrg3.left_eq, hrg.left_eq]; exact hlt

end Go.Proofs.YtgomlpndoolllaaDoor

namespace Go.Proofs.YtgomlpndoolllaaDoor
open Go Go.RowKit Go.Shelf Go.Maps Go.Sort Go.Proofs.YtgomlpndoolllaaDoorW.PrintWords
attribute [local go_sem] Oper.semAt_some
set_option linter.unusedVariables false
set_option linter.unusedSimpArgs false

theorem bl_lt : ∀ (x y : List UInt8), bl x y = true ↔ x < y
  | x, [] => by rw [bl_nil_r]; simp
  | [], y :: ys => by simp [bl, Op.bytesLess]
  | a :: x, b :: y => by
    rw [bl_cons, List.cons_lt_cons_iff, ← bl_lt x y]
    simp
theorem leB_bl (x y : List UInt8) : leB x y = !bl y x := by
  have h := bl_lt y x
  show decide (x ≤ y) = !bl y x
  by_cases hy : y < x
  · rw [h.2 hy]
    simp only [Bool.not_true, decide_eq_false_iff_not]
    exact List.not_le.2 hy
  · have : bl y x = false := by
      cases hb : bl y x with
      | false => rfl
      | true => exact absurd (h.1 hb) hy
    rw [this]
    simp only [Bool.not_false, decide_eq_true_eq]
    exact List.not_lt.1 hy

theorem ownsMap_turn {S : Nat → Obj → Prop} {W W' : World} {P : Program} {k : TypeId} {R : Value → Option (DataW Unit × List MemPlace)} {b n : Nat} {D : DataW Unit} (h : W.ownsMap P k R b n D) (ht : Turn S W W') (hS : ∀ es c, ¬ S b (.map es c)) : W'.ownsMap P k R b n D := by
  obtain ⟨es, clock, hb, F, hs, hD⟩ := h
  exact ⟨es, clock, ht.same b _ hb (hS es clock), F, hs, hD⟩

abbrev setD (l : List (List UInt8)) : DataW Unit := setOf (.lit (.bool true)) (l.map Lit.string)
theorem setD_size (l : List (List UInt8)) : Maps.size (setD l) ≤ l.length := by
  rw [size_setOf _ _ (fun x hx => by obtain ⟨y, _, rfl⟩ := List.mem_map.1 hx; trivial)]
  have key : ∀ (xs acc : List Lit), (xs.foldl addKey acc).length ≤ acc.length + xs.length := by
    intro xs
    induction xs with
    | nil => simp
    | cons x r ih =>
      intro acc
      refine Nat.le_trans (ih _) ?_
      unfold addKey
      split <;> simp <;> omega
  simpa using key (l.map Lit.string) []
theorem setD_has (l : List (List UInt8)) (x : List UInt8) : Maps.has (setD l) (.string x) = true ↔ x ∈ l := by
  rw [has_setOf _ _ _ (fun x hx => by obtain ⟨y, _, rfl⟩ := List.mem_map.1 hx; trivial), List.any_map, List.any_eq_true]
  constructor
  · rintro ⟨y, hy, he⟩
    simp only [Function.comp, Lit.sameKey, beq_iff_eq] at he
    subst he; exact hy
  · intro hx
    exact ⟨x, hx, by simp [Lit.sameKey]⟩

def words_Tokens.f (a0 : ByteArray) : Option (List ByteArray) := if a0.size ≤ 1000000 then some ((sortU (wordsL a0.data.toList)).map ofL) else none

theorem encs_strs (t : List (List UInt8)) : t.map encStr = encs Value.string (t.map ofL) := by
  unfold encs; rw [List.map_map]; rfl
theorem R_of_own {w : World} {base n : Nat} {v : Value} {t : List (List UInt8)} (h : w.ownsRow base 9 1 v n (t.map encStr)) (hn : n = t.length) : Kd.R Kd.string 9 w base (fun _ => True) v (t.map ofL) := by
  subst hn
  refine ⟨fun _ _ => trivial, t.map encStr, by rw [List.length_map]; exact h, ?_⟩
  refine ⟨by simp [Kd.string, Kd.scalar], fun j p hj => ?_⟩
  rw [List.getElem?_map] at hj
  cases ht : t[j]? with
  | none => rw [ht] at hj; cases hj
  | some x =>
    rw [ht] at hj
    simp at hj
    subst hj
    show ((t.map encStr).drop (j * 1)).take 1 = [Value.string (ofL x)]
    have hjl := (List.getElem?_eq_some_iff.1 ht)
    obtain ⟨hlt, he⟩ := hjl
    rw [Nat.mul_one, List.drop_eq_getElem_cons (by simpa using hlt)]
    simp [he, ofL]

set_option maxRecDepth 100000 in
set_option maxHeartbeats 1000000 in
theorem words_Tokens.calls (a0 : ByteArray) (r : List ByteArray) (w : World) (h : words_Tokens.f a0 = some r) :
    Calls Tryd.prog 53 #[.string a0] w fun e w' => ∃ v0_ : Value, e = .returned (v0_) ∧ Kd.R Kd.string 9 w' w.heap.size (fun _ => True) v0_ r ∧ Below w.heap.size w w' := by
  have hdd : ∀ k : Nat, (Fence.wide.depth.isSome = true → 1 ≤ k) := fun k h => by cases h
  unfold words_Tokens.f at h
  split at h
  · rename_i hs
    obtain rfl := Option.some.inj h
    clear h
    have hlen := words_len a0.data.toList
    have hll : a0.data.toList.length = a0.size := Array.length_toList
    rw [hll] at hlen
    have hwl : ∀ x, x ∈ wordsL a0.data.toList → x.length ≤ 1000000 := fun x hx => Nat.le_trans (word_len hx) (by rw [hll]; exact hs)
    obtain ⟨xs, hxs⟩ : ∃ xs, wordsL a0.data.toList = xs := ⟨_, rfl⟩
    have hmm := @run_makeMap Tryd.prog
    refine (callsIn_wide (n := 6)).1 ?_
    refine callsIn_of_wp_marks Tryd.func53 rfl trivial ?_ rfl
    simp only [Tryd.ntmps53, List.size_toArray, List.length_cons, List.length_nil, Nat.reduceAdd, Nat.reduceSub, Array.replicate_succ, Array.replicate_zero, List.push_toArray, List.append_toArray, List.nil_append, List.cons_append]
    gi_wp2_with ((first | refine ⟨trivial, hdd _, ?_⟩ | refine ⟨trivial, ?_⟩); gi_at_call 65; refine (callsIn_wide.2 (all_calls _ _)).mono ?_; rintro e w' ⟨rfl, rfl⟩)
    obtain ⟨W0, hW0⟩ : ∃ W0, ((w.alloc (.map #[] 0)).alloc (.cells #[.map (some w.heap.size)] 57)).alloc (.cells #[.string a0] 9) = W0 := ⟨_, rfl⟩
    rw [hW0]
    have hsz0 : W0.heap.size = w.heap.size + 3 := by rw [← hW0]; simp
    have hbox0 : Boxed W0 (w.heap.size + 1) 57 (.map (some w.heap.size)) := by
      rw [← hW0]
      have := (Boxed.new (w.alloc (.map #[] 0)) 57 (.map (some w.heap.size))).alloc (.cells #[.string a0] 9)
      rwa [World.size_alloc] at this
    have htxt0 : Boxed W0 (w.heap.size + 1 + 1) 9 (.string a0) := by
      rw [← hW0]
      have := Boxed.new ((w.alloc (.map #[] 0)).alloc (.cells #[.map (some w.heap.size)] 57)) 9 (.string a0)
      rwa [World.size_alloc, World.size_alloc] at this
    have hb0 : Below w.heap.size w W0 := by
      rw [← hW0]
      exact (((Below.refl _ w).alloc (Nat.le_refl _) _).alloc (by simp) _).alloc (by simp; omega) _
    have hmap0 : W0.ownsMap Tryd.prog 9 setElem w.heap.size 0 (setD []) := by
      rw [← hW0]
      exact ownsMap_turn (ownsMap_turn (World.ownsMap_made _ _ _ _) (Turn.alloc (S := fun _ _ => False) _ _) (fun _ _ h => h)) (Turn.alloc (S := fun _ _ => False) _ _) (fun _ _ h => h)
    clear hW0 hmm
    refine wpIn_rangeFunc_T (gf := 72) (lb := #[.pointer (some ⟨w.heap.size + 1 + 1, 0, none⟩)]) (xs := wordsL a0.data.toList) rfl (by omega) rfl trivial (enters_of Tryd.func72 (by kernel_rfl) rfl) (all_seq _ (w.heap.size + 1 + 1) a0 hs W0 htxt0) (Below.refl _ W0) (fun k hk => by rw [hk]; omega) (fun _ => rfl)
      (fun pre W => (Boxed W (w.heap.size + 1) 57 (.map (some w.heap.size)) ∧ W.ownsMap Tryd.prog 9 setElem w.heap.size pre.length (setD pre)) ∧ Below w.heap.size w W)
      ?hI1 ?hI2 ⟨⟨hbox0, hmap0⟩, hb0⟩
      (fun x => { tmps := #[.string a0, undef, .slice none 0 0, .pointer (some ⟨w.heap.size + 1, 0, none⟩), encW x, .map (some w.heap.size), .string a0, .func (.func 72) #[] #[.pointer (some ⟨w.heap.size + 1 + 1, 0, none⟩)], encW x, undef, undef, undef, undef], defers := [] }) ?assign ?body ?done
    case hI1 =>
      rintro pre W W' ⟨⟨h1, h2⟩, h3⟩ ht
      exact ⟨⟨Boxed.turn h1 ht not_NcS_cells, ownsMap_turn h2 ht (fun es c h => by have := h.1; omega)⟩, below_turn h3 ht (Nat.le_refl _) (fun k o hk h => by have := h.1; omega)⟩
    case hI2 =>
      rintro pre W W' ⟨⟨h1, h2⟩, h3⟩ ht
      exact ⟨⟨Boxed.turn h1 ht (fun h => absurd (TyS.cells.1 h).2 (by decide)), ownsMap_turn h2 ht (fun es c h => by obtain ⟨_, _, _, _, e, _⟩ := h; cases e)⟩, below_turn h3 ht (Nat.le_refl _) (fun k o hk h => by have := h.1; omega)⟩
    case assign =>
      intro l x W K hK
      gi_wp2
      exact hK
    case body =>
      rintro l pre x W ⟨⟨hbx, hown⟩, hb⟩ hpre
      have hxl : x.length ≤ 1000000 := hwl x (hpre.subset (by simp))
      have hpl : pre.length + 1 ≤ 1000000 := by have := hpre.length_le; simp at this; omega
      have hbc := hbx.cell
      have hkey : keyOf Tryd.prog 9 (encW x) = some (.string x) := Go.WideMaps.keyOf_string_mk (s := ofL x) Tryd.underlying9 (by simp [maxLen]; omega)
      have hval : setElem (.bool true) = some (.lit (.bool true), []) := plainElem_bool Tryd.underlying4 true
      gi_wp2_with (gi_at_mapUpdate; refine wpListIn_mapUpdate_own _ rfl _ _ _ 57 rfl 9 4 Klaw9 Tryd.underlying57 setElem w.heap.size pre.length (setD pre) rfl hown (by unfold maxLen; omega) _ _ _ rfl rfl hkey _ [] hval ?_; intro w1 hown1 hgrow1)
      have hnot : ∀ o : Obj, (∃ es c, o = .map es c) → ¬ (NcS W0.heap.size w.heap.size o ∨ w.heap.size = w.heap.size + 1 + 1 ∨ TyS IterTs W0.heap.size w.heap.size o) := by
        rintro o ⟨es, c, rfl⟩ (h | h | h)
        · have := h.1; omega
        · omega
        · obtain ⟨_, _, _, _, e, _⟩ := h; cases e
      obtain ⟨es, c, hbm, _⟩ := hown
      refine ⟨Keeps.of_grownBy hgrow1 (fun j o e ho => ?_), ⟨hbx.kept hgrow1 (by simp), ?_⟩, hb.grown hgrow1 hb.size (fun j e => by cases e; exact Nat.le_refl _)⟩
      · cases e
        rw [hbm] at ho; cases ho
        exact hnot _ ⟨_, _, rfl⟩
      · rw [show setD (pre ++ [x]) = (setD pre).put (.string x) (.lit (.bool true)) from by simp [setD, setOf_snoc]]
        simpa using hown1
    case done =>
      rintro D W hD ⟨⟨hbx, hown⟩, hb⟩ hK
      subst hxs
      have hbc := hbx.cell
      have hS := sorted_in 5 w.heap.size _ _ W hown (Nat.le_trans (setD_size _) (by omega))
      gi_wp2_with ((first | refine ⟨trivial, hdd _, ?_⟩ | refine ⟨trivial, ?_⟩); gi_at_call 66; refine hS.mono ?_; rintro e w' ⟨v, ss, rfl, ⟨hnd, hmem⟩, hrow, hb2⟩)
      have hDW : D < W.heap.size := (Array.getElem?_eq_some_iff.1 hK).1
      have hK2 := (hb2.block D hDW).trans hK
      refine ⟨by simp, .inl ⟨_, _, rfl, run_takeDeferred hK2, ?_⟩⟩
      have hbw := hb.size
      have hfin := merge_inc hnd leB leB_bl
      have hst : ss.mergeSort leB = sortU (wordsL a0.data.toList) := sortU_eq hfin.1 (fun x => by rw [hfin.2, hmem, setD_has])
      refine ⟨_, results_tmp rfl _ _ _, v, rfl, ?_, (hb.trans (hb2.mono hbw)).trans (belowK_b (w := w) (Nat.le_refl _) w' D _ _ (by omega) hK2 rfl rfl)⟩
      rw [hst] at hrow
      have hl : ss.length = (sortU (wordsL a0.data.toList)).length := by rw [← hst, List.length_mergeSort]
      exact Kd.R_lower (R_of_own (ownsRow_putObj hrow _ hK2 rfl) hl) hbw
  · cases h

end Go.Proofs.YtgomlpndoolllaaDoor
