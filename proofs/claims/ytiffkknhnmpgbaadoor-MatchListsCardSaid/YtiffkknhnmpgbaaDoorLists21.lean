/- Parts of the proof of Lists: words, contracts and plain laws. -/
import Derived.Outline
import Derived.Lib.Hide
import Derived.Test.YtiffkknhnmpgbaaDoorLists20
section
/- The iterator over the words of a text: its closures flush and the iterator itself. -/
namespace Go.Proofs.YtiffkknhnmpgbaaDoor
open Go Go.RowKit Go.Shelf Go.Proofs.YtiffkknhnmpgbaaDoorW.PrintWords
attribute [local go_sem] Oper.semAt_some
set_option linter.unusedVariables false
set_option linter.unusedSimpArgs false
set_option maxRecDepth 100000

def numsB (l : List UInt8) : List Int := l.map fun b => (b.toNat : Int)
theorem strOfNums_numsB (l : List UInt8) : strOfNums (numsB l) = ofL l := by
  unfold strOfNums numsB ofL
  congr 2
  rw [List.map_map]
  conv => rhs; rw [← List.map_id l]
  apply List.map_congr_left
  intro b _
  simp
theorem ofL_toList (l : List UInt8) : (ofL l).toList = l := by
  rw [Go.ByteArray.toList_eq]; rfl

theorem own_zero {W : World} {base : Nat} {e : TypeId} {size n c : Nat} {A : Option Addr} {xs : List Value} (h : W.ownsRow base e size (.slice A n c) n xs) : W.ownsRow base e size (.slice A 0 c) 0 [] := by
  refine ⟨by simp, ?_⟩
  rcases h.2 with ⟨h1, h2⟩ | ⟨g, cap, cur, hv, hb, hg, h1, h2, h3, h4⟩
  · injection h1 with h1 h3 h4
    subst h1 h3 h4
    exact .inl ⟨rfl, rfl⟩
  · injection hv with hv h5 h6
    subst hv h6
    exact .inr ⟨g, _, cur, rfl, hb, hg, Nat.zero_le _, h2, h3, by simp⟩

/-- The iterator's own state: the open word in a box, the yield in a box, the text; and what the caller keeps. -/
structure It (B0 Bt l : Nat) (s : ByteArray) (J : List (List UInt8) → World → Prop) (d : List (List UInt8) × List UInt8) (W : World) : Prop where
  word : ∃ v, Boxed W (B0 + 1) 107 v ∧ W.ownsRow B0 5 1 v d.2.length (nums .u8 (numsB d.2))
  yld : Boxed W B0 133 (.func (.yield l) #[] #[])
  text : Boxed W Bt 9 (.string s)
  inv : J d.1 W

abbrev IterTs : List TypeId := [5, 133, 107]

theorem flush_in (n l B0 Bt : Nat) (s : ByteArray) (J : List (List UInt8) → World → Prop) (xs : List (List UInt8)) (hBt : Bt < B0) (hJ : AbidesT (TyS IterTs B0) J)
    (hY : ∀ m pre x W1, J pre W1 → (pre ++ [x]) <+: xs → YieldAt Fence.wide m Tryd.prog l #[.string (ofL x)] W1 fun e W' => e = .returned (.bool true) ∧ J (pre ++ [x]) W' ∧ Keeps (fun k o => k = Bt ∨ TyS IterTs B0 k o) W1 W')
    (dn : List (List UInt8)) (cur : List UInt8) (hd : flushW (dn, cur) <+: xs) (W : World) (h : It B0 Bt l s J (dn, cur) W) :
    CallsIn Fence.wide n Tryd.prog 78 #[.pointer (some ⟨B0 + 1, 0, none⟩), .pointer (some ⟨B0, 0, none⟩)] W fun e W2 => e = .returned (.bool true) ∧ It B0 Bt l s J (flushW (dn, cur), []) W2 := by
  obtain ⟨v, hv, hrow⟩ := h.word
  dsimp only at hrow
  have hconv := own_string (P := Tryd.prog) (src := 107) (dst := 9) (e := 5) Tryd.underlying107 Tryd.underlying5 Tryd.underlying9 hrow
  rw [strOfNums_numsB] at hconv
  obtain ⟨A, c, rfl⟩ := own_slice hrow
  obtain ⟨i5, hi5, hz⟩ := Option.map_eq_some_iff.1 Kinfo5
  simp only [Prod.mk.injEq] at hz
  have hcut := (print_take_int (P := Tryd.prog) (k := .u8) 107 5 Tryd.underlying107 hi5 hz.2.1 A c (numsB cur) 0 (Int.le_refl _) (by simp) (by have := own_le hrow; simpa [numsB] using this)).1
  rw [show (numsB cur).length = cur.length by simp [numsB]] at hcut
  simp only [Int.toNat_zero, List.take_zero, List.length_nil] at hcut
  have hc1 := hv.cell
  have hf1 := hv.frozen
  have hy1 := h.yld.cell
  have hlt := hv.lt
  obtain ⟨W1, hW1⟩ : ∃ W1, W.setCell ⟨B0 + 1, 0, none⟩ (.slice A 0 c) = W1 := ⟨_, rfl⟩
  have hturn : Turn (TyS IterTs B0) W W1 := by rw [← hW1]; exact Turn.box _ hv (TyS.cells.2 ⟨by omega, by decide⟩)
  have hv1 : Boxed W1 (B0 + 1) 107 (.slice A 0 c) := by rw [← hW1]; exact hv.set _
  have hrow1 : W1.ownsRow B0 5 1 (.slice A 0 c) 0 [] := by
    rw [← hW1]
    exact (own_zero hrow).kept (grownBy_setCell' W _ _) (.inr (hv.not_row (by decide) (own_zero hrow)).symm)
  have hyl1 : Boxed W1 B0 133 (.func (.yield l) #[] #[]) := by rw [← hW1]; exact h.yld.other (by omega) _
  have htx1 : Boxed W1 Bt 9 (.string s) := by rw [← hW1]; exact h.text.other (by omega) _
  have hJ1 : J dn W1 := hJ _ _ _ h.inv hturn
  have hy2 := hyl1.cell
  cases cur with
  | nil =>
    have e0 : ofL [] = (⟨#[]⟩ : ByteArray) := rfl
    rw [e0] at hconv
    simp only [List.length_nil] at hconv hcut hc1 hv
    refine callsIn_of_wp Tryd.func78 rfl trivial ?_ rfl
    simp only [Tryd.ntmps78, List.size_toArray, List.length_cons, List.length_nil, Nat.reduceAdd, Nat.reduceSub, Array.replicate_succ, Array.replicate_zero, List.push_toArray, List.append_toArray, List.nil_append, List.cons_append]
    gi_wp2
    refine ⟨fun _ h => (by cases h), ?_⟩
    gi_wp2
    go_ret
    exact ⟨rfl, ⟨_, hv1, hrow1⟩, hyl1, htx1, by simpa [flushW] using hJ1⟩
  | cons x r =>
    have hfl : flushW (dn, x :: r) = dn ++ [x :: r] := by simp [flushW]
    rw [hfl] at hd ⊢
    have hR0 := hY (n - 1) dn (x :: r) W1 hJ1 hd
    obtain ⟨t, ht⟩ : ∃ t, ofL (x :: r) = t := ⟨_, rfl⟩
    clear hrow h
    obtain ⟨m, hm⟩ : ∃ m, (x :: r).length = m := ⟨_, rfl⟩
    rw [hm] at hconv hcut hc1 hv
    clear hm
    have ht1 : t.toList = x :: r := by rw [← ht, ofL_toList]
    have ht2 : t.toList.isEmpty = false := by rw [ht1]; rfl
    have HT := Lib.hid ht1
    clear ht1
    rw [ht] at hconv hR0
    obtain ⟨fn, tmps, assign, body, hy, hR⟩ := hR0
    have hdd : ∀ k : Nat, (Fence.wide.depth.isSome = true → 1 ≤ k) := fun k h => by cases h
    subst hW1
    refine callsIn_of_wp Tryd.func78 rfl trivial ?_ rfl
    simp only [Tryd.ntmps78, List.size_toArray, List.length_cons, List.length_nil, Nat.reduceAdd, Nat.reduceSub, Array.replicate_succ, Array.replicate_zero, List.push_toArray, List.append_toArray, List.nil_append, List.cons_append]
    gi_wp2
    refine ⟨hdd _, hR.mono ?_⟩
    rintro e W3 ⟨rfl, hJ3, hk3⟩
    gi_wp2
    go_ret
    refine ⟨rfl, ⟨_, Boxed.keeps hv1 hk3 (.inr (TyS.cells.2 ⟨by omega, by decide⟩)), ?_⟩, Boxed.keeps hyl1 hk3 (.inr (TyS.cells.2 ⟨by omega, by decide⟩)), Boxed.keeps htx1 hk3 (.inl rfl), hJ3⟩
    exact ownsRow_keeps hrow1 hk3 (fun k cur hk => .inr (TyS.cells.2 ⟨hk, by decide⟩))

end Go.Proofs.YtiffkknhnmpgbaaDoor
end

section
/- The iterator over the words of a text: the iterator itself, and its contract. -/
namespace Go.Proofs.YtiffkknhnmpgbaaDoor
open Go Go.RowKit Go.Shelf Go.Proofs.YtiffkknhnmpgbaaDoorW.PrintWords
attribute [local go_sem] Oper.semAt_some
set_option linter.unusedVariables false
set_option linter.unusedSimpArgs false
set_option maxRecDepth 100000

theorem lowI_lowC (c : UInt8) : lowI (c.toNat : Int) = ((lowC c).toNat : Int) := by
  have h := c.toNat_lt
  unfold lowI lowC
  by_cases h1 : 65 ≤ c ∧ c ≤ 90
  · have h1' : 65 ≤ (c.toNat : Int) ∧ (c.toNat : Int) ≤ 90 := by simpa [UInt8.le_iff_toNat_le] using ⟨by have := h1.1; simp [UInt8.le_iff_toNat_le] at this; omega, by have := h1.2; simp [UInt8.le_iff_toNat_le] at this; omega⟩
    rw [if_pos h1, if_pos h1']
    rw [UInt8.toNat_add]
    simp
    omega
  · have h1' : ¬ (65 ≤ (c.toNat : Int) ∧ (c.toNat : Int) ≤ 90) := by
      intro hh; apply h1; simp [UInt8.le_iff_toNat_le]; omega
    rw [if_neg h1, if_neg h1']
    by_cases h2 : (97 ≤ c ∧ c ≤ 122) ∨ (48 ≤ c ∧ c ≤ 57)
    · rw [if_pos h2, if_pos]
      simp [UInt8.le_iff_toNat_le] at h2; omega
    · rw [if_neg h2, if_neg]
      · rfl
      · intro hh; apply h2; simp [UInt8.le_iff_toNat_le]; omega

theorem lower_callsC (c : UInt8) (w : World) : Calls Tryd.prog 79 #[.int .u8 (c.toNat : Int)] w fun e w' => e = .returned (.int .u8 ((lowC c).toNat : Int)) ∧ w = w' := by
  rw [← lowI_lowC]
  have := c.toNat_lt
  exact lower_calls _ w (by omega) (by omega)
theorem numsB_snoc (l : List UInt8) (c : UInt8) : numsB (l ++ [c]) = numsB l ++ [(c.toNat : Int)] := by simp [numsB]

theorem turn_append {W w1 : World} {B0 : Nat} {v : Value} {k : Nat} {xs : List Value} {tmp : Obj} (hrow : W.ownsRow B0 5 1 v k xs) (hg : (W.alloc tmp).grownBy w1 v.ownBlock) : Turn (TyS IterTs B0) W w1 :=
  (Turn.alloc W tmp).trans (Turn.of_grownBy hg (fun j o ej ho => by
    rcases (hrow.alloc tmp).2 with ⟨rfl, _⟩ | ⟨g, cap, cur, rfl, hb, hgb, _⟩
    · simp [Value.ownBlock] at ej
    · obtain rfl : g = j := by simpa [Value.ownBlock] using ej
      rw [hgb] at ho; cases ho
      exact TyS.cells.2 ⟨hb, by decide⟩))

set_option maxHeartbeats 1000000 in
theorem all1_in (n l Bt : Nat) (s : ByteArray) (hs : s.size ≤ 1000000) (J : List (List UInt8) → World → Prop) (W : World) (hBt : Bt < W.heap.size) (hJ : AbidesT (TyS IterTs W.heap.size) J)
    (hY : ∀ m pre x W1, J pre W1 → (pre ++ [x]) <+: wordsL s.data.toList → YieldAt Fence.wide m Tryd.prog l #[.string (ofL x)] W1 fun e W' => e = .returned (.bool true) ∧ J (pre ++ [x]) W' ∧ Keeps (fun k o => k = Bt ∨ TyS IterTs W.heap.size k o) W1 W')
    (ht : Boxed W Bt 9 (.string s)) (h0 : J [] W) :
    CallsIn Fence.wide n Tryd.prog 77 #[.func (.yield l) #[] #[], .pointer (some ⟨Bt, 0, none⟩)] W fun e W' => (∃ v, e = .returned v) ∧ J (wordsL s.data.toList) W' := by
  have hdd : ∀ k : Nat, (Fence.wide.depth.isSome = true → 1 ≤ k) := fun k h => by cases h
  have HF := fun m dn cur hd W1 h => flush_in m l W.heap.size Bt s J (wordsL s.data.toList) hBt hJ hY dn cur hd W1 h
  have ht0 := ht.cell
  have ht1 := (ht.alloc (.cells #[.func (.yield l) #[] #[]] 133)).cell
  have ht2 := ((ht.alloc (.cells #[.func (.yield l) #[] #[]] 133)).alloc (.cells #[.slice none 0 0] 107)).cell
  obtain ⟨i5, hi5, hz⟩ := Option.map_eq_some_iff.1 Kinfo5
  simp only [Prod.mk.injEq] at hz
  obtain ⟨iz0, iz1, iz2⟩ := hz
  refine callsIn_of_wp Tryd.func77 rfl trivial ?_ rfl
  simp only [Tryd.ntmps77, List.size_toArray, List.length_cons, List.length_nil, Nat.reduceAdd, Nat.reduceSub, Array.replicate_succ, Array.replicate_zero, List.push_toArray, List.append_toArray, List.nil_append, List.cons_append]
  gi_wp2
  gi_loopw [10] (fun c wr => ∃ k : Nat, k ≤ s.size ∧ c = .int .i64 k ∧ It W.heap.size Bt l s J (scanW (s.data.toList.take k)) wr) (fun c _ => s.size - (intOf c).toNat)
  case atStart =>
    refine ⟨0, Nat.zero_le _, rfl, ?_⟩
    have hb2 := Boxed.new (W.alloc (.cells #[.func (.yield l) #[] #[]] 133)) 107 (.slice none 0 0)
    rw [World.size_alloc] at hb2
    exact ⟨⟨_, hb2, by simpa [scanW, numsB, nums] using World.ownsRow_nil _ _ _ _⟩, (Boxed.new W 133 _).alloc _, (ht.alloc _).alloc _, by
      simpa [scanW] using hJ _ _ _ h0 ((Turn.alloc _ _).trans (Turn.alloc _ _))⟩
  case round =>
    obtain ⟨k, hk, rfl, hI⟩ := hrel
    obtain ⟨dn, cur, hdc⟩ : ∃ dn cur, scanW (s.data.toList.take k) = (dn, cur) := ⟨_, _, rfl⟩
    have hcl : cur.length ≤ k := by have := scanW_take_len s.data.toList k; rw [hdc] at this; exact this
    rw [hdc] at hI
    obtain ⟨v, hv, hrow⟩ := hI.word
    dsimp only at hrow
    have htc := hI.text.cell
    have hvc := hv.cell
    have hvf := hv.frozen
    have hbs : W.heap.size + 1 < wr.heap.size := hv.lt
    by_cases hlt : k < s.size
    · have hlen : k < s.data.toList.length := by simpa using hlt
      have hget : s.data.toList[k] = s[k] := rfl
      by_cases hx : lowC s[k] = 0
      · have hx0 : (((lowC s[k]).toNat : Int) != 0) = false := by rw [hx]; rfl
        have hfl := flush_at s.data.toList k hlen (by rw [hget]; exact hx)
        have hpre := flush_prefix s.data.toList k hlen (by rw [hget]; exact hx)
        rw [hdc] at hfl hpre
        have hFl := HF (n - 1) _ _ hpre wr hI
        have HFL := Lib.hid hfl
        clear hx hfl hpre hdc
        gi_wp2_with (first
          | (refine ⟨trivial, hdd _, ?_⟩; gi_at_call 79; refine (callsIn_wide.2 (lower_callsC _ _)).mono ?_; rintro e w' ⟨rfl, rfl⟩)
          | (refine ⟨trivial, hdd _, ?_⟩; gi_at_call 78; refine hFl.mono ?_; clear hFl; rintro e w' ⟨rfl, hI2⟩))
        go_roundw
        case rel => exact ⟨k + 1, by omega, by go_num, by rw [HFL.out]; exact hI2⟩
        case measure => simp [intOf]; omega
      · have hx0 : (((lowC s[k]).toNat : Int) != 0) = true := by
          have : (lowC s[k]).toNat ≠ 0 := fun h => hx (UInt8.toNat_inj.1 (by rw [h]; rfl))
          simp; omega
        have hle := letter_at s.data.toList k hlen (by rw [hget]; exact hx)
        rw [hdc, hget] at hle
        have HLE := Lib.hid hle
        clear hx hle hdc
        gi_wp2_with (first
          | (refine ⟨trivial, hdd _, ?_⟩; gi_at_call 79; refine (callsIn_wide.2 (lower_callsC _ _)).mono ?_; rintro e w' ⟨rfl, rfl⟩)
          | (gi_at_builtin; refine wpListIn_append_own _ rfl _ _ 107 rfl W.heap.size 5 i5 (.int .u8 0) 1 1 Tryd.underlying107 hi5 iz0 iz1 iz2 rfl (by decide) _ _ _ rfl (hrow.alloc _) ⟨_, 0, none⟩ 1 1 [.int .u8 ((lowC s[k]).toNat : Int)] rfl rfl (cell_one_new _ _ _) (by simp [Value.oneCell']) (by simp only [maxLen]; omega) (by omega) (by simp; omega) ?_; intro v' w1 hown' hgrow _; obtain ⟨g', cap', rfl⟩ := ownsRow_succ hown'; obtain ⟨hv1, hv2, hr2, hk2, hb2⟩ := hv.appended (by decide) hrow (by omega) (by omega) hown' hgrow; have hc1 := hv1.cell; have hf1 := hv1.frozen))
        go_roundw
        case rel =>
          refine ⟨k + 1, by omega, by go_num, ?_⟩
          rw [HLE.out]
          have hall : ∀ {B : Nat} {t : TypeId} {u : Value}, t ≠ 5 → B ≠ W.heap.size + 1 → Boxed wr B t u → Boxed (w1.setCell ⟨W.heap.size + 1, 0, none⟩ (.slice (some ⟨g', 0, none⟩) (cur.length + 1) cap')) B t u := fun ht5 hne hb =>
            (((hb.alloc _).kept hgrow (hb.not_row ht5 hrow))).other hne _
          refine ⟨⟨_, hv2, ?_⟩, hall (by decide) (by omega) hI.yld, hall (by decide) (by omega) hI.text, ?_⟩
          · rw [numsB_snoc, nums_append, List.length_append, List.length_singleton]
            exact hr2
          · exact hJ _ _ _ hI.inv ((turn_append hrow hgrow).trans (Turn.box _ hv1 (TyS.cells.2 ⟨by omega, by decide⟩)))
        case measure => simp [intOf]; omega
    · obtain rfl : k = s.size := by omega
      have hd2 : (dn, cur) = scanW s.data.toList := by
        rw [← hdc, List.take_of_length_le (by simp)]
      have hw : flushW (dn, cur) = wordsL s.data.toList := by rw [hd2]; rfl
      have hFl := HF (n - 1) dn cur (by rw [hw]; exact List.prefix_refl _) wr hI
      rw [hw] at hFl
      clear hd2 hw hdc
      gi_wp2_with (refine ⟨trivial, hdd _, ?_⟩; gi_at_call 78; refine hFl.mono ?_; clear hFl; rintro e w' ⟨rfl, hI2⟩)
      go_end0
      exact ⟨⟨_, rfl⟩, hI2.inv⟩

/-- words.all's value, made in w, its text in block Bt. -/
theorem all_seq (n Bt : Nat) (s : ByteArray) (hs : s.size ≤ 1000000) (w : World) (ht : Boxed w Bt 9 (.string s)) :
    SeqT Fence.wide n Tryd.prog 77 #[.pointer (some ⟨Bt, 0, none⟩)] (fun x : List UInt8 => #[Value.string (ofL x)]) IterTs (fun k => k = Bt) (wordsL s.data.toList) w := by
  intro l J W hW hJ hY h0
  have hlt : Bt < w.heap.size := ht.lt
  refine all1_in n l Bt s hs J W (Nat.lt_of_lt_of_le hlt hW.size) hJ (fun m pre x W1 hj hp => YieldAt.anyDepth rfl m (hY pre x W1 hj hp)) ((hW.block Bt hlt).trans ht) h0

end Go.Proofs.YtiffkknhnmpgbaaDoor
end

section
/- slices.AppendSeq and slices.Collect over the words of a text. -/
namespace Go.Proofs.YtiffkknhnmpgbaaDoor
open Go Go.RowKit Go.Shelf Go.Proofs.YtiffkknhnmpgbaaDoorW.PrintWords
attribute [local go_sem] Oper.semAt_some
set_option linter.unusedVariables false
set_option linter.unusedSimpArgs false
set_option maxRecDepth 100000

theorem Kinfo9 : (Tryd.prog.info? 9).map (fun i => (i.zero, i.size, i.bytes)) = some (some (.string ⟨#[]⟩), 1, 16) := by kernel_rfl
abbrev encW (x : List UInt8) : Value := .string (ofL x)

theorem ownsRow_abides {β : Type} {S : Nat → Obj → Prop} {n₀ B : Nat} {t e : TypeId} {w : World} (f : β → List Value) (k : β → Nat) (hn : n₀ ≤ w.heap.size)
    (hB : ∀ v, ¬ S B (.cells #[v] t (0, 0))) (he : ∀ j cur, ¬ S j (.cells cur e (0, 0))) (hlo : ∀ j o, j < n₀ → ¬ S j o) :
    AbidesT S (fun (s : β) W => (∃ v, Boxed W B t v ∧ W.ownsRow n₀ e 1 v (k s) (f s)) ∧ Below n₀ w W) := by
  rintro s W W' ⟨⟨v, hv, hr⟩, hb⟩ ht
  exact ⟨⟨v, Boxed.turn hv ht (hB v), ownsRow_turn hr ht (fun j cur _ => he j cur)⟩, below_turn hb ht hn hlo⟩

theorem keeps_append {T : Nat → Obj → Prop} {W w1 : World} {n₀ : Nat} {e : TypeId} {size : Nat} {v : Value} {k : Nat} {xs : List Value} {tmp : Obj} (hrow : W.ownsRow n₀ e size v k xs) (hg : (W.alloc tmp).grownBy w1 v.ownBlock)
    (hT : ∀ g cur, n₀ ≤ g → ¬ T g (.cells cur e (0, 0))) : Keeps T W w1 :=
  (Keeps.alloc W tmp).trans (Keeps.of_grownBy hg (fun j o ej ho => by
    rcases (hrow.alloc tmp).2 with ⟨rfl, _⟩ | ⟨g, cap, cur, rfl, hb, hgb, _⟩
    · simp [Value.ownBlock] at ej
    · obtain rfl : g = j := by simpa [Value.ownBlock] using ej
      rw [hgb] at ho; cases ho
      exact hT g _ hb))

set_option maxHeartbeats 1000000 in
theorem appendSeq_in (n gf : Nat) (hn : 3 ≤ n) (lb : Array Value) (eg : ∀ args w, (callFunc gf args).run Tryd.prog w = .ok (.enter gf args) w) (Kb : Nat → Prop) (xs : List (List UInt8)) (w : World) (hKb : ∀ k, Kb k → k < w.heap.size)
    (hlen : xs.length ≤ 1000000) (hseq : ∀ m, SeqT Fence.wide m Tryd.prog gf lb (fun x : List UInt8 => #[encW x]) IterTs Kb xs w) :
    CallsIn Fence.wide n Tryd.prog 76 #[.slice none 0 0, .func (.func gf) #[] lb] w fun e w' => ∃ v, e = .returned v ∧ w'.ownsRow w.heap.size 9 1 v xs.length (xs.map encW) ∧ Below w.heap.size w w' := by
  have h1 : 1 ≤ n := by omega
  obtain ⟨i9, hi, hz⟩ := Option.map_eq_some_iff.1 Kinfo9
  simp only [Prod.mk.injEq] at hz
  obtain ⟨iz0, iz1, iz2⟩ := hz
  refine callsIn_of_wp_marks Tryd.func76 rfl trivial ?_ rfl
  simp only [Tryd.ntmps76, List.size_toArray, List.length_cons, List.length_nil, Nat.reduceAdd, Nat.reduceSub, Array.replicate_succ, Array.replicate_zero, List.push_toArray, List.append_toArray, List.nil_append, List.cons_append]
  gi_wp2
  refine wpIn_rangeFunc_T (gf := gf) (lb := lb) rfl h1 rfl trivial eg (hseq (n - 1)) ((Below.refl _ w).alloc (Nat.le_refl _) _) (fun k hk => by have := hKb k hk; simp; omega) (fun _ => rfl)
    (fun pre W => (∃ v, Boxed W w.heap.size 86 v ∧ W.ownsRow w.heap.size 9 1 v pre.length (pre.map encW)) ∧ Below w.heap.size w W)
    (ownsRow_abides (fun pre : List (List UInt8) => pre.map encW) List.length (Nat.le_refl _) (fun v h => not_NcS_cells h) (fun j cur h => not_NcS_cells h) (fun j o hj h => by have := h.1; simp at this; omega))
    (ownsRow_abides (fun pre : List (List UInt8) => pre.map encW) List.length (Nat.le_refl _) (fun v h => absurd (TyS.cells.1 h).2 (by decide)) (fun j cur h => absurd (TyS.cells.1 h).2 (by decide)) (fun j o hj h => by have := h.1; simp at this; omega))
    ⟨⟨_, Boxed.new w 86 _, World.ownsRow_nil _ _ _ _⟩, (Below.refl _ w).alloc (Nat.le_refl _) _⟩
    (fun x => { tmps := #[.slice none 0 0, .func (.func gf) #[] lb, .pointer (some ⟨w.heap.size, 0, none⟩), undef, .slice none 0 0, encW x, .func (.func gf) #[] lb, encW x, undef, undef, undef, undef, undef], defers := [] }) ?assign ?body ?done
  case assign =>
    intro l x W K hK
    gi_wp2
    exact hK
  case body =>
    rintro l pre x W ⟨⟨v, hv, hrow⟩, hb⟩ hpre
    have hpl : pre.length + 1 ≤ 1000000 := by have := hpre.length_le; simp at this; omega
    have hvc := hv.cell
    gi_wp2_with (gi_at_builtin; refine wpListIn_append_own _ rfl _ _ 86 rfl w.heap.size 9 i9 (.string ⟨#[]⟩) 1 16 Tryd.underlying86 hi iz0 iz1 iz2 rfl (by decide) _ _ _ rfl (hrow.alloc _) ⟨W.heap.size, 0, none⟩ 1 1 [encW x] rfl rfl (cell_one_new _ _ _) (by simp [Value.oneCell', encW]) (by simp only [maxLen]; omega) (by omega) (by have := hb.size; simp; omega) ?_; intro v' w1 hown' hgrow _; obtain ⟨g', cap', rfl⟩ := ownsRow_succ hown'; obtain ⟨hv1, hv2, hr2, hk2, hb2⟩ := hv.appended (by decide) hrow hb.size (Nat.le_refl _) hown' hgrow; have hc1 := hv1.cell; have hf1 := hv1.frozen)
    refine ⟨(keeps_append hrow hgrow (fun g cur hg => ?_)).trans (Keeps.box _ hv1 ?_), ⟨_, hv2, by simpa using hr2⟩, hb.trans hb2⟩
    · rintro (h | h | h)
      · exact not_NcS_cells h
      · have := hKb _ h; omega
      · exact absurd (TyS.cells.1 h).2 (by decide)
    · rintro (h | h | h)
      · exact not_NcS_cells h
      · have := hKb _ h; omega
      · exact absurd (TyS.cells.1 h).2 (by decide)
  case done =>
    rintro D W hD ⟨⟨v, hv, hrow⟩, hb⟩ hK
    have hvc := hv.cell
    simp at hD
    gi_wp2
    refine ⟨by simp, .inl ⟨_, _, rfl, run_takeDeferred hK, ?_⟩⟩
    exact ⟨_, results_tmp rfl _ _ _, v, rfl, ownsRow_putObj hrow _ hK rfl, hb.trans (belowK_b (w := w) (Nat.le_refl _) W D _ _ (by omega) hK rfl rfl)⟩

end Go.Proofs.YtiffkknhnmpgbaaDoor
end
