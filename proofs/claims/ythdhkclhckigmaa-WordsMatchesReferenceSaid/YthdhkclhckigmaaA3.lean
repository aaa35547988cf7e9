/- The iterator over the words of a text: the iterator itself, and its contract. -/
import Derived.Test.YthdhkclhckigmaaA2
namespace Go.Proofs.Ythdhkclhckigmaa
open Go Go.RowKit Go.Shelf Go.Proofs.YthdhkclhckigmaaW.PrintWords
attribute [local go_sem] Oper.semAt_some
set_option linter.unusedVariables false
set_option linter.unusedSimpArgs false

theorem lowI_lowC (c : UInt8) : lowI (c.toNat : Int) = ((lowC c).toNat : Int) := by
  have h := c.toNat_lt
  unfold lowI lowC
  by_cases h1 : 65 ≤ c ∧ c ≤ 90
  · have h1' : 65 ≤ (c.toNat : Int) ∧ (c.toNat : Int) ≤ 90 := by simpa [UInt8.le_iff_toNat_le] using ⟨by have := h1.1; simp [UInt8.le_iff_toNat_le] at this; omega, by have := h1.2; simp [UInt8.le_iff_toNat_le] at this; omega⟩
    rw [if_pos h1, if_pos h1']
    rw [UInt8.toNat_add]
    simp
    omega
  · have h1' : ¬ (65 ≤ (c.toNat : Int) ∧ (c.toNat : Int) ≤ 90) := by
      intro hh; apply h1; simp [UInt8.le_iff_toNat_le]; omega
    rw [if_neg h1, if_neg h1']
    by_cases h2 : (97 ≤ c ∧ c ≤ 122) ∨ (48 ≤ c ∧ c ≤ 57)
    · rw [if_pos h2, if_pos]
      simp [UInt8.le_iff_toNat_le] at h2; omega
    · rw [if_neg h2, if_neg]
      · rfl
      · intro hh; apply h2; simp [UInt8.le_iff_toNat_le]; omega

theorem lower_callsC (c : UInt8) (w : World) : Calls Try.prog 36 #[.int .u8 (c.toNat : Int)] w fun e w' => e = .returned (.int .u8 ((lowC c).toNat : Int)) ∧ w = w' := by
  rw [← lowI_lowC]
  have := c.toNat_lt
  exact lower_calls _ w (by omega) (by omega)
theorem numsB_snoc (l : List UInt8) (c : UInt8) : numsB (l ++ [c]) = numsB l ++ [(c.toNat : Int)] := by simp [numsB]

theorem turn_append {W w1 : World} {B0 : Nat} {v : Value} {k : Nat} {xs : List Value} {tmp : Obj} (hrow : W.ownsRow B0 5 1 v k xs) (hg : (W.alloc tmp).grownBy w1 v.ownBlock) : Turn (TyS IterTs B0) W w1 :=
  (Turn.alloc W tmp).trans (Turn.of_grownBy hg (fun j o ej ho => by
    rcases (hrow.alloc tmp).2 with ⟨rfl, _⟩ | ⟨g, cap, cur, rfl, hb, hgb, _⟩
    · simp [Value.ownBlock] at ej
    · obtain rfl : g = j := by simpa [Value.ownBlock] using ej
      rw [hgb] at ho; cases ho
      exact TyS.cells.2 ⟨hb, by decide⟩))

set_option maxHeartbeats 1000000 in
theorem all1_in (n l Bt : Nat) (s : ByteArray) (hs : s.size ≤ 1000000) (J : List (List UInt8) → World → Prop) (W : World) (hBt : Bt < W.heap.size) (hJ : AbidesT (TyS IterTs W.heap.size) J)
    (hY : ∀ m pre x W1, J pre W1 → (pre ++ [x]) <+: wordsL s.data.toList → YieldAt Fence.wide m Try.prog l #[.string (ofL x)] W1 fun e W' => e = .returned (.bool true) ∧ J (pre ++ [x]) W' ∧ Keeps (fun k o => k = Bt ∨ TyS IterTs W.heap.size k o) W1 W')
    (ht : Boxed W Bt 9 (.string s)) (h0 : J [] W) :
    CallsIn Fence.wide n Try.prog 34 #[.func (.yield l) #[] #[], .pointer (some ⟨Bt, 0, none⟩)] W fun e W' => (∃ v, e = .returned v) ∧ J (wordsL s.data.toList) W' := by
  have hdd : ∀ k : Nat, (Fence.wide.depth.isSome = true → 1 ≤ k) := fun k h => by cases h
  have HF := fun m dn cur hd W1 h => flush_in m l W.heap.size Bt s J (wordsL s.data.toList) hBt hJ hY dn cur hd W1 h
  have ht0 := ht.cell
  have ht1 := (ht.alloc (.cells #[.func (.yield l) #[] #[]] 30)).cell
  have ht2 := ((ht.alloc (.cells #[.func (.yield l) #[] #[]] 30)).alloc (.cells #[.slice none 0 0] 32)).cell
  obtain ⟨i5, hi5, hz⟩ := Option.map_eq_some_iff.1 Kinfo5
  simp only [Prod.mk.injEq] at hz
  obtain ⟨iz0, iz1, iz2⟩ := hz
  refine callsIn_of_wp Try.func34 rfl trivial ?_ rfl
  simp only [Try.ntmps34, List.size_toArray, List.length_cons, List.length_nil, Nat.reduceAdd, Nat.reduceSub, Array.replicate_succ, Array.replicate_zero, List.push_toArray, List.append_toArray, List.nil_append, List.cons_append]
  gi_wp2
  gi_loopw [10] (fun c wr => ∃ k : Nat, k ≤ s.size ∧ c = .int .i64 k ∧ It W.heap.size Bt l s J (scanW (s.data.toList.take k)) wr) (fun c _ => s.size - (intOf c).toNat)
  case atStart =>
    refine ⟨0, Nat.zero_le _, rfl, ?_⟩
    have hb2 := Boxed.new (W.alloc (.cells #[.func (.yield l) #[] #[]] 30)) 32 (.slice none 0 0)
    rw [World.size_alloc] at hb2
    exact ⟨⟨_, hb2, by simpa [scanW, numsB, nums] using World.ownsRow_nil _ _ _ _⟩, (Boxed.new W 30 _).alloc _, (ht.alloc _).alloc _, by
      simpa [scanW] using hJ _ _ _ h0 ((Turn.alloc _ _).trans (Turn.alloc _ _))⟩
  case round =>
    obtain ⟨k, hk, rfl, hI⟩ := hrel
    obtain ⟨dn, cur, hdc⟩ : ∃ dn cur, scanW (s.data.toList.take k) = (dn, cur) := ⟨_, _, rfl⟩
    have hcl : cur.length ≤ k := by have := scanW_take_len s.data.toList k; rw [hdc] at this; exact this
    rw [hdc] at hI
    obtain ⟨v, hv, hrow⟩ := hI.word
    dsimp only at hrow
    have htc := hI.text.cell
    have hvc := hv.cell
    have hvf := hv.frozen
    have hbs : W.heap.size + 1 < wr.heap.size := hv.lt
    by_cases hlt : k < s.size
    · have hlen : k < s.data.toList.length := by simpa using hlt
      have hget : s.data.toList[k] = s[k] := rfl
      by_cases hx : lowC s[k] = 0
      · have hx0 : (((lowC s[k]).toNat : Int) != 0) = false := by rw [hx]; rfl
        have hfl := flush_at s.data.toList k hlen (by rw [hget]; exact hx)
        have hpre := flush_prefix s.data.toList k hlen (by rw [hget]; exact hx)
        rw [hdc] at hfl hpre
        have hFl := HF (n - 1) _ _ hpre wr hI
        have HFL := Lib.hid hfl
        clear hx hfl hpre hdc
        gi_wp2_with (first
          | (refine ⟨trivial, hdd _, ?_⟩; gi_at_call 36; refine (callsIn_wide.2 (lower_callsC _ _)).mono ?_; rintro e w' ⟨rfl, rfl⟩)
          | (refine ⟨trivial, hdd _, ?_⟩; gi_at_call 35; refine hFl.mono ?_; clear hFl; rintro e w' ⟨rfl, hI2⟩))
        go_roundw
        case rel => exact ⟨k + 1, by omega, by go_num, by rw [HFL.out]; exact hI2⟩
        case measure => simp [intOf]; omega
      · have hx0 : (((lowC s[k]).toNat : Int) != 0) = true := by
          have : (lowC s[k]).toNat ≠ 0 := fun h => hx (UInt8.toNat_inj.1 (by rw [h]; rfl))
          simp; omega
        have hle := letter_at s.data.toList k hlen (by rw [hget]; exact hx)
        rw [hdc, hget] at hle
        have HLE := Lib.hid hle
        clear hx hle hdc
        gi_wp2_with (first
          | (refine ⟨trivial, hdd _, ?_⟩; gi_at_call 36; refine (callsIn_wide.2 (lower_callsC _ _)).mono ?_; rintro e w' ⟨rfl, rfl⟩)
          | (gi_at_builtin; refine wpListIn_append_own _ rfl _ _ 32 rfl W.heap.size 5 i5 (.int .u8 0) 1 1 Try.underlying32 hi5 iz0 iz1 iz2 rfl (by decide) _ _ _ rfl (hrow.alloc _) ⟨_, 0, none⟩ 1 1 [.int .u8 ((lowC s[k]).toNat : Int)] rfl rfl (cell_one_new _ _ _) (by simp [Value.oneCell']) (by simp only [maxLen]; omega) (by omega) (by simp; omega) ?_; intro v' w1 hown' hgrow _; obtain ⟨g', cap', rfl⟩ := ownsRow_succ hown'; obtain ⟨hv1, hv2, hr2, hk2, hb2⟩ := hv.appended (by decide) hrow (by omega) (by omega) hown' hgrow; have hc1 := hv1.cell; have hf1 := hv1.frozen))
        go_roundw
        case rel =>
          refine ⟨k + 1, by omega, by go_num, ?_⟩
          rw [HLE.out]
          have hall : ∀ {B : Nat} {t : TypeId} {u : Value}, t ≠ 5 → B ≠ W.heap.size + 1 → Boxed wr B t u → Boxed (w1.setCell ⟨W.heap.size + 1, 0, none⟩ (.slice (some ⟨g', 0, none⟩) (cur.length + 1) cap')) B t u := fun ht5 hne hb =>
            (((hb.alloc _).kept hgrow (hb.not_row ht5 hrow))).other hne _
          refine ⟨⟨_, hv2, ?_⟩, hall (by decide) (by omega) hI.yld, hall (by decide) (by omega) hI.text, ?_⟩
          · rw [numsB_snoc, nums_append, List.length_append, List.length_singleton]
            exact hr2
          · exact hJ _ _ _ hI.inv ((turn_append hrow hgrow).trans (Turn.box _ hv1 (TyS.cells.2 ⟨by omega, by decide⟩)))
        case measure => simp [intOf]; omega
    · obtain rfl : k = s.size := by omega
      have hd2 : (dn, cur) = scanW s.data.toList := by
        rw [← hdc, List.take_of_length_le (by simp)]
      have hw : flushW (dn, cur) = wordsL s.data.toList := by rw [hd2]; rfl
      have hFl := HF (n - 1) dn cur (by rw [hw]; exact List.prefix_refl _) wr hI
      rw [hw] at hFl
      clear hd2 hw hdc
      gi_wp2_with (refine ⟨trivial, hdd _, ?_⟩; gi_at_call 35; refine hFl.mono ?_; clear hFl; rintro e w' ⟨rfl, hI2⟩)
      go_end0
      exact ⟨⟨_, rfl⟩, hI2.inv⟩

/-- words.all's value, made in w, its text in block Bt. -/
theorem all_seq (n Bt : Nat) (s : ByteArray) (hs : s.size ≤ 1000000) (w : World) (ht : Boxed w Bt 9 (.string s)) :
    SeqT Fence.wide n Try.prog 34 #[.pointer (some ⟨Bt, 0, none⟩)] (fun x : List UInt8 => #[Value.string (ofL x)]) IterTs (fun k => k = Bt) (wordsL s.data.toList) w := by
  intro l J W hW hJ hY h0
  have hlt : Bt < w.heap.size := ht.lt
  refine all1_in n l Bt s hs J W (Nat.lt_of_lt_of_le hlt hW.size) hJ (fun m pre x W1 hj hp => YieldAt.anyDepth rfl m (hY pre x W1 hj hp)) ((hW.block Bt hlt).trans ht) h0

end Go.Proofs.Ythdhkclhckigmaa
