/- The plain law of MeasureParts. -/
import Derived.Test.YtgomlpndoolllaaDoorM1
import Derived.Test.YtgomlpndoolllaaDoorD5
import Derived.Test.YtgomlpndoolllaaDoorLParts2
import Derived.Laws.Strings2
import Derived.Lib.LazyBuf
namespace Go.Proofs.YtgomlpndoolllaaDoor.Pure
open Go Go.RowKit Go.Proofs.YtgomlpndoolllaaDoor.Q Go.Proofs.YtgomlpndoolllaaDoor.LParts Go.Proofs.YtgomlpndoolllaaDoorW.PrintWords Go.Proofs.YtgomlpndoolllaaDoorW.PrintLast Go.Proofs.YtgomlpndoolllaaDoorW.PrintMore
set_option linter.unusedVariables false
set_option linter.unusedSimpArgs false
theorem u8_of {a : Int} (h : (Lit.int .u8 a).wf = true) : ∃ c : UInt8, a = (c.toNat : Int) := by
  have h2 : 0 ≤ a ∧ a ≤ 255 := by
    simp only [Lit.wf, Bool.and_eq_true, decide_eq_true_eq] at h
    exact h
  refine ⟨UInt8.ofNat a.toNat, ?_⟩
  rw [UInt8.toNat_ofNat']
  omega
theorem nums_str (l : List UInt8) : strOfNums (l.map fun b => (b.toNat : Int)) = ofL l := Go.Lib.Lz.strOfNums_map l
theorem tl_extract (a : ByteArray) (i j : Nat) : (a.extract i j).toList = (a.toList.drop i).take (j - i) := by
  have h := ByteArray.extract_mk a.toList i j
  have e : ByteArray.mk a.toList.toArray = a := ofL_tl a
  rw [e] at h
  rw [h]
  exact tl_ofL _
theorem dist_pre (c a b : List UInt8) : dist (c ++ a) (c ++ b) = dist a b := by
  unfold dist
  rw [List.reverse_append, List.reverse_append, lev_suf]
theorem dist_suf (c a b : List UInt8) : dist (a ++ c) (b ++ c) = dist a b := by
  unfold dist
  rw [List.reverse_append, List.reverse_append, lev_pre]
theorem dist_put (c : UInt8) (a b : List UInt8) : dist (a ++ c :: b) (a ++ b) ≤ 1 := by
  rw [dist_pre]
  have h : dist (c :: b) b = dist ([c] ++ b) ([] ++ b) := rfl
  rw [h, dist_suf]
  unfold dist
  rw [List.reverse_nil, lev_nil_r]
  simp
theorem parts_mod (n m : Nat) (hn : n ≤ 150) (hm : m < 256) : ∃ k : Nat, k ≤ n ∧ Int.tmod (wrap64 (m : Int)) (wrap64 ((n : Int) + 1)) = (k : Int) ∧ ¬ wrap64 ((n : Int) + 1) = 0 := by
  have h1 : wrap64 (m : Int) = (m : Int) := wrap_id (by omega) (by omega)
  have h2 : wrap64 ((n : Int) + 1) = ((n + 1 : Nat) : Int) := wrap_succ n (by omega)
  refine ⟨m % (n + 1), by have := Nat.mod_lt m (show 0 < n + 1 by omega); omega, ?_, by rw [h2]; omega⟩
  rw [h1, h2, Int.tmod_eq_emod_of_nonneg (by omega)]
  rfl
theorem parts_arith (p q : Nat) (h1 : p ≤ q + 1) (h2 : q ≤ p + 1) (h3 : q ≤ 1000) : (p : Int) ≤ wrap64 ((q : Int) + 1) ∧ (p : Int) ≥ wrap64 ((q : Int) - 1) := by
  rw [wrap_id (by omega) (by omega), wrap_id (by omega) (by omega)]
  omega
theorem MeasureParts : cleanselaw04_MeasureParts.Pure := by
  intro a0 a1 a2 a3 a4 _ _ _ ha3 ha4
  obtain ⟨c3, rfl⟩ := u8_of ha3
  obtain ⟨c4, rfl⟩ := u8_of ha4
  refine Ev.rounds (g := fun k => cleanselaw04_MeasureParts.f k a0 a1 a2 (c3.toNat : Int) (c4.toNat : Int)) ?_
  obtain ⟨b, hb, hbi⟩ := short_f 150 [a0, a1, a2] (by simp)
  refine Ev.congr (fun k => by unfold cleanselaw04_MeasureParts.f cleanselaw04_head.f; rw [Option.bind_some]) (Ev.bind hb ?_)
  cases b with
  | false => exact Ev.congr (fun k => by rw [if_neg (by simp)]) (Ev.now _)
  | true =>
    have hh := hbi.1 rfl
    have b0 : a0.size ≤ 150 := Int.ofNat_le.1 (hh a0 (by simp))
    have b1 : a1.size ≤ 150 := Int.ofNat_le.1 (hh a1 (by simp))
    have b2 : a2.size ≤ 150 := Int.ofNat_le.1 (hh a2 (by simp))
    clear hh hbi hb
    have s0 := tl_size a0
    have s1 := tl_size a1
    have s2 := tl_size a2
    obtain ⟨j, hj, hmod, hne⟩ := parts_mod a0.size c3.toNat b0 c3.toNat_lt
    have hx : strOfNums [(c4.toNat : Int)] = ofL [c4] := nums_str [c4]
    have hput : (a0.extract 0 j ++ ofL [c4] ++ a0.extract j a0.size).toList = a0.toList.take j ++ c4 :: a0.toList.drop j := by
      rw [tl_append, tl_append, tl_ofL, tl_extract, tl_extract, List.drop_zero, Nat.sub_zero, List.take_of_length_le (l := a0.toList.drop j) (by rw [List.length_drop, s0]; omega)]
      simp
    have z1 : (a0.extract 0 j).size ≤ 150 := by rw [← tl_size, tl_extract, List.length_take]; omega
    have z2 : (a0.extract 0 j ++ ofL [c4]).size ≤ 151 := by rw [← tl_size, tl_append, List.length_append, tl_size, tl_ofL]; simp; omega
    have z3 : (a0.extract j a0.size).size ≤ 150 := by rw [← tl_size, tl_extract, List.length_take]; omega
    have d01 := edit_f a0 a1 (by omega) (by omega)
    have dput := edit_f (a0.extract 0 j ++ ofL [c4] ++ a0.extract j a0.size) a1 (by rw [hput]; simp; omega) (by omega)
    have dpre := edit_f (a2 ++ a0) (a2 ++ a1) (by rw [tl_append, List.length_append]; omega) (by rw [tl_append, List.length_append]; omega)
    have dsuf := edit_f (a0 ++ a2) (a1 ++ a2) (by rw [tl_append, List.length_append]; omega) (by rw [tl_append, List.length_append]; omega)
    rw [tl_append, tl_append, dist_pre] at dpre
    rw [tl_append, tl_append, dist_suf] at dsuf
    rw [hput] at dput
    have hp1 := dist_put c4 (a0.toList.take j) (a0.toList.drop j)
    rw [List.take_append_drop] at hp1
    have ht1 := dist_tri (a0.toList.take j ++ c4 :: a0.toList.drop j) a0.toList a1.toList
    have ht2 := dist_tri a0.toList (a0.toList.take j ++ c4 :: a0.toList.drop j) a1.toList
    rw [dist_symm a0.toList (a0.toList.take j ++ c4 :: a0.toList.drop j)] at ht2
    have hbd := (dist_bounds a0.toList a1.toList).2.2
    rw [s0, s1] at hbd
    obtain ⟨q, hq⟩ : ∃ q, dist a0.toList a1.toList = q := ⟨_, rfl⟩
    obtain ⟨p, hp⟩ : ∃ p, dist (a0.toList.take j ++ c4 :: a0.toList.drop j) a1.toList = p := ⟨_, rfl⟩
    rw [hq] at d01 dpre dsuf ht1 ht2 hbd
    rw [hp] at dput ht1 ht2
    obtain ⟨g1, g2⟩ := parts_arith p q (by omega) (by omega) (by omega)
    refine Ev.congr (fun k => by rw [if_pos rfl]) (Ev.bind d01 ?_)
    refine Ev.congr (fun k => by rw [if_neg hne, hmod, if_pos (by omega), if_pos (by omega), Option.bind_some, hx, Int.toNat_natCast, if_pos (by rw [ofL_size]; simp; omega), if_pos (by omega)]) (Ev.bind dput ?_)
    refine Ev.congr (fun k => by rw [if_pos rfl, if_pos (by omega), if_pos (by omega)]) (Ev.bind dpre ?_)
    refine Ev.congr (fun k => by rw [if_pos rfl, if_pos (by omega), if_pos (by omega)]) (Ev.bind dsuf ?_)
    refine Ev.congr (fun k => ?_) (Ev.now true)
    rw [if_pos rfl, if_pos g1, decide_eq_true g2]
end Go.Proofs.YtgomlpndoolllaaDoor.Pure
