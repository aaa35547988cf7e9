/- Parts of the proof of Sets: words, contracts and plain laws. -/
import Derived.Test.YtgomlpndoolllaaDoorSets12
import Derived.Test.YtgomlpndoolllaaDoorSets13
import Derived.Test.YtgomlpndoolllaaDoorSets21
import Derived.Test.YtgomlpndoolllaaDoorSets22
import Derived.Test.YtgomlpndoolllaaDoorSets23
section
/- What the contract of Of tells, in plain values. -/
namespace Go.Proofs.YtgomlpndoolllaaDoor.Pure
open Go Go.RowKit Go.Proofs.YtgomlpndoolllaaDoor.Q Go.Proofs.YtgomlpndoolllaaDoor.CL Go.Proofs.YtgomlpndoolllaaDoorW.PrintWords Go.Proofs.YtgomlpndoolllaaDoorW.PrintLast Go.Proofs.YtgomlpndoolllaaDoorW.PrintMore
set_option linter.unusedVariables false
set_option linter.unusedSimpArgs false

theorem jac_f (a b : List ByteArray) (h : (jOk a && jOk b) = true) (hn : a.length + b.length ≤ 1000000000) : Ev (fun k => measure_Jaccard.f k a b) (jacS (dataL a) (dataL b)) := by
  unfold jacS
  refine Ev.congr (fun k => by unfold measure_Jaccard.f; rw [if_pos h]) ?_
  have hl := jac_len (dataL a) (dataL b)
  have e : (dataL a).length = a.length := by unfold dataL; rw [List.length_map]
  have e2 : (dataL b).length = b.length := by unfold dataL; rw [List.length_map]
  by_cases h0 : (jFold (dataL a) (dataL b)).2.2.1 = 0
  · rw [if_pos h0]
    exact Ev.congr (fun k => by rw [if_pos h0]) (Ev.now _)
  · rw [if_neg h0]
    refine Ev.congr (fun k => by rw [if_neg h0]) (share_f _ _ (by omega) (j_le _ _) (by omega))
end Go.Proofs.YtgomlpndoolllaaDoor.Pure
end

section
/- What the printed Few tells. -/
namespace Go.Proofs.YtgomlpndoolllaaDoor.Pure
open Go Go.RowKit Go.Proofs.YtgomlpndoolllaaDoor.Q Go.Proofs.YtgomlpndoolllaaDoorW.PrintWords Go.Proofs.YtgomlpndoolllaaDoorW.PrintLast Go.Proofs.YtgomlpndoolllaaDoorW.PrintMore
set_option linter.unusedVariables false
set_option linter.unusedSimpArgs false

def FewP (l : List ByteArray) : Prop := l.length ≤ 40 ∧ ∀ x ∈ l, x.size ≤ 100
theorem few_l0 (xs : List (List ByteArray)) (hn : xs.length < 1000) : ∀ (d i : Nat), d + i = xs.length → ∃ b, Ev (fun k => cleanseref04_Few.l0 k xs i) b ∧ (b = true → ∀ l ∈ xs.drop i, FewP l)
  | 0, i, h => ⟨true, Ev.step (f := fun _ => some true) (fun k => by simp only [cleanseref04_Few.l0]; rw [if_neg (by omega)]) (Ev.now _), fun _ => by rw [List.drop_eq_nil_of_le (by omega)]; simp⟩
  | d + 1, i, h => by
    have hi : i < xs.length := by omega
    have hr : rd_L5 xs (i : Int) = xs[i] := by simp [rd_L5, List.getD_eq_getElem?_getD, hi]
    rw [List.drop_eq_getElem_cons hi]
    by_cases hb : (xs[i].length : Int) > 40
    · exact ⟨false, Ev.step (f := fun _ => some false) (fun k => by simp only [cleanseref04_Few.l0]; rw [if_pos (by omega), if_pos (by omega), hr, if_pos hb]) (Ev.now _), fun h => (by cases h)⟩
    · obtain ⟨b1, hs, hs1⟩ := short_f 100 xs[i] (by omega)
      cases b1 with
      | false =>
        refine ⟨false, Ev.step (f := fun k => (cleanseref04_Short.f k 100 xs[i]).bind fun t => if t = true then cleanseref04_Few.l0 k xs (wrap64 ((i : Int) + 1)) else some false) (fun k => by simp only [cleanseref04_Few.l0]; rw [if_pos (by omega), if_pos (by omega), hr, if_neg hb]) (Ev.bind hs (Ev.congr (fun k => by rw [if_neg (by simp)]) (Ev.now _))), fun h => (by cases h)⟩
      | true =>
        obtain ⟨b, hb1, hb2⟩ := few_l0 xs hn d (i + 1) (by omega)
        refine ⟨b, Ev.step (f := fun k => (cleanseref04_Short.f k 100 xs[i]).bind fun t => if t = true then cleanseref04_Few.l0 k xs (wrap64 ((i : Int) + 1)) else some false) (fun k => by simp only [cleanseref04_Few.l0]; rw [if_pos (by omega), if_pos (by omega), hr, if_neg hb]) (Ev.bind hs (Ev.congr (fun k => by rw [if_pos rfl, wrap_suc _ (by omega)]) hb1)), fun hbt l hl => ?_⟩
        rcases List.mem_cons.1 hl with e | e
        · subst e; exact ⟨by omega, fun x hx => Int.ofNat_le.1 (hs1.1 rfl x hx)⟩
        · exact hb2 hbt l e
theorem few_f (xs : List (List ByteArray)) (hn : xs.length < 1000) : ∃ b, Ev (fun k => cleanseref04_Few.f k xs) b ∧ (b = true → ∀ l ∈ xs, FewP l) := few_l0 xs hn xs.length 0 rfl
theorem few_ok {l : List ByteArray} (h : FewP l) : jOk l = true := by
  unfold jOk
  rw [Bool.and_eq_true, decide_eq_true_eq, List.all_eq_true]
  exact ⟨Nat.le_trans h.1 (by decide), fun x hx => by rw [decide_eq_true_eq]; exact Nat.le_trans (h.2 x hx) (by decide)⟩
end Go.Proofs.YtgomlpndoolllaaDoor.Pure
end

section
/- The plain law of MeasureSets. -/
namespace Go.Proofs.YtgomlpndoolllaaDoor.Pure
open Go Go.RowKit Go.Proofs.YtgomlpndoolllaaDoor.Q Go.Proofs.YtgomlpndoolllaaDoor.LSets Go.Proofs.YtgomlpndoolllaaDoorW.PrintWords Go.Proofs.YtgomlpndoolllaaDoorW.PrintLast Go.Proofs.YtgomlpndoolllaaDoorW.PrintMore
set_option linter.unusedVariables false
set_option linter.unusedSimpArgs false

theorem regions (L M N : Bs → Bool) : ∀ U : List Bs, ∃ a b c ab ac bc abc : Nat, cU U (fun x => L x || M x) = a + b + ab + ac + bc + abc ∧ cU U (fun x => L x && M x) = ab + abc ∧ cU U (fun x => L x || N x) = a + c + ab + ac + bc + abc ∧ cU U (fun x => L x && N x) = ac + abc ∧
    cU U (fun x => N x || M x) = b + c + ab + ac + bc + abc ∧ cU U (fun x => N x && M x) = bc + abc := by
  intro U
  induction U with
  | nil => exact ⟨0, 0, 0, 0, 0, 0, 0, rfl, rfl, rfl, rfl, rfl, rfl⟩
  | cons x U ih =>
    obtain ⟨a, b, c, ab, ac, bc, abc, h1, h2, h3, h4, h5, h6⟩ := ih
    unfold cU at *
    simp only [List.filter_cons]
    cases hL : L x <;> cases hM : M x <;> cases hN : N x
    · exact ⟨a, b, c, ab, ac, bc, abc, by simpa using h1, by simpa using h2, by simpa using h3, by simpa using h4, by simpa using h5, by simpa using h6⟩
    · exact ⟨a, b, c + 1, ab, ac, bc, abc, by simp; omega, by simp; omega, by simp; omega, by simp; omega, by simp; omega, by simp; omega⟩
    · exact ⟨a, b + 1, c, ab, ac, bc, abc, by simp; omega, by simp; omega, by simp; omega, by simp; omega, by simp; omega, by simp; omega⟩
    · exact ⟨a, b, c, ab, ac, bc + 1, abc, by simp; omega, by simp; omega, by simp; omega, by simp; omega, by simp; omega, by simp; omega⟩
    · exact ⟨a + 1, b, c, ab, ac, bc, abc, by simp; omega, by simp; omega, by simp; omega, by simp; omega, by simp; omega, by simp; omega⟩
    · exact ⟨a, b, c, ab, ac + 1, bc, abc, by simp; omega, by simp; omega, by simp; omega, by simp; omega, by simp; omega, by simp; omega⟩
    · exact ⟨a, b, c, ab + 1, ac, bc, abc, by simp; omega, by simp; omega, by simp; omega, by simp; omega, by simp; omega, by simp; omega⟩
    · exact ⟨a, b, c, ab, ac, bc, abc + 1, by simp; omega, by simp; omega, by simp; omega, by simp; omega, by simp; omega, by simp; omega⟩
def jn (a b : List Bs) : Nat := if (jFold a b).2.2.1 = 0 then 1 else (jFold a b).2.2.2
def jd (a b : List Bs) : Nat := if (jFold a b).2.2.1 = 0 then 1 else (jFold a b).2.2.1
theorem jac_rat (a b : List Bs) : jacS a b = rat (jn a b) (jd a b) := by
  unfold jacS jn jd
  by_cases h : (jFold a b).2.2.1 = 0
  · rw [if_pos h, if_pos h, if_pos h]; rfl
  · rw [if_neg h, if_neg h, if_neg h]
theorem jd_pos (a b : List Bs) : 0 < jd a b := by unfold jd; split <;> omega
theorem jn_le (a b : List Bs) : jn a b ≤ jd a b := by
  have := j_le a b
  unfold jn jd; split <;> omega
theorem jd_big (a b : List Bs) (ha : a.length ≤ 40) (hb : b.length ≤ 40) : jd a b ≤ 80 := by
  have := jac_len a b
  unfold jd; split <;> omega
theorem jac_tri (l m n : List Bs) : (jd l m - jn l m) * (jd l n * jd n m) ≤ (jd l n - jn l n) * (jd l m * jd n m) + (jd n m - jn n m) * (jd l m * jd l n) := by
  have hU := nodup_jLeft (l ++ (m ++ n))
  have hl : ∀ x, x ∈ l → x ∈ jLeft (l ++ (m ++ n)) := fun x hx => (mem_jLeft _ _).2 (List.mem_append_left _ hx)
  have hm : ∀ x, x ∈ m → x ∈ jLeft (l ++ (m ++ n)) := fun x hx => (mem_jLeft _ _).2 (List.mem_append_right _ (List.mem_append_left _ hx))
  have hn : ∀ x, x ∈ n → x ∈ jLeft (l ++ (m ++ n)) := fun x hx => (mem_jLeft _ _).2 (List.mem_append_right _ (List.mem_append_right _ hx))
  have a1 := j_all hU hl hm
  have a2 := j_all hU hl hn
  have a3 := j_all hU hn hm
  have b1 := j_both (a := l) hU hm
  have b2 := j_both (a := l) hU hn
  have b3 := j_both (a := n) hU hm
  obtain ⟨a, b, c, ab, ac, bc, abc, h1, h2, h3, h4, h5, h6⟩ := regions (inn l) (inn m) (inn n) (jLeft (l ++ (m ++ n)))
  rw [h1] at a1
  rw [h3] at a2
  rw [h5] at a3
  rw [h2] at b1
  rw [h4] at b2
  rw [h6] at b3
  have p1 := jd_pos l m
  have p2 := jd_pos l n
  have p3 := jd_pos n m
  have d1 : jd l m = (if a + b + ab + ac + bc + abc = 0 then 1 else a + b + ab + ac + bc + abc) := by unfold jd; rw [a1]
  have d2 : jd l n = (if a + c + ab + ac + bc + abc = 0 then 1 else a + c + ab + ac + bc + abc) := by unfold jd; rw [a2]
  have d3 : jd n m = (if b + c + ab + ac + bc + abc = 0 then 1 else b + c + ab + ac + bc + abc) := by unfold jd; rw [a3]
  have e1 : jn l m = (if a + b + ab + ac + bc + abc = 0 then 1 else ab + abc) := by unfold jn; rw [a1, b1]
  have e2 : jn l n = (if a + c + ab + ac + bc + abc = 0 then 1 else ac + abc) := by unfold jn; rw [a2, b2]
  have e3 : jn n m = (if b + c + ab + ac + bc + abc = 0 then 1 else bc + abc) := by unfold jn; rw [a3, b3]
  generalize jd l m = u at *
  generalize jd l n = s at *
  generalize jd n m = t at *
  generalize jn l m = x at *
  generalize jn l n = y at *
  generalize jn n m = z at *
  clear a1 a2 a3 b1 b2 b3 h1 h2 h3 h4 h5 h6 hU hl hm hn
  have c1 : (a + b + ab + ac + bc + abc = 0 ∧ u = 1 ∧ x = 1) ∨ (u = a + b + ab + ac + bc + abc ∧ x = ab + abc) := by
    by_cases h : a + b + ab + ac + bc + abc = 0
    · rw [if_pos h] at d1 e1; exact .inl ⟨h, d1, e1⟩
    · rw [if_neg h] at d1 e1; exact .inr ⟨d1, e1⟩
  have c2 : (a + c + ab + ac + bc + abc = 0 ∧ s = 1 ∧ y = 1) ∨ (s = a + c + ab + ac + bc + abc ∧ y = ac + abc) := by
    by_cases h : a + c + ab + ac + bc + abc = 0
    · rw [if_pos h] at d2 e2; exact .inl ⟨h, d2, e2⟩
    · rw [if_neg h] at d2 e2; exact .inr ⟨d2, e2⟩
  have c3 : (b + c + ab + ac + bc + abc = 0 ∧ t = 1 ∧ z = 1) ∨ (t = b + c + ab + ac + bc + abc ∧ z = bc + abc) := by
    by_cases h : b + c + ab + ac + bc + abc = 0
    · rw [if_pos h] at d3 e3; exact .inl ⟨h, d3, e3⟩
    · rw [if_neg h] at d3 e3; exact .inr ⟨d3, e3⟩
  clear d1 d2 d3 e1 e2 e3
  refine tri_frac (p := 0) p1 p2 p3 (by omega) (by omega) (by omega) (by omega) (by omega) (by omega)
theorem sum_le {p q p2 q2 p3 q3 : Nat} (h1 : p ≤ q) (h2 : p2 ≤ q2) (h3 : p3 ≤ q3) (h : (q - p) * (q2 * q3) ≤ (q2 - p2) * (q * q3) + (q3 - p3) * (q * q2)) : (p2 * q3 + p3 * q2) * q ≤ (q + p) * (q2 * q3) := by
  obtain ⟨r, rfl⟩ : ∃ r, q = p + r := ⟨q - p, by omega⟩
  obtain ⟨r2, rfl⟩ : ∃ r, q2 = p2 + r := ⟨q2 - p2, by omega⟩
  obtain ⟨r3, rfl⟩ : ∃ r, q3 = p3 + r := ⟨q3 - p3, by omega⟩
  rw [Nat.add_sub_cancel_left, Nat.add_sub_cancel_left, Nat.add_sub_cancel_left] at h
  generalize hq : p + r = q at *
  generalize hq2 : p2 + r2 = q2 at *
  generalize hq3 : p3 + r3 = q3 at *
  have e1 : p * (q2 * q3) + r * (q2 * q3) = q * (q2 * q3) := by rw [← Nat.add_mul, hq]
  have e2 : p2 * (q * q3) + r2 * (q * q3) = q * (q2 * q3) := by rw [← Nat.add_mul, hq2]; ac_rfl
  have e3 : p3 * (q * q2) + r3 * (q * q2) = q * (q2 * q3) := by rw [← Nat.add_mul, hq3]; ac_rfl
  have e4 : (p2 * q3 + p3 * q2) * q = p2 * (q * q3) + p3 * (q * q2) := by
    rw [Nat.add_mul]
    congr 1 <;> ac_rfl
  have e5 : (q + p) * (q2 * q3) = q * (q2 * q3) + p * (q2 * q3) := Nat.add_mul _ _ _
  omega
theorem scale_le {g g2 g3 p q p2 q2 p3 q3 : Nat} (hg : 0 < g) (hg2 : 0 < g2) (hg3 : 0 < g3)
    (h : (g * q - g * p) * ((g2 * q2) * (g3 * q3)) ≤ (g2 * q2 - g2 * p2) * ((g * q) * (g3 * q3)) + (g3 * q3 - g3 * p3) * ((g * q) * (g2 * q2))) :
    (q - p) * (q2 * q3) ≤ (q2 - p2) * (q * q3) + (q3 - p3) * (q * q2) := by
  rw [← Nat.mul_sub, ← Nat.mul_sub, ← Nat.mul_sub] at h
  have e1 : g * (q - p) * ((g2 * q2) * (g3 * q3)) = (g * (g2 * g3)) * ((q - p) * (q2 * q3)) := by ac_rfl
  have e2 : g2 * (q2 - p2) * ((g * q) * (g3 * q3)) + g3 * (q3 - p3) * ((g * q) * (g2 * q2)) = (g * (g2 * g3)) * ((q2 - p2) * (q * q3) + (q3 - p3) * (q * q2)) := by
    rw [Nat.mul_add]
    congr 1 <;> ac_rfl
  rw [e1, e2] at h
  exact Nat.le_of_mul_le_mul_left h (Nat.mul_pos hg (Nat.mul_pos hg2 hg3))
/-- Make, for whatever two numbers within the limits. -/
theorem Make_g (n d : Nat) (hd : 0 < d) (hn : n ≤ 1000000000) (hb : d ≤ 1000000000) : Ev (fun k => ratio_Make.f k (n : Int) (d : Int)) ((rat n d).1, (rat n d).2, 0) := by
  have h1 : n / Nat.gcd n d ≤ 1000000000 := Nat.le_trans (Nat.div_le_self _ _) hn
  have h2 : d / Nat.gcd n d ≤ 1000000000 := Nat.le_trans (Nat.div_le_self _ _) hb
  have hg : 0 < Nat.gcd n d := Nat.gcd_pos_of_pos_right n hd
  have hr : Ev (fun k => ratio_reduced.f k false (n : Int) (d : Int)) ((rat n d).1, (rat n d).2, 0) := by
    refine Ev.congr (fun k => by unfold ratio_reduced.f; rfl) (Ev.bind (common_f n d) ?_)
    rw [tdiv_cast, tdiv_cast]
    unfold rat
    obtain ⟨p, hp⟩ : ∃ p, n / Nat.gcd n d = p := ⟨_, rfl⟩
    obtain ⟨q, hq⟩ : ∃ q, d / Nat.gcd n d = q := ⟨_, rfl⟩
    rw [hp] at h1 ⊢
    rw [hq] at h2 ⊢
    refine Ev.congr (f := fun k => ratio_reduced.j0 k false (p : Int) (q : Int) false) (fun k => ?_) (Ev.step (f := fun _ => some ((p : Int), (q : Int), 0)) (fun k => ?_) (Ev.now _))
    · rw [if_neg (by omega), u64_id (by omega) (by omega), u64_id (by omega) (by omega), if_neg (by omega), decide_eq_false (by omega)]
    · simp only [ratio_reduced.j0]
      rw [if_neg (by simp), if_neg (by simp), i64_id (by omega) (by omega), i64_id (by omega) (by omega)]
  refine Ev.congr (f := fun k => (ratio_reduced.f k false (n : Int) (d : Int)).bind fun b => some (b.1, b.2.1, b.2.2)) (fun k => ?_) (Ev.bind hr (Ev.now _))
  unfold ratio_Make.f
  rw [if_neg (by omega), mag_f _ (by omega), mag_f _ (by omega), Option.bind_some, Option.bind_some, decide_eq_false (by omega), decide_eq_false (by omega)]
  rfl
theorem wrap_mul {x y b : Nat} (h : x * y ≤ b) (hb : b ≤ 1000000000) : wrap64 ((x : Int) * (y : Int)) = ((x * y : Nat) : Int) := (congrArg wrap64 (Int.natCast_mul x y).symm).trans (wrap_nat (Nat.lt_of_le_of_lt (Nat.le_trans h hb) (by decide)))
theorem wrap_add {x y b c : Nat} (h : x ≤ b) (k : y ≤ c) (hb : b + c ≤ 1000000000) : wrap64 ((x : Int) + (y : Int)) = ((x + y : Nat) : Int) := (congrArg wrap64 (Int.natCast_add x y).symm).trans (wrap_nat (Nat.lt_of_le_of_lt (Nat.le_trans (Nat.add_le_add h k) hb) (by decide)))
theorem Add_nat (p q a b : Nat) (hq : 0 < q) (hb : 0 < b) (h1 : p ≤ 1000) (h2 : q ≤ 1000) (h3 : a ≤ 1000) (h4 : b ≤ 1000) (g1 : Nat.gcd p q = 1) (g2 : Nat.gcd a b = 1) :
    Ev (fun k => ratio_Add.f k (p : Int) (q : Int) (a : Int) (b : Int)) ((rat (p * b + a * q) (q * b)).1, (rat (p * b + a * q) (q * b)).2, 0) := by
  have k1 : p * b ≤ 1000 * 1000 := Nat.mul_le_mul h1 h4
  have k2 : a * q ≤ 1000 * 1000 := Nat.mul_le_mul h3 h2
  have k3 : q * b ≤ 1000 * 1000 := Nat.mul_le_mul h2 h4
  have k4 : 0 < q * b := Nat.mul_pos hq hb
  have e1 : addN (p : Int) (q : Int) (a : Int) (b : Int) = ((p * b + a * q : Nat) : Int) := by
    unfold addN
    rw [wrap_mul k1 (by decide), wrap_mul k2 (by decide)]
    exact wrap_add k1 k2 (by decide)
  have e2 : wrap64 ((q : Int) * (b : Int)) = ((q * b : Nat) : Int) := wrap_mul k3 (by decide)
  have m1 := Make_g (p * b + a * q) (q * b) k4 (Nat.le_trans (Nat.add_le_add k1 k2) (by decide)) (Nat.le_trans k3 (by decide))
  rw [← e1, ← e2] at m1
  have v1 := Valid_nat p q hq (Nat.le_trans h2 (by decide)) (Nat.le_trans h1 (by decide)) g1
  have v2 := Valid_nat a b hb (Nat.le_trans h4 (by decide)) (Nat.le_trans h3 (by decide)) g2
  clear k1 k2 k3 k4 e1 e2 g1 g2
  refine Ev.congr (fun k => by unfold ratio_Add.f; rfl) (Ev.bind v1 ?_)
  refine Ev.congr (fun k => by rw [if_pos rfl]) (Ev.bind v2 ?_)
  exact Ev.congr (fun k => by rw [if_pos rfl]) m1
theorem rat_ge2 {n d m e : Nat} (hd : 0 < d) (hn : n ≤ 1000000000) (hb : d ≤ 1000000000) (he : 0 < e) (hm : m ≤ 1000000000) (hb2 : e ≤ 1000000000) (h : m * d ≤ n * e) :
    ∃ c, Ev (fun k => ratio_Cmp.f k (rat n d).1 (rat n d).2 (rat m e).1 (rat m e).2) c ∧ c ≥ 0 := by
  obtain ⟨g, p, q, hg, hq, e1, e2, hc, hr⟩ := rat_parts n d hd
  obtain ⟨f, a, b, hf, hb', e3, e4, hc', hr'⟩ := rat_parts m e he
  have b1 : p ≤ n := by rw [e1]; exact Nat.le_mul_of_pos_left p hg
  have b2 : q ≤ d := by rw [e2]; exact Nat.le_mul_of_pos_left q hg
  have b3 : a ≤ m := by rw [e3]; exact Nat.le_mul_of_pos_left a hf
  have b4 : b ≤ e := by rw [e4]; exact Nat.le_mul_of_pos_left b hf
  refine ⟨cmpN p q a b, ?_, ?_⟩
  · rw [hr, hr']
    exact Cmp_nat p q a b hq (by omega) (by omega) hc hb' (by omega) (by omega) hc'
  · unfold cmpN
    split
    · rename_i hlt
      have k1 : m * d = (g * f) * (a * q) := by rw [e3, e2]; ac_rfl
      have k2 : n * e = (g * f) * (p * b) := by rw [e1, e4]; ac_rfl
      rw [k1, k2] at h
      have := Nat.le_of_mul_le_mul_left h (Nat.mul_pos hg hf)
      omega
    · split <;> omega
/-! The loops of the law. -/
theorem rdB (l : List ByteArray) (i : Nat) (h : i < l.length) : rdOf ByteArray.empty l (i : Int) = l[i] := by simp [rdOf, List.getD_eq_getElem?_getD, h]
theorem tl_beq (x y : ByteArray) : (x.toList == y.toList) = decide (x = y) := by
  rw [Bool.eq_iff_iff, beq_iff_eq, decide_eq_true_eq]
  exact ⟨fun h => tl_inj h, fun h => by rw [h]⟩
theorem within_l1 (a b : List ByteArray) (hb : b.length ≤ 1000) (i : Nat) (hi : i < a.length) (r : Bool) :
    ∀ (d j : Nat) (c : Bool), d + j = b.length → (∀ c', (c' = true ↔ c = true ∨ a[i] ∈ b.drop j) → Ev (fun k => if c' = true then cleanselaw04_within.l0 k a b (wrap64 ((i : Int) + 1)) else some false) r) →
      Ev (fun k => cleanselaw04_within.l1 k a b (i : Int) c (j : Int)) r
  | 0, j, c, hd, next => by
    refine Ev.step (fun k => ?_) (next c (by rw [List.drop_eq_nil_of_le (by omega)]; simp))
    simp only [cleanselaw04_within.l1]
    rw [if_neg (by omega)]
  | d + 1, j, c, hd, next => by
    have hj : j < b.length := by omega
    rw [List.drop_eq_getElem_cons hj] at next
    cases c with
    | true =>
      refine Ev.step (fun k => ?_) (within_l1 a b hb i hi r d (j + 1) true (by omega) (fun c' hc => next c' (by rw [hc]; simp)))
      simp only [cleanselaw04_within.l1]
      rw [if_pos (by omega), if_pos trivial, wrap_suc _ (by omega)]
    | false =>
      refine Ev.step (fun k => ?_) (within_l1 a b hb i hi r d (j + 1) (decide (a[i] = b[j])) (by omega) (fun c' hc => next c' (by rw [hc, decide_eq_true_eq, List.mem_cons]; simp)))
      simp only [cleanselaw04_within.l1]
      rw [if_pos (by omega), if_neg (by simp), if_pos (by omega), if_pos (by omega), if_pos (by omega), rdB a i hi, rdB b j hj, tl_beq, wrap_suc _ (by omega)]
noncomputable def dec (p : Prop) : Bool := @decide p (Classical.propDecidable p)
theorem dec_iff {p : Prop} : dec p = true ↔ p := @decide_eq_true_iff p (Classical.propDecidable p)
theorem dec_true {p : Prop} (h : p) : dec p = true := dec_iff.2 h
theorem dec_false {p : Prop} (h : ¬ p) : dec p = false := by
  cases e : dec p with
  | false => rfl
  | true => exact absurd (dec_iff.1 e) h
theorem dec_congr {p q : Prop} (h : p ↔ q) : dec p = dec q := by rw [Bool.eq_iff_iff, dec_iff, dec_iff, h]
theorem dec_eq {p q : Prop} [Decidable p] (h : p ↔ q) : decide p = dec q := by rw [Bool.eq_iff_iff, dec_iff, decide_eq_true_eq, h]
theorem within_l0 (a b : List ByteArray) (ha : a.length ≤ 1000) (hb : b.length ≤ 1000) : ∀ (d i : Nat), d + i = a.length → Ev (fun k => cleanselaw04_within.l0 k a b (i : Int)) (dec (∀ x, x ∈ a.drop i → x ∈ b))
  | 0, i, hd => by
    rw [dec_true (by rw [List.drop_eq_nil_of_le (by omega)]; intro x hx; cases hx)]
    refine Ev.step (f := fun _ => some true) (fun k => ?_) (Ev.now _)
    simp only [cleanselaw04_within.l0]
    rw [if_neg (by omega)]
  | d + 1, i, hd => by
    have hi : i < a.length := by omega
    refine Ev.step (fun k => ?_) (within_l1 a b hb i hi _ b.length 0 false rfl (fun c' hc => ?_))
    · simp only [cleanselaw04_within.l0]
      rw [if_pos (by omega)]
      rfl
    · rw [List.drop_zero] at hc
      have hc' : c' = true ↔ a[i] ∈ b := by rw [hc]; simp
      rw [List.drop_eq_getElem_cons hi]
      cases c' with
      | true =>
        have ih := within_l0 a b ha hb d (i + 1) (by omega)
        have : dec (∀ x, x ∈ a[i] :: a.drop (i + 1) → x ∈ b) = dec (∀ x, x ∈ a.drop (i + 1) → x ∈ b) := dec_congr ⟨fun h x hx => h x (List.mem_cons_of_mem _ hx), fun h x hx => by
          rcases List.mem_cons.1 hx with e | e
          · rw [e]; exact hc'.1 rfl
          · exact h x e⟩
        rw [this]
        exact Ev.congr (fun k => by rw [if_pos rfl, wrap_suc _ (by omega)]) ih
      | false =>
        rw [dec_false (fun h => by have := hc'.2 (h _ List.mem_cons_self); cases this)]
        exact Ev.congr (fun k => by rw [if_neg (by simp)]) (Ev.now _)
theorem within_f (a b : List ByteArray) (ha : a.length ≤ 1000) (hb : b.length ≤ 1000) : Ev (fun k => cleanselaw04_within.f k a b) (dec (∀ x, x ∈ a → x ∈ b)) := within_l0 a b ha hb a.length 0 rfl
theorem apart_l0 (a b : List ByteArray) (ha : a.length ≤ 1000) (hb : b.length ≤ 1000) : ∀ (d i : Nat), d + i = a.length → Ev (fun k => cleanselaw04_apart.l0 k a b (i : Int)) (dec (∀ x, x ∈ a.drop i → x ∉ b))
  | 0, i, hd => by
    rw [dec_true (by rw [List.drop_eq_nil_of_le (by omega)]; intro x hx; cases hx)]
    refine Ev.step (f := fun _ => some true) (fun k => ?_) (Ev.now _)
    simp only [cleanselaw04_apart.l0]
    rw [if_neg (by omega)]
  | d + 1, i, hd => by
    have hi : i < a.length := by omega
    have hone : (a.take (((i + 1 : Nat) : Int)).toNat).drop ((i : Int)).toNat = [a[i]] := by
      rw [Int.toNat_natCast, Int.toNat_natCast, List.take_succ_eq_append_getElem hi, List.drop_append_of_le_length (by rw [List.length_take]; omega), List.drop_eq_nil_of_le (by rw [List.length_take]; omega)]
      rfl
    have hw := within_f [a[i]] b (by simp) hb
    rw [List.drop_eq_getElem_cons hi]
    refine Ev.step (f := fun k => (cleanselaw04_within.f k [a[i]] b).bind fun t => if t = true then some false else cleanselaw04_apart.l0 k a b ((i + 1 : Nat) : Int)) (fun k => ?_) (Ev.bind hw ?_)
    · simp only [cleanselaw04_apart.l0]
      rw [if_pos (by omega), if_pos (by omega), wrap_suc _ (by omega), if_pos (by omega), if_pos (by omega), hone]
    · by_cases hm : a[i] ∈ b
      · rw [dec_false (p := ∀ x, x ∈ a[i] :: a.drop (i + 1) → x ∉ b) (fun h => h _ List.mem_cons_self hm)]
        exact Ev.congr (fun k => by rw [if_pos (dec_true (by simpa using hm))]) (Ev.now _)
      · have : dec (∀ x, x ∈ a[i] :: a.drop (i + 1) → x ∉ b) = dec (∀ x, x ∈ a.drop (i + 1) → x ∉ b) := dec_congr ⟨fun h x hx => h x (List.mem_cons_of_mem _ hx), fun h x hx => by
          rcases List.mem_cons.1 hx with e | e
          · rw [e]; exact hm
          · exact h x e⟩
        rw [this]
        exact Ev.congr (fun k => by rw [dec_false (p := ∀ x, x ∈ [a[i]] → x ∈ b) (by simpa using hm), if_neg (by simp)]) (apart_l0 a b ha hb d (i + 1) (by omega))
theorem apart_f (a b : List ByteArray) (ha : a.length ≤ 1000) (hb : b.length ≤ 1000) : Ev (fun k => cleanselaw04_apart.f k a b) (dec (∀ x, x ∈ a → x ∉ b)) := apart_l0 a b ha hb a.length 0 rfl
theorem dl_inj {x y : ByteArray} (h : x.data.toList = y.data.toList) : x = y := tl_inj (by rw [Go.ByteArray.toList_eq, Go.ByteArray.toList_eq]; exact h)
theorem mem_dataL {x : ByteArray} {l : List ByteArray} : x.data.toList ∈ dataL l ↔ x ∈ l := by
  unfold dataL
  rw [List.mem_map]
  exact ⟨fun ⟨y, hy, e⟩ => dl_inj e ▸ hy, fun h => ⟨x, h, rfl⟩⟩
theorem sub_dataL (a b : List ByteArray) : (∀ x, x ∈ a → x ∈ b) ↔ (∀ x, x ∈ dataL a → x ∈ dataL b) := by
  constructor
  · intro h x hx
    obtain ⟨y, hy, rfl⟩ := List.mem_map.1 hx
    exact mem_dataL.2 (h y hy)
  · intro h x hx
    exact mem_dataL.1 (h _ (mem_dataL.2 hx))
theorem apart_dataL (a b : List ByteArray) : (∀ x, x ∈ a → x ∉ b) ↔ (∀ x, x ∈ dataL a → x ∉ dataL b) := by
  constructor
  · intro h x hx hb
    obtain ⟨y, hy, rfl⟩ := List.mem_map.1 hx
    exact h y hy (mem_dataL.1 hb)
  · intro h x hx hb
    exact h _ (mem_dataL.2 hx) (mem_dataL.2 hb)
theorem nil_dataL (a : List ByteArray) : dataL a = [] ↔ a.length = 0 := by unfold dataL; rw [List.map_eq_nil_iff, List.length_eq_zero_iff]
theorem pair_one (r : Int × Int) (c d : Int) : (r.1 == c && r.2 == d) = decide (r = (c, d)) := by
  obtain ⟨a, b⟩ := r
  rw [Bool.eq_iff_iff]; simp
/-- The law's second half: the triangle. -/
theorem sets_j0 (l m n : List ByteArray) (hl : FewP l) (hm : FewP m) (hn : FewP n) :
    Ev (fun k => cleanselaw04_MeasureSets.j0 k l m n true false (jacS (dataL l) (dataL m)).1 (jacS (dataL l) (dataL m)).2) true := by
  have dl : ∀ z : List ByteArray, (dataL z).length = z.length := fun z => by unfold dataL; rw [List.length_map]
  have l1 := hl.1
  have l2 := hm.1
  have l3 := hn.1
  have B := jac_f l n (by rw [few_ok hl, few_ok hn]; rfl) (by omega)
  have C := jac_f n m (by rw [few_ok hn, few_ok hm]; rfl) (by omega)
  have tri := jac_tri (dataL l) (dataL m) (dataL n)
  have q1 := jd_big (dataL l) (dataL m) (by rw [dl]; omega) (by rw [dl]; omega)
  have q2 := jd_big (dataL l) (dataL n) (by rw [dl]; omega) (by rw [dl]; omega)
  have q3 := jd_big (dataL n) (dataL m) (by rw [dl]; omega) (by rw [dl]; omega)
  have m1 := jn_le (dataL l) (dataL m)
  have m2 := jn_le (dataL l) (dataL n)
  have m3 := jn_le (dataL n) (dataL m)
  have r1 := rat_parts (jn (dataL l) (dataL m)) (jd (dataL l) (dataL m)) (jd_pos _ _)
  have r2 := rat_parts (jn (dataL l) (dataL n)) (jd (dataL l) (dataL n)) (jd_pos _ _)
  have r3 := rat_parts (jn (dataL n) (dataL m)) (jd (dataL n) (dataL m)) (jd_pos _ _)
  rw [jac_rat] at B C
  rw [jac_rat]
  generalize jn (dataL l) (dataL m) = x1 at *
  generalize jd (dataL l) (dataL m) = y1 at *
  generalize jn (dataL l) (dataL n) = x2 at *
  generalize jd (dataL l) (dataL n) = y2 at *
  generalize jn (dataL n) (dataL m) = x3 at *
  generalize jd (dataL n) (dataL m) = y3 at *
  obtain ⟨g, p, q, hg, hq, e1, e2, hc, hr⟩ := r1
  obtain ⟨g2, p2, q2', hg2, hq2, e3, e4, hc2, hr2⟩ := r2
  obtain ⟨g3, p3, q3', hg3, hq3, e5, e6, hc3, hr3⟩ := r3
  rw [hr2] at B
  rw [hr3] at C
  rw [hr]
  rw [e1, e2, e3, e4, e5, e6] at tri
  have t1 := scale_le hg hg2 hg3 tri
  rw [e1, e2] at m1
  rw [e3, e4] at m2
  rw [e5, e6] at m3
  have n1 := Nat.le_of_mul_le_mul_left m1 hg
  have n2 := Nat.le_of_mul_le_mul_left m2 hg2
  have n3 := Nat.le_of_mul_le_mul_left m3 hg3
  have t2 := sum_le n1 n2 n3 t1
  have z1 : q ≤ 80 := by rw [e2] at q1; exact Nat.le_trans (Nat.le_mul_of_pos_left q hg) q1
  have z2 : q2' ≤ 80 := by rw [e4] at q2; exact Nat.le_trans (Nat.le_mul_of_pos_left q2' hg2) q2
  have z3 : q3' ≤ 80 := by rw [e6] at q3; exact Nat.le_trans (Nat.le_mul_of_pos_left q3' hg3) q3
  clear tri t1 m1 m2 m3 q1 q2 q3 e1 e2 e3 e4 e5 e6 hr hr2 hr3 dl hl hm hn l1 l2 l3
  have S := Add_nat 1 1 p q (by omega) hq (by omega) (by omega) (by omega) (by omega) (by decide) hc
  have T := Add_nat p2 q2' p3 q3' hq2 hq3 (by omega) (by omega) (by omega) (by omega) hc2 hc3
  have w1 : p2 * q3' ≤ 80 * 80 := Nat.mul_le_mul (by omega) z3
  have w2 : p3 * q2' ≤ 80 * 80 := Nat.mul_le_mul (by omega) z2
  have w3 : q2' * q3' ≤ 80 * 80 := Nat.mul_le_mul z2 z3
  have w4 : 0 < q2' * q3' := Nat.mul_pos hq2 hq3
  rw [Nat.one_mul, Nat.mul_one] at S
  obtain ⟨c, hcm, hc0⟩ := rat_ge2 (n := q + p) (d := q) (m := p2 * q3' + p3 * q2') (e := q2' * q3') hq (by omega) (by omega) w4 (by omega) (by omega) t2
  refine Ev.step (fun k => by simp only [cleanselaw04_MeasureSets.j0]; rw [if_neg (by simp)]) (Ev.bind B (Ev.bind C ?_))
  refine Ev.congr (f := fun k => (ratio_Add.f k ((1 : Nat) : Int) ((1 : Nat) : Int) (p : Int) (q : Int)).bind fun u => (ratio_Add.f k (p2 : Int) (q2' : Int) (p3 : Int) (q3' : Int)).bind fun v => if u.2.2 = 0 then (if v.2.2 = 0 then ((ratio_Cmp.f k u.1 u.2.1 v.1 v.2.1).bind fun t => some (decide (t ≥ 0))) else some false) else some false)
    (fun k => by unfold cleanselaw04_of.f; simp only [Option.bind_some, if_true]; rfl) (Ev.bind S (Ev.bind T ?_))
  refine Ev.congr (fun k => by rw [if_pos rfl, if_pos rfl]) (Ev.bind hcm ?_)
  exact Ev.congr (fun k => by rw [decide_eq_true hc0]) (Ev.now true)
theorem bne_self (b : Bool) : (b != b) = false := by cases b <;> rfl
theorem sets_ev (l m n : List ByteArray) : Ev (fun k => cleanselaw04_MeasureSets.f k l m n) true := by
  obtain ⟨b, hf, hfi⟩ := few_f [l, m, n] (by simp)
  refine Ev.congr (fun k => by unfold cleanselaw04_MeasureSets.f cleanselaw04_head.f; rw [Option.bind_some]) (Ev.bind hf ?_)
  cases b with
  | false => exact Ev.congr (fun k => by rw [if_neg (by simp)]) (Ev.now _)
  | true =>
    have hl := hfi rfl l (by simp)
    have hm := hfi rfl m (by simp)
    have hn := hfi rfl n (by simp)
    clear hf hfi
    have l1 := hl.1
    have l2 := hm.1
    have A := jac_f l m (by rw [few_ok hl, few_ok hm]; rfl) (by omega)
    have W1 := within_f l m (by omega) (by omega)
    have W2 := within_f m l (by omega) (by omega)
    have P1 := apart_f l m (by omega) (by omega)
    have j0 := sets_j0 l m n hl hm hn
    have one := jacS_one (dataL l) (dataL m)
    have zero := jacS_zero (dataL l) (dataL m)
    rw [← apart_dataL] at zero
    have hsub : (∀ x, x ∈ dataL l ↔ x ∈ dataL m) ↔ (∀ x, x ∈ l → x ∈ m) ∧ (∀ x, x ∈ m → x ∈ l) := by
      rw [sub_dataL, sub_dataL m l]
      exact ⟨fun h => ⟨fun x hx => (h x).1 hx, fun x hx => (h x).2 hx⟩, fun h x => ⟨h.1 x, h.2 x⟩⟩
    rw [hsub] at one
    rw [ne_eq, ne_eq, nil_dataL, nil_dataL] at zero
    generalize jacS (dataL l) (dataL m) = J at *
    -- what is left behind the first test
    have rest : Ev (fun k => (cleanselaw04_of.f 0 1).bind fun bt113 => ((cleanselaw04_apart.f k l m).bind fun t115 => (if t115 = true then (if (l.length : Int) > 0 then (cleanselaw04_MeasureSets.j0 k l m n true ((J.1 == bt113.1 && (J.2 == bt113.2)) != true) J.1 J.2) else (cleanselaw04_MeasureSets.j0 k l m n true ((J.1 == bt113.1 && (J.2 == bt113.2)) != (decide ((m.length : Int) > 0))) J.1 J.2)) else (cleanselaw04_MeasureSets.j0 k l m n true ((J.1 == bt113.1 && (J.2 == bt113.2)) != false) J.1 J.2)))) true := by
      refine Ev.congr (fun k => by unfold cleanselaw04_of.f; rw [Option.bind_some]) (Ev.bind P1 ?_)
      dsimp only
      rw [pair_one]
      by_cases hp : ∀ x, x ∈ l → x ∉ m
      · rw [dec_true hp]
        refine Ev.congr (fun k => by rw [if_pos rfl]) ?_
        by_cases hz : (l.length : Int) > 0
        · have : decide (J = (0, 1)) = true := decide_eq_true (zero.2 ⟨hp, .inl (by omega)⟩)
          exact Ev.congr (fun k => by rw [if_pos hz, this, bne_self]) j0
        · have : decide (J = (0, 1)) = decide ((m.length : Int) > 0) := decide_eq_decide.2 (zero.trans ⟨fun h => by rcases h.2 with k | k <;> omega, fun h => ⟨hp, .inr (by omega)⟩⟩)
          exact Ev.congr (fun k => by rw [if_neg hz, this, bne_self]) j0
      · rw [dec_false hp]
        have : decide (J = (0, 1)) = false := decide_eq_false (fun h => hp (zero.1 h).1)
        exact Ev.congr (fun k => by rw [if_neg (by simp), this, bne_self]) j0
    refine Ev.congr (fun k => by rw [if_pos rfl]) (Ev.bind A ?_)
    refine Ev.congr (fun k => by unfold cleanselaw04_of.f; simp only [Option.bind_some]; rfl) (Ev.bind W1 ?_)
    rw [pair_one]
    by_cases hw : ∀ x, x ∈ l → x ∈ m
    · rw [dec_true hw]
      refine Ev.congr (fun k => by rw [if_pos rfl]) (Ev.bind W2 ?_)
      have : decide (J = (1, 1)) = dec (∀ x, x ∈ m → x ∈ l) := dec_eq (one.trans ⟨fun h => h.2, fun h => ⟨hw, h⟩⟩)
      rw [this]
      exact Ev.congr (fun k => by rw [bne_self, if_neg (by simp)]; rfl) rest
    · rw [dec_false hw]
      have : decide (J = (1, 1)) = false := decide_eq_false (fun h => hw (one.1 h).1)
      rw [this]
      exact Ev.congr (fun k => by rw [if_neg (by simp), if_neg (by simp)]; rfl) rest
end Go.Proofs.YtgomlpndoolllaaDoor.Pure
end
