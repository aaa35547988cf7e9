/- Parts of the proof of Sets: words, contracts and plain laws. -/
import Derived.Lib.Hide
section
/- What the words of a text are, as_ plain functions on lists of bytes; no program in sight. -/
namespace Go.Proofs.YtgomlpndoolllaaDoor

/-- Induction from the end of a list. -/
@[elab_as_elim] theorem snocInd {α : Type} {P : List α → Prop} (nil : P []) (snoc : ∀ l a, P l → P (l ++ [a])) (l : List α) : P l := by
  have key : ∀ r : List α, P r.reverse := by
    intro r
    induction r with
    | nil => exact nil
    | cons a r ih => rw [List.reverse_cons]; exact snoc _ _ ih
  have := key l.reverse
  rwa [List.reverse_reverse] at this

/-- A letter in lower case, a digit; 0 for any other byte. -/
def lowC (c : UInt8) : UInt8 := if 65 ≤ c ∧ c ≤ 90 then c + 32 else if (97 ≤ c ∧ c ≤ 122) ∨ (48 ≤ c ∧ c ≤ 57) then c else 0
/-- The words that are closed, and the one that is open. -/
def stepW (s : List (List UInt8) × List UInt8) (c : UInt8) : List (List UInt8) × List UInt8 :=
  if lowC c = 0 then (if s.2 = [] then s.1 else s.1 ++ [s.2], []) else (s.1, s.2 ++ [lowC c])
def scanW (l : List UInt8) : List (List UInt8) × List UInt8 := l.foldl stepW ([], [])
def flushW (s : List (List UInt8) × List UInt8) : List (List UInt8) := if s.2 = [] then s.1 else s.1 ++ [s.2]
def wordsL (l : List UInt8) : List (List UInt8) := flushW (scanW l)

theorem scanW_append (l r : List UInt8) : scanW (l ++ r) = r.foldl stepW (scanW l) := by simp [scanW, List.foldl_append]
theorem scanW_snoc (l : List UInt8) (c : UInt8) : scanW (l ++ [c]) = stepW (scanW l) c := by simp [scanW_append]
theorem scanW_take (l : List UInt8) (k : Nat) (h : k < l.length) : scanW (l.take (k + 1)) = stepW (scanW (l.take k)) l[k] := by
  rw [List.take_succ_eq_append_getElem h, scanW_snoc]
theorem foldl_stepW_prefix : ∀ (r : List UInt8) (s : List (List UInt8) × List UInt8), s.1 <+: (r.foldl stepW s).1
  | [], s => List.prefix_refl _
  | c :: r, s => by
    refine List.IsPrefix.trans ?_ (foldl_stepW_prefix r (stepW s c))
    unfold stepW
    split
    · dsimp only
      split
      · exact List.prefix_refl _
      · exact List.prefix_append _ _
    · exact List.prefix_refl _
theorem flushW_prefix (s : List (List UInt8) × List UInt8) : s.1 <+: flushW s := by
  unfold flushW
  split
  · exact List.prefix_refl _
  · exact List.prefix_append _ _
theorem scanW_prefix (l : List UInt8) (k : Nat) : (scanW (l.take k)).1 <+: wordsL l := by
  have h := foldl_stepW_prefix (l.drop k) (scanW (l.take k))
  rw [← scanW_append, List.take_append_drop] at h
  exact h.trans (flushW_prefix _)
/-- At a byte that is neither letter nor digit the open word is closed. -/
theorem flush_at (l : List UInt8) (k : Nat) (h : k < l.length) (h0 : lowC l[k] = 0) : scanW (l.take (k + 1)) = (flushW (scanW (l.take k)), []) := by
  rw [scanW_take l k h]
  unfold stepW flushW
  rw [if_pos h0]
theorem flush_prefix (l : List UInt8) (k : Nat) (h : k < l.length) (h0 : lowC l[k] = 0) : flushW (scanW (l.take k)) <+: wordsL l := by
  have := scanW_prefix l (k + 1)
  rwa [flush_at l k h h0] at this
theorem letter_at (l : List UInt8) (k : Nat) (h : k < l.length) (h0 : ¬ lowC l[k] = 0) : scanW (l.take (k + 1)) = ((scanW (l.take k)).1, (scanW (l.take k)).2 ++ [lowC l[k]]) := by
  rw [scanW_take l k h]
  unfold stepW
  rw [if_neg h0]
theorem scanW_len (l : List UInt8) : (scanW l).2.length ≤ l.length := by
  induction l using snocInd with
  | nil => simp [scanW]
  | snoc l c ih =>
    rw [scanW_snoc]
    unfold stepW
    split
    · simp
    · simp; omega
theorem scanW_take_len (l : List UInt8) (k : Nat) : (scanW (l.take k)).2.length ≤ k := Nat.le_trans (scanW_len _) (List.length_take_le _ _)
theorem word_len {l : List UInt8} {x : List UInt8} (h : x ∈ wordsL l) : x.length ≤ l.length := by
  have key : ∀ l : List UInt8, ∀ y ∈ (scanW l).1, y.length ≤ l.length := by
    intro l
    induction l using snocInd with
    | nil => simp [scanW]
    | snoc l c ih =>
      rw [scanW_snoc]
      unfold stepW
      intro y hy
      rw [List.length_append]
      split at hy
      · dsimp only at hy
        split at hy
        · have := ih y hy; omega
        · rcases List.mem_append.1 hy with hy | hy
          · have := ih y hy; omega
          · rw [List.mem_singleton.1 hy]; have := scanW_len l; omega
      · have := ih y hy; omega
  unfold wordsL flushW at h
  split at h
  · exact key l x h
  · rcases List.mem_append.1 h with h | h
    · exact key l x h
    · rw [List.mem_singleton.1 h]; exact scanW_len l
/-- How many words a text has. -/
theorem words_len (l : List UInt8) : (wordsL l).length ≤ l.length := by
  have key : ∀ l : List UInt8, (scanW l).1.length + (if (scanW l).2 = [] then 0 else 1) ≤ l.length := by
    intro l
    induction l using snocInd with
    | nil => simp [scanW]
    | snoc l c ih =>
      rw [scanW_snoc]
      unfold stepW
      rw [List.length_append]
      split
      · dsimp only
        split
        · rename_i h; rw [if_pos h] at ih; simp; omega
        · rename_i h; rw [if_neg h] at ih; simp; omega
      · dsimp only
        split at ih
        · split <;> simp <;> omega
        · split <;> simp <;> omega
  have := key l
  unfold wordsL flushW
  split
  · rename_i h; rw [if_pos h] at this; omega
  · rename_i h; rw [if_neg h] at this; simp; omega

/-- The words with one blank between them. -/
def joinB : List (List UInt8) → List UInt8
  | [] => []
  | [x] => x
  | x :: y :: r => x ++ 32 :: joinB (y :: r)
def foldL (l : List UInt8) : List UInt8 := joinB (wordsL l)
theorem joinB_len1 : ∀ (xs : List (List UInt8)), xs ≠ [] → (joinB xs).length + 1 = (xs.map fun x => x.length + 1).sum
  | [], h => absurd rfl h
  | [x], _ => by simp [joinB]
  | x :: y :: r, _ => by
    have ih := joinB_len1 (y :: r) (by simp)
    simp only [joinB, List.map_cons, List.sum_cons, List.length_append, List.length_cons] at ih ⊢
    omega
theorem scanW_tot (l : List UInt8) : ((scanW l).1.map fun x => x.length + 1).sum + (scanW l).2.length ≤ l.length := by
  induction l using snocInd with
  | nil => simp [scanW]
  | snoc l c ih =>
    rw [scanW_snoc, List.length_append]
    unfold stepW
    split
    · dsimp only
      split
      · simp; omega
      · simp only [List.map_append, List.sum_append, List.map_cons, List.map_nil, List.sum_cons, List.sum_nil, List.length_nil, List.length_singleton]; omega
    · simp only [List.length_append, List.length_singleton]; omega
theorem foldL_len (l : List UInt8) : (foldL l).length ≤ l.length := by
  have h := scanW_tot l
  unfold foldL wordsL flushW
  split
  · rename_i h0
    by_cases hn : (scanW l).1 = []
    · rw [hn]; simp [joinB]
    · have := joinB_len1 _ hn; omega
  · rename_i h0
    have := joinB_len1 ((scanW l).1 ++ [(scanW l).2]) (by simp)
    rw [List.map_append, List.sum_append] at this
    simp only [List.map_cons, List.map_nil, List.sum_cons, List.sum_nil] at this
    omega
def ofL (l : List UInt8) : ByteArray := ⟨l.toArray⟩
@[simp] theorem ofL_data (l : List UInt8) : (ofL l).data.toList = l := rfl
@[simp] theorem ofL_size (l : List UInt8) : (ofL l).size = l.length := rfl

end Go.Proofs.YtgomlpndoolllaaDoor
end

section
/- Quotients of natural numbers in lowest terms; no program in sight. -/
namespace Go.Proofs.YtgomlpndoolllaaDoor
set_option linter.unusedVariables false

def rat (n d : Nat) : Int × Int := (((n / Nat.gcd n d : Nat) : Int), ((d / Nat.gcd n d : Nat) : Int))
theorem rat_parts (n d : Nat) (hd : 0 < d) : ∃ g p q : Nat, 0 < g ∧ 0 < q ∧ n = g * p ∧ d = g * q ∧ Nat.gcd p q = 1 ∧ rat n d = ((p : Int), (q : Int)) := by
  have hg : 0 < Nat.gcd n d := Nat.gcd_pos_of_pos_right n hd
  have h1 : Nat.gcd n d * (n / Nat.gcd n d) = n := Nat.mul_div_cancel' (Nat.gcd_dvd_left n d)
  have h2 : Nat.gcd n d * (d / Nat.gcd n d) = d := Nat.mul_div_cancel' (Nat.gcd_dvd_right n d)
  refine ⟨Nat.gcd n d, n / Nat.gcd n d, d / Nat.gcd n d, hg, Nat.pos_of_ne_zero (fun e => ?_), h1.symm, h2.symm, ?_, rfl⟩
  · rw [e] at h2; omega
  · rw [Nat.gcd_div (Nat.gcd_dvd_left n d) (Nat.gcd_dvd_right n d), Nat.div_self hg]
theorem low_eq {p q a b : Nat} (hq : 0 < q) (hb : 0 < b) (h1 : Nat.gcd p q = 1) (h2 : Nat.gcd a b = 1) (h : p * b = a * q) : p = a ∧ q = b := by
  have c1 : q ∣ b := (Nat.Coprime.symm h1 : Nat.Coprime q p).dvd_of_dvd_mul_left (h ▸ Nat.dvd_mul_left q a)
  have c2 : b ∣ q := (Nat.Coprime.symm h2 : Nat.Coprime b a).dvd_of_dvd_mul_left (h ▸ Nat.dvd_mul_left b p)
  have e : q = b := Nat.dvd_antisymm c1 c2
  subst e
  exact ⟨Nat.eq_of_mul_eq_mul_right hq h, rfl⟩
theorem rat_eq {n d m e : Nat} (hd : 0 < d) (he : 0 < e) : rat n d = rat m e ↔ n * e = m * d := by
  obtain ⟨g, p, q, hg, hq, hn, hdd, hc, hr⟩ := rat_parts n d hd
  obtain ⟨g', p', q', hg', hq', hm, hee, hc', hr'⟩ := rat_parts m e he
  rw [hr, hr', hn, hdd, hm, hee]
  have key : g * p * (g' * q') = g' * p' * (g * q) ↔ p * q' = p' * q := by
    rw [show g * p * (g' * q') = (g * g') * (p * q') by ac_rfl, show g' * p' * (g * q) = (g * g') * (p' * q) by ac_rfl]
    exact Nat.mul_right_inj (by have := Nat.mul_pos hg hg'; omega)
  rw [key]
  constructor
  · intro h
    have h1 : p = p' := Int.ofNat.inj (congrArg Prod.fst h)
    have h2 : q = q' := Int.ofNat.inj (congrArg Prod.snd h)
    rw [h1, h2]
  · intro h
    obtain ⟨a, b⟩ := low_eq hq hq' hc hc' h
    rw [a, b]
theorem rat_one {n d : Nat} (hd : 0 < d) : rat n d = (1, 1) ↔ n = d := by
  rw [show ((1 : Int), (1 : Int)) = rat 1 1 from rfl, rat_eq hd (by omega)]; omega
theorem rat_zero {n d : Nat} (hd : 0 < d) : rat n d = (0, 1) ↔ n = 0 := by
  rw [show ((0 : Int), (1 : Int)) = rat 0 1 from rfl, rat_eq hd (by omega)]; omega
/-- A quotient from 0 to 1 in lowest terms with a denominator of at most a thousand millions. -/
structure Low (r : Int × Int) (p q : Nat) : Prop where
  fst : r.1 = (p : Int)
  snd : r.2 = (q : Int)
  pos : 0 < q
  le : p ≤ q
  big : q ≤ 1000000000
  low : Nat.gcd p q = 1
end Go.Proofs.YtgomlpndoolllaaDoor
end

section
/- The edit distance of two lists, and that it is a metric; no program in sight. -/
namespace Go.Proofs.YtgomlpndoolllaaDoor
set_option linter.unusedVariables false

def lev : List UInt8 → List UInt8 → Nat
  | [], b => b.length
  | x :: a, [] => (x :: a).length
  | x :: a, y :: b => min (lev a b + if x = y then 0 else 1) (min (lev (x :: a) b + 1) (lev a (y :: b) + 1))
termination_by a b => a.length + b.length
end Go.Proofs.YtgomlpndoolllaaDoor
end
