/- Parts of the proof of Lists: words, contracts and plain laws. -/
import Derived.Lib.Hide
section
/- What the words of a text are, as_ plain functions on lists of bytes; no program in sight. -/
namespace Go.Proofs.YtiffkknhnmpgbaaDoor

/-- Induction from the end of a list. -/
@[elab_as_elim] theorem snocInd {α : Type} {P : List α → Prop} (nil : P []) (snoc : ∀ l a, P l → P (l ++ [a])) (l : List α) : P l := by
  have key : ∀ r : List α, P r.reverse := by
    intro r
    induction r with
    | nil => exact nil
    | cons a r ih => rw [List.reverse_cons]; exact snoc _ _ ih
  have := key l.reverse
  rwa [List.reverse_reverse] at this

/-- A letter in lower case, a digit; 0 for any other byte. -/
def lowC (c : UInt8) : UInt8 := if 65 ≤ c ∧ c ≤ 90 then c + 32 else if (97 ≤ c ∧ c ≤ 122) ∨ (48 ≤ c ∧ c ≤ 57) then c else 0
/-- The words that are closed, and the one that is open. -/
def stepW (s : List (List UInt8) × List UInt8) (c : UInt8) : List (List UInt8) × List UInt8 :=
  if lowC c = 0 then (if s.2 = [] then s.1 else s.1 ++ [s.2], []) else (s.1, s.2 ++ [lowC c])
def scanW (l : List UInt8) : List (List UInt8) × List UInt8 := l.foldl stepW ([], [])
def flushW (s : List (List UInt8) × List UInt8) : List (List UInt8) := if s.2 = [] then s.1 else s.1 ++ [s.2]
def wordsL (l : List UInt8) : List (List UInt8) := flushW (scanW l)

theorem scanW_append (l r : List UInt8) : scanW (l ++ r) = r.foldl stepW (scanW l) := by simp [scanW, List.foldl_append]
theorem scanW_snoc (l : List UInt8) (c : UInt8) : scanW (l ++ [c]) = stepW (scanW l) c := by simp [scanW_append]
theorem scanW_take (l : List UInt8) (k : Nat) (h : k < l.length) : scanW (l.take (k + 1)) = stepW (scanW (l.take k)) l[k] := by
  rw [List.take_succ_eq_append_getElem h, scanW_snoc]
theorem foldl_stepW_prefix : ∀ (r : List UInt8) (s : List (List UInt8) × List UInt8), s.1 <+: (r.foldl stepW s).1
  | [], s => List.prefix_refl _
  | c :: r, s => by
    refine List.IsPrefix.trans ?_ (foldl_stepW_prefix r (stepW s c))
    unfold stepW
    split
    · dsimp only
      split
      · exact List.prefix_refl _
      · exact List.prefix_append _ _
    · exact List.prefix_refl _
theorem flushW_prefix (s : List (List UInt8) × List UInt8) : s.1 <+: flushW s := by
  unfold flushW
  split
  · exact List.prefix_refl _
  · exact List.prefix_append _ _
theorem scanW_prefix (l : List UInt8) (k : Nat) : (scanW (l.take k)).1 <+: wordsL l := by
  have h := foldl_stepW_prefix (l.drop k) (scanW (l.take k))
  rw [← scanW_append, List.take_append_drop] at h
  exact h.trans (flushW_prefix _)
/-- At a byte that is neither letter nor digit the open word is closed. -/
theorem flush_at (l : List UInt8) (k : Nat) (h : k < l.length) (h0 : lowC l[k] = 0) : scanW (l.take (k + 1)) = (flushW (scanW (l.take k)), []) := by
  rw [scanW_take l k h]
  unfold stepW flushW
  rw [if_pos h0]
theorem flush_prefix (l : List UInt8) (k : Nat) (h : k < l.length) (h0 : lowC l[k] = 0) : flushW (scanW (l.take k)) <+: wordsL l := by
  have := scanW_prefix l (k + 1)
  rwa [flush_at l k h h0] at this
theorem letter_at (l : List UInt8) (k : Nat) (h : k < l.length) (h0 : ¬ lowC l[k] = 0) : scanW (l.take (k + 1)) = ((scanW (l.take k)).1, (scanW (l.take k)).2 ++ [lowC l[k]]) := by
  rw [scanW_take l k h]
  unfold stepW
  rw [if_neg h0]
theorem scanW_len (l : List UInt8) : (scanW l).2.length ≤ l.length := by
  induction l using snocInd with
  | nil => simp [scanW]
  | snoc l c ih =>
    rw [scanW_snoc]
    unfold stepW
    split
    · simp
    · simp; omega
theorem scanW_take_len (l : List UInt8) (k : Nat) : (scanW (l.take k)).2.length ≤ k := Nat.le_trans (scanW_len _) (List.length_take_le _ _)
theorem word_len {l : List UInt8} {x : List UInt8} (h : x ∈ wordsL l) : x.length ≤ l.length := by
  have key : ∀ l : List UInt8, ∀ y ∈ (scanW l).1, y.length ≤ l.length := by
    intro l
    induction l using snocInd with
    | nil => simp [scanW]
    | snoc l c ih =>
      rw [scanW_snoc]
      unfold stepW
      intro y hy
      rw [List.length_append]
      split at hy
      · dsimp only at hy
        split at hy
        · have := ih y hy; omega
        · rcases List.mem_append.1 hy with hy | hy
          · have := ih y hy; omega
          · rw [List.mem_singleton.1 hy]; have := scanW_len l; omega
      · have := ih y hy; omega
  unfold wordsL flushW at h
  split at h
  · exact key l x h
  · rcases List.mem_append.1 h with h | h
    · exact key l x h
    · rw [List.mem_singleton.1 h]; exact scanW_len l
/-- How many words a text has. -/
theorem words_len (l : List UInt8) : (wordsL l).length ≤ l.length := by
  have key : ∀ l : List UInt8, (scanW l).1.length + (if (scanW l).2 = [] then 0 else 1) ≤ l.length := by
    intro l
    induction l using snocInd with
    | nil => simp [scanW]
    | snoc l c ih =>
      rw [scanW_snoc]
      unfold stepW
      rw [List.length_append]
      split
      · dsimp only
        split
        · rename_i h; rw [if_pos h] at ih; simp; omega
        · rename_i h; rw [if_neg h] at ih; simp; omega
      · dsimp only
        split at ih
        · split <;> simp <;> omega
        · split <;> simp <;> omega
  have := key l
  unfold wordsL flushW
  split
  · rename_i h; rw [if_pos h] at this; omega
  · rename_i h; rw [if_neg h] at this; simp; omega

/-- The words with one blank between them. -/
def joinB : List (List UInt8) → List UInt8
  | [] => []
  | [x] => x
  | x :: y :: r => x ++ 32 :: joinB (y :: r)
def foldL (l : List UInt8) : List UInt8 := joinB (wordsL l)
theorem joinB_len1 : ∀ (xs : List (List UInt8)), xs ≠ [] → (joinB xs).length + 1 = (xs.map fun x => x.length + 1).sum
  | [], h => absurd rfl h
  | [x], _ => by simp [joinB]
  | x :: y :: r, _ => by
    have ih := joinB_len1 (y :: r) (by simp)
    simp only [joinB, List.map_cons, List.sum_cons, List.length_append, List.length_cons] at ih ⊢
    omega
theorem scanW_tot (l : List UInt8) : ((scanW l).1.map fun x => x.length + 1).sum + (scanW l).2.length ≤ l.length := by
  induction l using snocInd with
  | nil => simp [scanW]
  | snoc l c ih =>
    rw [scanW_snoc, List.length_append]
    unfold stepW
    split
    · dsimp only
      split
      · simp; omega
      · simp only [List.map_append, List.sum_append, List.map_cons, List.map_nil, List.sum_cons, List.sum_nil, List.length_nil, List.length_singleton]; omega
    · simp only [List.length_append, List.length_singleton]; omega
theorem foldL_len (l : List UInt8) : (foldL l).length ≤ l.length := by
  have h := scanW_tot l
  unfold foldL wordsL flushW
  split
  · rename_i h0
    by_cases hn : (scanW l).1 = []
    · rw [hn]; simp [joinB]
    · have := joinB_len1 _ hn; omega
  · rename_i h0
    have := joinB_len1 ((scanW l).1 ++ [(scanW l).2]) (by simp)
    rw [List.map_append, List.sum_append] at this
    simp only [List.map_cons, List.map_nil, List.sum_cons, List.sum_nil] at this
    omega
def ofL (l : List UInt8) : ByteArray := ⟨l.toArray⟩
@[simp] theorem ofL_data (l : List UInt8) : (ofL l).data.toList = l := rfl
@[simp] theorem ofL_size (l : List UInt8) : (ofL l).size = l.length := rfl

end Go.Proofs.YtiffkknhnmpgbaaDoor
end

section
/- Quotients of natural numbers in lowest terms; no program in sight. -/
namespace Go.Proofs.YtiffkknhnmpgbaaDoor
set_option linter.unusedVariables false

def rat (n d : Nat) : Int × Int := (((n / Nat.gcd n d : Nat) : Int), ((d / Nat.gcd n d : Nat) : Int))
theorem rat_parts (n d : Nat) (hd : 0 < d) : ∃ g p q : Nat, 0 < g ∧ 0 < q ∧ n = g * p ∧ d = g * q ∧ Nat.gcd p q = 1 ∧ rat n d = ((p : Int), (q : Int)) := by
  have hg : 0 < Nat.gcd n d := Nat.gcd_pos_of_pos_right n hd
  have h1 : Nat.gcd n d * (n / Nat.gcd n d) = n := Nat.mul_div_cancel' (Nat.gcd_dvd_left n d)
  have h2 : Nat.gcd n d * (d / Nat.gcd n d) = d := Nat.mul_div_cancel' (Nat.gcd_dvd_right n d)
  refine ⟨Nat.gcd n d, n / Nat.gcd n d, d / Nat.gcd n d, hg, Nat.pos_of_ne_zero (fun e => ?_), h1.symm, h2.symm, ?_, rfl⟩
  · rw [e] at h2; omega
  · rw [Nat.gcd_div (Nat.gcd_dvd_left n d) (Nat.gcd_dvd_right n d), Nat.div_self hg]
/-- A quotient from 0 to 1 in lowest terms with a denominator of at most a thousand millions. -/
structure Low (r : Int × Int) (p q : Nat) : Prop where
  fst : r.1 = (p : Int)
  snd : r.2 = (q : Int)
  pos : 0 < q
  le : p ≤ q
  big : q ≤ 1000000000
  low : Nat.gcd p q = 1
theorem rat_low {n d : Nat} (hd : 0 < d) (hn : n ≤ d) (hb : d ≤ 1000000000) : ∃ p q g, Low (rat n d) p q ∧ 0 < g ∧ n = g * p ∧ d = g * q := by
  obtain ⟨g, p, q, hg, hq, e1, e2, hc, hr⟩ := rat_parts n d hd
  refine ⟨p, q, g, ⟨by rw [hr], by rw [hr], hq, ?_, ?_, hc⟩, hg, e1, e2⟩
  · rw [e1, e2] at hn; exact Nat.le_of_mul_le_mul_left hn hg
  · have := Nat.le_mul_of_pos_left q hg; omega
theorem low_zero : Low (0, 1) 0 1 := ⟨rfl, rfl, by decide, by decide, by decide, by decide⟩
theorem low_one : Low (1, 1) 1 1 := ⟨rfl, rfl, by decide, by decide, by decide, by decide⟩
end Go.Proofs.YtiffkknhnmpgbaaDoor
end

section
/- The edit distance of two lists, and that it is a metric; no program in sight. -/
namespace Go.Proofs.YtiffkknhnmpgbaaDoor
set_option linter.unusedVariables false

def lev : List UInt8 → List UInt8 → Nat
  | [], b => b.length
  | x :: a, [] => (x :: a).length
  | x :: a, y :: b => min (lev a b + if x = y then 0 else 1) (min (lev (x :: a) b + 1) (lev a (y :: b) + 1))
termination_by a b => a.length + b.length
theorem lev_nil_l (b : List UInt8) : lev [] b = b.length := by unfold lev; rfl
theorem lev_nil_r (a : List UInt8) : lev a [] = a.length := by cases a <;> (unfold lev; rfl)
theorem lev_cons (x y : UInt8) (a b : List UInt8) : lev (x :: a) (y :: b) = min (lev a b + if x = y then 0 else 1) (min (lev (x :: a) b + 1) (lev a (y :: b) + 1)) := by
  rw [lev]
theorem lev_symm (a b : List UInt8) : lev a b = lev b a := by
  match a, b with
  | [], b => rw [lev_nil_l, lev_nil_r]
  | x :: a, [] => rw [lev_nil_l, lev_nil_r]
  | x :: a, y :: b =>
    rw [lev_cons, lev_cons, lev_symm a b, lev_symm (x :: a) b, lev_symm a (y :: b)]
    by_cases h : x = y
    · rw [if_pos h, if_pos h.symm]; omega
    · rw [if_neg h, if_neg (fun e => h e.symm)]; omega
termination_by a.length + b.length
theorem lev_bounds (a b : List UInt8) : a.length ≤ b.length + lev a b ∧ b.length ≤ a.length + lev a b ∧ lev a b ≤ max a.length b.length := by
  match a, b with
  | [], b => rw [lev_nil_l]; simp
  | x :: a, [] => rw [lev_nil_r]; simp
  | x :: a, y :: b =>
    have h1 := lev_bounds a b
    have h2 := lev_bounds (x :: a) b
    have h3 := lev_bounds a (y :: b)
    rw [lev_cons]
    simp only [List.length_cons] at *
    split <;> omega
termination_by a.length + b.length
end Go.Proofs.YtiffkknhnmpgbaaDoor
end

section
/- The greedy matching behind Jaro's measure: it is symmetric; no program in sight. -/
namespace Go.Proofs.YtiffkknhnmpgbaaDoor
set_option linter.unusedVariables false

/-- i and j are matched: they may be, and neither was matched by a smaller partner. -/
def mt (C : Nat → Nat → Bool) (i j : Nat) : Bool :=
  C i j && (List.range j).attach.all (fun x => !mt C i x.1) && (List.range i).attach.all (fun x => !mt C x.1 j)
termination_by i + j
decreasing_by
  · have := List.mem_range.1 x.2; omega
  · have := List.mem_range.1 x.2; omega
theorem mt_iff (C : Nat → Nat → Bool) (i j : Nat) : mt C i j = true ↔ C i j = true ∧ (∀ t, t < j → mt C i t = false) ∧ (∀ t, t < i → mt C t j = false) := by
  rw [mt]
  simp only [Bool.and_eq_true, List.all_eq_true, List.mem_attach, Bool.not_eq_true', true_implies, Subtype.forall, List.mem_range, and_assoc]
theorem mt_row {C : Nat → Nat → Bool} {i j t : Nat} (h : mt C i j = true) (k : t ≠ j) : mt C i t = false := by
  cases e : mt C i t with
  | false => rfl
  | true =>
    rcases Nat.lt_or_gt_of_ne k with hl | hl
    · have := ((mt_iff C i j).1 h).2.1 t hl; rw [e] at this; exact this
    · have := ((mt_iff C i t).1 e).2.1 j hl; rw [h] at this; exact this
/-- What may be matched: within the window, and equal. -/
def may (w : Nat) (A B : Nat → Int) (i j : Nat) : Bool := decide (i ≤ j + w) && decide (j ≤ i + w) && decide (A i = B j)
def win (la lb : Nat) : Nat := max la lb / 2 - 1
def hasL (C : Nat → Nat → Bool) (lb i : Nat) : Bool := (List.range lb).any fun j => mt C i j
def hasR (C : Nat → Nat → Bool) (la j : Nat) : Bool := (List.range la).any fun i => mt C i j
theorem hasL_iff {C : Nat → Nat → Bool} {lb i : Nat} : hasL C lb i = true ↔ ∃ j, j < lb ∧ mt C i j = true := by
  unfold hasL; rw [List.any_eq_true]
  exact ⟨fun ⟨j, h1, h2⟩ => ⟨j, List.mem_range.1 h1, h2⟩, fun ⟨j, h1, h2⟩ => ⟨j, List.mem_range.2 h1, h2⟩⟩
theorem hasR_iff {C : Nat → Nat → Bool} {la j : Nat} : hasR C la j = true ↔ ∃ i, i < la ∧ mt C i j = true := by
  unfold hasR; rw [List.any_eq_true]
  exact ⟨fun ⟨j, h1, h2⟩ => ⟨j, List.mem_range.1 h1, h2⟩, fun ⟨j, h1, h2⟩ => ⟨j, List.mem_range.2 h1, h2⟩⟩
theorem hasR_succ (C : Nat → Nat → Bool) (i j : Nat) : hasR C (i + 1) j = (hasR C i j || mt C i j) := by
  unfold hasR; rw [List.range_succ, List.any_append]; simp
/-- The matched elements, in order. -/
def lefts (C : Nat → Nat → Bool) (A : Nat → Int) (lb i : Nat) : List Int := ((List.range i).filter fun t => hasL C lb t).map A
def rights (C : Nat → Nat → Bool) (B : Nat → Int) (la j : Nat) : List Int := ((List.range j).filter fun t => hasR C la t).map B
theorem lefts_succ (C : Nat → Nat → Bool) (A : Nat → Int) (lb i : Nat) : lefts C A lb (i + 1) = if hasL C lb i = true then lefts C A lb i ++ [A i] else lefts C A lb i := by
  unfold lefts
  rw [List.range_succ, List.filter_append, List.map_append]
  by_cases h : hasL C lb i = true
  · rw [if_pos h]; simp [h]
  · rw [if_neg h]; simp [h]
theorem rights_succ (C : Nat → Nat → Bool) (B : Nat → Int) (la j : Nat) : rights C B la (j + 1) = if hasR C la j = true then rights C B la j ++ [B j] else rights C B la j := by
  unfold rights
  rw [List.range_succ, List.filter_append, List.map_append]
  by_cases h : hasR C la j = true
  · rw [if_pos h]; simp [h]
  · rw [if_neg h]; simp [h]
theorem lefts_le (C : Nat → Nat → Bool) (A : Nat → Int) (lb i : Nat) : (lefts C A lb i).length ≤ i := by
  unfold lefts
  rw [List.length_map]
  exact Nat.le_trans (List.length_filter_le _ _) (by rw [List.length_range]; exact Nat.le_refl _)
theorem rights_le (C : Nat → Nat → Bool) (B : Nat → Int) (la j : Nat) : (rights C B la j).length ≤ j := by
  unfold rights
  rw [List.length_map]
  exact Nat.le_trans (List.length_filter_le _ _) (by rw [List.length_range]; exact Nat.le_refl _)
/-- As many on the left as_ on the right. -/
theorem count_one (p q : Nat → Bool) (j : Nat) (hp : p j = false) (hq : ∀ t, q t = (p t || decide (t = j))) : ∀ n, ((List.range n).filter q).length = ((List.range n).filter p).length + if j < n then 1 else 0 := by
  intro n
  induction n with
  | zero => simp
  | succ n ih =>
    rw [List.range_succ, List.filter_append, List.filter_append, List.length_append, List.length_append, ih]
    have h := hq n
    by_cases e : n = j
    · subst e
      rw [hp] at h
      simp at h
      simp [h, hp]
    · rw [decide_eq_false e, Bool.or_false] at h
      by_cases hj : j < n
      · rw [if_pos hj, if_pos (by omega), List.filter_cons, List.filter_cons, h]; (split <;> simp) <;> omega
      · rw [if_neg hj, if_neg (by omega), List.filter_cons, List.filter_cons, h]; (split <;> simp)
theorem same_count (C : Nat → Nat → Bool) (A B : Nat → Int) (lb : Nat) : ∀ i, (lefts C A lb i).length = (rights C B i lb).length := by
  intro i
  induction i with
  | zero =>
    have : (List.range lb).filter (fun t => hasR C 0 t) = [] := List.filter_eq_nil_iff.2 (fun t _ => by simp [hasR])
    unfold lefts rights; rw [this]; rfl
  | succ i ih =>
    rw [lefts_succ]
    by_cases h : hasL C lb i = true
    · rw [if_pos h, List.length_append, ih]
      obtain ⟨j, hj, hm⟩ := hasL_iff.1 h
      have key := count_one (fun t => hasR C i t) (fun t => hasR C (i + 1) t) j (by
        cases e : hasR C i j with
        | false => rfl
        | true =>
          obtain ⟨i', hi, hm'⟩ := hasR_iff.1 e
          have := ((mt_iff C i j).1 hm).2.2 i' hi
          rw [this] at hm'; cases hm') (fun t => by
        show hasR C (i + 1) t = (hasR C i t || decide (t = j))
        rw [hasR_succ]
        by_cases e : t = j
        · subst e; rw [hm]; simp
        · rw [mt_row hm e]; simp [e]) lb
      unfold rights
      rw [List.length_map, List.length_map, key, if_pos hj]
      rfl
    · rw [if_neg h, ih]
      unfold rights
      rw [List.length_map, List.length_map]
      congr 1
      refine List.filter_congr (fun t ht => ?_)
      rw [hasR_succ]
      have : mt C i t = false := by
        cases e : mt C i t with
        | false => rfl
        | true => exact absurd (hasL_iff.2 ⟨t, List.mem_range.1 ht, e⟩) h
      rw [this, Bool.or_false]
/-- How many of two lists differ, one by one. -/
def unl (l r : List Int) : Nat := (List.zip l r).countP fun p => decide (p.1 ≠ p.2)
theorem unl_le (l r : List Int) : unl l r ≤ l.length := by
  unfold unl
  refine Nat.le_trans List.countP_le_length ?_
  rw [List.length_zip]; omega
theorem unl_snoc (x : Int) : ∀ (l r : List Int) (y : Int), l[r.length]? = some y → unl l (r ++ [x]) = unl l r + if y = x then 0 else 1
  | [], r, y, h => by simp at h
  | z :: l, [], y, h => by
    simp at h; subst h
    unfold unl
    by_cases e : z = x
    · subst e; simp
    · simp [e]
  | z :: l, a :: r, y, h => by
    have ih := unl_snoc x l r y (by simpa using h)
    unfold unl at *
    rw [List.cons_append, List.zip_cons_cons, List.zip_cons_cons, List.countP_cons, List.countP_cons, ih]
    omega
/-- Jaro's measure. -/
def jaroN (la lb : Nat) (A B : Nat → Int) : Int × Int :=
  if la = 0 ∧ lb = 0 then (1, 1) else
  let C := may (win la lb) A B
  let L := lefts C A lb la
  let R := rights C B la lb
  if L.length = 0 then (0, 1) else rat (2 * L.length * L.length * lb + 2 * L.length * L.length * la + (2 * L.length - unl L R) * la * lb) (6 * la * lb * L.length)
theorem jaroN_low (la lb : Nat) (A B : Nat → Int) (ha : la ≤ 200) (hb : lb ≤ 200) : ∃ p q, Low (jaroN la lb A B) p q := by
  unfold jaroN
  split
  · exact ⟨1, 1, low_one⟩
  · dsimp only
    split
    · exact ⟨0, 1, low_zero⟩
    · rename_i h0 h
      have h1 := lefts_le (may (win la lb) A B) A lb la
      have h2 := rights_le (may (win la lb) A B) B la lb
      rw [← same_count (may (win la lb) A B) A B lb la] at h2
      obtain ⟨m, hm⟩ : ∃ m, (lefts (may (win la lb) A B) A lb la).length = m := ⟨_, rfl⟩
      rw [hm] at h h1 h2 ⊢
      obtain ⟨u, hu⟩ : ∃ u, 2 * m - unl (lefts (may (win la lb) A B) A lb la) (rights (may (win la lb) A B) B la lb) = u := ⟨_, rfl⟩
      rw [hu]
      have hu2 : u ≤ 2 * m := by omega
      have k1 : 2 * m * m * lb ≤ 2 * m * la * lb := Nat.mul_le_mul_right lb (Nat.mul_le_mul_left (2 * m) h1)
      have k2 : 2 * m * m * la ≤ 2 * m * lb * la := Nat.mul_le_mul_right la (Nat.mul_le_mul_left (2 * m) h2)
      have k3 : u * la * lb ≤ 2 * m * la * lb := Nat.mul_le_mul_right lb (Nat.mul_le_mul_right la hu2)
      have e1 : 2 * m * lb * la = 2 * m * la * lb := Nat.mul_right_comm _ _ _
      have e2 : 6 * la * lb * m = 3 * (2 * m * la * lb) := by
        rw [show 6 = 3 * 2 from rfl, Nat.mul_assoc 3, Nat.mul_assoc 3, Nat.mul_assoc 3]
        congr 1
        rw [Nat.mul_right_comm 2 m la, Nat.mul_right_comm (2 * la) m lb]
      have p0 : 0 < 2 * m * la * lb := by
        refine Nat.mul_pos (Nat.mul_pos (by omega) (by omega)) (by omega)
      have p1 : 2 * m * la * lb ≤ 2 * 200 * 200 * 200 := Nat.mul_le_mul (Nat.mul_le_mul (by omega) ha) hb
      obtain ⟨p, q, _, hl, _⟩ := rat_low (n := 2 * m * m * lb + 2 * m * m * la + u * la * lb) (d := 6 * la * lb * m) (by omega) (by omega) (by omega)
      exact ⟨p, q, hl⟩
end Go.Proofs.YtiffkknhnmpgbaaDoor
end
