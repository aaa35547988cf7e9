/- Parts of the proof of Lists: words, contracts and plain laws. -/
import Derived.Laws.Strings
/- The law of the string comparisons that the walks use: what .geq, .leq and .gtr of two strings give. -/
namespace Go.Proofs.YtiffkknhnmpgbaaDoor
theorem bytesLess_tri : ∀ a b : List UInt8, (!(Op.bytesLess a b || a == b)) = Op.bytesLess b a
  | [], [] => by simp [Op.bytesLess]
  | [], b :: y => by simp [Op.bytesLess]
  | a :: x, [] => by simp [Op.bytesLess]
  | a :: x, b :: y => by
    have ih := bytesLess_tri x y
    simp only [Op.bytesLess]
    rcases Nat.lt_trichotomy a.toNat b.toNat with h | h | h
    · have h1 : a < b := by simpa [UInt8.lt_iff_toNat_lt] using h
      have h2 : ¬ b < a := by simp only [UInt8.lt_iff_toNat_lt]; omega
      have h3 : ¬ b = a := by intro e; rw [e] at h; omega
      simp [h1, h2, h3]
    · have h1 : a = b := UInt8.toNat_inj.mp h
      subst h1
      have h2 : ¬ a < a := by simp only [UInt8.lt_iff_toNat_lt]; omega
      simpa [h2] using ih
    · have h1 : b < a := by simpa [UInt8.lt_iff_toNat_lt] using h
      have h2 : ¬ a < b := by simp only [UInt8.lt_iff_toNat_lt]; omega
      have h3 : ¬ a = b := by intro e; rw [e] at h; omega
      simp [h1, h2, h3]
theorem bytesLess_leq (a b : List UInt8) : (Op.bytesLess a b || a == b) = !Op.bytesLess b a := by rw [← bytesLess_tri a b, Bool.not_not]
@[go_sem] theorem binOp_string_geq (t : TypeId) (a b : ByteArray) : binOp .geq t (.string a) (.string b) = pure (.bool (!Op.bytesLess a.toList b.toList)) := by simp [binOp, Op.stringOp]
@[go_sem] theorem binOp_string_leq (t : TypeId) (a b : ByteArray) : binOp .leq t (.string a) (.string b) = pure (.bool (!Op.bytesLess b.toList a.toList)) := by simp only [binOp, Op.stringOp, bytesLess_leq]
@[go_sem] theorem binOp_string_gtr (t : TypeId) (a b : ByteArray) : binOp .gtr t (.string a) (.string b) = pure (.bool (Op.bytesLess b.toList a.toList)) := by simp only [binOp, Op.stringOp, bytesLess_tri]
theorem bne_nil_isEmpty (l : List UInt8) : (l != []) = !l.isEmpty := by cases l <;> rfl
end Go.Proofs.YtiffkknhnmpgbaaDoor
