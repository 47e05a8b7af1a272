/- Plain mathematics: a float turned about; no condition. -/
import Derived.Test.YthnmjkjllhlcjaaDoorRn
namespace Go.Tri
open Go

theorem xor_top {m : Nat} (h : m < 9223372036854775808) : m ^^^ 9223372036854775808 = 9223372036854775808 + m := by
  have h1 : 9223372036854775808 + m = 9223372036854775808 ||| m := by
    have := Nat.two_pow_add_eq_or_of_lt (i := 63) (b := m) (by omega) 1
    simpa using this
  rw [h1]
  refine Nat.eq_of_testBit_eq fun i => ?_
  rw [Nat.testBit_xor, Nat.testBit_or, show (9223372036854775808 : Nat) = 2 ^ 63 by decide, Nat.testBit_two_pow]
  by_cases hi : 63 = i
  · subst hi
    have : m.testBit 63 = false := Nat.testBit_lt_two_pow (by omega)
    simp [this]
  · simp [hi]
theorem neg_word {z : Nat} (hz : z < 18446744073709551616) : Op.negFloat .f64 z = Ieee.double.word (!neb z) (z % 9223372036854775808) := by
  show z ^^^ 2 ^ (11 + 52) = _
  rw [show (2 : Nat) ^ (11 + 52) = 9223372036854775808 by decide, word_eq]
  unfold neb
  by_cases h : z < 9223372036854775808
  · rw [xor_top h, Nat.mod_eq_of_lt h]
    have : z / 9223372036854775808 = 0 := by omega
    simp [this]
  · have e : z = (z % 9223372036854775808) ^^^ 9223372036854775808 := by rw [xor_top (by omega)]; omega
    have h2 : z / 9223372036854775808 = 1 := by omega
    simp only [h2]
    conv => lhs; rw [e, Nat.xor_assoc, Nat.xor_self, Nat.xor_zero]
    simp
theorem sr_neg {z : Nat} (hz : Num64 z) : Num64 (Op.negFloat .f64 z) ∧ sr (Op.negFloat .f64 z) = -sr z := by
  rw [neg_word hz.1]
  refine ⟨num_word hz.2, ?_⟩
  rw [sr_word hz.2]
  unfold sr
  cases neb z <;> simp
theorem Rn.neg {q : Rat} {z : Nat} (h : Rn q z) : Rn (-q) (Op.negFloat .f64 z) := by
  obtain ⟨hn, neg, r, h0, hr, e⟩ := h
  obtain ⟨h1, h2⟩ := sr_neg hn
  have e1 : sgn (!neg) (-q) = sgn neg q := by unfold sgn; cases neg <;> simp
  refine ⟨h1, !neg, r, by rw [e1]; exact h0, by rw [e1]; exact hr, ?_⟩
  rw [h2, e]
  cases neg <;> simp
end Go.Tri
