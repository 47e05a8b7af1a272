/- Plain mathematics: the highest 64 bits, gathered word by word; no condition. -/
import Derived.Test.YthnmjkjllhlcjaaDoorShiftP
import Derived.Test.YthnmjkjllhlcjaaDoorFl
namespace Go.Tri
open Go

/-- What stands above the cut, and whether anything lies below it. -/
def hiOf (N : Nat) (d : Int) : Nat := if 0 ≤ d then N * 2 ^ d.toNat else N / 2 ^ (-d).toNat
def lostOf (N : Nat) (d : Int) : Bool := decide (d < 0) && decide (N % 2 ^ (-d).toNat ≠ 0)

theorem hi_zero (d : Int) : hiOf 0 d = 0 := by unfold hiOf; split <;> simp
theorem lost_zero (d : Int) : lostOf 0 d = false := by unfold lostOf; simp
theorem hi_small {N k : Nat} {d : Int} (hN : N < 2 ^ (32 * k)) (h : 32 * (k : Int) + d ≤ 0) : hiOf N d = 0 := by
  unfold hiOf
  have hle : 2 ^ (32 * k) ≤ 2 ^ (-d).toNat := Nat.pow_le_pow_right (by omega) (by omega)
  split
  · have h0 : k = 0 := by omega
    subst h0
    simp at hN
    simp [hN]
  · exact Nat.div_eq_of_lt (by omega)
theorem lost_small {N k : Nat} {d : Int} (hN : N < 2 ^ (32 * k)) (h : 32 * (k : Int) + d ≤ 0) : lostOf N d = decide (N ≠ 0) := by
  unfold lostOf
  have hle : 2 ^ (32 * k) ≤ 2 ^ (-d).toNat := Nat.pow_le_pow_right (by omega) (by omega)
  by_cases hd : d < 0
  · rw [Nat.mod_eq_of_lt (by omega)]; simp [hd]
  · have h0 : k = 0 := by omega
    subst h0
    simp at hN
    simp [hN]
/-- Above the cut. -/
theorem hi_above {P x k s : Nat} {d : Int} (hP : P < 2 ^ (32 * k)) (h : 32 * (k : Int) + d = s) : hiOf (P + 2 ^ (32 * k) * x) d = hiOf P d + 2 ^ s * x ∧ hiOf P d < 2 ^ s ∧ lostOf (P + 2 ^ (32 * k) * x) d = lostOf P d := by
  unfold hiOf lostOf
  by_cases hd : 0 ≤ d
  · rw [if_pos hd, if_pos hd]
    have hs : s = 32 * k + d.toNat := by omega
    have hd' : ¬ d < 0 := by omega
    rw [hs, Nat.pow_add]
    refine ⟨by grind, Nat.mul_lt_mul_of_pos_right hP (Nat.two_pow_pos _), by simp [hd']⟩
  · rw [if_neg hd, if_neg hd]
    have hk : 32 * k = (-d).toNat + s := by omega
    have e1 : 2 ^ (32 * k) * x = 2 ^ (-d).toNat * (2 ^ s * x) := by rw [hk, Nat.pow_add, Nat.mul_assoc]
    refine ⟨?_, ?_, ?_⟩
    · rw [e1, Nat.add_mul_div_left _ _ (Nat.two_pow_pos _)]
    · rw [Nat.div_lt_iff_lt_mul (Nat.two_pow_pos _), ← Nat.pow_add, Nat.add_comm s, ← hk]; exact hP
    · rw [e1, Nat.add_mul_mod_self_left]
/-- Across the cut. -/
theorem hi_across {P x k s : Nat} {d : Int} (hP : P < 2 ^ (32 * k)) (h : 32 * (k : Int) + d = -(s : Int)) (hs0 : 0 < s) : hiOf (P + 2 ^ (32 * k) * x) d = x / 2 ^ s ∧ lostOf (P + 2 ^ (32 * k) * x) d = (decide (P ≠ 0) || decide (x % 2 ^ s ≠ 0)) := by
  unfold hiOf lostOf
  have hd : ¬ 0 ≤ d := by omega
  have hd' : d < 0 := by omega
  have hk : (-d).toNat = 32 * k + s := by omega
  have hp := Nat.two_pow_pos (32 * k)
  rw [if_neg hd, hk, Nat.pow_add]
  have e1 : (P + 2 ^ (32 * k) * x) / (2 ^ (32 * k) * 2 ^ s) = x / 2 ^ s := by
    rw [← Nat.div_div_eq_div_mul, Nat.add_mul_div_left _ _ hp, Nat.div_eq_of_lt hP, Nat.zero_add]
  refine ⟨e1, ?_⟩
  have e2 : (P + 2 ^ (32 * k) * x) % (2 ^ (32 * k) * 2 ^ s) = P + 2 ^ (32 * k) * (x % 2 ^ s) := by
    rw [Nat.mod_mul, Nat.add_mul_mod_self_left, Nat.mod_eq_of_lt hP, Nat.add_mul_div_left _ _ hp, Nat.div_eq_of_lt hP, Nat.zero_add]
  rw [e2]
  have e3 : (P + 2 ^ (32 * k) * (x % 2 ^ s) ≠ 0) ↔ (P ≠ 0 ∨ x % 2 ^ s ≠ 0) := by
    rw [Ne, Nat.add_eq_zero_iff, Nat.mul_eq_zero]
    have : ¬ 2 ^ (32 * k) = 0 := by omega
    simp only [this, false_or]
    omega
  simp only [e3, hd', decide_true, Bool.true_and, Bool.decide_or]
/-- Below the cut. -/
theorem hi_below {P x k : Nat} {d : Int} (hP : P < 2 ^ (32 * k)) (hx : x < 4294967296) (h : 32 * (k : Int) + d ≤ -32) : hiOf (P + 2 ^ (32 * k) * x) d = 0 ∧ lostOf (P + 2 ^ (32 * k) * x) d = (decide (P ≠ 0) || decide (x ≠ 0)) := by
  have hN : P + 2 ^ (32 * k) * x < 2 ^ (32 * (k + 1)) := by
    rw [show 32 * (k + 1) = 32 * k + 32 by omega, Nat.pow_add]
    have : 2 ^ (32 * k) * (x + 1) ≤ 2 ^ (32 * k) * 2 ^ 32 := Nat.mul_le_mul_left _ (by omega)
    rw [Nat.mul_add] at this
    omega
  refine ⟨hi_small hN (by omega), ?_⟩
  rw [lost_small hN (by omega)]
  have hp := Nat.two_pow_pos (32 * k)
  have e3 : (P + 2 ^ (32 * k) * x ≠ 0) ↔ (P ≠ 0 ∨ x ≠ 0) := by
    rw [Ne, Nat.add_eq_zero_iff, Nat.mul_eq_zero]
    have : ¬ 2 ^ (32 * k) = 0 := by omega
    simp only [this, false_or]
    omega
  simp only [e3, Bool.decide_or]
/-- Of which number these are the highest bits. -/
theorem hi_value (N : Nat) (e d : Int) : (hiOf N d : Rat) * p2 (e - d) ≤ (N : Rat) * p2 e ∧ (N : Rat) * p2 e < ((hiOf N d + 1 : Nat) : Rat) * p2 (e - d) ∧ (lostOf N d = false ↔ (N : Rat) * p2 e = (hiOf N d : Rat) * p2 (e - d)) := by
  have hp := p2_pos (e - d)
  by_cases hd : 0 ≤ d
  · have e1 : (N : Rat) * p2 e = (hiOf N d : Rat) * p2 (e - d) := by
      unfold hiOf
      rw [if_pos hd, Rat.natCast_mul, ← p2_nat, Rat.mul_assoc, ← p2_add]
      congr 2; omega
    refine ⟨by rw [e1]; exact Rat.le_refl, ?_, ?_⟩
    · rw [e1]
      exact (mul_p2_lt _).2 (by exact_mod_cast (Nat.lt_succ_self _))
    · have : ¬ d < 0 := by omega
      unfold lostOf; simp [this, e1]
  · have hm : (-d).toNat = -d := by omega
    have e0 : p2 (e - d) = p2 e * ((2 ^ (-d).toNat : Nat) : Rat) := by
      rw [← p2_nat, ← p2_add, hm]; rfl
    have hdm := Nat.div_add_mod N (2 ^ (-d).toNat)
    have hlt := Nat.mod_lt N (Nat.two_pow_pos (-d).toNat)
    have hh : hiOf N d = N / 2 ^ (-d).toNat := by unfold hiOf; rw [if_neg hd]
    rw [e0, hh]
    unfold lostOf
    generalize 2 ^ (-d).toNat = M at *
    have hpe := p2_pos e
    have c1 : ∀ a : Nat, (a : Rat) * (p2 e * (M : Rat)) = ((a * M : Nat) : Rat) * p2 e := fun a => by
      rw [Rat.natCast_mul]; grind
    rw [c1, c1]
    refine ⟨?_, ?_, ?_⟩
    · refine Rat.mul_le_mul_of_nonneg_right ?_ (Rat.le_of_lt hpe)
      exact_mod_cast Nat.div_mul_le_self N M
    · refine (mul_p2_lt _).2 ?_
      have : N < (N / M + 1) * M := by rw [Nat.add_mul, Nat.mul_comm (N / M)]; omega
      exact_mod_cast this
    · rw [mul_p2_inj]
      have hd' : d < 0 := by omega
      simp only [hd', decide_true, Bool.true_and, ne_eq, decide_not, Bool.not_eq_false', decide_eq_true_eq]
      constructor
      · intro h
        have : N = N / M * M := by rw [Nat.mul_comm (N / M)]; omega
        exact_mod_cast this
      · intro h
        have : N = N / M * M := by exact_mod_cast h
        rw [Nat.mul_comm (N / M)] at this
        omega
end Go.Tri
