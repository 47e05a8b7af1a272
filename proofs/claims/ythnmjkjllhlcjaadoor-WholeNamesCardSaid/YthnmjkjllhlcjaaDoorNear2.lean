/- Plain mathematics: the model's rounding is the nearest float; no condition. -/
import Derived.Test.YthnmjkjllhlcjaaDoorNear
namespace Go.Tri
open Go

theorem cut_zero (neg : Bool) (n : Nat) : Ieee.Toward.even.cut neg n 0 = n := by
  unfold Ieee.Toward.cut
  simp [Nat.mod_one]
structure CutAt (n D k : Nat) : Prop where
  up : 2 * n < (2 * k + 1) * 2 ^ D ∨ 2 * n = (2 * k + 1) * 2 ^ D ∧ k % 2 = 0
  down : k = 0 ∨ (2 * k - 1) * 2 ^ D < 2 * n ∨ (2 * k - 1) * 2 ^ D = 2 * n ∧ k % 2 = 0
  le : k ≤ n / 2 ^ D + 1
  ge : n / 2 ^ D ≤ k
theorem half_cut {G n low rest k : Nat} (hn : n = G * low + rest) (hr : rest < G)
    (hk : k = low + (decide (G < 2 * rest) || (G == 2 * rest && low % 2 == 1)).toNat) :
    (2 * n < (2 * k + 1) * G ∨ 2 * n = (2 * k + 1) * G ∧ k % 2 = 0) ∧ (k = 0 ∨ (2 * k - 1) * G < 2 * n ∨ (2 * k - 1) * G = 2 * n ∧ k % 2 = 0) ∧ k ≤ low + 1 ∧ low ≤ k := by
  have e1 : (2 * low + 1) * G = 2 * (G * low) + G := by grind
  have e3 : (2 * (low + 1) + 1) * G = 2 * (G * low) + 3 * G := by grind
  have e2 : (2 * low - 1) * G + G = 2 * (G * low) ∨ low = 0 := by
    rcases Nat.eq_zero_or_pos low with h | h
    · exact .inr h
    · left
      obtain ⟨m, rfl⟩ : ∃ m, low = m + 1 := ⟨low - 1, by omega⟩
      rw [show 2 * (m + 1) - 1 = 2 * m + 1 by omega]
      grind
  have e4 : (2 * (low + 1) - 1) * G = 2 * (G * low) + G := by rw [show 2 * (low + 1) - 1 = 2 * low + 1 by omega, e1]
  by_cases h1 : G < 2 * rest
  · rw [decide_eq_true h1, Bool.true_or] at hk
    simp at hk
    subst hk
    rw [e3, e4]
    refine ⟨.inl ?_, .inr (.inl ?_), ?_, ?_⟩ <;> omega
  · rw [decide_eq_false h1, Bool.false_or] at hk
    by_cases h2 : G = 2 * rest
    · by_cases h3 : low % 2 = 1
      · rw [show (G == 2 * rest && low % 2 == 1) = true by simp [h2, h3]] at hk
        simp at hk
        subst hk
        rw [e3, e4]
        refine ⟨.inl ?_, .inr (.inr ⟨?_, ?_⟩), ?_, ?_⟩ <;> omega
      · rw [show (G == 2 * rest && low % 2 == 1) = false by simp [h3]] at hk
        simp at hk
        subst hk
        rw [e1]
        refine ⟨.inr ⟨?_, ?_⟩, ?_, ?_, ?_⟩ <;> omega
    · rw [show (G == 2 * rest && low % 2 == 1) = false by simp [h2]] at hk
      simp at hk
      subst hk
      rw [e1]
      refine ⟨.inl ?_, ?_, ?_, ?_⟩ <;> omega
theorem cut_at (neg : Bool) {n D : Nat} : CutAt n D (Ieee.Toward.even.cut neg n D) := by
  unfold Ieee.Toward.cut
  have hl := Nat.lt_log2_self (n := n)
  dsimp only
  rw [Nat.one_shiftLeft]
  by_cases hD : D ≤ n.log2 + 2
  · rw [Nat.min_eq_left hD]
    have := half_cut (k := n / 2 ^ D + (decide (2 ^ D < 2 * (n % 2 ^ D)) || (2 ^ D == 2 * (n % 2 ^ D) && n / 2 ^ D % 2 == 1)).toNat) (Nat.div_add_mod n (2 ^ D)).symm (Nat.mod_lt _ (Nat.two_pow_pos D)) rfl
    exact ⟨this.1, this.2.1, this.2.2.1, this.2.2.2⟩
  · rw [Nat.min_eq_right (by omega)]
    have h4 : 2 ^ (n.log2 + 2) = 2 * 2 ^ (n.log2 + 1) := by rw [Nat.pow_succ 2 (n.log2 + 1)]; omega
    have h5 : 2 ^ (n.log2 + 2) ≤ 2 ^ D := Nat.pow_le_pow_right (by omega) (by omega)
    have e1 : n / 2 ^ (n.log2 + 2) = 0 := Nat.div_eq_of_lt (by omega)
    have e2 : n % 2 ^ (n.log2 + 2) = n := Nat.mod_eq_of_lt (by omega)
    have e3 : ¬ 2 ^ (n.log2 + 2) < 2 * n := by omega
    have e4 : (2 ^ (n.log2 + 2) == 2 * n) = false := by simp; omega
    rw [e1, e2, decide_eq_false e3, e4]
    have e5 : n / 2 ^ D = 0 := Nat.div_eq_of_lt (by omega)
    refine ⟨.inl ?_, .inl (by simp), ?_, ?_⟩
    · simp; omega
    · simp
    · rw [e5]; exact Nat.zero_le _
theorem nearest_rn (neg : Bool) {mag : Nat} (place : Int) (h0 : mag ≠ 0) : ∃ r, Ieee.double.nearest neg mag place = Ieee.double.word neg (min r 9218868437227405312) ∧ IsRn ((mag : Rat) * p2 place) r := by
  unfold Ieee.Format.nearest
  rw [if_neg h0]
  have hbin : Ieee.double.binade = 4503599627370496 := by decide
  have hinf : Ieee.double.infRung = 9218868437227405312 := by decide
  have hlp : Ieee.double.leastPlace = -1074 := by decide
  have hfb : Ieee.double.fractionBits = 52 := rfl
  simp only [hbin, hinf, hlp, hfb]
  have hl1 := Nat.log2_self_le h0
  have hl2 := Nat.lt_log2_self (n := mag)
  generalize hL : mag.log2 = L at *
  obtain ⟨last, hlast, hl3, hl4, hl5⟩ : ∃ last : Int, max (place + (L : Int) - ((52 : Nat) : Int)) (-1074) = last ∧ -1074 ≤ last ∧ place + L - 52 ≤ last ∧ (last = -1074 ∨ last = place + L - 52) := ⟨_, rfl, by omega, by omega, by omega⟩
  rw [hlast]
  obtain ⟨E, hE⟩ := Int.eq_ofNat_of_zero_le (show 0 ≤ last - -1074 by omega)
  rw [hE, Int.toNat_natCast]
  have hE' : last = (E : Int) - 1074 := by omega
  have h53 : (2 : Nat) ^ 53 = 9007199254740992 := by decide
  have h52 : (2 : Nat) ^ 52 = 4503599627370496 := by decide
  by_cases hp : last ≤ place
  · obtain ⟨t, ht⟩ := Int.eq_ofNat_of_zero_le (show 0 ≤ place - last by omega)
    have hd : (last - place).toNat = 0 := by omega
    rw [ht, Int.toNat_natCast, hd, cut_zero, Nat.shiftLeft_eq]
    refine ⟨_, rfl, ?_⟩
    have hk : mag * 2 ^ t < 9007199254740992 := by
      have h1 : mag * 2 ^ t < 2 ^ (L + 1) * 2 ^ t := Nat.mul_lt_mul_of_pos_right hl2 (Nat.two_pow_pos t)
      rw [← Nat.pow_add] at h1
      have h2 : 2 ^ (L + 1 + t) ≤ 2 ^ 53 := Nat.pow_le_pow_right (by omega) (by omega)
      omega
    have hk2 : E = 0 ∨ 4503599627370496 ≤ mag * 2 ^ t := by
      rcases hl5 with h | h
      · left; omega
      · right
        have h1 : 2 ^ L * 2 ^ t ≤ mag * 2 ^ t := Nat.mul_le_mul_right _ hl1
        rw [← Nat.pow_add, show L + t = 52 by omega] at h1
        omega
    have e1 : (mag : Rat) * p2 place = rv (E * 4503599627370496 + mag * 2 ^ t) := by
      rw [rv_form (by omega) hk2, Rat.natCast_mul, ← p2_nat, Rat.mul_assoc, ← p2_add]
      congr 2; omega
    rw [e1]
    exact isRn_rv _
  · obtain ⟨D, hD⟩ := Int.eq_ofNat_of_zero_le (show 0 ≤ last - place by omega)
    have ht : (place - last).toNat = 0 := by omega
    rw [ht, hD, Int.toNat_natCast, Nat.shiftLeft_eq, Nat.pow_zero, Nat.mul_one]
    refine ⟨_, rfl, ?_⟩
    obtain ⟨c1, c2, c3, c4⟩ := cut_at neg (n := mag) (D := D)
    generalize Ieee.Toward.even.cut neg mag D = k at *
    have hlow : mag / 2 ^ D < 9007199254740992 := by
      rw [Nat.div_lt_iff_lt_mul (Nat.two_pow_pos _), ← h53, ← Nat.pow_add]
      exact Nat.lt_of_lt_of_le hl2 (Nat.pow_le_pow_right (by omega) (by omega))
    have hP : (2 ^ D : Nat) * p2 place = p2 ((E : Int) - 1074) := by
      rw [← p2_nat, ← p2_add]; congr 1; omega
    have hm : ∀ a : Nat, (a : Rat) * p2 ((E : Int) - 1074) = ((a * 2 ^ D : Nat) : Rat) * p2 place := fun a => by
      rw [← hP, Rat.natCast_mul, Rat.mul_assoc]
    have h2q : 2 * ((mag : Rat) * p2 place) = ((2 * mag : Nat) : Rat) * p2 place := by
      rw [Rat.natCast_mul, Rat.mul_assoc]; rfl
    refine isRn_of_round (by omega) ?_ ?_ ?_ ?_
    · rcases hl5 with h | h
      · left; omega
      · right
        have h1 : 4503599627370496 ≤ mag / 2 ^ D := by
          rw [Nat.le_div_iff_mul_le (Nat.two_pow_pos _), ← h52, ← Nat.pow_add, show 52 + D = L by omega]
          exact hl1
        omega
    · rw [hm, h2q, mul_p2_lt, mul_p2_inj]
      rcases c1 with h | ⟨h, h'⟩
      · left; exact_mod_cast h
      · right; exact ⟨by exact_mod_cast h, h'⟩
    · rw [hm, h2q, mul_p2_lt, mul_p2_inj]
      rcases c2 with h | h | ⟨h, h'⟩
      · exact .inl h
      · right; left; exact_mod_cast h
      · right; right; exact ⟨by exact_mod_cast h, h'⟩
    · rcases hl5 with h | h
      · left; omega
      · right
        rw [← h52, ← p2_nat, ← p2_add]
        have h3 : p2 ((52 : Nat) + ((E : Int) - 1074)) = ((2 ^ L : Nat) : Rat) * p2 place := by
          rw [← p2_nat, ← p2_add]; congr 1; omega
        rw [h3]
        exact Rat.mul_le_mul_of_nonneg_right (by exact_mod_cast hl1) (Rat.le_of_lt (p2_pos _))
end Go.Tri
