/- Plain mathematics: the highest 64 bits rounded to 53 or fewer give the nearest float; no condition. -/
import Derived.Test.YthnmjkjllhlcjaaDoorLdexp2
namespace Go.Tri
open Go

/-- Of the 64 highest bits 'cut' go; whether it is rounded up. -/
def keptOf (u cut : Nat) : Nat := if cut < 64 then u / 2 ^ cut else 0
def goneOf (u cut : Nat) : Nat := if cut < 64 then u % 2 ^ cut else u
def upOf (u : Nat) (more : Bool) (cut : Nat) : Bool := decide (2 ^ (cut - 1) < goneOf u cut) || (goneOf u cut == 2 ^ (cut - 1) && (more || keptOf u cut % 2 == 1))
theorem split_of {u cut : Nat} (hu : u < 18446744073709551616) (hc : cut ≤ 64) : u = keptOf u cut * 2 ^ cut + goneOf u cut ∧ goneOf u cut < 2 ^ cut := by
  unfold keptOf goneOf
  by_cases h : cut < 64
  · rw [if_pos h, if_pos h]
    exact ⟨by rw [Nat.mul_comm]; exact (Nat.div_add_mod u _).symm, Nat.mod_lt _ (Nat.two_pow_pos _)⟩
  · have hc' : cut = 64 := by omega
    subst hc'
    rw [if_neg h, if_neg h]
    exact ⟨by omega, by rw [show (2 : Nat) ^ 64 = 18446744073709551616 by decide]; exact hu⟩
theorem kept_le {u cut : Nat} (hu : u < 18446744073709551616) (hc : 11 ≤ cut) : keptOf u cut < 9007199254740992 := by
  unfold keptOf
  split
  · rw [Nat.div_lt_iff_lt_mul (Nat.two_pow_pos _)]
    have h1 : 2 ^ 11 ≤ 2 ^ cut := Nat.pow_le_pow_right (by omega) hc
    have h2 : 9007199254740992 * 2 ^ 11 ≤ 9007199254740992 * 2 ^ cut := Nat.mul_le_mul_left _ h1
    have h3 : 9007199254740992 * 2 ^ 11 = 18446744073709551616 := by decide
    omega
  · omega
theorem rn_rung {q : Rat} {r z : Nat} (h0 : 0 ≤ q) (h : IsRn q r) (hz : Rn (rv r) z) : Rn q z := by
  have h2 : Rn q (Ieee.double.word false (min r 9218868437227405312)) := rn_of (by show 0 ≤ q; exact h0) h
  have h3 : Rn (rv r) (Ieee.double.word false (min r 9218868437227405312)) := rn_of (by show 0 ≤ rv r; exact rv_nonneg r) (isRn_rv r)
  have e := hz.same h3
  refine ⟨hz.1, false, r, h0, h, ?_⟩
  rw [e, sr_word (Nat.min_le_right _ _)]
theorem lt_scale {q L : Rat} {a b : Nat} (hL : 0 < L) (hq : q < (a : Rat) * L) (h : 2 * a ≤ b) : 2 * q < (b : Rat) * L := by
  have h1 : ((2 * a : Nat) : Rat) * L ≤ (b : Rat) * L := Rat.mul_le_mul_of_nonneg_right (by exact_mod_cast h) (Rat.le_of_lt hL)
  rw [Rat.natCast_mul] at h1
  have h2 : ((2 : Nat) : Rat) = 2 := rfl
  rw [h2] at h1
  grind
theorem gt_scale {q L : Rat} {a b : Nat} (hL : 0 < L) (hq : (a : Rat) * L ≤ q) (h : b < 2 * a) : (b : Rat) * L < 2 * q := by
  have h1 : (b : Rat) * L < ((2 * a : Nat) : Rat) * L := Rat.mul_lt_mul_of_pos_right (by exact_mod_cast h) hL
  rw [Rat.natCast_mul] at h1
  have h2 : ((2 : Nat) : Rat) = 2 := rfl
  rw [h2] at h1
  grind
theorem gt_scale' {q L : Rat} {a b : Nat} (hL : 0 < L) (hq : (a : Rat) * L < q) (h : b ≤ 2 * a) : (b : Rat) * L < 2 * q := by
  have h1 : (b : Rat) * L ≤ ((2 * a : Nat) : Rat) * L := Rat.mul_le_mul_of_nonneg_right (by exact_mod_cast h) (Rat.le_of_lt hL)
  rw [Rat.natCast_mul] at h1
  have h2 : ((2 : Nat) : Rat) = 2 := rfl
  rw [h2] at h1
  grind
theorem eq_scale {q L : Rat} {a b : Nat} (hq : q = (a : Rat) * L) (h : b = 2 * a) : 2 * q = (b : Rat) * L := by
  rw [h, Rat.natCast_mul, hq]
  have h2 : ((2 : Nat) : Rat) = 2 := rfl
  rw [h2]; grind
theorem float_rn {q : Rat} {u cut : Nat} {low : Int} {more : Bool} (hu : u < 18446744073709551616) (hu' : 9223372036854775808 ≤ u) (h1 : (u : Rat) * p2 low ≤ q) (h2 : q < ((u + 1 : Nat) : Rat) * p2 low) (hm : more = false ↔ q = (u : Rat) * p2 low)
    (hc : (cut : Int) = max 11 (-1074 - low)) (hc' : cut ≤ 64) {z : Nat} (hz : Rn (((keptOf u cut + (upOf u more cut).toNat : Nat) : Rat) * p2 (low + cut)) z) : Rn q z := by
  obtain ⟨E, hE⟩ := Int.eq_ofNat_of_zero_le (show 0 ≤ low + cut + 1074 by omega)
  have hE' : low + (cut : Int) = (E : Int) - 1074 := by omega
  have hL := p2_pos low
  have hkl := kept_le hu (show 11 ≤ cut by omega)
  obtain ⟨hs, hg⟩ := split_of hu hc'
  have hpow : 2 ^ cut = 2 * 2 ^ (cut - 1) := by
    rw [← Nat.pow_succ', Nat.succ_eq_add_one, show cut - 1 + 1 = cut by omega]
  have hP : p2 ((E : Int) - 1074) = ((2 ^ cut : Nat) : Rat) * p2 low := by
    rw [← hE', ← p2_nat, ← p2_add]; congr 1; omega
  have hsc : ∀ a : Nat, (a : Rat) * p2 ((E : Int) - 1074) = ((a * 2 ^ cut : Nat) : Rat) * p2 low := fun a => by
    rw [hP, Rat.natCast_mul, Rat.mul_assoc]
  have hge : E = 0 ∨ 4503599627370496 ≤ keptOf u cut := by
    by_cases hc11 : cut = 11
    · right; subst hc11; unfold keptOf; rw [if_pos (by omega)]; omega
    · left; omega
  rw [hE'] at hz
  have hk53 : keptOf u cut + (upOf u more cut).toNat ≤ 9007199254740992 := by cases upOf u more cut <;> simp <;> omega
  have hkE : E = 0 ∨ 4503599627370496 ≤ keptOf u cut + (upOf u more cut).toNat := by
    rcases hge with h | h
    · exact .inl h
    · right; omega
  have hq0 : 0 ≤ q := Rat.le_trans (Rat.mul_nonneg Rat.natCast_nonneg (Rat.le_of_lt hL)) h1
  rw [← rv_form hk53 hkE] at hz
  refine rn_rung hq0 (isRn_of_round hk53 hkE ?_ ?_ ?_) hz
  · rw [hsc]
    unfold upOf
    generalize keptOf u cut = k at *
    generalize goneOf u cut = g at *
    generalize 2 ^ (cut - 1) = h at *
    rw [hpow] at hs hg ⊢
    by_cases c1 : h < g
    · simp only [c1, decide_true, Bool.true_or, Bool.toNat_true]
      left
      refine lt_scale hL h2 ?_
      have : (2 * (k + 1) + 1) * (2 * h) = 2 * (k * (2 * h)) + 6 * h := by grind
      omega
    · simp only [c1, decide_false, Bool.false_or]
      by_cases c2 : g = h
      · subst c2
        by_cases c3 : more = true ∨ k % 2 = 1
        · have : (more || k % 2 == 1) = true := by rcases c3 with h | h <;> simp [h]
          simp only [this, beq_self_eq_true, Bool.and_self, Bool.toNat_true]
          left
          refine lt_scale hL h2 ?_
          have : (2 * (k + 1) + 1) * (2 * g) = 2 * (k * (2 * g)) + 6 * g := by grind
          omega
        · have c4 : more = false := by cases more <;> simp_all
          have c5 : k % 2 = 0 := by omega
          simp only [c4, c5, Bool.false_or, beq_self_eq_true, Bool.true_and]
          right
          refine ⟨?_, by simpa using c5⟩
          refine eq_scale (hm.1 c4) ?_
          have : (2 * k + 1) * (2 * g) = 2 * (k * (2 * g)) + 2 * g := by grind
          simp
          omega
      · simp only [beq_eq_false_iff_ne.2 c2, Bool.false_and, Bool.toNat_false, Nat.add_zero]
        left
        refine lt_scale hL h2 ?_
        have : (2 * k + 1) * (2 * h) = 2 * (k * (2 * h)) + 2 * h := by grind
        omega
  · rw [hsc]
    unfold upOf
    generalize keptOf u cut = k at *
    generalize goneOf u cut = g at *
    have hh : 0 < 2 ^ (cut - 1) := Nat.two_pow_pos _
    generalize 2 ^ (cut - 1) = h at *
    rw [hpow] at hs hg ⊢
    have e1 : (2 * (k + 1) - 1) * (2 * h) = 2 * (k * (2 * h)) + 2 * h := by rw [show 2 * (k + 1) - 1 = 2 * k + 1 by omega]; grind
    have e2 : k = 0 ∨ (2 * k - 1) * (2 * h) + 2 * h = 2 * (k * (2 * h)) := by
      rcases Nat.eq_zero_or_pos k with h | h
      · exact .inl h
      · right
        obtain ⟨m, rfl⟩ : ∃ m, k = m + 1 := ⟨k - 1, by omega⟩
        rw [show 2 * (m + 1) - 1 = 2 * m + 1 by omega]; grind
    by_cases c1 : h < g
    · simp only [c1, decide_true, Bool.true_or, Bool.toNat_true]
      right; left
      exact gt_scale hL h1 (by omega)
    · simp only [c1, decide_false, Bool.false_or]
      by_cases c2 : g = h
      · subst c2
        by_cases c4 : more = true
        · simp only [c4, Bool.true_or, beq_self_eq_true, Bool.and_self, Bool.toNat_true]
          right; left
          refine gt_scale' hL ?_ (show (2 * (k + 1) - 1) * (2 * g) ≤ 2 * u by omega)
          rcases Rat.le_iff_lt_or_eq.1 h1 with h | h
          · exact h
          · have := hm.2 h.symm; rw [c4] at this; cases this
        · have c4 : more = false := by cases more <;> simp_all
          by_cases c5 : k % 2 = 1
          · simp only [c4, c5, Bool.false_or, beq_self_eq_true, Bool.and_self, Bool.toNat_true]
            right; right
            exact ⟨(eq_scale (hm.1 c4) (by omega)).symm, by omega⟩
          · simp only [c4, beq_eq_false_iff_ne.2 c5, Bool.false_or, Bool.and_false, Bool.toNat_false, Nat.add_zero]
            rcases e2 with h | h
            · exact .inl h
            · right; left
              exact gt_scale hL h1 (by omega)
      · simp only [beq_eq_false_iff_ne.2 c2, Bool.false_and, Bool.toNat_false, Nat.add_zero]
        rcases e2 with h | h
        · exact .inl h
        · right; left
          exact gt_scale hL h1 (by omega)
  · by_cases hc11 : cut = 11
    · right
      rw [hsc]
      subst hc11
      refine Rat.le_trans (Rat.mul_le_mul_of_nonneg_right ?_ (Rat.le_of_lt hL)) h1
      have : 4503599627370496 * 2 ^ 11 ≤ u := by
        have : 4503599627370496 * 2 ^ 11 = 9223372036854775808 := by decide
        omega
      exact_mod_cast this
    · left; omega
end Go.Tri
