/- Plain mathematics: the float nearest to a number; no condition. -/
import Derived.Test.YthnmjkjllhlcjaaDoorFl
namespace Go.Tri
open Go

theorem dbl_cast {a b : Nat} (h : a = b * 2) : (a : Rat) = (b : Rat) * 2 := by rw [h, Rat.natCast_mul]; rfl

/-- What the rungs of float64 stand for. -/
noncomputable def rv (r : Nat) : Rat := if r < 4503599627370496 then (r : Rat) * p2 (-1074) else ((4503599627370496 + r % 4503599627370496 : Nat) : Rat) * p2 (-1074 + ((r / 4503599627370496 - 1 : Nat) : Int))
theorem rv_form {E k : Nat} (hk : k ≤ 9007199254740992) (h : E = 0 ∨ 4503599627370496 ≤ k) : rv (E * 4503599627370496 + k) = (k : Rat) * p2 ((E : Int) - 1074) := by
  unfold rv
  by_cases h1 : E * 4503599627370496 + k < 4503599627370496
  · rw [if_pos h1]
    have hE : E = 0 := by omega
    subst hE
    simp
  · rw [if_neg h1]
    by_cases h2 : k = 9007199254740992
    · subst h2
      rw [show (E * 4503599627370496 + 9007199254740992) % 4503599627370496 = 0 by omega, show (E * 4503599627370496 + 9007199254740992) / 4503599627370496 - 1 = E + 1 by omega]
      rw [show (-1074 : Int) + ((E + 1 : Nat) : Int) = ((E : Int) - 1074) + 1 by omega, p2_succ, dbl_cast (show 9007199254740992 = 4503599627370496 * 2 by decide)]
      grind
    · rcases h with rfl | h
      · by_cases h3 : k < 4503599627370496
        · omega
        · rw [show (0 * 4503599627370496 + k) % 4503599627370496 = k - 4503599627370496 by omega, show (0 * 4503599627370496 + k) / 4503599627370496 - 1 = 0 by omega, show 4503599627370496 + (k - 4503599627370496) = k by omega]
          simp
      · rw [show (E * 4503599627370496 + k) % 4503599627370496 = k - 4503599627370496 by omega, show (E * 4503599627370496 + k) / 4503599627370496 - 1 = E by omega, show 4503599627370496 + (k - 4503599627370496) = k by omega]
        congr 2
theorem rung_form (r : Nat) : ∃ E k : Nat, r = E * 4503599627370496 + k ∧ k < 9007199254740992 ∧ (E = 0 ∨ 4503599627370496 ≤ k) := by
  by_cases h : r < 9007199254740992
  · exact ⟨0, r, by omega, h, .inl rfl⟩
  · exact ⟨r / 4503599627370496 - 1, 4503599627370496 + r % 4503599627370496, by omega, by omega, .inr (by omega)⟩
theorem rv_step (r : Nat) : rv r < rv (r + 1) := by
  obtain ⟨E, k, rfl, hk, h⟩ := rung_form r
  rw [rv_form (by omega) h, Nat.add_assoc, rv_form (by omega) (by omega), mul_p2_lt]
  exact_mod_cast Nat.lt_succ_self k
theorem rv_lt {r s : Nat} (h : r < s) : rv r < rv s := by
  induction h with
  | refl => exact rv_step r
  | step _ ih => exact Std.lt_trans ih (rv_step _)
theorem rv_zero : rv 0 = 0 := by unfold rv; simp
theorem rv_nonneg (r : Nat) : 0 ≤ rv r := by
  cases r with
  | zero => rw [rv_zero]; exact Rat.le_refl
  | succ r => rw [← rv_zero]; exact Rat.le_of_lt (rv_lt (Nat.succ_pos r))
theorem rv_le {r s : Nat} (h : r ≤ s) : rv r ≤ rv s := by
  rcases Nat.lt_or_eq_of_le h with h | h
  · exact Rat.le_of_lt (rv_lt h)
  · rw [h]; exact Rat.le_refl

/-- The rung nearest to a number that is not below nought; ties to even. -/
structure IsRn (q : Rat) (r : Nat) : Prop where
  up : 2 * q < rv r + rv (r + 1) ∨ 2 * q = rv r + rv (r + 1) ∧ r % 2 = 0
  down : r = 0 ∨ rv (r - 1) + rv r < 2 * q ∨ rv (r - 1) + rv r = 2 * q ∧ r % 2 = 0
theorem IsRn.not_lt {p q : Rat} {r s : Nat} (h : IsRn p r) (k : IsRn q s) (hpq : p ≤ q) : ¬ s < r := fun hsr => by
  have h1 := k.up
  have h2 := h.down
  have e1 : rv s ≤ rv (r - 1) := rv_le (by omega)
  have e2 : rv (s + 1) ≤ rv r := rv_le (by omega)
  rcases h2 with h2 | h2 | ⟨h2, h3⟩
  · omega
  · rcases h1 with h1 | ⟨h1, -⟩ <;> grind
  · rcases h1 with h1 | ⟨h1, h4⟩
    · grind
    · by_cases he : s = r - 1
      · omega
      · have : rv s < rv (r - 1) := rv_lt (by omega)
        grind
theorem IsRn.unique {q : Rat} {r s : Nat} (h : IsRn q r) (k : IsRn q s) : r = s := by
  have h1 := h.not_lt k Rat.le_refl
  have h2 := k.not_lt h Rat.le_refl
  omega
theorem isRn_rv (r : Nat) : IsRn (rv r) r := by
  refine ⟨.inl ?_, ?_⟩
  · have := rv_step r; grind
  · cases r with
    | zero => exact .inl rfl
    | succ r => right; left; have := rv_step r; simp only [Nat.add_sub_cancel]; grind
theorem lt_two {a y q : Rat} (h : a < y) (h' : y ≤ q) : a + y < 2 * q := by grind
theorem isRn_of_round {E k : Nat} {q : Rat} (hk : k ≤ 9007199254740992) (h : E = 0 ∨ 4503599627370496 ≤ k)
    (hu : 2 * q < ((2 * k + 1 : Nat) : Rat) * p2 ((E : Int) - 1074) ∨ 2 * q = ((2 * k + 1 : Nat) : Rat) * p2 ((E : Int) - 1074) ∧ k % 2 = 0)
    (hd : k = 0 ∨ ((2 * k - 1 : Nat) : Rat) * p2 ((E : Int) - 1074) < 2 * q ∨ ((2 * k - 1 : Nat) : Rat) * p2 ((E : Int) - 1074) = 2 * q ∧ k % 2 = 0)
    (hb : E = 0 ∨ ((4503599627370496 : Nat) : Rat) * p2 ((E : Int) - 1074) ≤ q) : IsRn q (E * 4503599627370496 + k) := by
  have hP := p2_pos ((E : Int) - 1074)
  have c1 : ((2 * k + 1 : Nat) : Rat) * p2 ((E : Int) - 1074) = (k : Rat) * p2 ((E : Int) - 1074) + ((k + 1 : Nat) : Rat) * p2 ((E : Int) - 1074) := by
    rw [Rat.natCast_add, Rat.natCast_add, Rat.natCast_mul]; grind
  constructor
  · rw [rv_form hk h]
    by_cases h2 : k = 9007199254740992
    · have e1 : rv (E * 4503599627370496 + k + 1) = ((k + 2 : Nat) : Rat) * p2 ((E : Int) - 1074) := by
        subst h2
        rw [show E * 4503599627370496 + 9007199254740992 + 1 = (E + 1) * 4503599627370496 + 4503599627370497 by omega, rv_form (by omega) (by omega), show (((E + 1 : Nat) : Int) - 1074) = ((E : Int) - 1074) + 1 by omega, p2_succ]
        rw [dbl_cast (show 9007199254740992 + 2 = 4503599627370497 * 2 by decide)]
        grind
      left
      rw [e1]
      have e2 : ((k + 1 : Nat) : Rat) * p2 ((E : Int) - 1074) < ((k + 2 : Nat) : Rat) * p2 ((E : Int) - 1074) := (mul_p2_lt _).2 (by exact_mod_cast Nat.lt_succ_self _)
      rcases hu with hu | ⟨hu, -⟩ <;> grind
    · rw [Nat.add_assoc, rv_form (by omega) (by omega), ← c1]
      rcases hu with hu | ⟨hu, hk2⟩
      · exact .inl hu
      · exact .inr ⟨hu, by omega⟩
  · by_cases hk0 : k = 0
    · have hE : E = 0 := by omega
      exact .inl (by rw [hk0, hE])
    · right
      by_cases h3 : E = 0 ∨ 4503599627370496 ≤ k - 1
      · have e1 : rv (E * 4503599627370496 + k - 1) = ((k - 1 : Nat) : Rat) * p2 ((E : Int) - 1074) := by
          rw [Nat.add_sub_assoc (by omega), rv_form (by omega) h3]
        have c2 : ((2 * k - 1 : Nat) : Rat) * p2 ((E : Int) - 1074) = ((k - 1 : Nat) : Rat) * p2 ((E : Int) - 1074) + (k : Rat) * p2 ((E : Int) - 1074) := by
          rw [← Rat.add_mul, ← Rat.natCast_add]; congr 2; omega
        rw [e1, rv_form hk h, ← c2]
        rcases hd with hd | hd | ⟨hd, hk2⟩
        · exact absurd hd hk0
        · exact .inl hd
        · exact .inr ⟨hd, by omega⟩
      · have hk1 : k = 4503599627370496 := by omega
        have hE : E ≠ 0 := fun h => h3 (.inl h)
        have h4 := rv_step (E * 4503599627370496 + k - 1)
        rw [show E * 4503599627370496 + k - 1 + 1 = E * 4503599627370496 + k by omega] at h4
        have h5 := rv_form hk h
        have hb' := hb.resolve_left hE
        rw [hk1] at h5
        left
        rw [hk1] at h4 ⊢
        rw [h5] at h4 ⊢
        exact lt_two h4 hb'
end Go.Tri
