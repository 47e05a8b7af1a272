/- Plain mathematics: which rationals are floats, what is nearest; the sum of two floats and what is rounded off; no condition. -/
import Derived.Test.YthnmjkjllhlcjaaDoorNegP
import Derived.Test.YthnmjkjllhlcjaaDoorArith
namespace Go.Tri
open Go

def ab (q : Rat) : Rat := if q < 0 then -q else q
theorem ab_nonneg (q : Rat) : 0 ≤ ab q := by unfold ab; split <;> grind
theorem ab_ge (q : Rat) : q ≤ ab q ∧ -q ≤ ab q := by unfold ab; split <;> grind
theorem ab_le {q B : Rat} : ab q ≤ B ↔ q ≤ B ∧ -q ≤ B := by unfold ab; split <;> grind
theorem ab_lt {q B : Rat} : ab q < B ↔ q < B ∧ -q < B := by unfold ab; split <;> grind
theorem ab_neg (q : Rat) : ab (-q) = ab q := by unfold ab; grind
theorem ab_of_nonneg {q : Rat} (h : 0 ≤ q) : ab q = q := by unfold ab; grind
theorem ab_add (a b : Rat) : ab (a + b) ≤ ab a + ab b := by unfold ab; grind
theorem ab_sub (a b : Rat) : ab (a - b) ≤ ab a + ab b := by unfold ab; grind
theorem ab_sub_comm (a b : Rat) : ab (a - b) = ab (b - a) := by unfold ab; grind
theorem ab_zero : ab 0 = 0 := by unfold ab; grind
theorem ab_eq_zero {q : Rat} (h : ab q ≤ 0) : q = 0 := by unfold ab at h; grind
theorem ab_mul (a b : Rat) : ab (a * b) = ab a * ab b := by
  have key : ∀ x y : Rat, 0 ≤ x → 0 ≤ y → ab (x * y) = x * y := fun x y hx hy => ab_of_nonneg (Rat.mul_nonneg hx hy)
  rcases Rat.le_total (a := 0) (b := a) with h | h <;> rcases Rat.le_total (a := 0) (b := b) with k | k
  · rw [key a b h k, ab_of_nonneg h, ab_of_nonneg k]
  · have := key a (-b) h (by grind)
    rw [show a * b = -(a * -b) by grind, ab_neg, this, ab_of_nonneg h, ← ab_neg b, ab_of_nonneg (by grind)]
  · have := key (-a) b (by grind) k
    rw [show a * b = -(-a * b) by grind, ab_neg, this, ab_of_nonneg k, ← ab_neg a, ab_of_nonneg (by grind)]
  · have := key (-a) (-b) (by grind) (by grind)
    rw [show a * b = -a * -b by grind, this, ← ab_neg a, ← ab_neg b, ab_of_nonneg (show 0 ≤ -a by grind), ab_of_nonneg (show 0 ≤ -b by grind)]
theorem ab_p2 (k : Int) : ab (p2 k) = p2 k := ab_of_nonneg (Rat.le_of_lt (p2_pos k))

/-- A multiple of 2^g. -/
def Mu (g : Int) (q : Rat) : Prop := ∃ z : Int, q = (z : Rat) * p2 g
theorem Mu.zero (g : Int) : Mu g 0 := ⟨0, by grind⟩
theorem Mu.mono {g l : Int} {q : Rat} (h : Mu g q) (k : l ≤ g) : Mu l q := by
  obtain ⟨z, rfl⟩ := h
  obtain ⟨n, rfl⟩ := Int.le.dest k
  refine ⟨z * (2 ^ n : Nat), ?_⟩
  rw [p2_add, p2_nat, Rat.intCast_mul, Rat.intCast_natCast]; grind
theorem Mu.add {g : Int} {a b : Rat} (h : Mu g a) (k : Mu g b) : Mu g (a + b) := by
  obtain ⟨x, rfl⟩ := h; obtain ⟨y, rfl⟩ := k
  exact ⟨x + y, by rw [Rat.intCast_add]; grind⟩
theorem Mu.neg {g : Int} {a : Rat} (h : Mu g a) : Mu g (-a) := by
  obtain ⟨x, rfl⟩ := h; exact ⟨-x, by rw [Rat.intCast_neg]; grind⟩
theorem Mu.sub {g : Int} {a b : Rat} (h : Mu g a) (k : Mu g b) : Mu g (a - b) := by rw [Rat.sub_eq_add_neg]; exact h.add k.neg
theorem Mu.mul {g l : Int} {a b : Rat} (h : Mu g a) (k : Mu l b) : Mu (g + l) (a * b) := by
  obtain ⟨x, rfl⟩ := h; obtain ⟨y, rfl⟩ := k
  exact ⟨x * y, by rw [Rat.intCast_mul, p2_add]; grind⟩
theorem Mu.p2 {g k : Int} (h : g ≤ k) : Mu g (Tri.p2 k) := Mu.mono ⟨1, by show _ = ((1 : Int) : Rat) * _; rw [show ((1 : Int) : Rat) = 1 from rfl]; grind⟩ h
/-- Two multiples lie a step apart or are one. -/
theorem Mu.gap {g : Int} {a : Rat} (h : Mu g a) (h0 : a ≠ 0) : Tri.p2 g ≤ ab a := by
  obtain ⟨z, rfl⟩ := h
  have hp := p2_pos g
  have hz : z ≠ 0 := fun h => h0 (by rw [h]; show ((0 : Int) : Rat) * _ = 0; rw [show ((0 : Int) : Rat) = 0 from rfl]; grind)
  rw [ab_mul, ab_p2]
  have h1 : (1 : Rat) ≤ ab (z : Rat) := by
    rcases Int.lt_or_le z 0 with h | h
    · have h2 : (z : Rat) ≤ ((-1 : Int) : Rat) := Rat.intCast_le_intCast.2 (by omega)
      have h3 : ((-1 : Int) : Rat) = -1 := rfl
      have := (ab_ge (z : Rat)).2
      grind
    · have h2 : ((1 : Int) : Rat) ≤ (z : Rat) := Rat.intCast_le_intCast.2 (by omega)
      have h3 : ((1 : Int) : Rat) = 1 := rfl
      have := (ab_ge (z : Rat)).1
      grind
  have := Rat.mul_le_mul_of_nonneg_right h1 (Rat.le_of_lt hp)
  grind

/-- What a finite float is, but for the greatest. -/
def Rep (q : Rat) : Prop := ∃ g : Int, -1074 ≤ g ∧ Mu g q ∧ ab q ≤ p2 (53 + g)
theorem rep_zero : Rep 0 := ⟨0, by omega, Mu.zero 0, by rw [ab_zero]; exact Rat.le_of_lt (p2_pos _)⟩
theorem Rep.neg {q : Rat} (h : Rep q) : Rep (-q) := by
  obtain ⟨g, h1, h2, h3⟩ := h; exact ⟨g, h1, h2.neg, by rw [ab_neg]; exact h3⟩
theorem fl_rep {x : Nat} (h : Fin64 x) : Rep (fl x) := by
  have key : Rep ((mant x : Rat) * p2 (expo x)) := by
    refine ⟨expo x, ?_, ⟨(mant x : Int), by rw [Rat.intCast_natCast]⟩, ?_⟩
    · unfold expo; split <;> omega
    · have hm : mant x ≤ 9007199254740992 := by unfold mant frf; split <;> omega
      have h53 : p2 53 = ((9007199254740992 : Nat) : Rat) := by rw [show (53 : Int) = ((53 : Nat) : Int) from rfl, p2_nat]
      rw [ab_mul, ab_p2, ab_of_nonneg Rat.natCast_nonneg, p2_add, h53]
      exact Rat.mul_le_mul_of_nonneg_right (Rat.natCast_le_natCast.2 hm) (Rat.le_of_lt (p2_pos _))
  unfold fl
  rw [if_pos h]
  unfold sgn
  split
  · exact key.neg
  · exact key

theorem rung_of (n : Nat) : ∀ (z : Nat) (g : Int), g = (n : Int) - 1074 → z ≤ 9007199254740992 → ∃ s, (z : Rat) * p2 g = rv s := by
  induction n with
  | zero => intro z g hg hz; exact ⟨_, by rw [hg]; exact (rv_form hz (.inl rfl)).symm⟩
  | succ n ih =>
    intro z g hg hz
    by_cases h : 4503599627370496 ≤ z
    · exact ⟨_, by rw [hg]; exact (rv_form hz (.inr h)).symm⟩
    · obtain ⟨s, hs⟩ := ih (z * 2) (g - 1) (by omega) (by omega)
      refine ⟨s, ?_⟩
      rw [← hs, dbl_cast rfl, show g = g - 1 + 1 by omega, p2_succ, Int.add_sub_cancel]; grind
theorem rep_rung {q : Rat} (h : Rep q) (h0 : 0 ≤ q) : ∃ s, q = rv s := by
  obtain ⟨g, hg, ⟨z, rfl⟩, hb⟩ := h
  have hp := p2_pos g
  have hz : 0 ≤ z := by
    rcases Int.lt_or_le z 0 with h | h
    · exfalso
      have h1 : (z : Rat) < ((0 : Int) : Rat) := Rat.intCast_lt_intCast.2 h
      have h2 := Rat.mul_lt_mul_of_pos_right h1 hp
      rw [show ((0 : Int) : Rat) = 0 from rfl, Rat.zero_mul] at h2
      grind
    · exact h
  obtain ⟨n, rfl⟩ := Int.eq_ofNat_of_zero_le hz
  rw [Rat.intCast_natCast] at hb ⊢
  rw [ab_mul, ab_p2, ab_of_nonneg Rat.natCast_nonneg, p2_add] at hb
  have h53 : p2 53 = ((9007199254740992 : Nat) : Rat) := by rw [show (53 : Int) = ((53 : Nat) : Int) from rfl, p2_nat]
  rw [h53] at hb
  have hn : n ≤ 9007199254740992 := by
    rcases Nat.lt_or_ge 9007199254740992 n with h | h
    · exfalso
      have := Rat.mul_lt_mul_of_pos_right (Rat.natCast_lt_natCast.2 h) hp
      grind
    · exact h
  exact rung_of (g + 1074).toNat n g (by omega) hn
theorem isRn_near {q : Rat} {r : Nat} (h : IsRn q r) (s : Nat) : ab (q - rv r) ≤ ab (q - rv s) := by
  have h1 := h.up
  have h2 := h.down
  rcases Nat.lt_trichotomy s r with hs | rfl | hs
  · have e1 : rv s ≤ rv (r - 1) := rv_le (by omega)
    have e2 : rv (r - 1) < rv r := rv_lt (by omega)
    have h3 : rv (r - 1) + rv r ≤ 2 * q := by
      rcases h2 with h2 | h2 | ⟨h2, -⟩
      · omega
      · grind
      · grind
    clear h1 h2
    unfold ab; grind
  · exact Rat.le_refl
  · have e1 : rv (r + 1) ≤ rv s := rv_le (by omega)
    have e2 : rv r < rv (r + 1) := rv_lt (by omega)
    have h3 : 2 * q ≤ rv r + rv (r + 1) := by rcases h1 with h1 | ⟨h1, -⟩ <;> grind
    clear h1 h2
    unfold ab; grind

/-- Not too great to be rounded to a finite float. -/
def Mid (q : Rat) : Prop := ab q ≤ p2 1022
theorem rv_top : p2 1023 ≤ rv 9218868437227405311 := by
  have h := rv_form (E := 2045) (k := 9007199254740991) (by omega) (.inr (by omega))
  have e : 2045 * 4503599627370496 + 9007199254740991 = 9218868437227405311 := by omega
  rw [e] at h
  rw [h, show (1023 : Int) = ((52 : Nat) : Int) + (((2045 : Nat) : Int) - 1074) by omega, p2_add, p2_nat]
  refine Rat.mul_le_mul_of_nonneg_right (Rat.natCast_le_natCast.2 ?_) (Rat.le_of_lt (p2_pos _))
  have : (2 : Nat) ^ 52 = 4503599627370496 := by decide
  omega
theorem isRn_mid {q : Rat} {r : Nat} (h : IsRn q r) (hq : q ≤ p2 1022) : r < 9218868437227405312 := by
  rcases Nat.lt_or_ge r 9218868437227405312 with hr | hr
  · exact hr
  · exfalso
    have e1 : rv 9218868437227405311 ≤ rv (r - 1) := rv_le (by omega)
    have e2 : rv (r - 1) ≤ rv r := rv_le (by omega)
    have e3 := rv_top
    have e4 := p2_succ 1022
    have e5 := p2_pos 1022
    rw [show (1022 : Int) + 1 = 1023 by omega] at e4
    rcases h.down with h | h | ⟨h, -⟩
    · omega
    · grind
    · grind
theorem fl_of_sr {x : Nat} {neg : Bool} {r : Nat} (hr : r < 9218868437227405312) (h : sr x = if neg then -(r : Int) else r) : Fin64 x ∧ fl x = sgn neg (rv r) := by
  have hm : x % 9223372036854775808 = r := by
    unfold sr at h
    cases neg <;> cases hn : neb x <;> rw [hn] at h <;> simp at h <;> omega
  have hf : Fin64 x := (fin_iff x).2 (by omega)
  refine ⟨hf, ?_⟩
  rw [fl_rv hf, hm]
  unfold sr at h
  rw [hm] at h
  cases neg <;> cases hn : neb x <;> rw [hn] at h <;> simp only [if_true, Bool.false_eq_true, if_false] at h
  all_goals
    have : r = 0 := by omega
    subst this; rw [rv_zero]; simp [sgn]
/-- What is nearest. -/
structure Near (q f : Rat) : Prop where
  rep : Rep f
  near : ∀ g, Rep g → ab (q - f) ≤ ab (q - g)
  pos : 0 ≤ q → 0 ≤ f
  neg : q ≤ 0 → f ≤ 0
theorem Rn.near {q : Rat} {x : Nat} (h : Rn q x) (hq : Mid q) : Fin64 x ∧ Near q (fl x) := by
  obtain ⟨_, neg, r, h0, hr, e⟩ := h
  have hq' : sgn neg q ≤ p2 1022 := by
    have := ab_le.1 hq
    unfold sgn; cases neg <;> simp <;> grind
  have hlt := isRn_mid hr hq'
  rw [Nat.min_eq_left (by omega)] at e
  obtain ⟨hf, hv⟩ := fl_of_sr hlt e
  refine ⟨hf, fl_rep hf, fun g hg => ?_, fun hp => ?_, fun hp => ?_⟩
  · rcases Rat.le_total (a := 0) (b := sgn neg g) with hs | hs
    · have hgr : Rep (sgn neg g) := by unfold sgn; split; exact hg.neg; exact hg
      obtain ⟨s, hs⟩ := rep_rung hgr hs
      have := isRn_near hr s
      rw [← hs] at this
      rw [hv]
      unfold sgn at this ⊢
      cases neg
      · simpa using this
      · simp only [if_true] at this ⊢
        rw [← ab_neg (q - -rv r), ← ab_neg (q - g)]
        rw [show -(q - -rv r) = -q - rv r by grind, show -(q - g) = -q - -g by grind]; exact this
    · have h1 := isRn_near hr 0
      rw [rv_zero] at h1
      rw [hv]
      unfold sgn at h1 h0 hs ⊢
      cases neg
      · simp only [Bool.false_eq_true, if_false] at h1 h0 hs ⊢
        unfold ab at h1 ⊢; grind
      · simp only [if_true] at h1 h0 hs ⊢
        have h2 := ab_neg (q - -rv r)
        rw [show -(q - -rv r) = -q - rv r by grind] at h2
        rw [← h2]
        unfold ab at h1 ⊢; grind
  · rw [hv]
    cases neg
    · exact rv_nonneg r
    · have h1 : q = 0 := by simp only [sgn, if_true] at h0; grind
      subst h1
      have : r = 0 := IsRn.zero (by simpa [sgn] using hr)
      subst this; simp [sgn, rv_zero]
  · rw [hv]
    cases neg
    · have h1 : q = 0 := by simp only [sgn, Bool.false_eq_true, if_false] at h0; grind
      subst h1
      have : r = 0 := IsRn.zero (by simpa [sgn] using hr)
      subst this; simp [sgn, rv_zero]
    · have := rv_nonneg r
      simp only [sgn, if_true]; grind
section
variable {q f : Rat}
theorem Near.exact (h : Near q f) (hq : Rep q) : f = q := by
  have := h.near q hq
  rw [Rat.sub_self, ab_zero] at this
  have := ab_eq_zero this
  grind
/-- A great float is a multiple of a great power. -/
theorem Rep.mu {g : Int} (h : Rep f) (hf : p2 (52 + g) ≤ ab f) : Mu g f := by
  obtain ⟨l, h1, h2, h3⟩ := h
  rcases Int.lt_or_le l g with hlg | hlg
  · have h4 := p2_le (show 53 + l ≤ 52 + g by omega)
    have h5 : ab f = p2 (53 + l) := by grind
    have h6 : l = g - 1 := by
      rcases Int.lt_or_le (53 + l) (52 + g) with h | h
      · have := p2_lt h; grind
      · omega
    have h7 : f = p2 (53 + l) ∨ f = -p2 (53 + l) := by unfold ab at h5; grind
    rcases h7 with h7 | h7 <;> rw [h7]
    · exact Mu.p2 (by omega)
    · exact (Mu.p2 (by omega)).neg
  · exact h2.mono hlg
/-- Half a step is the most that is rounded off. -/
theorem Near.half {g : Int} (h : Near q f) (hg : -1074 ≤ g) (hq : ab q ≤ p2 (53 + g)) : 2 * ab (q - f) ≤ p2 g := by
  have hp := p2_pos g
  have hpn := p2_mul_neg g
  obtain ⟨z, hz⟩ : ∃ z : Int, z = (q * p2 (-g) + 1 / 2).floor := ⟨_, rfl⟩
  have h1 : (z : Rat) ≤ q * p2 (-g) + 1 / 2 := by rw [hz]; exact Rat.floor_le _
  have h2 : q * p2 (-g) + 1 / 2 < (z : Rat) + 1 := by rw [hz]; have := Rat.lt_floor (x := q * p2 (-g) + 1 / 2); grind
  have e : q = q * p2 (-g) * p2 g := by rw [Rat.mul_assoc, Rat.mul_comm (p2 (-g)), hpn, Rat.mul_one]
  have h3 := Rat.mul_le_mul_of_nonneg_right h1 (Rat.le_of_lt hp)
  have h4 := Rat.mul_lt_mul_of_pos_right h2 hp
  have h5 : 2 * ab (q - (z : Rat) * p2 g) ≤ p2 g := by unfold ab; grind
  have hr : Rep ((z : Rat) * p2 g) := by
    refine ⟨g, hg, ⟨z, rfl⟩, ?_⟩
    obtain ⟨N, hN⟩ : ∃ N : Int, p2 53 = (N : Rat) := ⟨9007199254740992, by rw [show (53 : Int) = ((53 : Nat) : Int) from rfl, p2_nat]; rfl⟩
    have hpm := p2_pos (-g)
    have hq2 : ab (q * p2 (-g)) ≤ (N : Rat) := by
      rw [ab_mul, ab_p2]
      have := Rat.mul_le_mul_of_nonneg_right hq (Rat.le_of_lt hpm)
      rwa [p2_add, Rat.mul_assoc, hpn, Rat.mul_one, hN] at this
    have hq3 := ab_le.1 hq2
    have hz1 : z < N + 1 := by
      rw [← Rat.intCast_lt_intCast, Rat.intCast_add, show ((1 : Int) : Rat) = 1 from rfl]; grind
    have hz2 : -N - 1 < z := by
      rw [← Rat.intCast_lt_intCast, Rat.intCast_sub, Rat.intCast_neg, show ((1 : Int) : Rat) = 1 from rfl]; grind
    have hz3 : (z : Rat) ≤ (N : Rat) := Rat.intCast_le_intCast.2 (by omega)
    have hz4 : -(z : Rat) ≤ (N : Rat) := by rw [← Rat.intCast_neg]; exact Rat.intCast_le_intCast.2 (by omega)
    rw [ab_mul, ab_p2, p2_add, hN]
    exact Rat.mul_le_mul_of_nonneg_right (ab_le.2 ⟨hz3, hz4⟩) (Rat.le_of_lt hp)
  have := h.near _ hr
  grind
end
end Go.Tri
