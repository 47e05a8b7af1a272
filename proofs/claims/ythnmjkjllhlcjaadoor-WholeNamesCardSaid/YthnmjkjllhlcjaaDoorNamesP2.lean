/- Floats at the ends, for law 01's WholeNames; no condition. -/
import Derived.Test.YthnmjkjllhlcjaaDoorNamesP
namespace Go.Proofs.YthnmjkjllhlcjaaDoor
open Go Go.RowKit Go.Steady Go.Tri
set_option maxRecDepth 100000

theorem rv_at {E k r : Nat} (hr : r = E * 4503599627370496 + k) (hk : k ≤ 9007199254740992) (h : E = 0 ∨ 4503599627370496 ≤ k) : rv r = (k : Rat) * p2 ((E : Int) - 1074) := by rw [hr]; exact rv_form hk h
theorem pow53 : ((9007199254740992 : Int) : Rat) = p2 53 := by
  rw [show (53 : Int) = ((53 : Nat) : Int) from rfl, p2_nat, ← Rat.intCast_natCast]; rfl
theorem rv_53 : rv 4845873199050653696 = p2 53 ∧ rv 4845873199050653697 = p2 53 + 2 ∧ rv 4845873199050653698 = p2 53 + 4 ∧ rv 4845873199050653699 = p2 53 + 6 := by
  have k0 : ((4503599627370496 : Nat) : Rat) = p2 52 := by rw [show (52 : Int) = ((52 : Nat) : Int) from rfl, p2_nat]
  have h53 : p2 53 = 2 * p2 52 := by rw [show (53 : Int) = 52 + 1 by omega]; exact p2_succ 52
  have e : p2 (((1075 : Nat) : Int) - 1074) = 2 := by rw [show (((1075 : Nat) : Int) - 1074) = 1 by omega]; exact p2_one
  refine ⟨?_, ?_, ?_, ?_⟩
  · rw [rv_at (E := 1075) (k := 4503599627370496) (by omega) (by omega) (by omega), e, k0, h53]; grind
  · rw [rv_at (E := 1075) (k := 4503599627370497) (by omega) (by omega) (by omega), e, show ((4503599627370497 : Nat) : Rat) = ((4503599627370496 : Nat) : Rat) + ((1 : Nat) : Rat) from by rw [← Rat.natCast_add], k0, h53, show ((1 : Nat) : Rat) = 1 from rfl]; grind
  · rw [rv_at (E := 1075) (k := 4503599627370498) (by omega) (by omega) (by omega), e, show ((4503599627370498 : Nat) : Rat) = ((4503599627370496 : Nat) : Rat) + ((2 : Nat) : Rat) from by rw [← Rat.natCast_add], k0, h53, show ((2 : Nat) : Rat) = 2 from rfl]; grind
  · rw [rv_at (E := 1075) (k := 4503599627370499) (by omega) (by omega) (by omega), e, show ((4503599627370499 : Nat) : Rat) = ((4503599627370496 : Nat) : Rat) + ((3 : Nat) : Rat) from by rw [← Rat.natCast_add], k0, h53, show ((3 : Nat) : Rat) = 3 from rfl]; grind
theorem rn_big1 : Rn (((9007199254740992 : Int) : Rat) + ((1 : Int) : Rat)) 4845873199050653696 := by
  obtain ⟨r0, r1, -, -⟩ := rv_53
  have hl : rv 4845873199050653695 ≤ rv 4845873199050653696 := rv_le (by omega)
  rw [r0] at hl
  have hp := p2_pos 53
  rw [pow53, one_int]
  refine rn_between (by omega) (by grind) ⟨.inr ⟨?_, by omega⟩, .inr (.inl ?_)⟩
  · show _ = rv 4845873199050653696 + rv 4845873199050653697
    rw [r0, r1]; grind
  · show rv 4845873199050653695 + rv 4845873199050653696 < _
    rw [r0]; grind
theorem rn_big3 : Rn (((9007199254740992 : Int) : Rat) + ((3 : Int) : Rat)) 4845873199050653698 := by
  obtain ⟨-, r1, r2, r3⟩ := rv_53
  have hp := p2_pos 53
  rw [pow53, show ((3 : Int) : Rat) = 3 from rfl]
  refine rn_between (by omega) (by grind) ⟨.inl ?_, .inr (.inr ⟨?_, by omega⟩)⟩
  · show _ < rv 4845873199050653698 + rv 4845873199050653699
    rw [r2, r3]; grind
  · show rv 4845873199050653697 + rv 4845873199050653698 = _
    rw [r1, r2]; grind
theorem twelve : ((12 : Int) : Rat) = 3 * p2 2 := by
  rw [show (2 : Int) = ((2 : Nat) : Int) from rfl, p2_nat, show (3 : Rat) = ((3 : Nat) : Rat) from rfl, ← Rat.natCast_mul, ← Rat.intCast_natCast]; rfl
theorem hi_12 : hiQ ((12 : Int) : Rat) = 3 := by
  refine hiQ_eq (.inr ?_)
  rw [twelve, show (3 : Int) = 2 + 1 by omega, p2_succ, show (2 + 1 + 1 : Int) = 2 + 1 + 1 by omega, p2_succ (2 + 1), p2_succ]
  have hp := p2_pos 2
  rw [ab_of_nonneg (by grind)]; grind
theorem lo_12 : loQ ((12 : Int) : Rat) = 2 := by
  refine loQ_eq (.inr ⟨1, ?_⟩)
  have hp := p2_pos 2
  rw [twelve, ab_of_nonneg (by grind)]; rfl
theorem rn_m63 : Rn ((-9223372036854775808 : Int) : Rat) 14114281232179134464 := by
  refine rn_lit (by decide) (by omega) ?_
  rw [fl_lit (m := 1) (k := 52) (e := 63) (neg := true) (by decide) (by decide) (by decide) (by decide), show (63 : Int) = ((63 : Nat) : Int) from rfl, p2_nat]
  unfold sgn
  rw [if_pos rfl, ← Rat.natCast_mul, ← Rat.intCast_natCast, ← Rat.intCast_neg]; rfl
theorem rv_1 : rv 1 = p2 (-1074) := by
  rw [rv_at (E := 0) (k := 1) (by omega) (by omega) (.inl rfl), show (((0 : Nat) : Int) - 1074) = -1074 by omega, show ((1 : Nat) : Rat) = 1 from rfl, Rat.one_mul]
theorem rv_2 : rv 2 = 2 * p2 (-1074) := by
  rw [rv_at (E := 0) (k := 2) (by omega) (by omega) (.inl rfl), show (((0 : Nat) : Int) - 1074) = -1074 by omega]; rfl
theorem half_tiny : p2 (-1074) = 2 * p2 (-1075) := by rw [show (-1074 : Int) = -1075 + 1 by omega]; exact p2_succ _
theorem rn_1074 : Rn (((1 : Int) : Rat) * p2 (-1074)) 1 := by
  rw [one_int, Rat.one_mul]
  have := isRn_rv 1
  rw [rv_1] at this
  exact rn_between (by omega) (Rat.le_of_lt (p2_pos _)) this
theorem rn_1075 : Rn (((1 : Int) : Rat) * p2 (-1075)) 0 := by
  rw [one_int, Rat.one_mul]
  refine rn_between (by omega) (Rat.le_of_lt (p2_pos _)) ⟨.inr ⟨?_, by omega⟩, .inl rfl⟩
  show _ = rv 0 + rv 1
  rw [rv_zero, rv_1, half_tiny]; grind
theorem rn_1076 : Rn (((3 : Int) : Rat) * p2 (-1076)) 1 := by
  have h := p2_succ (-1076)
  rw [show (-1076 : Int) + 1 = -1075 by omega] at h
  have hp := p2_pos (-1076)
  have h2 := half_tiny
  rw [show ((3 : Int) : Rat) = 3 from rfl]
  refine rn_between (by omega) (by grind) ⟨.inl ?_, .inr (.inl ?_)⟩
  · show _ < rv 1 + rv 2
    rw [rv_1, rv_2]; grind
  · show rv 0 + rv 1 < _
    rw [rv_zero, rv_1]; grind
theorem fits_1075 : Fits (p2 (-1075) + p2 (-65536)) := by
  have h1 := p2_pos (-1075)
  have h2 := p2_pos (-65536)
  have h3 : p2 (-65536) < p2 (-1075) := p2_lt (by omega)
  have h4 := p2_succ (-1075)
  rw [show (-1075 : Int) + 1 = -1074 by omega] at h4
  have h5 : p2 (-1074) < p2 65537 := p2_lt (by omega)
  exact ⟨⟨by grind, by grind⟩, Gr.add ((gr_p2 _).mono (by omega)) ((gr_p2 _).mono (by omega))⟩
theorem add_1075 : addO (some (((1 : Int) : Rat) * p2 (-1075))) (some (p2 (-65536))) = some (p2 (-1075) + p2 (-65536)) := by
  rw [one_int, Rat.one_mul]; exact mk_fits fits_1075
theorem rn_1075l : Rn (p2 (-1075) + p2 (-65536)) 1 := by
  have h1 := p2_pos (-1075)
  have h2 := p2_pos (-65536)
  have h3 : p2 (-65536) < p2 (-1075) := p2_lt (by omega)
  have h4 := half_tiny
  refine rn_between (by omega) (by grind) ⟨.inl ?_, .inr (.inl ?_)⟩
  · show _ < rv 1 + rv 2
    rw [rv_1, rv_2]; grind
  · show rv 0 + rv 1 < _
    rw [rv_zero, rv_1]; grind
theorem rv_max : rv 9218868437227405311 = p2 1024 - p2 971 := by
  rw [rv_at (E := 2045) (k := 9007199254740991) (by omega) (by omega) (by omega), show (((2045 : Nat) : Int) - 1074) = 971 by omega]
  have k0 : ((9007199254740991 : Nat) : Rat) = p2 53 - 1 := by
    have : ((9007199254740991 : Nat) : Rat) + ((1 : Nat) : Rat) = p2 53 := by rw [show (53 : Int) = ((53 : Nat) : Int) from rfl, p2_nat, ← Rat.natCast_add]
    rw [← this, show ((1 : Nat) : Rat) = 1 from rfl]; grind
  have h := p2_add 53 971
  rw [show (53 : Int) + 971 = 1024 by omega] at h
  rw [k0, h]; grind
theorem rv_over : p2 1024 < rv 9218868437227405313 := by rw [← rv_inf]; exact rv_lt (by omega)
theorem p971 : p2 971 = 2 * p2 970 := by rw [show (971 : Int) = 970 + 1 by omega]; exact p2_succ _
theorem p970_lt : 4 * p2 970 ≤ p2 1024 := by
  have h := p2_succ 971
  rw [show (971 : Int) + 1 = 972 by omega] at h
  have := p2_le (show (972 : Int) ≤ 1024 by omega)
  have := p971
  grind
theorem rn_max : Rn (((1 : Int) : Rat) * p2 1024 - ((1 : Int) : Rat) * p2 971) 9218868437227405311 := by
  rw [one_int, Rat.one_mul, Rat.one_mul]
  have := isRn_rv 9218868437227405311
  rw [rv_max] at this
  have h1 := p971
  have h2 := p970_lt
  have h3 := p2_pos 970
  exact rn_between (by omega) (by grind) this
theorem rn_inf : Rn (((1 : Int) : Rat) * p2 1024 - ((1 : Int) : Rat) * p2 970) 9218868437227405312 := by
  rw [one_int, Rat.one_mul, Rat.one_mul]
  have h1 := p971
  have h2 := p970_lt
  have h3 := p2_pos 970
  have h4 := rv_over
  have := rn_of (neg := false) (q := p2 1024 - p2 970) (r := 9218868437227405312) (by show 0 ≤ p2 1024 - p2 970; grind) (by
    show IsRn (p2 1024 - p2 970) _
    refine ⟨.inl ?_, .inr (.inr ⟨?_, by omega⟩)⟩
    · show _ < rv 9218868437227405312 + rv 9218868437227405313
      rw [rv_inf]; grind
    · show rv 9218868437227405311 + rv 9218868437227405312 = _
      rw [rv_max, rv_inf]; grind)
  rw [word_eq] at this
  exact this
theorem low970 : p2 (-65536) < p2 970 := p2_lt (by omega)
theorem sub_970 : subO (some (((1 : Int) : Rat) * p2 1024 - ((1 : Int) : Rat) * p2 970)) (some (p2 (-65536))) = some (p2 1024 - p2 970 - p2 (-65536)) := by
  rw [one_int, Rat.one_mul, Rat.one_mul]
  show mk (p2 1024 - p2 970 + -p2 (-65536)) = _
  rw [← Rat.sub_eq_add_neg]
  have h1 := p970_lt
  have h2 := p2_pos 970
  have h3 := p2_pos (-65536)
  have h4 := low970
  have h5 : p2 1024 < p2 65537 := p2_lt (by omega)
  refine mk_fits ⟨⟨by grind, by grind⟩, ?_⟩
  rw [Rat.sub_eq_add_neg, Rat.sub_eq_add_neg]
  exact Gr.add (Gr.add ((gr_p2 _).mono (by omega)) ((gr_p2 _).mono (by omega)).neg) ((gr_p2 _).mono (by omega)).neg
theorem rn_970 : Rn (p2 1024 - p2 970 - p2 (-65536)) 9218868437227405311 := by
  have h1 := p971
  have h2 := p970_lt
  have h3 := p2_pos 970
  have h4 := p2_pos (-65536)
  have h5 := low970
  have h6 : rv 9218868437227405310 ≤ rv 9218868437227405311 := rv_le (by omega)
  rw [rv_max] at h6
  refine rn_between (by omega) (by grind) ⟨.inl ?_, .inr (.inl ?_)⟩
  · show _ < rv 9218868437227405311 + rv 9218868437227405312
    rw [rv_max, rv_inf]; grind
  · show rv 9218868437227405310 + rv 9218868437227405311 < _
    rw [rv_max]; grind
end Go.Proofs.YthnmjkjllhlcjaaDoor
