/- math.Ldexp of a whole number up to 2^53: the nearest float; no other condition. -/
import Derived.Test.YthnmjkjllhlcjaaDoorLdexpW
namespace Go.Proofs.YthnmjkjllhlcjaaDoor
open Go Go.RowKit Go.Steady Go.Tri
set_option maxRecDepth 100000

theorem and2047 (k : Int) : bits BinOp.and IntKind.i64 k 2047 = ((k % 2048).toNat : Nat) := by
  have h2 : (BitVec.ofInt 64 2047).toNat = 2 ^ 11 - 1 := by decide
  have hx : ((BitVec.ofInt 64 k).toNat : Int) % 2048 = k % 2048 := by
    rw [BitVec.toNat_ofInt]
    omega
  show IntKind.i64.wrap ((BitVec.ofInt 64 k &&& BitVec.ofInt 64 2047).toNat : Int) = _
  rw [BitVec.toNat_and, h2, Nat.and_two_pow_sub_one_eq_mod, IntKind.wrap_i64]
  generalize (BitVec.ofInt 64 k).toNat = t at *
  omega
theorem andnot_exp (x : Nat) (hx : x < 9223372036854775808) : bits BinOp.andNot IntKind.u64 (x : Int) 9218868437227405312 = ((x % 4503599627370496 : Nat) : Int) := by
  have := u64_andNot_nat x 9218868437227405312 (by omega) (by omega)
  rw [show (9218868437227405312 : Int) = ((9218868437227405312 : Nat) : Int) from rfl, this]
  have e1 : x = x &&& (2 ^ 63 - 1) := by rw [Nat.and_two_pow_sub_one_eq_mod, Nat.mod_eq_of_lt (by omega)]
  have e2 : (2 ^ 63 - 1) &&& (18446744073709551615 - 9218868437227405312) = 2 ^ 52 - 1 := by decide
  have e3 : x &&& (18446744073709551615 - 9218868437227405312) = x % 2 ^ 52 := by
    conv => lhs; rw [e1]
    rw [Nat.and_assoc, e2, Nat.and_two_pow_sub_one_eq_mod]
  rw [e3]
theorem or_exp (f : Nat) (e2 : Nat) (hf : f < 4503599627370496) (he : e2 < 2048) : bits BinOp.or IntKind.u64 (f : Int) ((e2 : Int) * 4503599627370496) = ((e2 * 4503599627370496 + f : Nat) : Int) := by
  rw [show (e2 : Int) * 4503599627370496 = ((e2 * 2 ^ 52 : Nat) : Int) by rw [Int.natCast_mul]; rfl]
  rw [or_u64_add (s := 52) (by omega) (by omega) (by omega)]
  congr 1; omega
theorem rv_inf : rv 9218868437227405312 = p2 1024 := by
  have := rv_form (E := 2046) (k := 4503599627370496) (by omega) (by omega)
  rw [show 2046 * 4503599627370496 + 4503599627370496 = 9218868437227405312 by decide] at this
  rw [this, show (4503599627370496 : Nat) = 2 ^ 52 by decide, ← p2_nat, ← p2_add]
  congr 1
theorem rn_over {q : Rat} (K : Nat) (e : Int) (hK : 0 < K) (hq : q = (K : Rat) * p2 e) (h : p2 1024 ≤ q) : Rn q 9218868437227405312 := by
  obtain ⟨r, -, hr⟩ := nearest_rn false (mag := K) e (by omega)
  rw [← hq] at hr
  have h1 := (isRn_rv 9218868437227405312).not_lt hr (by rw [rv_inf]; exact h)
  have h2 := rn_of (q := q) (neg := false) (r := r) (by show 0 ≤ q; exact Rat.le_trans (Rat.le_of_lt (p2_pos _)) h) hr
  rw [Nat.min_eq_right (by omega), word_eq] at h2
  exact h2
theorem fl_form {E K : Nat} (hK : 4503599627370496 ≤ K) (hK' : K < 9007199254740992) (hE : E ≤ 2045) : Fin64 (E * 4503599627370496 + K) ∧ fl (E * 4503599627370496 + K) = (K : Rat) * p2 ((E : Int) - 1074) := by
  have hf : Fin64 (E * 4503599627370496 + K) := (fin_iff _).2 (by omega)
  refine ⟨hf, ?_⟩
  rw [fl_rv hf, Nat.mod_eq_of_lt (by omega), rv_form (by omega) (.inr hK)]
  have : neb (E * 4503599627370496 + K) = false := by unfold neb; simp; omega
  rw [this]; rfl
theorem fl_one : Fin64 4607182418800017408 ∧ fl 4607182418800017408 = 1 := by
  have := fl_form (E := 1022) (K := 4503599627370496) (by omega) (by omega) (by omega)
  rw [show 1022 * 4503599627370496 + 4503599627370496 = 4607182418800017408 by decide] at this
  refine ⟨this.1, ?_⟩
  rw [this.2, show (4503599627370496 : Nat) = 2 ^ 52 by decide, ← p2_nat, ← p2_add]
  exact p2_zero
theorem fl_tiny : Fin64 4368491638549381120 ∧ fl 4368491638549381120 = p2 (-53) := by
  have := fl_form (E := 969) (K := 4503599627370496) (by omega) (by omega) (by omega)
  rw [show 969 * 4503599627370496 + 4503599627370496 = 4368491638549381120 by decide] at this
  refine ⟨this.1, ?_⟩
  rw [this.2, show (4503599627370496 : Nat) = 2 ^ 52 by decide, ← p2_nat, ← p2_add]
  congr 1
theorem ldexp_any (n : Nat) (E : Int) (w : World) (hn : n ≤ 9007199254740992) (hE : -1074 ≤ E) (hE' : E ≤ 2000000) :
    Calls Tryd.prog 136 #[.float .f64 (floatOfInt .f64 (n : Int)), .int .i64 E] w fun ed w' => ∃ z, ed = .returned (.float .f64 z) ∧ w' = w ∧ Rn ((n : Rat) * p2 E) z := by
  by_cases h0 : n = 0
  · subst h0
    have e : floatOfInt .f64 ((0 : Nat) : Int) = 0 := by decide
    rw [e]
    refine (ldexp_zero E w).mono fun ed w' ⟨h1, h2⟩ => ⟨0, h1, h2, ?_⟩
    have := rn_fl fin_zero (by omega)
    rw [fl_zero] at this
    simpa using this
  · obtain ⟨K, E0, hK, hK', hE0, hE0', hv⟩ := norm_form (by omega) hn
    rw [nearest_form (by omega) hK hK' (by omega) hv]
    obtain ⟨hf, -⟩ := fl_form hK hK' (E := E0) (by omega)
    have hq : (n : Rat) * p2 E = (K : Rat) * p2 (E + E0 - 1074) := by
      rw [hv, Rat.mul_assoc, ← p2_add]; congr 2; omega
    rw [hq]
    have hnum := hf.num (by omega)
    have h00 : FloatKind.f64.format.order (E0 * 4503599627370496 + K) 0 = some .gt := by
      show Ieee.double.order _ _ = _
      rw [order_sr hnum (fin_zero.num (by omega)), sr_nat (by omega), sr_nat (by omega), Int.compare_eq_gt.2 (by omega)]
    have h1 : bits BinOp.and IntKind.i64 (((E0 * 4503599627370496 + K : Nat) : Int) / 4503599627370496) 2047 = ((E0 + 1 : Nat) : Int) := by
      rw [and2047]; omega
    have h2 := andnot_exp (E0 * 4503599627370496 + K) (by omega)
    rw [show (E0 * 4503599627370496 + K) % 4503599627370496 = K - 4503599627370496 by omega] at h2
    by_cases hover : 1023 < E + E0 - 1022
    · refine (ldexp_over _ (E0 + 1) E (E + E0 - 1022) w (by omega) (by omega) (by omega) hE' (by rw [h00]; rfl) (by rw [h00]; rfl) h1 (by omega) (by omega) hover).mono fun ed w' ⟨h1, h2⟩ => ⟨_, h1, h2, ?_⟩
      refine rn_over K _ (by omega) rfl ?_
      rw [show (1024 : Int) = ((52 : Nat) : Int) + 972 by omega, p2_add, p2_nat, show 2 ^ 52 = 4503599627370496 by decide]
      refine Rat.le_trans (Rat.mul_le_mul_of_nonneg_right (show ((4503599627370496 : Nat) : Rat) ≤ (K : Rat) by exact_mod_cast hK) (Rat.le_of_lt (p2_pos _))) ?_
      exact Rat.mul_le_mul_of_nonneg_left (p2_le (by omega)) Rat.natCast_nonneg
    · by_cases hlow : -1022 ≤ E + E0 - 1022
      · obtain ⟨e2, he2⟩ := Int.eq_ofNat_of_zero_le (show 0 ≤ E + E0 - 1022 + 1022 by omega)
        obtain ⟨hfy, hvy⟩ := fl_form hK hK' (E := e2) (by omega)
        obtain ⟨z, hz, hrz⟩ := floatBits_mul fl_one.1 hfy
        refine (ldexp_core _ (K - 4503599627370496) (e2 * 4503599627370496 + K) z (E0 + 1) _ E (E + E0 - 1022) (e2 + 1) w (by omega) (by omega) (by omega) hE' (by rw [h00]; rfl) h1 (by omega) h2 (by omega) (.inl ⟨hlow, by omega, by omega, rfl⟩) ?_ (fun t w => run_float_arith w .mul t .f64 _ _ _ hz)).mono fun ed w' ⟨h1, h2⟩ => ⟨z, h1, h2, rn_congr ?_ hrz⟩
        · have := or_exp (K - 4503599627370496) (e2 + 1) (by omega) (by omega)
          rw [show ((e2 : Int) + 1) = ((e2 + 1 : Nat) : Int) by omega, this, show (e2 + 1) * 4503599627370496 + (K - 4503599627370496) = e2 * 4503599627370496 + K by omega]
        · rw [fl_one.2, hvy, Rat.one_mul]
          congr 2; omega
      · obtain ⟨e2, he2⟩ := Int.eq_ofNat_of_zero_le (show 0 ≤ E + E0 - 1022 + 53 + 1022 by omega)
        obtain ⟨hfy, hvy⟩ := fl_form hK hK' (E := e2) (by omega)
        obtain ⟨z, hz, hrz⟩ := floatBits_mul fl_tiny.1 hfy
        refine (ldexp_core _ (K - 4503599627370496) (e2 * 4503599627370496 + K) z (E0 + 1) _ E (E + E0 - 1022) (e2 + 1) w (by omega) (by omega) (by omega) hE' (by rw [h00]; rfl) h1 (by omega) h2 (by omega) (.inr ⟨by omega, by omega, by omega, rfl⟩) ?_ (fun t w => run_float_arith w .mul t .f64 _ _ _ hz)).mono fun ed w' ⟨h1, h2⟩ => ⟨z, h1, h2, rn_congr ?_ hrz⟩
        · have := or_exp (K - 4503599627370496) (e2 + 1) (by omega) (by omega)
          rw [show ((e2 : Int) + 1) = ((e2 + 1 : Nat) : Int) by omega, this, show (e2 + 1) * 4503599627370496 + (K - 4503599627370496) = e2 * 4503599627370496 + K by omega]
        · rw [fl_tiny.2, hvy, Rat.mul_comm, Rat.mul_assoc, ← p2_add]
          congr 2; omega
/-- math.Ldexp. -/
theorem Ldexp_any (n : Nat) (E : Int) (w : World) (hn : n ≤ 9007199254740992) (hE : -1074 ≤ E) (hE' : E ≤ 2000000) :
    Calls Tryd.prog 90 #[.float .f64 (floatOfInt .f64 (n : Int)), .int .i64 E] w fun ed w' => ∃ z, ed = .returned (.float .f64 z) ∧ w' = w ∧ Rn ((n : Rat) * p2 E) z := by
  go_enter Tryd.func90, Tryd.ntmps90
  go_wp2_with fail
  refine (ldexp_any n E _ hn hE hE').mono ?_
  rintro ed w1 ⟨z, rfl, rfl, hz⟩
  go_wp2
  go_ret
  exact ⟨z, rfl, rfl, hz⟩
end Go.Proofs.YthnmjkjllhlcjaaDoor
