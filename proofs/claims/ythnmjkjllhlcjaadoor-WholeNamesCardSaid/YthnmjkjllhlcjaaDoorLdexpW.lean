/- The walk of math.ldexp, math.Ldexp at normal floats above nought. -/
import Derived.Test.YthnmjkjllhlcjaaDoorMathW
import Derived.Test.YthnmjkjllhlcjaaDoorArith
namespace Go.Proofs.YthnmjkjllhlcjaaDoor
open Go Go.RowKit Go.Steady Go.Tri
set_option maxRecDepth 100000

set_option maxHeartbeats 800000 in
theorem ldexp_core (x f y z ex : Nat) (m : Nat) (E P e2 : Int) (w : World) (hx : x < 9218868437227405312) (hn : 4503599627370496 ≤ x) (hE : -2000000 ≤ E) (hE' : E ≤ 2000000)
    (h0 : (FloatKind.f64.format.order x 0 == some .eq) = false)
    (h1 : bits BinOp.and IntKind.i64 ((x : Int) / 4503599627370496) 2047 = (ex : Nat)) (hex : ex < 2048)
    (h2 : bits BinOp.andNot IntKind.u64 (x : Int) 9218868437227405312 = (f : Nat)) (hP : E + ((ex : Int) - 1023) = P)
    (hcase : (-1022 ≤ P ∧ P ≤ 1023 ∧ e2 = P + 1023 ∧ m = 4607182418800017408) ∨ (-1075 ≤ P ∧ P < -1022 ∧ e2 = P + 53 + 1023 ∧ m = 4368491638549381120))
    (h3 : bits BinOp.or IntKind.u64 (f : Int) (e2 * 4503599627370496) = (y : Nat)) (hz : ∀ t w, (binOp .mul t (.float .f64 m) (.float .f64 y)).run Tryd.prog w = .ok (.float .f64 z) w) :
    Calls Tryd.prog 136 #[.float .f64 x, .int .i64 E] w fun ed w' => ed = .returned (.float .f64 z) ∧ w' = w := by
  have hb : ∀ w, (callFunc 103 #[.float .f64 x]).run Tryd.prog w = .ok (.value (.int .u64 x)) w := run_bits x
  have hfb : ∀ w, (callFunc 104 #[.int .u64 y]).run Tryd.prog w = .ok (.value (.float .f64 y)) w := run_frombits y
  have hfin : Fin64 x := (fin_iff x).2 (by omega)
  rcases hcase with ⟨p1, p2, p3, rfl⟩ | ⟨p1, p2, p3, rfl⟩
  · subst p3
    go_enter Tryd.func136, Tryd.ntmps136
    go_wp2_with fail
    refine (isinf_fin x _ (by omega) hfin).mono ?_
    rintro ed w1 ⟨rfl, rfl⟩
    go_wp2_with fail
    refine (isnan_num x _ (hfin.num (by omega))).mono ?_
    rintro ed w1 ⟨rfl, rfl⟩
    go_wp2_with fail
    refine (normalize_normal x _ hx hn).mono ?_
    rintro ed w1 ⟨rfl, rfl⟩
    go_wp2
    go_ret
    exact ⟨rfl, rfl⟩
  · subst p3
    go_enter Tryd.func136, Tryd.ntmps136
    go_wp2_with fail
    refine (isinf_fin x _ (by omega) hfin).mono ?_
    rintro ed w1 ⟨rfl, rfl⟩
    go_wp2_with fail
    refine (isnan_num x _ (hfin.num (by omega))).mono ?_
    rintro ed w1 ⟨rfl, rfl⟩
    go_wp2_with fail
    refine (normalize_normal x _ hx hn).mono ?_
    rintro ed w1 ⟨rfl, rfl⟩
    go_wp2
    go_ret
    exact ⟨rfl, rfl⟩
theorem ldexp_over (x ex : Nat) (E P : Int) (w : World) (hx : x < 9218868437227405312) (hn : 4503599627370496 ≤ x) (hE : -2000000 ≤ E) (hE' : E ≤ 2000000)
    (h0 : (FloatKind.f64.format.order x 0 == some .eq) = false) (hlt0 : (FloatKind.f64.format.order x 0 == some .lt) = false)
    (h1 : bits BinOp.and IntKind.i64 ((x : Int) / 4503599627370496) 2047 = (ex : Nat)) (hex : ex < 2048) (hP : E + ((ex : Int) - 1023) = P) (hcase : 1023 < P) :
    Calls Tryd.prog 136 #[.float .f64 x, .int .i64 E] w fun ed w' => ed = .returned (.float .f64 9218868437227405312) ∧ w' = w := by
  have hb : ∀ w, (callFunc 103 #[.float .f64 x]).run Tryd.prog w = .ok (.value (.int .u64 x)) w := run_bits x
  have hfin : Fin64 x := (fin_iff x).2 (by omega)
  go_enter Tryd.func136, Tryd.ntmps136
  go_wp2_with fail
  refine (isinf_fin x _ (by omega) hfin).mono ?_
  rintro ed w1 ⟨rfl, rfl⟩
  go_wp2_with fail
  refine (isnan_num x _ (hfin.num (by omega))).mono ?_
  rintro ed w1 ⟨rfl, rfl⟩
  go_wp2_with fail
  refine (normalize_normal x _ hx hn).mono ?_
  rintro ed w1 ⟨rfl, rfl⟩
  go_wp2_with fail
  refine (inf_one _).mono ?_
  rintro ed w1 ⟨rfl, rfl⟩
  go_wp2
  go_ret
  exact ⟨rfl, rfl⟩
theorem ldexp_zero (E : Int) (w : World) : Calls Tryd.prog 136 #[.float .f64 0, .int .i64 E] w fun ed w' => ed = .returned (.float .f64 0) ∧ w' = w := by
  have h0 : (FloatKind.f64.format.order 0 0 == some .eq) = true := by decide
  go_enter Tryd.func136, Tryd.ntmps136
  go_wp2
  go_ret
  exact ⟨rfl, rfl⟩

theorem norm_form {n : Nat} (h0 : 0 < n) (hn : n ≤ 9007199254740992) : ∃ K E0 : Nat, 4503599627370496 ≤ K ∧ K < 9007199254740992 ∧ 1022 ≤ E0 ∧ E0 ≤ 1075 ∧ (n : Rat) = (K : Rat) * p2 ((E0 : Int) - 1074) := by
  have h53 : (2 : Nat) ^ 53 = 9007199254740992 := by decide
  have h52 : (2 : Nat) ^ 52 = 4503599627370496 := by decide
  by_cases h : n = 9007199254740992
  · subst h
    refine ⟨4503599627370496, 1075, by omega, by omega, by omega, by omega, ?_⟩
    rw [dbl_cast (show 9007199254740992 = 4503599627370496 * 2 by decide), show ((1075 : Nat) : Int) - 1074 = 1 by omega, p2_one]
  · have hl1 := Nat.log2_self_le (show n ≠ 0 by omega)
    have hl2 := Nat.lt_log2_self (n := n)
    generalize n.log2 = L at *
    have hL : L ≤ 52 := by
      rcases Nat.lt_or_ge L 53 with h1 | h1
      · omega
      · have : 2 ^ 53 ≤ 2 ^ L := Nat.pow_le_pow_right (by omega) h1
        omega
    refine ⟨n * 2 ^ (52 - L), 1022 + L, ?_, ?_, by omega, by omega, ?_⟩
    · have h1 : 2 ^ L * 2 ^ (52 - L) ≤ n * 2 ^ (52 - L) := Nat.mul_le_mul_right _ hl1
      rw [← Nat.pow_add, show L + (52 - L) = 52 by omega] at h1
      omega
    · have h1 : n * 2 ^ (52 - L) < 2 ^ (L + 1) * 2 ^ (52 - L) := Nat.mul_lt_mul_of_pos_right hl2 (Nat.two_pow_pos _)
      rw [← Nat.pow_add, show L + 1 + (52 - L) = 53 by omega] at h1
      omega
    · rw [Rat.natCast_mul, ← p2_nat, Rat.mul_assoc, ← p2_add, show ((52 - L : Nat) : Int) + (((1022 + L : Nat) : Int) - 1074) = 0 by omega, p2_zero, Rat.mul_one]
theorem nearest_form {n K E0 : Nat} (h0 : 0 < n) (hK : 4503599627370496 ≤ K) (hK' : K < 9007199254740992) (hE : E0 ≤ 2045) (h : (n : Rat) = (K : Rat) * p2 ((E0 : Int) - 1074)) : floatOfInt .f64 (n : Int) = E0 * 4503599627370496 + K := by
  show Ieee.double.nearest (decide ((n : Int) < 0)) (n : Int).natAbs 0 = _
  have h1 : decide ((n : Int) < 0) = false := by simp
  rw [h1, Int.natAbs_natCast]
  obtain ⟨r, e, hr⟩ := nearest_rn false (mag := n) 0 (by omega)
  rw [p2_zero, Rat.mul_one, h, ← rv_form (by omega) (.inr hK)] at hr
  have := hr.unique (isRn_rv _)
  rw [e, this, Nat.min_eq_left (by omega), word_eq]
  simp
end Go.Proofs.YthnmjkjllhlcjaaDoor
