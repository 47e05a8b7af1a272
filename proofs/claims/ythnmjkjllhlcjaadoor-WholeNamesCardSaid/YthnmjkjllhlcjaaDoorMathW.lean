/- The walks of math's Abs, IsNaN, IsInf, Inf, normalize at finite floats. -/
import Derived.Test.YthnmjkjllhlcjaaDoorTopW
import Derived.Test.YthnmjkjllhlcjaaDoorRn
import Derived.WalkLawsBesides
import Derived.Laws.BitsAllLaws
namespace Go.Proofs.YthnmjkjllhlcjaaDoor
open Go Go.RowKit Go.Steady Go.Tri
set_option maxRecDepth 100000

theorem andnot_top (x : Nat) (hx : x < 18446744073709551616) : bits BinOp.andNot IntKind.u64 (x : Int) 9223372036854775808 = ((x % 9223372036854775808 : Nat) : Int) := by
  have := u64_andNot_nat x 9223372036854775808 hx (by omega)
  rw [show (9223372036854775808 : Int) = ((9223372036854775808 : Nat) : Int) from rfl, this, show 18446744073709551615 - 9223372036854775808 = 2 ^ 63 - 1 from rfl, Nat.and_two_pow_sub_one_eq_mod]
theorem sr_nat {r : Nat} (h : r ≤ 9218868437227405312) : sr r = (r : Int) := by
  have := sr_word (neg := false) h
  rw [word_eq] at this
  exact this
/-- math.Abs. -/
theorem abs_any (x : Nat) (w : World) (hx : x < 18446744073709551616) :
    Calls Tryd.prog 72 #[.float .f64 x] w fun ed w' => ed = .returned (.float .f64 (x % 9223372036854775808)) ∧ w' = w := by
  have h1 := andnot_top x hx
  have hb := run_bits
  have hf : ∀ w, (callFunc 104 #[.int .u64 ((x : Int) % 9223372036854775808)]).run Tryd.prog w = .ok (.value (.float .f64 (x % 9223372036854775808))) w := fun w => by
    have := run_frombits (x % 9223372036854775808) w
    rwa [Int.natCast_emod] at this
  go_enter Tryd.func72, Tryd.ntmps72
  go_wp2
  go_ret
  exact ⟨by simp, rfl⟩
/-- math.IsNaN of what is none. -/
theorem isnan_num (x : Nat) (w : World) (hx : Num64 x) :
    Calls Tryd.prog 137 #[.float .f64 x] w fun ed w' => ed = .returned (.bool false) ∧ w' = w := by
  have h1 : (FloatKind.f64.format.order x x != some .eq) = false := by
    have : FloatKind.f64.format.order x x = some .eq := by
      show Ieee.double.order x x = _
      rw [order_sr hx hx, Int.compare_eq_eq.2 rfl]
    rw [this]; rfl
  go_enter Tryd.func137, Tryd.ntmps137
  go_wp2
  go_ret
  exact ⟨rfl, rfl⟩
/-- math.IsInf(x, 0) of a finite float. -/
theorem isinf_fin (x : Nat) (w : World) (hx : x < 18446744073709551616) (hf : Fin64 x) :
    Calls Tryd.prog 40 #[.float .f64 x, .int .i64 0] w fun ed w' => ed = .returned (.bool false) ∧ w' = w := by
  have h1 : (FloatKind.f64.format.order (x % 9223372036854775808) 9218868437227405311 == some .gt) = false := by
    have hl := (fin_iff x).1 hf
    have h2 : FloatKind.f64.format.order (x % 9223372036854775808) 9218868437227405311 = some (compare (sr (x % 9223372036854775808)) (sr 9218868437227405311)) := order_sr ⟨by omega, by omega⟩ ⟨by omega, by omega⟩
    rw [h2, sr_nat (by omega), sr_nat (by omega)]
    have h5 : compare ((x % 9223372036854775808 : Nat) : Int) ((9218868437227405311 : Nat) : Int) ≠ .gt := fun h => by
      have h6 := Int.compare_eq_gt.1 h
      omega
    exact beq_false_of_ne fun h => h5 (Option.some.inj h)
  go_enter Tryd.func40, Tryd.ntmps40
  go_wp2_with fail
  refine (abs_any x _ hx).mono ?_
  rintro ed w1 ⟨rfl, rfl⟩
  go_wp2
  go_ret
  exact ⟨rfl, rfl⟩
/-- math.Inf(1). -/
theorem inf_one (w : World) :
    Calls Tryd.prog 38 #[.int .i64 1] w fun ed w' => ed = .returned (.float .f64 9218868437227405312) ∧ w' = w := by
  have hf := run_frombits
  have hf1 : ∀ w, (callFunc 104 #[.int .u64 9218868437227405312]).run Tryd.prog w = .ok (.value (.float .f64 9218868437227405312)) w := fun w => run_frombits 9218868437227405312 w
  go_enter Tryd.func38, Tryd.ntmps38
  go_wp2
  go_ret
  exact ⟨rfl, rfl⟩
/-- math.normalize of a normal float. -/
theorem normalize_normal (x : Nat) (w : World) (hx : x < 9218868437227405312) (hn : 4503599627370496 ≤ x) :
    Calls Tryd.prog 157 #[.float .f64 x] w fun ed w' => ed = .returned (.tuple #[.float .f64 x, .int .i64 0]) ∧ w' = w := by
  have h1 : (FloatKind.f64.format.order (x % 9223372036854775808) 4503599627370496 == some .lt) = false := by
    have h2 : FloatKind.f64.format.order (x % 9223372036854775808) 4503599627370496 = some (compare (sr (x % 9223372036854775808)) (sr 4503599627370496)) := order_sr ⟨by omega, by omega⟩ ⟨by omega, by omega⟩
    rw [h2, sr_nat (by omega), sr_nat (by omega)]
    have h5 : compare ((x % 9223372036854775808 : Nat) : Int) ((4503599627370496 : Nat) : Int) ≠ .lt := fun h => by
      have := Int.compare_eq_lt.1 h
      omega
    exact beq_false_of_ne fun h => h5 (Option.some.inj h)
  go_enter Tryd.func157, Tryd.ntmps157
  go_wp2_with fail
  refine (abs_any x _ (by omega)).mono ?_
  rintro ed w1 ⟨rfl, rfl⟩
  go_wp2
  go_ret2
  exact ⟨rfl, rfl⟩
end Go.Proofs.YthnmjkjllhlcjaaDoor
