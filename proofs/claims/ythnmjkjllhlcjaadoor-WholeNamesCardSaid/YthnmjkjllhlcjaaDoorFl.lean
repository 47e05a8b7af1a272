/- Plain mathematics: what the words of float64 stand for; no condition. -/
import Derived.Test.YthnmjkjllhlcjaaDoorPlain
import Derived.Laws.FloatArith
namespace Go.Tri
open Go

/-- The exponent field and the fraction field. -/
def exf (x : Nat) : Nat := x / 4503599627370496 % 2048
def frf (x : Nat) : Nat := x % 4503599627370496
def neb (x : Nat) : Bool := x / 9223372036854775808 % 2 == 1
def mant (x : Nat) : Nat := if exf x = 0 then frf x else 4503599627370496 + frf x
def expo (x : Nat) : Int := if exf x = 0 then -1074 else (exf x : Int) - 1075
/-- Neither infinite nor no number. -/
def Fin64 (x : Nat) : Prop := exf x < 2047
instance (x : Nat) : Decidable (Fin64 x) := inferInstanceAs (Decidable (exf x < 2047))
noncomputable def sgn (neg : Bool) (q : Rat) : Rat := if neg then -q else q
noncomputable def fl (x : Nat) : Rat := if Fin64 x then sgn (neb x) ((mant x : Rat) * p2 (expo x)) else 0

theorem read_fin {x : Nat} (h : Fin64 x) : Ieee.double.read x = .number (neb x) (mant x) (expo x) := by
  unfold Ieee.Format.read
  have hsw : Ieee.double.signWeight = 9223372036854775808 := by decide
  have hbin : Ieee.double.binade = 4503599627370496 := by decide
  have hinf : Ieee.double.infRung = 9218868437227405312 := by decide
  have hlp : Ieee.double.leastPlace = -1074 := by decide
  simp only [hsw, hbin, hinf, hlp]
  unfold Fin64 exf at h
  have hr : x % 9223372036854775808 < 9218868437227405312 := by omega
  have hd : x % 9223372036854775808 / 4503599627370496 = exf x := by unfold exf; omega
  have hm : x % 9223372036854775808 % 4503599627370496 = frf x := by unfold frf; omega
  by_cases h0 : x % 9223372036854775808 < 4503599627370496
  · rw [if_pos h0]
    have he : exf x = 0 := by omega
    unfold mant expo neb
    rw [if_pos he, if_pos he]
    congr 1
    omega
  · rw [if_neg h0, if_pos hr]
    have he : exf x ≠ 0 := by omega
    unfold mant expo neb
    rw [if_neg he, if_neg he, hm, hd]
    congr 1
    omega
theorem read_inf {x : Nat} (h : ¬ Fin64 x) (hf : frf x = 0) : Ieee.double.read x = .infinity (neb x) := by
  unfold Ieee.Format.read
  have hsw : Ieee.double.signWeight = 9223372036854775808 := by decide
  have hbin : Ieee.double.binade = 4503599627370496 := by decide
  have hinf : Ieee.double.infRung = 9218868437227405312 := by decide
  simp only [hsw, hbin, hinf]
  unfold Fin64 exf at h
  unfold frf at hf
  rw [if_neg (by omega), if_neg (by omega), if_pos (by omega)]
  rfl
theorem read_nan {x : Nat} (h : ¬ Fin64 x) (hf : frf x ≠ 0) : Ieee.double.read x = .nan (neb x) (frf x) := by
  unfold Ieee.Format.read
  have hsw : Ieee.double.signWeight = 9223372036854775808 := by decide
  have hbin : Ieee.double.binade = 4503599627370496 := by decide
  have hinf : Ieee.double.infRung = 9218868437227405312 := by decide
  simp only [hsw, hbin, hinf]
  unfold Fin64 exf at h
  unfold frf at hf ⊢
  have e : x % 9223372036854775808 - 9218868437227405312 = x % 4503599627370496 := by omega
  rw [if_neg (by omega), if_neg (by omega), if_neg (by omega), e]
  rfl

theorem signed_rat (neg : Bool) (m k : Nat) : ((Ieee.signed neg m k : Int) : Rat) = sgn neg ((m : Rat) * p2 k) := by
  unfold Ieee.signed sgn
  rw [Nat.shiftLeft_eq, p2_nat]
  cases neg
  · simp only [Bool.false_eq_true, if_false]; rw [Rat.intCast_natCast, Rat.natCast_mul]
  · simp only [if_true]; rw [Rat.intCast_neg, Rat.intCast_natCast, Rat.natCast_mul]
theorem sgn_mul (neg : Bool) (a b : Rat) : sgn neg (a * b) = sgn neg a * b := by
  unfold sgn; cases neg
  · rfl
  · simp only [if_true]; rw [Rat.neg_mul]
theorem signed_place (neg : Bool) (m : Nat) {i base : Int} (h : base ≤ i) : ((Ieee.signed neg m (i - base).toNat : Int) : Rat) * p2 base = sgn neg ((m : Rat) * p2 i) := by
  rw [signed_rat, ← sgn_mul, Rat.mul_assoc, ← p2_add]
  congr 3
  omega

/-- The order of floats is that of their numbers. -/
theorem order_fin {x y : Nat} (hx : Fin64 x) (hy : Fin64 y) : ∃ a b : Int, ∃ base : Int, Ieee.double.order x y = some (compare a b) ∧ fl x = (a : Rat) * p2 base ∧ fl y = (b : Rat) * p2 base := by
  unfold Ieee.Format.order
  rw [read_fin hx, read_fin hy]
  refine ⟨_, _, min (expo x) (expo y), rfl, ?_, ?_⟩
  · unfold fl; rw [if_pos hx, signed_place _ _ (Int.min_le_left _ _)]
  · unfold fl; rw [if_pos hy, signed_place _ _ (Int.min_le_right _ _)]
theorem mul_p2_lt {a b : Rat} (k : Int) : a * p2 k < b * p2 k ↔ a < b := Rat.mul_lt_mul_right (p2_pos k)
theorem mul_p2_inj {a b : Rat} {k : Int} : a * p2 k = b * p2 k ↔ a = b := ⟨fun h => by
  rcases Rat.le_total (a := a) (b := b) with h1 | h1
  · exact Rat.le_antisymm h1 (by rw [← Rat.not_lt]; intro h2; have := (mul_p2_lt k).2 h2; rw [h] at this; exact Rat.lt_irrefl this)
  · exact Rat.le_antisymm (by rw [← Rat.not_lt]; intro h2; have := (mul_p2_lt k).2 h2; rw [h] at this; exact Rat.lt_irrefl this) h1, fun h => by rw [h]⟩
theorem order_lt {x y : Nat} (hx : Fin64 x) (hy : Fin64 y) : Ieee.double.order x y = some .lt ↔ fl x < fl y := by
  obtain ⟨a, b, base, h, ha, hb⟩ := order_fin hx hy
  rw [h, ha, hb, mul_p2_lt, Rat.intCast_lt_intCast, Option.some.injEq, Int.compare_eq_lt]
theorem order_gt {x y : Nat} (hx : Fin64 x) (hy : Fin64 y) : Ieee.double.order x y = some .gt ↔ fl y < fl x := by
  obtain ⟨a, b, base, h, ha, hb⟩ := order_fin hx hy
  rw [h, ha, hb, mul_p2_lt, Rat.intCast_lt_intCast, Option.some.injEq, Int.compare_eq_gt]
theorem order_eq {x y : Nat} (hx : Fin64 x) (hy : Fin64 y) : Ieee.double.order x y = some .eq ↔ fl x = fl y := by
  obtain ⟨a, b, base, h, ha, hb⟩ := order_fin hx hy
  rw [h, ha, hb, mul_p2_inj, Rat.intCast_inj, Option.some.injEq, Int.compare_eq_eq]
theorem fin_zero : Fin64 0 := by decide
theorem fl_zero : fl 0 = 0 := by
  unfold fl; rw [if_pos fin_zero]
  have h1 : mant 0 = 0 := by decide
  have h2 : neb 0 = false := by decide
  rw [h1, h2]; simp [sgn]
end Go.Tri
