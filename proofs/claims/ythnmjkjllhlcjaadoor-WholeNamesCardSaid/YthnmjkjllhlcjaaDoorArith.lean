/- Plain mathematics: the model's sum, difference and product of finite floats are the nearest floats; no condition. -/
import Derived.Test.YthnmjkjllhlcjaaDoorRn
namespace Go.Tri
open Go

theorem rn_congr {p q : Rat} {x : Nat} (h : p = q) (hx : Rn p x) : Rn q x := h ▸ hx
theorem total_rn (s t : Bool) (a : Int) (base : Int) {q : Rat} (h : q = (a : Rat) * p2 base) : Rn q (Ieee.double.write (.number (if a = 0 then s && t else decide (a < 0)) a.natAbs base)) := by
  have h1 := rn_nearest (if a = 0 then s && t else decide (a < 0)) a.natAbs base
  refine rn_congr ?_ h1
  rw [h]
  by_cases h0 : a = 0
  · subst h0; simp [sgn]
  · rw [if_neg h0, sgn_mul]
    congr 1
    unfold sgn
    by_cases hn : a < 0
    · rw [if_pos (by simpa using hn)]
      have : a = -((a.natAbs : Nat) : Int) := by omega
      conv => rhs; rw [this]
      rw [Rat.intCast_neg, Rat.intCast_natCast]
    · rw [if_neg (by simpa using hn)]
      have : a = ((a.natAbs : Nat) : Int) := by omega
      conv => rhs; rw [this]
      rw [Rat.intCast_natCast]
theorem fl_place {x : Nat} (h : Fin64 x) {base : Int} (hb : base ≤ expo x) : fl x = ((Ieee.signed (neb x) (mant x) (expo x - base).toNat : Int) : Rat) * p2 base := by
  rw [signed_place _ _ hb]; unfold fl; rw [if_pos h]
theorem signed_not (neg : Bool) (m k : Nat) : Ieee.signed (!neg) m k = -Ieee.signed neg m k := by
  unfold Ieee.signed; cases neg <;> simp
theorem add_rn {x y : Nat} (hx : Fin64 x) (hy : Fin64 y) : ∃ z, Ieee.double.add x y = some z ∧ Rn (fl x + fl y) z := by
  unfold Ieee.Format.add
  rw [read_fin hx, read_fin hy]
  refine ⟨_, rfl, ?_⟩
  refine total_rn _ _ _ _ ?_
  rw [fl_place hx (Int.min_le_left _ (expo y)), fl_place hy (Int.min_le_right (expo x) _), Rat.intCast_add]
  grind
theorem sub_rn {x y : Nat} (hx : Fin64 x) (hy : Fin64 y) : ∃ z, Ieee.double.sub x y = some z ∧ Rn (fl x - fl y) z := by
  unfold Ieee.Format.sub
  rw [read_fin hx, read_fin hy]
  refine ⟨_, rfl, ?_⟩
  refine total_rn _ _ _ _ ?_
  rw [fl_place hx (Int.min_le_left _ (expo y)), fl_place hy (Int.min_le_right (expo x) _), Rat.intCast_add, signed_not, Rat.intCast_neg]
  grind
theorem sgn_xor (s t : Bool) (a b : Rat) : sgn (s ^^ t) (a * b) = sgn s a * sgn t b := by
  unfold sgn; cases s <;> cases t <;> simp <;> grind
theorem mul_rn {x y : Nat} (hx : Fin64 x) (hy : Fin64 y) : ∃ z, Ieee.double.mul x y = some z ∧ Rn (fl x * fl y) z := by
  unfold Ieee.Format.mul
  rw [read_fin hx, read_fin hy]
  refine ⟨_, rfl, ?_⟩
  refine rn_congr ?_ (rn_nearest (neb x ^^ neb y) (mant x * mant y) (expo x + expo y))
  unfold fl
  rw [if_pos hx, if_pos hy, ← sgn_xor]
  congr 1
  rw [Rat.natCast_mul, p2_add]
  grind
theorem floatBits_add {x y : Nat} (hx : Fin64 x) (hy : Fin64 y) : ∃ z, floatBits .add .f64 x y = some z ∧ Rn (fl x + fl y) z := add_rn hx hy
theorem floatBits_sub {x y : Nat} (hx : Fin64 x) (hy : Fin64 y) : ∃ z, floatBits .sub .f64 x y = some z ∧ Rn (fl x - fl y) z := sub_rn hx hy
theorem floatBits_mul {x y : Nat} (hx : Fin64 x) (hy : Fin64 y) : ∃ z, floatBits .mul .f64 x y = some z ∧ Rn (fl x * fl y) z := mul_rn hx hy
end Go.Tri
