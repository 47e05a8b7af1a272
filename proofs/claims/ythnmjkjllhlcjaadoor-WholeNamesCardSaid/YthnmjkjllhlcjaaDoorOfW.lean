/- The walk of whole.Of; no condition. -/
import Derived.Test.YthnmjkjllhlcjaaDoorBitW
namespace Go.Proofs.YthnmjkjllhlcjaaDoor
open Go Go.RowKit Go.Steady Go.Tri
set_option maxRecDepth 100000

theorem and_exf (x : Nat) (hx : x < 18446744073709551616) : bits BinOp.and IntKind.u64 ((x : Int) / 4503599627370496) 2047 = (exf x : Nat) := by
  have e : (x : Int) / 4503599627370496 = ((x / 4503599627370496 : Nat) : Int) := by omega
  have h2 : (2047 : Int) = ((2047 : Nat) : Int) := rfl
  rw [e, h2, bits_and_u64_nat _ _ (by omega) (by omega), show (2047 : Nat) = 2 ^ 11 - 1 from rfl, Nat.and_two_pow_sub_one_eq_mod]
  rfl
theorem and_frf (x : Nat) (hx : x < 18446744073709551616) : bits BinOp.and IntKind.u64 (x : Int) 4503599627370495 = (frf x : Nat) := by
  have h2 : (4503599627370495 : Int) = ((4503599627370495 : Nat) : Int) := rfl
  rw [h2, bits_and_u64_nat _ _ (by omega) (by omega), show (4503599627370495 : Nat) = 2 ^ 52 - 1 from rfl, Nat.and_two_pow_sub_one_eq_mod]
  rfl
theorem or_top (f : Nat) (hf : f < 4503599627370496) : bits BinOp.or IntKind.u64 (f : Int) 4503599627370496 = ((4503599627370496 + f : Nat) : Int) := by
  have h2 : (4503599627370496 : Int) = ((4503599627370496 : Nat) : Int) := rfl
  rw [h2, bits_or_u64_nat _ _ (by omega) (by omega)]
  have := Nat.two_pow_add_eq_or_of_lt (b := f) (i := 52) (by omega) 1
  rw [Nat.or_comm, show (4503599627370496 : Nat) = 2 ^ 52 * 1 from rfl, ← this]

theorem run_bits (x : Nat) (w : World) : (callFunc 103 #[.float .f64 x]).run Tryd.prog w = .ok (.value (.int .u64 x)) w := by
  rw [run_callFunc_extern (e := Extern.MathFloatBits.float64bits) Tryd.func103 (by kernel_rfl) (by kernel_rfl) (by kernel_rfl) (by kernel_rfl)]
  rfl
theorem run_frombits (x : Nat) (w : World) : (callFunc 104 #[.int .u64 x]).run Tryd.prog w = .ok (.value (.float .f64 x)) w := by
  rw [run_callFunc_extern (e := Extern.MathFloatBits.float64frombits) Tryd.func104 (by kernel_rfl) (by kernel_rfl) (by kernel_rfl) (by kernel_rfl)]
  rfl

theorem of_inf (x fr : Nat) (w : World) (h1 : bits BinOp.and IntKind.u64 ((x : Int) / 4503599627370496) 2047 = 2047) (h2 : bits BinOp.and IntKind.u64 (x : Int) 4503599627370495 = (fr : Nat)) :
    Calls Tryd.prog 37 #[.float .f64 x] w (Gives w fun w' v => IsNum w' v none) := by
  have hb := run_bits
  go_enter Tryd.func37, Tryd.ntmps37
  go_wp2
  refine bodyPost_ret (v := .agg #[.slice none 0 0, .int .i64 0, .bool false, .bool true]) (by simp [results, Tryd.results37, go_sem]) rfl ?_
  exact Gives.mk _ (by (with_reducible (repeat (first | exact Ext.refl _ | refine Ext.drewN ?_ _ | refine Ext.drew ?_ | refine Ext.alloc ?_ _ | refine Ext.setCell ?_ (by first | (dsimp only; omega) | simp | (simp; omega)) _)))) rfl

set_option maxHeartbeats 400000 in
theorem of_fin (x ex fr m : Nat) (k : Int) (neg : Bool) (w : World) (h1 : bits BinOp.and IntKind.u64 ((x : Int) / 4503599627370496) 2047 = (ex : Nat)) (h2 : bits BinOp.and IntKind.u64 (x : Int) 4503599627370495 = (fr : Nat)) (hfr : fr < 4503599627370496)
    (hor : bits BinOp.or IntKind.u64 (fr : Int) 4503599627370496 = ((4503599627370496 + fr : Nat) : Int)) (hx : (FloatKind.f64.format.order x 0 == some .lt) = neg)
    (hcase : (ex = 0 ∧ m = fr ∧ k = -1074) ∨ (0 < ex ∧ ex < 2047 ∧ m = 4503599627370496 + fr ∧ k = ex - 1075)) (hT : Tab w) :
    Calls Tryd.prog 37 #[.float .f64 x] w (Gives w fun w' v => IsNum w' v (mk (sgn neg ((m : Rat) * p2 k)))) := by
  have hb := run_bits
  rcases hcase with ⟨rfl, rfl, rfl⟩ | ⟨h0, hlt, hm, hk⟩
  · go_enter Tryd.func37, Tryd.ntmps37
    clear hb
    go_wp2_with (simp only [run_bits])
    refine (bit_any m (-1074) _ (by omega)).mono ?_
    rintro ed w1 ⟨v1, rfl, hx1, xs, hl3, hval, hm1⟩
    have B := (Box.new w #[.slice none 0 0, .int .i64 0, .bool false, .bool false] 29).ext hx1
    have hx' : Ext w w1 := ((Ext.refl w).alloc _).trans hx1
    have HV := Lib.hid hval; have HL := Lib.hid hl3; clear hx1 hval hl3
    have B_c0 := B.cell 0 rfl; have B_c1 := B.cell 1 rfl; have B_c2 := B.cell 2 rfl; have B_c3 := B.cell 3 rfl; have B_f0 := B.free 0; have B_f1 := B.free 1; have B_f2 := B.free 2; have B_f3 := B.free 3; have B_lt := B.lt
    go_wp2_with fail
    refine (made_any neg _ (hT.ext hx') hm1 (by have := HL.out; omega) (by omega) (by omega)).mono ?_
    rintro ed w2 ⟨v2, rfl, hx2, hnum⟩
    have B' := B.ext hx2
    have hx2' : Ext w w2 := hx'.trans hx2
    clear hx2
    clear B_c0 B_c1 B_c2 B_c3 B_f0 B_f1 B_f2 B_f3 B_lt
    have B'_c0 := B'.cell 0 rfl; have B'_c1 := B'.cell 1 rfl; have B'_c2 := B'.cell 2 rfl; have B'_c3 := B'.cell 3 rfl; have B'_f0 := B'.free 0; have B'_f1 := B'.free 1; have B'_f2 := B'.free 2; have B'_f3 := B'.free 3; have B'_lt := B'.lt
    rw [HV.out] at hnum
    obtain ⟨a, n, c, e, ng, non, rfl, -⟩ := IsNum.shape hnum
    go_wp2
    refine bodyPost_ret (v := .agg #[.slice a n c, .int .i64 e, .bool ng, .bool non]) (by simp [results, Tryd.results37, go_sem, B'_c0, B'_c1, B'_c2, B'_c3]) rfl ?_
    exact Gives.mk _ (by (with_reducible (repeat (first | exact Ext.refl _ | exact hx2' | refine Ext.drewN ?_ _ | refine Ext.drew ?_ | refine Ext.alloc ?_ _ | refine Ext.setCell ?_ (by first | (dsimp only; omega) | simp | (simp; omega)) _)))) (hnum.store B' a n c e ng non)
  · subst hm hk
    have hne : ((ex : Int) == 2047) = false := by simp; omega
    have hne0 : ((ex : Int) == 0) = false := by simp; omega
    go_enter Tryd.func37, Tryd.ntmps37
    clear hb
    go_wp2_with (simp only [run_bits])
    refine (bit_any (4503599627370496 + fr) ((ex : Int) - 1075) _ (by omega)).mono ?_
    rintro ed w1 ⟨v1, rfl, hx1, xs, hl3, hval, hm1⟩
    have B := (Box.new w #[.slice none 0 0, .int .i64 0, .bool false, .bool false] 29).ext hx1
    have hx' : Ext w w1 := ((Ext.refl w).alloc _).trans hx1
    have HV := Lib.hid hval; have HL := Lib.hid hl3; clear hx1 hval hl3
    have B_c0 := B.cell 0 rfl; have B_c1 := B.cell 1 rfl; have B_c2 := B.cell 2 rfl; have B_c3 := B.cell 3 rfl; have B_f0 := B.free 0; have B_f1 := B.free 1; have B_f2 := B.free 2; have B_f3 := B.free 3; have B_lt := B.lt
    go_wp2_with fail
    refine (made_any neg _ (hT.ext hx') hm1 (by have := HL.out; omega) (by omega) (by omega)).mono ?_
    rintro ed w2 ⟨v2, rfl, hx2, hnum⟩
    have B' := B.ext hx2
    have hx2' : Ext w w2 := hx'.trans hx2
    clear hx2
    clear B_c0 B_c1 B_c2 B_c3 B_f0 B_f1 B_f2 B_f3 B_lt
    have B'_c0 := B'.cell 0 rfl; have B'_c1 := B'.cell 1 rfl; have B'_c2 := B'.cell 2 rfl; have B'_c3 := B'.cell 3 rfl; have B'_f0 := B'.free 0; have B'_f1 := B'.free 1; have B'_f2 := B'.free 2; have B'_f3 := B'.free 3; have B'_lt := B'.lt
    rw [HV.out] at hnum
    obtain ⟨a, n, c, e, ng, non, rfl, -⟩ := IsNum.shape hnum
    go_wp2
    refine bodyPost_ret (v := .agg #[.slice a n c, .int .i64 e, .bool ng, .bool non]) (by simp [results, Tryd.results37, go_sem, B'_c0, B'_c1, B'_c2, B'_c3]) rfl ?_
    exact Gives.mk _ (by (with_reducible (repeat (first | exact Ext.refl _ | exact hx2' | refine Ext.drewN ?_ _ | refine Ext.drew ?_ | refine Ext.alloc ?_ _ | refine Ext.setCell ?_ (by first | (dsimp only; omega) | simp | (simp; omega)) _)))) (hnum.store B' a n c e ng non)

/-- The number that a float denotes. -/
noncomputable def ofF (x : Nat) : Option Rat := if Fin64 x then some (fl x) else none

theorem expo_bounds {x : Nat} (h : Fin64 x) : -1074 ≤ expo x ∧ expo x ≤ 971 := by
  unfold Fin64 at h
  unfold expo
  split <;> omega
theorem mant_lt (x : Nat) : mant x < 9007199254740992 := by
  unfold mant frf
  split <;> omega
theorem fl_fits {x : Nat} (h : Fin64 x) : Bd 1024 (fl x) ∧ Gr 1074 (fl x) := by
  have hm := mant_lt x
  have he := expo_bounds h
  have h1 : Bd 53 (mant x : Rat) := by
    have h53 : p2 53 = ((9007199254740992 : Nat) : Rat) := by rw [show (53 : Int) = ((53 : Nat) : Int) from rfl, p2_nat]
    have h0 : (0 : Rat) ≤ (mant x : Rat) := Rat.natCast_nonneg
    have hp := p2_pos 53
    refine ⟨by rw [h53]; exact Rat.natCast_lt_natCast.2 hm, by grind⟩
  have h2 : Bd (expo x + 1) (p2 (expo x)) := ⟨p2_lt (by omega), by have := p2_pos (expo x); have := p2_pos (expo x + 1); grind⟩
  have hq : Bd 1024 ((mant x : Rat) * p2 (expo x)) := by
    have hp := p2_pos (expo x)
    have h0 : (0 : Rat) ≤ (mant x : Rat) := Rat.natCast_nonneg
    have hle : (mant x : Rat) * p2 (expo x) < p2 53 * p2 (expo x) := Rat.mul_lt_mul_of_pos_right h1.1 hp
    rw [← p2_add] at hle
    have := p2_le (show 53 + expo x ≤ 1024 by omega)
    have hnn := Rat.mul_nonneg h0 (Rat.le_of_lt hp)
    have := p2_pos 1024
    exact ⟨by grind, by grind⟩
  have hg : Gr 1074 ((mant x : Rat) * p2 (expo x)) := by
    show Intg _
    rw [Rat.mul_assoc, ← p2_add]
    obtain ⟨n, hn⟩ := Int.le.dest (show -1074 ≤ expo x by omega)
    rw [show expo x + 1074 = (n : Int) by omega]
    exact Intg.mul (Intg.nat _) (Intg.p2 n)
  unfold fl
  rw [if_pos h]
  unfold sgn
  cases neb x
  · exact ⟨hq, hg⟩
  · exact ⟨hq.neg, hg.neg⟩

/-- whole.Of. -/
theorem of_any (x : Nat) (w : World) (hx : x < 18446744073709551616) (hT : Tab w) :
    Calls Tryd.prog 37 #[.float .f64 x] w (Gives w fun w' v => IsNum w' v (ofF x)) := by
  have h1 := and_exf x hx
  have h2 := and_frf x hx
  have hfr : frf x < 4503599627370496 := Nat.mod_lt _ (by decide)
  by_cases hf : Fin64 x
  · have hnum : mk (sgn (FloatKind.f64.format.order x 0 == some .lt) ((mant x : Rat) * p2 (expo x))) = ofF x := by
      have he : sgn (FloatKind.f64.format.order x 0 == some .lt) ((mant x : Rat) * p2 (expo x)) = fl x := by
        have ho : FloatKind.f64.format.order x 0 = some .lt ↔ fl x < fl 0 := order_lt hf fin_zero
        rw [fl_zero] at ho
        have hnn : 0 ≤ (mant x : Rat) * p2 (expo x) := Rat.mul_nonneg Rat.natCast_nonneg (Rat.le_of_lt (p2_pos _))
        by_cases hlt : fl x < 0
        · rw [ho.2 hlt]
          have hfl : fl x = sgn (neb x) ((mant x : Rat) * p2 (expo x)) := by unfold fl; rw [if_pos hf]
          rw [hfl] at hlt ⊢
          cases hn : neb x
          · rw [hn] at hlt; simp only [sgn, Bool.false_eq_true, if_false] at hlt; grind
          · rfl
        · have : (FloatKind.f64.format.order x 0 == some .lt) = false := by
            rw [beq_eq_false_iff_ne]; exact fun h => hlt (ho.1 h)
          rw [this]
          have hfl : fl x = sgn (neb x) ((mant x : Rat) * p2 (expo x)) := by unfold fl; rw [if_pos hf]
          rw [hfl] at hlt ⊢
          cases hn : neb x
          · rfl
          · rw [hn] at hlt; simp only [sgn, if_true, Bool.false_eq_true, if_false] at hlt ⊢; grind
      rw [he]
      unfold ofF
      rw [if_pos hf]
      obtain ⟨b, g⟩ := fl_fits hf
      exact mk_fits ⟨b.mono (by omega), g.mono (by omega)⟩
    rw [← hnum]
    refine of_fin x (exf x) (frf x) (mant x) (expo x) _ w h1 h2 hfr (or_top _ hfr) rfl ?_ hT
    unfold mant expo
    unfold Fin64 at hf
    by_cases h0 : exf x = 0
    · left; rw [if_pos h0, if_pos h0]; exact ⟨h0, rfl, rfl⟩
    · right; rw [if_neg h0, if_neg h0]; exact ⟨by omega, hf, rfl, rfl⟩
  · have he : exf x = 2047 := by
      have : exf x < 2048 := Nat.mod_lt _ (by decide)
      unfold Fin64 at hf; omega
    rw [he] at h1
    unfold ofF
    rw [if_neg hf]
    exact of_inf x (frf x) w h1 h2
end Go.Proofs.YthnmjkjllhlcjaaDoor
