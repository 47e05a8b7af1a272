/- Numbers at the ends, for law 01's WholeNames; no condition. -/
import Derived.Test.YthnmjkjllhlcjaaDoorLawC
namespace Go.Proofs.YthnmjkjllhlcjaaDoor
open Go Go.RowKit Go.Steady Go.Tri
set_option maxRecDepth 100000

theorem one_int : ((1 : Int) : Rat) = 1 := rfl
theorem not_bd {k : Int} {q : Rat} (h : p2 k ≤ q) : ¬ Bd k q := fun b => by have := b.1; grind
theorem fits_p2 {k : Int} (h1 : k ≤ 65536) (h2 : -65536 ≤ k) : Fits (p2 k) := ⟨(bd_p2 k).mono (by omega), (gr_p2 k).mono (by omega)⟩
theorem not_fits_p2 {k : Int} (h : 65537 ≤ k) : ¬ Fits (p2 k) := fun f => not_bd (p2_le h) f.1
theorem not_gr_p2 {k l : Int} (h : k < -l) : ¬ Gr l (p2 k) := fun g => by
  have := odd_not_gr (m := 0) (k := k) (l := l) (by show Gr l (((2 * 0 + 1 : Nat) : Rat) * p2 k); rw [show ((2 * 0 + 1 : Nat) : Rat) = 1 from rfl, Rat.one_mul]; exact g)
  omega
theorem not_fits_low {k : Int} (h : k < -65536) : ¬ Fits (p2 k) := fun f => not_gr_p2 h f.2
theorem sh_some {k : Int} (h1 : k ≤ 65536) (h2 : -65536 ≤ k) : shiftO (some ((1 : Int) : Rat)) k = some (p2 k) := by
  show mk (((1 : Int) : Rat) * p2 k) = _
  rw [one_int, Rat.one_mul]; exact mk_fits (fits_p2 h1 h2)
theorem sh_none {k : Int} (h : 65537 ≤ k ∨ k < -65536) : shiftO (some ((1 : Int) : Rat)) k = none := by
  show mk (((1 : Int) : Rat) * p2 k) = _
  rw [one_int, Rat.one_mul]
  rcases h with h | h
  · exact mk_none (not_fits_p2 h)
  · exact mk_none (not_fits_low h)
theorem sh_zero (k : Int) : shiftO (some 0) k = some 0 := by
  show mk (0 * p2 k) = _
  rw [Rat.zero_mul]; exact mk_fits fits_zero
theorem top_top : addO (some (p2 65536)) (some (p2 65536)) = none := by
  have : p2 65536 + p2 65536 = p2 65537 := by rw [show (65537 : Int) = 65536 + 1 by omega, p2_succ]; grind
  show mk _ = _
  rw [this]; exact mk_none (not_fits_p2 (by omega))
theorem top_low_lt : p2 (-65536) < p2 65536 := p2_lt (by omega)
theorem fits_tl : Fits (p2 65536 + p2 (-65536)) := by
  have h1 := p2_pos 65536
  have h2 := p2_pos (-65536)
  have h3 := p2_succ 65536
  have h4 := top_low_lt
  rw [show (65536 : Int) + 1 = 65537 by omega] at h3
  refine ⟨⟨by grind, by grind⟩, Gr.add ((gr_p2 _).mono (by omega)) ((gr_p2 _).mono (by omega))⟩
theorem top_low : addO (some (p2 65536)) (some (p2 (-65536))) = some (p2 65536 + p2 (-65536)) := mk_fits fits_tl
theorem tl_top : subO (some (p2 65536 + p2 (-65536))) (some (p2 65536)) = some (p2 (-65536)) := by
  show mk (p2 65536 + p2 (-65536) + -p2 65536) = _
  rw [show p2 65536 + p2 (-65536) + -p2 65536 = p2 (-65536) by grind]
  exact mk_fits (fits_p2 (by omega) (by omega))
theorem cmp_low : cmpO (some (p2 (-65536))) (some (p2 (-65536))) = 0 := by
  show sgO (mk (p2 (-65536) + -p2 (-65536))) = 0
  rw [show p2 (-65536) + -p2 (-65536) = 0 by grind, mk_fits fits_zero]; exact sg_zero
theorem top_two : mulO (some (p2 65536)) (some ((2 : Int) : Rat)) = none := by
  have : p2 65536 * ((2 : Int) : Rat) = p2 65537 := by rw [show (65537 : Int) = 65536 + 1 by omega, p2_succ, show ((2 : Int) : Rat) = 2 from rfl]; grind
  show mk _ = _
  rw [this]; exact mk_none (not_fits_p2 (by omega))
theorem top_mul_low : mulO (some (p2 65536)) (some (p2 (-65536))) = some 1 := by
  show mk _ = _
  rw [p2_mul_neg]
  exact mk_fits (by rw [← p2_zero]; exact fits_p2 (by omega) (by omega))
theorem low_half : mulO (some (p2 (-65536))) (some (p2 (-1))) = none := by
  show mk _ = _
  rw [← p2_add]; exact mk_none (not_fits_low (by omega))
theorem rn_top : Rn (p2 65536) 9218868437227405312 := rn_over 1 65536 (by omega) (by rw [show ((1 : Nat) : Rat) = 1 from rfl, Rat.one_mul]) (p2_le (by omega))
theorem rn_tiny {q : Rat} (h0 : 0 ≤ q) (h : q < p2 (-1075)) : Rn q 0 := rn_between (by omega) h0 (isRn_small h)
theorem rn_low : Rn (p2 (-65536)) 0 := rn_tiny (Rat.le_of_lt (p2_pos _)) (p2_lt (by omega))
theorem neg_top : negO (some (p2 65536)) = some (-p2 65536) := rfl
theorem rn_ntop : Rn (-p2 65536) 18442240474082181120 := rn_top.neg
theorem fl_one' : Rn 1 4607182418800017408 := rn_lit fl_one.1 (by omega) fl_one.2
/-- How a float of nought is held against nought. -/
theorem order_zero {z : Nat} (h : sr z = 0) (hz : Num64 z) : (FloatKind.f64.format.order z 0 == some .eq) = true ∧ (FloatKind.f64.format.order z 0 != some .eq) = false := by
  have : FloatKind.f64.format.order z 0 = some .eq := by
    show Ieee.double.order z 0 = _
    rw [order_sr hz ⟨by omega, by omega⟩, h, show sr 0 = 0 by decide, Int.compare_eq_eq.2 rfl]
  rw [this]; exact ⟨rfl, rfl⟩
theorem order_ne_self {x : Nat} (hx : Num64 x) : (FloatKind.f64.format.order x x != some .eq) = false := by
  have := order_self hx
  rw [bne, this]; rfl
end Go.Proofs.YthnmjkjllhlcjaaDoor
