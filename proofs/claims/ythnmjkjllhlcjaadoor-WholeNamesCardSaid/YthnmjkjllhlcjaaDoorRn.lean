/- Plain mathematics: rounded floats, infinities among them, and their order; no condition. -/
import Derived.Test.YthnmjkjllhlcjaaDoorNear2
namespace Go.Tri
open Go

/-- Not a NaN. -/
def Num64 (x : Nat) : Prop := x < 18446744073709551616 ∧ x % 9223372036854775808 ≤ 9218868437227405312
/-- The rung with its sign. -/
def sr (x : Nat) : Int := if neb x then -((x % 9223372036854775808 : Nat) : Int) else ((x % 9223372036854775808 : Nat) : Int)
theorem word_eq (neg : Bool) (r : Nat) : Ieee.double.word neg r = if neg then 9223372036854775808 + r else r := by
  unfold Ieee.Format.word
  rw [show Ieee.double.signWeight = 9223372036854775808 by decide]
theorem neb_word {neg : Bool} {r : Nat} (h : r < 9223372036854775808) : neb (Ieee.double.word neg r) = neg := by
  rw [word_eq]; unfold neb
  cases neg
  · simp; omega
  · simp; omega
theorem mod_word {neg : Bool} {r : Nat} (h : r < 9223372036854775808) : Ieee.double.word neg r % 9223372036854775808 = r := by
  rw [word_eq]
  cases neg
  · simp; omega
  · simp; omega
theorem num_word {neg : Bool} {r : Nat} (h : r ≤ 9218868437227405312) : Num64 (Ieee.double.word neg r) := by
  refine ⟨?_, by rw [mod_word (by omega)]; exact h⟩
  rw [word_eq]; cases neg <;> simp <;> omega
theorem sr_word {neg : Bool} {r : Nat} (h : r ≤ 9218868437227405312) : sr (Ieee.double.word neg r) = if neg then -(r : Int) else r := by
  unfold sr
  rw [neb_word (by omega), mod_word (by omega)]
theorem word_self {x : Nat} (h : x < 18446744073709551616) : Ieee.double.word (neb x) (x % 9223372036854775808) = x := by
  rw [word_eq]; unfold neb
  by_cases h1 : x / 9223372036854775808 % 2 = 1
  · simp [h1]; omega
  · simp [h1]; omega
theorem fin_iff (x : Nat) : Fin64 x ↔ x % 9223372036854775808 < 9218868437227405312 := by
  unfold Fin64 exf; omega
theorem Fin64.num {x : Nat} (h : Fin64 x) (hx : x < 18446744073709551616) : Num64 x := ⟨hx, by have := (fin_iff x).1 h; omega⟩
theorem mant_rv (x : Nat) : (mant x : Rat) * p2 (expo x) = rv (x % 9223372036854775808) := by
  unfold rv
  by_cases h : x % 9223372036854775808 < 4503599627370496
  · rw [if_pos h]
    have he : exf x = 0 := by unfold exf; omega
    have hf : frf x = x % 9223372036854775808 := by unfold frf; omega
    unfold mant expo
    rw [if_pos he, if_pos he, hf]
  · rw [if_neg h]
    have he : exf x ≠ 0 := by unfold exf; omega
    have hf : frf x = x % 9223372036854775808 % 4503599627370496 := by unfold frf; omega
    have he2 : (exf x : Int) - 1075 = -1074 + ((x % 9223372036854775808 / 4503599627370496 - 1 : Nat) : Int) := by unfold exf at *; omega
    unfold mant expo
    rw [if_neg he, if_neg he, hf, he2]
theorem fl_rv {x : Nat} (h : Fin64 x) : fl x = sgn (neb x) (rv (x % 9223372036854775808)) := by
  unfold fl; rw [if_pos h, mant_rv]
theorem rv_lt_iff {r s : Nat} : rv r < rv s ↔ r < s := ⟨fun h => by
  rcases Nat.lt_or_ge r s with h1 | h1
  · exact h1
  · exact absurd h (Rat.not_lt.2 (rv_le h1)), rv_lt⟩
theorem sgn_nonneg {neg : Bool} {q : Rat} (h : 0 ≤ q) : if neg then sgn neg q ≤ 0 else 0 ≤ sgn neg q := by
  unfold sgn; cases neg <;> simp <;> grind
theorem fl_lt_iff {x y : Nat} (hx : Fin64 x) (hy : Fin64 y) : fl x < fl y ↔ sr x < sr y := by
  rw [fl_rv hx, fl_rv hy]
  unfold sr sgn
  generalize x % 9223372036854775808 = r
  generalize y % 9223372036854775808 = s
  have h0 := rv_nonneg r
  have h0' := rv_nonneg s
  have hz : ∀ t, 0 < t → 0 < rv t := fun t ht => by rw [← rv_zero]; exact rv_lt ht
  cases neb x <;> cases neb y
  · simp only [Bool.false_eq_true, if_false]; rw [rv_lt_iff]; omega
  · simp only [Bool.false_eq_true, if_false, if_true]
    constructor
    · intro h; grind
    · intro h; omega
  · simp only [Bool.false_eq_true, if_false, if_true]
    constructor
    · intro h
      by_cases h1 : r = 0
      · by_cases h2 : s = 0
        · subst h1 h2; rw [rv_zero] at h; grind
        · omega
      · omega
    · intro h
      by_cases h1 : 0 < r
      · have := hz r h1; grind
      · have := hz s (by omega); grind
  · simp only [if_true]
    have : -rv r < -rv s ↔ rv s < rv r := by constructor <;> intro h <;> grind
    rw [this, rv_lt_iff]; omega
theorem order_fin_sr {x y : Nat} (hx : Fin64 x) (hy : Fin64 y) : Ieee.double.order x y = some (compare (sr x) (sr y)) := by
  rcases Int.lt_trichotomy (sr x) (sr y) with h | h | h
  · rw [(order_lt hx hy).2 ((fl_lt_iff hx hy).2 h), (Int.compare_eq_lt).2 h]
  · have h1 : fl x = fl y := by
      rcases Rat.le_total (a := fl x) (b := fl y) with h2 | h2
      · exact Rat.le_antisymm h2 (Rat.not_lt.1 fun h3 => by have := (fl_lt_iff hx hy).1 h3; omega)
      · exact Rat.le_antisymm (Rat.not_lt.1 fun h3 => by have := (fl_lt_iff hy hx).1 h3; omega) h2
    rw [(order_eq hx hy).2 h1, (Int.compare_eq_eq).2 h]
  · rw [(order_gt hx hy).2 ((fl_lt_iff hy hx).2 h), (Int.compare_eq_gt).2 h]
theorem inf_of {x : Nat} (h : Num64 x) (hf : ¬ Fin64 x) : x % 9223372036854775808 = 9218868437227405312 ∧ Ieee.double.read x = .infinity (neb x) := by
  have h1 : x % 9223372036854775808 = 9218868437227405312 := by
    have := h.2; rw [fin_iff] at hf; omega
  exact ⟨h1, read_inf hf (by unfold frf; omega)⟩
theorem order_sr {x y : Nat} (hx : Num64 x) (hy : Num64 y) : Ieee.double.order x y = some (compare (sr x) (sr y)) := by
  by_cases fx : Fin64 x
  · by_cases fy : Fin64 y
    · exact order_fin_sr fx fy
    · obtain ⟨h1, h2⟩ := inf_of hy fy
      have h3 := (fin_iff x).1 fx
      unfold Ieee.Format.order
      rw [read_fin fx, h2]
      unfold sr
      rw [h1]
      cases neb y <;> cases neb x <;> simp only [Ieee.Datum.order, Bool.false_eq_true, if_false, if_true, Option.some.injEq]
      · exact (Int.compare_eq_lt.2 (by omega)).symm
      · exact (Int.compare_eq_lt.2 (by omega)).symm
      · exact (Int.compare_eq_gt.2 (by omega)).symm
      · exact (Int.compare_eq_gt.2 (by omega)).symm
  · obtain ⟨h1, h2⟩ := inf_of hx fx
    by_cases fy : Fin64 y
    · have h3 := (fin_iff y).1 fy
      unfold Ieee.Format.order
      rw [read_fin fy, h2]
      unfold sr
      rw [h1]
      cases neb y <;> cases neb x <;> simp only [Ieee.Datum.order, Bool.false_eq_true, if_false, if_true, Option.some.injEq]
      · exact (Int.compare_eq_gt.2 (by omega)).symm
      · exact (Int.compare_eq_lt.2 (by omega)).symm
      · exact (Int.compare_eq_gt.2 (by omega)).symm
      · exact (Int.compare_eq_lt.2 (by omega)).symm
    · obtain ⟨h3, h4⟩ := inf_of hy fy
      unfold Ieee.Format.order
      rw [h2, h4]
      unfold sr
      rw [h1, h3]
      cases neb y <;> cases neb x <;> rfl

/-- x is the float nearest to q; of which sign a nought is, is not told. -/
def Rn (q : Rat) (x : Nat) : Prop := Num64 x ∧ ∃ neg r, 0 ≤ sgn neg q ∧ IsRn (sgn neg q) r ∧ sr x = if neg then -((min r 9218868437227405312 : Nat) : Int) else ((min r 9218868437227405312 : Nat) : Int)
theorem IsRn.zero {r : Nat} (h : IsRn 0 r) : r = 0 := h.unique (by have := isRn_rv 0; rwa [rv_zero] at this)
theorem Rn.le {p q : Rat} {x y : Nat} (hx : Rn p x) (hy : Rn q y) (h : p ≤ q) : sr x ≤ sr y := by
  obtain ⟨-, n1, r, p0, pr, e1⟩ := hx
  obtain ⟨-, n2, s, q0, qs, e2⟩ := hy
  rw [e1, e2]
  unfold sgn at *
  cases n1 <;> cases n2 <;> simp only [Bool.false_eq_true, if_false, if_true] at *
  · have := qs.not_lt pr
    have h2 := pr.not_lt qs h
    omega
  · have hp : p = 0 := by grind
    have hq : -q = 0 := by grind
    rw [hp] at pr
    rw [hq] at qs
    rw [pr.zero, qs.zero]; simp
  · omega
  · have h2 := qs.not_lt pr (by grind)
    omega
theorem Rn.same {q : Rat} {x y : Nat} (hx : Rn q x) (hy : Rn q y) : sr x = sr y := by
  have h1 := hx.le hy Rat.le_refl
  have h2 := hy.le hx Rat.le_refl
  omega
theorem Rn.eq {q : Rat} {x y : Nat} (hx : Rn q x) (hy : Rn q y) : Ieee.double.order x y = some .eq := by
  rw [order_sr hx.1 hy.1, Int.compare_eq_eq.2 (hx.same hy)]
theorem sgn_sgn (neg : Bool) (q : Rat) : sgn neg (sgn neg q) = q := by unfold sgn; cases neg <;> simp
theorem rn_fl {x : Nat} (h : Fin64 x) (hx : x < 18446744073709551616) : Rn (fl x) x := by
  refine ⟨h.num hx, neb x, x % 9223372036854775808, ?_, ?_, ?_⟩
  · rw [fl_rv h, sgn_sgn]; exact rv_nonneg _
  · rw [fl_rv h, sgn_sgn]; exact isRn_rv _
  · have := (fin_iff x).1 h
    rw [Nat.min_eq_left (by omega)]; rfl
theorem rn_of {q : Rat} {neg : Bool} {r : Nat} (h0 : 0 ≤ sgn neg q) (h : IsRn (sgn neg q) r) : Rn q (Ieee.double.word neg (min r 9218868437227405312)) :=
  ⟨num_word (Nat.min_le_right _ _), neg, r, h0, h, sr_word (Nat.min_le_right _ _)⟩
theorem rn_nearest (neg : Bool) (mag : Nat) (place : Int) : Rn (sgn neg ((mag : Rat) * p2 place)) (Ieee.double.nearest neg mag place) := by
  by_cases h0 : mag = 0
  · subst h0
    have e : Ieee.double.nearest neg 0 place = Ieee.double.word neg (min 0 9218868437227405312) := by
      unfold Ieee.Format.nearest; rw [if_pos rfl]; rfl
    rw [e]
    refine rn_of ?_ ?_
    · rw [sgn_sgn]; simp
    · rw [sgn_sgn]
      have := isRn_rv 0
      rw [rv_zero] at this
      simpa using this
  · obtain ⟨r, e, h⟩ := nearest_rn neg place h0
    rw [e]
    refine rn_of ?_ ?_
    · rw [sgn_sgn]; exact Rat.mul_nonneg Rat.natCast_nonneg (Rat.le_of_lt (p2_pos _))
    · rw [sgn_sgn]; exact h
end Go.Tri
