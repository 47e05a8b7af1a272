/- The highest and the lowest bit of a number; no condition. -/
import Derived.Test.YthnmjkjllhlcjaaDoorFloatW
import Derived.Test.YthnmjkjllhlcjaaDoorRingP
import Derived.Test.YthnmjkjllhlcjaaDoorRep
namespace Go.Proofs.YthnmjkjllhlcjaaDoor
open Go Go.RowKit Go.Steady Go.Tri
set_option maxRecDepth 100000

def IsHi (q : Rat) (h : Int) : Prop := (q = 0 ∧ h = 0) ∨ (p2 h ≤ ab q ∧ ab q < p2 (h + 1))
def IsLo (q : Rat) (l : Int) : Prop := (q = 0 ∧ l = 0) ∨ ∃ m : Nat, ab q = ((2 * m + 1 : Nat) : Rat) * p2 l
theorem IsHi.unique {q : Rat} {h k : Int} (x : IsHi q h) (y : IsHi q k) : h = k := by
  rcases x with ⟨rfl, rfl⟩ | ⟨x1, x2⟩
  · rcases y with ⟨-, rfl⟩ | ⟨y1, -⟩
    · rfl
    · rw [ab_zero] at y1; have := p2_pos k; grind
  · rcases y with ⟨rfl, rfl⟩ | ⟨y1, y2⟩
    · rw [ab_zero] at x1; have := p2_pos h; grind
    · have h1 : h < k + 1 := p2_lt_iff.1 (by grind)
      have h2 : k < h + 1 := p2_lt_iff.1 (by grind)
      omega
theorem odd_pos (m : Nat) (l : Int) : 0 < ((2 * m + 1 : Nat) : Rat) * p2 l := Rat.mul_pos (Rat.natCast_pos.2 (by omega)) (p2_pos l)
theorem IsLo.unique {q : Rat} {h k : Int} (x : IsLo q h) (y : IsLo q k) : h = k := by
  have gr : ∀ (m : Nat) (l : Int), Gr (-l) (((2 * m + 1 : Nat) : Rat) * p2 l) := fun m l => gr_of_le (by omega)
  rcases x with ⟨rfl, rfl⟩ | ⟨m, x⟩
  · rcases y with ⟨-, rfl⟩ | ⟨m', y⟩
    · rfl
    · rw [ab_zero] at y; have := odd_pos m' k; grind
  · rcases y with ⟨rfl, rfl⟩ | ⟨m', y⟩
    · rw [ab_zero] at x; have := odd_pos m h; grind
    · have h1 := odd_not_gr (by have := gr m' k; rwa [← y, x] at this)
      have h2 := odd_not_gr (by have := gr m h; rwa [← x, y] at this)
      omega
open Classical in
noncomputable def hiQ (q : Rat) : Int := if h : ∃ k, IsHi q k then Classical.choose h else 0
open Classical in
noncomputable def loQ (q : Rat) : Int := if h : ∃ k, IsLo q k then Classical.choose h else 0
theorem hiQ_eq {q : Rat} {k : Int} (h : IsHi q k) : hiQ q = k := by
  unfold hiQ
  have hh : ∃ k, IsHi q k := ⟨k, h⟩
  rw [dif_pos hh]
  exact (Classical.choose_spec hh).unique h
theorem loQ_eq {q : Rat} {k : Int} (h : IsLo q k) : loQ q = k := by
  unfold loQ
  have hh : ∃ k, IsLo q k := ⟨k, h⟩
  rw [dif_pos hh]
  exact (Classical.choose_spec hh).unique h
theorem hiQ_zero : hiQ 0 = 0 := hiQ_eq (.inl ⟨rfl, rfl⟩)
theorem loQ_zero : loQ 0 = 0 := loQ_eq (.inl ⟨rfl, rfl⟩)
theorem ab_sgn {neg : Bool} {q : Rat} (h : 0 ≤ q) : ab (sgn neg q) = q := by
  unfold sgn; cases neg
  · exact ab_of_nonneg h
  · simp only [if_true]; rw [ab_neg, ab_of_nonneg h]
/-- The parts of a number that is one. -/
theorem IsNum.words {w : World} {a : Option Addr} {n c : Nat} {e : Int} {neg non : Bool} {q : Option Rat} (h : IsNum w (.agg #[.slice a n c, .int .i64 e, .bool neg, .bool non]) q) :
    (n = 0 ∧ q.getD 0 = 0) ∨ ∃ (b o : Nat) (xs : List Nat), a = some ⟨b, o, none⟩ ∧ 0 < n ∧ n = xs.length ∧ AllLt 4294967296 xs ∧ xs.getD 0 0 ≠ 0 ∧ xs.getD (xs.length - 1) 0 ≠ 0 ∧ hiBit xs e ≤ 65536 ∧ -65536 ≤ loBit xs e ∧ MagBd xs e ∧ q = some (sgn neg (magVal xs e)) ∧ ∀ j, j < xs.length → w.cell? ⟨b, o + j, none⟩ = some (.int .u32 (xs.getD j 0 : Nat)) := by
  cases q with
  | none =>
    left
    have h' : (Value.agg #[.slice a n c, .int .i64 e, .bool neg, .bool non]) = _ := h
    simp only [Value.agg.injEq, Array.mk.injEq, List.cons.injEq, Value.slice.injEq] at h'
    exact ⟨h'.1.2.1, rfl⟩
  | some q =>
    obtain ⟨xs, e', neg', s, hv, hc, hlt, hok, hq⟩ := h
    simp only [Value.agg.injEq, Array.mk.injEq, List.cons.injEq, Value.int.injEq, Value.bool.injEq] at hv
    obtain ⟨rfl, ⟨-, rfl⟩, rfl, -, -⟩ := hv
    have hb := hok.bd hlt
    rcases hok with ⟨rfl, rfl, rfl⟩ | ⟨h0, hf, hl, h1, h2⟩
    · left
      obtain ⟨a', c', hs, -⟩ := hc
      simp only [Value.slice.injEq] at hs
      refine ⟨by simpa using hs.2.1, ?_⟩
      rw [hq, magVal_nil, sgn_zero]; rfl
    · right
      obtain ⟨b, o, c', hs, -, -, hcell⟩ := hc.open_u32 h0
      simp only [Value.slice.injEq] at hs
      obtain ⟨rfl, hn, -⟩ := hs
      exact ⟨b, o, xs, rfl, by omega, hn, hlt, hf, hl, h1, h2, hb, by rw [hq], hcell⟩
/-- mag.High of a number. -/
theorem high_num {a : Option Addr} {n c : Nat} {e : Int} {neg non : Bool} {q : Option Rat} (w : World) (h : IsNum w (.agg #[.slice a n c, .int .i64 e, .bool neg, .bool non]) q) :
    Calls Tryd.prog 35 #[.agg #[.slice a n c, .int .i64 e]] w fun ed w' => ed = .returned (.int .i64 (hiQ (q.getD 0))) ∧ Ext w w' := by
  rcases h.words with ⟨rfl, hq⟩ | ⟨b, o, xs, rfl, h0, rfl, hlt, hf, hl, h1, h2, ⟨b1, b2, b3⟩, rfl, hc⟩
  · rw [hq, hiQ_zero]; exact high_zero a c e w
  · have hh : hiQ ((some (sgn neg (magVal xs e))).getD 0) = hiBit xs e := by
      refine hiQ_eq (.inr ?_)
      have := high_bounds (e := e) hlt h0 hl
      simp only [Option.getD_some]
      rw [ab_sgn (magVal_nonneg _ _)]; exact this
    rw [hh]
    exact high_core b o xs.length c e _ w h0 (by omega) (by omega) (by omega) (hlt.getD (by omega) _) (hc _ (by omega))
/-- mag.Low of a number. -/
theorem low_num {a : Option Addr} {n c : Nat} {e : Int} {neg non : Bool} {q : Option Rat} (w : World) (hT : Tab w) (h : IsNum w (.agg #[.slice a n c, .int .i64 e, .bool neg, .bool non]) q) :
    Calls Tryd.prog 36 #[.agg #[.slice a n c, .int .i64 e]] w fun ed w' => ed = .returned (.int .i64 (loQ (q.getD 0))) ∧ Ext w w' := by
  rcases h.words with ⟨rfl, hq⟩ | ⟨b, o, xs, rfl, h0, rfl, hlt, hf, hl, h1, h2, ⟨b1, b2, b3⟩, rfl, hc⟩
  · rw [hq, loQ_zero]; exact low_zero a c e w
  · have hh : loQ ((some (sgn neg (magVal xs e))).getD 0) = loBit xs e := by
      refine loQ_eq (.inr ?_)
      obtain ⟨m, hm⟩ := low_odd (e := e) hlt hf
      refine ⟨m, ?_⟩
      simp only [Option.getD_some]
      rw [ab_sgn (magVal_nonneg _ _)]; exact hm
    rw [hh]
    have hc0 := hc 0 h0
    exact low_core b o xs.length c e _ w h0 (by omega) (by omega) (by omega) hT hf (hlt.getD (by omega) _) hc0
theorem IsNum.hi {w : World} {v : Value} {q : Rat} (h : IsNum w v (some q)) : IsHi q (hiQ q) ∧ hiQ q ≤ 65536 := by
  obtain ⟨a, n, c, e, neg, non, rfl, -⟩ := h.shape
  rcases h.words with ⟨-, hq⟩ | ⟨b, o, xs, rfl, h0, rfl, hlt, hf, hl, h1, h2, -, hq, hc⟩
  · simp only [Option.getD_some] at hq
    rw [hq, hiQ_zero]; exact ⟨.inl ⟨rfl, rfl⟩, by omega⟩
  · have hh : IsHi q (hiBit xs e) := by
      right
      have := high_bounds (e := e) hlt h0 hl
      rw [Option.some.inj hq, ab_sgn (magVal_nonneg _ _)]; exact this
    rw [hiQ_eq hh]; exact ⟨hh, h1⟩
theorem IsNum.lo {w : World} {v : Value} {q : Rat} (h : IsNum w v (some q)) : IsLo q (loQ q) ∧ -65536 ≤ loQ q := by
  obtain ⟨a, n, c, e, neg, non, rfl, -⟩ := h.shape
  rcases h.words with ⟨-, hq⟩ | ⟨b, o, xs, rfl, h0, rfl, hlt, hf, hl, h1, h2, -, hq, hc⟩
  · simp only [Option.getD_some] at hq
    rw [hq, loQ_zero]; exact ⟨.inl ⟨rfl, rfl⟩, by omega⟩
  · have hh : IsLo q (loBit xs e) := by
      right
      obtain ⟨m, hm⟩ := low_odd (e := e) hlt hf
      exact ⟨m, by rw [Option.some.inj hq, ab_sgn (magVal_nonneg _ _)]; exact hm⟩
    rw [loQ_eq hh]; exact ⟨hh, h2⟩
theorem IsLo.le_hi {q : Rat} {l h : Int} (x : IsLo q l) (y : IsHi q h) (h0 : q ≠ 0) : l ≤ h := by
  rcases x with ⟨rfl, -⟩ | ⟨m, x⟩
  · exact absurd rfl h0
  · rcases y with ⟨rfl, -⟩ | ⟨-, y⟩
    · exact absurd rfl h0
    · rw [x] at y
      have h1 : (1 : Rat) ≤ ((2 * m + 1 : Nat) : Rat) := by exact_mod_cast (show 1 ≤ 2 * m + 1 by omega)
      have h2 := Rat.mul_le_mul_of_nonneg_right h1 (Rat.le_of_lt (p2_pos l))
      have : l < h + 1 := p2_lt_iff.1 (by grind)
      omega
/-- The float of a number that is one is just that. -/
theorem rn_const {q : Rat} {x z : Nat} (h : Rn q z) (hx : x < 18446744073709551616) (hf : Fin64 x) (hq : fl x = q) (h0 : 0 < x % 9223372036854775808) : z = x := by
  subst hq
  have e := h.same (rn_fl hf hx)
  obtain ⟨hz, -⟩ := h
  have hz1 := hz.1
  unfold sr neb at e
  have e1 : x / 9223372036854775808 < 2 := by omega
  have e2 : z / 9223372036854775808 < 2 := by omega
  rcases Nat.lt_or_ge (x / 9223372036854775808) 1 with h1 | h1 <;> rcases Nat.lt_or_ge (z / 9223372036854775808) 1 with h2 | h2
  · simp only [show x / 9223372036854775808 = 0 by omega, show z / 9223372036854775808 = 0 by omega] at e
    simp at e; omega
  · simp only [show x / 9223372036854775808 = 0 by omega, show z / 9223372036854775808 = 1 by omega] at e
    simp at e; omega
  · simp only [show x / 9223372036854775808 = 1 by omega, show z / 9223372036854775808 = 0 by omega] at e
    simp at e; omega
  · simp only [show x / 9223372036854775808 = 1 by omega, show z / 9223372036854775808 = 1 by omega] at e
    simp at e; omega
theorem order_self {x : Nat} (hx : Num64 x) : (FloatKind.f64.format.order x x == some .eq) = true := by
  have : FloatKind.f64.format.order x x = some .eq := by
    show Ieee.double.order x x = _
    rw [order_sr hx hx, Int.compare_eq_eq.2 rfl]
  rw [this]; rfl
end Go.Proofs.YthnmjkjllhlcjaaDoor
