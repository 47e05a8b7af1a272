/- Small facts that the laws on whole numbers use; no condition. -/
import Derived.Test.YthnmjkjllhlcjaaDoorHighW
namespace Go.Proofs.YthnmjkjllhlcjaaDoor
open Go Go.RowKit Go.Steady Go.Tri

theorem sg_eq0 {q : Rat} (h : q = 0) : sg q = 0 := by rw [h]; exact sg_zero
theorem int_sz {n : Int} (h : -9223372036854775808 ≤ n) (h' : n ≤ 9223372036854775807) : Sz 64 ((n : Int) : Rat) := by
  have hb : Bd 64 (n : Rat) := by
    have h64 : p2 64 = ((18446744073709551616 : Int) : Rat) := by
      rw [show (64 : Int) = ((64 : Nat) : Int) from rfl, p2_nat]; rfl
    refine ⟨?_, ?_⟩
    · rw [h64]; exact Rat.intCast_lt_intCast.2 (by omega)
    · rw [h64, ← Rat.intCast_neg]; exact Rat.intCast_lt_intCast.2 (by omega)
  have hg : Gr 0 (n : Rat) := by
    show Intg _
    rw [p2_zero, Rat.mul_one]; exact Intg.int n
  exact ⟨hb, hg.mono (by omega)⟩
theorem ofF_fin {x : Nat} (h : Fin64 x) : ofF x = some (fl x) := by unfold ofF; rw [if_pos h]
theorem ofF_not {x : Nat} (h : ¬ Fin64 x) : ofF x = none := by unfold ofF; rw [if_neg h]
/-- What a float written out is. -/
theorem fl_lit {x m k : Nat} {e : Int} {neg : Bool} (h : Fin64 x) (h1 : mant x = m * 2 ^ k) (h2 : expo x + k = e) (h3 : neb x = neg) : fl x = sgn neg ((m : Rat) * p2 e) := by
  unfold fl
  rw [if_pos h, h3, h1, ← h2, Int.add_comm, p2_add, p2_nat, Rat.natCast_mul, Rat.mul_assoc]
theorem rn_same {q : Rat} {x z : Nat} (h : Rn q z) (hx : Rn q x) (h0 : 0 < x % 9223372036854775808) : z = x := by
  have e := h.same hx
  have hz1 := h.1.1
  have hx1 := hx.1.1
  unfold sr neb at e
  have e1 : x / 9223372036854775808 < 2 := by omega
  have e2 : z / 9223372036854775808 < 2 := by omega
  rcases Nat.lt_or_ge (x / 9223372036854775808) 1 with h1 | h1 <;> rcases Nat.lt_or_ge (z / 9223372036854775808) 1 with h2 | h2
  · simp only [show x / 9223372036854775808 = 0 by omega, show z / 9223372036854775808 = 0 by omega] at e
    simp at e; omega
  · simp only [show x / 9223372036854775808 = 0 by omega, show z / 9223372036854775808 = 1 by omega] at e
    simp at e; omega
  · simp only [show x / 9223372036854775808 = 1 by omega, show z / 9223372036854775808 = 0 by omega] at e
    simp at e; omega
  · simp only [show x / 9223372036854775808 = 1 by omega, show z / 9223372036854775808 = 1 by omega] at e
    simp at e; omega
theorem rn_lit {q : Rat} {x : Nat} (hf : Fin64 x) (hx : x < 18446744073709551616) (h : fl x = q) : Rn q x := by subst h; exact rn_fl hf hx
/-- Nearest to a positive number: by the rungs around. -/
theorem rn_between {q : Rat} {x : Nat} (hx : x < 9218868437227405312) (h0 : 0 ≤ q) (h : IsRn q x) : Rn q x := by
  have := rn_of (neg := false) (q := q) h0 h
  rw [word_eq, Nat.min_eq_left (by omega)] at this
  exact this
/-- A number that is stored in a block. -/
theorem IsNum.kept {w : World} {v : Value} {q : Option Rat} (h : IsNum w v q) : ∃ a n c e neg non, v = .agg #[.slice a n c, .int .i64 e, .bool neg, .bool non] ∧ IsNum w (.agg #[.slice a n c, .int .i64 e, .bool neg, .bool non]) q := by
  obtain ⟨a, n, c, e, neg, non, rfl, -⟩ := h.shape
  exact ⟨a, n, c, e, neg, non, rfl, h⟩
/-- A number stored in a new block. -/
theorem new_num (w : World) (a : Option Addr) (n c : Nat) (e : Int) (neg non : Bool) (t : TypeId) : ∃ W, ((((w.alloc (.cells #[.slice none 0 0, .int .i64 0, .bool false, .bool false] t)).setCell ⟨w.heap.size, 0, none⟩ (.slice a n c)).setCell ⟨w.heap.size, 1, none⟩ (.int .i64 e)).setCell ⟨w.heap.size, 2, none⟩ (.bool neg)).setCell ⟨w.heap.size, 3, none⟩ (.bool non) = W ∧ Ext w W ∧ Box W w.heap.size #[.slice a n c, .int .i64 e, .bool neg, .bool non] t := by
  refine ⟨_, rfl, ?_, ?_⟩
  · (with_reducible (repeat (first | exact Ext.refl _ | refine Ext.drewN ?_ _ | refine Ext.drew ?_ | refine Ext.alloc ?_ _ | refine Ext.setCell ?_ (by first | (dsimp only; omega) | simp | (simp; omega)) _)))
  · have b := ((((Box.new w #[.slice none 0 0, .int .i64 0, .bool false, .bool false] t).set 0 (.slice a n c)).set 1 (.int .i64 e)).set 2 (.bool neg)).set 3 (.bool non)
    simpa using b
end Go.Proofs.YthnmjkjllhlcjaaDoor
