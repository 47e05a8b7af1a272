/- More small facts that the laws on whole numbers use; no condition. -/
import Derived.Test.YthnmjkjllhlcjaaDoorRingW
namespace Go.Proofs.YthnmjkjllhlcjaaDoor
open Go Go.RowKit Go.Steady Go.Tri

/-- A number stored over another one in a block of the call's own. -/
theorem store_num {w0 w : World} {B : Nat} {a0 : Option Addr} {n0 c0 : Nat} {e0 : Int} {p0 r0 : Bool} {t : TypeId} (hx : Ext w0 w) (hb : Box w B #[.slice a0 n0 c0, .int .i64 e0, .bool p0, .bool r0] t) (hge : w0.heap.size ≤ B) (a : Option Addr) (n c : Nat) (e : Int) (p r : Bool) :
    ∃ W, (((w.setCell ⟨B, 0, none⟩ (.slice a n c)).setCell ⟨B, 1, none⟩ (.int .i64 e)).setCell ⟨B, 2, none⟩ (.bool p)).setCell ⟨B, 3, none⟩ (.bool r) = W ∧ Ext w0 W ∧ Box W B #[.slice a n c, .int .i64 e, .bool p, .bool r] t ∧
      (∀ v q, IsNum w v q → IsNum W v q) ∧ (∀ b cs t', b ≠ B → Box w b cs t' → Box W b cs t') := by
  refine ⟨_, rfl, ?_, ?_, fun v q h => h.store hb a n c e p r, fun b cs t' hne h => ?_⟩
  · exact (((hx.setCell hge _).setCell hge _).setCell hge _).setCell hge _
  · have b := (((hb.set 0 (.slice a n c)).set 1 (.int .i64 e)).set 2 (.bool p)).set 3 (.bool r)
    simpa using b
  · exact (((h.far (p := ⟨B, 0, none⟩) hne _).far (p := ⟨B, 1, none⟩) hne _).far (p := ⟨B, 2, none⟩) hne _).far (p := ⟨B, 3, none⟩) hne _
theorem hi_bounds {q : Rat} {n : Int} (h : IsHi q (hiQ q)) (h0 : q ≠ 0) (hs : Sz n q) : -n - 1 < hiQ q ∧ hiQ q < n := by
  rcases h with ⟨h, -⟩ | ⟨h1, h2⟩
  · exact absurd h h0
  · obtain ⟨⟨b1, b2⟩, hg⟩ := hs
    have h3 : ab q < p2 n := ab_lt.2 ⟨b1, b2⟩
    have h4 := gr_abs h0 hg
    have h5 : p2 (-n) ≤ ab q := by
      have := ab_ge q
      rcases h4 with h | h <;> grind
    have h6 : hiQ q < n := p2_lt_iff.1 (by grind)
    have h7 : -n < hiQ q + 1 := p2_lt_iff.1 (by grind)
    exact ⟨by omega, h6⟩
end Go.Proofs.YthnmjkjllhlcjaaDoor
