/- The walk of whole.mag.trimmed; under bounds on its length. -/
import Derived.Test.YthnmjkjllhlcjaaDoorBits
import Derived.Lib.Hide
namespace Go.Proofs.YthnmjkjllhlcjaaDoor
open Go Go.RowKit Go.Steady
set_option maxRecDepth 100000

theorem trimmed_zero (a : Option Addr) (c : Nat) (e : Int) (w : World) :
    Calls Tryd.prog 139 #[.agg #[.slice a 0 c, .int .i64 e]] w fun ed w' => ed = .returned (.agg #[.slice none 0 0, .int .i64 0]) ∧ Ext w w' := by
  go_enter Tryd.func139, Tryd.ntmps139
  go_wp2
  go_quiet (fail)
  go_wp2
  refine wp_loop_rounds 1 ?_
  rw [rounds_succ]
  go_wp2
  refine wp_loop_rounds 1 ?_
  rw [rounds_succ]
  go_wp2
  refine bodyPost_ret (v := .agg #[.slice none 0 0, .int .i64 0]) (by simp [results, Tryd.results139, go_sem]) rfl ⟨rfl, ?_⟩
  (with_reducible (repeat (first | exact Ext.refl _ | refine Ext.drewN ?_ _ | refine Ext.drew ?_ | refine Ext.alloc ?_ _ | refine Ext.setCell ?_ (by first | (dsimp only; omega) | simp | (simp; omega)) _)))

/-- What the loops find: between 'f' and 'l' lie the words. -/
structure Found (xs : List Nat) (f l : Nat) : Prop where
  le : f ≤ l
  len : l ≤ xs.length
  below : ∀ j, j < f → xs.getD j 0 = 0
  above : ∀ j, l ≤ j → j < xs.length → xs.getD j 0 = 0

def TrimPost (b o c : Nat) (xs : List Nat) (e : Int) (w : World) (ed : Ending) (w' : World) : Prop :=
  ∃ f l, Found xs f l ∧ Ext w w' ∧
      (f = l ∧ ed = .returned (.agg #[.slice none 0 0, .int .i64 0]) ∨ f < l ∧ xs.getD f 0 ≠ 0 ∧ xs.getD (l - 1) 0 ≠ 0 ∧ ed = .returned (.agg #[.slice (some ⟨b, o + f, none⟩) (l - f) (c - f), .int .i64 (e + f)]))

set_option maxHeartbeats 800000 in
theorem trimmed_core (b o c : Nat) (xs : List Nat) (e : Int) (w : World) (h0 : 0 < xs.length) (hlc : xs.length ≤ c) (hcc : c ≤ 9223372036854775807) (hlen : xs.length ≤ 1125899906842624) (he : -1125899906842624 ≤ e) (he' : e ≤ 1125899906842624)
    (hc : ∀ j, j < xs.length → w.cell? ⟨b, o + j, none⟩ = some (.int .u32 (xs.getD j 0 : Nat))) :
    Calls Tryd.prog 139 #[.agg #[.slice (some ⟨b, o, none⟩) xs.length c, .int .i64 e]] w (TrimPost b o c xs e w) := by
  have hb := World.block_lt_of_cell? w _ (hc 0 h0)
  have HC := Lib.hid hc; clear hc
  generalize hn : xs.length = len at *
  have HN := Lib.hid hn; clear hn
  go_enter Tryd.func139, Tryd.ntmps139
  go_wp2
  go_quiet (fail)
  go_wp2
  have hx : Ext w (((w.alloc (.cells #[.slice (some ⟨b, o, none⟩) len c, .int .i64 e] 27)).alloc (.cells #[.slice none 0 0, .int .i64 0] 27)).drewN nq) := ((((Ext.refl _).alloc _).alloc _).drewN _)
  go_loop [4] (fun l => ∃ k : Nat, k ≤ len ∧ l = .int .i64 k ∧ Hid (∀ j, k ≤ j → j < len → xs.getD j 0 = 0)) (fun l => (intOf l).toNat)
  case atStart => exact ⟨len, Nat.le_refl _, rfl, fun j h1 h2 => absurd h2 (by omega)⟩
  case round =>
    obtain ⟨k, hk, rfl, habove⟩ := hrel
    by_cases hk0 : k = 0
    · subst hk0
      go_wp2
      refine wp_loop_rounds 1 ?_
      rw [rounds_succ]
      go_wp2
      refine bodyPost_ret (v := .agg #[.slice none 0 0, .int .i64 0]) (by simp [results, Tryd.results139, go_sem]) rfl ⟨0, 0, ⟨Nat.le_refl _, Nat.zero_le _, fun j hj => absurd hj (by omega), fun j h1 h2 => habove.out j h1 (by have := HN.out; omega)⟩, ?_, .inl ⟨rfl, rfl⟩⟩
      (with_reducible (repeat (first | exact Ext.refl _ | refine Ext.drewN ?_ _ | refine Ext.drew ?_ | refine Ext.alloc ?_ _ | refine Ext.setCell ?_ (by first | (dsimp only; omega) | simp | (simp; omega)) _)))
    · have hcell := HC.out (k - 1) (by omega)
      have hcell' := hx.cell hcell
      clear hcell
      have hk1 : 0 < (k : Int) := by omega
      by_cases hz : xs.getD (k - 1) 0 = 0
      · rw [hz] at hcell'
        have HZ := Lib.hid hz; clear hz
        go_wp2
        go_round
        case rel => exact ⟨k - 1, by omega, by congr 1; omega, fun j h1 h2 => by
          by_cases hj : j = k - 1
          · rw [hj]; exact HZ.out
          · exact habove.out j (by omega) h2⟩
        case measure => simp [intOf]; omega
      · have hzb : (((xs.getD (k - 1) 0 : Nat) : Int) == 0) = false := by simpa using hz
        have HZ := Lib.hid hz; clear hz
        generalize hv : xs.getD (k - 1) 0 = v at hcell' hzb
        have HV := Lib.hid hv; clear hv
        go_wp2
        clear hcell' hzb
        go_loop [3] (fun l => ∃ f : Nat, f < k ∧ l = .int .i64 f ∧ Hid (∀ j, j < f → xs.getD j 0 = 0)) (fun l => k - (intOf l).toNat)
        case atStart => exact ⟨0, by omega, rfl, fun j h => absurd h (by omega)⟩
        case round =>
          obtain ⟨f, hf, rfl, hbelow⟩ := hrel
          have hcell := hx.cell (HC.out f (by omega))
          by_cases hz : xs.getD f 0 = 0
          · have hfk : f + 1 < k := by
              by_cases h : f + 1 = k
              · exact absurd (by rw [show k - 1 = f from by omega]; exact hz) HZ.out
              · omega
            rw [hz] at hcell
            have HZ' := Lib.hid hz; clear hz
            go_wp2
            go_round
            case rel => exact ⟨f + 1, by omega, by go_num, fun j h => by
              by_cases hj : j = f
              · rw [hj]; exact HZ'.out
              · exact hbelow.out j (by omega)⟩
            case measure => simp [intOf]; omega
          · have hzb : (((xs.getD f 0 : Nat) : Int) == 0) = false := by simpa using hz
            have HZ' := Lib.hid hz; clear hz
            generalize hv : xs.getD f 0 = v at hcell hzb
            have HV := Lib.hid hv; clear hv
            have hne : ((f : Int) == (k : Int)) = false := by simp; omega
            go_wp2
            have hfi : (f : Int) ≤ k := by omega
            have hki : (k : Int) ≤ c := by omega
            go_region
            go_wp2
            refine bodyPost_ret (v := .agg #[.slice (some ⟨b, o + f, none⟩) (k - f) (c - f), .int .i64 (e + f)]) (by simp [results, Tryd.results139, go_sem]) rfl ⟨f, k, ⟨by omega, by have := HN.out; omega, hbelow.out, fun j h1 h2 => habove.out j h1 (by have := HN.out; omega)⟩, ?_, .inr ⟨hf, HZ'.out, HZ.out, rfl⟩⟩
            (with_reducible (repeat (first | exact Ext.refl _ | refine Ext.drewN ?_ _ | refine Ext.drew ?_ | refine Ext.alloc ?_ _ | refine Ext.setCell ?_ (by first | (dsimp only; omega) | simp | (simp; omega)) _)))
end Go.Proofs.YthnmjkjllhlcjaaDoor
