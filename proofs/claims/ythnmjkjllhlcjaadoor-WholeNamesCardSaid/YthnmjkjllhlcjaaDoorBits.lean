/- The walks of math/bits.TrailingZeros32 and of a magnitude's highest and lowest bit; under bounds on the exponent. -/
import Derived.Test.YthnmjkjllhlcjaaDoorData
import Derived.Test.YthnmjkjllhlcjaaDoorShelf
import Derived.WalkLawsBesides
import Derived.WalkSpells
import Derived.BigQuiet
import Derived.Deep.QuietTactic
import Derived.Shelf.Spec.TrailingZeros
import Derived.Outline
namespace Go.Proofs.YthnmjkjllhlcjaaDoor
open Go Go.RowKit Go.Steady
theorem tz32_core (x a k : Nat) (w : World) (hx : x ≠ 0) (key : bits BinOp.and IntKind.u32 (x : Int) (-(x : Int) % 4294967296) * 125613361 % 4294967296 / 134217728 = (a : Int)) (ha : a < 32)
    (hc : w.cell? ⟨1, a, none⟩ = some (.int .u8 (k : Nat))) (hk : k < 32) :
    Calls Tryd.prog 102 #[.int .u32 x] w fun e w' => e = .returned (.int .i64 (k : Nat)) ∧ w' = w := by
  have h0 : ((x : Int) == 0) = false := by simp; omega
  go_enter Tryd.func102, Tryd.ntmps102
  go_wp2_with (simp only [key])
  go_ret
  exact ⟨rfl, rfl⟩
theorem tz32_any (x : Nat) (w : World) (hx : x ≠ 0) (hlt : x < 4294967296) (hT : Tab w) :
    Calls Tryd.prog 102 #[.int .u32 x] w fun e w' => e = .returned (.int .i64 (Lib.ctz 32 x : Nat)) ∧ w' = w := by
  obtain ⟨hlow, hk⟩ := Lib.lowest_bit 32 x hx hlt
  obtain ⟨hi, htab⟩ := Lib.deBruijn32_at _ hk
  have hcell := hT _ hi
  rw [htab] at hcell
  exact tz32_core x _ _ w hx (tz32_key x _ hlt hx hlow) hi hcell hk

theorem low_zero (a : Option Addr) (c : Nat) (e : Int) (w : World) :
    Calls Tryd.prog 36 #[.agg #[.slice a 0 c, .int .i64 e]] w fun ed w' => ed = .returned (.int .i64 0) ∧ Ext w w' := by
  go_enter Tryd.func36, Tryd.ntmps36
  go_wp2
  go_ret
  exact ⟨rfl, (Ext.refl _).alloc _⟩
theorem high_zero (a : Option Addr) (c : Nat) (e : Int) (w : World) :
    Calls Tryd.prog 35 #[.agg #[.slice a 0 c, .int .i64 e]] w fun ed w' => ed = .returned (.int .i64 0) ∧ Ext w w' := by
  go_enter Tryd.func35, Tryd.ntmps35
  go_wp2
  go_ret
  exact ⟨rfl, (Ext.refl _).alloc _⟩
theorem low_core (b o len c : Nat) (e : Int) (x : Nat) (w : World) (h0 : 0 < len) (hlen : len ≤ 1125899906842624) (he : -1125899906842624 ≤ e) (he' : e ≤ 1125899906842624) (hT : Tab w) (hx : x ≠ 0) (hlt : x < 4294967296)
    (hc : w.cell? ⟨b, o, none⟩ = some (.int .u32 x)) :
    Calls Tryd.prog 36 #[.agg #[.slice (some ⟨b, o, none⟩) len c, .int .i64 e]] w fun ed w' => ed = .returned (.int .i64 (32 * e + (Lib.ctz 32 x : Nat))) ∧ Ext w w' := by
  have hb := World.block_lt_of_cell? w _ hc
  have hc' : (w.alloc (.cells #[.slice (some ⟨b, o, none⟩) len c, .int .i64 e] 27)).cell? ⟨b, o, none⟩ = some (.int .u32 x) := by
    rw [World.cell?_alloc_past _ _ _ hb]; exact hc
  have hT' : Tab (w.alloc (.cells #[.slice (some ⟨b, o, none⟩) len c, .int .i64 e] 27)) := hT.ext ((Ext.refl _).alloc _)
  have hk := (Lib.lowest_bit 32 x hx hlt).2
  have hn0 : ((len : Int) == 0) = false := by simp; omega
  have h0' : (0 : Int) < len := by omega
  go_enter Tryd.func36, Tryd.ntmps36
  go_wp2
  go_quiet ((go_at_call 102; exact Calls.quiet_of_same (tz32_any x _ hx hlt (fun i hi => hT' i hi))))
  go_wp2
  go_ret
  exact ⟨rfl, ((Ext.refl _).alloc _).drewN _⟩
theorem high_core (b o len c : Nat) (e : Int) (x : Nat) (w : World) (h0 : 0 < len) (hlen : len ≤ 1125899906842624) (he : -1125899906842624 ≤ e) (he' : e ≤ 1125899906842624) (hlt : x < 4294967296)
    (hc : w.cell? ⟨b, o + (len - 1), none⟩ = some (.int .u32 x)) :
    Calls Tryd.prog 35 #[.agg #[.slice (some ⟨b, o, none⟩) len c, .int .i64 e]] w fun ed w' => ed = .returned (.int .i64 (32 * (e + len) - 1 - (32 - (Lib.bitLen x : Nat)))) ∧ Ext w w' := by
  have hb := World.block_lt_of_cell? w _ hc
  have hc' : (w.alloc (.cells #[.slice (some ⟨b, o, none⟩) len c, .int .i64 e] 27)).cell? ⟨b, o + (len - 1), none⟩ = some (.int .u32 x) := by
    rw [World.cell?_alloc_past _ _ _ hb]; exact hc
  have hn0 : ((len : Int) == 0) = false := by simp; omega
  have h0' : (0 : Int) < len := by omega
  have hw := IntWalk.i64_in ((len : Int) - 1) (by omega)
  have hn : ((len : Int) - 1).toNat = len - 1 := by omega
  have h1 : (0 : Int) ≤ (len : Int) - 1 := by omega
  have hbl : Lib.bitLen x ≤ 32 := Lib.bitLen_le x 32 (by decide) (by omega)
  go_enter Tryd.func35, Tryd.ntmps35
  go_wp2
  go_quiet ((go_at_call 101; exact Calls.quiet_of_same (Tryd.bits_LeadingZeros32 (x : Int) _ (by omega) (by omega))))
  go_wp2
  go_ret
  exact ⟨rfl, ((Ext.refl _).alloc _).drewN _⟩
end Go.Proofs.YthnmjkjllhlcjaaDoor
