/- The walk of whole.mag.top; under bounds on length and exponent. -/
import Derived.Test.YthnmjkjllhlcjaaDoorShiftW
import Derived.Test.YthnmjkjllhlcjaaDoorTopP
namespace Go.Proofs.YthnmjkjllhlcjaaDoor
open Go Go.RowKit Go.Steady Go.Tri
set_option maxRecDepth 100000

def TopAt (xs : List Nat) (d : Int) (k U : Nat) (M : Bool) : Prop := U = hiOf (ofWords (xs.take k)) d ∧ M = lostOf (ofWords (xs.take k)) d
/-- A word that is shifted up has room. -/
theorem word_room {xs : List Nat} {e low : Int} {k s : Nat} (hlt : AllLt 4294967296 xs) (h0 : 0 < xs.length) (hl : xs.getD (xs.length - 1) 0 ≠ 0) (hlow : hiBit xs e = low + 63) (hk : k < xs.length) (hs : 32 * (e + (k : Int)) - low = s) : xs.getD k 0 * 2 ^ s < 18446744073709551616 ∧ s < 64 := by
  have hx := hlt.getD (by omega) k
  obtain ⟨b1, b2, b3⟩ := bitLen_bounds hl (hlt.getD (by omega) _)
  have hbl := Lib.bitLen_le _ 32 (by decide) (hlt.getD (B := 4294967296) (by omega) (xs.length - 1))
  unfold hiBit at hlow
  by_cases hkl : k = xs.length - 1
  · subst hkl
    generalize Lib.bitLen (xs.getD (xs.length - 1) 0) = n at *
    generalize xs.getD (xs.length - 1) 0 = x at *
    have hsn : s + n = 64 := by omega
    refine ⟨?_, by omega⟩
    have : x * 2 ^ s < 2 ^ n * 2 ^ s := Nat.mul_lt_mul_of_pos_right b3 (Nat.two_pow_pos _)
    rw [← Nat.pow_add, show n + s = 64 by omega] at this
    exact this
  · refine ⟨?_, by omega⟩
    have h1 : xs.getD k 0 * 2 ^ s < 2 ^ 32 * 2 ^ s := Nat.mul_lt_mul_of_pos_right (by simpa using hx) (Nat.two_pow_pos _)
    rw [← Nat.pow_add] at h1
    have h2 : 2 ^ (32 + s) ≤ 2 ^ 64 := Nat.pow_le_pow_right (by omega) (by omega)
    have : (2 : Nat) ^ 64 = 18446744073709551616 := by decide
    omega
theorem or_u64_add {a b s : Nat} (ha : a < 2 ^ s) (ha' : a < 18446744073709551616) (hb : b * 2 ^ s < 18446744073709551616) : bits BinOp.or IntKind.u64 (a : Int) (((b * 2 ^ s : Nat) : Int)) = ((a + 2 ^ s * b : Nat) : Int) := by
  rw [bits_or_u64_nat _ _ ha' hb, Nat.or_comm, Nat.mul_comm b, ← Nat.two_pow_add_eq_or_of_lt ha, Nat.add_comm]
theorem or_u64_lt {a b s : Nat} (ha : a < 2 ^ s) : a ||| b * 2 ^ s = a + 2 ^ s * b := by
  rw [Nat.or_comm, Nat.mul_comm b, ← Nat.two_pow_add_eq_or_of_lt ha, Nat.add_comm]
theorem or_u64_zero {b : Nat} (hb : b < 18446744073709551616) : bits BinOp.or IntKind.u64 0 (b : Int) = (b : Int) := by
  have := bits_or_u64_nat 0 b (by omega) hb
  simpa using this

section
variable {xs : List Nat} {d : Int} {k U x s : Nat} {M : Bool}
theorem take_lt (hlt : AllLt 4294967296 xs) (hk : k < xs.length) : ofWords (xs.take k) < 2 ^ (32 * k) := by
  have := ofWords_lt (xs := xs.take k) fun x hx => hlt x (List.mem_of_mem_take hx)
  rwa [List.length_take, Nat.min_eq_left (by omega)] at this
theorem top_above (h : TopAt xs d k U M) (hlt : AllLt 4294967296 xs) (hk : k < xs.length) (hx : xs.getD k 0 = x) (hU : U < 18446744073709551616) (hr : x * 2 ^ s < 18446744073709551616) (hs : 32 * (k : Int) + d = s) :
    bits BinOp.or IntKind.u64 (U : Int) (IntKind.u64.wrap ((x : Int) * 2 ^ s)) = ((U + 2 ^ s * x : Nat) : Int) ∧ U + 2 ^ s * x < 18446744073709551616 ∧ TopAt xs d (k + 1) (U + 2 ^ s * x) M := by
  obtain ⟨h1, h2, h3⟩ := hi_above (x := x) (take_lt hlt hk) hs
  have e0 : (x : Int) * 2 ^ s = ((x * 2 ^ s : Nat) : Int) := by rw [Int.natCast_mul, Int.natCast_pow]; rfl
  have e1 : IntKind.u64.wrap ((x : Int) * 2 ^ s) = ((x * 2 ^ s : Nat) : Int) := by
    rw [IntKind.wrap_u64, e0]; omega
  rw [e1]
  have hUs : U < 2 ^ s := by rw [h.1]; exact h2
  refine ⟨or_u64_add hUs hU hr, ?_, ?_, ?_⟩
  · rw [← or_u64_lt hUs]; exact Nat.or_lt_two_pow (n := 64) hU hr
  · rw [ofWords_take_succ hk, hx, h1, h.1]
  · rw [ofWords_take_succ hk, hx, h3]; exact h.2
theorem top_across (h : TopAt xs d k U M) (hlt : AllLt 4294967296 xs) (hk : k < xs.length) (hx : xs.getD k 0 = x) (hxl : x < 4294967296) (hs : 32 * (k : Int) + d = -(s : Int)) (hs0 : 0 < s) (hs1 : s < 32) :
    bits BinOp.or IntKind.u64 (U : Int) ((x : Int) / 2 ^ s) = ((x / 2 ^ s : Nat) : Int) ∧ (M = true → TopAt xs d (k + 1) (x / 2 ^ s) true) ∧ (M = false → TopAt xs d (k + 1) (x / 2 ^ s) ((x : Int) * 2 ^ (32 + -(s : Int)).toNat % 4294967296 != 0)) := by
  obtain ⟨h1, h2⟩ := hi_across (x := x) (take_lt hlt hk) hs hs0
  have hU : U = 0 := by rw [h.1]; exact hi_small (take_lt hlt hk) (by omega)
  have hM : M = decide (ofWords (xs.take k) ≠ 0) := by rw [h.2]; exact lost_small (take_lt hlt hk) (by omega)
  have e0 : (x : Int) / 2 ^ s = ((x / 2 ^ s : Nat) : Int) := by rw [Int.natCast_ediv, Int.natCast_pow]; rfl
  have hq : x / 2 ^ s < 18446744073709551616 := Nat.lt_of_le_of_lt (Nat.div_le_self _ _) (by omega)
  refine ⟨by rw [hU, e0]; exact or_u64_zero hq, fun hm => ⟨by rw [ofWords_take_succ hk, hx, h1], ?_⟩, fun hm => ⟨by rw [ofWords_take_succ hk, hx, h1], ?_⟩⟩
  · rw [ofWords_take_succ hk, hx, h2, ← hM, hm]; rfl
  · rw [ofWords_take_succ hk, hx, h2, ← hM, hm, Bool.false_or]
    have e1 : (32 + -(s : Int)).toNat = 32 - s := by omega
    have e2 : (4294967296 : Nat) = 2 ^ s * 2 ^ (32 - s) := by rw [← Nat.pow_add, show s + (32 - s) = 32 by omega]
    have e3 : (x : Int) * 2 ^ (32 - s) % 4294967296 = (((x % 2 ^ s) * 2 ^ (32 - s) : Nat) : Int) := by
      rw [show (x : Int) * 2 ^ (32 - s) = ((x * 2 ^ (32 - s) : Nat) : Int) by rw [Int.natCast_mul, Int.natCast_pow]; rfl, show (4294967296 : Int) = ((4294967296 : Nat) : Int) from rfl, ← Int.natCast_emod, e2, Nat.mul_mod_mul_right]
    rw [e1, e3]
    have hp := Nat.two_pow_pos (32 - s)
    by_cases hz : x % 2 ^ s = 0
    · simp [hz]
    · have h3 : x % 2 ^ s * 2 ^ (32 - s) ≠ 0 := Nat.mul_ne_zero hz (by omega)
      generalize x % 2 ^ s * 2 ^ (32 - s) = y at *
      simp [hz, bne_iff_ne]
      omega
theorem top_done {n : Nat} (h : TopAt xs d n U M) (hn : n = xs.length) : U = hiOf (ofWords xs) d ∧ M = lostOf (ofWords xs) d := by
  unfold TopAt at h
  rwa [List.take_of_length_le (by omega)] at h
theorem top_below (h : TopAt xs d k U M) (hlt : AllLt 4294967296 xs) (hk : k < xs.length) (hx : xs.getD k 0 = x) (hxl : x < 4294967296) (hs : 32 * (k : Int) + d ≤ -32) :
    (M = true → TopAt xs d (k + 1) U true) ∧ (M = false → TopAt xs d (k + 1) U ((x : Int) != 0)) := by
  obtain ⟨h1, h2⟩ := hi_below (x := x) (take_lt hlt hk) hxl hs
  have hU : U = 0 := by rw [h.1]; exact hi_small (take_lt hlt hk) (by omega)
  have hM : M = decide (ofWords (xs.take k) ≠ 0) := by rw [h.2]; exact lost_small (take_lt hlt hk) (by omega)
  refine ⟨fun hm => ⟨by rw [ofWords_take_succ hk, hx, h1, hU], ?_⟩, fun hm => ⟨by rw [ofWords_take_succ hk, hx, h1, hU], ?_⟩⟩
  · rw [ofWords_take_succ hk, hx, h2, ← hM, hm]; rfl
  · rw [ofWords_take_succ hk, hx, h2, ← hM, hm, Bool.false_or]
    by_cases hz : x = 0
    · simp [hz]
    · simp [hz]
end

set_option maxHeartbeats 1600000 in
theorem top_core (b o n c : Nat) (e : Int) (xs : List Nat) (w : World) (h0 : 0 < n) (hl : Hid (n = xs.length)) (hnb : n ≤ 1000000000) (he : -1000000000 ≤ e) (he1 : e ≤ 1000000000) (hlt : AllLt 4294967296 xs) (hlast : Hid (xs.getD (xs.length - 1) 0 ≠ 0))
    (hc : ∀ j, j < xs.length → w.cell? ⟨b, o + j, none⟩ = some (.int .u32 (xs.getD j 0 : Nat))) :
    Calls Tryd.prog 100 #[.agg #[.slice (some ⟨b, o, none⟩) n c, .int .i64 e]] w fun ed w' => ed = .returned (.tuple #[.int .u64 (hiOf (ofWords xs) (32 * e - (hiBit xs e - 63)) : Nat), .bool (lostOf (ofWords xs) (32 * e - (hiBit xs e - 63))), .int .i64 (hiBit xs e - 63)]) ∧ Ext w w' := by
  have HC := Lib.hid hc; have HLT := Lib.hid hlt; clear hc hlt
  have hlow : Hid (hiBit xs e = (hiBit xs e - 63) + 63) := Lib.hid (by omega)
  obtain ⟨x1, hx1, hx1l⟩ : ∃ x, xs.getD (n - 1) 0 = x ∧ x < 4294967296 := ⟨_, rfl, HLT.out.getD (by omega) _⟩
  have HX1 := Lib.hid hx1
  have hc1 := HC.out (n - 1) (by rw [← hl.out]; omega)
  rw [hx1] at hc1
  clear hx1
  have hhi : 32 * (e + (n : Int)) - 1 - (32 - (Lib.bitLen x1 : Nat)) = (hiBit xs e - 63) + 63 := by
    unfold hiBit; rw [← hl.out, HX1.out]; omega
  have hlb : -100000000000 ≤ hiBit xs e - 63 ∧ hiBit xs e - 63 ≤ 100000000000 := by
    have hbl := Lib.bitLen_le x1 32 (by decide) hx1l
    omega
  obtain ⟨hlb1, hlb2⟩ := hlb
  generalize hiBit xs e - 63 = low at *
  have B0 : Box (w.alloc (.cells #[.slice (some ⟨b, o, none⟩) n c, .int .i64 e] 27)) (w.heap.size) #[.slice (some ⟨b, o, none⟩) n c, .int .i64 e] 27 := (Box.new w #[.slice (some ⟨b, o, none⟩) n c, .int .i64 e] 27); have hx0 : Ext w (w.alloc (.cells #[.slice (some ⟨b, o, none⟩) n c, .int .i64 e] 27)) := ((Ext.refl w).alloc (.cells #[.slice (some ⟨b, o, none⟩) n c, .int .i64 e] 27))
  have B0_c0 := B0.cell 0 rfl; have B0_c1 := B0.cell 1 rfl; have B0_f0 := B0.free 0; have B0_f1 := B0.free 1; have B0_lt := B0.lt
  go_enter Tryd.func100, Tryd.ntmps100
  go_wp2_with fail
  clear B0_c0 B0_c1 B0_f0 B0_f1 B0_lt
  refine (high_core b o n c e x1 _ h0 (by omega) (by omega) (by omega) hx1l (hx0.cell hc1)).mono ?_
  rintro ed w1 ⟨rfl, hx1⟩
  rw [hhi]
  clear hhi hc1
  replace B0 := B0.ext hx1
  replace hx0 := hx0.trans hx1
  clear hx1
  have B0_c0 := B0.cell 0 rfl; have B0_c1 := B0.cell 1 rfl; have B0_f0 := B0.free 0; have B0_f1 := B0.free 1; have B0_lt := B0.lt
  go_wp2
  clear B0_c0 B0_c1 B0_f0 B0_f1 B0_lt
  go_loopw [2, 3, 14] (fun u m i wr => ∃ (k U : Nat) (M : Bool), k ≤ n ∧ i = .int .i64 (k : Int) ∧ u = .int .u64 (U : Int) ∧ m = .bool M ∧ U < 18446744073709551616 ∧ Hid (TopAt xs (32 * e - low) k U M) ∧ Ext w wr ∧ Box wr w.heap.size #[.slice (some ⟨b, o, none⟩) n c, .int .i64 e] 27) (fun _ _ i _ => (n - intOf i).toNat)
  case atStart => exact ⟨0, 0, false, by omega, rfl, rfl, rfl, by omega, Lib.hid ⟨by simp [ofWords, hi_zero], by simp [ofWords, lost_zero]⟩, hx0, B0⟩
  case round =>
    clear hx0 B0
    obtain ⟨k, U, M, hk, rfl, rfl, rfl, hU, hrel, hx0, B0⟩ := hrel
    by_cases hkn : k < n
    · obtain ⟨x, hxd, hxl⟩ : ∃ x, xs.getD k 0 = x ∧ x < 4294967296 := ⟨_, rfl, HLT.out.getD (by omega) k⟩
      have hc1 := hx0.cell (HC.out k (by rw [← hl.out]; exact hkn))
      rw [hxd] at hc1
      have HX := Lib.hid hxd; clear hxd
      by_cases hat : 0 ≤ 32 * (e + (k : Int)) - low
      · obtain ⟨s, hs⟩ := Int.eq_ofNat_of_zero_le hat
        have hroom := word_room HLT.out (by rw [← hl.out]; exact h0) hlast.out hlow.out (by rw [← hl.out]; exact hkn) hs
        rw [HX.out] at hroom
        obtain ⟨hr1, hr2⟩ := hroom
        clear hat
        have B0_c0 := B0.cell 0 rfl; have B0_c1 := B0.cell 1 rfl; have B0_f0 := B0.free 0; have B0_f1 := B0.free 1; have B0_lt := B0.lt
        go_wp2
        clear B0_c0 B0_c1 B0_f0 B0_f1 B0_lt
        obtain ⟨q1, q2, q3⟩ := top_above hrel.out HLT.out (by rw [← hl.out]; exact hkn) HX.out hU hr1 (show 32 * (k : Int) + (32 * e - low) = s by omega)
        go_roundw
        case rel => exact ⟨k + 1, U + 2 ^ s * x, M, by omega, by go_num, by rw [q1], rfl, q2, Lib.hid q3, hx0, B0⟩
        case measure => simp [intOf]; omega
      · by_cases hat2 : -32 < 32 * (e + (k : Int)) - low
        · obtain ⟨s, hs, hs0, hs1⟩ : ∃ s : Nat, 32 * (e + (k : Int)) - low = -(s : Int) ∧ 0 < s ∧ s < 32 := ⟨(-(32 * (e + (k : Int)) - low)).toNat, by omega, by omega, by omega⟩
          clear hat hat2
          obtain ⟨q1, q2, q3⟩ := top_across hrel.out HLT.out (by rw [← hl.out]; exact hkn) HX.out hxl (show 32 * (k : Int) + (32 * e - low) = -(s : Int) by omega) hs0 hs1
          have Q1 := Lib.hid q1; have Q2 := Lib.hid q2; have Q3 := Lib.hid q3; clear q1 q2 q3
          have B0_c0 := B0.cell 0 rfl; have B0_c1 := B0.cell 1 rfl; have B0_f0 := B0.free 0; have B0_f1 := B0.free 1; have B0_lt := B0.lt
          cases M
          · go_wp2
            clear B0_c0 B0_c1 B0_f0 B0_f1 B0_lt
            go_roundw
            case rel => exact ⟨k + 1, x / 2 ^ s, _, by omega, by go_num, by rw [Q1.out], rfl, Nat.lt_of_le_of_lt (Nat.div_le_self _ _) (by omega), Lib.hid (by simpa using Q3.out), hx0, B0⟩
            case measure => simp [intOf]; omega
          · go_wp2
            clear B0_c0 B0_c1 B0_f0 B0_f1 B0_lt
            go_roundw
            case rel => exact ⟨k + 1, x / 2 ^ s, _, by omega, by go_num, by rw [Q1.out], rfl, Nat.lt_of_le_of_lt (Nat.div_le_self _ _) (by omega), Lib.hid (by simpa using Q2.out), hx0, B0⟩
            case measure => simp [intOf]; omega
        · obtain ⟨q1, q2⟩ := top_below hrel.out HLT.out (by rw [← hl.out]; exact hkn) HX.out hxl (show 32 * (k : Int) + (32 * e - low) ≤ -32 by omega)
          have Q1 := Lib.hid q1; have Q2 := Lib.hid q2; clear q1 q2
          have B0_c0 := B0.cell 0 rfl; have B0_c1 := B0.cell 1 rfl; have B0_f0 := B0.free 0; have B0_f1 := B0.free 1; have B0_lt := B0.lt
          cases M
          · go_wp2
            clear B0_c0 B0_c1 B0_f0 B0_f1 B0_lt
            go_roundw
            case rel => exact ⟨k + 1, U, _, by omega, by go_num, rfl, rfl, hU, Lib.hid (by simpa using Q2.out), hx0, B0⟩
            case measure => simp [intOf]; omega
          · go_wp2
            clear B0_c0 B0_c1 B0_f0 B0_f1 B0_lt
            go_roundw
            case rel => exact ⟨k + 1, U, _, by omega, by go_num, rfl, rfl, hU, Lib.hid (by simpa using Q1.out), hx0, B0⟩
            case measure => simp [intOf]; omega
    · have hkn' : n = k := by omega
      subst hkn'
      obtain ⟨hU', hM'⟩ := top_done hrel.out hl.out
      clear hrel
      go_wp2
      refine bodyPost_ret (v := .tuple #[.int .u64 (U : Nat), .bool M, .int .i64 low]) (by simp [results, Tryd.results100, go_sem]) rfl ?_
      exact ⟨by rw [hU', hM'], hx0⟩
end Go.Proofs.YthnmjkjllhlcjaaDoor
