/- The walk of whole.Num.Float; no condition. -/
import Derived.Test.YthnmjkjllhlcjaaDoorFloatP
import Derived.Test.YthnmjkjllhlcjaaDoorNegP
namespace Go.Proofs.YthnmjkjllhlcjaaDoor
open Go Go.RowKit Go.Steady Go.Tri
set_option maxRecDepth 100000

theorem float_none (a : Option Addr) (c : Nat) (e : Int) (neg non : Bool) (w : World) :
    Calls Tryd.prog 34 #[.agg #[.slice a 0 c, .int .i64 e, .bool neg, .bool non]] w fun ed w' => ed = .returned (.float .f64 0) ∧ Ext w w' := by
  have B0 : Box (w.alloc (.cells #[.slice a 0 c, .int .i64 e, .bool neg, .bool non] 29)) (w.heap.size) #[.slice a 0 c, .int .i64 e, .bool neg, .bool non] 29 := (Box.new w #[.slice a 0 c, .int .i64 e, .bool neg, .bool non] 29); have hx0 : Ext w (w.alloc (.cells #[.slice a 0 c, .int .i64 e, .bool neg, .bool non] 29)) := ((Ext.refl w).alloc (.cells #[.slice a 0 c, .int .i64 e, .bool neg, .bool non] 29))
  have B0_c0 := B0.cell 0 rfl; have B0_c1 := B0.cell 1 rfl; have B0_c2 := B0.cell 2 rfl; have B0_c3 := B0.cell 3 rfl; have B0_f0 := B0.free 0; have B0_f1 := B0.free 1; have B0_f2 := B0.free 2; have B0_f3 := B0.free 3; have B0_lt := B0.lt
  go_enter Tryd.func34, Tryd.ntmps34
  go_wp2
  go_ret
  exact ⟨rfl, by (with_reducible (repeat (first | exact Ext.refl _ | refine Ext.drewN ?_ _ | refine Ext.drew ?_ | refine Ext.alloc ?_ _ | refine Ext.setCell ?_ (by first | (dsimp only; omega) | simp | (simp; omega)) _)))⟩

theorem pow_wrap {k : Nat} (h : k < 64) : IntKind.u64.wrap (2 ^ k) = ((2 ^ k : Nat) : Int) := by
  have h1 : (2 : Nat) ^ k ≤ 2 ^ 63 := Nat.pow_le_pow_right (by omega) (by omega)
  have h2 : (2 : Int) ^ k = ((2 ^ k : Nat) : Int) := by rw [Int.natCast_pow]; rfl
  rw [IntKind.wrap_u64, h2]
  have h3 : (2 : Nat) ^ 63 = 9223372036854775808 := by decide
  rw [h3] at h1
  clear h2 h3
  generalize (2 : Nat) ^ k = m at *
  omega
theorem hi_range {xs : List Nat} {e low : Int} {u : Nat} (hlt : AllLt 4294967296 xs) (h0 : 0 < xs.length) (hl : xs.getD (xs.length - 1) 0 ≠ 0) (hlow : hiBit xs e - 63 = low)
    (h1 : (u : Rat) * p2 low ≤ magVal xs e) (h2 : magVal xs e < ((u + 1 : Nat) : Rat) * p2 low) : u < 18446744073709551616 ∧ 9223372036854775808 ≤ u := by
  obtain ⟨b1, b2⟩ := high_bounds (e := e) hlt h0 hl
  have b1' : p2 (hiBit xs e) ≤ magVal xs e := b1
  have b2' : magVal xs e < p2 (hiBit xs e + 1) := b2
  rw [show hiBit xs e = ((63 : Nat) : Int) + low by omega, p2_add, p2_nat] at b1'
  rw [show hiBit xs e + 1 = ((64 : Nat) : Int) + low by omega, p2_add, p2_nat] at b2'
  have c1 : (u : Rat) * p2 low < ((2 ^ 64 : Nat) : Rat) * p2 low := by grind
  have c2 : ((2 ^ 63 : Nat) : Rat) * p2 low < ((u + 1 : Nat) : Rat) * p2 low := by grind
  have d1 : u < 2 ^ 64 := by exact_mod_cast (mul_p2_lt low).1 c1
  have d2 : 2 ^ 63 < u + 1 := by exact_mod_cast (mul_p2_lt low).1 c2
  have n1 : (2 : Nat) ^ 64 = 18446744073709551616 := by decide
  have n2 : (2 : Nat) ^ 63 = 9223372036854775808 := by decide
  omega
theorem isRn_small {q : Rat} (h : q < p2 (-1075)) : IsRn q 0 := by
  refine ⟨.inl ?_, .inl rfl⟩
  have h1 : rv (0 + 1) = p2 (-1074) := by
    have := rv_form (E := 0) (k := 1) (by omega) (.inl rfl)
    simp only [Nat.zero_mul, Nat.zero_add] at this ⊢
    rw [this]
    show ((1 : Nat) : Rat) * p2 (((0 : Nat) : Int) - 1074) = _
    rw [show (((0 : Nat) : Int) - 1074) = -1074 by omega]; grind
  rw [rv_zero, h1, show (-1074 : Int) = -1075 + 1 by omega, p2_succ]
  grind
theorem float_nil {xs : List Nat} {e low : Int} {neg : Bool} (hlt : AllLt 4294967296 xs) (h0 : 0 < xs.length) (hl : xs.getD (xs.length - 1) 0 ≠ 0) (hlow : hiBit xs e - 63 = low) (h : low < -1138) : Rn (sgn neg (magVal xs e)) 0 := by
  obtain ⟨-, b2⟩ := high_bounds (e := e) hlt h0 hl
  have b2' : magVal xs e < p2 (hiBit xs e + 1) := b2
  have h1 := p2_le (show hiBit xs e + 1 ≤ -1075 by omega)
  have h2 := magVal_nonneg xs e
  refine ⟨by unfold Num64; omega, neg, 0, by rw [sgn_sgn]; exact h2, by rw [sgn_sgn]; exact isRn_small (by grind), ?_⟩
  have : sr 0 = 0 := by decide
  rw [this]; cases neg <;> simp
def LostIs (more : Bool) (P : Prop) : Prop := more = false ↔ P
theorem float_done {xs : List Nat} {e low : Int} {u cut K z : Nat} {more : Bool} (hv : (u : Rat) * p2 low ≤ (ofWords xs : Rat) * p2 (32 * e) ∧ (ofWords xs : Rat) * p2 (32 * e) < ((u + 1 : Nat) : Rat) * p2 low ∧ LostIs more ((ofWords xs : Rat) * p2 (32 * e) = (u : Rat) * p2 low))
    (hu : u < 18446744073709551616) (hu' : 9223372036854775808 ≤ u) (hc : max 11 (-1074 - low) = (cut : Int)) (hc' : cut ≤ 64) (hK : K = keptOf u cut + (upOf u more cut).toNat) (hz : Rn ((K : Rat) * p2 (low + cut)) z) : Rn (magVal xs e) z := by
  subst hK
  exact float_rn hu hu' hv.1 hv.2.1 hv.2.2 hc.symm hc' hz
theorem and_one {k : Nat} (h : k < 18446744073709551616) : bits BinOp.and IntKind.u64 (k : Int) 1 = ((k % 2 : Nat) : Int) := by
  have := bits_and_u64_nat k 1 h (by omega)
  rw [show (1 : Int) = ((1 : Nat) : Int) from rfl, this, Nat.and_one_is_mod]
theorem gone_bits {u cut : Nat} (hu : u < 18446744073709551616) (hc : cut < 64) : bits BinOp.and IntKind.u64 (u : Int) (IntKind.u64.wrap (IntKind.u64.wrap (2 ^ cut) - 1)) = ((goneOf u cut : Nat) : Int) := by
  have h0 := Nat.two_pow_pos cut
  have h1 : (2 : Nat) ^ cut ≤ 2 ^ 63 := Nat.pow_le_pow_right (by omega) (by omega)
  have h3 : (2 : Nat) ^ 63 = 9223372036854775808 := by decide
  have e1 : IntKind.u64.wrap (((2 ^ cut : Nat) : Int) - 1) = ((2 ^ cut - 1 : Nat) : Int) := by
    rw [IntKind.wrap_u64]
    rw [h3] at h1
    clear h3
    generalize (2 : Nat) ^ cut = m at *
    omega
  rw [pow_wrap hc, e1, bits_and_u64_nat _ _ hu (by omega), Nat.and_two_pow_sub_one_eq_mod]
  unfold goneOf
  rw [if_pos hc]
set_option maxHeartbeats 6400000 in
theorem float_core (b o n c : Nat) (e : Int) (xs : List Nat) (neg : Bool) (w : World) (h0 : 0 < n) (hl : Hid (n = xs.length)) (hnb : n ≤ 1000000000) (he : -1000000000 ≤ e) (he1 : e ≤ 1000000000) (hlt : AllLt 4294967296 xs) (hlast : Hid (xs.getD (xs.length - 1) 0 ≠ 0)) (hhi : hiBit xs e ≤ 65536)
    (hc : ∀ j, j < xs.length → w.cell? ⟨b, o + j, none⟩ = some (.int .u32 (xs.getD j 0 : Nat))) :
    Calls Tryd.prog 34 #[.agg #[.slice (some ⟨b, o, none⟩) n c, .int .i64 e, .bool neg, .bool false]] w fun ed w' => ∃ z, ed = .returned (.float .f64 z) ∧ Ext w w' ∧ Rn (sgn neg (magVal xs e)) z := by
  have hn0 : ((n : Int) == 0) = false := by simp; omega
  have HC := Lib.hid hc; clear hc
  have B0 : Box (w.alloc (.cells #[.slice (some ⟨b, o, none⟩) n c, .int .i64 e, .bool neg, .bool false] 29)) (w.heap.size) #[.slice (some ⟨b, o, none⟩) n c, .int .i64 e, .bool neg, .bool false] 29 := (Box.new w #[.slice (some ⟨b, o, none⟩) n c, .int .i64 e, .bool neg, .bool false] 29); have hx0 : Ext w (w.alloc (.cells #[.slice (some ⟨b, o, none⟩) n c, .int .i64 e, .bool neg, .bool false] 29)) := ((Ext.refl w).alloc (.cells #[.slice (some ⟨b, o, none⟩) n c, .int .i64 e, .bool neg, .bool false] 29))
  have B0_c0 := B0.cell 0 rfl; have B0_c1 := B0.cell 1 rfl; have B0_c2 := B0.cell 2 rfl; have B0_c3 := B0.cell 3 rfl; have B0_f0 := B0.free 0; have B0_f1 := B0.free 1; have B0_f2 := B0.free 2; have B0_f3 := B0.free 3; have B0_lt := B0.lt
  go_enter Tryd.func34, Tryd.ntmps34
  go_wp2_with fail
  clear B0_c0 B0_c1 B0_c2 B0_c3 B0_f0 B0_f1 B0_f2 B0_f3 B0_lt
  refine (top_core b o n c e xs _ h0 hl hnb he he1 hlt hlast (fun j hj => hx0.cell (HC.out j hj))).mono ?_
  rintro ed w1 ⟨rfl, hx1⟩
  replace B0 := B0.ext hx1
  replace hx0 := hx0.trans hx1
  clear hx1
  obtain ⟨low, hlow, hlb1, hlb2⟩ : ∃ low : Int, hiBit xs e - 63 = low ∧ -100000000000 ≤ low ∧ low ≤ 65473 := ⟨_, rfl, by unfold hiBit; omega, by omega⟩
  clear hhi
  rw [hlow]
  have hvv := hi_value (ofWords xs) (32 * e) (32 * e - low)
  generalize hiOf (ofWords xs) (32 * e - low) = u at *
  generalize lostOf (ofWords xs) (32 * e - low) = more at *
  rw [show 32 * e - (32 * e - low) = low by omega] at hvv
  obtain ⟨hu, hu'⟩ := hi_range hlt (hl.out ▸ h0) hlast.out hlow hvv.1 hvv.2.1
  have hz0 := float_nil (neg := neg) hlt (hl.out ▸ h0) hlast.out hlow
  have hvv' : (u : Rat) * p2 low ≤ (ofWords xs : Rat) * p2 (32 * e) ∧ (ofWords xs : Rat) * p2 (32 * e) < ((u + 1 : Nat) : Rat) * p2 low ∧ LostIs more ((ofWords xs : Rat) * p2 (32 * e) = (u : Rat) * p2 low) := hvv
  have HV := Lib.hid hvv'; have HLOW := Lib.hid hlow; have HZ0 := Lib.hid hz0; clear hvv hvv' hlow hz0
  obtain ⟨cut, hcut, hcl⟩ : ∃ cut : Nat, max 11 (-1074 - low) = (cut : Int) ∧ 11 ≤ cut := ⟨(max 11 (-1074 - low)).toNat, by omega, by omega⟩
  have HCUT := Lib.hid hcut
  by_cases hover : 64 < cut
  · have hover' : (64 : Int) < (cut : Int) := by omega
    go_wp2
    go_ret
    exact ⟨0, rfl, hx0, HZ0.out (by have := HCUT.out; omega)⟩
  · have hover' : ¬ (64 : Int) < (cut : Int) := by omega
    obtain ⟨h, hhd⟩ : ∃ h : Nat, 2 ^ (cut - 1) = h := ⟨_, rfl⟩
    have hh : IntKind.u64.wrap (2 ^ (cut - 1)) = (h : Int) := by rw [← hhd]; exact pow_wrap (by omega)
    have HH := Lib.hid hhd; clear hhd
    go_wp2
    refine wp_steady 3 71 (by kernel_rfl) (by as_aux_lemma => kernel_rfl) rfl ?_
    refine walk_q [(3, none)] (by kernel_rfl) rfl ?_
    apply Exists.intro
    refine ⟨fun b w' hx hs => ?_, ?_⟩
    · obtain ⟨h0, -⟩ := hs
      change _ = _ at h0
      rw [eval_tmp] at h0
      go_simp
      try go_ints
      rfl
    refine walk_q [(6, none)] (by kernel_rfl) rfl ?_
    apply Exists.intro
    refine ⟨fun b w' hx hs => ?_, ?_⟩
    · obtain ⟨h0, -⟩ := hs
      change _ = _ at h0
      rw [eval_tmp] at h0
      go_simp
      try go_ints
      rfl
    refine walk_q [(29, some 0)] (by kernel_rfl) rfl ?_
    apply Exists.intro
    refine ⟨fun b w' hx hs => ?_, ?_⟩
    · obtain ⟨h0, -⟩ := hs
      change _ = _ at h0
      rw [eval_tmp] at h0
      go_simp
      try go_ints
      rfl
    refine walk_q [(30, some 0)] (by kernel_rfl) rfl ?_
    apply Exists.intro
    refine ⟨fun b w' hx hs => ?_, ?_⟩
    · obtain ⟨h0, -⟩ := hs
      change _ = _ at h0
      rw [eval_tmp] at h0
      go_simp
      try go_ints
      rfl
    refine walk_q [] (by kernel_rfl) rfl ?_
    apply Exists.intro
    refine ⟨fun b w' hx hs => ?_, ?_⟩
    · clear hs
      go_simp
      try go_ints
      rfl
    refine walk_q [(28, some 4)] (by kernel_rfl) rfl ?_
    apply Exists.intro
    refine ⟨fun b w' hx hs => ?_, ?_⟩
    · obtain ⟨h0, -⟩ := hs
      change _ = _ at h0
      rw [eval_tmp] at h0
      go_simp
      try go_ints
      rfl
    refine walk_q [(31, some 2)] (by kernel_rfl) rfl ?_
    apply Exists.intro
    refine ⟨fun b w' hx hs => ?_, ?_⟩
    · obtain ⟨h0, -⟩ := hs
      change _ = _ at h0
      rw [eval_tmp] at h0
      go_simp
      try go_ints
      rfl
    refine walk_end ?_
    intro w2 hx2
    rintro _ rfl
    rintro _ rfl
    rintro _ rfl
    rintro _ rfl
    rintro _ rfl
    rintro _ rfl
    rintro _ rfl
    unfold fin
    simp only [Act.put, List.setIfInBounds_toArray, List.set_cons_succ, List.set_cons_zero]
    clear hh
    replace B0 := B0.ext hx2
    replace hx0 := hx0.trans hx2
    clear hx2
    have B0_c0 := B0.cell 0 rfl; have B0_c1 := B0.cell 1 rfl; have B0_c2 := B0.cell 2 rfl; have B0_c3 := B0.cell 3 rfl; have B0_f0 := B0.free 0; have B0_f1 := B0.free 1; have B0_f2 := B0.free 2; have B0_f3 := B0.free 3; have B0_lt := B0.lt
    obtain ⟨k, hkd⟩ : ∃ k, keptOf u cut = k := ⟨_, rfl⟩
    obtain ⟨g, hgd⟩ : ∃ g, goneOf u cut = g := ⟨_, rfl⟩
    have hk53 : k < 9007199254740992 := by rw [← hkd]; exact kept_le hu (by omega)
    have hodd : bits BinOp.and IntKind.u64 (k : Int) 1 = ((k % 2 : Nat) : Int) := and_one (by omega)
    by_cases h64 : cut < 64
    · have h64' : (cut : Int) < 64 := by omega
      have hkept : (u : Int) / 2 ^ cut = (k : Int) := by
        rw [← hkd]; unfold keptOf; rw [if_pos h64, Int.natCast_ediv, Int.natCast_pow]; rfl
      have hgone : bits BinOp.and IntKind.u64 (u : Int) (IntKind.u64.wrap (IntKind.u64.wrap (2 ^ cut) - 1)) = (g : Int) := by
        rw [← hgd]; exact gone_bits hu h64
      have HK := Lib.hid hkd; have HG := Lib.hid hgd; clear hkd hgd
      go_wp2
      refine wp_steady 3 71 (by kernel_rfl) (by as_aux_lemma => kernel_rfl) rfl ?_
      refine walk_q [(3, none)] (by kernel_rfl) rfl ?_
      apply Exists.intro
      refine ⟨fun b w' hx hs => ?_, ?_⟩
      · obtain ⟨h0, -⟩ := hs
        change _ = _ at h0
        rw [eval_tmp] at h0
        go_simp
        try go_ints
        rfl
      refine walk_q [(6, none)] (by kernel_rfl) rfl ?_
      apply Exists.intro
      refine ⟨fun b w' hx hs => ?_, ?_⟩
      · obtain ⟨h0, -⟩ := hs
        change _ = _ at h0
        rw [eval_tmp] at h0
        go_simp
        try go_ints
        rfl
      refine walk_q [(34, some 1), (35, some 0)] (by kernel_rfl) rfl ?_
      apply Exists.intro
      refine ⟨fun b w' hx hs => ?_, ?_⟩
      · obtain ⟨h0, h1, -⟩ := hs
        change _ = _ at h0
        change _ = _ at h1
        rw [eval_tmp] at h0 h1
        go_simp
        try go_ints
        rfl
      refine walk_q [(3, none)] (by kernel_rfl) rfl ?_
      apply Exists.intro
      refine ⟨fun b w' hx hs => ?_, ?_⟩
      · obtain ⟨h0, -⟩ := hs
        change _ = _ at h0
        rw [eval_tmp] at h0
        go_simp
        try go_ints
        rfl
      refine walk_q [(6, none)] (by kernel_rfl) rfl ?_
      apply Exists.intro
      refine ⟨fun b w' hx hs => ?_, ?_⟩
      · obtain ⟨h0, -⟩ := hs
        change _ = _ at h0
        rw [eval_tmp] at h0
        go_simp
        try go_ints
        rfl
      refine walk_q [(38, some 0)] (by kernel_rfl) rfl ?_
      apply Exists.intro
      refine ⟨fun b w' hx hs => ?_, ?_⟩
      · obtain ⟨h0, -⟩ := hs
        change _ = _ at h0
        rw [eval_tmp] at h0
        go_simp
        try go_ints
        rfl
      refine walk_q [(39, some 0)] (by kernel_rfl) rfl ?_
      apply Exists.intro
      refine ⟨fun b w' hx hs => ?_, ?_⟩
      · obtain ⟨h0, -⟩ := hs
        change _ = _ at h0
        rw [eval_tmp] at h0
        go_simp
        try go_ints
        rfl
      refine walk_q [(37, some 3), (40, some 0)] (by kernel_rfl) rfl ?_
      apply Exists.intro
      refine ⟨fun b w' hx hs => ?_, ?_⟩
      · obtain ⟨h0, h1, -⟩ := hs
        change _ = _ at h0
        change _ = _ at h1
        rw [eval_tmp] at h0 h1
        go_simp
        try go_ints
        rfl
      refine walk_q [(36, some 5)] (by kernel_rfl) rfl ?_
      apply Exists.intro
      refine ⟨fun b w' hx hs => ?_, ?_⟩
      · obtain ⟨h0, -⟩ := hs
        change _ = _ at h0
        rw [eval_tmp] at h0
        go_simp
        try go_ints
        rfl
      refine walk_q [(41, some 1)] (by kernel_rfl) rfl ?_
      apply Exists.intro
      refine ⟨fun b w' hx hs => ?_, ?_⟩
      · obtain ⟨h0, -⟩ := hs
        change _ = _ at h0
        rw [eval_tmp] at h0
        go_simp
        try go_ints
        rfl
      refine walk_end ?_
      intro w3 hx3
      rintro _ rfl
      rintro _ rfl
      rintro _ rfl
      rintro _ rfl
      rintro _ rfl
      rintro _ rfl
      rintro _ rfl
      rintro _ rfl
      rintro _ rfl
      rintro _ rfl
      unfold fin
      simp only [Act.put, List.setIfInBounds_toArray, List.set_cons_succ, List.set_cons_zero]
      clear hkept hgone
      clear B0_c0 B0_c1 B0_c2 B0_c3 B0_f0 B0_f1 B0_f2 B0_f3 B0_lt
      replace B0 := B0.ext hx3
      replace hx0 := hx0.trans hx3
      clear hx3
      have B0_c0 := B0.cell 0 rfl; have B0_c1 := B0.cell 1 rfl; have B0_c2 := B0.cell 2 rfl; have B0_c3 := B0.cell 3 rfl; have B0_f0 := B0.free 0; have B0_f1 := B0.free 1; have B0_f2 := B0.free 2; have B0_f3 := B0.free 3; have B0_lt := B0.lt
      by_cases c1 : h < g
      · have c1' : (h : Int) < (g : Int) := by omega
        have HUP : Hid (k + 1 = keptOf u cut + (upOf u more cut).toNat) := Lib.hid (by unfold upOf; rw [HK.out, HG.out, HH.out, decide_eq_true c1]; rfl)
        go_wp2_with fail
        clear B0_c0 B0_c1 B0_c2 B0_c3 B0_f0 B0_f1 B0_f2 B0_f3 B0_lt
        refine (Ldexp_any (k + 1) (low + (cut : Int)) _ (by omega) (by omega) (by omega)).mono ?_
        rintro ed w4 ⟨z, rfl, rfl, hz⟩
        have B0_c0 := B0.cell 0 rfl; have B0_c1 := B0.cell 1 rfl; have B0_c2 := B0.cell 2 rfl; have B0_c3 := B0.cell 3 rfl; have B0_f0 := B0.free 0; have B0_f1 := B0.free 1; have B0_f2 := B0.free 2; have B0_f3 := B0.free 3; have B0_lt := B0.lt
        have hfin : Rn (magVal xs e) z := float_done HV.out hu hu' HCUT.out (by omega) HUP.out hz
        cases neg
        · go_wp2
          go_ret
          exact ⟨z, rfl, hx0, hfin⟩
        · have hng : ∀ w, (Op.unary UnOp.neg (.float .f64 z)).run Tryd.prog w = .ok (.float .f64 (Op.negFloat .f64 z)) w := fun _ => rfl
          go_wp2
          go_ret
          exact ⟨_, rfl, hx0, hfin.neg⟩
      · have c1' : ¬ (h : Int) < (g : Int) := by omega
        by_cases c2 : g = h
        · have c2' : ((g : Int) == (h : Int)) = true := by simp [c2]
          cases more
          · by_cases c3 : k % 2 = 1
            · have c3' : (bits BinOp.and IntKind.u64 (k : Int) 1 == 1) = true := by rw [and_one (by omega), c3]; rfl
              have HUP : Hid (k + 1 = keptOf u cut + (upOf u false cut).toNat) := Lib.hid (by unfold upOf; rw [HK.out, HG.out, HH.out, c3, c2]; simp)
              go_wp2_with fail
              clear B0_c0 B0_c1 B0_c2 B0_c3 B0_f0 B0_f1 B0_f2 B0_f3 B0_lt
              refine (Ldexp_any (k + 1) (low + (cut : Int)) _ (by omega) (by omega) (by omega)).mono ?_
              rintro ed w4 ⟨z, rfl, rfl, hz⟩
              have B0_c0 := B0.cell 0 rfl; have B0_c1 := B0.cell 1 rfl; have B0_c2 := B0.cell 2 rfl; have B0_c3 := B0.cell 3 rfl; have B0_f0 := B0.free 0; have B0_f1 := B0.free 1; have B0_f2 := B0.free 2; have B0_f3 := B0.free 3; have B0_lt := B0.lt
              have hfin : Rn (magVal xs e) z := float_done HV.out hu hu' HCUT.out (by omega) HUP.out hz
              cases neg
              · go_wp2
                go_ret
                exact ⟨z, rfl, hx0, hfin⟩
              · have hng : ∀ w, (Op.unary UnOp.neg (.float .f64 z)).run Tryd.prog w = .ok (.float .f64 (Op.negFloat .f64 z)) w := fun _ => rfl
                go_wp2
                go_ret
                exact ⟨_, rfl, hx0, hfin.neg⟩
            · have c3' : (bits BinOp.and IntKind.u64 (k : Int) 1 == 1) = false := by rw [and_one (by omega), show k % 2 = 0 by omega]; rfl
              have HUP : Hid (k = keptOf u cut + (upOf u false cut).toNat) := Lib.hid (by unfold upOf; rw [HK.out, HG.out, HH.out, show k % 2 = 0 by omega, c2]; simp)
              go_wp2_with fail
              clear B0_c0 B0_c1 B0_c2 B0_c3 B0_f0 B0_f1 B0_f2 B0_f3 B0_lt
              refine (Ldexp_any (k) (low + (cut : Int)) _ (by omega) (by omega) (by omega)).mono ?_
              rintro ed w4 ⟨z, rfl, rfl, hz⟩
              have B0_c0 := B0.cell 0 rfl; have B0_c1 := B0.cell 1 rfl; have B0_c2 := B0.cell 2 rfl; have B0_c3 := B0.cell 3 rfl; have B0_f0 := B0.free 0; have B0_f1 := B0.free 1; have B0_f2 := B0.free 2; have B0_f3 := B0.free 3; have B0_lt := B0.lt
              have hfin : Rn (magVal xs e) z := float_done HV.out hu hu' HCUT.out (by omega) HUP.out hz
              cases neg
              · go_wp2
                go_ret
                exact ⟨z, rfl, hx0, hfin⟩
              · have hng : ∀ w, (Op.unary UnOp.neg (.float .f64 z)).run Tryd.prog w = .ok (.float .f64 (Op.negFloat .f64 z)) w := fun _ => rfl
                go_wp2
                go_ret
                exact ⟨_, rfl, hx0, hfin.neg⟩
          · have HUP : Hid (k + 1 = keptOf u cut + (upOf u true cut).toNat) := Lib.hid (by unfold upOf; rw [HK.out, HG.out, HH.out, c2]; simp)
            go_wp2_with fail
            clear B0_c0 B0_c1 B0_c2 B0_c3 B0_f0 B0_f1 B0_f2 B0_f3 B0_lt
            refine (Ldexp_any (k + 1) (low + (cut : Int)) _ (by omega) (by omega) (by omega)).mono ?_
            rintro ed w4 ⟨z, rfl, rfl, hz⟩
            have B0_c0 := B0.cell 0 rfl; have B0_c1 := B0.cell 1 rfl; have B0_c2 := B0.cell 2 rfl; have B0_c3 := B0.cell 3 rfl; have B0_f0 := B0.free 0; have B0_f1 := B0.free 1; have B0_f2 := B0.free 2; have B0_f3 := B0.free 3; have B0_lt := B0.lt
            have hfin : Rn (magVal xs e) z := float_done HV.out hu hu' HCUT.out (by omega) HUP.out hz
            cases neg
            · go_wp2
              go_ret
              exact ⟨z, rfl, hx0, hfin⟩
            · have hng : ∀ w, (Op.unary UnOp.neg (.float .f64 z)).run Tryd.prog w = .ok (.float .f64 (Op.negFloat .f64 z)) w := fun _ => rfl
              go_wp2
              go_ret
              exact ⟨_, rfl, hx0, hfin.neg⟩
        · have c2' : ((g : Int) == (h : Int)) = false := by simp; omega
          have HUP : Hid (k = keptOf u cut + (upOf u more cut).toNat) := Lib.hid (by unfold upOf; rw [HK.out, HG.out, HH.out, decide_eq_false c1, beq_eq_false_iff_ne.2 c2]; simp)
          go_wp2_with fail
          clear B0_c0 B0_c1 B0_c2 B0_c3 B0_f0 B0_f1 B0_f2 B0_f3 B0_lt
          refine (Ldexp_any (k) (low + (cut : Int)) _ (by omega) (by omega) (by omega)).mono ?_
          rintro ed w4 ⟨z, rfl, rfl, hz⟩
          have B0_c0 := B0.cell 0 rfl; have B0_c1 := B0.cell 1 rfl; have B0_c2 := B0.cell 2 rfl; have B0_c3 := B0.cell 3 rfl; have B0_f0 := B0.free 0; have B0_f1 := B0.free 1; have B0_f2 := B0.free 2; have B0_f3 := B0.free 3; have B0_lt := B0.lt
          have hfin : Rn (magVal xs e) z := float_done HV.out hu hu' HCUT.out (by omega) HUP.out hz
          cases neg
          · go_wp2
            go_ret
            exact ⟨z, rfl, hx0, hfin⟩
          · have hng : ∀ w, (Op.unary UnOp.neg (.float .f64 z)).run Tryd.prog w = .ok (.float .f64 (Op.negFloat .f64 z)) w := fun _ => rfl
            go_wp2
            go_ret
            exact ⟨_, rfl, hx0, hfin.neg⟩
    · have h64' : ¬ (cut : Int) < 64 := by omega
      have hk0 : k = 0 := by rw [← hkd]; unfold keptOf; rw [if_neg h64]
      have hgu : u = g := by rw [← hgd]; unfold goneOf; rw [if_neg h64]
      subst hk0
      subst hgu
      have HK := Lib.hid hkd; have HG := Lib.hid hgd; clear hkd hgd hodd
      by_cases c1 : h < u
      · have c1' : (h : Int) < (u : Int) := by omega
        have HUP : Hid (1 = keptOf u cut + (upOf u more cut).toNat) := Lib.hid (by unfold upOf; rw [HK.out, HG.out, HH.out, decide_eq_true c1]; rfl)
        go_wp2_with fail
        clear B0_c0 B0_c1 B0_c2 B0_c3 B0_f0 B0_f1 B0_f2 B0_f3 B0_lt
        refine (Ldexp_any (1) (low + (cut : Int)) _ (by omega) (by omega) (by omega)).mono ?_
        rintro ed w4 ⟨z, rfl, rfl, hz⟩
        have B0_c0 := B0.cell 0 rfl; have B0_c1 := B0.cell 1 rfl; have B0_c2 := B0.cell 2 rfl; have B0_c3 := B0.cell 3 rfl; have B0_f0 := B0.free 0; have B0_f1 := B0.free 1; have B0_f2 := B0.free 2; have B0_f3 := B0.free 3; have B0_lt := B0.lt
        have hfin : Rn (magVal xs e) z := float_done HV.out hu hu' HCUT.out (by omega) HUP.out hz
        cases neg
        · go_wp2
          go_ret
          exact ⟨z, rfl, hx0, hfin⟩
        · have hng : ∀ w, (Op.unary UnOp.neg (.float .f64 z)).run Tryd.prog w = .ok (.float .f64 (Op.negFloat .f64 z)) w := fun _ => rfl
          go_wp2
          go_ret
          exact ⟨_, rfl, hx0, hfin.neg⟩
      · have c1' : ¬ (h : Int) < (u : Int) := by omega
        by_cases c2 : u = h
        · have c2' : ((u : Int) == (h : Int)) = true := by simp [c2]
          cases more
          · have c3' : (bits BinOp.and IntKind.u64 0 1 == 1) = false := rfl
            have HUP : Hid (0 = keptOf u cut + (upOf u false cut).toNat) := Lib.hid (by unfold upOf; rw [HK.out, HG.out, HH.out, c2]; simp)
            go_wp2_with fail
            clear B0_c0 B0_c1 B0_c2 B0_c3 B0_f0 B0_f1 B0_f2 B0_f3 B0_lt
            refine (Ldexp_any (0) (low + (cut : Int)) _ (by omega) (by omega) (by omega)).mono ?_
            rintro ed w4 ⟨z, rfl, rfl, hz⟩
            have B0_c0 := B0.cell 0 rfl; have B0_c1 := B0.cell 1 rfl; have B0_c2 := B0.cell 2 rfl; have B0_c3 := B0.cell 3 rfl; have B0_f0 := B0.free 0; have B0_f1 := B0.free 1; have B0_f2 := B0.free 2; have B0_f3 := B0.free 3; have B0_lt := B0.lt
            have hfin : Rn (magVal xs e) z := float_done HV.out hu hu' HCUT.out (by omega) HUP.out hz
            cases neg
            · go_wp2
              go_ret
              exact ⟨z, rfl, hx0, hfin⟩
            · have hng : ∀ w, (Op.unary UnOp.neg (.float .f64 z)).run Tryd.prog w = .ok (.float .f64 (Op.negFloat .f64 z)) w := fun _ => rfl
              go_wp2
              go_ret
              exact ⟨_, rfl, hx0, hfin.neg⟩
          · have HUP : Hid (1 = keptOf u cut + (upOf u true cut).toNat) := Lib.hid (by unfold upOf; rw [HK.out, HG.out, HH.out, c2]; simp)
            go_wp2_with fail
            clear B0_c0 B0_c1 B0_c2 B0_c3 B0_f0 B0_f1 B0_f2 B0_f3 B0_lt
            refine (Ldexp_any (1) (low + (cut : Int)) _ (by omega) (by omega) (by omega)).mono ?_
            rintro ed w4 ⟨z, rfl, rfl, hz⟩
            have B0_c0 := B0.cell 0 rfl; have B0_c1 := B0.cell 1 rfl; have B0_c2 := B0.cell 2 rfl; have B0_c3 := B0.cell 3 rfl; have B0_f0 := B0.free 0; have B0_f1 := B0.free 1; have B0_f2 := B0.free 2; have B0_f3 := B0.free 3; have B0_lt := B0.lt
            have hfin : Rn (magVal xs e) z := float_done HV.out hu hu' HCUT.out (by omega) HUP.out hz
            cases neg
            · go_wp2
              go_ret
              exact ⟨z, rfl, hx0, hfin⟩
            · have hng : ∀ w, (Op.unary UnOp.neg (.float .f64 z)).run Tryd.prog w = .ok (.float .f64 (Op.negFloat .f64 z)) w := fun _ => rfl
              go_wp2
              go_ret
              exact ⟨_, rfl, hx0, hfin.neg⟩
        · have c2' : ((u : Int) == (h : Int)) = false := by simp; omega
          have HUP : Hid (0 = keptOf u cut + (upOf u more cut).toNat) := Lib.hid (by unfold upOf; rw [HK.out, HG.out, HH.out, decide_eq_false c1, beq_eq_false_iff_ne.2 c2]; simp)
          go_wp2_with fail
          clear B0_c0 B0_c1 B0_c2 B0_c3 B0_f0 B0_f1 B0_f2 B0_f3 B0_lt
          refine (Ldexp_any (0) (low + (cut : Int)) _ (by omega) (by omega) (by omega)).mono ?_
          rintro ed w4 ⟨z, rfl, rfl, hz⟩
          have B0_c0 := B0.cell 0 rfl; have B0_c1 := B0.cell 1 rfl; have B0_c2 := B0.cell 2 rfl; have B0_c3 := B0.cell 3 rfl; have B0_f0 := B0.free 0; have B0_f1 := B0.free 1; have B0_f2 := B0.free 2; have B0_f3 := B0.free 3; have B0_lt := B0.lt
          have hfin : Rn (magVal xs e) z := float_done HV.out hu hu' HCUT.out (by omega) HUP.out hz
          cases neg
          · go_wp2
            go_ret
            exact ⟨z, rfl, hx0, hfin⟩
          · have hng : ∀ w, (Op.unary UnOp.neg (.float .f64 z)).run Tryd.prog w = .ok (.float .f64 (Op.negFloat .f64 z)) w := fun _ => rfl
            go_wp2
            go_ret
            exact ⟨_, rfl, hx0, hfin.neg⟩
/-- Num.Float. -/
def FloatPost (w : World) (q : Rat) (ed : Ending) (w' : World) : Prop := ∃ z, ed = .returned (.float .f64 z) ∧ Ext w w' ∧ Rn q z
theorem rn_zero : Rn 0 0 := by have := rn_fl fin_zero (by omega); rwa [fl_zero] at this
theorem float_any {v : Value} {q : Option Rat} (w : World) (h : IsNum w v q) :
    Calls Tryd.prog 34 #[v] w (FloatPost w (q.getD 0)) := by
  cases q with
  | none =>
    subst h
    exact (float_none none 0 0 false true w).mono fun ed w' ⟨h1, h2⟩ => ⟨0, h1, h2, rn_zero⟩
  | some q =>
    obtain ⟨xs, e, neg, s, rfl, hc, hlt, hok, rfl⟩ := h
    obtain ⟨a, c, rfl, -⟩ := id hc
    rw [u32s_length] at hc ⊢
    rcases hok with ⟨rfl, rfl, rfl⟩ | ⟨h0, hf, hl, h1, h2⟩
    · refine (float_none a c 0 false false w).mono fun ed w' ⟨h1, h2⟩ => ⟨0, h1, h2, ?_⟩
      simp only [Option.getD_some]; rw [magVal_nil, sgn_zero]; exact rn_zero
    · obtain ⟨b, o, c', hs, -, -, hcell⟩ := hc.open_u32 h0
      simp only [Value.slice.injEq] at hs
      obtain ⟨rfl, -, rfl⟩ := hs
      have hb := NumOk.bd (.inr ⟨h0, hf, hl, h1, h2⟩ : NumOk xs e neg) hlt
      exact float_core b o xs.length _ e xs neg w h0 (Lib.hid rfl) (by have := hb.1; omega) (by have := hb.2.1; omega) (by have := hb.2.2; omega) hlt (Lib.hid hl) h1 hcell
end Go.Proofs.YthnmjkjllhlcjaaDoor
