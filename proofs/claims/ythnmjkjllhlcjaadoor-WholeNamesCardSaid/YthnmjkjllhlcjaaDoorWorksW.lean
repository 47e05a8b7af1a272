/- The walk of law 01's examples ('works'); no condition. -/
import Derived.Test.YthnmjkjllhlcjaaDoorLawB
namespace Go.Proofs.YthnmjkjllhlcjaaDoor
open Go Go.RowKit Go.Steady Go.Tri
set_option maxRecDepth 100000

theorem fl_half : fl 4602678819172646912 = p2 (-1) := by
  rw [fl_lit (m := 1) (k := 52) (e := -1) (neg := false) (by decide) (by decide) (by decide) (by decide)]; simp [sgn]
theorem fl_quarter : fl 4598175219545276416 = p2 (-2) := by
  rw [fl_lit (m := 1) (k := 52) (e := -2) (neg := false) (by decide) (by decide) (by decide) (by decide)]; simp [sgn]
theorem fl_34 : fl 4604930618986332160 = 3 * p2 (-2) := by
  rw [fl_lit (m := 3) (k := 51) (e := -2) (neg := false) (by decide) (by decide) (by decide) (by decide)]; simp [sgn]
theorem fl_m15 : fl 13848005904210853888 = -15 := by
  rw [fl_lit (m := 15) (k := 49) (e := 0) (neg := true) (by decide) (by decide) (by decide) (by decide), p2_zero]; simp [sgn]
theorem p2_half : p2 (-1) = 2 * p2 (-2) := by rw [show (-1 : Int) = -2 + 1 by omega]; exact p2_succ (-2)
theorem works_a : fl 4602678819172646912 + fl 4598175219545276416 = 3 * p2 (-2) := by rw [fl_half, fl_quarter, p2_half]; grind
theorem rn_100 : Rn (((1 : Int) : Rat) * p2 100 + ((1 : Int) : Rat)) 5057542381537067008 := by
  have h1 : ((1 : Int) : Rat) = 1 := rfl
  have e0 : rv 5057542381537067008 = p2 100 := by
    have h := rv_form (E := 1122) (k := 4503599627370496) (by omega) (.inr (by omega))
    rw [show 1122 * 4503599627370496 + 4503599627370496 = 5057542381537067008 by omega] at h
    rw [h, show (4503599627370496 : Nat) = 2 ^ 52 by decide, ← p2_nat, ← p2_add]; rfl
  have e1 : rv 5057542381537067009 = p2 100 + p2 48 := by
    have h := rv_form (E := 1122) (k := 4503599627370497) (by omega) (.inr (by omega))
    rw [show 1122 * 4503599627370496 + 4503599627370497 = 5057542381537067009 by omega] at h
    rw [h, show (4503599627370497 : Nat) = 2 ^ 52 + 1 by decide, Rat.natCast_add, ← p2_nat, Rat.add_mul, ← p2_add]
    show p2 100 + ((1 : Nat) : Rat) * p2 48 = _
    rw [show ((1 : Nat) : Rat) = 1 from rfl, Rat.one_mul]
  have e2 : rv 5057542381537067007 ≤ p2 100 := by rw [← e0]; exact rv_le (by omega)
  have h48 := p2_succ 47
  rw [show (47 : Int) + 1 = 48 by omega] at h48
  have h47 : p2 0 < p2 47 := p2_lt (by omega)
  rw [p2_zero] at h47
  rw [h1, Rat.one_mul]
  have hp := p2_pos 100
  refine rn_between (by omega) (by grind) ⟨.inl ?_, .inr (.inl ?_)⟩
  · show _ < rv 5057542381537067008 + rv 5057542381537067009
    rw [e0, e1]; grind
  · show rv 5057542381537067007 + rv 5057542381537067008 < _
    rw [e0]; grind
theorem hi_a : hiQ (fl 4602678819172646912 + fl 4598175219545276416) = -1 := by
  refine hiQ_eq (.inr ?_)
  rw [works_a]
  have h1 := p2_half
  have h2 := p2_succ (-1)
  rw [show (-1 : Int) + 1 = 0 by omega] at h2
  have h3 := p2_pos (-2)
  rw [ab_of_nonneg (by grind), show (-1 : Int) + 1 = 0 by omega]
  grind
theorem lo_a : loQ (fl 4602678819172646912 + fl 4598175219545276416) = -2 := by
  refine loQ_eq (.inr ⟨1, ?_⟩)
  rw [works_a]
  have h3 := p2_pos (-2)
  rw [ab_of_nonneg (by grind)]
  rfl
theorem lo_c : loQ (((1 : Int) : Rat) * p2 100 + ((1 : Int) : Rat)) = 0 := by
  refine loQ_eq (.inr ⟨2 ^ 99, ?_⟩)
  have h1 : ((1 : Int) : Rat) = 1 := rfl
  have hp := p2_pos 100
  rw [ab_of_nonneg (by grind), p2_zero, h1, Rat.natCast_add, Rat.natCast_mul, ← p2_nat]
  have := p2_succ 99
  show 1 * p2 (99 + 1) + 1 = _
  rw [this]
  show _ = (2 * p2 99 + 1) * 1
  grind
theorem works_b : ((3 : Int) : Rat) * ((-5 : Int) : Rat) = -15 := by rw [← Rat.intCast_mul]; rfl
set_option maxHeartbeats 3200000 in
theorem works_any (w : World) (hT : Tab w) : Calls Tryd.prog 23 #[] w fun ed w' => ed = .returned (.bool true) ∧ Ext w w' := by
  have o1 := order_self (x := 4604930618986332160) ⟨by omega, by omega⟩
  have o2 := order_self (x := 13848005904210853888) ⟨by omega, by omega⟩
  have o3 := order_self (x := 5057542381537067008) ⟨by omega, by omega⟩
  go_enter Tryd.func23, Tryd.ntmps23
  go_wp2_with fail
  refine (of_any 4602678819172646912 _ (by omega) hT).mono ?_
  rintro ed w1 ⟨v1, rfl, hx1, n1⟩
  go_wp2_with fail
  refine (of_any 4598175219545276416 _ (by omega) (hT.ext hx1)).mono ?_
  rintro ed w2 ⟨v2, rfl, hx2, n2⟩
  go_wp2_with fail
  refine (add_any _ ((hT.ext hx1).ext hx2) (n1.ext hx2) n2).mono ?_
  rintro ed w3 ⟨v3, rfl, hx3, n3⟩
  replace hx3 := (hx1.trans hx2).trans hx3
  replace hT := hT.ext hx3
  clear hx1 hx2 n1 n2
  rw [ofF_fin (by decide), ofF_fin (by decide), addO_sz (n := 1074) (fl_sz (by decide)) (fl_sz (by decide)) (by omega)] at n3
  obtain ⟨a, n, c, e, neg, non, rfl, n3⟩ := n3.kept
  have B1 := Box.new w3 #[.slice a n c, .int .i64 e, .bool neg, .bool non] 29
  go_wp2_with fail
  refine (int_any 3 _ (by omega) (by omega) (hT.ext (by (with_reducible (repeat (first | exact Ext.refl _ | refine Ext.drewN ?_ _ | refine Ext.drew ?_ | refine Ext.alloc ?_ _ | refine Ext.setCell ?_ (by first | (dsimp only; omega) | simp | (simp; omega)) _)))))).mono ?_
  rintro ed w4 ⟨v4, rfl, hx4, n4⟩
  replace B1 := B1.ext hx4
  replace hx4 := Ext.trans (show Ext w3 _ by (with_reducible (repeat (first | exact Ext.refl _ | refine Ext.drewN ?_ _ | refine Ext.drew ?_ | refine Ext.alloc ?_ _ | refine Ext.setCell ?_ (by first | (dsimp only; omega) | simp | (simp; omega)) _)))) hx4
  go_wp2_with fail
  refine (int_any (-5) _ (by omega) (by omega) (hT.ext hx4)).mono ?_
  rintro ed w5 ⟨v5, rfl, hx5, n5⟩
  go_wp2_with fail
  refine (mul_any _ ((hT.ext hx4).ext hx5) (n4.ext hx5) n5).mono ?_
  rintro ed w6 ⟨v6, rfl, hx6, n6⟩
  replace B1 := (B1.ext hx5).ext hx6
  replace hx6 := (hx4.trans hx5).trans hx6
  replace hT := hT.ext hx6
  replace n3 := n3.ext hx6
  replace hx3 := hx3.trans hx6
  clear hx4 hx5 n4 n5 hx6
  rw [mulO_sz (n := 64) (m := 64) (int_sz (by omega) (by omega)) (int_sz (by omega) (by omega)) (by omega)] at n6
  obtain ⟨a', n', c', e', neg', non', rfl, n6⟩ := n6.kept
  have B2 := Box.new w6 #[.slice a' n' c', .int .i64 e', .bool neg', .bool non'] 29
  replace B1 := B1.alloc (.cells #[.slice a' n' c', .int .i64 e', .bool neg', .bool non'] 29)
  go_wp2_with fail
  refine (int_any 1 _ (by omega) (by omega) (hT.ext (by (with_reducible (repeat (first | exact Ext.refl _ | refine Ext.drewN ?_ _ | refine Ext.drew ?_ | refine Ext.alloc ?_ _ | refine Ext.setCell ?_ (by first | (dsimp only; omega) | simp | (simp; omega)) _)))))).mono ?_
  rintro ed w7 ⟨v7, rfl, hx7, n7⟩
  replace B1 := B1.ext hx7
  replace B2 := B2.ext hx7
  replace hx7 := Ext.trans (show Ext w6 _ by (with_reducible (repeat (first | exact Ext.refl _ | refine Ext.drewN ?_ _ | refine Ext.drew ?_ | refine Ext.alloc ?_ _ | refine Ext.setCell ?_ (by first | (dsimp only; omega) | simp | (simp; omega)) _)))) hx7
  go_wp2_with fail
  refine (shift_any 100 _ (hT.ext hx7) n7).mono ?_
  rintro ed w8 ⟨v8, rfl, hx8, n8⟩
  go_wp2_with fail
  refine (int_any 1 _ (by omega) (by omega) ((hT.ext hx7).ext hx8)).mono ?_
  rintro ed w9 ⟨v9, rfl, hx9, n9⟩
  rw [shiftO_sz (n := 64) (m := 101) (int_sz (by omega) (by omega)) (by omega) (by omega) (by omega)] at n8
  go_wp2_with fail
  refine (add_any _ (((hT.ext hx7).ext hx8).ext hx9) (n8.ext hx9) n9).mono ?_
  rintro ed w10 ⟨v10, rfl, hx10, n10⟩
  replace B1 := ((B1.ext hx8).ext hx9).ext hx10
  replace B2 := ((B2.ext hx8).ext hx9).ext hx10
  replace hx10 := ((hx7.trans hx8).trans hx9).trans hx10
  replace hT := hT.ext hx10
  replace n3 := n3.ext hx10
  replace n6 := n6.ext hx10
  replace hx3 := hx3.trans hx10
  clear hx7 hx8 hx9 n7 n8 n9 hx10
  rw [addO_sz (n := 165) (Sz.shift (n := 64) (m := 101) (int_sz (by omega) (by omega)) (by omega) (by omega)) ((int_sz (by omega) (by omega)).mono (by omega)) (by omega)] at n10
  obtain ⟨a'', n'', c'', e'', neg'', non'', rfl, n10⟩ := n10.kept
  have B3 := Box.new w10 #[.slice a'' n'' c'', .int .i64 e'', .bool neg'', .bool non''] 29
  replace B1 := B1.alloc (.cells #[.slice a'' n'' c'', .int .i64 e'', .bool neg'', .bool non''] 29)
  replace B2 := B2.alloc (.cells #[.slice a'' n'' c'', .int .i64 e'', .bool neg'', .bool non''] 29)
  have hxa : Ext w10 (w10.alloc (.cells #[.slice a'' n'' c'', .int .i64 e'', .bool neg'', .bool non''] 29)) := (Ext.refl _).alloc _
  replace hT := hT.ext hxa
  replace n3 := n3.ext hxa
  replace n6 := n6.ext hxa
  replace n10 := n10.ext hxa
  replace hx3 := hx3.trans hxa
  clear hxa
  go_wp2_with fail
  refine wp_steady_tail 44 43 57 (by kernel_rfl) (by as_aux_lemma => kernel_rfl) rfl rfl ?_
  simp only [List.take_succ_cons, List.take_zero, List.drop_succ_cons, List.drop_zero, List.map_cons, List.map_nil]
  refine walk_q [(1, none)] (by kernel_rfl) rfl ?_
  apply Exists.intro
  refine ⟨fun b w' hx hs => ?_, ?_⟩
  · obtain ⟨h0, -⟩ := hs
    change _ = _ at h0
    rw [eval_tmp] at h0
    have hx_B1 := B1.ext hx
    have kB1_0 := hx_B1.cell 0 rfl
    have kB1_1 := hx_B1.cell 1 rfl
    have kB1_2 := hx_B1.cell 2 rfl
    have kB1_3 := hx_B1.cell 3 rfl
    have hx_B2 := B2.ext hx
    have kB2_0 := hx_B2.cell 0 rfl
    have kB2_1 := hx_B2.cell 1 rfl
    have kB2_2 := hx_B2.cell 2 rfl
    have kB2_3 := hx_B2.cell 3 rfl
    have hx_B3 := B3.ext hx
    have kB3_0 := hx_B3.cell 0 rfl
    have kB3_1 := hx_B3.cell 1 rfl
    have kB3_2 := hx_B3.cell 2 rfl
    have kB3_3 := hx_B3.cell 3 rfl
    go_simp
    try go_ints
    rfl
  refine walk_c [(14, some 0)] (by kernel_rfl) rfl (fun _ v => v = .float .f64 4604930618986332160) (fun _ _ _ x h => by first | exact h | exact h.ext x) (fun b w' hx hs => ?_) ?_
  · as_aux_lemma =>
      obtain ⟨h0, -⟩ := hs
      change _ = _ at h0
      rw [eval_tmp] at h0
      go_simp
      refine upon_enter ((float_any _ (n3.ext hx)).mono fun ed w2 ⟨z, he, hx2, hr⟩ => ⟨_, he, hx2, ?_⟩)
      have hval : Rn (fl 4602678819172646912 + fl 4598175219545276416) 4604930618986332160 := rn_lit (by decide) (by omega) (by rw [fl_34, works_a])
      rw [rn_same hr hval (by omega)]
  refine walk_q [(15, some 0)] (by kernel_rfl) rfl ?_
  apply Exists.intro
  refine ⟨fun b w' hx hs => ?_, ?_⟩
  · obtain ⟨h0, -⟩ := hs
    change _ = _ at h0
    rw [eval_tmp] at h0
    go_simp
    try go_ints
    rfl
  refine walk_q [(16, some 0)] (by kernel_rfl) rfl ?_
  apply Exists.intro
  refine ⟨fun b w' hx hs => ?_, ?_⟩
  · obtain ⟨h0, -⟩ := hs
    change _ = _ at h0
    rw [eval_tmp] at h0
    go_simp
    try go_ints
    rfl
  refine walk_qg [(1, none), (17, some 0)] (by kernel_rfl) 3 17 true rfl rfl (fun b w' hx hs => by obtain ⟨-, h1, -⟩ := hs; exact h1) ?_
  apply Exists.intro
  refine ⟨fun b w' hx hs => ?_, ?_⟩
  · obtain ⟨h0, h1, -⟩ := hs
    change _ = _ at h0
    change _ = _ at h1
    rw [eval_tmp] at h0 h1
    go_simp
    try go_ints
    rfl
  refine walk_qg [(18, some 0), (17, some 1)] (by kernel_rfl) 3 17 true rfl rfl (fun b w' hx hs => by obtain ⟨-, h1, -⟩ := hs; exact h1) ?_
  apply Exists.intro
  refine ⟨fun b w' hx hs => ?_, ?_⟩
  · obtain ⟨h0, h1, -⟩ := hs
    change _ = _ at h0
    change _ = _ at h1
    rw [eval_tmp] at h0 h1
    have hx_B1 := B1.ext hx
    have kB1_0 := hx_B1.cell 0 rfl
    have kB1_1 := hx_B1.cell 1 rfl
    have kB1_2 := hx_B1.cell 2 rfl
    have kB1_3 := hx_B1.cell 3 rfl
    have hx_B2 := B2.ext hx
    have kB2_0 := hx_B2.cell 0 rfl
    have kB2_1 := hx_B2.cell 1 rfl
    have kB2_2 := hx_B2.cell 2 rfl
    have kB2_3 := hx_B2.cell 3 rfl
    have hx_B3 := B3.ext hx
    have kB3_0 := hx_B3.cell 0 rfl
    have kB3_1 := hx_B3.cell 1 rfl
    have kB3_2 := hx_B3.cell 2 rfl
    have kB3_3 := hx_B3.cell 3 rfl
    go_simp
    try go_ints
    rfl
  refine walk_cg [(19, some 0), (17, some 2)] (by kernel_rfl) 3 17 true rfl rfl (fun b w' hx hs => by obtain ⟨-, h1, -⟩ := hs; exact h1) (fun _ v => v = .int .i64 (-1)) (fun _ _ _ x h => by first | exact h | exact h.ext x) (fun b w' hx hs => ?_) ?_
  · as_aux_lemma =>
      obtain ⟨h0, h1, -⟩ := hs
      change _ = _ at h0
      change _ = _ at h1
      rw [eval_tmp] at h0 h1
      go_simp
      refine upon_enter ((high_num _ (n3.ext hx)).mono fun ed w2 ⟨he, hx2⟩ => ⟨_, he, hx2, ?_⟩)
      rw [show Option.getD (some (fl 4602678819172646912 + fl 4598175219545276416)) 0 = fl 4602678819172646912 + fl 4598175219545276416 from rfl]
      have hval : hiQ (fl 4602678819172646912 + fl 4598175219545276416) = -1 := hi_a
      rw [hval]
  refine walk_qg [(20, some 0), (17, some 3)] (by kernel_rfl) 3 17 true rfl rfl (fun b w' hx hs => by obtain ⟨-, h1, -⟩ := hs; exact h1) ?_
  apply Exists.intro
  refine ⟨fun b w' hx hs => ?_, ?_⟩
  · obtain ⟨h0, h1, -⟩ := hs
    change _ = _ at h0
    change _ = _ at h1
    rw [eval_tmp] at h0 h1
    go_simp
    try go_ints
    rfl
  refine walk_q [(17, some 4), (21, some 0)] (by kernel_rfl) rfl ?_
  apply Exists.intro
  refine ⟨fun b w' hx hs => ?_, ?_⟩
  · obtain ⟨h0, h1, -⟩ := hs
    change _ = _ at h0
    change _ = _ at h1
    rw [eval_tmp] at h0 h1
    go_simp
    try go_ints
    rfl
  refine walk_q [(22, some 0)] (by kernel_rfl) rfl ?_
  apply Exists.intro
  refine ⟨fun b w' hx hs => ?_, ?_⟩
  · obtain ⟨h0, -⟩ := hs
    change _ = _ at h0
    rw [eval_tmp] at h0
    go_simp
    try go_ints
    rfl
  refine walk_qg [(1, none), (23, some 0)] (by kernel_rfl) 9 23 true rfl rfl (fun b w' hx hs => by obtain ⟨-, h1, -⟩ := hs; exact h1) ?_
  apply Exists.intro
  refine ⟨fun b w' hx hs => ?_, ?_⟩
  · obtain ⟨h0, h1, -⟩ := hs
    change _ = _ at h0
    change _ = _ at h1
    rw [eval_tmp] at h0 h1
    go_simp
    try go_ints
    rfl
  refine walk_qg [(24, some 0), (23, some 1)] (by kernel_rfl) 9 23 true rfl rfl (fun b w' hx hs => by obtain ⟨-, h1, -⟩ := hs; exact h1) ?_
  apply Exists.intro
  refine ⟨fun b w' hx hs => ?_, ?_⟩
  · obtain ⟨h0, h1, -⟩ := hs
    change _ = _ at h0
    change _ = _ at h1
    rw [eval_tmp] at h0 h1
    have hx_B1 := B1.ext hx
    have kB1_0 := hx_B1.cell 0 rfl
    have kB1_1 := hx_B1.cell 1 rfl
    have kB1_2 := hx_B1.cell 2 rfl
    have kB1_3 := hx_B1.cell 3 rfl
    have hx_B2 := B2.ext hx
    have kB2_0 := hx_B2.cell 0 rfl
    have kB2_1 := hx_B2.cell 1 rfl
    have kB2_2 := hx_B2.cell 2 rfl
    have kB2_3 := hx_B2.cell 3 rfl
    have hx_B3 := B3.ext hx
    have kB3_0 := hx_B3.cell 0 rfl
    have kB3_1 := hx_B3.cell 1 rfl
    have kB3_2 := hx_B3.cell 2 rfl
    have kB3_3 := hx_B3.cell 3 rfl
    go_simp
    try go_ints
    rfl
  refine walk_cg [(25, some 0), (23, some 2)] (by kernel_rfl) 9 23 true rfl rfl (fun b w' hx hs => by obtain ⟨-, h1, -⟩ := hs; exact h1) (fun _ v => v = .int .i64 (-2)) (fun _ _ _ x h => by first | exact h | exact h.ext x) (fun b w' hx hs => ?_) ?_
  · as_aux_lemma =>
      obtain ⟨h0, h1, -⟩ := hs
      change _ = _ at h0
      change _ = _ at h1
      rw [eval_tmp] at h0 h1
      go_simp
      refine upon_enter ((low_num _ (hT.ext hx) (n3.ext hx)).mono fun ed w2 ⟨he, hx2⟩ => ⟨_, he, hx2, ?_⟩)
      rw [show Option.getD (some (fl 4602678819172646912 + fl 4598175219545276416)) 0 = fl 4602678819172646912 + fl 4598175219545276416 from rfl]
      have hval : loQ (fl 4602678819172646912 + fl 4598175219545276416) = -2 := lo_a
      rw [hval]
  refine walk_qg [(26, some 0), (23, some 3)] (by kernel_rfl) 9 23 true rfl rfl (fun b w' hx hs => by obtain ⟨-, h1, -⟩ := hs; exact h1) ?_
  apply Exists.intro
  refine ⟨fun b w' hx hs => ?_, ?_⟩
  · obtain ⟨h0, h1, -⟩ := hs
    change _ = _ at h0
    change _ = _ at h1
    rw [eval_tmp] at h0 h1
    go_simp
    try go_ints
    rfl
  refine walk_q [(23, some 4), (27, some 0)] (by kernel_rfl) rfl ?_
  apply Exists.intro
  refine ⟨fun b w' hx hs => ?_, ?_⟩
  · obtain ⟨h0, h1, -⟩ := hs
    change _ = _ at h0
    change _ = _ at h1
    rw [eval_tmp] at h0 h1
    go_simp
    try go_ints
    rfl
  refine walk_q [(28, some 0)] (by kernel_rfl) rfl ?_
  apply Exists.intro
  refine ⟨fun b w' hx hs => ?_, ?_⟩
  · obtain ⟨h0, -⟩ := hs
    change _ = _ at h0
    rw [eval_tmp] at h0
    go_simp
    try go_ints
    rfl
  refine walk_qg [(2, none), (29, some 0)] (by kernel_rfl) 15 29 true rfl rfl (fun b w' hx hs => by obtain ⟨-, h1, -⟩ := hs; exact h1) ?_
  apply Exists.intro
  refine ⟨fun b w' hx hs => ?_, ?_⟩
  · obtain ⟨h0, h1, -⟩ := hs
    change _ = _ at h0
    change _ = _ at h1
    rw [eval_tmp] at h0 h1
    have hx_B1 := B1.ext hx
    have kB1_0 := hx_B1.cell 0 rfl
    have kB1_1 := hx_B1.cell 1 rfl
    have kB1_2 := hx_B1.cell 2 rfl
    have kB1_3 := hx_B1.cell 3 rfl
    have hx_B2 := B2.ext hx
    have kB2_0 := hx_B2.cell 0 rfl
    have kB2_1 := hx_B2.cell 1 rfl
    have kB2_2 := hx_B2.cell 2 rfl
    have kB2_3 := hx_B2.cell 3 rfl
    have hx_B3 := B3.ext hx
    have kB3_0 := hx_B3.cell 0 rfl
    have kB3_1 := hx_B3.cell 1 rfl
    have kB3_2 := hx_B3.cell 2 rfl
    have kB3_3 := hx_B3.cell 3 rfl
    go_simp
    try go_ints
    rfl
  refine walk_cg [(30, some 0), (29, some 1)] (by kernel_rfl) 15 29 true rfl rfl (fun b w' hx hs => by obtain ⟨-, h1, -⟩ := hs; exact h1) (fun _ v => v = .float .f64 13848005904210853888) (fun _ _ _ x h => by first | exact h | exact h.ext x) (fun b w' hx hs => ?_) ?_
  · as_aux_lemma =>
      obtain ⟨h0, h1, -⟩ := hs
      change _ = _ at h0
      change _ = _ at h1
      rw [eval_tmp] at h0 h1
      go_simp
      refine upon_enter ((float_any _ (n6.ext hx)).mono fun ed w2 ⟨z, he, hx2, hr⟩ => ⟨_, he, hx2, ?_⟩)
      have hval : Rn (((3 : Int) : Rat) * ((-5 : Int) : Rat)) 13848005904210853888 := rn_lit (by decide) (by omega) (by rw [fl_m15, works_b])
      rw [rn_same hr hval (by omega)]
  refine walk_qg [(31, some 0), (29, some 2)] (by kernel_rfl) 15 29 true rfl rfl (fun b w' hx hs => by obtain ⟨-, h1, -⟩ := hs; exact h1) ?_
  apply Exists.intro
  refine ⟨fun b w' hx hs => ?_, ?_⟩
  · obtain ⟨h0, h1, -⟩ := hs
    change _ = _ at h0
    change _ = _ at h1
    rw [eval_tmp] at h0 h1
    go_simp
    try go_ints
    rfl
  refine walk_q [(29, some 3), (32, some 0)] (by kernel_rfl) rfl ?_
  apply Exists.intro
  refine ⟨fun b w' hx hs => ?_, ?_⟩
  · obtain ⟨h0, h1, -⟩ := hs
    change _ = _ at h0
    change _ = _ at h1
    rw [eval_tmp] at h0 h1
    go_simp
    try go_ints
    rfl
  refine walk_q [(33, some 0)] (by kernel_rfl) rfl ?_
  apply Exists.intro
  refine ⟨fun b w' hx hs => ?_, ?_⟩
  · obtain ⟨h0, -⟩ := hs
    change _ = _ at h0
    rw [eval_tmp] at h0
    go_simp
    try go_ints
    rfl
  refine walk_qg [(2, none), (34, some 0)] (by kernel_rfl) 20 34 true rfl rfl (fun b w' hx hs => by obtain ⟨-, h1, -⟩ := hs; exact h1) ?_
  apply Exists.intro
  refine ⟨fun b w' hx hs => ?_, ?_⟩
  · obtain ⟨h0, h1, -⟩ := hs
    change _ = _ at h0
    change _ = _ at h1
    rw [eval_tmp] at h0 h1
    have hx_B1 := B1.ext hx
    have kB1_0 := hx_B1.cell 0 rfl
    have kB1_1 := hx_B1.cell 1 rfl
    have kB1_2 := hx_B1.cell 2 rfl
    have kB1_3 := hx_B1.cell 3 rfl
    have hx_B2 := B2.ext hx
    have kB2_0 := hx_B2.cell 0 rfl
    have kB2_1 := hx_B2.cell 1 rfl
    have kB2_2 := hx_B2.cell 2 rfl
    have kB2_3 := hx_B2.cell 3 rfl
    have hx_B3 := B3.ext hx
    have kB3_0 := hx_B3.cell 0 rfl
    have kB3_1 := hx_B3.cell 1 rfl
    have kB3_2 := hx_B3.cell 2 rfl
    have kB3_3 := hx_B3.cell 3 rfl
    go_simp
    try go_ints
    rfl
  refine walk_cg [(35, some 0), (34, some 1)] (by kernel_rfl) 20 34 true rfl rfl (fun b w' hx hs => by obtain ⟨-, h1, -⟩ := hs; exact h1) (fun _ v => v = .int .i64 (-1)) (fun _ _ _ x h => by first | exact h | exact h.ext x) (fun b w' hx hs => ?_) ?_
  · as_aux_lemma =>
      obtain ⟨h0, h1, -⟩ := hs
      change _ = _ at h0
      change _ = _ at h1
      rw [eval_tmp] at h0 h1
      go_simp
      refine upon_enter ((sign_any _ (n6.ext hx)).mono fun ed w2 ⟨he, hx2⟩ => ⟨_, he, hx2, ?_⟩)
      rw [show sgO (some (((3 : Int) : Rat) * ((-5 : Int) : Rat))) = sg (((3 : Int) : Rat) * ((-5 : Int) : Rat)) from rfl]
      have hval : sg (((3 : Int) : Rat) * ((-5 : Int) : Rat)) = -1 := (by rw [works_b]; exact sg_neg (by decide))
      rw [hval]
  refine walk_qg [(36, some 0), (34, some 2)] (by kernel_rfl) 20 34 true rfl rfl (fun b w' hx hs => by obtain ⟨-, h1, -⟩ := hs; exact h1) ?_
  apply Exists.intro
  refine ⟨fun b w' hx hs => ?_, ?_⟩
  · obtain ⟨h0, h1, -⟩ := hs
    change _ = _ at h0
    change _ = _ at h1
    rw [eval_tmp] at h0 h1
    go_simp
    try go_ints
    rfl
  refine walk_q [(34, some 3), (37, some 0)] (by kernel_rfl) rfl ?_
  apply Exists.intro
  refine ⟨fun b w' hx hs => ?_, ?_⟩
  · obtain ⟨h0, h1, -⟩ := hs
    change _ = _ at h0
    change _ = _ at h1
    rw [eval_tmp] at h0 h1
    go_simp
    try go_ints
    rfl
  refine walk_q [(38, some 0)] (by kernel_rfl) rfl ?_
  apply Exists.intro
  refine ⟨fun b w' hx hs => ?_, ?_⟩
  · obtain ⟨h0, -⟩ := hs
    change _ = _ at h0
    rw [eval_tmp] at h0
    go_simp
    try go_ints
    rfl
  refine walk_qg [(3, none), (39, some 0)] (by kernel_rfl) 25 39 true rfl rfl (fun b w' hx hs => by obtain ⟨-, h1, -⟩ := hs; exact h1) ?_
  apply Exists.intro
  refine ⟨fun b w' hx hs => ?_, ?_⟩
  · obtain ⟨h0, h1, -⟩ := hs
    change _ = _ at h0
    change _ = _ at h1
    rw [eval_tmp] at h0 h1
    have hx_B1 := B1.ext hx
    have kB1_0 := hx_B1.cell 0 rfl
    have kB1_1 := hx_B1.cell 1 rfl
    have kB1_2 := hx_B1.cell 2 rfl
    have kB1_3 := hx_B1.cell 3 rfl
    have hx_B2 := B2.ext hx
    have kB2_0 := hx_B2.cell 0 rfl
    have kB2_1 := hx_B2.cell 1 rfl
    have kB2_2 := hx_B2.cell 2 rfl
    have kB2_3 := hx_B2.cell 3 rfl
    have hx_B3 := B3.ext hx
    have kB3_0 := hx_B3.cell 0 rfl
    have kB3_1 := hx_B3.cell 1 rfl
    have kB3_2 := hx_B3.cell 2 rfl
    have kB3_3 := hx_B3.cell 3 rfl
    go_simp
    try go_ints
    rfl
  refine walk_cg [(40, some 0), (39, some 1)] (by kernel_rfl) 25 39 true rfl rfl (fun b w' hx hs => by obtain ⟨-, h1, -⟩ := hs; exact h1) (fun _ v => v = .float .f64 5057542381537067008) (fun _ _ _ x h => by first | exact h | exact h.ext x) (fun b w' hx hs => ?_) ?_
  · as_aux_lemma =>
      obtain ⟨h0, h1, -⟩ := hs
      change _ = _ at h0
      change _ = _ at h1
      rw [eval_tmp] at h0 h1
      go_simp
      refine upon_enter ((float_any _ (n10.ext hx)).mono fun ed w2 ⟨z, he, hx2, hr⟩ => ⟨_, he, hx2, ?_⟩)
      have hval : Rn (((1 : Int) : Rat) * p2 100 + ((1 : Int) : Rat)) 5057542381537067008 := rn_100
      rw [rn_same hr hval (by omega)]
  refine walk_qg [(41, some 0), (39, some 2)] (by kernel_rfl) 25 39 true rfl rfl (fun b w' hx hs => by obtain ⟨-, h1, -⟩ := hs; exact h1) ?_
  apply Exists.intro
  refine ⟨fun b w' hx hs => ?_, ?_⟩
  · obtain ⟨h0, h1, -⟩ := hs
    change _ = _ at h0
    change _ = _ at h1
    rw [eval_tmp] at h0 h1
    go_simp
    try go_ints
    rfl
  refine walk_q [(39, some 3), (42, some 0)] (by kernel_rfl) rfl ?_
  apply Exists.intro
  refine ⟨fun b w' hx hs => ?_, ?_⟩
  · obtain ⟨h0, h1, -⟩ := hs
    change _ = _ at h0
    change _ = _ at h1
    rw [eval_tmp] at h0 h1
    go_simp
    try go_ints
    rfl
  refine walk_q [(43, some 0)] (by kernel_rfl) rfl ?_
  apply Exists.intro
  refine ⟨fun b w' hx hs => ?_, ?_⟩
  · obtain ⟨h0, -⟩ := hs
    change _ = _ at h0
    rw [eval_tmp] at h0
    go_simp
    try go_ints
    rfl
  refine walk_qg [(3, none), (44, some 0)] (by kernel_rfl) 30 44 true rfl rfl (fun b w' hx hs => by obtain ⟨-, h1, -⟩ := hs; exact h1) ?_
  apply Exists.intro
  refine ⟨fun b w' hx hs => ?_, ?_⟩
  · obtain ⟨h0, h1, -⟩ := hs
    change _ = _ at h0
    change _ = _ at h1
    rw [eval_tmp] at h0 h1
    have hx_B1 := B1.ext hx
    have kB1_0 := hx_B1.cell 0 rfl
    have kB1_1 := hx_B1.cell 1 rfl
    have kB1_2 := hx_B1.cell 2 rfl
    have kB1_3 := hx_B1.cell 3 rfl
    have hx_B2 := B2.ext hx
    have kB2_0 := hx_B2.cell 0 rfl
    have kB2_1 := hx_B2.cell 1 rfl
    have kB2_2 := hx_B2.cell 2 rfl
    have kB2_3 := hx_B2.cell 3 rfl
    have hx_B3 := B3.ext hx
    have kB3_0 := hx_B3.cell 0 rfl
    have kB3_1 := hx_B3.cell 1 rfl
    have kB3_2 := hx_B3.cell 2 rfl
    have kB3_3 := hx_B3.cell 3 rfl
    go_simp
    try go_ints
    rfl
  refine walk_cg [(44, some 1)] (by kernel_rfl) 30 44 true rfl rfl (fun b w' hx hs => by obtain ⟨h0, -⟩ := hs; exact h0) (fun w' v => IsNum w' v (some (((1 : Int) : Rat)))) (fun _ _ _ x h => by first | exact h | exact h.ext x) (fun b w' hx hs => ?_) ?_
  · as_aux_lemma =>
      obtain ⟨h0, -⟩ := hs
      change _ = _ at h0
      rw [eval_tmp] at h0
      go_simp
      refine upon_enter ((int_any (1) _ (by omega) (by omega) (hT.ext hx)).mono fun ed w2 ⟨v, he, hx2, hn⟩ => ⟨v, he, hx2, ?_⟩)
      first | exact hn | simpa using hn
  refine walk_cg [(46, some 0), (44, some 2)] (by kernel_rfl) 30 44 true rfl rfl (fun b w' hx hs => by obtain ⟨-, h1, -⟩ := hs; exact h1) (fun w' v => IsNum w' v (some ((((1 : Int) : Rat) * p2 (100))))) (fun _ _ _ x h => by first | exact h | exact h.ext x) (fun b w' hx hs => ?_) ?_
  · as_aux_lemma =>
      obtain ⟨h0, h1, -⟩ := hs
      change _ = _ at h1
      rw [eval_tmp] at h0 h1
      go_simp
      refine upon_enter ((shift_any (100) _ (hT.ext hx) (show IsNum _ _ (some (((1 : Int) : Rat))) from by rw [← eval_tmp] at *; exact h0)).mono fun ed w2 ⟨v, he, hx2, hn⟩ => ⟨v, he, hx2, ?_⟩)
      rw [shiftO_sz (n := 64) (m := 101) ((show Sz 64 (((1 : Int) : Rat)) from (int_sz (n := 1) (by omega) (by omega)))) (by omega) (by omega) (by omega)] at hn
      first | exact hn | simpa using hn
  refine walk_cg [(45, some 2), (47, some 0), (44, some 3)] (by kernel_rfl) 30 44 true rfl rfl (fun b w' hx hs => by obtain ⟨-, -, h2, -⟩ := hs; exact h2) (fun _ v => v = .int .i64 (1)) (fun _ _ _ x h => by first | exact h | exact h.ext x) (fun b w' hx hs => ?_) ?_
  · as_aux_lemma =>
      obtain ⟨h0, h1, h2, -⟩ := hs
      change _ = _ at h0
      change _ = _ at h2
      rw [eval_tmp] at h0 h1 h2
      go_simp
      refine upon_enter ((cmp_num _ (hT.ext hx) (n10.ext hx) (show IsNum _ _ (some ((((1 : Int) : Rat) * p2 (100)))) from by rw [← eval_tmp] at *; exact h1)).mono fun ed w2 ⟨he, hx2⟩ => ⟨_, he, hx2, ?_⟩)
      rw [cmpO_sz (n := 166) ((Sz.add (Sz.shift (n := 64) (m := 101) (int_sz (by omega) (by omega)) (by omega) (by omega)) ((int_sz (by omega) (by omega)).mono (by omega)))) (((show Sz 165 ((((1 : Int) : Rat) * p2 (100))) from ((Sz.shift (m := 101) ((show Sz 64 (((1 : Int) : Rat)) from (int_sz (n := 1) (by omega) (by omega)))) (by omega) (by omega)).mono (by omega)))).mono (by omega)) (by omega)]
      have hval : sg (((1 : Int) : Rat) * p2 100 + ((1 : Int) : Rat) - (((1 : Int) : Rat) * p2 (100))) = 1 := (by rw [show ((1 : Int) : Rat) = 1 from rfl]; exact sg_pos (by grind))
      rw [hval]
  refine walk_qg [(48, some 0), (44, some 4)] (by kernel_rfl) 30 44 true rfl rfl (fun b w' hx hs => by obtain ⟨-, h1, -⟩ := hs; exact h1) ?_
  apply Exists.intro
  refine ⟨fun b w' hx hs => ?_, ?_⟩
  · obtain ⟨h0, h1, -⟩ := hs
    change _ = _ at h0
    change _ = _ at h1
    rw [eval_tmp] at h0 h1
    go_simp
    try go_ints
    rfl
  refine walk_q [(44, some 5), (49, some 0)] (by kernel_rfl) rfl ?_
  apply Exists.intro
  refine ⟨fun b w' hx hs => ?_, ?_⟩
  · obtain ⟨h0, h1, -⟩ := hs
    change _ = _ at h0
    change _ = _ at h1
    rw [eval_tmp] at h0 h1
    go_simp
    try go_ints
    rfl
  refine walk_q [(50, some 0)] (by kernel_rfl) rfl ?_
  apply Exists.intro
  refine ⟨fun b w' hx hs => ?_, ?_⟩
  · obtain ⟨h0, -⟩ := hs
    change _ = _ at h0
    rw [eval_tmp] at h0
    go_simp
    try go_ints
    rfl
  refine walk_qg [(3, none), (51, some 0)] (by kernel_rfl) 37 51 true rfl rfl (fun b w' hx hs => by obtain ⟨-, h1, -⟩ := hs; exact h1) ?_
  apply Exists.intro
  refine ⟨fun b w' hx hs => ?_, ?_⟩
  · obtain ⟨h0, h1, -⟩ := hs
    change _ = _ at h0
    change _ = _ at h1
    rw [eval_tmp] at h0 h1
    go_simp
    try go_ints
    rfl
  refine walk_qg [(52, some 0), (51, some 1)] (by kernel_rfl) 37 51 true rfl rfl (fun b w' hx hs => by obtain ⟨-, h1, -⟩ := hs; exact h1) ?_
  apply Exists.intro
  refine ⟨fun b w' hx hs => ?_, ?_⟩
  · obtain ⟨h0, h1, -⟩ := hs
    change _ = _ at h0
    change _ = _ at h1
    rw [eval_tmp] at h0 h1
    have hx_B1 := B1.ext hx
    have kB1_0 := hx_B1.cell 0 rfl
    have kB1_1 := hx_B1.cell 1 rfl
    have kB1_2 := hx_B1.cell 2 rfl
    have kB1_3 := hx_B1.cell 3 rfl
    have hx_B2 := B2.ext hx
    have kB2_0 := hx_B2.cell 0 rfl
    have kB2_1 := hx_B2.cell 1 rfl
    have kB2_2 := hx_B2.cell 2 rfl
    have kB2_3 := hx_B2.cell 3 rfl
    have hx_B3 := B3.ext hx
    have kB3_0 := hx_B3.cell 0 rfl
    have kB3_1 := hx_B3.cell 1 rfl
    have kB3_2 := hx_B3.cell 2 rfl
    have kB3_3 := hx_B3.cell 3 rfl
    go_simp
    try go_ints
    rfl
  refine walk_cg [(53, some 0), (51, some 2)] (by kernel_rfl) 37 51 true rfl rfl (fun b w' hx hs => by obtain ⟨-, h1, -⟩ := hs; exact h1) (fun _ v => v = .int .i64 (0)) (fun _ _ _ x h => by first | exact h | exact h.ext x) (fun b w' hx hs => ?_) ?_
  · as_aux_lemma =>
      obtain ⟨h0, h1, -⟩ := hs
      change _ = _ at h0
      change _ = _ at h1
      rw [eval_tmp] at h0 h1
      go_simp
      refine upon_enter ((low_num _ (hT.ext hx) (n10.ext hx)).mono fun ed w2 ⟨he, hx2⟩ => ⟨_, he, hx2, ?_⟩)
      rw [show Option.getD (some (((1 : Int) : Rat) * p2 100 + ((1 : Int) : Rat))) 0 = ((1 : Int) : Rat) * p2 100 + ((1 : Int) : Rat) from rfl]
      have hval : loQ (((1 : Int) : Rat) * p2 100 + ((1 : Int) : Rat)) = 0 := lo_c
      rw [hval]
  refine walk_qg [(54, some 0), (51, some 3)] (by kernel_rfl) 37 51 true rfl rfl (fun b w' hx hs => by obtain ⟨-, h1, -⟩ := hs; exact h1) ?_
  apply Exists.intro
  refine ⟨fun b w' hx hs => ?_, ?_⟩
  · obtain ⟨h0, h1, -⟩ := hs
    change _ = _ at h0
    change _ = _ at h1
    rw [eval_tmp] at h0 h1
    go_simp
    try go_ints
    rfl
  refine walk_q [(51, some 4), (55, some 0)] (by kernel_rfl) rfl ?_
  apply Exists.intro
  refine ⟨fun b w' hx hs => ?_, ?_⟩
  · obtain ⟨h0, h1, -⟩ := hs
    change _ = _ at h0
    change _ = _ at h1
    rw [eval_tmp] at h0 h1
    go_simp
    try go_ints
    rfl
  refine walk_end ?_
  intro w11 hx11
  rintro _ rfl
  rintro _ rfl
  rintro _ rfl
  rintro _ rfl
  rintro _ rfl
  rintro _ rfl
  rintro _ rfl
  rintro _ rfl
  rintro _ rfl
  intro v47 hv47
  intro v46 hv46
  rintro _ rfl
  rintro _ rfl
  rintro _ rfl
  rintro _ rfl
  rintro _ rfl
  rintro _ rfl
  rintro _ rfl
  rintro _ rfl
  rintro _ rfl
  rintro _ rfl
  rintro _ rfl
  rintro _ rfl
  rintro _ rfl
  rintro _ rfl
  rintro _ rfl
  rintro _ rfl
  rintro _ rfl
  rintro _ rfl
  rintro _ rfl
  rintro _ rfl
  rintro _ rfl
  rintro _ rfl
  rintro _ rfl
  rintro _ rfl
  rintro _ rfl
  rintro _ rfl
  rintro _ rfl
  rintro _ rfl
  rintro _ rfl
  rintro _ rfl
  rintro _ rfl
  rintro _ rfl
  unfold fin
  simp only [Act.put, List.setIfInBounds_toArray, List.set_cons_succ, List.set_cons_zero]
  go_wp2
  go_ret
  exact ⟨rfl, hx3.trans hx11⟩
end Go.Proofs.YthnmjkjllhlcjaaDoor
