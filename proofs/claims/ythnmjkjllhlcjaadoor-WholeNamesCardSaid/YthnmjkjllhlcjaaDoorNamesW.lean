/- The walk of law 01's WholeNames; no condition. -/
import Derived.Test.YthnmjkjllhlcjaaDoorNamesM
namespace Go.Proofs.YthnmjkjllhlcjaaDoor
open Go Go.RowKit Go.Steady Go.Tri
set_option maxRecDepth 100000

theorem one_sz : Sz 64 ((1 : Int) : Rat) := int_sz (by omega) (by omega)
theorem zero_ne {z : Nat} (h : ∃ x, z = x ∧ sr x = 0 ∧ Num64 x) : (FloatKind.f64.format.order z 0 == some .eq) = true ∧ (FloatKind.f64.format.order z 0 != some .eq) = false := by
  obtain ⟨x, rfl, h1, h2⟩ := h
  exact order_zero h1 h2
/-- The magnitude of a number that is one. -/
def MagPart (w : World) (v : Value) (q : Rat) : Prop := ∃ a n c e neg non, v = .agg #[.slice a n c, .int .i64 e] ∧ IsNum w (.agg #[.slice a n c, .int .i64 e, .bool neg, .bool non]) (some q)
theorem MagPart.ext {w w' : World} {v : Value} {q : Rat} (h : MagPart w v q) (x : Ext w w') : MagPart w' v q := by
  obtain ⟨a, n, c, e, neg, non, h1, h2⟩ := h
  exact ⟨a, n, c, e, neg, non, h1, h2.ext x⟩
set_option maxHeartbeats 6400000 in
theorem names_any (w : World) (hT : Tab w) : Calls Tryd.prog 5 #[] w fun ed w' => ed = .returned (.bool true) ∧ Ext w w' := by
  have o1 := order_ne_self (x := 4607182418800017408) ⟨by omega, by omega⟩
  have o2 := order_self (x := 4845873199050653696) ⟨by omega, by omega⟩
  have o3 := order_self (x := 4845873199050653698) ⟨by omega, by omega⟩
  have o4 := order_self (x := 14114281232179134464) ⟨by omega, by omega⟩
  have o5 := order_self (x := 1) ⟨by omega, by omega⟩
  have o6 := order_self (x := 9218868437227405311) ⟨by omega, by omega⟩
  have O1 := Lib.hid o1; have O2 := Lib.hid o2; have O3 := Lib.hid o3; have O4 := Lib.hid o4; have O5 := Lib.hid o5; have O6 := Lib.hid o6
  clear o1 o2 o3 o4 o5 o6
  go_enter Tryd.func5, Tryd.ntmps5
  go_wp2_with fail
  refine (works_any _ hT).mono ?_
  rintro ed w1 ⟨rfl, hx⟩
  replace hT := hT.ext hx
  go_wp2_with fail
  refine (int_any 1 _ (by omega) (by omega) hT).mono ?_
  rintro ed w2 ⟨v2, rfl, hxk, n1⟩
  replace hx := hx.trans hxk
  replace hT := hT.ext hxk
  clear hxk
  obtain ⟨a1, m1, c1, e1, neg1, non1, rfl, n1⟩ := n1.kept
  have B1 := Box.new w2 #[.slice a1 m1 c1, .int .i64 e1, .bool neg1, .bool non1] 29
  have hxa : Ext w2 (w2.alloc (.cells #[.slice a1 m1 c1, .int .i64 e1, .bool neg1, .bool non1] 29)) := (Ext.refl _).alloc _
  replace n1 := n1.ext hxa
  replace hx := hx.trans hxa
  replace hT := hT.ext hxa
  clear hxa
  have B1_c0 := B1.cell 0 rfl; have B1_c1 := B1.cell 1 rfl; have B1_c2 := B1.cell 2 rfl; have B1_c3 := B1.cell 3 rfl; have B1_f0 := B1.free 0; have B1_f1 := B1.free 1; have B1_f2 := B1.free 2; have B1_f3 := B1.free 3; have B1_lt := B1.lt
  go_wp2_with fail
  clear B1_c0 B1_c1 B1_c2 B1_c3 B1_f0 B1_f1 B1_f2 B1_f3 B1_lt
  refine (shift_any 65536 _ hT n1).mono ?_
  rintro ed w3 ⟨v3, rfl, hxk, n2⟩
  rw [sh_some (by omega) (by omega)] at n2
  replace B1 := B1.ext hxk
  replace n1 := n1.ext hxk
  replace hx := hx.trans hxk
  replace hT := hT.ext hxk
  clear hxk
  obtain ⟨a2, m2, c2, e2, neg2, non2, rfl, n2⟩ := n2.kept
  have B2 := Box.new w3 #[.slice a2 m2 c2, .int .i64 e2, .bool neg2, .bool non2] 29
  have hxa : Ext w3 (w3.alloc (.cells #[.slice a2 m2 c2, .int .i64 e2, .bool neg2, .bool non2] 29)) := (Ext.refl _).alloc _
  replace B1 := B1.ext hxa
  replace n1 := n1.ext hxa
  replace n2 := n2.ext hxa
  replace hx := hx.trans hxa
  replace hT := hT.ext hxa
  clear hxa
  have B1_c0 := B1.cell 0 rfl; have B1_c1 := B1.cell 1 rfl; have B1_c2 := B1.cell 2 rfl; have B1_c3 := B1.cell 3 rfl; have B1_f0 := B1.free 0; have B1_f1 := B1.free 1; have B1_f2 := B1.free 2; have B1_f3 := B1.free 3; have B1_lt := B1.lt
  go_wp2_with fail
  clear B1_c0 B1_c1 B1_c2 B1_c3 B1_f0 B1_f1 B1_f2 B1_f3 B1_lt
  refine (shift_any (-65536) _ hT n1).mono ?_
  rintro ed w4 ⟨v4, rfl, hxk, n3⟩
  rw [sh_some (by omega) (by omega)] at n3
  replace B1 := B1.ext hxk
  replace B2 := B2.ext hxk
  replace n1 := n1.ext hxk
  replace n2 := n2.ext hxk
  replace hx := hx.trans hxk
  replace hT := hT.ext hxk
  clear hxk
  obtain ⟨a3, m3, c3, e3, neg3, non3, rfl, n3⟩ := n3.kept
  have B3 := Box.new w4 #[.slice a3 m3 c3, .int .i64 e3, .bool neg3, .bool non3] 29
  have hxa : Ext w4 (w4.alloc (.cells #[.slice a3 m3 c3, .int .i64 e3, .bool neg3, .bool non3] 29)) := (Ext.refl _).alloc _
  replace B1 := B1.ext hxa
  replace B2 := B2.ext hxa
  replace n1 := n1.ext hxa
  replace n2 := n2.ext hxa
  replace n3 := n3.ext hxa
  replace hx := hx.trans hxa
  replace hT := hT.ext hxa
  clear hxa
  obtain ⟨W, hW⟩ : ∃ W, w4.alloc (.cells #[.slice a3 m3 c3, .int .i64 e3, .bool neg3, .bool non3] 29) = W := ⟨_, rfl⟩
  rw [hW] at B1 B2 B3 n1 n2 n3 hx hT
  have B4 := Box.new W #[.slice none 0 0, .int .i64 0, .bool false, .bool false] 29
  have hxa : Ext W (W.alloc (.cells #[.slice none 0 0, .int .i64 0, .bool false, .bool false] 29)) := (Ext.refl _).alloc _
  replace B1 := B1.ext hxa
  replace B2 := B2.ext hxa
  replace B3 := B3.ext hxa
  replace n1 := n1.ext hxa
  replace n2 := n2.ext hxa
  replace n3 := n3.ext hxa
  replace hx := hx.trans hxa
  replace hT := hT.ext hxa
  clear hxa
  have n4 := isNum_zero (W.alloc (.cells #[.slice none 0 0, .int .i64 0, .bool false, .bool false] 29))
  go_wp2
  clear hW
  refine wp_steady 3 315 (by kernel_rfl) (by as_aux_lemma => kernel_rfl) rfl ?_
  refine walk_q [(4, none)] (by kernel_rfl) rfl ?_
  apply Exists.intro
  refine ⟨fun b w' hx hs => ?_, ?_⟩
  · obtain ⟨h0, -⟩ := hs
    change _ = _ at h0
    rw [eval_tmp] at h0
    have hx_B1 := B1.ext hx
    have kB1_0 := hx_B1.cell 0 rfl
    have kB1_1 := hx_B1.cell 1 rfl
    have kB1_2 := hx_B1.cell 2 rfl
    have kB1_3 := hx_B1.cell 3 rfl
    have hx_B2 := B2.ext hx
    have kB2_0 := hx_B2.cell 0 rfl
    have kB2_1 := hx_B2.cell 1 rfl
    have kB2_2 := hx_B2.cell 2 rfl
    have kB2_3 := hx_B2.cell 3 rfl
    have hx_B3 := B3.ext hx
    have kB3_0 := hx_B3.cell 0 rfl
    have kB3_1 := hx_B3.cell 1 rfl
    have kB3_2 := hx_B3.cell 2 rfl
    have kB3_3 := hx_B3.cell 3 rfl
    have hx_B4 := B4.ext hx
    have kB4_0 := hx_B4.cell 0 rfl
    have kB4_1 := hx_B4.cell 1 rfl
    have kB4_2 := hx_B4.cell 2 rfl
    have kB4_3 := hx_B4.cell 3 rfl
    go_simp
    try go_ints
    rfl
  refine walk_c [(16, some 0)] (by kernel_rfl) rfl (fun _ v => v = .bool true) (fun _ _ _ x h => by first | exact h | exact h.ext x) (fun b w' hx hs => ?_) ?_
  · as_aux_lemma =>
      obtain ⟨h0, -⟩ := hs
      change _ = _ at h0
      rw [eval_tmp] at h0
      go_simp
      exact upon_enter ((ok_any _ (n4.ext hx)).mono fun ed w2 ⟨he, hx2⟩ => ⟨_, he, hx2, rfl⟩)
  refine walk_q [(17, some 0)] (by kernel_rfl) rfl ?_
  apply Exists.intro
  refine ⟨fun b w' hx hs => ?_, ?_⟩
  · obtain ⟨h0, -⟩ := hs
    change _ = _ at h0
    rw [eval_tmp] at h0
    go_simp
    try go_ints
    rfl
  refine walk_q [(18, some 0)] (by kernel_rfl) rfl ?_
  apply Exists.intro
  refine ⟨fun b w' hx hs => ?_, ?_⟩
  · obtain ⟨h0, -⟩ := hs
    change _ = _ at h0
    rw [eval_tmp] at h0
    go_simp
    try go_ints
    rfl
  refine walk_qg [(4, none), (19, some 0)] (by kernel_rfl) 3 19 false rfl rfl (fun b w' hx hs => by obtain ⟨-, h1, -⟩ := hs; exact h1) ?_
  apply Exists.intro
  refine ⟨fun b w' hx hs => ?_, ?_⟩
  · obtain ⟨h0, h1, -⟩ := hs
    change _ = _ at h0
    change _ = _ at h1
    rw [eval_tmp] at h0 h1
    have hx_B1 := B1.ext hx
    have kB1_0 := hx_B1.cell 0 rfl
    have kB1_1 := hx_B1.cell 1 rfl
    have kB1_2 := hx_B1.cell 2 rfl
    have kB1_3 := hx_B1.cell 3 rfl
    have hx_B2 := B2.ext hx
    have kB2_0 := hx_B2.cell 0 rfl
    have kB2_1 := hx_B2.cell 1 rfl
    have kB2_2 := hx_B2.cell 2 rfl
    have kB2_3 := hx_B2.cell 3 rfl
    have hx_B3 := B3.ext hx
    have kB3_0 := hx_B3.cell 0 rfl
    have kB3_1 := hx_B3.cell 1 rfl
    have kB3_2 := hx_B3.cell 2 rfl
    have kB3_3 := hx_B3.cell 3 rfl
    have hx_B4 := B4.ext hx
    have kB4_0 := hx_B4.cell 0 rfl
    have kB4_1 := hx_B4.cell 1 rfl
    have kB4_2 := hx_B4.cell 2 rfl
    have kB4_3 := hx_B4.cell 3 rfl
    go_simp
    try go_ints
    rfl
  refine walk_cg [(20, some 0), (19, some 1)] (by kernel_rfl) 3 19 false rfl rfl (fun b w' hx hs => by obtain ⟨-, h1, -⟩ := hs; exact h1) (fun _ v => v = .int .i64 (0)) (fun _ _ _ x h => by first | exact h | exact h.ext x) (fun b w' hx hs => ?_) ?_
  · as_aux_lemma =>
      obtain ⟨h0, h1, -⟩ := hs
      change _ = _ at h0
      change _ = _ at h1
      rw [eval_tmp] at h0 h1
      go_simp
      refine upon_enter ((sign_any _ (n4.ext hx)).mono fun ed w2 ⟨he, hx2⟩ => ⟨_, he, hx2, ?_⟩)
      rw [show sgO (some (0)) = sg (0) from rfl]
      have hval : sg (0) = 0 := sg_zero
      rw [hval]
  refine walk_qg [(21, some 0), (19, some 2)] (by kernel_rfl) 3 19 false rfl rfl (fun b w' hx hs => by obtain ⟨-, h1, -⟩ := hs; exact h1) ?_
  apply Exists.intro
  refine ⟨fun b w' hx hs => ?_, ?_⟩
  · obtain ⟨h0, h1, -⟩ := hs
    change _ = _ at h0
    change _ = _ at h1
    rw [eval_tmp] at h0 h1
    go_simp
    try go_ints
    rfl
  refine walk_q [(19, some 3), (22, some 0)] (by kernel_rfl) rfl ?_
  apply Exists.intro
  refine ⟨fun b w' hx hs => ?_, ?_⟩
  · obtain ⟨h0, h1, -⟩ := hs
    change _ = _ at h0
    change _ = _ at h1
    rw [eval_tmp] at h0 h1
    go_simp
    try go_ints
    rfl
  refine walk_q [(23, some 0)] (by kernel_rfl) rfl ?_
  apply Exists.intro
  refine ⟨fun b w' hx hs => ?_, ?_⟩
  · obtain ⟨h0, -⟩ := hs
    change _ = _ at h0
    rw [eval_tmp] at h0
    go_simp
    try go_ints
    rfl
  refine walk_qg [(4, none), (24, some 0)] (by kernel_rfl) 8 24 false rfl rfl (fun b w' hx hs => by obtain ⟨-, h1, -⟩ := hs; exact h1) ?_
  apply Exists.intro
  refine ⟨fun b w' hx hs => ?_, ?_⟩
  · obtain ⟨h0, h1, -⟩ := hs
    change _ = _ at h0
    change _ = _ at h1
    rw [eval_tmp] at h0 h1
    have hx_B1 := B1.ext hx
    have kB1_0 := hx_B1.cell 0 rfl
    have kB1_1 := hx_B1.cell 1 rfl
    have kB1_2 := hx_B1.cell 2 rfl
    have kB1_3 := hx_B1.cell 3 rfl
    have hx_B2 := B2.ext hx
    have kB2_0 := hx_B2.cell 0 rfl
    have kB2_1 := hx_B2.cell 1 rfl
    have kB2_2 := hx_B2.cell 2 rfl
    have kB2_3 := hx_B2.cell 3 rfl
    have hx_B3 := B3.ext hx
    have kB3_0 := hx_B3.cell 0 rfl
    have kB3_1 := hx_B3.cell 1 rfl
    have kB3_2 := hx_B3.cell 2 rfl
    have kB3_3 := hx_B3.cell 3 rfl
    have hx_B4 := B4.ext hx
    have kB4_0 := hx_B4.cell 0 rfl
    have kB4_1 := hx_B4.cell 1 rfl
    have kB4_2 := hx_B4.cell 2 rfl
    have kB4_3 := hx_B4.cell 3 rfl
    go_simp
    try go_ints
    rfl
  refine walk_cg [(25, some 0), (24, some 1)] (by kernel_rfl) 8 24 false rfl rfl (fun b w' hx hs => by obtain ⟨-, h1, -⟩ := hs; exact h1) (fun _ v => ∃ z, v = .float .f64 z ∧ sr z = 0 ∧ Num64 z) (fun _ _ _ x h => by first | exact h | exact h.ext x) (fun b w' hx hs => ?_) ?_
  · as_aux_lemma =>
      obtain ⟨h0, h1, -⟩ := hs
      change _ = _ at h0
      change _ = _ at h1
      rw [eval_tmp] at h0 h1
      go_simp
      refine upon_enter ((float_any _ (n4.ext hx)).mono fun ed w2 ⟨z, he, hx2, hr⟩ => ⟨_, he, hx2, z, rfl, ?_, hr.1⟩)
      have hval : Rn (0) 0 := rn_zero
      exact hr.same hval
  refine walk_cg [(26, some 0), (24, some 2)] (by kernel_rfl) 8 24 false rfl rfl (fun b w' hx hs => by obtain ⟨-, h1, -⟩ := hs; exact h1) (fun _ v => v = .bool false) (fun _ _ _ x h => by first | exact h | exact h.ext x) (fun b w' hx hs => ?_) ?_
  · as_aux_lemma =>
      obtain ⟨h0, h1, -⟩ := hs
      change _ = _ at h1
      rw [eval_tmp] at h0 h1
      obtain ⟨z, e, r, nz⟩ := h0
      obtain ⟨oa, ob⟩ := order_zero r nz
      go_simp
      exact ⟨Ext.refl _, rfl⟩
  refine walk_q [(24, some 3), (27, some 0)] (by kernel_rfl) rfl ?_
  apply Exists.intro
  refine ⟨fun b w' hx hs => ?_, ?_⟩
  · obtain ⟨h0, h1, -⟩ := hs
    change _ = _ at h0
    change _ = _ at h1
    rw [eval_tmp] at h0 h1
    go_simp
    try go_ints
    rfl
  refine walk_q [(28, some 0)] (by kernel_rfl) rfl ?_
  apply Exists.intro
  refine ⟨fun b w' hx hs => ?_, ?_⟩
  · obtain ⟨h0, -⟩ := hs
    change _ = _ at h0
    rw [eval_tmp] at h0
    go_simp
    try go_ints
    rfl
  refine walk_qg [(2, none), (29, some 0)] (by kernel_rfl) 13 29 false rfl rfl (fun b w' hx hs => by obtain ⟨-, h1, -⟩ := hs; exact h1) ?_
  apply Exists.intro
  refine ⟨fun b w' hx hs => ?_, ?_⟩
  · obtain ⟨h0, h1, -⟩ := hs
    change _ = _ at h0
    change _ = _ at h1
    rw [eval_tmp] at h0 h1
    have hx_B1 := B1.ext hx
    have kB1_0 := hx_B1.cell 0 rfl
    have kB1_1 := hx_B1.cell 1 rfl
    have kB1_2 := hx_B1.cell 2 rfl
    have kB1_3 := hx_B1.cell 3 rfl
    have hx_B2 := B2.ext hx
    have kB2_0 := hx_B2.cell 0 rfl
    have kB2_1 := hx_B2.cell 1 rfl
    have kB2_2 := hx_B2.cell 2 rfl
    have kB2_3 := hx_B2.cell 3 rfl
    have hx_B3 := B3.ext hx
    have kB3_0 := hx_B3.cell 0 rfl
    have kB3_1 := hx_B3.cell 1 rfl
    have kB3_2 := hx_B3.cell 2 rfl
    have kB3_3 := hx_B3.cell 3 rfl
    have hx_B4 := B4.ext hx
    have kB4_0 := hx_B4.cell 0 rfl
    have kB4_1 := hx_B4.cell 1 rfl
    have kB4_2 := hx_B4.cell 2 rfl
    have kB4_3 := hx_B4.cell 3 rfl
    go_simp
    try go_ints
    rfl
  refine walk_cg [(30, some 0), (29, some 1)] (by kernel_rfl) 13 29 false rfl rfl (fun b w' hx hs => by obtain ⟨-, h1, -⟩ := hs; exact h1) (fun _ v => v = .bool true) (fun _ _ _ x h => by first | exact h | exact h.ext x) (fun b w' hx hs => ?_) ?_
  · as_aux_lemma =>
      obtain ⟨h0, h1, -⟩ := hs
      change _ = _ at h0
      change _ = _ at h1
      rw [eval_tmp] at h0 h1
      go_simp
      exact upon_enter ((ok_any _ (n2.ext hx)).mono fun ed w2 ⟨he, hx2⟩ => ⟨_, he, hx2, rfl⟩)
  refine walk_qg [(31, some 0), (29, some 2)] (by kernel_rfl) 13 29 false rfl rfl (fun b w' hx hs => by obtain ⟨-, h1, -⟩ := hs; exact h1) ?_
  apply Exists.intro
  refine ⟨fun b w' hx hs => ?_, ?_⟩
  · obtain ⟨h0, h1, -⟩ := hs
    change _ = _ at h0
    change _ = _ at h1
    rw [eval_tmp] at h0 h1
    go_simp
    try go_ints
    rfl
  refine walk_q [(29, some 3), (32, some 0)] (by kernel_rfl) rfl ?_
  apply Exists.intro
  refine ⟨fun b w' hx hs => ?_, ?_⟩
  · obtain ⟨h0, h1, -⟩ := hs
    change _ = _ at h0
    change _ = _ at h1
    rw [eval_tmp] at h0 h1
    go_simp
    try go_ints
    rfl
  refine walk_q [(33, some 0)] (by kernel_rfl) rfl ?_
  apply Exists.intro
  refine ⟨fun b w' hx hs => ?_, ?_⟩
  · obtain ⟨h0, -⟩ := hs
    change _ = _ at h0
    rw [eval_tmp] at h0
    go_simp
    try go_ints
    rfl
  refine walk_qg [(1, none), (34, some 0)] (by kernel_rfl) 18 34 false rfl rfl (fun b w' hx hs => by obtain ⟨-, h1, -⟩ := hs; exact h1) ?_
  apply Exists.intro
  refine ⟨fun b w' hx hs => ?_, ?_⟩
  · obtain ⟨h0, h1, -⟩ := hs
    change _ = _ at h0
    change _ = _ at h1
    rw [eval_tmp] at h0 h1
    have hx_B1 := B1.ext hx
    have kB1_0 := hx_B1.cell 0 rfl
    have kB1_1 := hx_B1.cell 1 rfl
    have kB1_2 := hx_B1.cell 2 rfl
    have kB1_3 := hx_B1.cell 3 rfl
    have hx_B2 := B2.ext hx
    have kB2_0 := hx_B2.cell 0 rfl
    have kB2_1 := hx_B2.cell 1 rfl
    have kB2_2 := hx_B2.cell 2 rfl
    have kB2_3 := hx_B2.cell 3 rfl
    have hx_B3 := B3.ext hx
    have kB3_0 := hx_B3.cell 0 rfl
    have kB3_1 := hx_B3.cell 1 rfl
    have kB3_2 := hx_B3.cell 2 rfl
    have kB3_3 := hx_B3.cell 3 rfl
    have hx_B4 := B4.ext hx
    have kB4_0 := hx_B4.cell 0 rfl
    have kB4_1 := hx_B4.cell 1 rfl
    have kB4_2 := hx_B4.cell 2 rfl
    have kB4_3 := hx_B4.cell 3 rfl
    go_simp
    try go_ints
    rfl
  refine walk_cg [(35, some 0), (34, some 1)] (by kernel_rfl) 18 34 false rfl rfl (fun b w' hx hs => by obtain ⟨-, h1, -⟩ := hs; exact h1) (fun w' v => IsNum w' v (none)) (fun _ _ _ x h => by first | exact h | exact h.ext x) (fun b w' hx hs => ?_) ?_
  · as_aux_lemma =>
      obtain ⟨h0, h1, -⟩ := hs
      change _ = _ at h0
      change _ = _ at h1
      rw [eval_tmp] at h0 h1
      go_simp
      refine upon_enter ((shift_any (65537) _ (hT.ext hx) (n1.ext hx)).mono fun ed w2 ⟨v, he, hx2, hn⟩ => ⟨v, he, hx2, ?_⟩)
      have hval : shiftO (some (((1 : Int) : Rat))) (65537) = none := sh_none (by omega)
      rw [hval] at hn
      first | exact hn | simpa using hn
  refine walk_cg [(36, some 0), (34, some 2)] (by kernel_rfl) 18 34 false rfl rfl (fun b w' hx hs => by obtain ⟨-, h1, -⟩ := hs; exact h1) (fun _ v => v = .bool false) (fun _ _ _ x h => by first | exact h | exact h.ext x) (fun b w' hx hs => ?_) ?_
  · as_aux_lemma =>
      obtain ⟨h0, h1, -⟩ := hs
      change _ = _ at h1
      rw [eval_tmp] at h0 h1
      go_simp
      exact upon_enter ((ok_any _ (show IsNum _ _ (none) from by rw [← eval_tmp] at *; exact h0)).mono fun ed w2 ⟨he, hx2⟩ => ⟨_, he, hx2, rfl⟩)
  refine walk_q [(34, some 3), (37, some 0)] (by kernel_rfl) rfl ?_
  apply Exists.intro
  refine ⟨fun b w' hx hs => ?_, ?_⟩
  · obtain ⟨h0, h1, -⟩ := hs
    change _ = _ at h0
    change _ = _ at h1
    rw [eval_tmp] at h0 h1
    go_simp
    try go_ints
    rfl
  refine walk_q [(38, some 0)] (by kernel_rfl) rfl ?_
  apply Exists.intro
  refine ⟨fun b w' hx hs => ?_, ?_⟩
  · obtain ⟨h0, -⟩ := hs
    change _ = _ at h0
    rw [eval_tmp] at h0
    go_simp
    try go_ints
    rfl
  refine walk_qg [(3, none), (39, some 0)] (by kernel_rfl) 23 39 false rfl rfl (fun b w' hx hs => by obtain ⟨-, h1, -⟩ := hs; exact h1) ?_
  apply Exists.intro
  refine ⟨fun b w' hx hs => ?_, ?_⟩
  · obtain ⟨h0, h1, -⟩ := hs
    change _ = _ at h0
    change _ = _ at h1
    rw [eval_tmp] at h0 h1
    have hx_B1 := B1.ext hx
    have kB1_0 := hx_B1.cell 0 rfl
    have kB1_1 := hx_B1.cell 1 rfl
    have kB1_2 := hx_B1.cell 2 rfl
    have kB1_3 := hx_B1.cell 3 rfl
    have hx_B2 := B2.ext hx
    have kB2_0 := hx_B2.cell 0 rfl
    have kB2_1 := hx_B2.cell 1 rfl
    have kB2_2 := hx_B2.cell 2 rfl
    have kB2_3 := hx_B2.cell 3 rfl
    have hx_B3 := B3.ext hx
    have kB3_0 := hx_B3.cell 0 rfl
    have kB3_1 := hx_B3.cell 1 rfl
    have kB3_2 := hx_B3.cell 2 rfl
    have kB3_3 := hx_B3.cell 3 rfl
    have hx_B4 := B4.ext hx
    have kB4_0 := hx_B4.cell 0 rfl
    have kB4_1 := hx_B4.cell 1 rfl
    have kB4_2 := hx_B4.cell 2 rfl
    have kB4_3 := hx_B4.cell 3 rfl
    go_simp
    try go_ints
    rfl
  refine walk_cg [(40, some 0), (39, some 1)] (by kernel_rfl) 23 39 false rfl rfl (fun b w' hx hs => by obtain ⟨-, h1, -⟩ := hs; exact h1) (fun _ v => v = .bool true) (fun _ _ _ x h => by first | exact h | exact h.ext x) (fun b w' hx hs => ?_) ?_
  · as_aux_lemma =>
      obtain ⟨h0, h1, -⟩ := hs
      change _ = _ at h0
      change _ = _ at h1
      rw [eval_tmp] at h0 h1
      go_simp
      exact upon_enter ((ok_any _ (n3.ext hx)).mono fun ed w2 ⟨he, hx2⟩ => ⟨_, he, hx2, rfl⟩)
  refine walk_qg [(41, some 0), (39, some 2)] (by kernel_rfl) 23 39 false rfl rfl (fun b w' hx hs => by obtain ⟨-, h1, -⟩ := hs; exact h1) ?_
  apply Exists.intro
  refine ⟨fun b w' hx hs => ?_, ?_⟩
  · obtain ⟨h0, h1, -⟩ := hs
    change _ = _ at h0
    change _ = _ at h1
    rw [eval_tmp] at h0 h1
    go_simp
    try go_ints
    rfl
  refine walk_q [(39, some 3), (42, some 0)] (by kernel_rfl) rfl ?_
  apply Exists.intro
  refine ⟨fun b w' hx hs => ?_, ?_⟩
  · obtain ⟨h0, h1, -⟩ := hs
    change _ = _ at h0
    change _ = _ at h1
    rw [eval_tmp] at h0 h1
    go_simp
    try go_ints
    rfl
  refine walk_q [(43, some 0)] (by kernel_rfl) rfl ?_
  apply Exists.intro
  refine ⟨fun b w' hx hs => ?_, ?_⟩
  · obtain ⟨h0, -⟩ := hs
    change _ = _ at h0
    rw [eval_tmp] at h0
    go_simp
    try go_ints
    rfl
  refine walk_qg [(1, none), (44, some 0)] (by kernel_rfl) 28 44 false rfl rfl (fun b w' hx hs => by obtain ⟨-, h1, -⟩ := hs; exact h1) ?_
  apply Exists.intro
  refine ⟨fun b w' hx hs => ?_, ?_⟩
  · obtain ⟨h0, h1, -⟩ := hs
    change _ = _ at h0
    change _ = _ at h1
    rw [eval_tmp] at h0 h1
    have hx_B1 := B1.ext hx
    have kB1_0 := hx_B1.cell 0 rfl
    have kB1_1 := hx_B1.cell 1 rfl
    have kB1_2 := hx_B1.cell 2 rfl
    have kB1_3 := hx_B1.cell 3 rfl
    have hx_B2 := B2.ext hx
    have kB2_0 := hx_B2.cell 0 rfl
    have kB2_1 := hx_B2.cell 1 rfl
    have kB2_2 := hx_B2.cell 2 rfl
    have kB2_3 := hx_B2.cell 3 rfl
    have hx_B3 := B3.ext hx
    have kB3_0 := hx_B3.cell 0 rfl
    have kB3_1 := hx_B3.cell 1 rfl
    have kB3_2 := hx_B3.cell 2 rfl
    have kB3_3 := hx_B3.cell 3 rfl
    have hx_B4 := B4.ext hx
    have kB4_0 := hx_B4.cell 0 rfl
    have kB4_1 := hx_B4.cell 1 rfl
    have kB4_2 := hx_B4.cell 2 rfl
    have kB4_3 := hx_B4.cell 3 rfl
    go_simp
    try go_ints
    rfl
  refine walk_cg [(45, some 0), (44, some 1)] (by kernel_rfl) 28 44 false rfl rfl (fun b w' hx hs => by obtain ⟨-, h1, -⟩ := hs; exact h1) (fun w' v => IsNum w' v (none)) (fun _ _ _ x h => by first | exact h | exact h.ext x) (fun b w' hx hs => ?_) ?_
  · as_aux_lemma =>
      obtain ⟨h0, h1, -⟩ := hs
      change _ = _ at h0
      change _ = _ at h1
      rw [eval_tmp] at h0 h1
      go_simp
      refine upon_enter ((shift_any (-65537) _ (hT.ext hx) (n1.ext hx)).mono fun ed w2 ⟨v, he, hx2, hn⟩ => ⟨v, he, hx2, ?_⟩)
      have hval : shiftO (some (((1 : Int) : Rat))) (-65537) = none := sh_none (by omega)
      rw [hval] at hn
      first | exact hn | simpa using hn
  refine walk_cg [(46, some 0), (44, some 2)] (by kernel_rfl) 28 44 false rfl rfl (fun b w' hx hs => by obtain ⟨-, h1, -⟩ := hs; exact h1) (fun _ v => v = .bool false) (fun _ _ _ x h => by first | exact h | exact h.ext x) (fun b w' hx hs => ?_) ?_
  · as_aux_lemma =>
      obtain ⟨h0, h1, -⟩ := hs
      change _ = _ at h1
      rw [eval_tmp] at h0 h1
      go_simp
      exact upon_enter ((ok_any _ (show IsNum _ _ (none) from by rw [← eval_tmp] at *; exact h0)).mono fun ed w2 ⟨he, hx2⟩ => ⟨_, he, hx2, rfl⟩)
  refine walk_q [(44, some 3), (47, some 0)] (by kernel_rfl) rfl ?_
  apply Exists.intro
  refine ⟨fun b w' hx hs => ?_, ?_⟩
  · obtain ⟨h0, h1, -⟩ := hs
    change _ = _ at h0
    change _ = _ at h1
    rw [eval_tmp] at h0 h1
    go_simp
    try go_ints
    rfl
  refine walk_q [(48, some 0)] (by kernel_rfl) rfl ?_
  apply Exists.intro
  refine ⟨fun b w' hx hs => ?_, ?_⟩
  · obtain ⟨h0, -⟩ := hs
    change _ = _ at h0
    rw [eval_tmp] at h0
    go_simp
    try go_ints
    rfl
  refine walk_qg [(1, none), (49, some 0)] (by kernel_rfl) 33 49 false rfl rfl (fun b w' hx hs => by obtain ⟨-, h1, -⟩ := hs; exact h1) ?_
  apply Exists.intro
  refine ⟨fun b w' hx hs => ?_, ?_⟩
  · obtain ⟨h0, h1, -⟩ := hs
    change _ = _ at h0
    change _ = _ at h1
    rw [eval_tmp] at h0 h1
    have hx_B1 := B1.ext hx
    have kB1_0 := hx_B1.cell 0 rfl
    have kB1_1 := hx_B1.cell 1 rfl
    have kB1_2 := hx_B1.cell 2 rfl
    have kB1_3 := hx_B1.cell 3 rfl
    have hx_B2 := B2.ext hx
    have kB2_0 := hx_B2.cell 0 rfl
    have kB2_1 := hx_B2.cell 1 rfl
    have kB2_2 := hx_B2.cell 2 rfl
    have kB2_3 := hx_B2.cell 3 rfl
    have hx_B3 := B3.ext hx
    have kB3_0 := hx_B3.cell 0 rfl
    have kB3_1 := hx_B3.cell 1 rfl
    have kB3_2 := hx_B3.cell 2 rfl
    have kB3_3 := hx_B3.cell 3 rfl
    have hx_B4 := B4.ext hx
    have kB4_0 := hx_B4.cell 0 rfl
    have kB4_1 := hx_B4.cell 1 rfl
    have kB4_2 := hx_B4.cell 2 rfl
    have kB4_3 := hx_B4.cell 3 rfl
    go_simp
    try go_ints
    rfl
  refine walk_cg [(50, some 0), (49, some 1)] (by kernel_rfl) 33 49 false rfl rfl (fun b w' hx hs => by obtain ⟨-, h1, -⟩ := hs; exact h1) (fun w' v => IsNum w' v (none)) (fun _ _ _ x h => by first | exact h | exact h.ext x) (fun b w' hx hs => ?_) ?_
  · as_aux_lemma =>
      obtain ⟨h0, h1, -⟩ := hs
      change _ = _ at h0
      change _ = _ at h1
      rw [eval_tmp] at h0 h1
      go_simp
      refine upon_enter ((shift_any (9223372036854775807) _ (hT.ext hx) (n1.ext hx)).mono fun ed w2 ⟨v, he, hx2, hn⟩ => ⟨v, he, hx2, ?_⟩)
      have hval : shiftO (some (((1 : Int) : Rat))) (9223372036854775807) = none := sh_none (by omega)
      rw [hval] at hn
      first | exact hn | simpa using hn
  refine walk_cg [(51, some 0), (49, some 2)] (by kernel_rfl) 33 49 false rfl rfl (fun b w' hx hs => by obtain ⟨-, h1, -⟩ := hs; exact h1) (fun _ v => v = .bool false) (fun _ _ _ x h => by first | exact h | exact h.ext x) (fun b w' hx hs => ?_) ?_
  · as_aux_lemma =>
      obtain ⟨h0, h1, -⟩ := hs
      change _ = _ at h1
      rw [eval_tmp] at h0 h1
      go_simp
      exact upon_enter ((ok_any _ (show IsNum _ _ (none) from by rw [← eval_tmp] at *; exact h0)).mono fun ed w2 ⟨he, hx2⟩ => ⟨_, he, hx2, rfl⟩)
  refine walk_q [(49, some 3), (52, some 0)] (by kernel_rfl) rfl ?_
  apply Exists.intro
  refine ⟨fun b w' hx hs => ?_, ?_⟩
  · obtain ⟨h0, h1, -⟩ := hs
    change _ = _ at h0
    change _ = _ at h1
    rw [eval_tmp] at h0 h1
    go_simp
    try go_ints
    rfl
  refine walk_q [(53, some 0)] (by kernel_rfl) rfl ?_
  apply Exists.intro
  refine ⟨fun b w' hx hs => ?_, ?_⟩
  · obtain ⟨h0, -⟩ := hs
    change _ = _ at h0
    rw [eval_tmp] at h0
    go_simp
    try go_ints
    rfl
  refine walk_qg [(1, none), (54, some 0)] (by kernel_rfl) 38 54 false rfl rfl (fun b w' hx hs => by obtain ⟨-, h1, -⟩ := hs; exact h1) ?_
  apply Exists.intro
  refine ⟨fun b w' hx hs => ?_, ?_⟩
  · obtain ⟨h0, h1, -⟩ := hs
    change _ = _ at h0
    change _ = _ at h1
    rw [eval_tmp] at h0 h1
    have hx_B1 := B1.ext hx
    have kB1_0 := hx_B1.cell 0 rfl
    have kB1_1 := hx_B1.cell 1 rfl
    have kB1_2 := hx_B1.cell 2 rfl
    have kB1_3 := hx_B1.cell 3 rfl
    have hx_B2 := B2.ext hx
    have kB2_0 := hx_B2.cell 0 rfl
    have kB2_1 := hx_B2.cell 1 rfl
    have kB2_2 := hx_B2.cell 2 rfl
    have kB2_3 := hx_B2.cell 3 rfl
    have hx_B3 := B3.ext hx
    have kB3_0 := hx_B3.cell 0 rfl
    have kB3_1 := hx_B3.cell 1 rfl
    have kB3_2 := hx_B3.cell 2 rfl
    have kB3_3 := hx_B3.cell 3 rfl
    have hx_B4 := B4.ext hx
    have kB4_0 := hx_B4.cell 0 rfl
    have kB4_1 := hx_B4.cell 1 rfl
    have kB4_2 := hx_B4.cell 2 rfl
    have kB4_3 := hx_B4.cell 3 rfl
    go_simp
    try go_ints
    rfl
  refine walk_cg [(55, some 0), (54, some 1)] (by kernel_rfl) 38 54 false rfl rfl (fun b w' hx hs => by obtain ⟨-, h1, -⟩ := hs; exact h1) (fun w' v => IsNum w' v (none)) (fun _ _ _ x h => by first | exact h | exact h.ext x) (fun b w' hx hs => ?_) ?_
  · as_aux_lemma =>
      obtain ⟨h0, h1, -⟩ := hs
      change _ = _ at h0
      change _ = _ at h1
      rw [eval_tmp] at h0 h1
      go_simp
      refine upon_enter ((shift_any (-9223372036854775808) _ (hT.ext hx) (n1.ext hx)).mono fun ed w2 ⟨v, he, hx2, hn⟩ => ⟨v, he, hx2, ?_⟩)
      have hval : shiftO (some (((1 : Int) : Rat))) (-9223372036854775808) = none := sh_none (by omega)
      rw [hval] at hn
      first | exact hn | simpa using hn
  refine walk_cg [(56, some 0), (54, some 2)] (by kernel_rfl) 38 54 false rfl rfl (fun b w' hx hs => by obtain ⟨-, h1, -⟩ := hs; exact h1) (fun _ v => v = .bool false) (fun _ _ _ x h => by first | exact h | exact h.ext x) (fun b w' hx hs => ?_) ?_
  · as_aux_lemma =>
      obtain ⟨h0, h1, -⟩ := hs
      change _ = _ at h1
      rw [eval_tmp] at h0 h1
      go_simp
      exact upon_enter ((ok_any _ (show IsNum _ _ (none) from by rw [← eval_tmp] at *; exact h0)).mono fun ed w2 ⟨he, hx2⟩ => ⟨_, he, hx2, rfl⟩)
  refine walk_q [(54, some 3), (57, some 0)] (by kernel_rfl) rfl ?_
  apply Exists.intro
  refine ⟨fun b w' hx hs => ?_, ?_⟩
  · obtain ⟨h0, h1, -⟩ := hs
    change _ = _ at h0
    change _ = _ at h1
    rw [eval_tmp] at h0 h1
    go_simp
    try go_ints
    rfl
  refine walk_q [(58, some 0)] (by kernel_rfl) rfl ?_
  apply Exists.intro
  refine ⟨fun b w' hx hs => ?_, ?_⟩
  · obtain ⟨h0, -⟩ := hs
    change _ = _ at h0
    rw [eval_tmp] at h0
    go_simp
    try go_ints
    rfl
  refine walk_qg [(4, none), (59, some 0)] (by kernel_rfl) 43 59 false rfl rfl (fun b w' hx hs => by obtain ⟨-, h1, -⟩ := hs; exact h1) ?_
  apply Exists.intro
  refine ⟨fun b w' hx hs => ?_, ?_⟩
  · obtain ⟨h0, h1, -⟩ := hs
    change _ = _ at h0
    change _ = _ at h1
    rw [eval_tmp] at h0 h1
    have hx_B1 := B1.ext hx
    have kB1_0 := hx_B1.cell 0 rfl
    have kB1_1 := hx_B1.cell 1 rfl
    have kB1_2 := hx_B1.cell 2 rfl
    have kB1_3 := hx_B1.cell 3 rfl
    have hx_B2 := B2.ext hx
    have kB2_0 := hx_B2.cell 0 rfl
    have kB2_1 := hx_B2.cell 1 rfl
    have kB2_2 := hx_B2.cell 2 rfl
    have kB2_3 := hx_B2.cell 3 rfl
    have hx_B3 := B3.ext hx
    have kB3_0 := hx_B3.cell 0 rfl
    have kB3_1 := hx_B3.cell 1 rfl
    have kB3_2 := hx_B3.cell 2 rfl
    have kB3_3 := hx_B3.cell 3 rfl
    have hx_B4 := B4.ext hx
    have kB4_0 := hx_B4.cell 0 rfl
    have kB4_1 := hx_B4.cell 1 rfl
    have kB4_2 := hx_B4.cell 2 rfl
    have kB4_3 := hx_B4.cell 3 rfl
    go_simp
    try go_ints
    rfl
  refine walk_cg [(60, some 0), (59, some 1)] (by kernel_rfl) 43 59 false rfl rfl (fun b w' hx hs => by obtain ⟨-, h1, -⟩ := hs; exact h1) (fun w' v => IsNum w' v (some (0))) (fun _ _ _ x h => by first | exact h | exact h.ext x) (fun b w' hx hs => ?_) ?_
  · as_aux_lemma =>
      obtain ⟨h0, h1, -⟩ := hs
      change _ = _ at h0
      change _ = _ at h1
      rw [eval_tmp] at h0 h1
      go_simp
      refine upon_enter ((shift_any (9223372036854775807) _ (hT.ext hx) (n4.ext hx)).mono fun ed w2 ⟨v, he, hx2, hn⟩ => ⟨v, he, hx2, ?_⟩)
      have hval : shiftO (some (0)) (9223372036854775807) = some (0) := sh_zero _
      rw [hval] at hn
      first | exact hn | simpa using hn
  refine walk_cg [(61, some 0), (59, some 2)] (by kernel_rfl) 43 59 false rfl rfl (fun b w' hx hs => by obtain ⟨-, h1, -⟩ := hs; exact h1) (fun _ v => v = .bool true) (fun _ _ _ x h => by first | exact h | exact h.ext x) (fun b w' hx hs => ?_) ?_
  · as_aux_lemma =>
      obtain ⟨h0, h1, -⟩ := hs
      change _ = _ at h1
      rw [eval_tmp] at h0 h1
      go_simp
      exact upon_enter ((ok_any _ (show IsNum _ _ (some (0)) from by rw [← eval_tmp] at *; exact h0)).mono fun ed w2 ⟨he, hx2⟩ => ⟨_, he, hx2, rfl⟩)
  refine walk_qg [(62, some 0), (59, some 3)] (by kernel_rfl) 43 59 false rfl rfl (fun b w' hx hs => by obtain ⟨-, h1, -⟩ := hs; exact h1) ?_
  apply Exists.intro
  refine ⟨fun b w' hx hs => ?_, ?_⟩
  · obtain ⟨h0, h1, -⟩ := hs
    change _ = _ at h0
    change _ = _ at h1
    rw [eval_tmp] at h0 h1
    go_simp
    try go_ints
    rfl
  refine walk_q [(59, some 4), (63, some 0)] (by kernel_rfl) rfl ?_
  apply Exists.intro
  refine ⟨fun b w' hx hs => ?_, ?_⟩
  · obtain ⟨h0, h1, -⟩ := hs
    change _ = _ at h0
    change _ = _ at h1
    rw [eval_tmp] at h0 h1
    go_simp
    try go_ints
    rfl
  refine walk_q [(64, some 0)] (by kernel_rfl) rfl ?_
  apply Exists.intro
  refine ⟨fun b w' hx hs => ?_, ?_⟩
  · obtain ⟨h0, -⟩ := hs
    change _ = _ at h0
    rw [eval_tmp] at h0
    go_simp
    try go_ints
    rfl
  refine walk_qg [(2, none), (65, some 0)] (by kernel_rfl) 49 65 false rfl rfl (fun b w' hx hs => by obtain ⟨-, h1, -⟩ := hs; exact h1) ?_
  apply Exists.intro
  refine ⟨fun b w' hx hs => ?_, ?_⟩
  · obtain ⟨h0, h1, -⟩ := hs
    change _ = _ at h0
    change _ = _ at h1
    rw [eval_tmp] at h0 h1
    have hx_B1 := B1.ext hx
    have kB1_0 := hx_B1.cell 0 rfl
    have kB1_1 := hx_B1.cell 1 rfl
    have kB1_2 := hx_B1.cell 2 rfl
    have kB1_3 := hx_B1.cell 3 rfl
    have hx_B2 := B2.ext hx
    have kB2_0 := hx_B2.cell 0 rfl
    have kB2_1 := hx_B2.cell 1 rfl
    have kB2_2 := hx_B2.cell 2 rfl
    have kB2_3 := hx_B2.cell 3 rfl
    have hx_B3 := B3.ext hx
    have kB3_0 := hx_B3.cell 0 rfl
    have kB3_1 := hx_B3.cell 1 rfl
    have kB3_2 := hx_B3.cell 2 rfl
    have kB3_3 := hx_B3.cell 3 rfl
    have hx_B4 := B4.ext hx
    have kB4_0 := hx_B4.cell 0 rfl
    have kB4_1 := hx_B4.cell 1 rfl
    have kB4_2 := hx_B4.cell 2 rfl
    have kB4_3 := hx_B4.cell 3 rfl
    go_simp
    try go_ints
    rfl
  refine walk_qg [(2, none), (65, some 1)] (by kernel_rfl) 49 65 false rfl rfl (fun b w' hx hs => by obtain ⟨-, h1, -⟩ := hs; exact h1) ?_
  apply Exists.intro
  refine ⟨fun b w' hx hs => ?_, ?_⟩
  · obtain ⟨h0, h1, -⟩ := hs
    change _ = _ at h0
    change _ = _ at h1
    rw [eval_tmp] at h0 h1
    have hx_B1 := B1.ext hx
    have kB1_0 := hx_B1.cell 0 rfl
    have kB1_1 := hx_B1.cell 1 rfl
    have kB1_2 := hx_B1.cell 2 rfl
    have kB1_3 := hx_B1.cell 3 rfl
    have hx_B2 := B2.ext hx
    have kB2_0 := hx_B2.cell 0 rfl
    have kB2_1 := hx_B2.cell 1 rfl
    have kB2_2 := hx_B2.cell 2 rfl
    have kB2_3 := hx_B2.cell 3 rfl
    have hx_B3 := B3.ext hx
    have kB3_0 := hx_B3.cell 0 rfl
    have kB3_1 := hx_B3.cell 1 rfl
    have kB3_2 := hx_B3.cell 2 rfl
    have kB3_3 := hx_B3.cell 3 rfl
    have hx_B4 := B4.ext hx
    have kB4_0 := hx_B4.cell 0 rfl
    have kB4_1 := hx_B4.cell 1 rfl
    have kB4_2 := hx_B4.cell 2 rfl
    have kB4_3 := hx_B4.cell 3 rfl
    go_simp
    try go_ints
    rfl
  refine walk_cg [(66, some 1), (67, some 0), (65, some 2)] (by kernel_rfl) 49 65 false rfl rfl (fun b w' hx hs => by obtain ⟨-, -, h2, -⟩ := hs; exact h2) (fun w' v => IsNum w' v (none)) (fun _ _ _ x h => by first | exact h | exact h.ext x) (fun b w' hx hs => ?_) ?_
  · as_aux_lemma =>
      obtain ⟨h0, h1, h2, -⟩ := hs
      change _ = _ at h0
      change _ = _ at h1
      change _ = _ at h2
      rw [eval_tmp] at h0 h1 h2
      go_simp
      refine upon_enter ((add_any _ (hT.ext hx) (n2.ext hx) (n2.ext hx)).mono fun ed w2 ⟨v, he, hx2, hn⟩ => ⟨v, he, hx2, ?_⟩)
      have hval : addO (some (p2 65536)) (some (p2 65536)) = none := top_top
      rw [hval] at hn
      first | exact hn | simpa using hn
  refine walk_cg [(68, some 0), (65, some 3)] (by kernel_rfl) 49 65 false rfl rfl (fun b w' hx hs => by obtain ⟨-, h1, -⟩ := hs; exact h1) (fun _ v => v = .bool false) (fun _ _ _ x h => by first | exact h | exact h.ext x) (fun b w' hx hs => ?_) ?_
  · as_aux_lemma =>
      obtain ⟨h0, h1, -⟩ := hs
      change _ = _ at h1
      rw [eval_tmp] at h0 h1
      go_simp
      exact upon_enter ((ok_any _ (show IsNum _ _ (none) from by rw [← eval_tmp] at *; exact h0)).mono fun ed w2 ⟨he, hx2⟩ => ⟨_, he, hx2, rfl⟩)
  refine walk_q [(65, some 4), (69, some 0)] (by kernel_rfl) rfl ?_
  apply Exists.intro
  refine ⟨fun b w' hx hs => ?_, ?_⟩
  · obtain ⟨h0, h1, -⟩ := hs
    change _ = _ at h0
    change _ = _ at h1
    rw [eval_tmp] at h0 h1
    go_simp
    try go_ints
    rfl
  refine walk_q [(70, some 0)] (by kernel_rfl) rfl ?_
  apply Exists.intro
  refine ⟨fun b w' hx hs => ?_, ?_⟩
  · obtain ⟨h0, -⟩ := hs
    change _ = _ at h0
    rw [eval_tmp] at h0
    go_simp
    try go_ints
    rfl
  refine walk_qg [(2, none), (71, some 0)] (by kernel_rfl) 55 71 false rfl rfl (fun b w' hx hs => by obtain ⟨-, h1, -⟩ := hs; exact h1) ?_
  apply Exists.intro
  refine ⟨fun b w' hx hs => ?_, ?_⟩
  · obtain ⟨h0, h1, -⟩ := hs
    change _ = _ at h0
    change _ = _ at h1
    rw [eval_tmp] at h0 h1
    have hx_B1 := B1.ext hx
    have kB1_0 := hx_B1.cell 0 rfl
    have kB1_1 := hx_B1.cell 1 rfl
    have kB1_2 := hx_B1.cell 2 rfl
    have kB1_3 := hx_B1.cell 3 rfl
    have hx_B2 := B2.ext hx
    have kB2_0 := hx_B2.cell 0 rfl
    have kB2_1 := hx_B2.cell 1 rfl
    have kB2_2 := hx_B2.cell 2 rfl
    have kB2_3 := hx_B2.cell 3 rfl
    have hx_B3 := B3.ext hx
    have kB3_0 := hx_B3.cell 0 rfl
    have kB3_1 := hx_B3.cell 1 rfl
    have kB3_2 := hx_B3.cell 2 rfl
    have kB3_3 := hx_B3.cell 3 rfl
    have hx_B4 := B4.ext hx
    have kB4_0 := hx_B4.cell 0 rfl
    have kB4_1 := hx_B4.cell 1 rfl
    have kB4_2 := hx_B4.cell 2 rfl
    have kB4_3 := hx_B4.cell 3 rfl
    go_simp
    try go_ints
    rfl
  refine walk_qg [(3, none), (71, some 1)] (by kernel_rfl) 55 71 false rfl rfl (fun b w' hx hs => by obtain ⟨-, h1, -⟩ := hs; exact h1) ?_
  apply Exists.intro
  refine ⟨fun b w' hx hs => ?_, ?_⟩
  · obtain ⟨h0, h1, -⟩ := hs
    change _ = _ at h0
    change _ = _ at h1
    rw [eval_tmp] at h0 h1
    have hx_B1 := B1.ext hx
    have kB1_0 := hx_B1.cell 0 rfl
    have kB1_1 := hx_B1.cell 1 rfl
    have kB1_2 := hx_B1.cell 2 rfl
    have kB1_3 := hx_B1.cell 3 rfl
    have hx_B2 := B2.ext hx
    have kB2_0 := hx_B2.cell 0 rfl
    have kB2_1 := hx_B2.cell 1 rfl
    have kB2_2 := hx_B2.cell 2 rfl
    have kB2_3 := hx_B2.cell 3 rfl
    have hx_B3 := B3.ext hx
    have kB3_0 := hx_B3.cell 0 rfl
    have kB3_1 := hx_B3.cell 1 rfl
    have kB3_2 := hx_B3.cell 2 rfl
    have kB3_3 := hx_B3.cell 3 rfl
    have hx_B4 := B4.ext hx
    have kB4_0 := hx_B4.cell 0 rfl
    have kB4_1 := hx_B4.cell 1 rfl
    have kB4_2 := hx_B4.cell 2 rfl
    have kB4_3 := hx_B4.cell 3 rfl
    go_simp
    try go_ints
    rfl
  refine walk_cg [(72, some 1), (73, some 0), (71, some 2)] (by kernel_rfl) 55 71 false rfl rfl (fun b w' hx hs => by obtain ⟨-, -, h2, -⟩ := hs; exact h2) (fun w' v => IsNum w' v (some (p2 65536 + p2 (-65536)))) (fun _ _ _ x h => by first | exact h | exact h.ext x) (fun b w' hx hs => ?_) ?_
  · as_aux_lemma =>
      obtain ⟨h0, h1, h2, -⟩ := hs
      change _ = _ at h0
      change _ = _ at h1
      change _ = _ at h2
      rw [eval_tmp] at h0 h1 h2
      go_simp
      refine upon_enter ((add_any _ (hT.ext hx) (n2.ext hx) (n3.ext hx)).mono fun ed w2 ⟨v, he, hx2, hn⟩ => ⟨v, he, hx2, ?_⟩)
      have hval : addO (some (p2 65536)) (some (p2 (-65536))) = some (p2 65536 + p2 (-65536)) := top_low
      rw [hval] at hn
      first | exact hn | simpa using hn
  refine walk_cg [(74, some 0), (71, some 3)] (by kernel_rfl) 55 71 false rfl rfl (fun b w' hx hs => by obtain ⟨-, h1, -⟩ := hs; exact h1) (fun _ v => v = .bool true) (fun _ _ _ x h => by first | exact h | exact h.ext x) (fun b w' hx hs => ?_) ?_
  · as_aux_lemma =>
      obtain ⟨h0, h1, -⟩ := hs
      change _ = _ at h1
      rw [eval_tmp] at h0 h1
      go_simp
      exact upon_enter ((ok_any _ (show IsNum _ _ (some (p2 65536 + p2 (-65536))) from by rw [← eval_tmp] at *; exact h0)).mono fun ed w2 ⟨he, hx2⟩ => ⟨_, he, hx2, rfl⟩)
  refine walk_qg [(75, some 0), (71, some 4)] (by kernel_rfl) 55 71 false rfl rfl (fun b w' hx hs => by obtain ⟨-, h1, -⟩ := hs; exact h1) ?_
  apply Exists.intro
  refine ⟨fun b w' hx hs => ?_, ?_⟩
  · obtain ⟨h0, h1, -⟩ := hs
    change _ = _ at h0
    change _ = _ at h1
    rw [eval_tmp] at h0 h1
    go_simp
    try go_ints
    rfl
  refine walk_q [(71, some 5), (76, some 0)] (by kernel_rfl) rfl ?_
  apply Exists.intro
  refine ⟨fun b w' hx hs => ?_, ?_⟩
  · obtain ⟨h0, h1, -⟩ := hs
    change _ = _ at h0
    change _ = _ at h1
    rw [eval_tmp] at h0 h1
    go_simp
    try go_ints
    rfl
  refine walk_q [(77, some 0)] (by kernel_rfl) rfl ?_
  apply Exists.intro
  refine ⟨fun b w' hx hs => ?_, ?_⟩
  · obtain ⟨h0, -⟩ := hs
    change _ = _ at h0
    rw [eval_tmp] at h0
    go_simp
    try go_ints
    rfl
  refine walk_qg [(2, none), (78, some 0)] (by kernel_rfl) 62 78 false rfl rfl (fun b w' hx hs => by obtain ⟨-, h1, -⟩ := hs; exact h1) ?_
  apply Exists.intro
  refine ⟨fun b w' hx hs => ?_, ?_⟩
  · obtain ⟨h0, h1, -⟩ := hs
    change _ = _ at h0
    change _ = _ at h1
    rw [eval_tmp] at h0 h1
    have hx_B1 := B1.ext hx
    have kB1_0 := hx_B1.cell 0 rfl
    have kB1_1 := hx_B1.cell 1 rfl
    have kB1_2 := hx_B1.cell 2 rfl
    have kB1_3 := hx_B1.cell 3 rfl
    have hx_B2 := B2.ext hx
    have kB2_0 := hx_B2.cell 0 rfl
    have kB2_1 := hx_B2.cell 1 rfl
    have kB2_2 := hx_B2.cell 2 rfl
    have kB2_3 := hx_B2.cell 3 rfl
    have hx_B3 := B3.ext hx
    have kB3_0 := hx_B3.cell 0 rfl
    have kB3_1 := hx_B3.cell 1 rfl
    have kB3_2 := hx_B3.cell 2 rfl
    have kB3_3 := hx_B3.cell 3 rfl
    have hx_B4 := B4.ext hx
    have kB4_0 := hx_B4.cell 0 rfl
    have kB4_1 := hx_B4.cell 1 rfl
    have kB4_2 := hx_B4.cell 2 rfl
    have kB4_3 := hx_B4.cell 3 rfl
    go_simp
    try go_ints
    rfl
  refine walk_qg [(3, none), (78, some 1)] (by kernel_rfl) 62 78 false rfl rfl (fun b w' hx hs => by obtain ⟨-, h1, -⟩ := hs; exact h1) ?_
  apply Exists.intro
  refine ⟨fun b w' hx hs => ?_, ?_⟩
  · obtain ⟨h0, h1, -⟩ := hs
    change _ = _ at h0
    change _ = _ at h1
    rw [eval_tmp] at h0 h1
    have hx_B1 := B1.ext hx
    have kB1_0 := hx_B1.cell 0 rfl
    have kB1_1 := hx_B1.cell 1 rfl
    have kB1_2 := hx_B1.cell 2 rfl
    have kB1_3 := hx_B1.cell 3 rfl
    have hx_B2 := B2.ext hx
    have kB2_0 := hx_B2.cell 0 rfl
    have kB2_1 := hx_B2.cell 1 rfl
    have kB2_2 := hx_B2.cell 2 rfl
    have kB2_3 := hx_B2.cell 3 rfl
    have hx_B3 := B3.ext hx
    have kB3_0 := hx_B3.cell 0 rfl
    have kB3_1 := hx_B3.cell 1 rfl
    have kB3_2 := hx_B3.cell 2 rfl
    have kB3_3 := hx_B3.cell 3 rfl
    have hx_B4 := B4.ext hx
    have kB4_0 := hx_B4.cell 0 rfl
    have kB4_1 := hx_B4.cell 1 rfl
    have kB4_2 := hx_B4.cell 2 rfl
    have kB4_3 := hx_B4.cell 3 rfl
    go_simp
    try go_ints
    rfl
  refine walk_cg [(79, some 1), (80, some 0), (78, some 2)] (by kernel_rfl) 62 78 false rfl rfl (fun b w' hx hs => by obtain ⟨-, -, h2, -⟩ := hs; exact h2) (fun w' v => IsNum w' v (some (p2 65536 + p2 (-65536)))) (fun _ _ _ x h => by first | exact h | exact h.ext x) (fun b w' hx hs => ?_) ?_
  · as_aux_lemma =>
      obtain ⟨h0, h1, h2, -⟩ := hs
      change _ = _ at h0
      change _ = _ at h1
      change _ = _ at h2
      rw [eval_tmp] at h0 h1 h2
      go_simp
      refine upon_enter ((add_any _ (hT.ext hx) (n2.ext hx) (n3.ext hx)).mono fun ed w2 ⟨v, he, hx2, hn⟩ => ⟨v, he, hx2, ?_⟩)
      have hval : addO (some (p2 65536)) (some (p2 (-65536))) = some (p2 65536 + p2 (-65536)) := top_low
      rw [hval] at hn
      first | exact hn | simpa using hn
  refine walk_qg [(2, none), (78, some 3)] (by kernel_rfl) 62 78 false rfl rfl (fun b w' hx hs => by obtain ⟨-, h1, -⟩ := hs; exact h1) ?_
  apply Exists.intro
  refine ⟨fun b w' hx hs => ?_, ?_⟩
  · obtain ⟨h0, h1, -⟩ := hs
    change _ = _ at h0
    change _ = _ at h1
    rw [eval_tmp] at h0 h1
    have hx_B1 := B1.ext hx
    have kB1_0 := hx_B1.cell 0 rfl
    have kB1_1 := hx_B1.cell 1 rfl
    have kB1_2 := hx_B1.cell 2 rfl
    have kB1_3 := hx_B1.cell 3 rfl
    have hx_B2 := B2.ext hx
    have kB2_0 := hx_B2.cell 0 rfl
    have kB2_1 := hx_B2.cell 1 rfl
    have kB2_2 := hx_B2.cell 2 rfl
    have kB2_3 := hx_B2.cell 3 rfl
    have hx_B3 := B3.ext hx
    have kB3_0 := hx_B3.cell 0 rfl
    have kB3_1 := hx_B3.cell 1 rfl
    have kB3_2 := hx_B3.cell 2 rfl
    have kB3_3 := hx_B3.cell 3 rfl
    have hx_B4 := B4.ext hx
    have kB4_0 := hx_B4.cell 0 rfl
    have kB4_1 := hx_B4.cell 1 rfl
    have kB4_2 := hx_B4.cell 2 rfl
    have kB4_3 := hx_B4.cell 3 rfl
    go_simp
    try go_ints
    rfl
  refine walk_cg [(81, some 1), (82, some 0), (78, some 4)] (by kernel_rfl) 62 78 false rfl rfl (fun b w' hx hs => by obtain ⟨-, -, h2, -⟩ := hs; exact h2) (fun w' v => IsNum w' v (some (p2 (-65536)))) (fun _ _ _ x h => by first | exact h | exact h.ext x) (fun b w' hx hs => ?_) ?_
  · as_aux_lemma =>
      obtain ⟨h0, h1, h2, -⟩ := hs
      change _ = _ at h1
      change _ = _ at h2
      rw [eval_tmp] at h0 h1 h2
      go_simp
      refine upon_enter ((sub_any _ (hT.ext hx) (show IsNum _ _ (some (p2 65536 + p2 (-65536))) from by rw [← eval_tmp] at *; exact h0) (n2.ext hx)).mono fun ed w2 ⟨v, he, hx2, hn⟩ => ⟨v, he, hx2, ?_⟩)
      have hval : subO (some (p2 65536 + p2 (-65536))) (some (p2 65536)) = some (p2 (-65536)) := tl_top
      rw [hval] at hn
      first | exact hn | simpa using hn
  refine walk_qg [(3, none), (78, some 5)] (by kernel_rfl) 62 78 false rfl rfl (fun b w' hx hs => by obtain ⟨-, h1, -⟩ := hs; exact h1) ?_
  apply Exists.intro
  refine ⟨fun b w' hx hs => ?_, ?_⟩
  · obtain ⟨h0, h1, -⟩ := hs
    change _ = _ at h0
    change _ = _ at h1
    rw [eval_tmp] at h0 h1
    have hx_B1 := B1.ext hx
    have kB1_0 := hx_B1.cell 0 rfl
    have kB1_1 := hx_B1.cell 1 rfl
    have kB1_2 := hx_B1.cell 2 rfl
    have kB1_3 := hx_B1.cell 3 rfl
    have hx_B2 := B2.ext hx
    have kB2_0 := hx_B2.cell 0 rfl
    have kB2_1 := hx_B2.cell 1 rfl
    have kB2_2 := hx_B2.cell 2 rfl
    have kB2_3 := hx_B2.cell 3 rfl
    have hx_B3 := B3.ext hx
    have kB3_0 := hx_B3.cell 0 rfl
    have kB3_1 := hx_B3.cell 1 rfl
    have kB3_2 := hx_B3.cell 2 rfl
    have kB3_3 := hx_B3.cell 3 rfl
    have hx_B4 := B4.ext hx
    have kB4_0 := hx_B4.cell 0 rfl
    have kB4_1 := hx_B4.cell 1 rfl
    have kB4_2 := hx_B4.cell 2 rfl
    have kB4_3 := hx_B4.cell 3 rfl
    go_simp
    try go_ints
    rfl
  refine walk_cg [(83, some 1), (84, some 0), (78, some 6)] (by kernel_rfl) 62 78 false rfl rfl (fun b w' hx hs => by obtain ⟨-, -, h2, -⟩ := hs; exact h2) (fun _ v => v = .int .i64 (0)) (fun _ _ _ x h => by first | exact h | exact h.ext x) (fun b w' hx hs => ?_) ?_
  · as_aux_lemma =>
      obtain ⟨h0, h1, h2, -⟩ := hs
      change _ = _ at h1
      change _ = _ at h2
      rw [eval_tmp] at h0 h1 h2
      go_simp
      refine upon_enter ((cmp_num _ (hT.ext hx) (show IsNum _ _ (some (p2 (-65536))) from by rw [← eval_tmp] at *; exact h0) (n3.ext hx)).mono fun ed w2 ⟨he, hx2⟩ => ⟨_, he, hx2, ?_⟩)
      have hval : cmpO (some (p2 (-65536))) (some (p2 (-65536))) = 0 := cmp_low
      rw [hval]
  refine walk_qg [(85, some 0), (78, some 7)] (by kernel_rfl) 62 78 false rfl rfl (fun b w' hx hs => by obtain ⟨-, h1, -⟩ := hs; exact h1) ?_
  apply Exists.intro
  refine ⟨fun b w' hx hs => ?_, ?_⟩
  · obtain ⟨h0, h1, -⟩ := hs
    change _ = _ at h0
    change _ = _ at h1
    rw [eval_tmp] at h0 h1
    go_simp
    try go_ints
    rfl
  refine walk_q [(78, some 8), (86, some 0)] (by kernel_rfl) rfl ?_
  apply Exists.intro
  refine ⟨fun b w' hx hs => ?_, ?_⟩
  · obtain ⟨h0, h1, -⟩ := hs
    change _ = _ at h0
    change _ = _ at h1
    rw [eval_tmp] at h0 h1
    go_simp
    try go_ints
    rfl
  refine walk_q [(87, some 0)] (by kernel_rfl) rfl ?_
  apply Exists.intro
  refine ⟨fun b w' hx hs => ?_, ?_⟩
  · obtain ⟨h0, -⟩ := hs
    change _ = _ at h0
    rw [eval_tmp] at h0
    go_simp
    try go_ints
    rfl
  refine walk_qg [(2, none), (88, some 0)] (by kernel_rfl) 72 88 false rfl rfl (fun b w' hx hs => by obtain ⟨-, h1, -⟩ := hs; exact h1) ?_
  apply Exists.intro
  refine ⟨fun b w' hx hs => ?_, ?_⟩
  · obtain ⟨h0, h1, -⟩ := hs
    change _ = _ at h0
    change _ = _ at h1
    rw [eval_tmp] at h0 h1
    have hx_B1 := B1.ext hx
    have kB1_0 := hx_B1.cell 0 rfl
    have kB1_1 := hx_B1.cell 1 rfl
    have kB1_2 := hx_B1.cell 2 rfl
    have kB1_3 := hx_B1.cell 3 rfl
    have hx_B2 := B2.ext hx
    have kB2_0 := hx_B2.cell 0 rfl
    have kB2_1 := hx_B2.cell 1 rfl
    have kB2_2 := hx_B2.cell 2 rfl
    have kB2_3 := hx_B2.cell 3 rfl
    have hx_B3 := B3.ext hx
    have kB3_0 := hx_B3.cell 0 rfl
    have kB3_1 := hx_B3.cell 1 rfl
    have kB3_2 := hx_B3.cell 2 rfl
    have kB3_3 := hx_B3.cell 3 rfl
    have hx_B4 := B4.ext hx
    have kB4_0 := hx_B4.cell 0 rfl
    have kB4_1 := hx_B4.cell 1 rfl
    have kB4_2 := hx_B4.cell 2 rfl
    have kB4_3 := hx_B4.cell 3 rfl
    go_simp
    try go_ints
    rfl
  refine walk_cg [(88, some 1)] (by kernel_rfl) 72 88 false rfl rfl (fun b w' hx hs => by obtain ⟨h0, -⟩ := hs; exact h0) (fun w' v => IsNum w' v (some (((2 : Int) : Rat)))) (fun _ _ _ x h => by first | exact h | exact h.ext x) (fun b w' hx hs => ?_) ?_
  · as_aux_lemma =>
      obtain ⟨h0, -⟩ := hs
      change _ = _ at h0
      rw [eval_tmp] at h0
      go_simp
      refine upon_enter ((int_any (2) _ (by omega) (by omega) (hT.ext hx)).mono fun ed w2 ⟨v, he, hx2, hn⟩ => ⟨v, he, hx2, ?_⟩)
      first | exact hn | simpa using hn
  refine walk_cg [(89, some 1), (90, some 0), (88, some 2)] (by kernel_rfl) 72 88 false rfl rfl (fun b w' hx hs => by obtain ⟨-, -, h2, -⟩ := hs; exact h2) (fun w' v => IsNum w' v (none)) (fun _ _ _ x h => by first | exact h | exact h.ext x) (fun b w' hx hs => ?_) ?_
  · as_aux_lemma =>
      obtain ⟨h0, h1, h2, -⟩ := hs
      change _ = _ at h0
      change _ = _ at h2
      rw [eval_tmp] at h0 h1 h2
      go_simp
      refine upon_enter ((mul_any _ (hT.ext hx) (n2.ext hx) (show IsNum _ _ (some (((2 : Int) : Rat))) from by rw [← eval_tmp] at *; exact h1)).mono fun ed w2 ⟨v, he, hx2, hn⟩ => ⟨v, he, hx2, ?_⟩)
      have hval : mulO (some (p2 65536)) (some (((2 : Int) : Rat))) = none := top_two
      rw [hval] at hn
      first | exact hn | simpa using hn
  refine walk_cg [(91, some 0), (88, some 3)] (by kernel_rfl) 72 88 false rfl rfl (fun b w' hx hs => by obtain ⟨-, h1, -⟩ := hs; exact h1) (fun _ v => v = .bool false) (fun _ _ _ x h => by first | exact h | exact h.ext x) (fun b w' hx hs => ?_) ?_
  · as_aux_lemma =>
      obtain ⟨h0, h1, -⟩ := hs
      change _ = _ at h1
      rw [eval_tmp] at h0 h1
      go_simp
      exact upon_enter ((ok_any _ (show IsNum _ _ (none) from by rw [← eval_tmp] at *; exact h0)).mono fun ed w2 ⟨he, hx2⟩ => ⟨_, he, hx2, rfl⟩)
  refine walk_q [(88, some 4), (92, some 0)] (by kernel_rfl) rfl ?_
  apply Exists.intro
  refine ⟨fun b w' hx hs => ?_, ?_⟩
  · obtain ⟨h0, h1, -⟩ := hs
    change _ = _ at h0
    change _ = _ at h1
    rw [eval_tmp] at h0 h1
    go_simp
    try go_ints
    rfl
  refine walk_q [(93, some 0)] (by kernel_rfl) rfl ?_
  apply Exists.intro
  refine ⟨fun b w' hx hs => ?_, ?_⟩
  · obtain ⟨h0, -⟩ := hs
    change _ = _ at h0
    rw [eval_tmp] at h0
    go_simp
    try go_ints
    rfl
  refine walk_qg [(2, none), (94, some 0)] (by kernel_rfl) 78 94 false rfl rfl (fun b w' hx hs => by obtain ⟨-, h1, -⟩ := hs; exact h1) ?_
  apply Exists.intro
  refine ⟨fun b w' hx hs => ?_, ?_⟩
  · obtain ⟨h0, h1, -⟩ := hs
    change _ = _ at h0
    change _ = _ at h1
    rw [eval_tmp] at h0 h1
    have hx_B1 := B1.ext hx
    have kB1_0 := hx_B1.cell 0 rfl
    have kB1_1 := hx_B1.cell 1 rfl
    have kB1_2 := hx_B1.cell 2 rfl
    have kB1_3 := hx_B1.cell 3 rfl
    have hx_B2 := B2.ext hx
    have kB2_0 := hx_B2.cell 0 rfl
    have kB2_1 := hx_B2.cell 1 rfl
    have kB2_2 := hx_B2.cell 2 rfl
    have kB2_3 := hx_B2.cell 3 rfl
    have hx_B3 := B3.ext hx
    have kB3_0 := hx_B3.cell 0 rfl
    have kB3_1 := hx_B3.cell 1 rfl
    have kB3_2 := hx_B3.cell 2 rfl
    have kB3_3 := hx_B3.cell 3 rfl
    have hx_B4 := B4.ext hx
    have kB4_0 := hx_B4.cell 0 rfl
    have kB4_1 := hx_B4.cell 1 rfl
    have kB4_2 := hx_B4.cell 2 rfl
    have kB4_3 := hx_B4.cell 3 rfl
    go_simp
    try go_ints
    rfl
  refine walk_qg [(3, none), (94, some 1)] (by kernel_rfl) 78 94 false rfl rfl (fun b w' hx hs => by obtain ⟨-, h1, -⟩ := hs; exact h1) ?_
  apply Exists.intro
  refine ⟨fun b w' hx hs => ?_, ?_⟩
  · obtain ⟨h0, h1, -⟩ := hs
    change _ = _ at h0
    change _ = _ at h1
    rw [eval_tmp] at h0 h1
    have hx_B1 := B1.ext hx
    have kB1_0 := hx_B1.cell 0 rfl
    have kB1_1 := hx_B1.cell 1 rfl
    have kB1_2 := hx_B1.cell 2 rfl
    have kB1_3 := hx_B1.cell 3 rfl
    have hx_B2 := B2.ext hx
    have kB2_0 := hx_B2.cell 0 rfl
    have kB2_1 := hx_B2.cell 1 rfl
    have kB2_2 := hx_B2.cell 2 rfl
    have kB2_3 := hx_B2.cell 3 rfl
    have hx_B3 := B3.ext hx
    have kB3_0 := hx_B3.cell 0 rfl
    have kB3_1 := hx_B3.cell 1 rfl
    have kB3_2 := hx_B3.cell 2 rfl
    have kB3_3 := hx_B3.cell 3 rfl
    have hx_B4 := B4.ext hx
    have kB4_0 := hx_B4.cell 0 rfl
    have kB4_1 := hx_B4.cell 1 rfl
    have kB4_2 := hx_B4.cell 2 rfl
    have kB4_3 := hx_B4.cell 3 rfl
    go_simp
    try go_ints
    rfl
  refine walk_cg [(95, some 1), (96, some 0), (94, some 2)] (by kernel_rfl) 78 94 false rfl rfl (fun b w' hx hs => by obtain ⟨-, -, h2, -⟩ := hs; exact h2) (fun w' v => IsNum w' v (some (1))) (fun _ _ _ x h => by first | exact h | exact h.ext x) (fun b w' hx hs => ?_) ?_
  · as_aux_lemma =>
      obtain ⟨h0, h1, h2, -⟩ := hs
      change _ = _ at h0
      change _ = _ at h1
      change _ = _ at h2
      rw [eval_tmp] at h0 h1 h2
      go_simp
      refine upon_enter ((mul_any _ (hT.ext hx) (n2.ext hx) (n3.ext hx)).mono fun ed w2 ⟨v, he, hx2, hn⟩ => ⟨v, he, hx2, ?_⟩)
      have hval : mulO (some (p2 65536)) (some (p2 (-65536))) = some (1) := top_mul_low
      rw [hval] at hn
      first | exact hn | simpa using hn
  refine walk_cg [(97, some 0), (94, some 3)] (by kernel_rfl) 78 94 false rfl rfl (fun b w' hx hs => by obtain ⟨-, h1, -⟩ := hs; exact h1) (fun _ v => v = .bool true) (fun _ _ _ x h => by first | exact h | exact h.ext x) (fun b w' hx hs => ?_) ?_
  · as_aux_lemma =>
      obtain ⟨h0, h1, -⟩ := hs
      change _ = _ at h1
      rw [eval_tmp] at h0 h1
      go_simp
      exact upon_enter ((ok_any _ (show IsNum _ _ (some (1)) from by rw [← eval_tmp] at *; exact h0)).mono fun ed w2 ⟨he, hx2⟩ => ⟨_, he, hx2, rfl⟩)
  refine walk_qg [(98, some 0), (94, some 4)] (by kernel_rfl) 78 94 false rfl rfl (fun b w' hx hs => by obtain ⟨-, h1, -⟩ := hs; exact h1) ?_
  apply Exists.intro
  refine ⟨fun b w' hx hs => ?_, ?_⟩
  · obtain ⟨h0, h1, -⟩ := hs
    change _ = _ at h0
    change _ = _ at h1
    rw [eval_tmp] at h0 h1
    go_simp
    try go_ints
    rfl
  refine walk_q [(94, some 5), (99, some 0)] (by kernel_rfl) rfl ?_
  apply Exists.intro
  refine ⟨fun b w' hx hs => ?_, ?_⟩
  · obtain ⟨h0, h1, -⟩ := hs
    change _ = _ at h0
    change _ = _ at h1
    rw [eval_tmp] at h0 h1
    go_simp
    try go_ints
    rfl
  refine walk_q [(100, some 0)] (by kernel_rfl) rfl ?_
  apply Exists.intro
  refine ⟨fun b w' hx hs => ?_, ?_⟩
  · obtain ⟨h0, -⟩ := hs
    change _ = _ at h0
    rw [eval_tmp] at h0
    go_simp
    try go_ints
    rfl
  refine walk_qg [(2, none), (101, some 0)] (by kernel_rfl) 85 101 false rfl rfl (fun b w' hx hs => by obtain ⟨-, h1, -⟩ := hs; exact h1) ?_
  apply Exists.intro
  refine ⟨fun b w' hx hs => ?_, ?_⟩
  · obtain ⟨h0, h1, -⟩ := hs
    change _ = _ at h0
    change _ = _ at h1
    rw [eval_tmp] at h0 h1
    have hx_B1 := B1.ext hx
    have kB1_0 := hx_B1.cell 0 rfl
    have kB1_1 := hx_B1.cell 1 rfl
    have kB1_2 := hx_B1.cell 2 rfl
    have kB1_3 := hx_B1.cell 3 rfl
    have hx_B2 := B2.ext hx
    have kB2_0 := hx_B2.cell 0 rfl
    have kB2_1 := hx_B2.cell 1 rfl
    have kB2_2 := hx_B2.cell 2 rfl
    have kB2_3 := hx_B2.cell 3 rfl
    have hx_B3 := B3.ext hx
    have kB3_0 := hx_B3.cell 0 rfl
    have kB3_1 := hx_B3.cell 1 rfl
    have kB3_2 := hx_B3.cell 2 rfl
    have kB3_3 := hx_B3.cell 3 rfl
    have hx_B4 := B4.ext hx
    have kB4_0 := hx_B4.cell 0 rfl
    have kB4_1 := hx_B4.cell 1 rfl
    have kB4_2 := hx_B4.cell 2 rfl
    have kB4_3 := hx_B4.cell 3 rfl
    go_simp
    try go_ints
    rfl
  refine walk_qg [(3, none), (101, some 1)] (by kernel_rfl) 85 101 false rfl rfl (fun b w' hx hs => by obtain ⟨-, h1, -⟩ := hs; exact h1) ?_
  apply Exists.intro
  refine ⟨fun b w' hx hs => ?_, ?_⟩
  · obtain ⟨h0, h1, -⟩ := hs
    change _ = _ at h0
    change _ = _ at h1
    rw [eval_tmp] at h0 h1
    have hx_B1 := B1.ext hx
    have kB1_0 := hx_B1.cell 0 rfl
    have kB1_1 := hx_B1.cell 1 rfl
    have kB1_2 := hx_B1.cell 2 rfl
    have kB1_3 := hx_B1.cell 3 rfl
    have hx_B2 := B2.ext hx
    have kB2_0 := hx_B2.cell 0 rfl
    have kB2_1 := hx_B2.cell 1 rfl
    have kB2_2 := hx_B2.cell 2 rfl
    have kB2_3 := hx_B2.cell 3 rfl
    have hx_B3 := B3.ext hx
    have kB3_0 := hx_B3.cell 0 rfl
    have kB3_1 := hx_B3.cell 1 rfl
    have kB3_2 := hx_B3.cell 2 rfl
    have kB3_3 := hx_B3.cell 3 rfl
    have hx_B4 := B4.ext hx
    have kB4_0 := hx_B4.cell 0 rfl
    have kB4_1 := hx_B4.cell 1 rfl
    have kB4_2 := hx_B4.cell 2 rfl
    have kB4_3 := hx_B4.cell 3 rfl
    go_simp
    try go_ints
    rfl
  refine walk_cg [(102, some 1), (103, some 0), (101, some 2)] (by kernel_rfl) 85 101 false rfl rfl (fun b w' hx hs => by obtain ⟨-, -, h2, -⟩ := hs; exact h2) (fun w' v => IsNum w' v (some (1))) (fun _ _ _ x h => by first | exact h | exact h.ext x) (fun b w' hx hs => ?_) ?_
  · as_aux_lemma =>
      obtain ⟨h0, h1, h2, -⟩ := hs
      change _ = _ at h0
      change _ = _ at h1
      change _ = _ at h2
      rw [eval_tmp] at h0 h1 h2
      go_simp
      refine upon_enter ((mul_any _ (hT.ext hx) (n2.ext hx) (n3.ext hx)).mono fun ed w2 ⟨v, he, hx2, hn⟩ => ⟨v, he, hx2, ?_⟩)
      have hval : mulO (some (p2 65536)) (some (p2 (-65536))) = some (1) := top_mul_low
      rw [hval] at hn
      first | exact hn | simpa using hn
  refine walk_cg [(104, some 0), (101, some 3)] (by kernel_rfl) 85 101 false rfl rfl (fun b w' hx hs => by obtain ⟨-, h1, -⟩ := hs; exact h1) (fun _ v => v = .float .f64 4607182418800017408) (fun _ _ _ x h => by first | exact h | exact h.ext x) (fun b w' hx hs => ?_) ?_
  · as_aux_lemma =>
      obtain ⟨h0, h1, -⟩ := hs
      change _ = _ at h1
      rw [eval_tmp] at h0 h1
      go_simp
      refine upon_enter ((float_any _ (show IsNum _ _ (some (1)) from by rw [← eval_tmp] at *; exact h0)).mono fun ed w2 ⟨z, he, hx2, hr⟩ => ⟨_, he, hx2, ?_⟩)
      have hval : Rn (1) 4607182418800017408 := fl_one'
      rw [rn_same hr hval (by omega)]
  refine walk_cg [(105, some 0), (101, some 4)] (by kernel_rfl) 85 101 false rfl rfl (fun b w' hx hs => by obtain ⟨-, h1, -⟩ := hs; exact h1) (fun _ v => v = .bool false) (fun _ _ _ x h => by first | exact h | exact h.ext x) (fun b w' hx hs => ?_) ?_
  · as_aux_lemma =>
      obtain ⟨h0, h1, -⟩ := hs
      change _ = _ at h0
      change _ = _ at h1
      rw [eval_tmp] at h0 h1
      change _ = _ at h0
      have o := O1.out
      go_simp
      exact ⟨Ext.refl _, rfl⟩
  refine walk_q [(101, some 5), (106, some 0)] (by kernel_rfl) rfl ?_
  apply Exists.intro
  refine ⟨fun b w' hx hs => ?_, ?_⟩
  · obtain ⟨h0, h1, -⟩ := hs
    change _ = _ at h0
    change _ = _ at h1
    rw [eval_tmp] at h0 h1
    go_simp
    try go_ints
    rfl
  refine walk_q [(107, some 0)] (by kernel_rfl) rfl ?_
  apply Exists.intro
  refine ⟨fun b w' hx hs => ?_, ?_⟩
  · obtain ⟨h0, -⟩ := hs
    change _ = _ at h0
    rw [eval_tmp] at h0
    go_simp
    try go_ints
    rfl
  refine walk_qg [(3, none), (108, some 0)] (by kernel_rfl) 92 108 false rfl rfl (fun b w' hx hs => by obtain ⟨-, h1, -⟩ := hs; exact h1) ?_
  apply Exists.intro
  refine ⟨fun b w' hx hs => ?_, ?_⟩
  · obtain ⟨h0, h1, -⟩ := hs
    change _ = _ at h0
    change _ = _ at h1
    rw [eval_tmp] at h0 h1
    have hx_B1 := B1.ext hx
    have kB1_0 := hx_B1.cell 0 rfl
    have kB1_1 := hx_B1.cell 1 rfl
    have kB1_2 := hx_B1.cell 2 rfl
    have kB1_3 := hx_B1.cell 3 rfl
    have hx_B2 := B2.ext hx
    have kB2_0 := hx_B2.cell 0 rfl
    have kB2_1 := hx_B2.cell 1 rfl
    have kB2_2 := hx_B2.cell 2 rfl
    have kB2_3 := hx_B2.cell 3 rfl
    have hx_B3 := B3.ext hx
    have kB3_0 := hx_B3.cell 0 rfl
    have kB3_1 := hx_B3.cell 1 rfl
    have kB3_2 := hx_B3.cell 2 rfl
    have kB3_3 := hx_B3.cell 3 rfl
    have hx_B4 := B4.ext hx
    have kB4_0 := hx_B4.cell 0 rfl
    have kB4_1 := hx_B4.cell 1 rfl
    have kB4_2 := hx_B4.cell 2 rfl
    have kB4_3 := hx_B4.cell 3 rfl
    go_simp
    try go_ints
    rfl
  refine walk_cg [(108, some 1)] (by kernel_rfl) 92 108 false rfl rfl (fun b w' hx hs => by obtain ⟨h0, -⟩ := hs; exact h0) (fun w' v => IsNum w' v (some (fl 4602678819172646912))) (fun _ _ _ x h => by first | exact h | exact h.ext x) (fun b w' hx hs => ?_) ?_
  · as_aux_lemma =>
      obtain ⟨h0, -⟩ := hs
      change _ = _ at h0
      rw [eval_tmp] at h0
      go_simp
      refine upon_enter ((of_any 4602678819172646912 _ (by omega) (hT.ext hx)).mono fun ed w2 ⟨v, he, hx2, hn⟩ => ⟨v, he, hx2, ?_⟩)
      rw [ofF_fin (x := 4602678819172646912) (by decide)] at hn
      first | exact hn | simpa using hn
  refine walk_cg [(109, some 1), (110, some 0), (108, some 2)] (by kernel_rfl) 92 108 false rfl rfl (fun b w' hx hs => by obtain ⟨-, -, h2, -⟩ := hs; exact h2) (fun w' v => IsNum w' v (none)) (fun _ _ _ x h => by first | exact h | exact h.ext x) (fun b w' hx hs => ?_) ?_
  · as_aux_lemma =>
      obtain ⟨h0, h1, h2, -⟩ := hs
      change _ = _ at h0
      change _ = _ at h2
      rw [eval_tmp] at h0 h1 h2
      go_simp
      refine upon_enter ((mul_any _ (hT.ext hx) (n3.ext hx) (show IsNum _ _ (some (fl 4602678819172646912)) from by rw [← eval_tmp] at *; exact h1)).mono fun ed w2 ⟨v, he, hx2, hn⟩ => ⟨v, he, hx2, ?_⟩)
      have hval : mulO (some (p2 (-65536))) (some (fl 4602678819172646912)) = none := (by rw [fl_half]; exact low_half)
      rw [hval] at hn
      first | exact hn | simpa using hn
  refine walk_cg [(111, some 0), (108, some 3)] (by kernel_rfl) 92 108 false rfl rfl (fun b w' hx hs => by obtain ⟨-, h1, -⟩ := hs; exact h1) (fun _ v => v = .bool false) (fun _ _ _ x h => by first | exact h | exact h.ext x) (fun b w' hx hs => ?_) ?_
  · as_aux_lemma =>
      obtain ⟨h0, h1, -⟩ := hs
      change _ = _ at h1
      rw [eval_tmp] at h0 h1
      go_simp
      exact upon_enter ((ok_any _ (show IsNum _ _ (none) from by rw [← eval_tmp] at *; exact h0)).mono fun ed w2 ⟨he, hx2⟩ => ⟨_, he, hx2, rfl⟩)
  refine walk_q [(108, some 4), (112, some 0)] (by kernel_rfl) rfl ?_
  apply Exists.intro
  refine ⟨fun b w' hx hs => ?_, ?_⟩
  · obtain ⟨h0, h1, -⟩ := hs
    change _ = _ at h0
    change _ = _ at h1
    rw [eval_tmp] at h0 h1
    go_simp
    try go_ints
    rfl
  refine walk_end ?_
  intro w6 hx6
  rintro _ rfl
  rintro _ rfl
  intro v111 hv111
  intro v110 hv110
  rintro _ rfl
  rintro _ rfl
  rintro _ rfl
  rintro _ rfl
  rintro _ rfl
  intro v104 hv104
  rintro _ rfl
  rintro _ rfl
  rintro _ rfl
  rintro _ rfl
  rintro _ rfl
  rintro _ rfl
  intro v97 hv97
  rintro _ rfl
  rintro _ rfl
  rintro _ rfl
  rintro _ rfl
  rintro _ rfl
  intro v91 hv91
  intro v90 hv90
  rintro _ rfl
  rintro _ rfl
  rintro _ rfl
  rintro _ rfl
  rintro _ rfl
  rintro _ rfl
  intro v83 hv83
  rintro _ rfl
  intro v81 hv81
  rintro _ rfl
  rintro _ rfl
  rintro _ rfl
  rintro _ rfl
  rintro _ rfl
  rintro _ rfl
  intro v74 hv74
  rintro _ rfl
  rintro _ rfl
  rintro _ rfl
  rintro _ rfl
  rintro _ rfl
  intro v68 hv68
  rintro _ rfl
  rintro _ rfl
  rintro _ rfl
  rintro _ rfl
  rintro _ rfl
  rintro _ rfl
  intro v61 hv61
  rintro _ rfl
  rintro _ rfl
  rintro _ rfl
  rintro _ rfl
  intro v56 hv56
  rintro _ rfl
  rintro _ rfl
  rintro _ rfl
  rintro _ rfl
  intro v51 hv51
  rintro _ rfl
  rintro _ rfl
  rintro _ rfl
  rintro _ rfl
  intro v46 hv46
  rintro _ rfl
  rintro _ rfl
  rintro _ rfl
  rintro _ rfl
  rintro _ rfl
  rintro _ rfl
  rintro _ rfl
  rintro _ rfl
  rintro _ rfl
  intro v36 hv36
  rintro _ rfl
  rintro _ rfl
  rintro _ rfl
  rintro _ rfl
  rintro _ rfl
  rintro _ rfl
  rintro _ rfl
  rintro _ rfl
  rintro _ rfl
  intro v26 hv26
  rintro _ rfl
  rintro _ rfl
  rintro _ rfl
  rintro _ rfl
  rintro _ rfl
  rintro _ rfl
  rintro _ rfl
  rintro _ rfl
  rintro _ rfl
  rintro _ rfl
  unfold fin
  simp only [Act.put, List.setIfInBounds_toArray, List.set_cons_succ, List.set_cons_zero]
  replace B1 := B1.ext hx6
  replace B2 := B2.ext hx6
  replace B3 := B3.ext hx6
  replace n1 := n1.ext hx6
  replace n2 := n2.ext hx6
  replace n3 := n3.ext hx6
  replace hx := hx.trans hx6
  replace hT := hT.ext hx6
  replace B4 := B4.ext hx6
  have hx6' := hx6
  clear hx6
  iterate 8 go_step
  refine wp_steady 3 315 (by kernel_rfl) (by as_aux_lemma => kernel_rfl) rfl ?_
  refine walk_c [] (by kernel_rfl) rfl (fun _ v => v = .float .f64 9218868437227405312) (fun _ _ _ x h => by first | exact h | exact h.ext x) (fun b w' hx hs => ?_) ?_
  · as_aux_lemma =>
      clear hs
      go_simp
      exact upon_enter ((inf_one _).mono fun ed w2 ⟨he, hw⟩ => ⟨_, he, by rw [hw]; exact Ext.refl _, rfl⟩)
  refine walk_c [(114, some 0)] (by kernel_rfl) rfl (fun w' v => IsNum w' v (none)) (fun _ _ _ x h => by first | exact h | exact h.ext x) (fun b w' hx hs => ?_) ?_
  · as_aux_lemma =>
      obtain ⟨h0, -⟩ := hs
      change _ = _ at h0
      rw [eval_tmp] at h0
      go_simp
      refine upon_enter ((of_any 9218868437227405312 _ (by omega) (hT.ext hx)).mono fun ed w2 ⟨v, he, hx2, hn⟩ => ⟨v, he, hx2, ?_⟩)
      have hval : ofF 9218868437227405312 = none := ofF_not (by decide)
      rw [hval] at hn
      first | exact hn | simpa using hn
  refine walk_c [(115, some 0)] (by kernel_rfl) rfl (fun _ v => v = .bool false) (fun _ _ _ x h => by first | exact h | exact h.ext x) (fun b w' hx hs => ?_) ?_
  · as_aux_lemma =>
      obtain ⟨h0, -⟩ := hs
      rw [eval_tmp] at h0
      go_simp
      exact upon_enter ((ok_any _ (show IsNum _ _ (none) from by rw [← eval_tmp] at *; exact h0)).mono fun ed w2 ⟨he, hx2⟩ => ⟨_, he, hx2, rfl⟩)
  refine walk_q [(116, some 0)] (by kernel_rfl) rfl ?_
  apply Exists.intro
  refine ⟨fun b w' hx hs => ?_, ?_⟩
  · obtain ⟨h0, -⟩ := hs
    change _ = _ at h0
    rw [eval_tmp] at h0
    go_simp
    try go_ints
    rfl
  refine walk_cg [(117, some 0)] (by kernel_rfl) 3 117 false rfl rfl (fun b w' hx hs => by obtain ⟨h0, -⟩ := hs; exact h0) (fun _ v => v = .float .f64 9221120237041090561) (fun _ _ _ x h => by first | exact h | exact h.ext x) (fun b w' hx hs => ?_) ?_
  · as_aux_lemma =>
      obtain ⟨h0, -⟩ := hs
      change _ = _ at h0
      rw [eval_tmp] at h0
      go_simp
      exact upon_enter ((nan_any _).mono fun ed w2 ⟨he, hw⟩ => ⟨_, he, by rw [hw]; exact Ext.refl _, rfl⟩)
  refine walk_cg [(118, some 0), (117, some 1)] (by kernel_rfl) 3 117 false rfl rfl (fun b w' hx hs => by obtain ⟨-, h1, -⟩ := hs; exact h1) (fun w' v => IsNum w' v (none)) (fun _ _ _ x h => by first | exact h | exact h.ext x) (fun b w' hx hs => ?_) ?_
  · as_aux_lemma =>
      obtain ⟨h0, h1, -⟩ := hs
      change _ = _ at h0
      change _ = _ at h1
      rw [eval_tmp] at h0 h1
      go_simp
      refine upon_enter ((of_any 9221120237041090561 _ (by omega) (hT.ext hx)).mono fun ed w2 ⟨v, he, hx2, hn⟩ => ⟨v, he, hx2, ?_⟩)
      have hval : ofF 9221120237041090561 = none := ofF_not (by decide)
      rw [hval] at hn
      first | exact hn | simpa using hn
  refine walk_cg [(119, some 0), (117, some 2)] (by kernel_rfl) 3 117 false rfl rfl (fun b w' hx hs => by obtain ⟨-, h1, -⟩ := hs; exact h1) (fun _ v => v = .bool false) (fun _ _ _ x h => by first | exact h | exact h.ext x) (fun b w' hx hs => ?_) ?_
  · as_aux_lemma =>
      obtain ⟨h0, h1, -⟩ := hs
      change _ = _ at h1
      rw [eval_tmp] at h0 h1
      go_simp
      exact upon_enter ((ok_any _ (show IsNum _ _ (none) from by rw [← eval_tmp] at *; exact h0)).mono fun ed w2 ⟨he, hx2⟩ => ⟨_, he, hx2, rfl⟩)
  refine walk_q [(117, some 3), (120, some 0)] (by kernel_rfl) rfl ?_
  apply Exists.intro
  refine ⟨fun b w' hx hs => ?_, ?_⟩
  · obtain ⟨h0, h1, -⟩ := hs
    change _ = _ at h0
    change _ = _ at h1
    rw [eval_tmp] at h0 h1
    go_simp
    try go_ints
    rfl
  refine walk_q [(121, some 0)] (by kernel_rfl) rfl ?_
  apply Exists.intro
  refine ⟨fun b w' hx hs => ?_, ?_⟩
  · obtain ⟨h0, -⟩ := hs
    change _ = _ at h0
    rw [eval_tmp] at h0
    go_simp
    try go_ints
    rfl
  refine walk_qg [(2, none), (122, some 0)] (by kernel_rfl) 8 122 false rfl rfl (fun b w' hx hs => by obtain ⟨-, h1, -⟩ := hs; exact h1) ?_
  apply Exists.intro
  refine ⟨fun b w' hx hs => ?_, ?_⟩
  · obtain ⟨h0, h1, -⟩ := hs
    change _ = _ at h0
    change _ = _ at h1
    rw [eval_tmp] at h0 h1
    have hx_B2 := B2.ext hx
    have kB2_0 := hx_B2.cell 0 rfl
    have kB2_1 := hx_B2.cell 1 rfl
    have kB2_2 := hx_B2.cell 2 rfl
    have kB2_3 := hx_B2.cell 3 rfl
    have hx_B3 := B3.ext hx
    have kB3_0 := hx_B3.cell 0 rfl
    have kB3_1 := hx_B3.cell 1 rfl
    have kB3_2 := hx_B3.cell 2 rfl
    have kB3_3 := hx_B3.cell 3 rfl
    go_simp
    try go_ints
    rfl
  refine walk_cg [(123, some 0), (122, some 1)] (by kernel_rfl) 8 122 false rfl rfl (fun b w' hx hs => by obtain ⟨-, h1, -⟩ := hs; exact h1) (fun _ v => v = .float .f64 9218868437227405312) (fun _ _ _ x h => by first | exact h | exact h.ext x) (fun b w' hx hs => ?_) ?_
  · as_aux_lemma =>
      obtain ⟨h0, h1, -⟩ := hs
      change _ = _ at h0
      change _ = _ at h1
      rw [eval_tmp] at h0 h1
      go_simp
      refine upon_enter ((float_any _ (n2.ext hx)).mono fun ed w2 ⟨z, he, hx2, hr⟩ => ⟨_, he, hx2, ?_⟩)
      have hval : Rn (p2 65536) 9218868437227405312 := rn_top
      rw [rn_same hr hval (by omega)]
  refine walk_cg [(124, some 0), (122, some 2)] (by kernel_rfl) 8 122 false rfl rfl (fun b w' hx hs => by obtain ⟨-, h1, -⟩ := hs; exact h1) (fun _ v => v = .bool true) (fun _ _ _ x h => by first | exact h | exact h.ext x) (fun b w' hx hs => ?_) ?_
  · as_aux_lemma =>
      obtain ⟨h0, h1, -⟩ := hs
      change _ = _ at h0
      change _ = _ at h1
      rw [eval_tmp] at h0 h1
      go_simp
      exact upon_enter ((isinf_pos _).mono fun ed w2 ⟨he, hw⟩ => ⟨_, he, by rw [hw]; exact Ext.refl _, rfl⟩)
  refine walk_qg [(125, some 0), (122, some 3)] (by kernel_rfl) 8 122 false rfl rfl (fun b w' hx hs => by obtain ⟨-, h1, -⟩ := hs; exact h1) ?_
  apply Exists.intro
  refine ⟨fun b w' hx hs => ?_, ?_⟩
  · obtain ⟨h0, h1, -⟩ := hs
    change _ = _ at h0
    change _ = _ at h1
    rw [eval_tmp] at h0 h1
    go_simp
    try go_ints
    rfl
  refine walk_q [(122, some 4), (126, some 0)] (by kernel_rfl) rfl ?_
  apply Exists.intro
  refine ⟨fun b w' hx hs => ?_, ?_⟩
  · obtain ⟨h0, h1, -⟩ := hs
    change _ = _ at h0
    change _ = _ at h1
    rw [eval_tmp] at h0 h1
    go_simp
    try go_ints
    rfl
  refine walk_q [(127, some 0)] (by kernel_rfl) rfl ?_
  apply Exists.intro
  refine ⟨fun b w' hx hs => ?_, ?_⟩
  · obtain ⟨h0, -⟩ := hs
    change _ = _ at h0
    rw [eval_tmp] at h0
    go_simp
    try go_ints
    rfl
  refine walk_qg [(2, none), (128, some 0)] (by kernel_rfl) 14 128 false rfl rfl (fun b w' hx hs => by obtain ⟨-, h1, -⟩ := hs; exact h1) ?_
  apply Exists.intro
  refine ⟨fun b w' hx hs => ?_, ?_⟩
  · obtain ⟨h0, h1, -⟩ := hs
    change _ = _ at h0
    change _ = _ at h1
    rw [eval_tmp] at h0 h1
    have hx_B2 := B2.ext hx
    have kB2_0 := hx_B2.cell 0 rfl
    have kB2_1 := hx_B2.cell 1 rfl
    have kB2_2 := hx_B2.cell 2 rfl
    have kB2_3 := hx_B2.cell 3 rfl
    have hx_B3 := B3.ext hx
    have kB3_0 := hx_B3.cell 0 rfl
    have kB3_1 := hx_B3.cell 1 rfl
    have kB3_2 := hx_B3.cell 2 rfl
    have kB3_3 := hx_B3.cell 3 rfl
    go_simp
    try go_ints
    rfl
  refine walk_cg [(129, some 0), (128, some 1)] (by kernel_rfl) 14 128 false rfl rfl (fun b w' hx hs => by obtain ⟨-, h1, -⟩ := hs; exact h1) (fun w' v => IsNum w' v (some (-p2 65536))) (fun _ _ _ x h => by first | exact h | exact h.ext x) (fun b w' hx hs => ?_) ?_
  · as_aux_lemma =>
      obtain ⟨h0, h1, -⟩ := hs
      change _ = _ at h0
      change _ = _ at h1
      rw [eval_tmp] at h0 h1
      go_simp
      refine upon_enter ((neg_any _ (n2.ext hx)).mono fun ed w2 ⟨v, he, hx2, hn⟩ => ⟨v, he, hx2, ?_⟩)
      have hval : negO (some (p2 65536)) = some (-p2 65536) := neg_top
      rw [hval] at hn
      first | exact hn | simpa using hn
  refine walk_cg [(130, some 0), (128, some 2)] (by kernel_rfl) 14 128 false rfl rfl (fun b w' hx hs => by obtain ⟨-, h1, -⟩ := hs; exact h1) (fun _ v => v = .float .f64 18442240474082181120) (fun _ _ _ x h => by first | exact h | exact h.ext x) (fun b w' hx hs => ?_) ?_
  · as_aux_lemma =>
      obtain ⟨h0, h1, -⟩ := hs
      change _ = _ at h1
      rw [eval_tmp] at h0 h1
      go_simp
      refine upon_enter ((float_any _ (show IsNum _ _ (some (-p2 65536)) from by rw [← eval_tmp] at *; exact h0)).mono fun ed w2 ⟨z, he, hx2, hr⟩ => ⟨_, he, hx2, ?_⟩)
      have hval : Rn (-p2 65536) 18442240474082181120 := rn_ntop
      rw [rn_same hr hval (by omega)]
  refine walk_cg [(131, some 0), (128, some 3)] (by kernel_rfl) 14 128 false rfl rfl (fun b w' hx hs => by obtain ⟨-, h1, -⟩ := hs; exact h1) (fun _ v => v = .bool true) (fun _ _ _ x h => by first | exact h | exact h.ext x) (fun b w' hx hs => ?_) ?_
  · as_aux_lemma =>
      obtain ⟨h0, h1, -⟩ := hs
      change _ = _ at h0
      change _ = _ at h1
      rw [eval_tmp] at h0 h1
      go_simp
      exact upon_enter ((isinf_neg _).mono fun ed w2 ⟨he, hw⟩ => ⟨_, he, by rw [hw]; exact Ext.refl _, rfl⟩)
  refine walk_qg [(132, some 0), (128, some 4)] (by kernel_rfl) 14 128 false rfl rfl (fun b w' hx hs => by obtain ⟨-, h1, -⟩ := hs; exact h1) ?_
  apply Exists.intro
  refine ⟨fun b w' hx hs => ?_, ?_⟩
  · obtain ⟨h0, h1, -⟩ := hs
    change _ = _ at h0
    change _ = _ at h1
    rw [eval_tmp] at h0 h1
    go_simp
    try go_ints
    rfl
  refine walk_q [(128, some 5), (133, some 0)] (by kernel_rfl) rfl ?_
  apply Exists.intro
  refine ⟨fun b w' hx hs => ?_, ?_⟩
  · obtain ⟨h0, h1, -⟩ := hs
    change _ = _ at h0
    change _ = _ at h1
    rw [eval_tmp] at h0 h1
    go_simp
    try go_ints
    rfl
  refine walk_q [(134, some 0)] (by kernel_rfl) rfl ?_
  apply Exists.intro
  refine ⟨fun b w' hx hs => ?_, ?_⟩
  · obtain ⟨h0, -⟩ := hs
    change _ = _ at h0
    rw [eval_tmp] at h0
    go_simp
    try go_ints
    rfl
  refine walk_qg [(3, none), (135, some 0)] (by kernel_rfl) 21 135 false rfl rfl (fun b w' hx hs => by obtain ⟨-, h1, -⟩ := hs; exact h1) ?_
  apply Exists.intro
  refine ⟨fun b w' hx hs => ?_, ?_⟩
  · obtain ⟨h0, h1, -⟩ := hs
    change _ = _ at h0
    change _ = _ at h1
    rw [eval_tmp] at h0 h1
    have hx_B2 := B2.ext hx
    have kB2_0 := hx_B2.cell 0 rfl
    have kB2_1 := hx_B2.cell 1 rfl
    have kB2_2 := hx_B2.cell 2 rfl
    have kB2_3 := hx_B2.cell 3 rfl
    have hx_B3 := B3.ext hx
    have kB3_0 := hx_B3.cell 0 rfl
    have kB3_1 := hx_B3.cell 1 rfl
    have kB3_2 := hx_B3.cell 2 rfl
    have kB3_3 := hx_B3.cell 3 rfl
    go_simp
    try go_ints
    rfl
  refine walk_cg [(136, some 0), (135, some 1)] (by kernel_rfl) 21 135 false rfl rfl (fun b w' hx hs => by obtain ⟨-, h1, -⟩ := hs; exact h1) (fun _ v => ∃ z, v = .float .f64 z ∧ sr z = 0 ∧ Num64 z) (fun _ _ _ x h => by first | exact h | exact h.ext x) (fun b w' hx hs => ?_) ?_
  · as_aux_lemma =>
      obtain ⟨h0, h1, -⟩ := hs
      change _ = _ at h0
      change _ = _ at h1
      rw [eval_tmp] at h0 h1
      go_simp
      refine upon_enter ((float_any _ (n3.ext hx)).mono fun ed w2 ⟨z, he, hx2, hr⟩ => ⟨_, he, hx2, z, rfl, ?_, hr.1⟩)
      have hval : Rn (p2 (-65536)) 0 := rn_low
      exact hr.same hval
  refine walk_cg [(137, some 0), (135, some 2)] (by kernel_rfl) 21 135 false rfl rfl (fun b w' hx hs => by obtain ⟨-, h1, -⟩ := hs; exact h1) (fun _ v => v = .bool false) (fun _ _ _ x h => by first | exact h | exact h.ext x) (fun b w' hx hs => ?_) ?_
  · as_aux_lemma =>
      obtain ⟨h0, h1, -⟩ := hs
      change _ = _ at h1
      rw [eval_tmp] at h0 h1
      obtain ⟨z, e, r, nz⟩ := h0
      obtain ⟨oa, ob⟩ := order_zero r nz
      go_simp
      exact ⟨Ext.refl _, rfl⟩
  refine walk_q [(135, some 3), (138, some 0)] (by kernel_rfl) rfl ?_
  apply Exists.intro
  refine ⟨fun b w' hx hs => ?_, ?_⟩
  · obtain ⟨h0, h1, -⟩ := hs
    change _ = _ at h0
    change _ = _ at h1
    rw [eval_tmp] at h0 h1
    go_simp
    try go_ints
    rfl
  refine walk_end ?_
  intro w7 hx7
  rintro _ rfl
  rintro _ rfl
  intro v137 hv137
  rintro _ rfl
  rintro _ rfl
  rintro _ rfl
  rintro _ rfl
  rintro _ rfl
  rintro _ rfl
  intro v130 hv130
  rintro _ rfl
  rintro _ rfl
  rintro _ rfl
  rintro _ rfl
  rintro _ rfl
  rintro _ rfl
  rintro _ rfl
  rintro _ rfl
  rintro _ rfl
  rintro _ rfl
  intro v119 hv119
  rintro _ rfl
  rintro _ rfl
  rintro _ rfl
  intro v115 hv115
  rintro _ rfl
  unfold fin
  simp only [Act.put, List.setIfInBounds_toArray, List.set_cons_succ, List.set_cons_zero]
  replace B1 := B1.ext hx7
  replace B2 := B2.ext hx7
  replace B3 := B3.ext hx7
  replace n1 := n1.ext hx7
  replace n2 := n2.ext hx7
  replace n3 := n3.ext hx7
  replace hx := hx.trans hx7
  replace hT := hT.ext hx7
  replace B4 := B4.ext hx7
  replace n4 := n4.ext (hx6'.trans hx7)
  clear hx7 hx6'
  go_wp2_with fail
  refine (inf_neg _).mono ?_
  rintro ed w8 ⟨rfl, rfl⟩
  go_wp2_with fail
  refine (of_any 18442240474082181120 _ (by omega) hT).mono ?_
  rintro ed w9 ⟨v9, rfl, hxk, n5⟩
  rw [ofF_not (by decide)] at n5
  replace B1 := B1.ext hxk
  replace B2 := B2.ext hxk
  replace B3 := B3.ext hxk
  replace n1 := n1.ext hxk
  replace n2 := n2.ext hxk
  replace n3 := n3.ext hxk
  replace hx := hx.trans hxk
  replace hT := hT.ext hxk
  replace B4 := B4.ext hxk
  replace n4 := n4.ext hxk
  clear hxk
  obtain ⟨a5, m5, c5, e5, neg5, non5, rfl, n5⟩ := n5.kept
  have B5 := Box.new w9 #[.slice a5 m5 c5, .int .i64 e5, .bool neg5, .bool non5] 29
  have hxa : Ext w9 (w9.alloc (.cells #[.slice a5 m5 c5, .int .i64 e5, .bool neg5, .bool non5] 29)) := (Ext.refl _).alloc _
  replace B1 := B1.ext hxa
  replace B2 := B2.ext hxa
  replace B3 := B3.ext hxa
  replace n1 := n1.ext hxa
  replace n2 := n2.ext hxa
  replace n3 := n3.ext hxa
  replace hx := hx.trans hxa
  replace hT := hT.ext hxa
  replace B4 := B4.ext hxa
  replace n4 := n4.ext hxa
  replace n5 := n5.ext hxa
  clear hxa
  go_wp2
  refine wp_steady 3 315 (by kernel_rfl) (by as_aux_lemma => kernel_rfl) rfl ?_
  refine walk_q [(5, none)] (by kernel_rfl) rfl ?_
  apply Exists.intro
  refine ⟨fun b w' hx hs => ?_, ?_⟩
  · obtain ⟨h0, -⟩ := hs
    change _ = _ at h0
    rw [eval_tmp] at h0
    have hx_B1 := B1.ext hx
    have kB1_0 := hx_B1.cell 0 rfl
    have kB1_1 := hx_B1.cell 1 rfl
    have kB1_2 := hx_B1.cell 2 rfl
    have kB1_3 := hx_B1.cell 3 rfl
    have hx_B4 := B4.ext hx
    have kB4_0 := hx_B4.cell 0 rfl
    have kB4_1 := hx_B4.cell 1 rfl
    have kB4_2 := hx_B4.cell 2 rfl
    have kB4_3 := hx_B4.cell 3 rfl
    have hx_B5 := B5.ext hx
    have kB5_0 := hx_B5.cell 0 rfl
    have kB5_1 := hx_B5.cell 1 rfl
    have kB5_2 := hx_B5.cell 2 rfl
    have kB5_3 := hx_B5.cell 3 rfl
    go_simp
    try go_ints
    rfl
  refine walk_q [(1, none)] (by kernel_rfl) rfl ?_
  apply Exists.intro
  refine ⟨fun b w' hx hs => ?_, ?_⟩
  · obtain ⟨h0, -⟩ := hs
    change _ = _ at h0
    rw [eval_tmp] at h0
    have hx_B1 := B1.ext hx
    have kB1_0 := hx_B1.cell 0 rfl
    have kB1_1 := hx_B1.cell 1 rfl
    have kB1_2 := hx_B1.cell 2 rfl
    have kB1_3 := hx_B1.cell 3 rfl
    have hx_B4 := B4.ext hx
    have kB4_0 := hx_B4.cell 0 rfl
    have kB4_1 := hx_B4.cell 1 rfl
    have kB4_2 := hx_B4.cell 2 rfl
    have kB4_3 := hx_B4.cell 3 rfl
    have hx_B5 := B5.ext hx
    have kB5_0 := hx_B5.cell 0 rfl
    have kB5_1 := hx_B5.cell 1 rfl
    have kB5_2 := hx_B5.cell 2 rfl
    have kB5_3 := hx_B5.cell 3 rfl
    go_simp
    try go_ints
    rfl
  refine walk_c [(142, some 1), (143, some 0)] (by kernel_rfl) rfl (fun w' v => IsNum w' v (none)) (fun _ _ _ x h => by first | exact h | exact h.ext x) (fun b w' hx hs => ?_) ?_
  · as_aux_lemma =>
      obtain ⟨h0, h1, -⟩ := hs
      change _ = _ at h0
      change _ = _ at h1
      rw [eval_tmp] at h0 h1
      go_simp
      refine upon_enter ((add_any _ (hT.ext hx) (n5.ext hx) (n1.ext hx)).mono fun ed w2 ⟨v, he, hx2, hn⟩ => ⟨v, he, hx2, ?_⟩)
      have hval : addO (none) (some (((1 : Int) : Rat))) = none := rfl
      rw [hval] at hn
      first | exact hn | simpa using hn
  refine walk_c [(144, some 0)] (by kernel_rfl) rfl (fun _ v => v = .bool false) (fun _ _ _ x h => by first | exact h | exact h.ext x) (fun b w' hx hs => ?_) ?_
  · as_aux_lemma =>
      obtain ⟨h0, -⟩ := hs
      rw [eval_tmp] at h0
      go_simp
      exact upon_enter ((ok_any _ (show IsNum _ _ (none) from by rw [← eval_tmp] at *; exact h0)).mono fun ed w2 ⟨he, hx2⟩ => ⟨_, he, hx2, rfl⟩)
  refine walk_q [(145, some 0)] (by kernel_rfl) rfl ?_
  apply Exists.intro
  refine ⟨fun b w' hx hs => ?_, ?_⟩
  · obtain ⟨h0, -⟩ := hs
    change _ = _ at h0
    rw [eval_tmp] at h0
    go_simp
    try go_ints
    rfl
  refine walk_qg [(1, none), (146, some 0)] (by kernel_rfl) 4 146 false rfl rfl (fun b w' hx hs => by obtain ⟨-, h1, -⟩ := hs; exact h1) ?_
  apply Exists.intro
  refine ⟨fun b w' hx hs => ?_, ?_⟩
  · obtain ⟨h0, h1, -⟩ := hs
    change _ = _ at h0
    change _ = _ at h1
    rw [eval_tmp] at h0 h1
    have hx_B1 := B1.ext hx
    have kB1_0 := hx_B1.cell 0 rfl
    have kB1_1 := hx_B1.cell 1 rfl
    have kB1_2 := hx_B1.cell 2 rfl
    have kB1_3 := hx_B1.cell 3 rfl
    have hx_B4 := B4.ext hx
    have kB4_0 := hx_B4.cell 0 rfl
    have kB4_1 := hx_B4.cell 1 rfl
    have kB4_2 := hx_B4.cell 2 rfl
    have kB4_3 := hx_B4.cell 3 rfl
    have hx_B5 := B5.ext hx
    have kB5_0 := hx_B5.cell 0 rfl
    have kB5_1 := hx_B5.cell 1 rfl
    have kB5_2 := hx_B5.cell 2 rfl
    have kB5_3 := hx_B5.cell 3 rfl
    go_simp
    try go_ints
    rfl
  refine walk_qg [(5, none), (146, some 1)] (by kernel_rfl) 4 146 false rfl rfl (fun b w' hx hs => by obtain ⟨-, h1, -⟩ := hs; exact h1) ?_
  apply Exists.intro
  refine ⟨fun b w' hx hs => ?_, ?_⟩
  · obtain ⟨h0, h1, -⟩ := hs
    change _ = _ at h0
    change _ = _ at h1
    rw [eval_tmp] at h0 h1
    have hx_B1 := B1.ext hx
    have kB1_0 := hx_B1.cell 0 rfl
    have kB1_1 := hx_B1.cell 1 rfl
    have kB1_2 := hx_B1.cell 2 rfl
    have kB1_3 := hx_B1.cell 3 rfl
    have hx_B4 := B4.ext hx
    have kB4_0 := hx_B4.cell 0 rfl
    have kB4_1 := hx_B4.cell 1 rfl
    have kB4_2 := hx_B4.cell 2 rfl
    have kB4_3 := hx_B4.cell 3 rfl
    have hx_B5 := B5.ext hx
    have kB5_0 := hx_B5.cell 0 rfl
    have kB5_1 := hx_B5.cell 1 rfl
    have kB5_2 := hx_B5.cell 2 rfl
    have kB5_3 := hx_B5.cell 3 rfl
    go_simp
    try go_ints
    rfl
  refine walk_cg [(147, some 1), (148, some 0), (146, some 2)] (by kernel_rfl) 4 146 false rfl rfl (fun b w' hx hs => by obtain ⟨-, -, h2, -⟩ := hs; exact h2) (fun w' v => IsNum w' v (none)) (fun _ _ _ x h => by first | exact h | exact h.ext x) (fun b w' hx hs => ?_) ?_
  · as_aux_lemma =>
      obtain ⟨h0, h1, h2, -⟩ := hs
      change _ = _ at h0
      change _ = _ at h1
      change _ = _ at h2
      rw [eval_tmp] at h0 h1 h2
      go_simp
      refine upon_enter ((add_any _ (hT.ext hx) (n1.ext hx) (n5.ext hx)).mono fun ed w2 ⟨v, he, hx2, hn⟩ => ⟨v, he, hx2, ?_⟩)
      have hval : addO (some (((1 : Int) : Rat))) (none) = none := rfl
      rw [hval] at hn
      first | exact hn | simpa using hn
  refine walk_cg [(149, some 0), (146, some 3)] (by kernel_rfl) 4 146 false rfl rfl (fun b w' hx hs => by obtain ⟨-, h1, -⟩ := hs; exact h1) (fun _ v => v = .bool false) (fun _ _ _ x h => by first | exact h | exact h.ext x) (fun b w' hx hs => ?_) ?_
  · as_aux_lemma =>
      obtain ⟨h0, h1, -⟩ := hs
      change _ = _ at h1
      rw [eval_tmp] at h0 h1
      go_simp
      exact upon_enter ((ok_any _ (show IsNum _ _ (none) from by rw [← eval_tmp] at *; exact h0)).mono fun ed w2 ⟨he, hx2⟩ => ⟨_, he, hx2, rfl⟩)
  refine walk_q [(146, some 4), (150, some 0)] (by kernel_rfl) rfl ?_
  apply Exists.intro
  refine ⟨fun b w' hx hs => ?_, ?_⟩
  · obtain ⟨h0, h1, -⟩ := hs
    change _ = _ at h0
    change _ = _ at h1
    rw [eval_tmp] at h0 h1
    go_simp
    try go_ints
    rfl
  refine walk_q [(151, some 0)] (by kernel_rfl) rfl ?_
  apply Exists.intro
  refine ⟨fun b w' hx hs => ?_, ?_⟩
  · obtain ⟨h0, -⟩ := hs
    change _ = _ at h0
    rw [eval_tmp] at h0
    go_simp
    try go_ints
    rfl
  refine walk_qg [(5, none), (152, some 0)] (by kernel_rfl) 10 152 false rfl rfl (fun b w' hx hs => by obtain ⟨-, h1, -⟩ := hs; exact h1) ?_
  apply Exists.intro
  refine ⟨fun b w' hx hs => ?_, ?_⟩
  · obtain ⟨h0, h1, -⟩ := hs
    change _ = _ at h0
    change _ = _ at h1
    rw [eval_tmp] at h0 h1
    have hx_B1 := B1.ext hx
    have kB1_0 := hx_B1.cell 0 rfl
    have kB1_1 := hx_B1.cell 1 rfl
    have kB1_2 := hx_B1.cell 2 rfl
    have kB1_3 := hx_B1.cell 3 rfl
    have hx_B4 := B4.ext hx
    have kB4_0 := hx_B4.cell 0 rfl
    have kB4_1 := hx_B4.cell 1 rfl
    have kB4_2 := hx_B4.cell 2 rfl
    have kB4_3 := hx_B4.cell 3 rfl
    have hx_B5 := B5.ext hx
    have kB5_0 := hx_B5.cell 0 rfl
    have kB5_1 := hx_B5.cell 1 rfl
    have kB5_2 := hx_B5.cell 2 rfl
    have kB5_3 := hx_B5.cell 3 rfl
    go_simp
    try go_ints
    rfl
  refine walk_qg [(4, none), (152, some 1)] (by kernel_rfl) 10 152 false rfl rfl (fun b w' hx hs => by obtain ⟨-, h1, -⟩ := hs; exact h1) ?_
  apply Exists.intro
  refine ⟨fun b w' hx hs => ?_, ?_⟩
  · obtain ⟨h0, h1, -⟩ := hs
    change _ = _ at h0
    change _ = _ at h1
    rw [eval_tmp] at h0 h1
    have hx_B1 := B1.ext hx
    have kB1_0 := hx_B1.cell 0 rfl
    have kB1_1 := hx_B1.cell 1 rfl
    have kB1_2 := hx_B1.cell 2 rfl
    have kB1_3 := hx_B1.cell 3 rfl
    have hx_B4 := B4.ext hx
    have kB4_0 := hx_B4.cell 0 rfl
    have kB4_1 := hx_B4.cell 1 rfl
    have kB4_2 := hx_B4.cell 2 rfl
    have kB4_3 := hx_B4.cell 3 rfl
    have hx_B5 := B5.ext hx
    have kB5_0 := hx_B5.cell 0 rfl
    have kB5_1 := hx_B5.cell 1 rfl
    have kB5_2 := hx_B5.cell 2 rfl
    have kB5_3 := hx_B5.cell 3 rfl
    go_simp
    try go_ints
    rfl
  refine walk_cg [(153, some 1), (154, some 0), (152, some 2)] (by kernel_rfl) 10 152 false rfl rfl (fun b w' hx hs => by obtain ⟨-, -, h2, -⟩ := hs; exact h2) (fun w' v => IsNum w' v (none)) (fun _ _ _ x h => by first | exact h | exact h.ext x) (fun b w' hx hs => ?_) ?_
  · as_aux_lemma =>
      obtain ⟨h0, h1, h2, -⟩ := hs
      change _ = _ at h0
      change _ = _ at h1
      change _ = _ at h2
      rw [eval_tmp] at h0 h1 h2
      go_simp
      refine upon_enter ((add_any _ (hT.ext hx) (n5.ext hx) (n4.ext hx)).mono fun ed w2 ⟨v, he, hx2, hn⟩ => ⟨v, he, hx2, ?_⟩)
      have hval : addO (none) (some (0)) = none := rfl
      rw [hval] at hn
      first | exact hn | simpa using hn
  refine walk_cg [(155, some 0), (152, some 3)] (by kernel_rfl) 10 152 false rfl rfl (fun b w' hx hs => by obtain ⟨-, h1, -⟩ := hs; exact h1) (fun _ v => v = .bool false) (fun _ _ _ x h => by first | exact h | exact h.ext x) (fun b w' hx hs => ?_) ?_
  · as_aux_lemma =>
      obtain ⟨h0, h1, -⟩ := hs
      change _ = _ at h1
      rw [eval_tmp] at h0 h1
      go_simp
      exact upon_enter ((ok_any _ (show IsNum _ _ (none) from by rw [← eval_tmp] at *; exact h0)).mono fun ed w2 ⟨he, hx2⟩ => ⟨_, he, hx2, rfl⟩)
  refine walk_q [(152, some 4), (156, some 0)] (by kernel_rfl) rfl ?_
  apply Exists.intro
  refine ⟨fun b w' hx hs => ?_, ?_⟩
  · obtain ⟨h0, h1, -⟩ := hs
    change _ = _ at h0
    change _ = _ at h1
    rw [eval_tmp] at h0 h1
    go_simp
    try go_ints
    rfl
  refine walk_q [(157, some 0)] (by kernel_rfl) rfl ?_
  apply Exists.intro
  refine ⟨fun b w' hx hs => ?_, ?_⟩
  · obtain ⟨h0, -⟩ := hs
    change _ = _ at h0
    rw [eval_tmp] at h0
    go_simp
    try go_ints
    rfl
  refine walk_qg [(4, none), (158, some 0)] (by kernel_rfl) 16 158 false rfl rfl (fun b w' hx hs => by obtain ⟨-, h1, -⟩ := hs; exact h1) ?_
  apply Exists.intro
  refine ⟨fun b w' hx hs => ?_, ?_⟩
  · obtain ⟨h0, h1, -⟩ := hs
    change _ = _ at h0
    change _ = _ at h1
    rw [eval_tmp] at h0 h1
    have hx_B1 := B1.ext hx
    have kB1_0 := hx_B1.cell 0 rfl
    have kB1_1 := hx_B1.cell 1 rfl
    have kB1_2 := hx_B1.cell 2 rfl
    have kB1_3 := hx_B1.cell 3 rfl
    have hx_B4 := B4.ext hx
    have kB4_0 := hx_B4.cell 0 rfl
    have kB4_1 := hx_B4.cell 1 rfl
    have kB4_2 := hx_B4.cell 2 rfl
    have kB4_3 := hx_B4.cell 3 rfl
    have hx_B5 := B5.ext hx
    have kB5_0 := hx_B5.cell 0 rfl
    have kB5_1 := hx_B5.cell 1 rfl
    have kB5_2 := hx_B5.cell 2 rfl
    have kB5_3 := hx_B5.cell 3 rfl
    go_simp
    try go_ints
    rfl
  refine walk_qg [(5, none), (158, some 1)] (by kernel_rfl) 16 158 false rfl rfl (fun b w' hx hs => by obtain ⟨-, h1, -⟩ := hs; exact h1) ?_
  apply Exists.intro
  refine ⟨fun b w' hx hs => ?_, ?_⟩
  · obtain ⟨h0, h1, -⟩ := hs
    change _ = _ at h0
    change _ = _ at h1
    rw [eval_tmp] at h0 h1
    have hx_B1 := B1.ext hx
    have kB1_0 := hx_B1.cell 0 rfl
    have kB1_1 := hx_B1.cell 1 rfl
    have kB1_2 := hx_B1.cell 2 rfl
    have kB1_3 := hx_B1.cell 3 rfl
    have hx_B4 := B4.ext hx
    have kB4_0 := hx_B4.cell 0 rfl
    have kB4_1 := hx_B4.cell 1 rfl
    have kB4_2 := hx_B4.cell 2 rfl
    have kB4_3 := hx_B4.cell 3 rfl
    have hx_B5 := B5.ext hx
    have kB5_0 := hx_B5.cell 0 rfl
    have kB5_1 := hx_B5.cell 1 rfl
    have kB5_2 := hx_B5.cell 2 rfl
    have kB5_3 := hx_B5.cell 3 rfl
    go_simp
    try go_ints
    rfl
  refine walk_cg [(159, some 1), (160, some 0), (158, some 2)] (by kernel_rfl) 16 158 false rfl rfl (fun b w' hx hs => by obtain ⟨-, -, h2, -⟩ := hs; exact h2) (fun w' v => IsNum w' v (none)) (fun _ _ _ x h => by first | exact h | exact h.ext x) (fun b w' hx hs => ?_) ?_
  · as_aux_lemma =>
      obtain ⟨h0, h1, h2, -⟩ := hs
      change _ = _ at h0
      change _ = _ at h1
      change _ = _ at h2
      rw [eval_tmp] at h0 h1 h2
      go_simp
      refine upon_enter ((add_any _ (hT.ext hx) (n4.ext hx) (n5.ext hx)).mono fun ed w2 ⟨v, he, hx2, hn⟩ => ⟨v, he, hx2, ?_⟩)
      have hval : addO (some (0)) (none) = none := rfl
      rw [hval] at hn
      first | exact hn | simpa using hn
  refine walk_cg [(161, some 0), (158, some 3)] (by kernel_rfl) 16 158 false rfl rfl (fun b w' hx hs => by obtain ⟨-, h1, -⟩ := hs; exact h1) (fun _ v => v = .bool false) (fun _ _ _ x h => by first | exact h | exact h.ext x) (fun b w' hx hs => ?_) ?_
  · as_aux_lemma =>
      obtain ⟨h0, h1, -⟩ := hs
      change _ = _ at h1
      rw [eval_tmp] at h0 h1
      go_simp
      exact upon_enter ((ok_any _ (show IsNum _ _ (none) from by rw [← eval_tmp] at *; exact h0)).mono fun ed w2 ⟨he, hx2⟩ => ⟨_, he, hx2, rfl⟩)
  refine walk_q [(158, some 4), (162, some 0)] (by kernel_rfl) rfl ?_
  apply Exists.intro
  refine ⟨fun b w' hx hs => ?_, ?_⟩
  · obtain ⟨h0, h1, -⟩ := hs
    change _ = _ at h0
    change _ = _ at h1
    rw [eval_tmp] at h0 h1
    go_simp
    try go_ints
    rfl
  refine walk_q [(163, some 0)] (by kernel_rfl) rfl ?_
  apply Exists.intro
  refine ⟨fun b w' hx hs => ?_, ?_⟩
  · obtain ⟨h0, -⟩ := hs
    change _ = _ at h0
    rw [eval_tmp] at h0
    go_simp
    try go_ints
    rfl
  refine walk_qg [(5, none), (164, some 0)] (by kernel_rfl) 22 164 false rfl rfl (fun b w' hx hs => by obtain ⟨-, h1, -⟩ := hs; exact h1) ?_
  apply Exists.intro
  refine ⟨fun b w' hx hs => ?_, ?_⟩
  · obtain ⟨h0, h1, -⟩ := hs
    change _ = _ at h0
    change _ = _ at h1
    rw [eval_tmp] at h0 h1
    have hx_B1 := B1.ext hx
    have kB1_0 := hx_B1.cell 0 rfl
    have kB1_1 := hx_B1.cell 1 rfl
    have kB1_2 := hx_B1.cell 2 rfl
    have kB1_3 := hx_B1.cell 3 rfl
    have hx_B4 := B4.ext hx
    have kB4_0 := hx_B4.cell 0 rfl
    have kB4_1 := hx_B4.cell 1 rfl
    have kB4_2 := hx_B4.cell 2 rfl
    have kB4_3 := hx_B4.cell 3 rfl
    have hx_B5 := B5.ext hx
    have kB5_0 := hx_B5.cell 0 rfl
    have kB5_1 := hx_B5.cell 1 rfl
    have kB5_2 := hx_B5.cell 2 rfl
    have kB5_3 := hx_B5.cell 3 rfl
    go_simp
    try go_ints
    rfl
  refine walk_qg [(5, none), (164, some 1)] (by kernel_rfl) 22 164 false rfl rfl (fun b w' hx hs => by obtain ⟨-, h1, -⟩ := hs; exact h1) ?_
  apply Exists.intro
  refine ⟨fun b w' hx hs => ?_, ?_⟩
  · obtain ⟨h0, h1, -⟩ := hs
    change _ = _ at h0
    change _ = _ at h1
    rw [eval_tmp] at h0 h1
    have hx_B1 := B1.ext hx
    have kB1_0 := hx_B1.cell 0 rfl
    have kB1_1 := hx_B1.cell 1 rfl
    have kB1_2 := hx_B1.cell 2 rfl
    have kB1_3 := hx_B1.cell 3 rfl
    have hx_B4 := B4.ext hx
    have kB4_0 := hx_B4.cell 0 rfl
    have kB4_1 := hx_B4.cell 1 rfl
    have kB4_2 := hx_B4.cell 2 rfl
    have kB4_3 := hx_B4.cell 3 rfl
    have hx_B5 := B5.ext hx
    have kB5_0 := hx_B5.cell 0 rfl
    have kB5_1 := hx_B5.cell 1 rfl
    have kB5_2 := hx_B5.cell 2 rfl
    have kB5_3 := hx_B5.cell 3 rfl
    go_simp
    try go_ints
    rfl
  refine walk_cg [(165, some 1), (166, some 0), (164, some 2)] (by kernel_rfl) 22 164 false rfl rfl (fun b w' hx hs => by obtain ⟨-, -, h2, -⟩ := hs; exact h2) (fun w' v => IsNum w' v (none)) (fun _ _ _ x h => by first | exact h | exact h.ext x) (fun b w' hx hs => ?_) ?_
  · as_aux_lemma =>
      obtain ⟨h0, h1, h2, -⟩ := hs
      change _ = _ at h0
      change _ = _ at h1
      change _ = _ at h2
      rw [eval_tmp] at h0 h1 h2
      go_simp
      refine upon_enter ((sub_any _ (hT.ext hx) (n5.ext hx) (n5.ext hx)).mono fun ed w2 ⟨v, he, hx2, hn⟩ => ⟨v, he, hx2, ?_⟩)
      have hval : subO (none) (none) = none := rfl
      rw [hval] at hn
      first | exact hn | simpa using hn
  refine walk_cg [(167, some 0), (164, some 3)] (by kernel_rfl) 22 164 false rfl rfl (fun b w' hx hs => by obtain ⟨-, h1, -⟩ := hs; exact h1) (fun _ v => v = .bool false) (fun _ _ _ x h => by first | exact h | exact h.ext x) (fun b w' hx hs => ?_) ?_
  · as_aux_lemma =>
      obtain ⟨h0, h1, -⟩ := hs
      change _ = _ at h1
      rw [eval_tmp] at h0 h1
      go_simp
      exact upon_enter ((ok_any _ (show IsNum _ _ (none) from by rw [← eval_tmp] at *; exact h0)).mono fun ed w2 ⟨he, hx2⟩ => ⟨_, he, hx2, rfl⟩)
  refine walk_q [(164, some 4), (168, some 0)] (by kernel_rfl) rfl ?_
  apply Exists.intro
  refine ⟨fun b w' hx hs => ?_, ?_⟩
  · obtain ⟨h0, h1, -⟩ := hs
    change _ = _ at h0
    change _ = _ at h1
    rw [eval_tmp] at h0 h1
    go_simp
    try go_ints
    rfl
  refine walk_q [(169, some 0)] (by kernel_rfl) rfl ?_
  apply Exists.intro
  refine ⟨fun b w' hx hs => ?_, ?_⟩
  · obtain ⟨h0, -⟩ := hs
    change _ = _ at h0
    rw [eval_tmp] at h0
    go_simp
    try go_ints
    rfl
  refine walk_qg [(1, none), (170, some 0)] (by kernel_rfl) 28 170 false rfl rfl (fun b w' hx hs => by obtain ⟨-, h1, -⟩ := hs; exact h1) ?_
  apply Exists.intro
  refine ⟨fun b w' hx hs => ?_, ?_⟩
  · obtain ⟨h0, h1, -⟩ := hs
    change _ = _ at h0
    change _ = _ at h1
    rw [eval_tmp] at h0 h1
    have hx_B1 := B1.ext hx
    have kB1_0 := hx_B1.cell 0 rfl
    have kB1_1 := hx_B1.cell 1 rfl
    have kB1_2 := hx_B1.cell 2 rfl
    have kB1_3 := hx_B1.cell 3 rfl
    have hx_B4 := B4.ext hx
    have kB4_0 := hx_B4.cell 0 rfl
    have kB4_1 := hx_B4.cell 1 rfl
    have kB4_2 := hx_B4.cell 2 rfl
    have kB4_3 := hx_B4.cell 3 rfl
    have hx_B5 := B5.ext hx
    have kB5_0 := hx_B5.cell 0 rfl
    have kB5_1 := hx_B5.cell 1 rfl
    have kB5_2 := hx_B5.cell 2 rfl
    have kB5_3 := hx_B5.cell 3 rfl
    go_simp
    try go_ints
    rfl
  refine walk_qg [(5, none), (170, some 1)] (by kernel_rfl) 28 170 false rfl rfl (fun b w' hx hs => by obtain ⟨-, h1, -⟩ := hs; exact h1) ?_
  apply Exists.intro
  refine ⟨fun b w' hx hs => ?_, ?_⟩
  · obtain ⟨h0, h1, -⟩ := hs
    change _ = _ at h0
    change _ = _ at h1
    rw [eval_tmp] at h0 h1
    have hx_B1 := B1.ext hx
    have kB1_0 := hx_B1.cell 0 rfl
    have kB1_1 := hx_B1.cell 1 rfl
    have kB1_2 := hx_B1.cell 2 rfl
    have kB1_3 := hx_B1.cell 3 rfl
    have hx_B4 := B4.ext hx
    have kB4_0 := hx_B4.cell 0 rfl
    have kB4_1 := hx_B4.cell 1 rfl
    have kB4_2 := hx_B4.cell 2 rfl
    have kB4_3 := hx_B4.cell 3 rfl
    have hx_B5 := B5.ext hx
    have kB5_0 := hx_B5.cell 0 rfl
    have kB5_1 := hx_B5.cell 1 rfl
    have kB5_2 := hx_B5.cell 2 rfl
    have kB5_3 := hx_B5.cell 3 rfl
    go_simp
    try go_ints
    rfl
  refine walk_cg [(171, some 1), (172, some 0), (170, some 2)] (by kernel_rfl) 28 170 false rfl rfl (fun b w' hx hs => by obtain ⟨-, -, h2, -⟩ := hs; exact h2) (fun w' v => IsNum w' v (none)) (fun _ _ _ x h => by first | exact h | exact h.ext x) (fun b w' hx hs => ?_) ?_
  · as_aux_lemma =>
      obtain ⟨h0, h1, h2, -⟩ := hs
      change _ = _ at h0
      change _ = _ at h1
      change _ = _ at h2
      rw [eval_tmp] at h0 h1 h2
      go_simp
      refine upon_enter ((sub_any _ (hT.ext hx) (n1.ext hx) (n5.ext hx)).mono fun ed w2 ⟨v, he, hx2, hn⟩ => ⟨v, he, hx2, ?_⟩)
      have hval : subO (some (((1 : Int) : Rat))) (none) = none := rfl
      rw [hval] at hn
      first | exact hn | simpa using hn
  refine walk_cg [(173, some 0), (170, some 3)] (by kernel_rfl) 28 170 false rfl rfl (fun b w' hx hs => by obtain ⟨-, h1, -⟩ := hs; exact h1) (fun _ v => v = .bool false) (fun _ _ _ x h => by first | exact h | exact h.ext x) (fun b w' hx hs => ?_) ?_
  · as_aux_lemma =>
      obtain ⟨h0, h1, -⟩ := hs
      change _ = _ at h1
      rw [eval_tmp] at h0 h1
      go_simp
      exact upon_enter ((ok_any _ (show IsNum _ _ (none) from by rw [← eval_tmp] at *; exact h0)).mono fun ed w2 ⟨he, hx2⟩ => ⟨_, he, hx2, rfl⟩)
  refine walk_q [(170, some 4), (174, some 0)] (by kernel_rfl) rfl ?_
  apply Exists.intro
  refine ⟨fun b w' hx hs => ?_, ?_⟩
  · obtain ⟨h0, h1, -⟩ := hs
    change _ = _ at h0
    change _ = _ at h1
    rw [eval_tmp] at h0 h1
    go_simp
    try go_ints
    rfl
  refine walk_q [(175, some 0)] (by kernel_rfl) rfl ?_
  apply Exists.intro
  refine ⟨fun b w' hx hs => ?_, ?_⟩
  · obtain ⟨h0, -⟩ := hs
    change _ = _ at h0
    rw [eval_tmp] at h0
    go_simp
    try go_ints
    rfl
  refine walk_qg [(5, none), (176, some 0)] (by kernel_rfl) 34 176 false rfl rfl (fun b w' hx hs => by obtain ⟨-, h1, -⟩ := hs; exact h1) ?_
  apply Exists.intro
  refine ⟨fun b w' hx hs => ?_, ?_⟩
  · obtain ⟨h0, h1, -⟩ := hs
    change _ = _ at h0
    change _ = _ at h1
    rw [eval_tmp] at h0 h1
    have hx_B1 := B1.ext hx
    have kB1_0 := hx_B1.cell 0 rfl
    have kB1_1 := hx_B1.cell 1 rfl
    have kB1_2 := hx_B1.cell 2 rfl
    have kB1_3 := hx_B1.cell 3 rfl
    have hx_B4 := B4.ext hx
    have kB4_0 := hx_B4.cell 0 rfl
    have kB4_1 := hx_B4.cell 1 rfl
    have kB4_2 := hx_B4.cell 2 rfl
    have kB4_3 := hx_B4.cell 3 rfl
    have hx_B5 := B5.ext hx
    have kB5_0 := hx_B5.cell 0 rfl
    have kB5_1 := hx_B5.cell 1 rfl
    have kB5_2 := hx_B5.cell 2 rfl
    have kB5_3 := hx_B5.cell 3 rfl
    go_simp
    try go_ints
    rfl
  refine walk_qg [(4, none), (176, some 1)] (by kernel_rfl) 34 176 false rfl rfl (fun b w' hx hs => by obtain ⟨-, h1, -⟩ := hs; exact h1) ?_
  apply Exists.intro
  refine ⟨fun b w' hx hs => ?_, ?_⟩
  · obtain ⟨h0, h1, -⟩ := hs
    change _ = _ at h0
    change _ = _ at h1
    rw [eval_tmp] at h0 h1
    have hx_B1 := B1.ext hx
    have kB1_0 := hx_B1.cell 0 rfl
    have kB1_1 := hx_B1.cell 1 rfl
    have kB1_2 := hx_B1.cell 2 rfl
    have kB1_3 := hx_B1.cell 3 rfl
    have hx_B4 := B4.ext hx
    have kB4_0 := hx_B4.cell 0 rfl
    have kB4_1 := hx_B4.cell 1 rfl
    have kB4_2 := hx_B4.cell 2 rfl
    have kB4_3 := hx_B4.cell 3 rfl
    have hx_B5 := B5.ext hx
    have kB5_0 := hx_B5.cell 0 rfl
    have kB5_1 := hx_B5.cell 1 rfl
    have kB5_2 := hx_B5.cell 2 rfl
    have kB5_3 := hx_B5.cell 3 rfl
    go_simp
    try go_ints
    rfl
  refine walk_cg [(177, some 1), (178, some 0), (176, some 2)] (by kernel_rfl) 34 176 false rfl rfl (fun b w' hx hs => by obtain ⟨-, -, h2, -⟩ := hs; exact h2) (fun w' v => IsNum w' v (none)) (fun _ _ _ x h => by first | exact h | exact h.ext x) (fun b w' hx hs => ?_) ?_
  · as_aux_lemma =>
      obtain ⟨h0, h1, h2, -⟩ := hs
      change _ = _ at h0
      change _ = _ at h1
      change _ = _ at h2
      rw [eval_tmp] at h0 h1 h2
      go_simp
      refine upon_enter ((mul_any _ (hT.ext hx) (n5.ext hx) (n4.ext hx)).mono fun ed w2 ⟨v, he, hx2, hn⟩ => ⟨v, he, hx2, ?_⟩)
      have hval : mulO (none) (some (0)) = none := rfl
      rw [hval] at hn
      first | exact hn | simpa using hn
  refine walk_cg [(179, some 0), (176, some 3)] (by kernel_rfl) 34 176 false rfl rfl (fun b w' hx hs => by obtain ⟨-, h1, -⟩ := hs; exact h1) (fun _ v => v = .bool false) (fun _ _ _ x h => by first | exact h | exact h.ext x) (fun b w' hx hs => ?_) ?_
  · as_aux_lemma =>
      obtain ⟨h0, h1, -⟩ := hs
      change _ = _ at h1
      rw [eval_tmp] at h0 h1
      go_simp
      exact upon_enter ((ok_any _ (show IsNum _ _ (none) from by rw [← eval_tmp] at *; exact h0)).mono fun ed w2 ⟨he, hx2⟩ => ⟨_, he, hx2, rfl⟩)
  refine walk_q [(176, some 4), (180, some 0)] (by kernel_rfl) rfl ?_
  apply Exists.intro
  refine ⟨fun b w' hx hs => ?_, ?_⟩
  · obtain ⟨h0, h1, -⟩ := hs
    change _ = _ at h0
    change _ = _ at h1
    rw [eval_tmp] at h0 h1
    go_simp
    try go_ints
    rfl
  refine walk_q [(181, some 0)] (by kernel_rfl) rfl ?_
  apply Exists.intro
  refine ⟨fun b w' hx hs => ?_, ?_⟩
  · obtain ⟨h0, -⟩ := hs
    change _ = _ at h0
    rw [eval_tmp] at h0
    go_simp
    try go_ints
    rfl
  refine walk_qg [(1, none), (182, some 0)] (by kernel_rfl) 40 182 false rfl rfl (fun b w' hx hs => by obtain ⟨-, h1, -⟩ := hs; exact h1) ?_
  apply Exists.intro
  refine ⟨fun b w' hx hs => ?_, ?_⟩
  · obtain ⟨h0, h1, -⟩ := hs
    change _ = _ at h0
    change _ = _ at h1
    rw [eval_tmp] at h0 h1
    have hx_B1 := B1.ext hx
    have kB1_0 := hx_B1.cell 0 rfl
    have kB1_1 := hx_B1.cell 1 rfl
    have kB1_2 := hx_B1.cell 2 rfl
    have kB1_3 := hx_B1.cell 3 rfl
    have hx_B4 := B4.ext hx
    have kB4_0 := hx_B4.cell 0 rfl
    have kB4_1 := hx_B4.cell 1 rfl
    have kB4_2 := hx_B4.cell 2 rfl
    have kB4_3 := hx_B4.cell 3 rfl
    have hx_B5 := B5.ext hx
    have kB5_0 := hx_B5.cell 0 rfl
    have kB5_1 := hx_B5.cell 1 rfl
    have kB5_2 := hx_B5.cell 2 rfl
    have kB5_3 := hx_B5.cell 3 rfl
    go_simp
    try go_ints
    rfl
  refine walk_qg [(5, none), (182, some 1)] (by kernel_rfl) 40 182 false rfl rfl (fun b w' hx hs => by obtain ⟨-, h1, -⟩ := hs; exact h1) ?_
  apply Exists.intro
  refine ⟨fun b w' hx hs => ?_, ?_⟩
  · obtain ⟨h0, h1, -⟩ := hs
    change _ = _ at h0
    change _ = _ at h1
    rw [eval_tmp] at h0 h1
    have hx_B1 := B1.ext hx
    have kB1_0 := hx_B1.cell 0 rfl
    have kB1_1 := hx_B1.cell 1 rfl
    have kB1_2 := hx_B1.cell 2 rfl
    have kB1_3 := hx_B1.cell 3 rfl
    have hx_B4 := B4.ext hx
    have kB4_0 := hx_B4.cell 0 rfl
    have kB4_1 := hx_B4.cell 1 rfl
    have kB4_2 := hx_B4.cell 2 rfl
    have kB4_3 := hx_B4.cell 3 rfl
    have hx_B5 := B5.ext hx
    have kB5_0 := hx_B5.cell 0 rfl
    have kB5_1 := hx_B5.cell 1 rfl
    have kB5_2 := hx_B5.cell 2 rfl
    have kB5_3 := hx_B5.cell 3 rfl
    go_simp
    try go_ints
    rfl
  refine walk_cg [(183, some 1), (184, some 0), (182, some 2)] (by kernel_rfl) 40 182 false rfl rfl (fun b w' hx hs => by obtain ⟨-, -, h2, -⟩ := hs; exact h2) (fun w' v => IsNum w' v (none)) (fun _ _ _ x h => by first | exact h | exact h.ext x) (fun b w' hx hs => ?_) ?_
  · as_aux_lemma =>
      obtain ⟨h0, h1, h2, -⟩ := hs
      change _ = _ at h0
      change _ = _ at h1
      change _ = _ at h2
      rw [eval_tmp] at h0 h1 h2
      go_simp
      refine upon_enter ((mul_any _ (hT.ext hx) (n1.ext hx) (n5.ext hx)).mono fun ed w2 ⟨v, he, hx2, hn⟩ => ⟨v, he, hx2, ?_⟩)
      have hval : mulO (some (((1 : Int) : Rat))) (none) = none := rfl
      rw [hval] at hn
      first | exact hn | simpa using hn
  refine walk_cg [(185, some 0), (182, some 3)] (by kernel_rfl) 40 182 false rfl rfl (fun b w' hx hs => by obtain ⟨-, h1, -⟩ := hs; exact h1) (fun _ v => v = .bool false) (fun _ _ _ x h => by first | exact h | exact h.ext x) (fun b w' hx hs => ?_) ?_
  · as_aux_lemma =>
      obtain ⟨h0, h1, -⟩ := hs
      change _ = _ at h1
      rw [eval_tmp] at h0 h1
      go_simp
      exact upon_enter ((ok_any _ (show IsNum _ _ (none) from by rw [← eval_tmp] at *; exact h0)).mono fun ed w2 ⟨he, hx2⟩ => ⟨_, he, hx2, rfl⟩)
  refine walk_q [(182, some 4), (186, some 0)] (by kernel_rfl) rfl ?_
  apply Exists.intro
  refine ⟨fun b w' hx hs => ?_, ?_⟩
  · obtain ⟨h0, h1, -⟩ := hs
    change _ = _ at h0
    change _ = _ at h1
    rw [eval_tmp] at h0 h1
    go_simp
    try go_ints
    rfl
  refine walk_q [(187, some 0)] (by kernel_rfl) rfl ?_
  apply Exists.intro
  refine ⟨fun b w' hx hs => ?_, ?_⟩
  · obtain ⟨h0, -⟩ := hs
    change _ = _ at h0
    rw [eval_tmp] at h0
    go_simp
    try go_ints
    rfl
  refine walk_qg [(5, none), (188, some 0)] (by kernel_rfl) 46 188 false rfl rfl (fun b w' hx hs => by obtain ⟨-, h1, -⟩ := hs; exact h1) ?_
  apply Exists.intro
  refine ⟨fun b w' hx hs => ?_, ?_⟩
  · obtain ⟨h0, h1, -⟩ := hs
    change _ = _ at h0
    change _ = _ at h1
    rw [eval_tmp] at h0 h1
    have hx_B1 := B1.ext hx
    have kB1_0 := hx_B1.cell 0 rfl
    have kB1_1 := hx_B1.cell 1 rfl
    have kB1_2 := hx_B1.cell 2 rfl
    have kB1_3 := hx_B1.cell 3 rfl
    have hx_B4 := B4.ext hx
    have kB4_0 := hx_B4.cell 0 rfl
    have kB4_1 := hx_B4.cell 1 rfl
    have kB4_2 := hx_B4.cell 2 rfl
    have kB4_3 := hx_B4.cell 3 rfl
    have hx_B5 := B5.ext hx
    have kB5_0 := hx_B5.cell 0 rfl
    have kB5_1 := hx_B5.cell 1 rfl
    have kB5_2 := hx_B5.cell 2 rfl
    have kB5_3 := hx_B5.cell 3 rfl
    go_simp
    try go_ints
    rfl
  refine walk_cg [(189, some 0), (188, some 1)] (by kernel_rfl) 46 188 false rfl rfl (fun b w' hx hs => by obtain ⟨-, h1, -⟩ := hs; exact h1) (fun w' v => IsNum w' v (none)) (fun _ _ _ x h => by first | exact h | exact h.ext x) (fun b w' hx hs => ?_) ?_
  · as_aux_lemma =>
      obtain ⟨h0, h1, -⟩ := hs
      change _ = _ at h0
      change _ = _ at h1
      rw [eval_tmp] at h0 h1
      go_simp
      refine upon_enter ((neg_any _ (n5.ext hx)).mono fun ed w2 ⟨v, he, hx2, hn⟩ => ⟨v, he, hx2, ?_⟩)
      have hval : negO (none) = none := rfl
      rw [hval] at hn
      first | exact hn | simpa using hn
  refine walk_cg [(190, some 0), (188, some 2)] (by kernel_rfl) 46 188 false rfl rfl (fun b w' hx hs => by obtain ⟨-, h1, -⟩ := hs; exact h1) (fun _ v => v = .bool false) (fun _ _ _ x h => by first | exact h | exact h.ext x) (fun b w' hx hs => ?_) ?_
  · as_aux_lemma =>
      obtain ⟨h0, h1, -⟩ := hs
      change _ = _ at h1
      rw [eval_tmp] at h0 h1
      go_simp
      exact upon_enter ((ok_any _ (show IsNum _ _ (none) from by rw [← eval_tmp] at *; exact h0)).mono fun ed w2 ⟨he, hx2⟩ => ⟨_, he, hx2, rfl⟩)
  refine walk_q [(188, some 3), (191, some 0)] (by kernel_rfl) rfl ?_
  apply Exists.intro
  refine ⟨fun b w' hx hs => ?_, ?_⟩
  · obtain ⟨h0, h1, -⟩ := hs
    change _ = _ at h0
    change _ = _ at h1
    rw [eval_tmp] at h0 h1
    go_simp
    try go_ints
    rfl
  refine walk_q [(192, some 0)] (by kernel_rfl) rfl ?_
  apply Exists.intro
  refine ⟨fun b w' hx hs => ?_, ?_⟩
  · obtain ⟨h0, -⟩ := hs
    change _ = _ at h0
    rw [eval_tmp] at h0
    go_simp
    try go_ints
    rfl
  refine walk_qg [(5, none), (193, some 0)] (by kernel_rfl) 51 193 false rfl rfl (fun b w' hx hs => by obtain ⟨-, h1, -⟩ := hs; exact h1) ?_
  apply Exists.intro
  refine ⟨fun b w' hx hs => ?_, ?_⟩
  · obtain ⟨h0, h1, -⟩ := hs
    change _ = _ at h0
    change _ = _ at h1
    rw [eval_tmp] at h0 h1
    have hx_B1 := B1.ext hx
    have kB1_0 := hx_B1.cell 0 rfl
    have kB1_1 := hx_B1.cell 1 rfl
    have kB1_2 := hx_B1.cell 2 rfl
    have kB1_3 := hx_B1.cell 3 rfl
    have hx_B4 := B4.ext hx
    have kB4_0 := hx_B4.cell 0 rfl
    have kB4_1 := hx_B4.cell 1 rfl
    have kB4_2 := hx_B4.cell 2 rfl
    have kB4_3 := hx_B4.cell 3 rfl
    have hx_B5 := B5.ext hx
    have kB5_0 := hx_B5.cell 0 rfl
    have kB5_1 := hx_B5.cell 1 rfl
    have kB5_2 := hx_B5.cell 2 rfl
    have kB5_3 := hx_B5.cell 3 rfl
    go_simp
    try go_ints
    rfl
  refine walk_cg [(194, some 0), (193, some 1)] (by kernel_rfl) 51 193 false rfl rfl (fun b w' hx hs => by obtain ⟨-, h1, -⟩ := hs; exact h1) (fun w' v => IsNum w' v (none)) (fun _ _ _ x h => by first | exact h | exact h.ext x) (fun b w' hx hs => ?_) ?_
  · as_aux_lemma =>
      obtain ⟨h0, h1, -⟩ := hs
      change _ = _ at h0
      change _ = _ at h1
      rw [eval_tmp] at h0 h1
      go_simp
      refine upon_enter ((shift_any (3) _ (hT.ext hx) (n5.ext hx)).mono fun ed w2 ⟨v, he, hx2, hn⟩ => ⟨v, he, hx2, ?_⟩)
      have hval : shiftO (none) (3) = none := rfl
      rw [hval] at hn
      first | exact hn | simpa using hn
  refine walk_cg [(195, some 0), (193, some 2)] (by kernel_rfl) 51 193 false rfl rfl (fun b w' hx hs => by obtain ⟨-, h1, -⟩ := hs; exact h1) (fun _ v => v = .bool false) (fun _ _ _ x h => by first | exact h | exact h.ext x) (fun b w' hx hs => ?_) ?_
  · as_aux_lemma =>
      obtain ⟨h0, h1, -⟩ := hs
      change _ = _ at h1
      rw [eval_tmp] at h0 h1
      go_simp
      exact upon_enter ((ok_any _ (show IsNum _ _ (none) from by rw [← eval_tmp] at *; exact h0)).mono fun ed w2 ⟨he, hx2⟩ => ⟨_, he, hx2, rfl⟩)
  refine walk_q [(193, some 3), (196, some 0)] (by kernel_rfl) rfl ?_
  apply Exists.intro
  refine ⟨fun b w' hx hs => ?_, ?_⟩
  · obtain ⟨h0, h1, -⟩ := hs
    change _ = _ at h0
    change _ = _ at h1
    rw [eval_tmp] at h0 h1
    go_simp
    try go_ints
    rfl
  refine walk_q [(197, some 0)] (by kernel_rfl) rfl ?_
  apply Exists.intro
  refine ⟨fun b w' hx hs => ?_, ?_⟩
  · obtain ⟨h0, -⟩ := hs
    change _ = _ at h0
    rw [eval_tmp] at h0
    go_simp
    try go_ints
    rfl
  refine walk_qg [(5, none), (198, some 0)] (by kernel_rfl) 56 198 false rfl rfl (fun b w' hx hs => by obtain ⟨-, h1, -⟩ := hs; exact h1) ?_
  apply Exists.intro
  refine ⟨fun b w' hx hs => ?_, ?_⟩
  · obtain ⟨h0, h1, -⟩ := hs
    change _ = _ at h0
    change _ = _ at h1
    rw [eval_tmp] at h0 h1
    have hx_B1 := B1.ext hx
    have kB1_0 := hx_B1.cell 0 rfl
    have kB1_1 := hx_B1.cell 1 rfl
    have kB1_2 := hx_B1.cell 2 rfl
    have kB1_3 := hx_B1.cell 3 rfl
    have hx_B4 := B4.ext hx
    have kB4_0 := hx_B4.cell 0 rfl
    have kB4_1 := hx_B4.cell 1 rfl
    have kB4_2 := hx_B4.cell 2 rfl
    have kB4_3 := hx_B4.cell 3 rfl
    have hx_B5 := B5.ext hx
    have kB5_0 := hx_B5.cell 0 rfl
    have kB5_1 := hx_B5.cell 1 rfl
    have kB5_2 := hx_B5.cell 2 rfl
    have kB5_3 := hx_B5.cell 3 rfl
    go_simp
    try go_ints
    rfl
  refine walk_qg [(1, none), (198, some 1)] (by kernel_rfl) 56 198 false rfl rfl (fun b w' hx hs => by obtain ⟨-, h1, -⟩ := hs; exact h1) ?_
  apply Exists.intro
  refine ⟨fun b w' hx hs => ?_, ?_⟩
  · obtain ⟨h0, h1, -⟩ := hs
    change _ = _ at h0
    change _ = _ at h1
    rw [eval_tmp] at h0 h1
    have hx_B1 := B1.ext hx
    have kB1_0 := hx_B1.cell 0 rfl
    have kB1_1 := hx_B1.cell 1 rfl
    have kB1_2 := hx_B1.cell 2 rfl
    have kB1_3 := hx_B1.cell 3 rfl
    have hx_B4 := B4.ext hx
    have kB4_0 := hx_B4.cell 0 rfl
    have kB4_1 := hx_B4.cell 1 rfl
    have kB4_2 := hx_B4.cell 2 rfl
    have kB4_3 := hx_B4.cell 3 rfl
    have hx_B5 := B5.ext hx
    have kB5_0 := hx_B5.cell 0 rfl
    have kB5_1 := hx_B5.cell 1 rfl
    have kB5_2 := hx_B5.cell 2 rfl
    have kB5_3 := hx_B5.cell 3 rfl
    go_simp
    try go_ints
    rfl
  refine walk_cg [(199, some 1), (200, some 0), (198, some 2)] (by kernel_rfl) 56 198 false rfl rfl (fun b w' hx hs => by obtain ⟨-, -, h2, -⟩ := hs; exact h2) (fun _ v => v = .int .i64 (0)) (fun _ _ _ x h => by first | exact h | exact h.ext x) (fun b w' hx hs => ?_) ?_
  · as_aux_lemma =>
      obtain ⟨h0, h1, h2, -⟩ := hs
      change _ = _ at h0
      change _ = _ at h1
      change _ = _ at h2
      rw [eval_tmp] at h0 h1 h2
      go_simp
      refine upon_enter ((cmp_num _ (hT.ext hx) (n5.ext hx) (n1.ext hx)).mono fun ed w2 ⟨he, hx2⟩ => ⟨_, he, hx2, ?_⟩)
      have hval : cmpO (none) (some (((1 : Int) : Rat))) = 0 := rfl
      rw [hval]
  refine walk_qg [(201, some 0), (198, some 3)] (by kernel_rfl) 56 198 false rfl rfl (fun b w' hx hs => by obtain ⟨-, h1, -⟩ := hs; exact h1) ?_
  apply Exists.intro
  refine ⟨fun b w' hx hs => ?_, ?_⟩
  · obtain ⟨h0, h1, -⟩ := hs
    change _ = _ at h0
    change _ = _ at h1
    rw [eval_tmp] at h0 h1
    go_simp
    try go_ints
    rfl
  refine walk_q [(198, some 4), (202, some 0)] (by kernel_rfl) rfl ?_
  apply Exists.intro
  refine ⟨fun b w' hx hs => ?_, ?_⟩
  · obtain ⟨h0, h1, -⟩ := hs
    change _ = _ at h0
    change _ = _ at h1
    rw [eval_tmp] at h0 h1
    go_simp
    try go_ints
    rfl
  refine walk_q [(203, some 0)] (by kernel_rfl) rfl ?_
  apply Exists.intro
  refine ⟨fun b w' hx hs => ?_, ?_⟩
  · obtain ⟨h0, -⟩ := hs
    change _ = _ at h0
    rw [eval_tmp] at h0
    go_simp
    try go_ints
    rfl
  refine walk_qg [(1, none), (204, some 0)] (by kernel_rfl) 62 204 false rfl rfl (fun b w' hx hs => by obtain ⟨-, h1, -⟩ := hs; exact h1) ?_
  apply Exists.intro
  refine ⟨fun b w' hx hs => ?_, ?_⟩
  · obtain ⟨h0, h1, -⟩ := hs
    change _ = _ at h0
    change _ = _ at h1
    rw [eval_tmp] at h0 h1
    have hx_B1 := B1.ext hx
    have kB1_0 := hx_B1.cell 0 rfl
    have kB1_1 := hx_B1.cell 1 rfl
    have kB1_2 := hx_B1.cell 2 rfl
    have kB1_3 := hx_B1.cell 3 rfl
    have hx_B4 := B4.ext hx
    have kB4_0 := hx_B4.cell 0 rfl
    have kB4_1 := hx_B4.cell 1 rfl
    have kB4_2 := hx_B4.cell 2 rfl
    have kB4_3 := hx_B4.cell 3 rfl
    have hx_B5 := B5.ext hx
    have kB5_0 := hx_B5.cell 0 rfl
    have kB5_1 := hx_B5.cell 1 rfl
    have kB5_2 := hx_B5.cell 2 rfl
    have kB5_3 := hx_B5.cell 3 rfl
    go_simp
    try go_ints
    rfl
  refine walk_qg [(5, none), (204, some 1)] (by kernel_rfl) 62 204 false rfl rfl (fun b w' hx hs => by obtain ⟨-, h1, -⟩ := hs; exact h1) ?_
  apply Exists.intro
  refine ⟨fun b w' hx hs => ?_, ?_⟩
  · obtain ⟨h0, h1, -⟩ := hs
    change _ = _ at h0
    change _ = _ at h1
    rw [eval_tmp] at h0 h1
    have hx_B1 := B1.ext hx
    have kB1_0 := hx_B1.cell 0 rfl
    have kB1_1 := hx_B1.cell 1 rfl
    have kB1_2 := hx_B1.cell 2 rfl
    have kB1_3 := hx_B1.cell 3 rfl
    have hx_B4 := B4.ext hx
    have kB4_0 := hx_B4.cell 0 rfl
    have kB4_1 := hx_B4.cell 1 rfl
    have kB4_2 := hx_B4.cell 2 rfl
    have kB4_3 := hx_B4.cell 3 rfl
    have hx_B5 := B5.ext hx
    have kB5_0 := hx_B5.cell 0 rfl
    have kB5_1 := hx_B5.cell 1 rfl
    have kB5_2 := hx_B5.cell 2 rfl
    have kB5_3 := hx_B5.cell 3 rfl
    go_simp
    try go_ints
    rfl
  refine walk_cg [(205, some 1), (206, some 0), (204, some 2)] (by kernel_rfl) 62 204 false rfl rfl (fun b w' hx hs => by obtain ⟨-, -, h2, -⟩ := hs; exact h2) (fun _ v => v = .int .i64 (0)) (fun _ _ _ x h => by first | exact h | exact h.ext x) (fun b w' hx hs => ?_) ?_
  · as_aux_lemma =>
      obtain ⟨h0, h1, h2, -⟩ := hs
      change _ = _ at h0
      change _ = _ at h1
      change _ = _ at h2
      rw [eval_tmp] at h0 h1 h2
      go_simp
      refine upon_enter ((cmp_num _ (hT.ext hx) (n1.ext hx) (n5.ext hx)).mono fun ed w2 ⟨he, hx2⟩ => ⟨_, he, hx2, ?_⟩)
      have hval : cmpO (some (((1 : Int) : Rat))) (none) = 0 := rfl
      rw [hval]
  refine walk_qg [(207, some 0), (204, some 3)] (by kernel_rfl) 62 204 false rfl rfl (fun b w' hx hs => by obtain ⟨-, h1, -⟩ := hs; exact h1) ?_
  apply Exists.intro
  refine ⟨fun b w' hx hs => ?_, ?_⟩
  · obtain ⟨h0, h1, -⟩ := hs
    change _ = _ at h0
    change _ = _ at h1
    rw [eval_tmp] at h0 h1
    go_simp
    try go_ints
    rfl
  refine walk_q [(204, some 4), (208, some 0)] (by kernel_rfl) rfl ?_
  apply Exists.intro
  refine ⟨fun b w' hx hs => ?_, ?_⟩
  · obtain ⟨h0, h1, -⟩ := hs
    change _ = _ at h0
    change _ = _ at h1
    rw [eval_tmp] at h0 h1
    go_simp
    try go_ints
    rfl
  refine walk_q [(209, some 0)] (by kernel_rfl) rfl ?_
  apply Exists.intro
  refine ⟨fun b w' hx hs => ?_, ?_⟩
  · obtain ⟨h0, -⟩ := hs
    change _ = _ at h0
    rw [eval_tmp] at h0
    go_simp
    try go_ints
    rfl
  refine walk_qg [(5, none), (210, some 0)] (by kernel_rfl) 68 210 false rfl rfl (fun b w' hx hs => by obtain ⟨-, h1, -⟩ := hs; exact h1) ?_
  apply Exists.intro
  refine ⟨fun b w' hx hs => ?_, ?_⟩
  · obtain ⟨h0, h1, -⟩ := hs
    change _ = _ at h0
    change _ = _ at h1
    rw [eval_tmp] at h0 h1
    have hx_B1 := B1.ext hx
    have kB1_0 := hx_B1.cell 0 rfl
    have kB1_1 := hx_B1.cell 1 rfl
    have kB1_2 := hx_B1.cell 2 rfl
    have kB1_3 := hx_B1.cell 3 rfl
    have hx_B4 := B4.ext hx
    have kB4_0 := hx_B4.cell 0 rfl
    have kB4_1 := hx_B4.cell 1 rfl
    have kB4_2 := hx_B4.cell 2 rfl
    have kB4_3 := hx_B4.cell 3 rfl
    have hx_B5 := B5.ext hx
    have kB5_0 := hx_B5.cell 0 rfl
    have kB5_1 := hx_B5.cell 1 rfl
    have kB5_2 := hx_B5.cell 2 rfl
    have kB5_3 := hx_B5.cell 3 rfl
    go_simp
    try go_ints
    rfl
  refine walk_cg [(211, some 0), (210, some 1)] (by kernel_rfl) 68 210 false rfl rfl (fun b w' hx hs => by obtain ⟨-, h1, -⟩ := hs; exact h1) (fun _ v => v = .int .i64 (0)) (fun _ _ _ x h => by first | exact h | exact h.ext x) (fun b w' hx hs => ?_) ?_
  · as_aux_lemma =>
      obtain ⟨h0, h1, -⟩ := hs
      change _ = _ at h0
      change _ = _ at h1
      rw [eval_tmp] at h0 h1
      go_simp
      refine upon_enter ((sign_any _ (n5.ext hx)).mono fun ed w2 ⟨he, hx2⟩ => ⟨_, he, hx2, ?_⟩)
      have hval : sgO none = 0 := rfl
      rw [hval]
  refine walk_qg [(212, some 0), (210, some 2)] (by kernel_rfl) 68 210 false rfl rfl (fun b w' hx hs => by obtain ⟨-, h1, -⟩ := hs; exact h1) ?_
  apply Exists.intro
  refine ⟨fun b w' hx hs => ?_, ?_⟩
  · obtain ⟨h0, h1, -⟩ := hs
    change _ = _ at h0
    change _ = _ at h1
    rw [eval_tmp] at h0 h1
    go_simp
    try go_ints
    rfl
  refine walk_q [(210, some 3), (213, some 0)] (by kernel_rfl) rfl ?_
  apply Exists.intro
  refine ⟨fun b w' hx hs => ?_, ?_⟩
  · obtain ⟨h0, h1, -⟩ := hs
    change _ = _ at h0
    change _ = _ at h1
    rw [eval_tmp] at h0 h1
    go_simp
    try go_ints
    rfl
  refine walk_q [(214, some 0)] (by kernel_rfl) rfl ?_
  apply Exists.intro
  refine ⟨fun b w' hx hs => ?_, ?_⟩
  · obtain ⟨h0, -⟩ := hs
    change _ = _ at h0
    rw [eval_tmp] at h0
    go_simp
    try go_ints
    rfl
  refine walk_qg [(5, none), (215, some 0)] (by kernel_rfl) 73 215 false rfl rfl (fun b w' hx hs => by obtain ⟨-, h1, -⟩ := hs; exact h1) ?_
  apply Exists.intro
  refine ⟨fun b w' hx hs => ?_, ?_⟩
  · obtain ⟨h0, h1, -⟩ := hs
    change _ = _ at h0
    change _ = _ at h1
    rw [eval_tmp] at h0 h1
    go_simp
    try go_ints
    rfl
  refine walk_qg [(216, some 0), (215, some 1)] (by kernel_rfl) 73 215 false rfl rfl (fun b w' hx hs => by obtain ⟨-, h1, -⟩ := hs; exact h1) ?_
  apply Exists.intro
  refine ⟨fun b w' hx hs => ?_, ?_⟩
  · obtain ⟨h0, h1, -⟩ := hs
    change _ = _ at h0
    change _ = _ at h1
    rw [eval_tmp] at h0 h1
    have hx_B1 := B1.ext hx
    have kB1_0 := hx_B1.cell 0 rfl
    have kB1_1 := hx_B1.cell 1 rfl
    have kB1_2 := hx_B1.cell 2 rfl
    have kB1_3 := hx_B1.cell 3 rfl
    have hx_B4 := B4.ext hx
    have kB4_0 := hx_B4.cell 0 rfl
    have kB4_1 := hx_B4.cell 1 rfl
    have kB4_2 := hx_B4.cell 2 rfl
    have kB4_3 := hx_B4.cell 3 rfl
    have hx_B5 := B5.ext hx
    have kB5_0 := hx_B5.cell 0 rfl
    have kB5_1 := hx_B5.cell 1 rfl
    have kB5_2 := hx_B5.cell 2 rfl
    have kB5_3 := hx_B5.cell 3 rfl
    go_simp
    try go_ints
    rfl
  refine walk_cg [(217, some 0), (215, some 2)] (by kernel_rfl) 73 215 false rfl rfl (fun b w' hx hs => by obtain ⟨-, h1, -⟩ := hs; exact h1) (fun _ v => v = .int .i64 (0)) (fun _ _ _ x h => by first | exact h | exact h.ext x) (fun b w' hx hs => ?_) ?_
  · as_aux_lemma =>
      obtain ⟨h0, h1, -⟩ := hs
      change _ = _ at h0
      change _ = _ at h1
      rw [eval_tmp] at h0 h1
      go_simp
      refine upon_enter ((high_num _ (n5.ext hx)).mono fun ed w2 ⟨he, hx2⟩ => ⟨_, he, hx2, ?_⟩)
      have hval : hiQ (Option.getD none 0) = 0 := hiQ_zero
      rw [hval]
  refine walk_qg [(5, none), (215, some 3)] (by kernel_rfl) 73 215 false rfl rfl (fun b w' hx hs => by obtain ⟨-, h1, -⟩ := hs; exact h1) ?_
  apply Exists.intro
  refine ⟨fun b w' hx hs => ?_, ?_⟩
  · obtain ⟨h0, h1, -⟩ := hs
    change _ = _ at h0
    change _ = _ at h1
    rw [eval_tmp] at h0 h1
    go_simp
    try go_ints
    rfl
  refine walk_qg [(219, some 0), (215, some 4)] (by kernel_rfl) 73 215 false rfl rfl (fun b w' hx hs => by obtain ⟨-, h1, -⟩ := hs; exact h1) ?_
  apply Exists.intro
  refine ⟨fun b w' hx hs => ?_, ?_⟩
  · obtain ⟨h0, h1, -⟩ := hs
    change _ = _ at h0
    change _ = _ at h1
    rw [eval_tmp] at h0 h1
    have hx_B1 := B1.ext hx
    have kB1_0 := hx_B1.cell 0 rfl
    have kB1_1 := hx_B1.cell 1 rfl
    have kB1_2 := hx_B1.cell 2 rfl
    have kB1_3 := hx_B1.cell 3 rfl
    have hx_B4 := B4.ext hx
    have kB4_0 := hx_B4.cell 0 rfl
    have kB4_1 := hx_B4.cell 1 rfl
    have kB4_2 := hx_B4.cell 2 rfl
    have kB4_3 := hx_B4.cell 3 rfl
    have hx_B5 := B5.ext hx
    have kB5_0 := hx_B5.cell 0 rfl
    have kB5_1 := hx_B5.cell 1 rfl
    have kB5_2 := hx_B5.cell 2 rfl
    have kB5_3 := hx_B5.cell 3 rfl
    go_simp
    try go_ints
    rfl
  refine walk_cg [(220, some 0), (215, some 5)] (by kernel_rfl) 73 215 false rfl rfl (fun b w' hx hs => by obtain ⟨-, h1, -⟩ := hs; exact h1) (fun _ v => v = .int .i64 (0)) (fun _ _ _ x h => by first | exact h | exact h.ext x) (fun b w' hx hs => ?_) ?_
  · as_aux_lemma =>
      obtain ⟨h0, h1, -⟩ := hs
      change _ = _ at h0
      change _ = _ at h1
      rw [eval_tmp] at h0 h1
      go_simp
      refine upon_enter ((low_num _ (hT.ext hx) (n5.ext hx)).mono fun ed w2 ⟨he, hx2⟩ => ⟨_, he, hx2, ?_⟩)
      have hval : loQ (Option.getD none 0) = 0 := loQ_zero
      rw [hval]
  refine walk_qg [(218, some 3), (221, some 0), (215, some 6)] (by kernel_rfl) 73 215 false rfl rfl (fun b w' hx hs => by obtain ⟨-, -, h2, -⟩ := hs; exact h2) ?_
  apply Exists.intro
  refine ⟨fun b w' hx hs => ?_, ?_⟩
  · obtain ⟨h0, h1, h2, -⟩ := hs
    change _ = _ at h0
    change _ = _ at h1
    change _ = _ at h2
    rw [eval_tmp] at h0 h1 h2
    go_simp
    try go_ints
    rfl
  refine walk_qg [(222, some 0), (215, some 7)] (by kernel_rfl) 73 215 false rfl rfl (fun b w' hx hs => by obtain ⟨-, h1, -⟩ := hs; exact h1) ?_
  apply Exists.intro
  refine ⟨fun b w' hx hs => ?_, ?_⟩
  · obtain ⟨h0, h1, -⟩ := hs
    change _ = _ at h0
    change _ = _ at h1
    rw [eval_tmp] at h0 h1
    go_simp
    try go_ints
    rfl
  refine walk_q [(215, some 8), (223, some 0)] (by kernel_rfl) rfl ?_
  apply Exists.intro
  refine ⟨fun b w' hx hs => ?_, ?_⟩
  · obtain ⟨h0, h1, -⟩ := hs
    change _ = _ at h0
    change _ = _ at h1
    rw [eval_tmp] at h0 h1
    go_simp
    try go_ints
    rfl
  refine walk_q [(224, some 0)] (by kernel_rfl) rfl ?_
  apply Exists.intro
  refine ⟨fun b w' hx hs => ?_, ?_⟩
  · obtain ⟨h0, -⟩ := hs
    change _ = _ at h0
    rw [eval_tmp] at h0
    go_simp
    try go_ints
    rfl
  refine walk_qg [(5, none), (225, some 0)] (by kernel_rfl) 83 225 false rfl rfl (fun b w' hx hs => by obtain ⟨-, h1, -⟩ := hs; exact h1) ?_
  apply Exists.intro
  refine ⟨fun b w' hx hs => ?_, ?_⟩
  · obtain ⟨h0, h1, -⟩ := hs
    change _ = _ at h0
    change _ = _ at h1
    rw [eval_tmp] at h0 h1
    have hx_B1 := B1.ext hx
    have kB1_0 := hx_B1.cell 0 rfl
    have kB1_1 := hx_B1.cell 1 rfl
    have kB1_2 := hx_B1.cell 2 rfl
    have kB1_3 := hx_B1.cell 3 rfl
    have hx_B4 := B4.ext hx
    have kB4_0 := hx_B4.cell 0 rfl
    have kB4_1 := hx_B4.cell 1 rfl
    have kB4_2 := hx_B4.cell 2 rfl
    have kB4_3 := hx_B4.cell 3 rfl
    have hx_B5 := B5.ext hx
    have kB5_0 := hx_B5.cell 0 rfl
    have kB5_1 := hx_B5.cell 1 rfl
    have kB5_2 := hx_B5.cell 2 rfl
    have kB5_3 := hx_B5.cell 3 rfl
    go_simp
    try go_ints
    rfl
  refine walk_cg [(226, some 0), (225, some 1)] (by kernel_rfl) 83 225 false rfl rfl (fun b w' hx hs => by obtain ⟨-, h1, -⟩ := hs; exact h1) (fun _ v => ∃ z, v = .float .f64 z ∧ sr z = 0 ∧ Num64 z) (fun _ _ _ x h => by first | exact h | exact h.ext x) (fun b w' hx hs => ?_) ?_
  · as_aux_lemma =>
      obtain ⟨h0, h1, -⟩ := hs
      change _ = _ at h0
      change _ = _ at h1
      rw [eval_tmp] at h0 h1
      go_simp
      refine upon_enter ((float_any _ (n5.ext hx)).mono fun ed w2 ⟨z, he, hx2, hr⟩ => ⟨_, he, hx2, z, rfl, ?_, hr.1⟩)
      have hval : Rn (Option.getD none 0) 0 := rn_zero
      exact hr.same hval
  refine walk_cg [(227, some 0), (225, some 2)] (by kernel_rfl) 83 225 false rfl rfl (fun b w' hx hs => by obtain ⟨-, h1, -⟩ := hs; exact h1) (fun _ v => v = .bool false) (fun _ _ _ x h => by first | exact h | exact h.ext x) (fun b w' hx hs => ?_) ?_
  · as_aux_lemma =>
      obtain ⟨h0, h1, -⟩ := hs
      change _ = _ at h1
      rw [eval_tmp] at h0 h1
      obtain ⟨z, e, r, nz⟩ := h0
      obtain ⟨oa, ob⟩ := order_zero r nz
      go_simp
      exact ⟨Ext.refl _, rfl⟩
  refine walk_q [(225, some 3), (228, some 0)] (by kernel_rfl) rfl ?_
  apply Exists.intro
  refine ⟨fun b w' hx hs => ?_, ?_⟩
  · obtain ⟨h0, h1, -⟩ := hs
    change _ = _ at h0
    change _ = _ at h1
    rw [eval_tmp] at h0 h1
    go_simp
    try go_ints
    rfl
  refine walk_end ?_
  intro w10 hx10
  rintro _ rfl
  rintro _ rfl
  intro v227 hv227
  rintro _ rfl
  rintro _ rfl
  rintro _ rfl
  rintro _ rfl
  rintro _ rfl
  rintro _ rfl
  rintro _ rfl
  rintro _ rfl
  rintro _ rfl
  rintro _ rfl
  rintro _ rfl
  rintro _ rfl
  rintro _ rfl
  rintro _ rfl
  rintro _ rfl
  rintro _ rfl
  rintro _ rfl
  rintro _ rfl
  rintro _ rfl
  rintro _ rfl
  rintro _ rfl
  rintro _ rfl
  rintro _ rfl
  rintro _ rfl
  rintro _ rfl
  rintro _ rfl
  rintro _ rfl
  rintro _ rfl
  rintro _ rfl
  rintro _ rfl
  rintro _ rfl
  intro v195 hv195
  rintro _ rfl
  rintro _ rfl
  rintro _ rfl
  rintro _ rfl
  intro v190 hv190
  rintro _ rfl
  rintro _ rfl
  rintro _ rfl
  rintro _ rfl
  intro v185 hv185
  rintro _ rfl
  rintro _ rfl
  rintro _ rfl
  rintro _ rfl
  rintro _ rfl
  intro v179 hv179
  rintro _ rfl
  rintro _ rfl
  rintro _ rfl
  rintro _ rfl
  rintro _ rfl
  intro v173 hv173
  rintro _ rfl
  rintro _ rfl
  rintro _ rfl
  rintro _ rfl
  rintro _ rfl
  intro v167 hv167
  rintro _ rfl
  rintro _ rfl
  rintro _ rfl
  rintro _ rfl
  rintro _ rfl
  intro v161 hv161
  rintro _ rfl
  rintro _ rfl
  rintro _ rfl
  rintro _ rfl
  rintro _ rfl
  intro v155 hv155
  rintro _ rfl
  rintro _ rfl
  rintro _ rfl
  rintro _ rfl
  rintro _ rfl
  intro v149 hv149
  rintro _ rfl
  rintro _ rfl
  rintro _ rfl
  rintro _ rfl
  intro v144 hv144
  rintro _ rfl
  rintro _ rfl
  unfold fin
  simp only [Act.put, List.setIfInBounds_toArray, List.set_cons_succ, List.set_cons_zero]
  replace B1 := B1.ext hx10
  replace B2 := B2.ext hx10
  replace B3 := B3.ext hx10
  replace n1 := n1.ext hx10
  replace n2 := n2.ext hx10
  replace n3 := n3.ext hx10
  replace hx := hx.trans hx10
  replace hT := hT.ext hx10
  clear hx10 B2 B4 B5 n2 n4 n5
  go_wp2_with fail
  refine (int_any 9007199254740992 _ (by omega) (by omega) hT).mono ?_
  rintro ed w11 ⟨v11, rfl, hxk, n6⟩
  replace B1 := B1.ext hxk
  replace B3 := B3.ext hxk
  replace n1 := n1.ext hxk
  replace n3 := n3.ext hxk
  replace hx := hx.trans hxk
  replace hT := hT.ext hxk
  clear hxk
  obtain ⟨a6, m6, c6, e6, neg6, non6, rfl, n6⟩ := n6.kept
  have B6 := Box.new w11 #[.slice a6 m6 c6, .int .i64 e6, .bool neg6, .bool non6] 29
  have hxa : Ext w11 (w11.alloc (.cells #[.slice a6 m6 c6, .int .i64 e6, .bool neg6, .bool non6] 29)) := (Ext.refl _).alloc _
  replace B1 := B1.ext hxa
  replace B3 := B3.ext hxa
  replace n1 := n1.ext hxa
  replace n3 := n3.ext hxa
  replace n6 := n6.ext hxa
  replace hx := hx.trans hxa
  replace hT := hT.ext hxa
  clear hxa
  go_wp2
  have o2 := O2.out; have o3 := O3.out; have o4 := O4.out; have o5 := O5.out; have o6 := O6.out
  refine wp_steady 3 315 (by kernel_rfl) (by as_aux_lemma => kernel_rfl) rfl ?_
  refine walk_q [(6, none)] (by kernel_rfl) rfl ?_
  apply Exists.intro
  refine ⟨fun b w' hx hs => ?_, ?_⟩
  · obtain ⟨h0, -⟩ := hs
    change _ = _ at h0
    rw [eval_tmp] at h0
    have hx_B1 := B1.ext hx
    have kB1_0 := hx_B1.cell 0 rfl
    have kB1_1 := hx_B1.cell 1 rfl
    have kB1_2 := hx_B1.cell 2 rfl
    have kB1_3 := hx_B1.cell 3 rfl
    have hx_B3 := B3.ext hx
    have kB3_0 := hx_B3.cell 0 rfl
    have kB3_1 := hx_B3.cell 1 rfl
    have kB3_2 := hx_B3.cell 2 rfl
    have kB3_3 := hx_B3.cell 3 rfl
    have hx_B6 := B6.ext hx
    have kB6_0 := hx_B6.cell 0 rfl
    have kB6_1 := hx_B6.cell 1 rfl
    have kB6_2 := hx_B6.cell 2 rfl
    have kB6_3 := hx_B6.cell 3 rfl
    go_simp
    try go_ints
    rfl
  refine walk_q [(1, none)] (by kernel_rfl) rfl ?_
  apply Exists.intro
  refine ⟨fun b w' hx hs => ?_, ?_⟩
  · obtain ⟨h0, -⟩ := hs
    change _ = _ at h0
    rw [eval_tmp] at h0
    have hx_B1 := B1.ext hx
    have kB1_0 := hx_B1.cell 0 rfl
    have kB1_1 := hx_B1.cell 1 rfl
    have kB1_2 := hx_B1.cell 2 rfl
    have kB1_3 := hx_B1.cell 3 rfl
    have hx_B3 := B3.ext hx
    have kB3_0 := hx_B3.cell 0 rfl
    have kB3_1 := hx_B3.cell 1 rfl
    have kB3_2 := hx_B3.cell 2 rfl
    have kB3_3 := hx_B3.cell 3 rfl
    have hx_B6 := B6.ext hx
    have kB6_0 := hx_B6.cell 0 rfl
    have kB6_1 := hx_B6.cell 1 rfl
    have kB6_2 := hx_B6.cell 2 rfl
    have kB6_3 := hx_B6.cell 3 rfl
    go_simp
    try go_ints
    rfl
  refine walk_c [(231, some 1), (232, some 0)] (by kernel_rfl) rfl (fun w' v => IsNum w' v (some ((((9007199254740992 : Int) : Rat) + ((1 : Int) : Rat))))) (fun _ _ _ x h => by first | exact h | exact h.ext x) (fun b w' hx hs => ?_) ?_
  · as_aux_lemma =>
      obtain ⟨h0, h1, -⟩ := hs
      change _ = _ at h0
      change _ = _ at h1
      rw [eval_tmp] at h0 h1
      go_simp
      refine upon_enter ((add_any _ (hT.ext hx) (n6.ext hx) (n1.ext hx)).mono fun ed w2 ⟨v, he, hx2, hn⟩ => ⟨v, he, hx2, ?_⟩)
      rw [addO_sz (n := 64) ((int_sz (by omega) (by omega))) (one_sz) (by omega)] at hn
      first | exact hn | simpa using hn
  refine walk_c [(233, some 0)] (by kernel_rfl) rfl (fun _ v => v = .float .f64 4845873199050653696) (fun _ _ _ x h => by first | exact h | exact h.ext x) (fun b w' hx hs => ?_) ?_
  · as_aux_lemma =>
      obtain ⟨h0, -⟩ := hs
      rw [eval_tmp] at h0
      go_simp
      refine upon_enter ((float_any _ (show IsNum _ _ (some ((((9007199254740992 : Int) : Rat) + ((1 : Int) : Rat)))) from by rw [← eval_tmp] at *; exact h0)).mono fun ed w2 ⟨z, he, hx2, hr⟩ => ⟨_, he, hx2, ?_⟩)
      have hval : Rn ((((9007199254740992 : Int) : Rat) + ((1 : Int) : Rat))) 4845873199050653696 := rn_big1
      rw [rn_same hr hval (by omega)]
  refine walk_q [(234, some 0)] (by kernel_rfl) rfl ?_
  apply Exists.intro
  refine ⟨fun b w' hx hs => ?_, ?_⟩
  · obtain ⟨h0, -⟩ := hs
    change _ = _ at h0
    rw [eval_tmp] at h0
    go_simp
    try go_ints
    rfl
  refine walk_q [(235, some 0)] (by kernel_rfl) rfl ?_
  apply Exists.intro
  refine ⟨fun b w' hx hs => ?_, ?_⟩
  · obtain ⟨h0, -⟩ := hs
    change _ = _ at h0
    rw [eval_tmp] at h0
    go_simp
    try go_ints
    rfl
  refine walk_qg [(6, none), (236, some 0)] (by kernel_rfl) 5 236 true rfl rfl (fun b w' hx hs => by obtain ⟨-, h1, -⟩ := hs; exact h1) ?_
  apply Exists.intro
  refine ⟨fun b w' hx hs => ?_, ?_⟩
  · obtain ⟨h0, h1, -⟩ := hs
    change _ = _ at h0
    change _ = _ at h1
    rw [eval_tmp] at h0 h1
    have hx_B1 := B1.ext hx
    have kB1_0 := hx_B1.cell 0 rfl
    have kB1_1 := hx_B1.cell 1 rfl
    have kB1_2 := hx_B1.cell 2 rfl
    have kB1_3 := hx_B1.cell 3 rfl
    have hx_B3 := B3.ext hx
    have kB3_0 := hx_B3.cell 0 rfl
    have kB3_1 := hx_B3.cell 1 rfl
    have kB3_2 := hx_B3.cell 2 rfl
    have kB3_3 := hx_B3.cell 3 rfl
    have hx_B6 := B6.ext hx
    have kB6_0 := hx_B6.cell 0 rfl
    have kB6_1 := hx_B6.cell 1 rfl
    have kB6_2 := hx_B6.cell 2 rfl
    have kB6_3 := hx_B6.cell 3 rfl
    go_simp
    try go_ints
    rfl
  refine walk_cg [(236, some 1)] (by kernel_rfl) 5 236 true rfl rfl (fun b w' hx hs => by obtain ⟨h0, -⟩ := hs; exact h0) (fun w' v => IsNum w' v (some (((3 : Int) : Rat)))) (fun _ _ _ x h => by first | exact h | exact h.ext x) (fun b w' hx hs => ?_) ?_
  · as_aux_lemma =>
      obtain ⟨h0, -⟩ := hs
      change _ = _ at h0
      rw [eval_tmp] at h0
      go_simp
      refine upon_enter ((int_any (3) _ (by omega) (by omega) (hT.ext hx)).mono fun ed w2 ⟨v, he, hx2, hn⟩ => ⟨v, he, hx2, ?_⟩)
      first | exact hn | simpa using hn
  refine walk_cg [(237, some 1), (238, some 0), (236, some 2)] (by kernel_rfl) 5 236 true rfl rfl (fun b w' hx hs => by obtain ⟨-, -, h2, -⟩ := hs; exact h2) (fun w' v => IsNum w' v (some ((((9007199254740992 : Int) : Rat) + ((3 : Int) : Rat))))) (fun _ _ _ x h => by first | exact h | exact h.ext x) (fun b w' hx hs => ?_) ?_
  · as_aux_lemma =>
      obtain ⟨h0, h1, h2, -⟩ := hs
      change _ = _ at h0
      change _ = _ at h2
      rw [eval_tmp] at h0 h1 h2
      go_simp
      refine upon_enter ((add_any _ (hT.ext hx) (n6.ext hx) (show IsNum _ _ (some (((3 : Int) : Rat))) from by rw [← eval_tmp] at *; exact h1)).mono fun ed w2 ⟨v, he, hx2, hn⟩ => ⟨v, he, hx2, ?_⟩)
      rw [addO_sz (n := 64) ((int_sz (by omega) (by omega))) ((show Sz 64 (((3 : Int) : Rat)) from (int_sz (n := 3) (by omega) (by omega)))) (by omega)] at hn
      first | exact hn | simpa using hn
  refine walk_cg [(239, some 0), (236, some 3)] (by kernel_rfl) 5 236 true rfl rfl (fun b w' hx hs => by obtain ⟨-, h1, -⟩ := hs; exact h1) (fun _ v => v = .float .f64 4845873199050653698) (fun _ _ _ x h => by first | exact h | exact h.ext x) (fun b w' hx hs => ?_) ?_
  · as_aux_lemma =>
      obtain ⟨h0, h1, -⟩ := hs
      change _ = _ at h1
      rw [eval_tmp] at h0 h1
      go_simp
      refine upon_enter ((float_any _ (show IsNum _ _ (some ((((9007199254740992 : Int) : Rat) + ((3 : Int) : Rat)))) from by rw [← eval_tmp] at *; exact h0)).mono fun ed w2 ⟨z, he, hx2, hr⟩ => ⟨_, he, hx2, ?_⟩)
      have hval : Rn ((((9007199254740992 : Int) : Rat) + ((3 : Int) : Rat))) 4845873199050653698 := rn_big3
      rw [rn_same hr hval (by omega)]
  refine walk_qg [(240, some 0), (236, some 4)] (by kernel_rfl) 5 236 true rfl rfl (fun b w' hx hs => by obtain ⟨-, h1, -⟩ := hs; exact h1) ?_
  apply Exists.intro
  refine ⟨fun b w' hx hs => ?_, ?_⟩
  · obtain ⟨h0, h1, -⟩ := hs
    change _ = _ at h0
    change _ = _ at h1
    rw [eval_tmp] at h0 h1
    go_simp
    try go_ints
    rfl
  refine walk_q [(236, some 5), (241, some 0)] (by kernel_rfl) rfl ?_
  apply Exists.intro
  refine ⟨fun b w' hx hs => ?_, ?_⟩
  · obtain ⟨h0, h1, -⟩ := hs
    change _ = _ at h0
    change _ = _ at h1
    rw [eval_tmp] at h0 h1
    go_simp
    try go_ints
    rfl
  refine walk_q [(242, some 0)] (by kernel_rfl) rfl ?_
  apply Exists.intro
  refine ⟨fun b w' hx hs => ?_, ?_⟩
  · obtain ⟨h0, -⟩ := hs
    change _ = _ at h0
    rw [eval_tmp] at h0
    go_simp
    try go_ints
    rfl
  refine walk_cg [(243, some 0)] (by kernel_rfl) 12 243 true rfl rfl (fun b w' hx hs => by obtain ⟨h0, -⟩ := hs; exact h0) (fun w' v => IsNum w' v (some (((12 : Int) : Rat)))) (fun _ _ _ x h => by first | exact h | exact h.ext x) (fun b w' hx hs => ?_) ?_
  · as_aux_lemma =>
      obtain ⟨h0, -⟩ := hs
      change _ = _ at h0
      rw [eval_tmp] at h0
      go_simp
      refine upon_enter ((int_any (12) _ (by omega) (by omega) (hT.ext hx)).mono fun ed w2 ⟨v, he, hx2, hn⟩ => ⟨v, he, hx2, ?_⟩)
      first | exact hn | simpa using hn
  refine walk_cg [(244, some 0), (243, some 1)] (by kernel_rfl) 12 243 true rfl rfl (fun b w' hx hs => by obtain ⟨-, h1, -⟩ := hs; exact h1) (fun w' v => MagPart w' v ((12 : Int) : Rat)) (fun _ _ _ x h => by first | exact h | exact h.ext x) (fun b w' hx hs => ?_) ?_
  · as_aux_lemma =>
      obtain ⟨h0, h1, -⟩ := hs
      change _ = _ at h1
      rw [eval_tmp] at h0 h1
      have hm : IsNum w' (b.eval (.tmp 244)) (some ((12 : Int) : Rat)) := by rw [← eval_tmp] at h0; exact h0
      clear h0
      obtain ⟨a, n, c, e, neg, non, hv, hn⟩ := hm.kept
      rw [eval_tmp] at hv
      go_simp
      exact ⟨Ext.refl _, a, n, c, e, neg, non, by kernel_rfl, hn⟩
  refine walk_cg [(245, some 0), (243, some 2)] (by kernel_rfl) 12 243 true rfl rfl (fun b w' hx hs => by obtain ⟨-, h1, -⟩ := hs; exact h1) (fun _ v => v = .int .i64 3) (fun _ _ _ x h => by first | exact h | exact h.ext x) (fun b w' hx hs => ?_) ?_
  · as_aux_lemma =>
      obtain ⟨h0, h1, -⟩ := hs
      change _ = _ at h1
      rw [eval_tmp] at h0 h1
      obtain ⟨a, n, c, e, neg, non, hv, hn⟩ := h0
      go_simp
      refine upon_enter ((high_num _ hn).mono fun ed w2 ⟨he, hx2⟩ => ⟨_, he, hx2, ?_⟩)
      rw [show Option.getD (some ((12 : Int) : Rat)) 0 = ((12 : Int) : Rat) from rfl, hi_12]
  refine walk_qg [(246, some 0), (243, some 3)] (by kernel_rfl) 12 243 true rfl rfl (fun b w' hx hs => by obtain ⟨-, h1, -⟩ := hs; exact h1) ?_
  apply Exists.intro
  refine ⟨fun b w' hx hs => ?_, ?_⟩
  · obtain ⟨h0, h1, -⟩ := hs
    change _ = _ at h0
    change _ = _ at h1
    rw [eval_tmp] at h0 h1
    go_simp
    try go_ints
    rfl
  refine walk_q [(243, some 4), (247, some 0)] (by kernel_rfl) rfl ?_
  apply Exists.intro
  refine ⟨fun b w' hx hs => ?_, ?_⟩
  · obtain ⟨h0, h1, -⟩ := hs
    change _ = _ at h0
    change _ = _ at h1
    rw [eval_tmp] at h0 h1
    go_simp
    try go_ints
    rfl
  refine walk_q [(248, some 0)] (by kernel_rfl) rfl ?_
  apply Exists.intro
  refine ⟨fun b w' hx hs => ?_, ?_⟩
  · obtain ⟨h0, -⟩ := hs
    change _ = _ at h0
    rw [eval_tmp] at h0
    go_simp
    try go_ints
    rfl
  refine walk_cg [(249, some 0)] (by kernel_rfl) 18 249 true rfl rfl (fun b w' hx hs => by obtain ⟨h0, -⟩ := hs; exact h0) (fun w' v => IsNum w' v (some (((12 : Int) : Rat)))) (fun _ _ _ x h => by first | exact h | exact h.ext x) (fun b w' hx hs => ?_) ?_
  · as_aux_lemma =>
      obtain ⟨h0, -⟩ := hs
      change _ = _ at h0
      rw [eval_tmp] at h0
      go_simp
      refine upon_enter ((int_any (12) _ (by omega) (by omega) (hT.ext hx)).mono fun ed w2 ⟨v, he, hx2, hn⟩ => ⟨v, he, hx2, ?_⟩)
      first | exact hn | simpa using hn
  refine walk_cg [(250, some 0), (249, some 1)] (by kernel_rfl) 18 249 true rfl rfl (fun b w' hx hs => by obtain ⟨-, h1, -⟩ := hs; exact h1) (fun w' v => MagPart w' v ((12 : Int) : Rat)) (fun _ _ _ x h => by first | exact h | exact h.ext x) (fun b w' hx hs => ?_) ?_
  · as_aux_lemma =>
      obtain ⟨h0, h1, -⟩ := hs
      change _ = _ at h1
      rw [eval_tmp] at h0 h1
      have hm : IsNum w' (b.eval (.tmp 250)) (some ((12 : Int) : Rat)) := by rw [← eval_tmp] at h0; exact h0
      clear h0
      obtain ⟨a, n, c, e, neg, non, hv, hn⟩ := hm.kept
      rw [eval_tmp] at hv
      go_simp
      exact ⟨Ext.refl _, a, n, c, e, neg, non, by kernel_rfl, hn⟩
  refine walk_cg [(251, some 0), (249, some 2)] (by kernel_rfl) 18 249 true rfl rfl (fun b w' hx hs => by obtain ⟨-, h1, -⟩ := hs; exact h1) (fun _ v => v = .int .i64 2) (fun _ _ _ x h => by first | exact h | exact h.ext x) (fun b w' hx hs => ?_) ?_
  · as_aux_lemma =>
      obtain ⟨h0, h1, -⟩ := hs
      change _ = _ at h1
      rw [eval_tmp] at h0 h1
      obtain ⟨a, n, c, e, neg, non, hv, hn⟩ := h0
      go_simp
      refine upon_enter ((low_num _ (hT.ext hx) hn).mono fun ed w2 ⟨he, hx2⟩ => ⟨_, he, hx2, ?_⟩)
      rw [show Option.getD (some ((12 : Int) : Rat)) 0 = ((12 : Int) : Rat) from rfl, lo_12]
  refine walk_qg [(252, some 0), (249, some 3)] (by kernel_rfl) 18 249 true rfl rfl (fun b w' hx hs => by obtain ⟨-, h1, -⟩ := hs; exact h1) ?_
  apply Exists.intro
  refine ⟨fun b w' hx hs => ?_, ?_⟩
  · obtain ⟨h0, h1, -⟩ := hs
    change _ = _ at h0
    change _ = _ at h1
    rw [eval_tmp] at h0 h1
    go_simp
    try go_ints
    rfl
  refine walk_q [(249, some 4), (253, some 0)] (by kernel_rfl) rfl ?_
  apply Exists.intro
  refine ⟨fun b w' hx hs => ?_, ?_⟩
  · obtain ⟨h0, h1, -⟩ := hs
    change _ = _ at h0
    change _ = _ at h1
    rw [eval_tmp] at h0 h1
    go_simp
    try go_ints
    rfl
  refine walk_q [(254, some 0)] (by kernel_rfl) rfl ?_
  apply Exists.intro
  refine ⟨fun b w' hx hs => ?_, ?_⟩
  · obtain ⟨h0, -⟩ := hs
    change _ = _ at h0
    rw [eval_tmp] at h0
    go_simp
    try go_ints
    rfl
  refine walk_cg [(255, some 0)] (by kernel_rfl) 24 255 true rfl rfl (fun b w' hx hs => by obtain ⟨h0, -⟩ := hs; exact h0) (fun w' v => IsNum w' v (some (((-9223372036854775808 : Int) : Rat)))) (fun _ _ _ x h => by first | exact h | exact h.ext x) (fun b w' hx hs => ?_) ?_
  · as_aux_lemma =>
      obtain ⟨h0, -⟩ := hs
      change _ = _ at h0
      rw [eval_tmp] at h0
      go_simp
      refine upon_enter ((int_any (-9223372036854775808) _ (by omega) (by omega) (hT.ext hx)).mono fun ed w2 ⟨v, he, hx2, hn⟩ => ⟨v, he, hx2, ?_⟩)
      first | exact hn | simpa using hn
  refine walk_cg [(256, some 0), (255, some 1)] (by kernel_rfl) 24 255 true rfl rfl (fun b w' hx hs => by obtain ⟨-, h1, -⟩ := hs; exact h1) (fun _ v => v = .float .f64 14114281232179134464) (fun _ _ _ x h => by first | exact h | exact h.ext x) (fun b w' hx hs => ?_) ?_
  · as_aux_lemma =>
      obtain ⟨h0, h1, -⟩ := hs
      change _ = _ at h1
      rw [eval_tmp] at h0 h1
      go_simp
      refine upon_enter ((float_any _ (show IsNum _ _ (some (((-9223372036854775808 : Int) : Rat))) from by rw [← eval_tmp] at *; exact h0)).mono fun ed w2 ⟨z, he, hx2, hr⟩ => ⟨_, he, hx2, ?_⟩)
      have hval : Rn (((-9223372036854775808 : Int) : Rat)) 14114281232179134464 := rn_m63
      rw [rn_same hr hval (by omega)]
  refine walk_qg [(257, some 0), (255, some 2)] (by kernel_rfl) 24 255 true rfl rfl (fun b w' hx hs => by obtain ⟨-, h1, -⟩ := hs; exact h1) ?_
  apply Exists.intro
  refine ⟨fun b w' hx hs => ?_, ?_⟩
  · obtain ⟨h0, h1, -⟩ := hs
    change _ = _ at h0
    change _ = _ at h1
    rw [eval_tmp] at h0 h1
    go_simp
    try go_ints
    rfl
  refine walk_q [(255, some 3), (258, some 0)] (by kernel_rfl) rfl ?_
  apply Exists.intro
  refine ⟨fun b w' hx hs => ?_, ?_⟩
  · obtain ⟨h0, h1, -⟩ := hs
    change _ = _ at h0
    change _ = _ at h1
    rw [eval_tmp] at h0 h1
    go_simp
    try go_ints
    rfl
  refine walk_q [(259, some 0)] (by kernel_rfl) rfl ?_
  apply Exists.intro
  refine ⟨fun b w' hx hs => ?_, ?_⟩
  · obtain ⟨h0, -⟩ := hs
    change _ = _ at h0
    rw [eval_tmp] at h0
    go_simp
    try go_ints
    rfl
  refine walk_qg [(1, none), (260, some 0)] (by kernel_rfl) 29 260 true rfl rfl (fun b w' hx hs => by obtain ⟨-, h1, -⟩ := hs; exact h1) ?_
  apply Exists.intro
  refine ⟨fun b w' hx hs => ?_, ?_⟩
  · obtain ⟨h0, h1, -⟩ := hs
    change _ = _ at h0
    change _ = _ at h1
    rw [eval_tmp] at h0 h1
    have hx_B1 := B1.ext hx
    have kB1_0 := hx_B1.cell 0 rfl
    have kB1_1 := hx_B1.cell 1 rfl
    have kB1_2 := hx_B1.cell 2 rfl
    have kB1_3 := hx_B1.cell 3 rfl
    have hx_B3 := B3.ext hx
    have kB3_0 := hx_B3.cell 0 rfl
    have kB3_1 := hx_B3.cell 1 rfl
    have kB3_2 := hx_B3.cell 2 rfl
    have kB3_3 := hx_B3.cell 3 rfl
    have hx_B6 := B6.ext hx
    have kB6_0 := hx_B6.cell 0 rfl
    have kB6_1 := hx_B6.cell 1 rfl
    have kB6_2 := hx_B6.cell 2 rfl
    have kB6_3 := hx_B6.cell 3 rfl
    go_simp
    try go_ints
    rfl
  refine walk_cg [(261, some 0), (260, some 1)] (by kernel_rfl) 29 260 true rfl rfl (fun b w' hx hs => by obtain ⟨-, h1, -⟩ := hs; exact h1) (fun w' v => IsNum w' v (some ((((1 : Int) : Rat) * p2 (-1074))))) (fun _ _ _ x h => by first | exact h | exact h.ext x) (fun b w' hx hs => ?_) ?_
  · as_aux_lemma =>
      obtain ⟨h0, h1, -⟩ := hs
      change _ = _ at h0
      change _ = _ at h1
      rw [eval_tmp] at h0 h1
      go_simp
      refine upon_enter ((shift_any (-1074) _ (hT.ext hx) (n1.ext hx)).mono fun ed w2 ⟨v, he, hx2, hn⟩ => ⟨v, he, hx2, ?_⟩)
      rw [shiftO_sz (n := 64) (m := 1075) (one_sz) (by omega) (by omega) (by omega)] at hn
      first | exact hn | simpa using hn
  refine walk_cg [(262, some 0), (260, some 2)] (by kernel_rfl) 29 260 true rfl rfl (fun b w' hx hs => by obtain ⟨-, h1, -⟩ := hs; exact h1) (fun _ v => v = .float .f64 1) (fun _ _ _ x h => by first | exact h | exact h.ext x) (fun b w' hx hs => ?_) ?_
  · as_aux_lemma =>
      obtain ⟨h0, h1, -⟩ := hs
      change _ = _ at h1
      rw [eval_tmp] at h0 h1
      go_simp
      refine upon_enter ((float_any _ (show IsNum _ _ (some ((((1 : Int) : Rat) * p2 (-1074)))) from by rw [← eval_tmp] at *; exact h0)).mono fun ed w2 ⟨z, he, hx2, hr⟩ => ⟨_, he, hx2, ?_⟩)
      have hval : Rn ((((1 : Int) : Rat) * p2 (-1074))) 1 := rn_1074
      rw [rn_same hr hval (by omega)]
  refine walk_qg [(263, some 0), (260, some 3)] (by kernel_rfl) 29 260 true rfl rfl (fun b w' hx hs => by obtain ⟨-, h1, -⟩ := hs; exact h1) ?_
  apply Exists.intro
  refine ⟨fun b w' hx hs => ?_, ?_⟩
  · obtain ⟨h0, h1, -⟩ := hs
    change _ = _ at h0
    change _ = _ at h1
    rw [eval_tmp] at h0 h1
    go_simp
    try go_ints
    rfl
  refine walk_q [(260, some 4), (264, some 0)] (by kernel_rfl) rfl ?_
  apply Exists.intro
  refine ⟨fun b w' hx hs => ?_, ?_⟩
  · obtain ⟨h0, h1, -⟩ := hs
    change _ = _ at h0
    change _ = _ at h1
    rw [eval_tmp] at h0 h1
    go_simp
    try go_ints
    rfl
  refine walk_q [(265, some 0)] (by kernel_rfl) rfl ?_
  apply Exists.intro
  refine ⟨fun b w' hx hs => ?_, ?_⟩
  · obtain ⟨h0, -⟩ := hs
    change _ = _ at h0
    rw [eval_tmp] at h0
    go_simp
    try go_ints
    rfl
  refine walk_qg [(1, none), (266, some 0)] (by kernel_rfl) 35 266 true rfl rfl (fun b w' hx hs => by obtain ⟨-, h1, -⟩ := hs; exact h1) ?_
  apply Exists.intro
  refine ⟨fun b w' hx hs => ?_, ?_⟩
  · obtain ⟨h0, h1, -⟩ := hs
    change _ = _ at h0
    change _ = _ at h1
    rw [eval_tmp] at h0 h1
    have hx_B1 := B1.ext hx
    have kB1_0 := hx_B1.cell 0 rfl
    have kB1_1 := hx_B1.cell 1 rfl
    have kB1_2 := hx_B1.cell 2 rfl
    have kB1_3 := hx_B1.cell 3 rfl
    have hx_B3 := B3.ext hx
    have kB3_0 := hx_B3.cell 0 rfl
    have kB3_1 := hx_B3.cell 1 rfl
    have kB3_2 := hx_B3.cell 2 rfl
    have kB3_3 := hx_B3.cell 3 rfl
    have hx_B6 := B6.ext hx
    have kB6_0 := hx_B6.cell 0 rfl
    have kB6_1 := hx_B6.cell 1 rfl
    have kB6_2 := hx_B6.cell 2 rfl
    have kB6_3 := hx_B6.cell 3 rfl
    go_simp
    try go_ints
    rfl
  refine walk_cg [(267, some 0), (266, some 1)] (by kernel_rfl) 35 266 true rfl rfl (fun b w' hx hs => by obtain ⟨-, h1, -⟩ := hs; exact h1) (fun w' v => IsNum w' v (some ((((1 : Int) : Rat) * p2 (-1075))))) (fun _ _ _ x h => by first | exact h | exact h.ext x) (fun b w' hx hs => ?_) ?_
  · as_aux_lemma =>
      obtain ⟨h0, h1, -⟩ := hs
      change _ = _ at h0
      change _ = _ at h1
      rw [eval_tmp] at h0 h1
      go_simp
      refine upon_enter ((shift_any (-1075) _ (hT.ext hx) (n1.ext hx)).mono fun ed w2 ⟨v, he, hx2, hn⟩ => ⟨v, he, hx2, ?_⟩)
      rw [shiftO_sz (n := 64) (m := 1076) (one_sz) (by omega) (by omega) (by omega)] at hn
      first | exact hn | simpa using hn
  refine walk_cg [(268, some 0), (266, some 2)] (by kernel_rfl) 35 266 true rfl rfl (fun b w' hx hs => by obtain ⟨-, h1, -⟩ := hs; exact h1) (fun _ v => ∃ z, v = .float .f64 z ∧ sr z = 0 ∧ Num64 z) (fun _ _ _ x h => by first | exact h | exact h.ext x) (fun b w' hx hs => ?_) ?_
  · as_aux_lemma =>
      obtain ⟨h0, h1, -⟩ := hs
      change _ = _ at h1
      rw [eval_tmp] at h0 h1
      go_simp
      refine upon_enter ((float_any _ (show IsNum _ _ (some ((((1 : Int) : Rat) * p2 (-1075)))) from by rw [← eval_tmp] at *; exact h0)).mono fun ed w2 ⟨z, he, hx2, hr⟩ => ⟨_, he, hx2, z, rfl, ?_, hr.1⟩)
      have hval : Rn ((((1 : Int) : Rat) * p2 (-1075))) 0 := rn_1075
      exact hr.same hval
  refine walk_cg [(269, some 0), (266, some 3)] (by kernel_rfl) 35 266 true rfl rfl (fun b w' hx hs => by obtain ⟨-, h1, -⟩ := hs; exact h1) (fun _ v => v = .bool true) (fun _ _ _ x h => by first | exact h | exact h.ext x) (fun b w' hx hs => ?_) ?_
  · as_aux_lemma =>
      obtain ⟨h0, h1, -⟩ := hs
      change _ = _ at h1
      rw [eval_tmp] at h0 h1
      obtain ⟨z, e, r, nz⟩ := h0
      obtain ⟨oa, ob⟩ := order_zero r nz
      go_simp
      exact ⟨Ext.refl _, rfl⟩
  refine walk_q [(266, some 4), (270, some 0)] (by kernel_rfl) rfl ?_
  apply Exists.intro
  refine ⟨fun b w' hx hs => ?_, ?_⟩
  · obtain ⟨h0, h1, -⟩ := hs
    change _ = _ at h0
    change _ = _ at h1
    rw [eval_tmp] at h0 h1
    go_simp
    try go_ints
    rfl
  refine walk_q [(271, some 0)] (by kernel_rfl) rfl ?_
  apply Exists.intro
  refine ⟨fun b w' hx hs => ?_, ?_⟩
  · obtain ⟨h0, -⟩ := hs
    change _ = _ at h0
    rw [eval_tmp] at h0
    go_simp
    try go_ints
    rfl
  refine walk_cg [(272, some 0)] (by kernel_rfl) 41 272 true rfl rfl (fun b w' hx hs => by obtain ⟨h0, -⟩ := hs; exact h0) (fun w' v => IsNum w' v (some (((3 : Int) : Rat)))) (fun _ _ _ x h => by first | exact h | exact h.ext x) (fun b w' hx hs => ?_) ?_
  · as_aux_lemma =>
      obtain ⟨h0, -⟩ := hs
      change _ = _ at h0
      rw [eval_tmp] at h0
      go_simp
      refine upon_enter ((int_any (3) _ (by omega) (by omega) (hT.ext hx)).mono fun ed w2 ⟨v, he, hx2, hn⟩ => ⟨v, he, hx2, ?_⟩)
      first | exact hn | simpa using hn
  refine walk_cg [(273, some 0), (272, some 1)] (by kernel_rfl) 41 272 true rfl rfl (fun b w' hx hs => by obtain ⟨-, h1, -⟩ := hs; exact h1) (fun w' v => IsNum w' v (some ((((3 : Int) : Rat) * p2 (-1076))))) (fun _ _ _ x h => by first | exact h | exact h.ext x) (fun b w' hx hs => ?_) ?_
  · as_aux_lemma =>
      obtain ⟨h0, h1, -⟩ := hs
      change _ = _ at h1
      rw [eval_tmp] at h0 h1
      go_simp
      refine upon_enter ((shift_any (-1076) _ (hT.ext hx) (show IsNum _ _ (some (((3 : Int) : Rat))) from by rw [← eval_tmp] at *; exact h0)).mono fun ed w2 ⟨v, he, hx2, hn⟩ => ⟨v, he, hx2, ?_⟩)
      rw [shiftO_sz (n := 64) (m := 1077) ((show Sz 64 (((3 : Int) : Rat)) from (int_sz (n := 3) (by omega) (by omega)))) (by omega) (by omega) (by omega)] at hn
      first | exact hn | simpa using hn
  refine walk_cg [(274, some 0), (272, some 2)] (by kernel_rfl) 41 272 true rfl rfl (fun b w' hx hs => by obtain ⟨-, h1, -⟩ := hs; exact h1) (fun _ v => v = .float .f64 1) (fun _ _ _ x h => by first | exact h | exact h.ext x) (fun b w' hx hs => ?_) ?_
  · as_aux_lemma =>
      obtain ⟨h0, h1, -⟩ := hs
      change _ = _ at h1
      rw [eval_tmp] at h0 h1
      go_simp
      refine upon_enter ((float_any _ (show IsNum _ _ (some ((((3 : Int) : Rat) * p2 (-1076)))) from by rw [← eval_tmp] at *; exact h0)).mono fun ed w2 ⟨z, he, hx2, hr⟩ => ⟨_, he, hx2, ?_⟩)
      have hval : Rn ((((3 : Int) : Rat) * p2 (-1076))) 1 := rn_1076
      rw [rn_same hr hval (by omega)]
  refine walk_qg [(275, some 0), (272, some 3)] (by kernel_rfl) 41 272 true rfl rfl (fun b w' hx hs => by obtain ⟨-, h1, -⟩ := hs; exact h1) ?_
  apply Exists.intro
  refine ⟨fun b w' hx hs => ?_, ?_⟩
  · obtain ⟨h0, h1, -⟩ := hs
    change _ = _ at h0
    change _ = _ at h1
    rw [eval_tmp] at h0 h1
    go_simp
    try go_ints
    rfl
  refine walk_q [(272, some 4), (276, some 0)] (by kernel_rfl) rfl ?_
  apply Exists.intro
  refine ⟨fun b w' hx hs => ?_, ?_⟩
  · obtain ⟨h0, h1, -⟩ := hs
    change _ = _ at h0
    change _ = _ at h1
    rw [eval_tmp] at h0 h1
    go_simp
    try go_ints
    rfl
  refine walk_q [(277, some 0)] (by kernel_rfl) rfl ?_
  apply Exists.intro
  refine ⟨fun b w' hx hs => ?_, ?_⟩
  · obtain ⟨h0, -⟩ := hs
    change _ = _ at h0
    rw [eval_tmp] at h0
    go_simp
    try go_ints
    rfl
  refine walk_qg [(1, none), (278, some 0)] (by kernel_rfl) 47 278 true rfl rfl (fun b w' hx hs => by obtain ⟨-, h1, -⟩ := hs; exact h1) ?_
  apply Exists.intro
  refine ⟨fun b w' hx hs => ?_, ?_⟩
  · obtain ⟨h0, h1, -⟩ := hs
    change _ = _ at h0
    change _ = _ at h1
    rw [eval_tmp] at h0 h1
    have hx_B1 := B1.ext hx
    have kB1_0 := hx_B1.cell 0 rfl
    have kB1_1 := hx_B1.cell 1 rfl
    have kB1_2 := hx_B1.cell 2 rfl
    have kB1_3 := hx_B1.cell 3 rfl
    have hx_B3 := B3.ext hx
    have kB3_0 := hx_B3.cell 0 rfl
    have kB3_1 := hx_B3.cell 1 rfl
    have kB3_2 := hx_B3.cell 2 rfl
    have kB3_3 := hx_B3.cell 3 rfl
    have hx_B6 := B6.ext hx
    have kB6_0 := hx_B6.cell 0 rfl
    have kB6_1 := hx_B6.cell 1 rfl
    have kB6_2 := hx_B6.cell 2 rfl
    have kB6_3 := hx_B6.cell 3 rfl
    go_simp
    try go_ints
    rfl
  refine walk_cg [(279, some 0), (278, some 1)] (by kernel_rfl) 47 278 true rfl rfl (fun b w' hx hs => by obtain ⟨-, h1, -⟩ := hs; exact h1) (fun w' v => IsNum w' v (some ((((1 : Int) : Rat) * p2 (-1075))))) (fun _ _ _ x h => by first | exact h | exact h.ext x) (fun b w' hx hs => ?_) ?_
  · as_aux_lemma =>
      obtain ⟨h0, h1, -⟩ := hs
      change _ = _ at h0
      change _ = _ at h1
      rw [eval_tmp] at h0 h1
      go_simp
      refine upon_enter ((shift_any (-1075) _ (hT.ext hx) (n1.ext hx)).mono fun ed w2 ⟨v, he, hx2, hn⟩ => ⟨v, he, hx2, ?_⟩)
      rw [shiftO_sz (n := 64) (m := 1076) (one_sz) (by omega) (by omega) (by omega)] at hn
      first | exact hn | simpa using hn
  refine walk_qg [(3, none), (278, some 2)] (by kernel_rfl) 47 278 true rfl rfl (fun b w' hx hs => by obtain ⟨-, h1, -⟩ := hs; exact h1) ?_
  apply Exists.intro
  refine ⟨fun b w' hx hs => ?_, ?_⟩
  · obtain ⟨h0, h1, -⟩ := hs
    change _ = _ at h0
    change _ = _ at h1
    rw [eval_tmp] at h0 h1
    have hx_B1 := B1.ext hx
    have kB1_0 := hx_B1.cell 0 rfl
    have kB1_1 := hx_B1.cell 1 rfl
    have kB1_2 := hx_B1.cell 2 rfl
    have kB1_3 := hx_B1.cell 3 rfl
    have hx_B3 := B3.ext hx
    have kB3_0 := hx_B3.cell 0 rfl
    have kB3_1 := hx_B3.cell 1 rfl
    have kB3_2 := hx_B3.cell 2 rfl
    have kB3_3 := hx_B3.cell 3 rfl
    have hx_B6 := B6.ext hx
    have kB6_0 := hx_B6.cell 0 rfl
    have kB6_1 := hx_B6.cell 1 rfl
    have kB6_2 := hx_B6.cell 2 rfl
    have kB6_3 := hx_B6.cell 3 rfl
    go_simp
    try go_ints
    rfl
  refine walk_cg [(280, some 1), (281, some 0), (278, some 3)] (by kernel_rfl) 47 278 true rfl rfl (fun b w' hx hs => by obtain ⟨-, -, h2, -⟩ := hs; exact h2) (fun w' v => IsNum w' v (some (p2 (-1075) + p2 (-65536)))) (fun _ _ _ x h => by first | exact h | exact h.ext x) (fun b w' hx hs => ?_) ?_
  · as_aux_lemma =>
      obtain ⟨h0, h1, h2, -⟩ := hs
      change _ = _ at h1
      change _ = _ at h2
      rw [eval_tmp] at h0 h1 h2
      go_simp
      refine upon_enter ((add_any _ (hT.ext hx) (show IsNum _ _ (some ((((1 : Int) : Rat) * p2 (-1075)))) from by rw [← eval_tmp] at *; exact h0) (n3.ext hx)).mono fun ed w2 ⟨v, he, hx2, hn⟩ => ⟨v, he, hx2, ?_⟩)
      have hval : addO (some ((((1 : Int) : Rat) * p2 (-1075)))) (some (p2 (-65536))) = some (p2 (-1075) + p2 (-65536)) := add_1075
      rw [hval] at hn
      first | exact hn | simpa using hn
  refine walk_cg [(282, some 0), (278, some 4)] (by kernel_rfl) 47 278 true rfl rfl (fun b w' hx hs => by obtain ⟨-, h1, -⟩ := hs; exact h1) (fun _ v => v = .float .f64 1) (fun _ _ _ x h => by first | exact h | exact h.ext x) (fun b w' hx hs => ?_) ?_
  · as_aux_lemma =>
      obtain ⟨h0, h1, -⟩ := hs
      change _ = _ at h1
      rw [eval_tmp] at h0 h1
      go_simp
      refine upon_enter ((float_any _ (show IsNum _ _ (some (p2 (-1075) + p2 (-65536))) from by rw [← eval_tmp] at *; exact h0)).mono fun ed w2 ⟨z, he, hx2, hr⟩ => ⟨_, he, hx2, ?_⟩)
      have hval : Rn (p2 (-1075) + p2 (-65536)) 1 := rn_1075l
      rw [rn_same hr hval (by omega)]
  refine walk_qg [(283, some 0), (278, some 5)] (by kernel_rfl) 47 278 true rfl rfl (fun b w' hx hs => by obtain ⟨-, h1, -⟩ := hs; exact h1) ?_
  apply Exists.intro
  refine ⟨fun b w' hx hs => ?_, ?_⟩
  · obtain ⟨h0, h1, -⟩ := hs
    change _ = _ at h0
    change _ = _ at h1
    rw [eval_tmp] at h0 h1
    go_simp
    try go_ints
    rfl
  refine walk_q [(278, some 6), (284, some 0)] (by kernel_rfl) rfl ?_
  apply Exists.intro
  refine ⟨fun b w' hx hs => ?_, ?_⟩
  · obtain ⟨h0, h1, -⟩ := hs
    change _ = _ at h0
    change _ = _ at h1
    rw [eval_tmp] at h0 h1
    go_simp
    try go_ints
    rfl
  refine walk_q [(285, some 0)] (by kernel_rfl) rfl ?_
  apply Exists.intro
  refine ⟨fun b w' hx hs => ?_, ?_⟩
  · obtain ⟨h0, -⟩ := hs
    change _ = _ at h0
    rw [eval_tmp] at h0
    go_simp
    try go_ints
    rfl
  refine walk_qg [(1, none), (286, some 0)] (by kernel_rfl) 55 286 true rfl rfl (fun b w' hx hs => by obtain ⟨-, h1, -⟩ := hs; exact h1) ?_
  apply Exists.intro
  refine ⟨fun b w' hx hs => ?_, ?_⟩
  · obtain ⟨h0, h1, -⟩ := hs
    change _ = _ at h0
    change _ = _ at h1
    rw [eval_tmp] at h0 h1
    have hx_B1 := B1.ext hx
    have kB1_0 := hx_B1.cell 0 rfl
    have kB1_1 := hx_B1.cell 1 rfl
    have kB1_2 := hx_B1.cell 2 rfl
    have kB1_3 := hx_B1.cell 3 rfl
    have hx_B3 := B3.ext hx
    have kB3_0 := hx_B3.cell 0 rfl
    have kB3_1 := hx_B3.cell 1 rfl
    have kB3_2 := hx_B3.cell 2 rfl
    have kB3_3 := hx_B3.cell 3 rfl
    have hx_B6 := B6.ext hx
    have kB6_0 := hx_B6.cell 0 rfl
    have kB6_1 := hx_B6.cell 1 rfl
    have kB6_2 := hx_B6.cell 2 rfl
    have kB6_3 := hx_B6.cell 3 rfl
    go_simp
    try go_ints
    rfl
  refine walk_cg [(287, some 0), (286, some 1)] (by kernel_rfl) 55 286 true rfl rfl (fun b w' hx hs => by obtain ⟨-, h1, -⟩ := hs; exact h1) (fun w' v => IsNum w' v (some ((((1 : Int) : Rat) * p2 (1024))))) (fun _ _ _ x h => by first | exact h | exact h.ext x) (fun b w' hx hs => ?_) ?_
  · as_aux_lemma =>
      obtain ⟨h0, h1, -⟩ := hs
      change _ = _ at h0
      change _ = _ at h1
      rw [eval_tmp] at h0 h1
      go_simp
      refine upon_enter ((shift_any (1024) _ (hT.ext hx) (n1.ext hx)).mono fun ed w2 ⟨v, he, hx2, hn⟩ => ⟨v, he, hx2, ?_⟩)
      rw [shiftO_sz (n := 64) (m := 1025) (one_sz) (by omega) (by omega) (by omega)] at hn
      first | exact hn | simpa using hn
  refine walk_qg [(1, none), (286, some 2)] (by kernel_rfl) 55 286 true rfl rfl (fun b w' hx hs => by obtain ⟨-, h1, -⟩ := hs; exact h1) ?_
  apply Exists.intro
  refine ⟨fun b w' hx hs => ?_, ?_⟩
  · obtain ⟨h0, h1, -⟩ := hs
    change _ = _ at h0
    change _ = _ at h1
    rw [eval_tmp] at h0 h1
    have hx_B1 := B1.ext hx
    have kB1_0 := hx_B1.cell 0 rfl
    have kB1_1 := hx_B1.cell 1 rfl
    have kB1_2 := hx_B1.cell 2 rfl
    have kB1_3 := hx_B1.cell 3 rfl
    have hx_B3 := B3.ext hx
    have kB3_0 := hx_B3.cell 0 rfl
    have kB3_1 := hx_B3.cell 1 rfl
    have kB3_2 := hx_B3.cell 2 rfl
    have kB3_3 := hx_B3.cell 3 rfl
    have hx_B6 := B6.ext hx
    have kB6_0 := hx_B6.cell 0 rfl
    have kB6_1 := hx_B6.cell 1 rfl
    have kB6_2 := hx_B6.cell 2 rfl
    have kB6_3 := hx_B6.cell 3 rfl
    go_simp
    try go_ints
    rfl
  refine walk_cg [(289, some 0), (286, some 3)] (by kernel_rfl) 55 286 true rfl rfl (fun b w' hx hs => by obtain ⟨-, h1, -⟩ := hs; exact h1) (fun w' v => IsNum w' v (some ((((1 : Int) : Rat) * p2 (971))))) (fun _ _ _ x h => by first | exact h | exact h.ext x) (fun b w' hx hs => ?_) ?_
  · as_aux_lemma =>
      obtain ⟨h0, h1, -⟩ := hs
      change _ = _ at h0
      change _ = _ at h1
      rw [eval_tmp] at h0 h1
      go_simp
      refine upon_enter ((shift_any (971) _ (hT.ext hx) (n1.ext hx)).mono fun ed w2 ⟨v, he, hx2, hn⟩ => ⟨v, he, hx2, ?_⟩)
      rw [shiftO_sz (n := 64) (m := 972) (one_sz) (by omega) (by omega) (by omega)] at hn
      first | exact hn | simpa using hn
  refine walk_cg [(288, some 2), (290, some 0), (286, some 4)] (by kernel_rfl) 55 286 true rfl rfl (fun b w' hx hs => by obtain ⟨-, -, h2, -⟩ := hs; exact h2) (fun w' v => IsNum w' v (some (((((1 : Int) : Rat) * p2 (1024)) - (((1 : Int) : Rat) * p2 (971)))))) (fun _ _ _ x h => by first | exact h | exact h.ext x) (fun b w' hx hs => ?_) ?_
  · as_aux_lemma =>
      obtain ⟨h0, h1, h2, -⟩ := hs
      change _ = _ at h2
      rw [eval_tmp] at h0 h1 h2
      go_simp
      refine upon_enter ((sub_any _ (hT.ext hx) (show IsNum _ _ (some ((((1 : Int) : Rat) * p2 (1024)))) from by rw [← eval_tmp] at *; exact h0) (show IsNum _ _ (some ((((1 : Int) : Rat) * p2 (971)))) from by rw [← eval_tmp] at *; exact h1)).mono fun ed w2 ⟨v, he, hx2, hn⟩ => ⟨v, he, hx2, ?_⟩)
      rw [subO_sz (n := 1089) ((show Sz 1089 ((((1 : Int) : Rat) * p2 (1024))) from ((Sz.shift (m := 1025) (one_sz) (by omega) (by omega)).mono (by omega)))) (((show Sz 1036 ((((1 : Int) : Rat) * p2 (971))) from ((Sz.shift (m := 972) (one_sz) (by omega) (by omega)).mono (by omega)))).mono (by omega)) (by omega)] at hn
      first | exact hn | simpa using hn
  refine walk_cg [(291, some 0), (286, some 5)] (by kernel_rfl) 55 286 true rfl rfl (fun b w' hx hs => by obtain ⟨-, h1, -⟩ := hs; exact h1) (fun _ v => v = .float .f64 9218868437227405311) (fun _ _ _ x h => by first | exact h | exact h.ext x) (fun b w' hx hs => ?_) ?_
  · as_aux_lemma =>
      obtain ⟨h0, h1, -⟩ := hs
      change _ = _ at h1
      rw [eval_tmp] at h0 h1
      go_simp
      refine upon_enter ((float_any _ (show IsNum _ _ (some (((((1 : Int) : Rat) * p2 (1024)) - (((1 : Int) : Rat) * p2 (971))))) from by rw [← eval_tmp] at *; exact h0)).mono fun ed w2 ⟨z, he, hx2, hr⟩ => ⟨_, he, hx2, ?_⟩)
      have hval : Rn (((((1 : Int) : Rat) * p2 (1024)) - (((1 : Int) : Rat) * p2 (971)))) 9218868437227405311 := rn_max
      rw [rn_same hr hval (by omega)]
  refine walk_qg [(292, some 0), (286, some 6)] (by kernel_rfl) 55 286 true rfl rfl (fun b w' hx hs => by obtain ⟨-, h1, -⟩ := hs; exact h1) ?_
  apply Exists.intro
  refine ⟨fun b w' hx hs => ?_, ?_⟩
  · obtain ⟨h0, h1, -⟩ := hs
    change _ = _ at h0
    change _ = _ at h1
    rw [eval_tmp] at h0 h1
    go_simp
    try go_ints
    rfl
  refine walk_q [(286, some 7), (293, some 0)] (by kernel_rfl) rfl ?_
  apply Exists.intro
  refine ⟨fun b w' hx hs => ?_, ?_⟩
  · obtain ⟨h0, h1, -⟩ := hs
    change _ = _ at h0
    change _ = _ at h1
    rw [eval_tmp] at h0 h1
    go_simp
    try go_ints
    rfl
  refine walk_q [(294, some 0)] (by kernel_rfl) rfl ?_
  apply Exists.intro
  refine ⟨fun b w' hx hs => ?_, ?_⟩
  · obtain ⟨h0, -⟩ := hs
    change _ = _ at h0
    rw [eval_tmp] at h0
    go_simp
    try go_ints
    rfl
  refine walk_qg [(1, none), (295, some 0)] (by kernel_rfl) 64 295 true rfl rfl (fun b w' hx hs => by obtain ⟨-, h1, -⟩ := hs; exact h1) ?_
  apply Exists.intro
  refine ⟨fun b w' hx hs => ?_, ?_⟩
  · obtain ⟨h0, h1, -⟩ := hs
    change _ = _ at h0
    change _ = _ at h1
    rw [eval_tmp] at h0 h1
    have hx_B1 := B1.ext hx
    have kB1_0 := hx_B1.cell 0 rfl
    have kB1_1 := hx_B1.cell 1 rfl
    have kB1_2 := hx_B1.cell 2 rfl
    have kB1_3 := hx_B1.cell 3 rfl
    have hx_B3 := B3.ext hx
    have kB3_0 := hx_B3.cell 0 rfl
    have kB3_1 := hx_B3.cell 1 rfl
    have kB3_2 := hx_B3.cell 2 rfl
    have kB3_3 := hx_B3.cell 3 rfl
    have hx_B6 := B6.ext hx
    have kB6_0 := hx_B6.cell 0 rfl
    have kB6_1 := hx_B6.cell 1 rfl
    have kB6_2 := hx_B6.cell 2 rfl
    have kB6_3 := hx_B6.cell 3 rfl
    go_simp
    try go_ints
    rfl
  refine walk_cg [(296, some 0), (295, some 1)] (by kernel_rfl) 64 295 true rfl rfl (fun b w' hx hs => by obtain ⟨-, h1, -⟩ := hs; exact h1) (fun w' v => IsNum w' v (some ((((1 : Int) : Rat) * p2 (1024))))) (fun _ _ _ x h => by first | exact h | exact h.ext x) (fun b w' hx hs => ?_) ?_
  · as_aux_lemma =>
      obtain ⟨h0, h1, -⟩ := hs
      change _ = _ at h0
      change _ = _ at h1
      rw [eval_tmp] at h0 h1
      go_simp
      refine upon_enter ((shift_any (1024) _ (hT.ext hx) (n1.ext hx)).mono fun ed w2 ⟨v, he, hx2, hn⟩ => ⟨v, he, hx2, ?_⟩)
      rw [shiftO_sz (n := 64) (m := 1025) (one_sz) (by omega) (by omega) (by omega)] at hn
      first | exact hn | simpa using hn
  refine walk_qg [(1, none), (295, some 2)] (by kernel_rfl) 64 295 true rfl rfl (fun b w' hx hs => by obtain ⟨-, h1, -⟩ := hs; exact h1) ?_
  apply Exists.intro
  refine ⟨fun b w' hx hs => ?_, ?_⟩
  · obtain ⟨h0, h1, -⟩ := hs
    change _ = _ at h0
    change _ = _ at h1
    rw [eval_tmp] at h0 h1
    have hx_B1 := B1.ext hx
    have kB1_0 := hx_B1.cell 0 rfl
    have kB1_1 := hx_B1.cell 1 rfl
    have kB1_2 := hx_B1.cell 2 rfl
    have kB1_3 := hx_B1.cell 3 rfl
    have hx_B3 := B3.ext hx
    have kB3_0 := hx_B3.cell 0 rfl
    have kB3_1 := hx_B3.cell 1 rfl
    have kB3_2 := hx_B3.cell 2 rfl
    have kB3_3 := hx_B3.cell 3 rfl
    have hx_B6 := B6.ext hx
    have kB6_0 := hx_B6.cell 0 rfl
    have kB6_1 := hx_B6.cell 1 rfl
    have kB6_2 := hx_B6.cell 2 rfl
    have kB6_3 := hx_B6.cell 3 rfl
    go_simp
    try go_ints
    rfl
  refine walk_cg [(298, some 0), (295, some 3)] (by kernel_rfl) 64 295 true rfl rfl (fun b w' hx hs => by obtain ⟨-, h1, -⟩ := hs; exact h1) (fun w' v => IsNum w' v (some ((((1 : Int) : Rat) * p2 (970))))) (fun _ _ _ x h => by first | exact h | exact h.ext x) (fun b w' hx hs => ?_) ?_
  · as_aux_lemma =>
      obtain ⟨h0, h1, -⟩ := hs
      change _ = _ at h0
      change _ = _ at h1
      rw [eval_tmp] at h0 h1
      go_simp
      refine upon_enter ((shift_any (970) _ (hT.ext hx) (n1.ext hx)).mono fun ed w2 ⟨v, he, hx2, hn⟩ => ⟨v, he, hx2, ?_⟩)
      rw [shiftO_sz (n := 64) (m := 971) (one_sz) (by omega) (by omega) (by omega)] at hn
      first | exact hn | simpa using hn
  refine walk_cg [(297, some 2), (299, some 0), (295, some 4)] (by kernel_rfl) 64 295 true rfl rfl (fun b w' hx hs => by obtain ⟨-, -, h2, -⟩ := hs; exact h2) (fun w' v => IsNum w' v (some (((((1 : Int) : Rat) * p2 (1024)) - (((1 : Int) : Rat) * p2 (970)))))) (fun _ _ _ x h => by first | exact h | exact h.ext x) (fun b w' hx hs => ?_) ?_
  · as_aux_lemma =>
      obtain ⟨h0, h1, h2, -⟩ := hs
      change _ = _ at h2
      rw [eval_tmp] at h0 h1 h2
      go_simp
      refine upon_enter ((sub_any _ (hT.ext hx) (show IsNum _ _ (some ((((1 : Int) : Rat) * p2 (1024)))) from by rw [← eval_tmp] at *; exact h0) (show IsNum _ _ (some ((((1 : Int) : Rat) * p2 (970)))) from by rw [← eval_tmp] at *; exact h1)).mono fun ed w2 ⟨v, he, hx2, hn⟩ => ⟨v, he, hx2, ?_⟩)
      rw [subO_sz (n := 1089) ((show Sz 1089 ((((1 : Int) : Rat) * p2 (1024))) from ((Sz.shift (m := 1025) (one_sz) (by omega) (by omega)).mono (by omega)))) (((show Sz 1035 ((((1 : Int) : Rat) * p2 (970))) from ((Sz.shift (m := 971) (one_sz) (by omega) (by omega)).mono (by omega)))).mono (by omega)) (by omega)] at hn
      first | exact hn | simpa using hn
  refine walk_cg [(300, some 0), (295, some 5)] (by kernel_rfl) 64 295 true rfl rfl (fun b w' hx hs => by obtain ⟨-, h1, -⟩ := hs; exact h1) (fun _ v => v = .float .f64 9218868437227405312) (fun _ _ _ x h => by first | exact h | exact h.ext x) (fun b w' hx hs => ?_) ?_
  · as_aux_lemma =>
      obtain ⟨h0, h1, -⟩ := hs
      change _ = _ at h1
      rw [eval_tmp] at h0 h1
      go_simp
      refine upon_enter ((float_any _ (show IsNum _ _ (some (((((1 : Int) : Rat) * p2 (1024)) - (((1 : Int) : Rat) * p2 (970))))) from by rw [← eval_tmp] at *; exact h0)).mono fun ed w2 ⟨z, he, hx2, hr⟩ => ⟨_, he, hx2, ?_⟩)
      have hval : Rn (((((1 : Int) : Rat) * p2 (1024)) - (((1 : Int) : Rat) * p2 (970)))) 9218868437227405312 := rn_inf
      rw [rn_same hr hval (by omega)]
  refine walk_cg [(301, some 0), (295, some 6)] (by kernel_rfl) 64 295 true rfl rfl (fun b w' hx hs => by obtain ⟨-, h1, -⟩ := hs; exact h1) (fun _ v => v = .bool true) (fun _ _ _ x h => by first | exact h | exact h.ext x) (fun b w' hx hs => ?_) ?_
  · as_aux_lemma =>
      obtain ⟨h0, h1, -⟩ := hs
      change _ = _ at h0
      change _ = _ at h1
      rw [eval_tmp] at h0 h1
      go_simp
      exact upon_enter ((isinf_pos _).mono fun ed w2 ⟨he, hw⟩ => ⟨_, he, by rw [hw]; exact Ext.refl _, rfl⟩)
  refine walk_q [(295, some 7), (302, some 0)] (by kernel_rfl) rfl ?_
  apply Exists.intro
  refine ⟨fun b w' hx hs => ?_, ?_⟩
  · obtain ⟨h0, h1, -⟩ := hs
    change _ = _ at h0
    change _ = _ at h1
    rw [eval_tmp] at h0 h1
    go_simp
    try go_ints
    rfl
  refine walk_q [(303, some 0)] (by kernel_rfl) rfl ?_
  apply Exists.intro
  refine ⟨fun b w' hx hs => ?_, ?_⟩
  · obtain ⟨h0, -⟩ := hs
    change _ = _ at h0
    rw [eval_tmp] at h0
    go_simp
    try go_ints
    rfl
  refine walk_qg [(1, none), (304, some 0)] (by kernel_rfl) 73 304 true rfl rfl (fun b w' hx hs => by obtain ⟨-, h1, -⟩ := hs; exact h1) ?_
  apply Exists.intro
  refine ⟨fun b w' hx hs => ?_, ?_⟩
  · obtain ⟨h0, h1, -⟩ := hs
    change _ = _ at h0
    change _ = _ at h1
    rw [eval_tmp] at h0 h1
    have hx_B1 := B1.ext hx
    have kB1_0 := hx_B1.cell 0 rfl
    have kB1_1 := hx_B1.cell 1 rfl
    have kB1_2 := hx_B1.cell 2 rfl
    have kB1_3 := hx_B1.cell 3 rfl
    have hx_B3 := B3.ext hx
    have kB3_0 := hx_B3.cell 0 rfl
    have kB3_1 := hx_B3.cell 1 rfl
    have kB3_2 := hx_B3.cell 2 rfl
    have kB3_3 := hx_B3.cell 3 rfl
    have hx_B6 := B6.ext hx
    have kB6_0 := hx_B6.cell 0 rfl
    have kB6_1 := hx_B6.cell 1 rfl
    have kB6_2 := hx_B6.cell 2 rfl
    have kB6_3 := hx_B6.cell 3 rfl
    go_simp
    try go_ints
    rfl
  refine walk_cg [(305, some 0), (304, some 1)] (by kernel_rfl) 73 304 true rfl rfl (fun b w' hx hs => by obtain ⟨-, h1, -⟩ := hs; exact h1) (fun w' v => IsNum w' v (some ((((1 : Int) : Rat) * p2 (1024))))) (fun _ _ _ x h => by first | exact h | exact h.ext x) (fun b w' hx hs => ?_) ?_
  · as_aux_lemma =>
      obtain ⟨h0, h1, -⟩ := hs
      change _ = _ at h0
      change _ = _ at h1
      rw [eval_tmp] at h0 h1
      go_simp
      refine upon_enter ((shift_any (1024) _ (hT.ext hx) (n1.ext hx)).mono fun ed w2 ⟨v, he, hx2, hn⟩ => ⟨v, he, hx2, ?_⟩)
      rw [shiftO_sz (n := 64) (m := 1025) (one_sz) (by omega) (by omega) (by omega)] at hn
      first | exact hn | simpa using hn
  refine walk_qg [(1, none), (304, some 2)] (by kernel_rfl) 73 304 true rfl rfl (fun b w' hx hs => by obtain ⟨-, h1, -⟩ := hs; exact h1) ?_
  apply Exists.intro
  refine ⟨fun b w' hx hs => ?_, ?_⟩
  · obtain ⟨h0, h1, -⟩ := hs
    change _ = _ at h0
    change _ = _ at h1
    rw [eval_tmp] at h0 h1
    have hx_B1 := B1.ext hx
    have kB1_0 := hx_B1.cell 0 rfl
    have kB1_1 := hx_B1.cell 1 rfl
    have kB1_2 := hx_B1.cell 2 rfl
    have kB1_3 := hx_B1.cell 3 rfl
    have hx_B3 := B3.ext hx
    have kB3_0 := hx_B3.cell 0 rfl
    have kB3_1 := hx_B3.cell 1 rfl
    have kB3_2 := hx_B3.cell 2 rfl
    have kB3_3 := hx_B3.cell 3 rfl
    have hx_B6 := B6.ext hx
    have kB6_0 := hx_B6.cell 0 rfl
    have kB6_1 := hx_B6.cell 1 rfl
    have kB6_2 := hx_B6.cell 2 rfl
    have kB6_3 := hx_B6.cell 3 rfl
    go_simp
    try go_ints
    rfl
  refine walk_cg [(307, some 0), (304, some 3)] (by kernel_rfl) 73 304 true rfl rfl (fun b w' hx hs => by obtain ⟨-, h1, -⟩ := hs; exact h1) (fun w' v => IsNum w' v (some ((((1 : Int) : Rat) * p2 (970))))) (fun _ _ _ x h => by first | exact h | exact h.ext x) (fun b w' hx hs => ?_) ?_
  · as_aux_lemma =>
      obtain ⟨h0, h1, -⟩ := hs
      change _ = _ at h0
      change _ = _ at h1
      rw [eval_tmp] at h0 h1
      go_simp
      refine upon_enter ((shift_any (970) _ (hT.ext hx) (n1.ext hx)).mono fun ed w2 ⟨v, he, hx2, hn⟩ => ⟨v, he, hx2, ?_⟩)
      rw [shiftO_sz (n := 64) (m := 971) (one_sz) (by omega) (by omega) (by omega)] at hn
      first | exact hn | simpa using hn
  refine walk_cg [(306, some 2), (308, some 0), (304, some 4)] (by kernel_rfl) 73 304 true rfl rfl (fun b w' hx hs => by obtain ⟨-, -, h2, -⟩ := hs; exact h2) (fun w' v => IsNum w' v (some (((((1 : Int) : Rat) * p2 (1024)) - (((1 : Int) : Rat) * p2 (970)))))) (fun _ _ _ x h => by first | exact h | exact h.ext x) (fun b w' hx hs => ?_) ?_
  · as_aux_lemma =>
      obtain ⟨h0, h1, h2, -⟩ := hs
      change _ = _ at h2
      rw [eval_tmp] at h0 h1 h2
      go_simp
      refine upon_enter ((sub_any _ (hT.ext hx) (show IsNum _ _ (some ((((1 : Int) : Rat) * p2 (1024)))) from by rw [← eval_tmp] at *; exact h0) (show IsNum _ _ (some ((((1 : Int) : Rat) * p2 (970)))) from by rw [← eval_tmp] at *; exact h1)).mono fun ed w2 ⟨v, he, hx2, hn⟩ => ⟨v, he, hx2, ?_⟩)
      rw [subO_sz (n := 1089) ((show Sz 1089 ((((1 : Int) : Rat) * p2 (1024))) from ((Sz.shift (m := 1025) (one_sz) (by omega) (by omega)).mono (by omega)))) (((show Sz 1035 ((((1 : Int) : Rat) * p2 (970))) from ((Sz.shift (m := 971) (one_sz) (by omega) (by omega)).mono (by omega)))).mono (by omega)) (by omega)] at hn
      first | exact hn | simpa using hn
  refine walk_qg [(3, none), (304, some 5)] (by kernel_rfl) 73 304 true rfl rfl (fun b w' hx hs => by obtain ⟨-, h1, -⟩ := hs; exact h1) ?_
  apply Exists.intro
  refine ⟨fun b w' hx hs => ?_, ?_⟩
  · obtain ⟨h0, h1, -⟩ := hs
    change _ = _ at h0
    change _ = _ at h1
    rw [eval_tmp] at h0 h1
    have hx_B1 := B1.ext hx
    have kB1_0 := hx_B1.cell 0 rfl
    have kB1_1 := hx_B1.cell 1 rfl
    have kB1_2 := hx_B1.cell 2 rfl
    have kB1_3 := hx_B1.cell 3 rfl
    have hx_B3 := B3.ext hx
    have kB3_0 := hx_B3.cell 0 rfl
    have kB3_1 := hx_B3.cell 1 rfl
    have kB3_2 := hx_B3.cell 2 rfl
    have kB3_3 := hx_B3.cell 3 rfl
    have hx_B6 := B6.ext hx
    have kB6_0 := hx_B6.cell 0 rfl
    have kB6_1 := hx_B6.cell 1 rfl
    have kB6_2 := hx_B6.cell 2 rfl
    have kB6_3 := hx_B6.cell 3 rfl
    go_simp
    try go_ints
    rfl
  refine walk_cg [(309, some 1), (310, some 0), (304, some 6)] (by kernel_rfl) 73 304 true rfl rfl (fun b w' hx hs => by obtain ⟨-, -, h2, -⟩ := hs; exact h2) (fun w' v => IsNum w' v (some (p2 1024 - p2 970 - p2 (-65536)))) (fun _ _ _ x h => by first | exact h | exact h.ext x) (fun b w' hx hs => ?_) ?_
  · as_aux_lemma =>
      obtain ⟨h0, h1, h2, -⟩ := hs
      change _ = _ at h1
      change _ = _ at h2
      rw [eval_tmp] at h0 h1 h2
      go_simp
      refine upon_enter ((sub_any _ (hT.ext hx) (show IsNum _ _ (some (((((1 : Int) : Rat) * p2 (1024)) - (((1 : Int) : Rat) * p2 (970))))) from by rw [← eval_tmp] at *; exact h0) (n3.ext hx)).mono fun ed w2 ⟨v, he, hx2, hn⟩ => ⟨v, he, hx2, ?_⟩)
      have hval : subO (some (((((1 : Int) : Rat) * p2 (1024)) - (((1 : Int) : Rat) * p2 (970))))) (some (p2 (-65536))) = some (p2 1024 - p2 970 - p2 (-65536)) := sub_970
      rw [hval] at hn
      first | exact hn | simpa using hn
  refine walk_cg [(311, some 0), (304, some 7)] (by kernel_rfl) 73 304 true rfl rfl (fun b w' hx hs => by obtain ⟨-, h1, -⟩ := hs; exact h1) (fun _ v => v = .float .f64 9218868437227405311) (fun _ _ _ x h => by first | exact h | exact h.ext x) (fun b w' hx hs => ?_) ?_
  · as_aux_lemma =>
      obtain ⟨h0, h1, -⟩ := hs
      change _ = _ at h1
      rw [eval_tmp] at h0 h1
      go_simp
      refine upon_enter ((float_any _ (show IsNum _ _ (some (p2 1024 - p2 970 - p2 (-65536))) from by rw [← eval_tmp] at *; exact h0)).mono fun ed w2 ⟨z, he, hx2, hr⟩ => ⟨_, he, hx2, ?_⟩)
      have hval : Rn (p2 1024 - p2 970 - p2 (-65536)) 9218868437227405311 := rn_970
      rw [rn_same hr hval (by omega)]
  refine walk_qg [(312, some 0), (304, some 8)] (by kernel_rfl) 73 304 true rfl rfl (fun b w' hx hs => by obtain ⟨-, h1, -⟩ := hs; exact h1) ?_
  apply Exists.intro
  refine ⟨fun b w' hx hs => ?_, ?_⟩
  · obtain ⟨h0, h1, -⟩ := hs
    change _ = _ at h0
    change _ = _ at h1
    rw [eval_tmp] at h0 h1
    go_simp
    try go_ints
    rfl
  refine walk_q [(304, some 9), (313, some 0)] (by kernel_rfl) rfl ?_
  apply Exists.intro
  refine ⟨fun b w' hx hs => ?_, ?_⟩
  · obtain ⟨h0, h1, -⟩ := hs
    change _ = _ at h0
    change _ = _ at h1
    rw [eval_tmp] at h0 h1
    go_simp
    try go_ints
    rfl
  refine walk_q [(314, some 0)] (by kernel_rfl) rfl ?_
  apply Exists.intro
  refine ⟨fun b w' hx hs => ?_, ?_⟩
  · obtain ⟨h0, -⟩ := hs
    change _ = _ at h0
    rw [eval_tmp] at h0
    go_simp
    try go_ints
    rfl
  refine walk_end ?_
  intro w12 hx12
  rintro _ rfl
  rintro _ rfl
  rintro _ rfl
  rintro _ rfl
  intro v311 hv311
  rintro _ rfl
  intro v309 hv309
  intro v308 hv308
  rintro _ rfl
  intro v306 hv306
  rintro _ rfl
  rintro _ rfl
  rintro _ rfl
  rintro _ rfl
  rintro _ rfl
  intro v300 hv300
  intro v299 hv299
  rintro _ rfl
  intro v297 hv297
  rintro _ rfl
  rintro _ rfl
  rintro _ rfl
  rintro _ rfl
  rintro _ rfl
  intro v291 hv291
  intro v290 hv290
  rintro _ rfl
  intro v288 hv288
  rintro _ rfl
  rintro _ rfl
  rintro _ rfl
  rintro _ rfl
  rintro _ rfl
  intro v282 hv282
  rintro _ rfl
  intro v280 hv280
  rintro _ rfl
  rintro _ rfl
  rintro _ rfl
  rintro _ rfl
  rintro _ rfl
  intro v274 hv274
  intro v273 hv273
  rintro _ rfl
  rintro _ rfl
  rintro _ rfl
  intro v269 hv269
  intro v268 hv268
  rintro _ rfl
  rintro _ rfl
  rintro _ rfl
  rintro _ rfl
  rintro _ rfl
  intro v262 hv262
  rintro _ rfl
  rintro _ rfl
  rintro _ rfl
  rintro _ rfl
  rintro _ rfl
  intro v256 hv256
  rintro _ rfl
  rintro _ rfl
  rintro _ rfl
  rintro _ rfl
  intro v251 hv251
  intro v250 hv250
  rintro _ rfl
  rintro _ rfl
  rintro _ rfl
  rintro _ rfl
  intro v245 hv245
  intro v244 hv244
  rintro _ rfl
  rintro _ rfl
  rintro _ rfl
  rintro _ rfl
  intro v239 hv239
  intro v238 hv238
  rintro _ rfl
  rintro _ rfl
  rintro _ rfl
  rintro _ rfl
  intro v233 hv233
  rintro _ rfl
  rintro _ rfl
  unfold fin
  simp only [Act.put, List.setIfInBounds_toArray, List.set_cons_succ, List.set_cons_zero]
  go_wp2
  go_ret
  exact ⟨rfl, hx.trans hx12⟩
end Go.Proofs.YthnmjkjllhlcjaaDoor
