/- The walk of law 01's WholeRing; no condition. -/
import Derived.Test.YthnmjkjllhlcjaaDoorWorksW
import Derived.Test.YthnmjkjllhlcjaaDoorLawOf
namespace Go.Proofs.YthnmjkjllhlcjaaDoor
open Go Go.RowKit Go.Steady Go.Tri
set_option maxRecDepth 100000

theorem ofV_ex (x y z : Nat) : ∃ q, ofV x y z = q ∧ Sz 2149 q := ⟨_, rfl, ofV_sz x y z⟩
theorem wrap_sg2 (a b : Rat) : IntKind.i64.wrap (sg a * sg b) = sg a * sg b := by
  rcases sg_cases a with ⟨_, e⟩ | ⟨_, e⟩ | ⟨_, e⟩ <;> rcases sg_cases b with ⟨_, e'⟩ | ⟨_, e'⟩ | ⟨_, e'⟩ <;> rw [e, e'] <;> decide
theorem wrap_sgn (a : Rat) : IntKind.i64.wrap (-sg a) = -sg a := by
  rcases sg_cases a with ⟨_, e⟩ | ⟨_, e⟩ | ⟨_, e⟩ <;> rw [e] <;> decide
theorem sg_swap (a b : Rat) : sg (b - a) = -sg (a - b) := by rw [← sg_neg_eq]; congr 1; grind
theorem shift_back (a : Rat) (r : Int) : sg (a * p2 r * p2 (-r) - a) = 0 := sg_eq0 (by rw [Rat.mul_assoc, p2_mul_neg]; grind)
theorem mul_one_int (a : Rat) : sg (a * ((1 : Int) : Rat) - a) = 0 := sg_eq0 (by rw [show ((1 : Int) : Rat) = 1 from rfl]; grind)
set_option maxHeartbeats 6400000 in
theorem ring_any (x0 x1 x2 x3 x4 x5 x6 x7 x8 : Nat) (k : Int) (w : World) (hT : Tab w) (h0 : x0 < 18446744073709551616) (h1 : x1 < 18446744073709551616) (h2 : x2 < 18446744073709551616) (h3 : x3 < 18446744073709551616) (h4 : x4 < 18446744073709551616) (h5 : x5 < 18446744073709551616) (h6 : x6 < 18446744073709551616) (h7 : x7 < 18446744073709551616) (h8 : x8 < 18446744073709551616) :
    Calls Tryd.prog 3 #[.agg #[.float .f64 x0, .float .f64 x1, .float .f64 x2, .float .f64 x3, .float .f64 x4, .float .f64 x5, .float .f64 x6, .float .f64 x7, .float .f64 x8], .int .i64 k] w fun ed w' => ed = .returned (.bool true) ∧ Ext w w' := by
  have of1 := fun w => of_law x0 x1 x2 w h0 h1 h2
  have of2 := fun w => of_law x3 x4 x5 w h3 h4 h5
  have of3 := fun w => of_law x6 x7 x8 w h6 h7 h8
  have OF1 := Lib.hid of1; have OF2 := Lib.hid of2; have OF3 := Lib.hid of3
  clear of1 of2 of3 h0 h1 h2 h3 h4 h5 h6 h7 h8
  obtain ⟨r, hr, hr1, hr2⟩ : ∃ r : Int, k.tmod 1000 = r ∧ -1000 < r ∧ r < 1000 := ⟨_, rfl, by have := Int.lt_tmod_of_pos k (show (0 : Int) < 1000 by omega); omega, Int.tmod_lt_of_pos k (by omega)⟩
  obtain ⟨qa, hqa, za⟩ := ofV_ex x0 x1 x2
  obtain ⟨qb, hqb, zb⟩ := ofV_ex x3 x4 x5
  obtain ⟨qc, hqc, zc⟩ := ofV_ex x6 x7 x8
  have QA := Lib.hid hqa; have QB := Lib.hid hqb; have QC := Lib.hid hqc; have ZA := Lib.hid za; have ZB := Lib.hid zb; have ZC := Lib.hid zc
  clear hqa hqb hqc za zb zc
  have BF := Box.new w #[.float .f64 x0, .float .f64 x1, .float .f64 x2, .float .f64 x3, .float .f64 x4, .float .f64 x5, .float .f64 x6, .float .f64 x7, .float .f64 x8] 23
  have hx : Ext w (w.alloc (.cells #[.float .f64 x0, .float .f64 x1, .float .f64 x2, .float .f64 x3, .float .f64 x4, .float .f64 x5, .float .f64 x6, .float .f64 x7, .float .f64 x8] 23)) := (Ext.refl _).alloc _
  go_enter Tryd.func3, Tryd.ntmps3
  go_wp2_with fail
  refine (works_any _ (hT.ext hx)).mono ?_
  rintro ed w1 ⟨rfl, hxk⟩
  replace BF := BF.ext hxk
  replace hx := hx.trans hxk
  replace hT := hT.ext hx
  clear hxk
  have BF_c0 := BF.cell 0 rfl; have BF_c1 := BF.cell 1 rfl; have BF_c2 := BF.cell 2 rfl; have BF_c3 := BF.cell 3 rfl; have BF_c4 := BF.cell 4 rfl; have BF_c5 := BF.cell 5 rfl; have BF_c6 := BF.cell 6 rfl; have BF_c7 := BF.cell 7 rfl; have BF_c8 := BF.cell 8 rfl; have BF_f0 := BF.free 0; have BF_f1 := BF.free 1; have BF_f2 := BF.free 2; have BF_f3 := BF.free 3; have BF_f4 := BF.free 4; have BF_f5 := BF.free 5; have BF_f6 := BF.free 6; have BF_f7 := BF.free 7; have BF_f8 := BF.free 8; have BF_lt := BF.lt
  go_wp2_with fail
  clear BF_c0 BF_c1 BF_c2 BF_c3 BF_c4 BF_c5 BF_c6 BF_c7 BF_c8 BF_f0 BF_f1 BF_f2 BF_f3 BF_f4 BF_f5 BF_f6 BF_f7 BF_f8 BF_lt
  refine (OF1.out _ hT).mono ?_
  rintro ed w2 ⟨v2, rfl, hxk, n1⟩
  rw [QA.out] at n1
  replace BF := BF.ext hxk
  replace hx := hx.trans hxk
  replace hT := hT.ext hxk
  clear hxk
  obtain ⟨a1, m1, c1, e1, neg1, non1, rfl, n1⟩ := n1.kept
  have B1 := Box.new w2 #[.slice a1 m1 c1, .int .i64 e1, .bool neg1, .bool non1] 29
  replace BF := BF.alloc (.cells #[.slice a1 m1 c1, .int .i64 e1, .bool neg1, .bool non1] 29)
  have hxa : Ext w2 (w2.alloc (.cells #[.slice a1 m1 c1, .int .i64 e1, .bool neg1, .bool non1] 29)) := (Ext.refl _).alloc _
  replace n1 := n1.ext hxa
  replace hx := hx.trans hxa
  replace hT := hT.ext hxa
  clear hxa
  have BF_c0 := BF.cell 0 rfl; have BF_c1 := BF.cell 1 rfl; have BF_c2 := BF.cell 2 rfl; have BF_c3 := BF.cell 3 rfl; have BF_c4 := BF.cell 4 rfl; have BF_c5 := BF.cell 5 rfl; have BF_c6 := BF.cell 6 rfl; have BF_c7 := BF.cell 7 rfl; have BF_c8 := BF.cell 8 rfl; have BF_f0 := BF.free 0; have BF_f1 := BF.free 1; have BF_f2 := BF.free 2; have BF_f3 := BF.free 3; have BF_f4 := BF.free 4; have BF_f5 := BF.free 5; have BF_f6 := BF.free 6; have BF_f7 := BF.free 7; have BF_f8 := BF.free 8; have BF_lt := BF.lt
  go_wp2_with fail
  clear BF_c0 BF_c1 BF_c2 BF_c3 BF_c4 BF_c5 BF_c6 BF_c7 BF_c8 BF_f0 BF_f1 BF_f2 BF_f3 BF_f4 BF_f5 BF_f6 BF_f7 BF_f8 BF_lt
  refine (OF2.out _ hT).mono ?_
  rintro ed w3 ⟨v3, rfl, hxk, n2⟩
  rw [QB.out] at n2
  replace BF := BF.ext hxk
  replace B1 := B1.ext hxk
  replace n1 := n1.ext hxk
  replace hx := hx.trans hxk
  replace hT := hT.ext hxk
  clear hxk
  obtain ⟨a2, m2, c2, e2, neg2, non2, rfl, n2⟩ := n2.kept
  have B2 := Box.new w3 #[.slice a2 m2 c2, .int .i64 e2, .bool neg2, .bool non2] 29
  replace BF := BF.alloc (.cells #[.slice a2 m2 c2, .int .i64 e2, .bool neg2, .bool non2] 29)
  replace B1 := B1.alloc (.cells #[.slice a2 m2 c2, .int .i64 e2, .bool neg2, .bool non2] 29)
  have hxa : Ext w3 (w3.alloc (.cells #[.slice a2 m2 c2, .int .i64 e2, .bool neg2, .bool non2] 29)) := (Ext.refl _).alloc _
  replace n1 := n1.ext hxa
  replace n2 := n2.ext hxa
  replace hx := hx.trans hxa
  replace hT := hT.ext hxa
  clear hxa
  have BF_c0 := BF.cell 0 rfl; have BF_c1 := BF.cell 1 rfl; have BF_c2 := BF.cell 2 rfl; have BF_c3 := BF.cell 3 rfl; have BF_c4 := BF.cell 4 rfl; have BF_c5 := BF.cell 5 rfl; have BF_c6 := BF.cell 6 rfl; have BF_c7 := BF.cell 7 rfl; have BF_c8 := BF.cell 8 rfl; have BF_f0 := BF.free 0; have BF_f1 := BF.free 1; have BF_f2 := BF.free 2; have BF_f3 := BF.free 3; have BF_f4 := BF.free 4; have BF_f5 := BF.free 5; have BF_f6 := BF.free 6; have BF_f7 := BF.free 7; have BF_f8 := BF.free 8; have BF_lt := BF.lt
  go_wp2_with fail
  clear BF_c0 BF_c1 BF_c2 BF_c3 BF_c4 BF_c5 BF_c6 BF_c7 BF_c8 BF_f0 BF_f1 BF_f2 BF_f3 BF_f4 BF_f5 BF_f6 BF_f7 BF_f8 BF_lt
  refine (OF3.out _ hT).mono ?_
  rintro ed w4 ⟨v4, rfl, hxk, n3⟩
  rw [QC.out] at n3
  replace B1 := B1.ext hxk
  replace B2 := B2.ext hxk
  replace n1 := n1.ext hxk
  replace n2 := n2.ext hxk
  replace hx := hx.trans hxk
  replace hT := hT.ext hxk
  clear hxk BF
  obtain ⟨a3, m3, c3, e3, neg3, non3, rfl, n3⟩ := n3.kept
  have B3 := Box.new w4 #[.slice a3 m3 c3, .int .i64 e3, .bool neg3, .bool non3] 29
  replace B1 := B1.alloc (.cells #[.slice a3 m3 c3, .int .i64 e3, .bool neg3, .bool non3] 29)
  replace B2 := B2.alloc (.cells #[.slice a3 m3 c3, .int .i64 e3, .bool neg3, .bool non3] 29)
  have hxa : Ext w4 (w4.alloc (.cells #[.slice a3 m3 c3, .int .i64 e3, .bool neg3, .bool non3] 29)) := (Ext.refl _).alloc _
  replace n1 := n1.ext hxa
  replace n2 := n2.ext hxa
  replace n3 := n3.ext hxa
  replace hx := hx.trans hxa
  replace hT := hT.ext hxa
  clear hxa
  go_wp2
  clear hr
  refine wp_steady 3 206 (by kernel_rfl) (by as_aux_lemma => kernel_rfl) rfl ?_
  refine walk_q [(5, none)] (by kernel_rfl) rfl ?_
  apply Exists.intro
  refine ⟨fun b w' hx hs => ?_, ?_⟩
  · obtain ⟨h0, -⟩ := hs
    change _ = _ at h0
    rw [eval_tmp] at h0
    have hx_B1 := B1.ext hx
    have kB1_0 := hx_B1.cell 0 rfl
    have kB1_1 := hx_B1.cell 1 rfl
    have kB1_2 := hx_B1.cell 2 rfl
    have kB1_3 := hx_B1.cell 3 rfl
    have hx_B2 := B2.ext hx
    have kB2_0 := hx_B2.cell 0 rfl
    have kB2_1 := hx_B2.cell 1 rfl
    have kB2_2 := hx_B2.cell 2 rfl
    have kB2_3 := hx_B2.cell 3 rfl
    have hx_B3 := B3.ext hx
    have kB3_0 := hx_B3.cell 0 rfl
    have kB3_1 := hx_B3.cell 1 rfl
    have kB3_2 := hx_B3.cell 2 rfl
    have kB3_3 := hx_B3.cell 3 rfl
    go_simp
    try go_ints
    rfl
  refine walk_q [(6, none)] (by kernel_rfl) rfl ?_
  apply Exists.intro
  refine ⟨fun b w' hx hs => ?_, ?_⟩
  · obtain ⟨h0, -⟩ := hs
    change _ = _ at h0
    rw [eval_tmp] at h0
    have hx_B1 := B1.ext hx
    have kB1_0 := hx_B1.cell 0 rfl
    have kB1_1 := hx_B1.cell 1 rfl
    have kB1_2 := hx_B1.cell 2 rfl
    have kB1_3 := hx_B1.cell 3 rfl
    have hx_B2 := B2.ext hx
    have kB2_0 := hx_B2.cell 0 rfl
    have kB2_1 := hx_B2.cell 1 rfl
    have kB2_2 := hx_B2.cell 2 rfl
    have kB2_3 := hx_B2.cell 3 rfl
    have hx_B3 := B3.ext hx
    have kB3_0 := hx_B3.cell 0 rfl
    have kB3_1 := hx_B3.cell 1 rfl
    have kB3_2 := hx_B3.cell 2 rfl
    have kB3_3 := hx_B3.cell 3 rfl
    go_simp
    try go_ints
    rfl
  refine walk_c [(36, some 1), (37, some 0)] (by kernel_rfl) rfl (fun w' v => IsNum w' v (some ((qa + qb)))) (fun _ _ _ x h => by first | exact h | exact h.ext x) (fun b w' hx hs => ?_) ?_
  · as_aux_lemma =>
      obtain ⟨h0, h1, -⟩ := hs
      change _ = _ at h0
      change _ = _ at h1
      rw [eval_tmp] at h0 h1
      go_simp
      refine upon_enter ((add_any _ (hT.ext hx) (n1.ext hx) (n2.ext hx)).mono fun ed w2 ⟨v, he, hx2, hn⟩ => ⟨v, he, hx2, ?_⟩)
      rw [addO_sz (n := 2149) (ZA.out) (ZB.out) (by omega)] at hn
      first | exact hn | simpa using hn
  refine walk_q [(6, none)] (by kernel_rfl) rfl ?_
  apply Exists.intro
  refine ⟨fun b w' hx hs => ?_, ?_⟩
  · obtain ⟨h0, -⟩ := hs
    change _ = _ at h0
    rw [eval_tmp] at h0
    have hx_B1 := B1.ext hx
    have kB1_0 := hx_B1.cell 0 rfl
    have kB1_1 := hx_B1.cell 1 rfl
    have kB1_2 := hx_B1.cell 2 rfl
    have kB1_3 := hx_B1.cell 3 rfl
    have hx_B2 := B2.ext hx
    have kB2_0 := hx_B2.cell 0 rfl
    have kB2_1 := hx_B2.cell 1 rfl
    have kB2_2 := hx_B2.cell 2 rfl
    have kB2_3 := hx_B2.cell 3 rfl
    have hx_B3 := B3.ext hx
    have kB3_0 := hx_B3.cell 0 rfl
    have kB3_1 := hx_B3.cell 1 rfl
    have kB3_2 := hx_B3.cell 2 rfl
    have kB3_3 := hx_B3.cell 3 rfl
    go_simp
    try go_ints
    rfl
  refine walk_q [(5, none)] (by kernel_rfl) rfl ?_
  apply Exists.intro
  refine ⟨fun b w' hx hs => ?_, ?_⟩
  · obtain ⟨h0, -⟩ := hs
    change _ = _ at h0
    rw [eval_tmp] at h0
    have hx_B1 := B1.ext hx
    have kB1_0 := hx_B1.cell 0 rfl
    have kB1_1 := hx_B1.cell 1 rfl
    have kB1_2 := hx_B1.cell 2 rfl
    have kB1_3 := hx_B1.cell 3 rfl
    have hx_B2 := B2.ext hx
    have kB2_0 := hx_B2.cell 0 rfl
    have kB2_1 := hx_B2.cell 1 rfl
    have kB2_2 := hx_B2.cell 2 rfl
    have kB2_3 := hx_B2.cell 3 rfl
    have hx_B3 := B3.ext hx
    have kB3_0 := hx_B3.cell 0 rfl
    have kB3_1 := hx_B3.cell 1 rfl
    have kB3_2 := hx_B3.cell 2 rfl
    have kB3_3 := hx_B3.cell 3 rfl
    go_simp
    try go_ints
    rfl
  refine walk_c [(39, some 1), (40, some 0)] (by kernel_rfl) rfl (fun w' v => IsNum w' v (some ((qb + qa)))) (fun _ _ _ x h => by first | exact h | exact h.ext x) (fun b w' hx hs => ?_) ?_
  · as_aux_lemma =>
      obtain ⟨h0, h1, -⟩ := hs
      change _ = _ at h0
      change _ = _ at h1
      rw [eval_tmp] at h0 h1
      go_simp
      refine upon_enter ((add_any _ (hT.ext hx) (n2.ext hx) (n1.ext hx)).mono fun ed w2 ⟨v, he, hx2, hn⟩ => ⟨v, he, hx2, ?_⟩)
      rw [addO_sz (n := 2149) (ZB.out) (ZA.out) (by omega)] at hn
      first | exact hn | simpa using hn
  refine walk_c [(38, some 3), (41, some 0)] (by kernel_rfl) rfl (fun _ v => v = .int .i64 (0)) (fun _ _ _ x h => by first | exact h | exact h.ext x) (fun b w' hx hs => ?_) ?_
  · as_aux_lemma =>
      obtain ⟨h0, h1, -⟩ := hs
      rw [eval_tmp] at h0 h1
      go_simp
      refine upon_enter ((cmp_num _ (hT.ext hx) (show IsNum _ _ (some ((qa + qb))) from by rw [← eval_tmp] at *; exact h0) (show IsNum _ _ (some ((qb + qa))) from by rw [← eval_tmp] at *; exact h1)).mono fun ed w2 ⟨he, hx2⟩ => ⟨_, he, hx2, ?_⟩)
      rw [cmpO_sz (n := 2150) ((show Sz 2150 ((qa + qb)) from (Sz.add (ZA.out) (ZB.out)))) ((show Sz 2150 ((qb + qa)) from (Sz.add (ZB.out) (ZA.out)))) (by omega)]
      have hval : sg ((qa + qb) - (qb + qa)) = 0 := by first | exact sg_eq0 (by grind) | exact sg_pos (by grind) | exact sg_neg (by grind) | rfl
      rw [hval]
  refine walk_q [(42, some 0)] (by kernel_rfl) rfl ?_
  apply Exists.intro
  refine ⟨fun b w' hx hs => ?_, ?_⟩
  · obtain ⟨h0, -⟩ := hs
    change _ = _ at h0
    rw [eval_tmp] at h0
    go_simp
    try go_ints
    rfl
  refine walk_q [(43, some 0)] (by kernel_rfl) rfl ?_
  apply Exists.intro
  refine ⟨fun b w' hx hs => ?_, ?_⟩
  · obtain ⟨h0, -⟩ := hs
    change _ = _ at h0
    rw [eval_tmp] at h0
    go_simp
    try go_ints
    rfl
  refine walk_qg [(5, none), (44, some 0)] (by kernel_rfl) 8 44 true rfl rfl (fun b w' hx hs => by obtain ⟨-, h1, -⟩ := hs; exact h1) ?_
  apply Exists.intro
  refine ⟨fun b w' hx hs => ?_, ?_⟩
  · obtain ⟨h0, h1, -⟩ := hs
    change _ = _ at h0
    change _ = _ at h1
    rw [eval_tmp] at h0 h1
    have hx_B1 := B1.ext hx
    have kB1_0 := hx_B1.cell 0 rfl
    have kB1_1 := hx_B1.cell 1 rfl
    have kB1_2 := hx_B1.cell 2 rfl
    have kB1_3 := hx_B1.cell 3 rfl
    have hx_B2 := B2.ext hx
    have kB2_0 := hx_B2.cell 0 rfl
    have kB2_1 := hx_B2.cell 1 rfl
    have kB2_2 := hx_B2.cell 2 rfl
    have kB2_3 := hx_B2.cell 3 rfl
    have hx_B3 := B3.ext hx
    have kB3_0 := hx_B3.cell 0 rfl
    have kB3_1 := hx_B3.cell 1 rfl
    have kB3_2 := hx_B3.cell 2 rfl
    have kB3_3 := hx_B3.cell 3 rfl
    go_simp
    try go_ints
    rfl
  refine walk_qg [(6, none), (44, some 1)] (by kernel_rfl) 8 44 true rfl rfl (fun b w' hx hs => by obtain ⟨-, h1, -⟩ := hs; exact h1) ?_
  apply Exists.intro
  refine ⟨fun b w' hx hs => ?_, ?_⟩
  · obtain ⟨h0, h1, -⟩ := hs
    change _ = _ at h0
    change _ = _ at h1
    rw [eval_tmp] at h0 h1
    have hx_B1 := B1.ext hx
    have kB1_0 := hx_B1.cell 0 rfl
    have kB1_1 := hx_B1.cell 1 rfl
    have kB1_2 := hx_B1.cell 2 rfl
    have kB1_3 := hx_B1.cell 3 rfl
    have hx_B2 := B2.ext hx
    have kB2_0 := hx_B2.cell 0 rfl
    have kB2_1 := hx_B2.cell 1 rfl
    have kB2_2 := hx_B2.cell 2 rfl
    have kB2_3 := hx_B2.cell 3 rfl
    have hx_B3 := B3.ext hx
    have kB3_0 := hx_B3.cell 0 rfl
    have kB3_1 := hx_B3.cell 1 rfl
    have kB3_2 := hx_B3.cell 2 rfl
    have kB3_3 := hx_B3.cell 3 rfl
    go_simp
    try go_ints
    rfl
  refine walk_cg [(45, some 1), (46, some 0), (44, some 2)] (by kernel_rfl) 8 44 true rfl rfl (fun b w' hx hs => by obtain ⟨-, -, h2, -⟩ := hs; exact h2) (fun w' v => IsNum w' v (some ((qa + qb)))) (fun _ _ _ x h => by first | exact h | exact h.ext x) (fun b w' hx hs => ?_) ?_
  · as_aux_lemma =>
      obtain ⟨h0, h1, h2, -⟩ := hs
      change _ = _ at h0
      change _ = _ at h1
      change _ = _ at h2
      rw [eval_tmp] at h0 h1 h2
      go_simp
      refine upon_enter ((add_any _ (hT.ext hx) (n1.ext hx) (n2.ext hx)).mono fun ed w2 ⟨v, he, hx2, hn⟩ => ⟨v, he, hx2, ?_⟩)
      rw [addO_sz (n := 2149) (ZA.out) (ZB.out) (by omega)] at hn
      first | exact hn | simpa using hn
  refine walk_qg [(7, none), (44, some 3)] (by kernel_rfl) 8 44 true rfl rfl (fun b w' hx hs => by obtain ⟨-, h1, -⟩ := hs; exact h1) ?_
  apply Exists.intro
  refine ⟨fun b w' hx hs => ?_, ?_⟩
  · obtain ⟨h0, h1, -⟩ := hs
    change _ = _ at h0
    change _ = _ at h1
    rw [eval_tmp] at h0 h1
    have hx_B1 := B1.ext hx
    have kB1_0 := hx_B1.cell 0 rfl
    have kB1_1 := hx_B1.cell 1 rfl
    have kB1_2 := hx_B1.cell 2 rfl
    have kB1_3 := hx_B1.cell 3 rfl
    have hx_B2 := B2.ext hx
    have kB2_0 := hx_B2.cell 0 rfl
    have kB2_1 := hx_B2.cell 1 rfl
    have kB2_2 := hx_B2.cell 2 rfl
    have kB2_3 := hx_B2.cell 3 rfl
    have hx_B3 := B3.ext hx
    have kB3_0 := hx_B3.cell 0 rfl
    have kB3_1 := hx_B3.cell 1 rfl
    have kB3_2 := hx_B3.cell 2 rfl
    have kB3_3 := hx_B3.cell 3 rfl
    go_simp
    try go_ints
    rfl
  refine walk_cg [(47, some 1), (48, some 0), (44, some 4)] (by kernel_rfl) 8 44 true rfl rfl (fun b w' hx hs => by obtain ⟨-, -, h2, -⟩ := hs; exact h2) (fun w' v => IsNum w' v (some (((qa + qb) + qc)))) (fun _ _ _ x h => by first | exact h | exact h.ext x) (fun b w' hx hs => ?_) ?_
  · as_aux_lemma =>
      obtain ⟨h0, h1, h2, -⟩ := hs
      change _ = _ at h1
      change _ = _ at h2
      rw [eval_tmp] at h0 h1 h2
      go_simp
      refine upon_enter ((add_any _ (hT.ext hx) (show IsNum _ _ (some ((qa + qb))) from by rw [← eval_tmp] at *; exact h0) (n3.ext hx)).mono fun ed w2 ⟨v, he, hx2, hn⟩ => ⟨v, he, hx2, ?_⟩)
      rw [addO_sz (n := 2150) ((show Sz 2150 ((qa + qb)) from (Sz.add (ZA.out) (ZB.out)))) ((ZC.out).mono (by omega)) (by omega)] at hn
      first | exact hn | simpa using hn
  refine walk_qg [(5, none), (44, some 5)] (by kernel_rfl) 8 44 true rfl rfl (fun b w' hx hs => by obtain ⟨-, h1, -⟩ := hs; exact h1) ?_
  apply Exists.intro
  refine ⟨fun b w' hx hs => ?_, ?_⟩
  · obtain ⟨h0, h1, -⟩ := hs
    change _ = _ at h0
    change _ = _ at h1
    rw [eval_tmp] at h0 h1
    have hx_B1 := B1.ext hx
    have kB1_0 := hx_B1.cell 0 rfl
    have kB1_1 := hx_B1.cell 1 rfl
    have kB1_2 := hx_B1.cell 2 rfl
    have kB1_3 := hx_B1.cell 3 rfl
    have hx_B2 := B2.ext hx
    have kB2_0 := hx_B2.cell 0 rfl
    have kB2_1 := hx_B2.cell 1 rfl
    have kB2_2 := hx_B2.cell 2 rfl
    have kB2_3 := hx_B2.cell 3 rfl
    have hx_B3 := B3.ext hx
    have kB3_0 := hx_B3.cell 0 rfl
    have kB3_1 := hx_B3.cell 1 rfl
    have kB3_2 := hx_B3.cell 2 rfl
    have kB3_3 := hx_B3.cell 3 rfl
    go_simp
    try go_ints
    rfl
  refine walk_qg [(6, none), (44, some 6)] (by kernel_rfl) 8 44 true rfl rfl (fun b w' hx hs => by obtain ⟨-, h1, -⟩ := hs; exact h1) ?_
  apply Exists.intro
  refine ⟨fun b w' hx hs => ?_, ?_⟩
  · obtain ⟨h0, h1, -⟩ := hs
    change _ = _ at h0
    change _ = _ at h1
    rw [eval_tmp] at h0 h1
    have hx_B1 := B1.ext hx
    have kB1_0 := hx_B1.cell 0 rfl
    have kB1_1 := hx_B1.cell 1 rfl
    have kB1_2 := hx_B1.cell 2 rfl
    have kB1_3 := hx_B1.cell 3 rfl
    have hx_B2 := B2.ext hx
    have kB2_0 := hx_B2.cell 0 rfl
    have kB2_1 := hx_B2.cell 1 rfl
    have kB2_2 := hx_B2.cell 2 rfl
    have kB2_3 := hx_B2.cell 3 rfl
    have hx_B3 := B3.ext hx
    have kB3_0 := hx_B3.cell 0 rfl
    have kB3_1 := hx_B3.cell 1 rfl
    have kB3_2 := hx_B3.cell 2 rfl
    have kB3_3 := hx_B3.cell 3 rfl
    go_simp
    try go_ints
    rfl
  refine walk_qg [(7, none), (44, some 7)] (by kernel_rfl) 8 44 true rfl rfl (fun b w' hx hs => by obtain ⟨-, h1, -⟩ := hs; exact h1) ?_
  apply Exists.intro
  refine ⟨fun b w' hx hs => ?_, ?_⟩
  · obtain ⟨h0, h1, -⟩ := hs
    change _ = _ at h0
    change _ = _ at h1
    rw [eval_tmp] at h0 h1
    have hx_B1 := B1.ext hx
    have kB1_0 := hx_B1.cell 0 rfl
    have kB1_1 := hx_B1.cell 1 rfl
    have kB1_2 := hx_B1.cell 2 rfl
    have kB1_3 := hx_B1.cell 3 rfl
    have hx_B2 := B2.ext hx
    have kB2_0 := hx_B2.cell 0 rfl
    have kB2_1 := hx_B2.cell 1 rfl
    have kB2_2 := hx_B2.cell 2 rfl
    have kB2_3 := hx_B2.cell 3 rfl
    have hx_B3 := B3.ext hx
    have kB3_0 := hx_B3.cell 0 rfl
    have kB3_1 := hx_B3.cell 1 rfl
    have kB3_2 := hx_B3.cell 2 rfl
    have kB3_3 := hx_B3.cell 3 rfl
    go_simp
    try go_ints
    rfl
  refine walk_cg [(51, some 1), (52, some 0), (44, some 8)] (by kernel_rfl) 8 44 true rfl rfl (fun b w' hx hs => by obtain ⟨-, -, h2, -⟩ := hs; exact h2) (fun w' v => IsNum w' v (some ((qb + qc)))) (fun _ _ _ x h => by first | exact h | exact h.ext x) (fun b w' hx hs => ?_) ?_
  · as_aux_lemma =>
      obtain ⟨h0, h1, h2, -⟩ := hs
      change _ = _ at h0
      change _ = _ at h1
      change _ = _ at h2
      rw [eval_tmp] at h0 h1 h2
      go_simp
      refine upon_enter ((add_any _ (hT.ext hx) (n2.ext hx) (n3.ext hx)).mono fun ed w2 ⟨v, he, hx2, hn⟩ => ⟨v, he, hx2, ?_⟩)
      rw [addO_sz (n := 2149) (ZB.out) (ZC.out) (by omega)] at hn
      first | exact hn | simpa using hn
  refine walk_cg [(50, some 3), (53, some 0), (44, some 9)] (by kernel_rfl) 8 44 true rfl rfl (fun b w' hx hs => by obtain ⟨-, -, h2, -⟩ := hs; exact h2) (fun w' v => IsNum w' v (some ((qa + (qb + qc))))) (fun _ _ _ x h => by first | exact h | exact h.ext x) (fun b w' hx hs => ?_) ?_
  · as_aux_lemma =>
      obtain ⟨h0, h1, h2, -⟩ := hs
      change _ = _ at h0
      change _ = _ at h2
      rw [eval_tmp] at h0 h1 h2
      go_simp
      refine upon_enter ((add_any _ (hT.ext hx) (n1.ext hx) (show IsNum _ _ (some ((qb + qc))) from by rw [← eval_tmp] at *; exact h1)).mono fun ed w2 ⟨v, he, hx2, hn⟩ => ⟨v, he, hx2, ?_⟩)
      rw [addO_sz (n := 2150) ((ZA.out).mono (by omega)) ((show Sz 2150 ((qb + qc)) from (Sz.add (ZB.out) (ZC.out)))) (by omega)] at hn
      first | exact hn | simpa using hn
  refine walk_cg [(49, some 5), (54, some 0), (44, some 10)] (by kernel_rfl) 8 44 true rfl rfl (fun b w' hx hs => by obtain ⟨-, -, h2, -⟩ := hs; exact h2) (fun _ v => v = .int .i64 (0)) (fun _ _ _ x h => by first | exact h | exact h.ext x) (fun b w' hx hs => ?_) ?_
  · as_aux_lemma =>
      obtain ⟨h0, h1, h2, -⟩ := hs
      change _ = _ at h2
      rw [eval_tmp] at h0 h1 h2
      go_simp
      refine upon_enter ((cmp_num _ (hT.ext hx) (show IsNum _ _ (some (((qa + qb) + qc))) from by rw [← eval_tmp] at *; exact h0) (show IsNum _ _ (some ((qa + (qb + qc)))) from by rw [← eval_tmp] at *; exact h1)).mono fun ed w2 ⟨he, hx2⟩ => ⟨_, he, hx2, ?_⟩)
      rw [cmpO_sz (n := 2151) ((show Sz 2151 (((qa + qb) + qc)) from (Sz.add ((show Sz 2150 ((qa + qb)) from (Sz.add (ZA.out) (ZB.out)))) ((ZC.out).mono (by omega))))) ((show Sz 2151 ((qa + (qb + qc))) from (Sz.add ((ZA.out).mono (by omega)) ((show Sz 2150 ((qb + qc)) from (Sz.add (ZB.out) (ZC.out))))))) (by omega)]
      have hval : sg (((qa + qb) + qc) - (qa + (qb + qc))) = 0 := by first | exact sg_eq0 (by grind) | exact sg_pos (by grind) | exact sg_neg (by grind) | rfl
      rw [hval]
  refine walk_qg [(55, some 0), (44, some 11)] (by kernel_rfl) 8 44 true rfl rfl (fun b w' hx hs => by obtain ⟨-, h1, -⟩ := hs; exact h1) ?_
  apply Exists.intro
  refine ⟨fun b w' hx hs => ?_, ?_⟩
  · obtain ⟨h0, h1, -⟩ := hs
    change _ = _ at h0
    change _ = _ at h1
    rw [eval_tmp] at h0 h1
    go_simp
    try go_ints
    rfl
  refine walk_q [(44, some 12), (56, some 0)] (by kernel_rfl) rfl ?_
  apply Exists.intro
  refine ⟨fun b w' hx hs => ?_, ?_⟩
  · obtain ⟨h0, h1, -⟩ := hs
    change _ = _ at h0
    change _ = _ at h1
    rw [eval_tmp] at h0 h1
    go_simp
    try go_ints
    rfl
  refine walk_q [(57, some 0)] (by kernel_rfl) rfl ?_
  apply Exists.intro
  refine ⟨fun b w' hx hs => ?_, ?_⟩
  · obtain ⟨h0, -⟩ := hs
    change _ = _ at h0
    rw [eval_tmp] at h0
    go_simp
    try go_ints
    rfl
  refine walk_qg [(5, none), (58, some 0)] (by kernel_rfl) 22 58 true rfl rfl (fun b w' hx hs => by obtain ⟨-, h1, -⟩ := hs; exact h1) ?_
  apply Exists.intro
  refine ⟨fun b w' hx hs => ?_, ?_⟩
  · obtain ⟨h0, h1, -⟩ := hs
    change _ = _ at h0
    change _ = _ at h1
    rw [eval_tmp] at h0 h1
    have hx_B1 := B1.ext hx
    have kB1_0 := hx_B1.cell 0 rfl
    have kB1_1 := hx_B1.cell 1 rfl
    have kB1_2 := hx_B1.cell 2 rfl
    have kB1_3 := hx_B1.cell 3 rfl
    have hx_B2 := B2.ext hx
    have kB2_0 := hx_B2.cell 0 rfl
    have kB2_1 := hx_B2.cell 1 rfl
    have kB2_2 := hx_B2.cell 2 rfl
    have kB2_3 := hx_B2.cell 3 rfl
    have hx_B3 := B3.ext hx
    have kB3_0 := hx_B3.cell 0 rfl
    have kB3_1 := hx_B3.cell 1 rfl
    have kB3_2 := hx_B3.cell 2 rfl
    have kB3_3 := hx_B3.cell 3 rfl
    go_simp
    try go_ints
    rfl
  refine walk_qg [(6, none), (58, some 1)] (by kernel_rfl) 22 58 true rfl rfl (fun b w' hx hs => by obtain ⟨-, h1, -⟩ := hs; exact h1) ?_
  apply Exists.intro
  refine ⟨fun b w' hx hs => ?_, ?_⟩
  · obtain ⟨h0, h1, -⟩ := hs
    change _ = _ at h0
    change _ = _ at h1
    rw [eval_tmp] at h0 h1
    have hx_B1 := B1.ext hx
    have kB1_0 := hx_B1.cell 0 rfl
    have kB1_1 := hx_B1.cell 1 rfl
    have kB1_2 := hx_B1.cell 2 rfl
    have kB1_3 := hx_B1.cell 3 rfl
    have hx_B2 := B2.ext hx
    have kB2_0 := hx_B2.cell 0 rfl
    have kB2_1 := hx_B2.cell 1 rfl
    have kB2_2 := hx_B2.cell 2 rfl
    have kB2_3 := hx_B2.cell 3 rfl
    have hx_B3 := B3.ext hx
    have kB3_0 := hx_B3.cell 0 rfl
    have kB3_1 := hx_B3.cell 1 rfl
    have kB3_2 := hx_B3.cell 2 rfl
    have kB3_3 := hx_B3.cell 3 rfl
    go_simp
    try go_ints
    rfl
  refine walk_cg [(59, some 1), (60, some 0), (58, some 2)] (by kernel_rfl) 22 58 true rfl rfl (fun b w' hx hs => by obtain ⟨-, -, h2, -⟩ := hs; exact h2) (fun w' v => IsNum w' v (some ((qa + qb)))) (fun _ _ _ x h => by first | exact h | exact h.ext x) (fun b w' hx hs => ?_) ?_
  · as_aux_lemma =>
      obtain ⟨h0, h1, h2, -⟩ := hs
      change _ = _ at h0
      change _ = _ at h1
      change _ = _ at h2
      rw [eval_tmp] at h0 h1 h2
      go_simp
      refine upon_enter ((add_any _ (hT.ext hx) (n1.ext hx) (n2.ext hx)).mono fun ed w2 ⟨v, he, hx2, hn⟩ => ⟨v, he, hx2, ?_⟩)
      rw [addO_sz (n := 2149) (ZA.out) (ZB.out) (by omega)] at hn
      first | exact hn | simpa using hn
  refine walk_qg [(6, none), (58, some 3)] (by kernel_rfl) 22 58 true rfl rfl (fun b w' hx hs => by obtain ⟨-, h1, -⟩ := hs; exact h1) ?_
  apply Exists.intro
  refine ⟨fun b w' hx hs => ?_, ?_⟩
  · obtain ⟨h0, h1, -⟩ := hs
    change _ = _ at h0
    change _ = _ at h1
    rw [eval_tmp] at h0 h1
    have hx_B1 := B1.ext hx
    have kB1_0 := hx_B1.cell 0 rfl
    have kB1_1 := hx_B1.cell 1 rfl
    have kB1_2 := hx_B1.cell 2 rfl
    have kB1_3 := hx_B1.cell 3 rfl
    have hx_B2 := B2.ext hx
    have kB2_0 := hx_B2.cell 0 rfl
    have kB2_1 := hx_B2.cell 1 rfl
    have kB2_2 := hx_B2.cell 2 rfl
    have kB2_3 := hx_B2.cell 3 rfl
    have hx_B3 := B3.ext hx
    have kB3_0 := hx_B3.cell 0 rfl
    have kB3_1 := hx_B3.cell 1 rfl
    have kB3_2 := hx_B3.cell 2 rfl
    have kB3_3 := hx_B3.cell 3 rfl
    go_simp
    try go_ints
    rfl
  refine walk_cg [(61, some 1), (62, some 0), (58, some 4)] (by kernel_rfl) 22 58 true rfl rfl (fun b w' hx hs => by obtain ⟨-, -, h2, -⟩ := hs; exact h2) (fun w' v => IsNum w' v (some (((qa + qb) - qb)))) (fun _ _ _ x h => by first | exact h | exact h.ext x) (fun b w' hx hs => ?_) ?_
  · as_aux_lemma =>
      obtain ⟨h0, h1, h2, -⟩ := hs
      change _ = _ at h1
      change _ = _ at h2
      rw [eval_tmp] at h0 h1 h2
      go_simp
      refine upon_enter ((sub_any _ (hT.ext hx) (show IsNum _ _ (some ((qa + qb))) from by rw [← eval_tmp] at *; exact h0) (n2.ext hx)).mono fun ed w2 ⟨v, he, hx2, hn⟩ => ⟨v, he, hx2, ?_⟩)
      rw [subO_sz (n := 2150) ((show Sz 2150 ((qa + qb)) from (Sz.add (ZA.out) (ZB.out)))) ((ZB.out).mono (by omega)) (by omega)] at hn
      first | exact hn | simpa using hn
  refine walk_qg [(5, none), (58, some 5)] (by kernel_rfl) 22 58 true rfl rfl (fun b w' hx hs => by obtain ⟨-, h1, -⟩ := hs; exact h1) ?_
  apply Exists.intro
  refine ⟨fun b w' hx hs => ?_, ?_⟩
  · obtain ⟨h0, h1, -⟩ := hs
    change _ = _ at h0
    change _ = _ at h1
    rw [eval_tmp] at h0 h1
    have hx_B1 := B1.ext hx
    have kB1_0 := hx_B1.cell 0 rfl
    have kB1_1 := hx_B1.cell 1 rfl
    have kB1_2 := hx_B1.cell 2 rfl
    have kB1_3 := hx_B1.cell 3 rfl
    have hx_B2 := B2.ext hx
    have kB2_0 := hx_B2.cell 0 rfl
    have kB2_1 := hx_B2.cell 1 rfl
    have kB2_2 := hx_B2.cell 2 rfl
    have kB2_3 := hx_B2.cell 3 rfl
    have hx_B3 := B3.ext hx
    have kB3_0 := hx_B3.cell 0 rfl
    have kB3_1 := hx_B3.cell 1 rfl
    have kB3_2 := hx_B3.cell 2 rfl
    have kB3_3 := hx_B3.cell 3 rfl
    go_simp
    try go_ints
    rfl
  refine walk_cg [(63, some 1), (64, some 0), (58, some 6)] (by kernel_rfl) 22 58 true rfl rfl (fun b w' hx hs => by obtain ⟨-, -, h2, -⟩ := hs; exact h2) (fun _ v => v = .int .i64 (0)) (fun _ _ _ x h => by first | exact h | exact h.ext x) (fun b w' hx hs => ?_) ?_
  · as_aux_lemma =>
      obtain ⟨h0, h1, h2, -⟩ := hs
      change _ = _ at h1
      change _ = _ at h2
      rw [eval_tmp] at h0 h1 h2
      go_simp
      refine upon_enter ((cmp_num _ (hT.ext hx) (show IsNum _ _ (some (((qa + qb) - qb))) from by rw [← eval_tmp] at *; exact h0) (n1.ext hx)).mono fun ed w2 ⟨he, hx2⟩ => ⟨_, he, hx2, ?_⟩)
      rw [cmpO_sz (n := 2151) ((show Sz 2151 (((qa + qb) - qb)) from (Sz.sub ((show Sz 2150 ((qa + qb)) from (Sz.add (ZA.out) (ZB.out)))) ((ZB.out).mono (by omega))))) ((ZA.out).mono (by omega)) (by omega)]
      have hval : sg (((qa + qb) - qb) - qa) = 0 := by first | exact sg_eq0 (by grind) | exact sg_pos (by grind) | exact sg_neg (by grind) | rfl
      rw [hval]
  refine walk_qg [(65, some 0), (58, some 7)] (by kernel_rfl) 22 58 true rfl rfl (fun b w' hx hs => by obtain ⟨-, h1, -⟩ := hs; exact h1) ?_
  apply Exists.intro
  refine ⟨fun b w' hx hs => ?_, ?_⟩
  · obtain ⟨h0, h1, -⟩ := hs
    change _ = _ at h0
    change _ = _ at h1
    rw [eval_tmp] at h0 h1
    go_simp
    try go_ints
    rfl
  refine walk_q [(58, some 8), (66, some 0)] (by kernel_rfl) rfl ?_
  apply Exists.intro
  refine ⟨fun b w' hx hs => ?_, ?_⟩
  · obtain ⟨h0, h1, -⟩ := hs
    change _ = _ at h0
    change _ = _ at h1
    rw [eval_tmp] at h0 h1
    go_simp
    try go_ints
    rfl
  refine walk_q [(67, some 0)] (by kernel_rfl) rfl ?_
  apply Exists.intro
  refine ⟨fun b w' hx hs => ?_, ?_⟩
  · obtain ⟨h0, -⟩ := hs
    change _ = _ at h0
    rw [eval_tmp] at h0
    go_simp
    try go_ints
    rfl
  refine walk_qg [(5, none), (68, some 0)] (by kernel_rfl) 32 68 true rfl rfl (fun b w' hx hs => by obtain ⟨-, h1, -⟩ := hs; exact h1) ?_
  apply Exists.intro
  refine ⟨fun b w' hx hs => ?_, ?_⟩
  · obtain ⟨h0, h1, -⟩ := hs
    change _ = _ at h0
    change _ = _ at h1
    rw [eval_tmp] at h0 h1
    have hx_B1 := B1.ext hx
    have kB1_0 := hx_B1.cell 0 rfl
    have kB1_1 := hx_B1.cell 1 rfl
    have kB1_2 := hx_B1.cell 2 rfl
    have kB1_3 := hx_B1.cell 3 rfl
    have hx_B2 := B2.ext hx
    have kB2_0 := hx_B2.cell 0 rfl
    have kB2_1 := hx_B2.cell 1 rfl
    have kB2_2 := hx_B2.cell 2 rfl
    have kB2_3 := hx_B2.cell 3 rfl
    have hx_B3 := B3.ext hx
    have kB3_0 := hx_B3.cell 0 rfl
    have kB3_1 := hx_B3.cell 1 rfl
    have kB3_2 := hx_B3.cell 2 rfl
    have kB3_3 := hx_B3.cell 3 rfl
    go_simp
    try go_ints
    rfl
  refine walk_qg [(5, none), (68, some 1)] (by kernel_rfl) 32 68 true rfl rfl (fun b w' hx hs => by obtain ⟨-, h1, -⟩ := hs; exact h1) ?_
  apply Exists.intro
  refine ⟨fun b w' hx hs => ?_, ?_⟩
  · obtain ⟨h0, h1, -⟩ := hs
    change _ = _ at h0
    change _ = _ at h1
    rw [eval_tmp] at h0 h1
    have hx_B1 := B1.ext hx
    have kB1_0 := hx_B1.cell 0 rfl
    have kB1_1 := hx_B1.cell 1 rfl
    have kB1_2 := hx_B1.cell 2 rfl
    have kB1_3 := hx_B1.cell 3 rfl
    have hx_B2 := B2.ext hx
    have kB2_0 := hx_B2.cell 0 rfl
    have kB2_1 := hx_B2.cell 1 rfl
    have kB2_2 := hx_B2.cell 2 rfl
    have kB2_3 := hx_B2.cell 3 rfl
    have hx_B3 := B3.ext hx
    have kB3_0 := hx_B3.cell 0 rfl
    have kB3_1 := hx_B3.cell 1 rfl
    have kB3_2 := hx_B3.cell 2 rfl
    have kB3_3 := hx_B3.cell 3 rfl
    go_simp
    try go_ints
    rfl
  refine walk_cg [(69, some 1), (70, some 0), (68, some 2)] (by kernel_rfl) 32 68 true rfl rfl (fun b w' hx hs => by obtain ⟨-, -, h2, -⟩ := hs; exact h2) (fun w' v => IsNum w' v (some ((qa - qa)))) (fun _ _ _ x h => by first | exact h | exact h.ext x) (fun b w' hx hs => ?_) ?_
  · as_aux_lemma =>
      obtain ⟨h0, h1, h2, -⟩ := hs
      change _ = _ at h0
      change _ = _ at h1
      change _ = _ at h2
      rw [eval_tmp] at h0 h1 h2
      go_simp
      refine upon_enter ((sub_any _ (hT.ext hx) (n1.ext hx) (n1.ext hx)).mono fun ed w2 ⟨v, he, hx2, hn⟩ => ⟨v, he, hx2, ?_⟩)
      rw [subO_sz (n := 2149) (ZA.out) (ZA.out) (by omega)] at hn
      first | exact hn | simpa using hn
  refine walk_cg [(71, some 0), (68, some 3)] (by kernel_rfl) 32 68 true rfl rfl (fun b w' hx hs => by obtain ⟨-, h1, -⟩ := hs; exact h1) (fun _ v => v = .int .i64 (0)) (fun _ _ _ x h => by first | exact h | exact h.ext x) (fun b w' hx hs => ?_) ?_
  · as_aux_lemma =>
      obtain ⟨h0, h1, -⟩ := hs
      change _ = _ at h1
      rw [eval_tmp] at h0 h1
      go_simp
      refine upon_enter ((sign_any _ (show IsNum _ _ (some ((qa - qa))) from by rw [← eval_tmp] at *; exact h0)).mono fun ed w2 ⟨he, hx2⟩ => ⟨_, he, hx2, ?_⟩)
      rw [show sgO (some ((qa - qa))) = sg ((qa - qa)) from rfl]
      have hval : sg ((qa - qa)) = 0 := by first | exact sg_eq0 (by grind) | exact sg_pos (by grind) | exact sg_neg (by grind) | rfl
      rw [hval]
  refine walk_qg [(72, some 0), (68, some 4)] (by kernel_rfl) 32 68 true rfl rfl (fun b w' hx hs => by obtain ⟨-, h1, -⟩ := hs; exact h1) ?_
  apply Exists.intro
  refine ⟨fun b w' hx hs => ?_, ?_⟩
  · obtain ⟨h0, h1, -⟩ := hs
    change _ = _ at h0
    change _ = _ at h1
    rw [eval_tmp] at h0 h1
    go_simp
    try go_ints
    rfl
  refine walk_q [(68, some 5), (73, some 0)] (by kernel_rfl) rfl ?_
  apply Exists.intro
  refine ⟨fun b w' hx hs => ?_, ?_⟩
  · obtain ⟨h0, h1, -⟩ := hs
    change _ = _ at h0
    change _ = _ at h1
    rw [eval_tmp] at h0 h1
    go_simp
    try go_ints
    rfl
  refine walk_q [(74, some 0)] (by kernel_rfl) rfl ?_
  apply Exists.intro
  refine ⟨fun b w' hx hs => ?_, ?_⟩
  · obtain ⟨h0, -⟩ := hs
    change _ = _ at h0
    rw [eval_tmp] at h0
    go_simp
    try go_ints
    rfl
  refine walk_end ?_
  intro w5 hx5
  rintro _ rfl
  rintro _ rfl
  rintro _ rfl
  rintro _ rfl
  intro v71 hv71
  rintro _ rfl
  rintro _ rfl
  rintro _ rfl
  rintro _ rfl
  rintro _ rfl
  rintro _ rfl
  rintro _ rfl
  intro v63 hv63
  rintro _ rfl
  intro v61 hv61
  rintro _ rfl
  rintro _ rfl
  rintro _ rfl
  rintro _ rfl
  rintro _ rfl
  rintro _ rfl
  intro v54 hv54
  intro v53 hv53
  rintro _ rfl
  rintro _ rfl
  rintro _ rfl
  intro v49 hv49
  rintro _ rfl
  intro v47 hv47
  rintro _ rfl
  rintro _ rfl
  rintro _ rfl
  rintro _ rfl
  rintro _ rfl
  intro v41 hv41
  rintro _ rfl
  rintro _ rfl
  intro v38 hv38
  rintro _ rfl
  rintro _ rfl
  unfold fin
  simp only [Act.put, List.setIfInBounds_toArray, List.set_cons_succ, List.set_cons_zero]
  replace B1 := B1.ext hx5
  replace B2 := B2.ext hx5
  replace B3 := B3.ext hx5
  replace n1 := n1.ext hx5
  replace n2 := n2.ext hx5
  replace n3 := n3.ext hx5
  replace hx := hx.trans hx5
  replace hT := hT.ext hx5
  clear hx5
  go_wp2
  refine wp_steady 3 206 (by kernel_rfl) (by as_aux_lemma => kernel_rfl) rfl ?_
  refine walk_q [(5, none)] (by kernel_rfl) rfl ?_
  apply Exists.intro
  refine ⟨fun b w' hx hs => ?_, ?_⟩
  · obtain ⟨h0, -⟩ := hs
    change _ = _ at h0
    rw [eval_tmp] at h0
    have hx_B1 := B1.ext hx
    have kB1_0 := hx_B1.cell 0 rfl
    have kB1_1 := hx_B1.cell 1 rfl
    have kB1_2 := hx_B1.cell 2 rfl
    have kB1_3 := hx_B1.cell 3 rfl
    have hx_B2 := B2.ext hx
    have kB2_0 := hx_B2.cell 0 rfl
    have kB2_1 := hx_B2.cell 1 rfl
    have kB2_2 := hx_B2.cell 2 rfl
    have kB2_3 := hx_B2.cell 3 rfl
    have hx_B3 := B3.ext hx
    have kB3_0 := hx_B3.cell 0 rfl
    have kB3_1 := hx_B3.cell 1 rfl
    have kB3_2 := hx_B3.cell 2 rfl
    have kB3_3 := hx_B3.cell 3 rfl
    go_simp
    try go_ints
    rfl
  refine walk_q [(6, none)] (by kernel_rfl) rfl ?_
  apply Exists.intro
  refine ⟨fun b w' hx hs => ?_, ?_⟩
  · obtain ⟨h0, -⟩ := hs
    change _ = _ at h0
    rw [eval_tmp] at h0
    have hx_B1 := B1.ext hx
    have kB1_0 := hx_B1.cell 0 rfl
    have kB1_1 := hx_B1.cell 1 rfl
    have kB1_2 := hx_B1.cell 2 rfl
    have kB1_3 := hx_B1.cell 3 rfl
    have hx_B2 := B2.ext hx
    have kB2_0 := hx_B2.cell 0 rfl
    have kB2_1 := hx_B2.cell 1 rfl
    have kB2_2 := hx_B2.cell 2 rfl
    have kB2_3 := hx_B2.cell 3 rfl
    have hx_B3 := B3.ext hx
    have kB3_0 := hx_B3.cell 0 rfl
    have kB3_1 := hx_B3.cell 1 rfl
    have kB3_2 := hx_B3.cell 2 rfl
    have kB3_3 := hx_B3.cell 3 rfl
    go_simp
    try go_ints
    rfl
  refine walk_c [(75, some 1), (76, some 0)] (by kernel_rfl) rfl (fun w' v => IsNum w' v (some ((qa * qb)))) (fun _ _ _ x h => by first | exact h | exact h.ext x) (fun b w' hx hs => ?_) ?_
  · as_aux_lemma =>
      obtain ⟨h0, h1, -⟩ := hs
      change _ = _ at h0
      change _ = _ at h1
      rw [eval_tmp] at h0 h1
      go_simp
      refine upon_enter ((mul_any _ (hT.ext hx) (n1.ext hx) (n2.ext hx)).mono fun ed w2 ⟨v, he, hx2, hn⟩ => ⟨v, he, hx2, ?_⟩)
      rw [mulO_sz (n := 2149) (m := 2149) (ZA.out) (ZB.out) (by omega)] at hn
      first | exact hn | simpa using hn
  refine walk_q [(6, none)] (by kernel_rfl) rfl ?_
  apply Exists.intro
  refine ⟨fun b w' hx hs => ?_, ?_⟩
  · obtain ⟨h0, -⟩ := hs
    change _ = _ at h0
    rw [eval_tmp] at h0
    have hx_B1 := B1.ext hx
    have kB1_0 := hx_B1.cell 0 rfl
    have kB1_1 := hx_B1.cell 1 rfl
    have kB1_2 := hx_B1.cell 2 rfl
    have kB1_3 := hx_B1.cell 3 rfl
    have hx_B2 := B2.ext hx
    have kB2_0 := hx_B2.cell 0 rfl
    have kB2_1 := hx_B2.cell 1 rfl
    have kB2_2 := hx_B2.cell 2 rfl
    have kB2_3 := hx_B2.cell 3 rfl
    have hx_B3 := B3.ext hx
    have kB3_0 := hx_B3.cell 0 rfl
    have kB3_1 := hx_B3.cell 1 rfl
    have kB3_2 := hx_B3.cell 2 rfl
    have kB3_3 := hx_B3.cell 3 rfl
    go_simp
    try go_ints
    rfl
  refine walk_q [(5, none)] (by kernel_rfl) rfl ?_
  apply Exists.intro
  refine ⟨fun b w' hx hs => ?_, ?_⟩
  · obtain ⟨h0, -⟩ := hs
    change _ = _ at h0
    rw [eval_tmp] at h0
    have hx_B1 := B1.ext hx
    have kB1_0 := hx_B1.cell 0 rfl
    have kB1_1 := hx_B1.cell 1 rfl
    have kB1_2 := hx_B1.cell 2 rfl
    have kB1_3 := hx_B1.cell 3 rfl
    have hx_B2 := B2.ext hx
    have kB2_0 := hx_B2.cell 0 rfl
    have kB2_1 := hx_B2.cell 1 rfl
    have kB2_2 := hx_B2.cell 2 rfl
    have kB2_3 := hx_B2.cell 3 rfl
    have hx_B3 := B3.ext hx
    have kB3_0 := hx_B3.cell 0 rfl
    have kB3_1 := hx_B3.cell 1 rfl
    have kB3_2 := hx_B3.cell 2 rfl
    have kB3_3 := hx_B3.cell 3 rfl
    go_simp
    try go_ints
    rfl
  refine walk_c [(78, some 1), (79, some 0)] (by kernel_rfl) rfl (fun w' v => IsNum w' v (some ((qb * qa)))) (fun _ _ _ x h => by first | exact h | exact h.ext x) (fun b w' hx hs => ?_) ?_
  · as_aux_lemma =>
      obtain ⟨h0, h1, -⟩ := hs
      change _ = _ at h0
      change _ = _ at h1
      rw [eval_tmp] at h0 h1
      go_simp
      refine upon_enter ((mul_any _ (hT.ext hx) (n2.ext hx) (n1.ext hx)).mono fun ed w2 ⟨v, he, hx2, hn⟩ => ⟨v, he, hx2, ?_⟩)
      rw [mulO_sz (n := 2149) (m := 2149) (ZB.out) (ZA.out) (by omega)] at hn
      first | exact hn | simpa using hn
  refine walk_c [(77, some 3), (80, some 0)] (by kernel_rfl) rfl (fun _ v => v = .int .i64 (0)) (fun _ _ _ x h => by first | exact h | exact h.ext x) (fun b w' hx hs => ?_) ?_
  · as_aux_lemma =>
      obtain ⟨h0, h1, -⟩ := hs
      rw [eval_tmp] at h0 h1
      go_simp
      refine upon_enter ((cmp_num _ (hT.ext hx) (show IsNum _ _ (some ((qa * qb))) from by rw [← eval_tmp] at *; exact h0) (show IsNum _ _ (some ((qb * qa))) from by rw [← eval_tmp] at *; exact h1)).mono fun ed w2 ⟨he, hx2⟩ => ⟨_, he, hx2, ?_⟩)
      rw [cmpO_sz (n := 4298) ((show Sz 4298 ((qa * qb)) from ((Sz.mul (ZA.out) (ZB.out)).mono (by omega)))) ((show Sz 4298 ((qb * qa)) from ((Sz.mul (ZB.out) (ZA.out)).mono (by omega)))) (by omega)]
      have hval : sg ((qa * qb) - (qb * qa)) = 0 := by first | exact sg_eq0 (by grind) | exact sg_pos (by grind) | exact sg_neg (by grind) | rfl
      rw [hval]
  refine walk_q [(81, some 0)] (by kernel_rfl) rfl ?_
  apply Exists.intro
  refine ⟨fun b w' hx hs => ?_, ?_⟩
  · obtain ⟨h0, -⟩ := hs
    change _ = _ at h0
    rw [eval_tmp] at h0
    go_simp
    try go_ints
    rfl
  refine walk_q [(82, some 0)] (by kernel_rfl) rfl ?_
  apply Exists.intro
  refine ⟨fun b w' hx hs => ?_, ?_⟩
  · obtain ⟨h0, -⟩ := hs
    change _ = _ at h0
    rw [eval_tmp] at h0
    go_simp
    try go_ints
    rfl
  refine walk_qg [(5, none), (83, some 0)] (by kernel_rfl) 8 83 true rfl rfl (fun b w' hx hs => by obtain ⟨-, h1, -⟩ := hs; exact h1) ?_
  apply Exists.intro
  refine ⟨fun b w' hx hs => ?_, ?_⟩
  · obtain ⟨h0, h1, -⟩ := hs
    change _ = _ at h0
    change _ = _ at h1
    rw [eval_tmp] at h0 h1
    have hx_B1 := B1.ext hx
    have kB1_0 := hx_B1.cell 0 rfl
    have kB1_1 := hx_B1.cell 1 rfl
    have kB1_2 := hx_B1.cell 2 rfl
    have kB1_3 := hx_B1.cell 3 rfl
    have hx_B2 := B2.ext hx
    have kB2_0 := hx_B2.cell 0 rfl
    have kB2_1 := hx_B2.cell 1 rfl
    have kB2_2 := hx_B2.cell 2 rfl
    have kB2_3 := hx_B2.cell 3 rfl
    have hx_B3 := B3.ext hx
    have kB3_0 := hx_B3.cell 0 rfl
    have kB3_1 := hx_B3.cell 1 rfl
    have kB3_2 := hx_B3.cell 2 rfl
    have kB3_3 := hx_B3.cell 3 rfl
    go_simp
    try go_ints
    rfl
  refine walk_qg [(6, none), (83, some 1)] (by kernel_rfl) 8 83 true rfl rfl (fun b w' hx hs => by obtain ⟨-, h1, -⟩ := hs; exact h1) ?_
  apply Exists.intro
  refine ⟨fun b w' hx hs => ?_, ?_⟩
  · obtain ⟨h0, h1, -⟩ := hs
    change _ = _ at h0
    change _ = _ at h1
    rw [eval_tmp] at h0 h1
    have hx_B1 := B1.ext hx
    have kB1_0 := hx_B1.cell 0 rfl
    have kB1_1 := hx_B1.cell 1 rfl
    have kB1_2 := hx_B1.cell 2 rfl
    have kB1_3 := hx_B1.cell 3 rfl
    have hx_B2 := B2.ext hx
    have kB2_0 := hx_B2.cell 0 rfl
    have kB2_1 := hx_B2.cell 1 rfl
    have kB2_2 := hx_B2.cell 2 rfl
    have kB2_3 := hx_B2.cell 3 rfl
    have hx_B3 := B3.ext hx
    have kB3_0 := hx_B3.cell 0 rfl
    have kB3_1 := hx_B3.cell 1 rfl
    have kB3_2 := hx_B3.cell 2 rfl
    have kB3_3 := hx_B3.cell 3 rfl
    go_simp
    try go_ints
    rfl
  refine walk_cg [(84, some 1), (85, some 0), (83, some 2)] (by kernel_rfl) 8 83 true rfl rfl (fun b w' hx hs => by obtain ⟨-, -, h2, -⟩ := hs; exact h2) (fun w' v => IsNum w' v (some ((qa * qb)))) (fun _ _ _ x h => by first | exact h | exact h.ext x) (fun b w' hx hs => ?_) ?_
  · as_aux_lemma =>
      obtain ⟨h0, h1, h2, -⟩ := hs
      change _ = _ at h0
      change _ = _ at h1
      change _ = _ at h2
      rw [eval_tmp] at h0 h1 h2
      go_simp
      refine upon_enter ((mul_any _ (hT.ext hx) (n1.ext hx) (n2.ext hx)).mono fun ed w2 ⟨v, he, hx2, hn⟩ => ⟨v, he, hx2, ?_⟩)
      rw [mulO_sz (n := 2149) (m := 2149) (ZA.out) (ZB.out) (by omega)] at hn
      first | exact hn | simpa using hn
  refine walk_qg [(7, none), (83, some 3)] (by kernel_rfl) 8 83 true rfl rfl (fun b w' hx hs => by obtain ⟨-, h1, -⟩ := hs; exact h1) ?_
  apply Exists.intro
  refine ⟨fun b w' hx hs => ?_, ?_⟩
  · obtain ⟨h0, h1, -⟩ := hs
    change _ = _ at h0
    change _ = _ at h1
    rw [eval_tmp] at h0 h1
    have hx_B1 := B1.ext hx
    have kB1_0 := hx_B1.cell 0 rfl
    have kB1_1 := hx_B1.cell 1 rfl
    have kB1_2 := hx_B1.cell 2 rfl
    have kB1_3 := hx_B1.cell 3 rfl
    have hx_B2 := B2.ext hx
    have kB2_0 := hx_B2.cell 0 rfl
    have kB2_1 := hx_B2.cell 1 rfl
    have kB2_2 := hx_B2.cell 2 rfl
    have kB2_3 := hx_B2.cell 3 rfl
    have hx_B3 := B3.ext hx
    have kB3_0 := hx_B3.cell 0 rfl
    have kB3_1 := hx_B3.cell 1 rfl
    have kB3_2 := hx_B3.cell 2 rfl
    have kB3_3 := hx_B3.cell 3 rfl
    go_simp
    try go_ints
    rfl
  refine walk_cg [(86, some 1), (87, some 0), (83, some 4)] (by kernel_rfl) 8 83 true rfl rfl (fun b w' hx hs => by obtain ⟨-, -, h2, -⟩ := hs; exact h2) (fun w' v => IsNum w' v (some (((qa * qb) * qc)))) (fun _ _ _ x h => by first | exact h | exact h.ext x) (fun b w' hx hs => ?_) ?_
  · as_aux_lemma =>
      obtain ⟨h0, h1, h2, -⟩ := hs
      change _ = _ at h1
      change _ = _ at h2
      rw [eval_tmp] at h0 h1 h2
      go_simp
      refine upon_enter ((mul_any _ (hT.ext hx) (show IsNum _ _ (some ((qa * qb))) from by rw [← eval_tmp] at *; exact h0) (n3.ext hx)).mono fun ed w2 ⟨v, he, hx2, hn⟩ => ⟨v, he, hx2, ?_⟩)
      rw [mulO_sz (n := 4298) (m := 2149) ((show Sz 4298 ((qa * qb)) from ((Sz.mul (ZA.out) (ZB.out)).mono (by omega)))) (ZC.out) (by omega)] at hn
      first | exact hn | simpa using hn
  refine walk_qg [(5, none), (83, some 5)] (by kernel_rfl) 8 83 true rfl rfl (fun b w' hx hs => by obtain ⟨-, h1, -⟩ := hs; exact h1) ?_
  apply Exists.intro
  refine ⟨fun b w' hx hs => ?_, ?_⟩
  · obtain ⟨h0, h1, -⟩ := hs
    change _ = _ at h0
    change _ = _ at h1
    rw [eval_tmp] at h0 h1
    have hx_B1 := B1.ext hx
    have kB1_0 := hx_B1.cell 0 rfl
    have kB1_1 := hx_B1.cell 1 rfl
    have kB1_2 := hx_B1.cell 2 rfl
    have kB1_3 := hx_B1.cell 3 rfl
    have hx_B2 := B2.ext hx
    have kB2_0 := hx_B2.cell 0 rfl
    have kB2_1 := hx_B2.cell 1 rfl
    have kB2_2 := hx_B2.cell 2 rfl
    have kB2_3 := hx_B2.cell 3 rfl
    have hx_B3 := B3.ext hx
    have kB3_0 := hx_B3.cell 0 rfl
    have kB3_1 := hx_B3.cell 1 rfl
    have kB3_2 := hx_B3.cell 2 rfl
    have kB3_3 := hx_B3.cell 3 rfl
    go_simp
    try go_ints
    rfl
  refine walk_qg [(6, none), (83, some 6)] (by kernel_rfl) 8 83 true rfl rfl (fun b w' hx hs => by obtain ⟨-, h1, -⟩ := hs; exact h1) ?_
  apply Exists.intro
  refine ⟨fun b w' hx hs => ?_, ?_⟩
  · obtain ⟨h0, h1, -⟩ := hs
    change _ = _ at h0
    change _ = _ at h1
    rw [eval_tmp] at h0 h1
    have hx_B1 := B1.ext hx
    have kB1_0 := hx_B1.cell 0 rfl
    have kB1_1 := hx_B1.cell 1 rfl
    have kB1_2 := hx_B1.cell 2 rfl
    have kB1_3 := hx_B1.cell 3 rfl
    have hx_B2 := B2.ext hx
    have kB2_0 := hx_B2.cell 0 rfl
    have kB2_1 := hx_B2.cell 1 rfl
    have kB2_2 := hx_B2.cell 2 rfl
    have kB2_3 := hx_B2.cell 3 rfl
    have hx_B3 := B3.ext hx
    have kB3_0 := hx_B3.cell 0 rfl
    have kB3_1 := hx_B3.cell 1 rfl
    have kB3_2 := hx_B3.cell 2 rfl
    have kB3_3 := hx_B3.cell 3 rfl
    go_simp
    try go_ints
    rfl
  refine walk_qg [(7, none), (83, some 7)] (by kernel_rfl) 8 83 true rfl rfl (fun b w' hx hs => by obtain ⟨-, h1, -⟩ := hs; exact h1) ?_
  apply Exists.intro
  refine ⟨fun b w' hx hs => ?_, ?_⟩
  · obtain ⟨h0, h1, -⟩ := hs
    change _ = _ at h0
    change _ = _ at h1
    rw [eval_tmp] at h0 h1
    have hx_B1 := B1.ext hx
    have kB1_0 := hx_B1.cell 0 rfl
    have kB1_1 := hx_B1.cell 1 rfl
    have kB1_2 := hx_B1.cell 2 rfl
    have kB1_3 := hx_B1.cell 3 rfl
    have hx_B2 := B2.ext hx
    have kB2_0 := hx_B2.cell 0 rfl
    have kB2_1 := hx_B2.cell 1 rfl
    have kB2_2 := hx_B2.cell 2 rfl
    have kB2_3 := hx_B2.cell 3 rfl
    have hx_B3 := B3.ext hx
    have kB3_0 := hx_B3.cell 0 rfl
    have kB3_1 := hx_B3.cell 1 rfl
    have kB3_2 := hx_B3.cell 2 rfl
    have kB3_3 := hx_B3.cell 3 rfl
    go_simp
    try go_ints
    rfl
  refine walk_cg [(90, some 1), (91, some 0), (83, some 8)] (by kernel_rfl) 8 83 true rfl rfl (fun b w' hx hs => by obtain ⟨-, -, h2, -⟩ := hs; exact h2) (fun w' v => IsNum w' v (some ((qb * qc)))) (fun _ _ _ x h => by first | exact h | exact h.ext x) (fun b w' hx hs => ?_) ?_
  · as_aux_lemma =>
      obtain ⟨h0, h1, h2, -⟩ := hs
      change _ = _ at h0
      change _ = _ at h1
      change _ = _ at h2
      rw [eval_tmp] at h0 h1 h2
      go_simp
      refine upon_enter ((mul_any _ (hT.ext hx) (n2.ext hx) (n3.ext hx)).mono fun ed w2 ⟨v, he, hx2, hn⟩ => ⟨v, he, hx2, ?_⟩)
      rw [mulO_sz (n := 2149) (m := 2149) (ZB.out) (ZC.out) (by omega)] at hn
      first | exact hn | simpa using hn
  refine walk_cg [(89, some 3), (92, some 0), (83, some 9)] (by kernel_rfl) 8 83 true rfl rfl (fun b w' hx hs => by obtain ⟨-, -, h2, -⟩ := hs; exact h2) (fun w' v => IsNum w' v (some ((qa * (qb * qc))))) (fun _ _ _ x h => by first | exact h | exact h.ext x) (fun b w' hx hs => ?_) ?_
  · as_aux_lemma =>
      obtain ⟨h0, h1, h2, -⟩ := hs
      change _ = _ at h0
      change _ = _ at h2
      rw [eval_tmp] at h0 h1 h2
      go_simp
      refine upon_enter ((mul_any _ (hT.ext hx) (n1.ext hx) (show IsNum _ _ (some ((qb * qc))) from by rw [← eval_tmp] at *; exact h1)).mono fun ed w2 ⟨v, he, hx2, hn⟩ => ⟨v, he, hx2, ?_⟩)
      rw [mulO_sz (n := 2149) (m := 4298) (ZA.out) ((show Sz 4298 ((qb * qc)) from ((Sz.mul (ZB.out) (ZC.out)).mono (by omega)))) (by omega)] at hn
      first | exact hn | simpa using hn
  refine walk_cg [(88, some 5), (93, some 0), (83, some 10)] (by kernel_rfl) 8 83 true rfl rfl (fun b w' hx hs => by obtain ⟨-, -, h2, -⟩ := hs; exact h2) (fun _ v => v = .int .i64 (0)) (fun _ _ _ x h => by first | exact h | exact h.ext x) (fun b w' hx hs => ?_) ?_
  · as_aux_lemma =>
      obtain ⟨h0, h1, h2, -⟩ := hs
      change _ = _ at h2
      rw [eval_tmp] at h0 h1 h2
      go_simp
      refine upon_enter ((cmp_num _ (hT.ext hx) (show IsNum _ _ (some (((qa * qb) * qc))) from by rw [← eval_tmp] at *; exact h0) (show IsNum _ _ (some ((qa * (qb * qc)))) from by rw [← eval_tmp] at *; exact h1)).mono fun ed w2 ⟨he, hx2⟩ => ⟨_, he, hx2, ?_⟩)
      rw [cmpO_sz (n := 6447) ((show Sz 6447 (((qa * qb) * qc)) from ((Sz.mul ((show Sz 4298 ((qa * qb)) from ((Sz.mul (ZA.out) (ZB.out)).mono (by omega)))) (ZC.out)).mono (by omega)))) ((show Sz 6447 ((qa * (qb * qc))) from ((Sz.mul (ZA.out) ((show Sz 4298 ((qb * qc)) from ((Sz.mul (ZB.out) (ZC.out)).mono (by omega))))).mono (by omega)))) (by omega)]
      have hval : sg (((qa * qb) * qc) - (qa * (qb * qc))) = 0 := by first | exact sg_eq0 (by grind) | exact sg_pos (by grind) | exact sg_neg (by grind) | rfl
      rw [hval]
  refine walk_qg [(94, some 0), (83, some 11)] (by kernel_rfl) 8 83 true rfl rfl (fun b w' hx hs => by obtain ⟨-, h1, -⟩ := hs; exact h1) ?_
  apply Exists.intro
  refine ⟨fun b w' hx hs => ?_, ?_⟩
  · obtain ⟨h0, h1, -⟩ := hs
    change _ = _ at h0
    change _ = _ at h1
    rw [eval_tmp] at h0 h1
    go_simp
    try go_ints
    rfl
  refine walk_q [(83, some 12), (95, some 0)] (by kernel_rfl) rfl ?_
  apply Exists.intro
  refine ⟨fun b w' hx hs => ?_, ?_⟩
  · obtain ⟨h0, h1, -⟩ := hs
    change _ = _ at h0
    change _ = _ at h1
    rw [eval_tmp] at h0 h1
    go_simp
    try go_ints
    rfl
  refine walk_q [(96, some 0)] (by kernel_rfl) rfl ?_
  apply Exists.intro
  refine ⟨fun b w' hx hs => ?_, ?_⟩
  · obtain ⟨h0, -⟩ := hs
    change _ = _ at h0
    rw [eval_tmp] at h0
    go_simp
    try go_ints
    rfl
  refine walk_qg [(5, none), (97, some 0)] (by kernel_rfl) 22 97 true rfl rfl (fun b w' hx hs => by obtain ⟨-, h1, -⟩ := hs; exact h1) ?_
  apply Exists.intro
  refine ⟨fun b w' hx hs => ?_, ?_⟩
  · obtain ⟨h0, h1, -⟩ := hs
    change _ = _ at h0
    change _ = _ at h1
    rw [eval_tmp] at h0 h1
    have hx_B1 := B1.ext hx
    have kB1_0 := hx_B1.cell 0 rfl
    have kB1_1 := hx_B1.cell 1 rfl
    have kB1_2 := hx_B1.cell 2 rfl
    have kB1_3 := hx_B1.cell 3 rfl
    have hx_B2 := B2.ext hx
    have kB2_0 := hx_B2.cell 0 rfl
    have kB2_1 := hx_B2.cell 1 rfl
    have kB2_2 := hx_B2.cell 2 rfl
    have kB2_3 := hx_B2.cell 3 rfl
    have hx_B3 := B3.ext hx
    have kB3_0 := hx_B3.cell 0 rfl
    have kB3_1 := hx_B3.cell 1 rfl
    have kB3_2 := hx_B3.cell 2 rfl
    have kB3_3 := hx_B3.cell 3 rfl
    go_simp
    try go_ints
    rfl
  refine walk_qg [(6, none), (97, some 1)] (by kernel_rfl) 22 97 true rfl rfl (fun b w' hx hs => by obtain ⟨-, h1, -⟩ := hs; exact h1) ?_
  apply Exists.intro
  refine ⟨fun b w' hx hs => ?_, ?_⟩
  · obtain ⟨h0, h1, -⟩ := hs
    change _ = _ at h0
    change _ = _ at h1
    rw [eval_tmp] at h0 h1
    have hx_B1 := B1.ext hx
    have kB1_0 := hx_B1.cell 0 rfl
    have kB1_1 := hx_B1.cell 1 rfl
    have kB1_2 := hx_B1.cell 2 rfl
    have kB1_3 := hx_B1.cell 3 rfl
    have hx_B2 := B2.ext hx
    have kB2_0 := hx_B2.cell 0 rfl
    have kB2_1 := hx_B2.cell 1 rfl
    have kB2_2 := hx_B2.cell 2 rfl
    have kB2_3 := hx_B2.cell 3 rfl
    have hx_B3 := B3.ext hx
    have kB3_0 := hx_B3.cell 0 rfl
    have kB3_1 := hx_B3.cell 1 rfl
    have kB3_2 := hx_B3.cell 2 rfl
    have kB3_3 := hx_B3.cell 3 rfl
    go_simp
    try go_ints
    rfl
  refine walk_cg [(98, some 1), (99, some 0), (97, some 2)] (by kernel_rfl) 22 97 true rfl rfl (fun b w' hx hs => by obtain ⟨-, -, h2, -⟩ := hs; exact h2) (fun w' v => IsNum w' v (some ((qa + qb)))) (fun _ _ _ x h => by first | exact h | exact h.ext x) (fun b w' hx hs => ?_) ?_
  · as_aux_lemma =>
      obtain ⟨h0, h1, h2, -⟩ := hs
      change _ = _ at h0
      change _ = _ at h1
      change _ = _ at h2
      rw [eval_tmp] at h0 h1 h2
      go_simp
      refine upon_enter ((add_any _ (hT.ext hx) (n1.ext hx) (n2.ext hx)).mono fun ed w2 ⟨v, he, hx2, hn⟩ => ⟨v, he, hx2, ?_⟩)
      rw [addO_sz (n := 2149) (ZA.out) (ZB.out) (by omega)] at hn
      first | exact hn | simpa using hn
  refine walk_qg [(7, none), (97, some 3)] (by kernel_rfl) 22 97 true rfl rfl (fun b w' hx hs => by obtain ⟨-, h1, -⟩ := hs; exact h1) ?_
  apply Exists.intro
  refine ⟨fun b w' hx hs => ?_, ?_⟩
  · obtain ⟨h0, h1, -⟩ := hs
    change _ = _ at h0
    change _ = _ at h1
    rw [eval_tmp] at h0 h1
    have hx_B1 := B1.ext hx
    have kB1_0 := hx_B1.cell 0 rfl
    have kB1_1 := hx_B1.cell 1 rfl
    have kB1_2 := hx_B1.cell 2 rfl
    have kB1_3 := hx_B1.cell 3 rfl
    have hx_B2 := B2.ext hx
    have kB2_0 := hx_B2.cell 0 rfl
    have kB2_1 := hx_B2.cell 1 rfl
    have kB2_2 := hx_B2.cell 2 rfl
    have kB2_3 := hx_B2.cell 3 rfl
    have hx_B3 := B3.ext hx
    have kB3_0 := hx_B3.cell 0 rfl
    have kB3_1 := hx_B3.cell 1 rfl
    have kB3_2 := hx_B3.cell 2 rfl
    have kB3_3 := hx_B3.cell 3 rfl
    go_simp
    try go_ints
    rfl
  refine walk_cg [(100, some 1), (101, some 0), (97, some 4)] (by kernel_rfl) 22 97 true rfl rfl (fun b w' hx hs => by obtain ⟨-, -, h2, -⟩ := hs; exact h2) (fun w' v => IsNum w' v (some (((qa + qb) * qc)))) (fun _ _ _ x h => by first | exact h | exact h.ext x) (fun b w' hx hs => ?_) ?_
  · as_aux_lemma =>
      obtain ⟨h0, h1, h2, -⟩ := hs
      change _ = _ at h1
      change _ = _ at h2
      rw [eval_tmp] at h0 h1 h2
      go_simp
      refine upon_enter ((mul_any _ (hT.ext hx) (show IsNum _ _ (some ((qa + qb))) from by rw [← eval_tmp] at *; exact h0) (n3.ext hx)).mono fun ed w2 ⟨v, he, hx2, hn⟩ => ⟨v, he, hx2, ?_⟩)
      rw [mulO_sz (n := 2150) (m := 2149) ((show Sz 2150 ((qa + qb)) from (Sz.add (ZA.out) (ZB.out)))) (ZC.out) (by omega)] at hn
      first | exact hn | simpa using hn
  refine walk_qg [(5, none), (97, some 5)] (by kernel_rfl) 22 97 true rfl rfl (fun b w' hx hs => by obtain ⟨-, h1, -⟩ := hs; exact h1) ?_
  apply Exists.intro
  refine ⟨fun b w' hx hs => ?_, ?_⟩
  · obtain ⟨h0, h1, -⟩ := hs
    change _ = _ at h0
    change _ = _ at h1
    rw [eval_tmp] at h0 h1
    have hx_B1 := B1.ext hx
    have kB1_0 := hx_B1.cell 0 rfl
    have kB1_1 := hx_B1.cell 1 rfl
    have kB1_2 := hx_B1.cell 2 rfl
    have kB1_3 := hx_B1.cell 3 rfl
    have hx_B2 := B2.ext hx
    have kB2_0 := hx_B2.cell 0 rfl
    have kB2_1 := hx_B2.cell 1 rfl
    have kB2_2 := hx_B2.cell 2 rfl
    have kB2_3 := hx_B2.cell 3 rfl
    have hx_B3 := B3.ext hx
    have kB3_0 := hx_B3.cell 0 rfl
    have kB3_1 := hx_B3.cell 1 rfl
    have kB3_2 := hx_B3.cell 2 rfl
    have kB3_3 := hx_B3.cell 3 rfl
    go_simp
    try go_ints
    rfl
  refine walk_qg [(7, none), (97, some 6)] (by kernel_rfl) 22 97 true rfl rfl (fun b w' hx hs => by obtain ⟨-, h1, -⟩ := hs; exact h1) ?_
  apply Exists.intro
  refine ⟨fun b w' hx hs => ?_, ?_⟩
  · obtain ⟨h0, h1, -⟩ := hs
    change _ = _ at h0
    change _ = _ at h1
    rw [eval_tmp] at h0 h1
    have hx_B1 := B1.ext hx
    have kB1_0 := hx_B1.cell 0 rfl
    have kB1_1 := hx_B1.cell 1 rfl
    have kB1_2 := hx_B1.cell 2 rfl
    have kB1_3 := hx_B1.cell 3 rfl
    have hx_B2 := B2.ext hx
    have kB2_0 := hx_B2.cell 0 rfl
    have kB2_1 := hx_B2.cell 1 rfl
    have kB2_2 := hx_B2.cell 2 rfl
    have kB2_3 := hx_B2.cell 3 rfl
    have hx_B3 := B3.ext hx
    have kB3_0 := hx_B3.cell 0 rfl
    have kB3_1 := hx_B3.cell 1 rfl
    have kB3_2 := hx_B3.cell 2 rfl
    have kB3_3 := hx_B3.cell 3 rfl
    go_simp
    try go_ints
    rfl
  refine walk_cg [(103, some 1), (104, some 0), (97, some 7)] (by kernel_rfl) 22 97 true rfl rfl (fun b w' hx hs => by obtain ⟨-, -, h2, -⟩ := hs; exact h2) (fun w' v => IsNum w' v (some ((qa * qc)))) (fun _ _ _ x h => by first | exact h | exact h.ext x) (fun b w' hx hs => ?_) ?_
  · as_aux_lemma =>
      obtain ⟨h0, h1, h2, -⟩ := hs
      change _ = _ at h0
      change _ = _ at h1
      change _ = _ at h2
      rw [eval_tmp] at h0 h1 h2
      go_simp
      refine upon_enter ((mul_any _ (hT.ext hx) (n1.ext hx) (n3.ext hx)).mono fun ed w2 ⟨v, he, hx2, hn⟩ => ⟨v, he, hx2, ?_⟩)
      rw [mulO_sz (n := 2149) (m := 2149) (ZA.out) (ZC.out) (by omega)] at hn
      first | exact hn | simpa using hn
  refine walk_qg [(6, none), (97, some 8)] (by kernel_rfl) 22 97 true rfl rfl (fun b w' hx hs => by obtain ⟨-, h1, -⟩ := hs; exact h1) ?_
  apply Exists.intro
  refine ⟨fun b w' hx hs => ?_, ?_⟩
  · obtain ⟨h0, h1, -⟩ := hs
    change _ = _ at h0
    change _ = _ at h1
    rw [eval_tmp] at h0 h1
    have hx_B1 := B1.ext hx
    have kB1_0 := hx_B1.cell 0 rfl
    have kB1_1 := hx_B1.cell 1 rfl
    have kB1_2 := hx_B1.cell 2 rfl
    have kB1_3 := hx_B1.cell 3 rfl
    have hx_B2 := B2.ext hx
    have kB2_0 := hx_B2.cell 0 rfl
    have kB2_1 := hx_B2.cell 1 rfl
    have kB2_2 := hx_B2.cell 2 rfl
    have kB2_3 := hx_B2.cell 3 rfl
    have hx_B3 := B3.ext hx
    have kB3_0 := hx_B3.cell 0 rfl
    have kB3_1 := hx_B3.cell 1 rfl
    have kB3_2 := hx_B3.cell 2 rfl
    have kB3_3 := hx_B3.cell 3 rfl
    go_simp
    try go_ints
    rfl
  refine walk_qg [(7, none), (97, some 9)] (by kernel_rfl) 22 97 true rfl rfl (fun b w' hx hs => by obtain ⟨-, h1, -⟩ := hs; exact h1) ?_
  apply Exists.intro
  refine ⟨fun b w' hx hs => ?_, ?_⟩
  · obtain ⟨h0, h1, -⟩ := hs
    change _ = _ at h0
    change _ = _ at h1
    rw [eval_tmp] at h0 h1
    have hx_B1 := B1.ext hx
    have kB1_0 := hx_B1.cell 0 rfl
    have kB1_1 := hx_B1.cell 1 rfl
    have kB1_2 := hx_B1.cell 2 rfl
    have kB1_3 := hx_B1.cell 3 rfl
    have hx_B2 := B2.ext hx
    have kB2_0 := hx_B2.cell 0 rfl
    have kB2_1 := hx_B2.cell 1 rfl
    have kB2_2 := hx_B2.cell 2 rfl
    have kB2_3 := hx_B2.cell 3 rfl
    have hx_B3 := B3.ext hx
    have kB3_0 := hx_B3.cell 0 rfl
    have kB3_1 := hx_B3.cell 1 rfl
    have kB3_2 := hx_B3.cell 2 rfl
    have kB3_3 := hx_B3.cell 3 rfl
    go_simp
    try go_ints
    rfl
  refine walk_cg [(106, some 1), (107, some 0), (97, some 10)] (by kernel_rfl) 22 97 true rfl rfl (fun b w' hx hs => by obtain ⟨-, -, h2, -⟩ := hs; exact h2) (fun w' v => IsNum w' v (some ((qb * qc)))) (fun _ _ _ x h => by first | exact h | exact h.ext x) (fun b w' hx hs => ?_) ?_
  · as_aux_lemma =>
      obtain ⟨h0, h1, h2, -⟩ := hs
      change _ = _ at h0
      change _ = _ at h1
      change _ = _ at h2
      rw [eval_tmp] at h0 h1 h2
      go_simp
      refine upon_enter ((mul_any _ (hT.ext hx) (n2.ext hx) (n3.ext hx)).mono fun ed w2 ⟨v, he, hx2, hn⟩ => ⟨v, he, hx2, ?_⟩)
      rw [mulO_sz (n := 2149) (m := 2149) (ZB.out) (ZC.out) (by omega)] at hn
      first | exact hn | simpa using hn
  refine walk_cg [(105, some 3), (108, some 0), (97, some 11)] (by kernel_rfl) 22 97 true rfl rfl (fun b w' hx hs => by obtain ⟨-, -, h2, -⟩ := hs; exact h2) (fun w' v => IsNum w' v (some (((qa * qc) + (qb * qc))))) (fun _ _ _ x h => by first | exact h | exact h.ext x) (fun b w' hx hs => ?_) ?_
  · as_aux_lemma =>
      obtain ⟨h0, h1, h2, -⟩ := hs
      change _ = _ at h2
      rw [eval_tmp] at h0 h1 h2
      go_simp
      refine upon_enter ((add_any _ (hT.ext hx) (show IsNum _ _ (some ((qa * qc))) from by rw [← eval_tmp] at *; exact h0) (show IsNum _ _ (some ((qb * qc))) from by rw [← eval_tmp] at *; exact h1)).mono fun ed w2 ⟨v, he, hx2, hn⟩ => ⟨v, he, hx2, ?_⟩)
      rw [addO_sz (n := 4298) ((show Sz 4298 ((qa * qc)) from ((Sz.mul (ZA.out) (ZC.out)).mono (by omega)))) ((show Sz 4298 ((qb * qc)) from ((Sz.mul (ZB.out) (ZC.out)).mono (by omega)))) (by omega)] at hn
      first | exact hn | simpa using hn
  refine walk_cg [(102, some 7), (109, some 0), (97, some 12)] (by kernel_rfl) 22 97 true rfl rfl (fun b w' hx hs => by obtain ⟨-, -, h2, -⟩ := hs; exact h2) (fun _ v => v = .int .i64 (0)) (fun _ _ _ x h => by first | exact h | exact h.ext x) (fun b w' hx hs => ?_) ?_
  · as_aux_lemma =>
      obtain ⟨h0, h1, h2, -⟩ := hs
      change _ = _ at h2
      rw [eval_tmp] at h0 h1 h2
      go_simp
      refine upon_enter ((cmp_num _ (hT.ext hx) (show IsNum _ _ (some (((qa + qb) * qc))) from by rw [← eval_tmp] at *; exact h0) (show IsNum _ _ (some (((qa * qc) + (qb * qc)))) from by rw [← eval_tmp] at *; exact h1)).mono fun ed w2 ⟨he, hx2⟩ => ⟨_, he, hx2, ?_⟩)
      rw [cmpO_sz (n := 4299) ((show Sz 4299 (((qa + qb) * qc)) from ((Sz.mul ((show Sz 2150 ((qa + qb)) from (Sz.add (ZA.out) (ZB.out)))) (ZC.out)).mono (by omega)))) ((show Sz 4299 (((qa * qc) + (qb * qc))) from (Sz.add ((show Sz 4298 ((qa * qc)) from ((Sz.mul (ZA.out) (ZC.out)).mono (by omega)))) ((show Sz 4298 ((qb * qc)) from ((Sz.mul (ZB.out) (ZC.out)).mono (by omega))))))) (by omega)]
      have hval : sg (((qa + qb) * qc) - ((qa * qc) + (qb * qc))) = 0 := by first | exact sg_eq0 (by grind) | exact sg_pos (by grind) | exact sg_neg (by grind) | rfl
      rw [hval]
  refine walk_qg [(110, some 0), (97, some 13)] (by kernel_rfl) 22 97 true rfl rfl (fun b w' hx hs => by obtain ⟨-, h1, -⟩ := hs; exact h1) ?_
  apply Exists.intro
  refine ⟨fun b w' hx hs => ?_, ?_⟩
  · obtain ⟨h0, h1, -⟩ := hs
    change _ = _ at h0
    change _ = _ at h1
    rw [eval_tmp] at h0 h1
    go_simp
    try go_ints
    rfl
  refine walk_q [(97, some 14), (111, some 0)] (by kernel_rfl) rfl ?_
  apply Exists.intro
  refine ⟨fun b w' hx hs => ?_, ?_⟩
  · obtain ⟨h0, h1, -⟩ := hs
    change _ = _ at h0
    change _ = _ at h1
    rw [eval_tmp] at h0 h1
    go_simp
    try go_ints
    rfl
  refine walk_q [(112, some 0)] (by kernel_rfl) rfl ?_
  apply Exists.intro
  refine ⟨fun b w' hx hs => ?_, ?_⟩
  · obtain ⟨h0, -⟩ := hs
    change _ = _ at h0
    rw [eval_tmp] at h0
    go_simp
    try go_ints
    rfl
  refine walk_end ?_
  intro w6 hx6
  rintro _ rfl
  rintro _ rfl
  rintro _ rfl
  rintro _ rfl
  intro v109 hv109
  intro v108 hv108
  rintro _ rfl
  rintro _ rfl
  intro v105 hv105
  rintro _ rfl
  rintro _ rfl
  intro v102 hv102
  rintro _ rfl
  intro v100 hv100
  rintro _ rfl
  rintro _ rfl
  rintro _ rfl
  rintro _ rfl
  rintro _ rfl
  rintro _ rfl
  intro v93 hv93
  intro v92 hv92
  rintro _ rfl
  rintro _ rfl
  rintro _ rfl
  intro v88 hv88
  rintro _ rfl
  intro v86 hv86
  rintro _ rfl
  rintro _ rfl
  rintro _ rfl
  rintro _ rfl
  rintro _ rfl
  intro v80 hv80
  rintro _ rfl
  rintro _ rfl
  intro v77 hv77
  rintro _ rfl
  rintro _ rfl
  unfold fin
  simp only [Act.put, List.setIfInBounds_toArray, List.set_cons_succ, List.set_cons_zero]
  replace B1 := B1.ext hx6
  replace B2 := B2.ext hx6
  replace B3 := B3.ext hx6
  replace n1 := n1.ext hx6
  replace n2 := n2.ext hx6
  replace n3 := n3.ext hx6
  replace hx := hx.trans hx6
  replace hT := hT.ext hx6
  clear hx6
  go_wp2
  have g1 := wrap_sg2 qa qb
  have g2 := wrap_sgn qa
  have g3 := wrap_sgn (qa - qb)
  refine wp_steady 3 206 (by kernel_rfl) (by as_aux_lemma => kernel_rfl) rfl ?_
  refine walk_q [(5, none)] (by kernel_rfl) rfl ?_
  apply Exists.intro
  refine ⟨fun b w' hx hs => ?_, ?_⟩
  · obtain ⟨h0, -⟩ := hs
    change _ = _ at h0
    rw [eval_tmp] at h0
    have hx_B1 := B1.ext hx
    have kB1_0 := hx_B1.cell 0 rfl
    have kB1_1 := hx_B1.cell 1 rfl
    have kB1_2 := hx_B1.cell 2 rfl
    have kB1_3 := hx_B1.cell 3 rfl
    have hx_B2 := B2.ext hx
    have kB2_0 := hx_B2.cell 0 rfl
    have kB2_1 := hx_B2.cell 1 rfl
    have kB2_2 := hx_B2.cell 2 rfl
    have kB2_3 := hx_B2.cell 3 rfl
    go_simp
    try go_ints
    rfl
  refine walk_q [(6, none)] (by kernel_rfl) rfl ?_
  apply Exists.intro
  refine ⟨fun b w' hx hs => ?_, ?_⟩
  · obtain ⟨h0, -⟩ := hs
    change _ = _ at h0
    rw [eval_tmp] at h0
    have hx_B1 := B1.ext hx
    have kB1_0 := hx_B1.cell 0 rfl
    have kB1_1 := hx_B1.cell 1 rfl
    have kB1_2 := hx_B1.cell 2 rfl
    have kB1_3 := hx_B1.cell 3 rfl
    have hx_B2 := B2.ext hx
    have kB2_0 := hx_B2.cell 0 rfl
    have kB2_1 := hx_B2.cell 1 rfl
    have kB2_2 := hx_B2.cell 2 rfl
    have kB2_3 := hx_B2.cell 3 rfl
    go_simp
    try go_ints
    rfl
  refine walk_c [(113, some 1), (114, some 0)] (by kernel_rfl) rfl (fun w' v => IsNum w' v (some ((qa * qb)))) (fun _ _ _ x h => by first | exact h | exact h.ext x) (fun b w' hx hs => ?_) ?_
  · as_aux_lemma =>
      obtain ⟨h0, h1, -⟩ := hs
      change _ = _ at h0
      change _ = _ at h1
      rw [eval_tmp] at h0 h1
      go_simp
      refine upon_enter ((mul_any _ (hT.ext hx) (n1.ext hx) (n2.ext hx)).mono fun ed w2 ⟨v, he, hx2, hn⟩ => ⟨v, he, hx2, ?_⟩)
      rw [mulO_sz (n := 2149) (m := 2149) (ZA.out) (ZB.out) (by omega)] at hn
      first | exact hn | simpa using hn
  refine walk_c [(115, some 0)] (by kernel_rfl) rfl (fun _ v => v = .int .i64 (sg qa * sg qb)) (fun _ _ _ x h => by first | exact h | exact h.ext x) (fun b w' hx hs => ?_) ?_
  · as_aux_lemma =>
      obtain ⟨h0, -⟩ := hs
      rw [eval_tmp] at h0
      go_simp
      refine upon_enter ((sign_any _ (show IsNum _ _ (some ((qa * qb))) from by rw [← eval_tmp] at *; exact h0)).mono fun ed w2 ⟨he, hx2⟩ => ⟨_, he, hx2, ?_⟩)
      rw [show sgO (some ((qa * qb))) = sg ((qa * qb)) from rfl]
      have hval : sg ((qa * qb)) = sg qa * sg qb := sg_mul qa qb
      rw [hval]
  refine walk_q [(5, none)] (by kernel_rfl) rfl ?_
  apply Exists.intro
  refine ⟨fun b w' hx hs => ?_, ?_⟩
  · obtain ⟨h0, -⟩ := hs
    change _ = _ at h0
    rw [eval_tmp] at h0
    have hx_B1 := B1.ext hx
    have kB1_0 := hx_B1.cell 0 rfl
    have kB1_1 := hx_B1.cell 1 rfl
    have kB1_2 := hx_B1.cell 2 rfl
    have kB1_3 := hx_B1.cell 3 rfl
    have hx_B2 := B2.ext hx
    have kB2_0 := hx_B2.cell 0 rfl
    have kB2_1 := hx_B2.cell 1 rfl
    have kB2_2 := hx_B2.cell 2 rfl
    have kB2_3 := hx_B2.cell 3 rfl
    go_simp
    try go_ints
    rfl
  refine walk_c [(117, some 0)] (by kernel_rfl) rfl (fun _ v => v = .int .i64 (sg (qa))) (fun _ _ _ x h => by first | exact h | exact h.ext x) (fun b w' hx hs => ?_) ?_
  · as_aux_lemma =>
      obtain ⟨h0, -⟩ := hs
      change _ = _ at h0
      rw [eval_tmp] at h0
      go_simp
      refine upon_enter ((sign_any _ (n1.ext hx)).mono fun ed w2 ⟨he, hx2⟩ => ⟨_, he, hx2, ?_⟩)
      rw [show sgO (some (qa)) = sg (qa) from rfl]
  refine walk_q [(6, none)] (by kernel_rfl) rfl ?_
  apply Exists.intro
  refine ⟨fun b w' hx hs => ?_, ?_⟩
  · obtain ⟨h0, -⟩ := hs
    change _ = _ at h0
    rw [eval_tmp] at h0
    have hx_B1 := B1.ext hx
    have kB1_0 := hx_B1.cell 0 rfl
    have kB1_1 := hx_B1.cell 1 rfl
    have kB1_2 := hx_B1.cell 2 rfl
    have kB1_3 := hx_B1.cell 3 rfl
    have hx_B2 := B2.ext hx
    have kB2_0 := hx_B2.cell 0 rfl
    have kB2_1 := hx_B2.cell 1 rfl
    have kB2_2 := hx_B2.cell 2 rfl
    have kB2_3 := hx_B2.cell 3 rfl
    go_simp
    try go_ints
    rfl
  refine walk_c [(119, some 0)] (by kernel_rfl) rfl (fun _ v => v = .int .i64 (sg (qb))) (fun _ _ _ x h => by first | exact h | exact h.ext x) (fun b w' hx hs => ?_) ?_
  · as_aux_lemma =>
      obtain ⟨h0, -⟩ := hs
      change _ = _ at h0
      rw [eval_tmp] at h0
      go_simp
      refine upon_enter ((sign_any _ (n2.ext hx)).mono fun ed w2 ⟨he, hx2⟩ => ⟨_, he, hx2, ?_⟩)
      rw [show sgO (some (qb)) = sg (qb) from rfl]
  refine walk_q [(118, some 2), (120, some 0)] (by kernel_rfl) rfl ?_
  apply Exists.intro
  refine ⟨fun b w' hx hs => ?_, ?_⟩
  · obtain ⟨h0, h1, -⟩ := hs
    change _ = _ at h0
    change _ = _ at h1
    rw [eval_tmp] at h0 h1
    go_simp
    try go_ints
    rfl
  refine walk_q [(116, some 5), (121, some 0)] (by kernel_rfl) rfl ?_
  apply Exists.intro
  refine ⟨fun b w' hx hs => ?_, ?_⟩
  · obtain ⟨h0, h1, -⟩ := hs
    change _ = _ at h0
    change _ = _ at h1
    rw [eval_tmp] at h0 h1
    go_simp
    try go_ints
    rfl
  refine walk_q [(122, some 0)] (by kernel_rfl) rfl ?_
  apply Exists.intro
  refine ⟨fun b w' hx hs => ?_, ?_⟩
  · obtain ⟨h0, -⟩ := hs
    change _ = _ at h0
    rw [eval_tmp] at h0
    go_simp
    try go_ints
    rfl
  refine walk_qg [(5, none), (123, some 0)] (by kernel_rfl) 10 123 true rfl rfl (fun b w' hx hs => by obtain ⟨-, h1, -⟩ := hs; exact h1) ?_
  apply Exists.intro
  refine ⟨fun b w' hx hs => ?_, ?_⟩
  · obtain ⟨h0, h1, -⟩ := hs
    change _ = _ at h0
    change _ = _ at h1
    rw [eval_tmp] at h0 h1
    have hx_B1 := B1.ext hx
    have kB1_0 := hx_B1.cell 0 rfl
    have kB1_1 := hx_B1.cell 1 rfl
    have kB1_2 := hx_B1.cell 2 rfl
    have kB1_3 := hx_B1.cell 3 rfl
    have hx_B2 := B2.ext hx
    have kB2_0 := hx_B2.cell 0 rfl
    have kB2_1 := hx_B2.cell 1 rfl
    have kB2_2 := hx_B2.cell 2 rfl
    have kB2_3 := hx_B2.cell 3 rfl
    go_simp
    try go_ints
    rfl
  refine walk_cg [(124, some 0), (123, some 1)] (by kernel_rfl) 10 123 true rfl rfl (fun b w' hx hs => by obtain ⟨-, h1, -⟩ := hs; exact h1) (fun w' v => IsNum w' v (some ((-qa)))) (fun _ _ _ x h => by first | exact h | exact h.ext x) (fun b w' hx hs => ?_) ?_
  · as_aux_lemma =>
      obtain ⟨h0, h1, -⟩ := hs
      change _ = _ at h0
      change _ = _ at h1
      rw [eval_tmp] at h0 h1
      go_simp
      refine upon_enter ((neg_any _ (n1.ext hx)).mono fun ed w2 ⟨v, he, hx2, hn⟩ => ⟨v, he, hx2, ?_⟩)
      rw [negO_some] at hn
      first | exact hn | simpa using hn
  refine walk_cg [(125, some 0), (123, some 2)] (by kernel_rfl) 10 123 true rfl rfl (fun b w' hx hs => by obtain ⟨-, h1, -⟩ := hs; exact h1) (fun _ v => v = .int .i64 (-sg qa)) (fun _ _ _ x h => by first | exact h | exact h.ext x) (fun b w' hx hs => ?_) ?_
  · as_aux_lemma =>
      obtain ⟨h0, h1, -⟩ := hs
      change _ = _ at h1
      rw [eval_tmp] at h0 h1
      go_simp
      refine upon_enter ((sign_any _ (show IsNum _ _ (some ((-qa))) from by rw [← eval_tmp] at *; exact h0)).mono fun ed w2 ⟨he, hx2⟩ => ⟨_, he, hx2, ?_⟩)
      rw [show sgO (some ((-qa))) = sg ((-qa)) from rfl]
      have hval : sg ((-qa)) = -sg qa := sg_neg_eq qa
      rw [hval]
  refine walk_qg [(5, none), (123, some 3)] (by kernel_rfl) 10 123 true rfl rfl (fun b w' hx hs => by obtain ⟨-, h1, -⟩ := hs; exact h1) ?_
  apply Exists.intro
  refine ⟨fun b w' hx hs => ?_, ?_⟩
  · obtain ⟨h0, h1, -⟩ := hs
    change _ = _ at h0
    change _ = _ at h1
    rw [eval_tmp] at h0 h1
    have hx_B1 := B1.ext hx
    have kB1_0 := hx_B1.cell 0 rfl
    have kB1_1 := hx_B1.cell 1 rfl
    have kB1_2 := hx_B1.cell 2 rfl
    have kB1_3 := hx_B1.cell 3 rfl
    have hx_B2 := B2.ext hx
    have kB2_0 := hx_B2.cell 0 rfl
    have kB2_1 := hx_B2.cell 1 rfl
    have kB2_2 := hx_B2.cell 2 rfl
    have kB2_3 := hx_B2.cell 3 rfl
    go_simp
    try go_ints
    rfl
  refine walk_cg [(127, some 0), (123, some 4)] (by kernel_rfl) 10 123 true rfl rfl (fun b w' hx hs => by obtain ⟨-, h1, -⟩ := hs; exact h1) (fun _ v => v = .int .i64 (sg (qa))) (fun _ _ _ x h => by first | exact h | exact h.ext x) (fun b w' hx hs => ?_) ?_
  · as_aux_lemma =>
      obtain ⟨h0, h1, -⟩ := hs
      change _ = _ at h0
      change _ = _ at h1
      rw [eval_tmp] at h0 h1
      go_simp
      refine upon_enter ((sign_any _ (n1.ext hx)).mono fun ed w2 ⟨he, hx2⟩ => ⟨_, he, hx2, ?_⟩)
      rw [show sgO (some (qa)) = sg (qa) from rfl]
  refine walk_qg [(128, some 0), (123, some 5)] (by kernel_rfl) 10 123 true rfl rfl (fun b w' hx hs => by obtain ⟨-, h1, -⟩ := hs; exact h1) ?_
  apply Exists.intro
  refine ⟨fun b w' hx hs => ?_, ?_⟩
  · obtain ⟨h0, h1, -⟩ := hs
    change _ = _ at h0
    change _ = _ at h1
    rw [eval_tmp] at h0 h1
    go_simp
    try go_ints
    rfl
  refine walk_qg [(126, some 3), (129, some 0), (123, some 6)] (by kernel_rfl) 10 123 true rfl rfl (fun b w' hx hs => by obtain ⟨-, -, h2, -⟩ := hs; exact h2) ?_
  apply Exists.intro
  refine ⟨fun b w' hx hs => ?_, ?_⟩
  · obtain ⟨h0, h1, h2, -⟩ := hs
    change _ = _ at h0
    change _ = _ at h1
    change _ = _ at h2
    rw [eval_tmp] at h0 h1 h2
    go_simp
    try go_ints
    rfl
  refine walk_q [(123, some 7), (130, some 0)] (by kernel_rfl) rfl ?_
  apply Exists.intro
  refine ⟨fun b w' hx hs => ?_, ?_⟩
  · obtain ⟨h0, h1, -⟩ := hs
    change _ = _ at h0
    change _ = _ at h1
    rw [eval_tmp] at h0 h1
    go_simp
    try go_ints
    rfl
  refine walk_q [(131, some 0)] (by kernel_rfl) rfl ?_
  apply Exists.intro
  refine ⟨fun b w' hx hs => ?_, ?_⟩
  · obtain ⟨h0, -⟩ := hs
    change _ = _ at h0
    rw [eval_tmp] at h0
    go_simp
    try go_ints
    rfl
  refine walk_qg [(5, none), (132, some 0)] (by kernel_rfl) 19 132 true rfl rfl (fun b w' hx hs => by obtain ⟨-, h1, -⟩ := hs; exact h1) ?_
  apply Exists.intro
  refine ⟨fun b w' hx hs => ?_, ?_⟩
  · obtain ⟨h0, h1, -⟩ := hs
    change _ = _ at h0
    change _ = _ at h1
    rw [eval_tmp] at h0 h1
    have hx_B1 := B1.ext hx
    have kB1_0 := hx_B1.cell 0 rfl
    have kB1_1 := hx_B1.cell 1 rfl
    have kB1_2 := hx_B1.cell 2 rfl
    have kB1_3 := hx_B1.cell 3 rfl
    have hx_B2 := B2.ext hx
    have kB2_0 := hx_B2.cell 0 rfl
    have kB2_1 := hx_B2.cell 1 rfl
    have kB2_2 := hx_B2.cell 2 rfl
    have kB2_3 := hx_B2.cell 3 rfl
    go_simp
    try go_ints
    rfl
  refine walk_cg [(133, some 0), (132, some 1)] (by kernel_rfl) 19 132 true rfl rfl (fun b w' hx hs => by obtain ⟨-, h1, -⟩ := hs; exact h1) (fun w' v => IsNum w' v (some ((-qa)))) (fun _ _ _ x h => by first | exact h | exact h.ext x) (fun b w' hx hs => ?_) ?_
  · as_aux_lemma =>
      obtain ⟨h0, h1, -⟩ := hs
      change _ = _ at h0
      change _ = _ at h1
      rw [eval_tmp] at h0 h1
      go_simp
      refine upon_enter ((neg_any _ (n1.ext hx)).mono fun ed w2 ⟨v, he, hx2, hn⟩ => ⟨v, he, hx2, ?_⟩)
      rw [negO_some] at hn
      first | exact hn | simpa using hn
  refine walk_cg [(134, some 0), (132, some 2)] (by kernel_rfl) 19 132 true rfl rfl (fun b w' hx hs => by obtain ⟨-, h1, -⟩ := hs; exact h1) (fun w' v => IsNum w' v (some ((-(-qa))))) (fun _ _ _ x h => by first | exact h | exact h.ext x) (fun b w' hx hs => ?_) ?_
  · as_aux_lemma =>
      obtain ⟨h0, h1, -⟩ := hs
      change _ = _ at h1
      rw [eval_tmp] at h0 h1
      go_simp
      refine upon_enter ((neg_any _ (show IsNum _ _ (some ((-qa))) from by rw [← eval_tmp] at *; exact h0)).mono fun ed w2 ⟨v, he, hx2, hn⟩ => ⟨v, he, hx2, ?_⟩)
      rw [negO_some] at hn
      first | exact hn | simpa using hn
  refine walk_qg [(5, none), (132, some 3)] (by kernel_rfl) 19 132 true rfl rfl (fun b w' hx hs => by obtain ⟨-, h1, -⟩ := hs; exact h1) ?_
  apply Exists.intro
  refine ⟨fun b w' hx hs => ?_, ?_⟩
  · obtain ⟨h0, h1, -⟩ := hs
    change _ = _ at h0
    change _ = _ at h1
    rw [eval_tmp] at h0 h1
    have hx_B1 := B1.ext hx
    have kB1_0 := hx_B1.cell 0 rfl
    have kB1_1 := hx_B1.cell 1 rfl
    have kB1_2 := hx_B1.cell 2 rfl
    have kB1_3 := hx_B1.cell 3 rfl
    have hx_B2 := B2.ext hx
    have kB2_0 := hx_B2.cell 0 rfl
    have kB2_1 := hx_B2.cell 1 rfl
    have kB2_2 := hx_B2.cell 2 rfl
    have kB2_3 := hx_B2.cell 3 rfl
    go_simp
    try go_ints
    rfl
  refine walk_cg [(135, some 1), (136, some 0), (132, some 4)] (by kernel_rfl) 19 132 true rfl rfl (fun b w' hx hs => by obtain ⟨-, -, h2, -⟩ := hs; exact h2) (fun _ v => v = .int .i64 (0)) (fun _ _ _ x h => by first | exact h | exact h.ext x) (fun b w' hx hs => ?_) ?_
  · as_aux_lemma =>
      obtain ⟨h0, h1, h2, -⟩ := hs
      change _ = _ at h1
      change _ = _ at h2
      rw [eval_tmp] at h0 h1 h2
      go_simp
      refine upon_enter ((cmp_num _ (hT.ext hx) (show IsNum _ _ (some ((-(-qa)))) from by rw [← eval_tmp] at *; exact h0) (n1.ext hx)).mono fun ed w2 ⟨he, hx2⟩ => ⟨_, he, hx2, ?_⟩)
      rw [cmpO_sz (n := 2149) ((show Sz 2149 ((-(-qa))) from (Sz.neg ((show Sz 2149 ((-qa)) from (Sz.neg (ZA.out))))))) (ZA.out) (by omega)]
      have hval : sg ((-(-qa)) - qa) = 0 := by first | exact sg_eq0 (by grind) | exact sg_pos (by grind) | exact sg_neg (by grind) | rfl
      rw [hval]
  refine walk_qg [(137, some 0), (132, some 5)] (by kernel_rfl) 19 132 true rfl rfl (fun b w' hx hs => by obtain ⟨-, h1, -⟩ := hs; exact h1) ?_
  apply Exists.intro
  refine ⟨fun b w' hx hs => ?_, ?_⟩
  · obtain ⟨h0, h1, -⟩ := hs
    change _ = _ at h0
    change _ = _ at h1
    rw [eval_tmp] at h0 h1
    go_simp
    try go_ints
    rfl
  refine walk_q [(132, some 6), (138, some 0)] (by kernel_rfl) rfl ?_
  apply Exists.intro
  refine ⟨fun b w' hx hs => ?_, ?_⟩
  · obtain ⟨h0, h1, -⟩ := hs
    change _ = _ at h0
    change _ = _ at h1
    rw [eval_tmp] at h0 h1
    go_simp
    try go_ints
    rfl
  refine walk_q [(139, some 0)] (by kernel_rfl) rfl ?_
  apply Exists.intro
  refine ⟨fun b w' hx hs => ?_, ?_⟩
  · obtain ⟨h0, -⟩ := hs
    change _ = _ at h0
    rw [eval_tmp] at h0
    go_simp
    try go_ints
    rfl
  refine walk_qg [(5, none), (140, some 0)] (by kernel_rfl) 27 140 true rfl rfl (fun b w' hx hs => by obtain ⟨-, h1, -⟩ := hs; exact h1) ?_
  apply Exists.intro
  refine ⟨fun b w' hx hs => ?_, ?_⟩
  · obtain ⟨h0, h1, -⟩ := hs
    change _ = _ at h0
    change _ = _ at h1
    rw [eval_tmp] at h0 h1
    have hx_B1 := B1.ext hx
    have kB1_0 := hx_B1.cell 0 rfl
    have kB1_1 := hx_B1.cell 1 rfl
    have kB1_2 := hx_B1.cell 2 rfl
    have kB1_3 := hx_B1.cell 3 rfl
    have hx_B2 := B2.ext hx
    have kB2_0 := hx_B2.cell 0 rfl
    have kB2_1 := hx_B2.cell 1 rfl
    have kB2_2 := hx_B2.cell 2 rfl
    have kB2_3 := hx_B2.cell 3 rfl
    go_simp
    try go_ints
    rfl
  refine walk_qg [(6, none), (140, some 1)] (by kernel_rfl) 27 140 true rfl rfl (fun b w' hx hs => by obtain ⟨-, h1, -⟩ := hs; exact h1) ?_
  apply Exists.intro
  refine ⟨fun b w' hx hs => ?_, ?_⟩
  · obtain ⟨h0, h1, -⟩ := hs
    change _ = _ at h0
    change _ = _ at h1
    rw [eval_tmp] at h0 h1
    have hx_B1 := B1.ext hx
    have kB1_0 := hx_B1.cell 0 rfl
    have kB1_1 := hx_B1.cell 1 rfl
    have kB1_2 := hx_B1.cell 2 rfl
    have kB1_3 := hx_B1.cell 3 rfl
    have hx_B2 := B2.ext hx
    have kB2_0 := hx_B2.cell 0 rfl
    have kB2_1 := hx_B2.cell 1 rfl
    have kB2_2 := hx_B2.cell 2 rfl
    have kB2_3 := hx_B2.cell 3 rfl
    go_simp
    try go_ints
    rfl
  refine walk_cg [(141, some 1), (142, some 0), (140, some 2)] (by kernel_rfl) 27 140 true rfl rfl (fun b w' hx hs => by obtain ⟨-, -, h2, -⟩ := hs; exact h2) (fun w' v => IsNum w' v (some ((qa - qb)))) (fun _ _ _ x h => by first | exact h | exact h.ext x) (fun b w' hx hs => ?_) ?_
  · as_aux_lemma =>
      obtain ⟨h0, h1, h2, -⟩ := hs
      change _ = _ at h0
      change _ = _ at h1
      change _ = _ at h2
      rw [eval_tmp] at h0 h1 h2
      go_simp
      refine upon_enter ((sub_any _ (hT.ext hx) (n1.ext hx) (n2.ext hx)).mono fun ed w2 ⟨v, he, hx2, hn⟩ => ⟨v, he, hx2, ?_⟩)
      rw [subO_sz (n := 2149) (ZA.out) (ZB.out) (by omega)] at hn
      first | exact hn | simpa using hn
  refine walk_cg [(143, some 0), (140, some 3)] (by kernel_rfl) 27 140 true rfl rfl (fun b w' hx hs => by obtain ⟨-, h1, -⟩ := hs; exact h1) (fun _ v => v = .int .i64 (sg ((qa - qb)))) (fun _ _ _ x h => by first | exact h | exact h.ext x) (fun b w' hx hs => ?_) ?_
  · as_aux_lemma =>
      obtain ⟨h0, h1, -⟩ := hs
      change _ = _ at h1
      rw [eval_tmp] at h0 h1
      go_simp
      refine upon_enter ((sign_any _ (show IsNum _ _ (some ((qa - qb))) from by rw [← eval_tmp] at *; exact h0)).mono fun ed w2 ⟨he, hx2⟩ => ⟨_, he, hx2, ?_⟩)
      rw [show sgO (some ((qa - qb))) = sg ((qa - qb)) from rfl]
  refine walk_qg [(5, none), (140, some 4)] (by kernel_rfl) 27 140 true rfl rfl (fun b w' hx hs => by obtain ⟨-, h1, -⟩ := hs; exact h1) ?_
  apply Exists.intro
  refine ⟨fun b w' hx hs => ?_, ?_⟩
  · obtain ⟨h0, h1, -⟩ := hs
    change _ = _ at h0
    change _ = _ at h1
    rw [eval_tmp] at h0 h1
    have hx_B1 := B1.ext hx
    have kB1_0 := hx_B1.cell 0 rfl
    have kB1_1 := hx_B1.cell 1 rfl
    have kB1_2 := hx_B1.cell 2 rfl
    have kB1_3 := hx_B1.cell 3 rfl
    have hx_B2 := B2.ext hx
    have kB2_0 := hx_B2.cell 0 rfl
    have kB2_1 := hx_B2.cell 1 rfl
    have kB2_2 := hx_B2.cell 2 rfl
    have kB2_3 := hx_B2.cell 3 rfl
    go_simp
    try go_ints
    rfl
  refine walk_qg [(6, none), (140, some 5)] (by kernel_rfl) 27 140 true rfl rfl (fun b w' hx hs => by obtain ⟨-, h1, -⟩ := hs; exact h1) ?_
  apply Exists.intro
  refine ⟨fun b w' hx hs => ?_, ?_⟩
  · obtain ⟨h0, h1, -⟩ := hs
    change _ = _ at h0
    change _ = _ at h1
    rw [eval_tmp] at h0 h1
    have hx_B1 := B1.ext hx
    have kB1_0 := hx_B1.cell 0 rfl
    have kB1_1 := hx_B1.cell 1 rfl
    have kB1_2 := hx_B1.cell 2 rfl
    have kB1_3 := hx_B1.cell 3 rfl
    have hx_B2 := B2.ext hx
    have kB2_0 := hx_B2.cell 0 rfl
    have kB2_1 := hx_B2.cell 1 rfl
    have kB2_2 := hx_B2.cell 2 rfl
    have kB2_3 := hx_B2.cell 3 rfl
    go_simp
    try go_ints
    rfl
  refine walk_cg [(145, some 1), (146, some 0), (140, some 6)] (by kernel_rfl) 27 140 true rfl rfl (fun b w' hx hs => by obtain ⟨-, -, h2, -⟩ := hs; exact h2) (fun _ v => v = .int .i64 (sg (qa - qb))) (fun _ _ _ x h => by first | exact h | exact h.ext x) (fun b w' hx hs => ?_) ?_
  · as_aux_lemma =>
      obtain ⟨h0, h1, h2, -⟩ := hs
      change _ = _ at h0
      change _ = _ at h1
      change _ = _ at h2
      rw [eval_tmp] at h0 h1 h2
      go_simp
      refine upon_enter ((cmp_num _ (hT.ext hx) (n1.ext hx) (n2.ext hx)).mono fun ed w2 ⟨he, hx2⟩ => ⟨_, he, hx2, ?_⟩)
      rw [cmpO_sz (n := 2149) (ZA.out) (ZB.out) (by omega)]
  refine walk_qg [(144, some 3), (147, some 0), (140, some 7)] (by kernel_rfl) 27 140 true rfl rfl (fun b w' hx hs => by obtain ⟨-, -, h2, -⟩ := hs; exact h2) ?_
  apply Exists.intro
  refine ⟨fun b w' hx hs => ?_, ?_⟩
  · obtain ⟨h0, h1, h2, -⟩ := hs
    change _ = _ at h0
    change _ = _ at h1
    change _ = _ at h2
    rw [eval_tmp] at h0 h1 h2
    go_simp
    try go_ints
    rfl
  refine walk_q [(140, some 8), (148, some 0)] (by kernel_rfl) rfl ?_
  apply Exists.intro
  refine ⟨fun b w' hx hs => ?_, ?_⟩
  · obtain ⟨h0, h1, -⟩ := hs
    change _ = _ at h0
    change _ = _ at h1
    rw [eval_tmp] at h0 h1
    go_simp
    try go_ints
    rfl
  refine walk_q [(149, some 0)] (by kernel_rfl) rfl ?_
  apply Exists.intro
  refine ⟨fun b w' hx hs => ?_, ?_⟩
  · obtain ⟨h0, -⟩ := hs
    change _ = _ at h0
    rw [eval_tmp] at h0
    go_simp
    try go_ints
    rfl
  refine walk_qg [(6, none), (150, some 0)] (by kernel_rfl) 37 150 true rfl rfl (fun b w' hx hs => by obtain ⟨-, h1, -⟩ := hs; exact h1) ?_
  apply Exists.intro
  refine ⟨fun b w' hx hs => ?_, ?_⟩
  · obtain ⟨h0, h1, -⟩ := hs
    change _ = _ at h0
    change _ = _ at h1
    rw [eval_tmp] at h0 h1
    have hx_B1 := B1.ext hx
    have kB1_0 := hx_B1.cell 0 rfl
    have kB1_1 := hx_B1.cell 1 rfl
    have kB1_2 := hx_B1.cell 2 rfl
    have kB1_3 := hx_B1.cell 3 rfl
    have hx_B2 := B2.ext hx
    have kB2_0 := hx_B2.cell 0 rfl
    have kB2_1 := hx_B2.cell 1 rfl
    have kB2_2 := hx_B2.cell 2 rfl
    have kB2_3 := hx_B2.cell 3 rfl
    go_simp
    try go_ints
    rfl
  refine walk_qg [(5, none), (150, some 1)] (by kernel_rfl) 37 150 true rfl rfl (fun b w' hx hs => by obtain ⟨-, h1, -⟩ := hs; exact h1) ?_
  apply Exists.intro
  refine ⟨fun b w' hx hs => ?_, ?_⟩
  · obtain ⟨h0, h1, -⟩ := hs
    change _ = _ at h0
    change _ = _ at h1
    rw [eval_tmp] at h0 h1
    have hx_B1 := B1.ext hx
    have kB1_0 := hx_B1.cell 0 rfl
    have kB1_1 := hx_B1.cell 1 rfl
    have kB1_2 := hx_B1.cell 2 rfl
    have kB1_3 := hx_B1.cell 3 rfl
    have hx_B2 := B2.ext hx
    have kB2_0 := hx_B2.cell 0 rfl
    have kB2_1 := hx_B2.cell 1 rfl
    have kB2_2 := hx_B2.cell 2 rfl
    have kB2_3 := hx_B2.cell 3 rfl
    go_simp
    try go_ints
    rfl
  refine walk_cg [(151, some 1), (152, some 0), (150, some 2)] (by kernel_rfl) 37 150 true rfl rfl (fun b w' hx hs => by obtain ⟨-, -, h2, -⟩ := hs; exact h2) (fun _ v => v = .int .i64 (-sg (qa - qb))) (fun _ _ _ x h => by first | exact h | exact h.ext x) (fun b w' hx hs => ?_) ?_
  · as_aux_lemma =>
      obtain ⟨h0, h1, h2, -⟩ := hs
      change _ = _ at h0
      change _ = _ at h1
      change _ = _ at h2
      rw [eval_tmp] at h0 h1 h2
      go_simp
      refine upon_enter ((cmp_num _ (hT.ext hx) (n2.ext hx) (n1.ext hx)).mono fun ed w2 ⟨he, hx2⟩ => ⟨_, he, hx2, ?_⟩)
      rw [cmpO_sz (n := 2149) (ZB.out) (ZA.out) (by omega)]
      have hval : sg (qb - qa) = -sg (qa - qb) := sg_swap qa qb
      rw [hval]
  refine walk_qg [(5, none), (150, some 3)] (by kernel_rfl) 37 150 true rfl rfl (fun b w' hx hs => by obtain ⟨-, h1, -⟩ := hs; exact h1) ?_
  apply Exists.intro
  refine ⟨fun b w' hx hs => ?_, ?_⟩
  · obtain ⟨h0, h1, -⟩ := hs
    change _ = _ at h0
    change _ = _ at h1
    rw [eval_tmp] at h0 h1
    have hx_B1 := B1.ext hx
    have kB1_0 := hx_B1.cell 0 rfl
    have kB1_1 := hx_B1.cell 1 rfl
    have kB1_2 := hx_B1.cell 2 rfl
    have kB1_3 := hx_B1.cell 3 rfl
    have hx_B2 := B2.ext hx
    have kB2_0 := hx_B2.cell 0 rfl
    have kB2_1 := hx_B2.cell 1 rfl
    have kB2_2 := hx_B2.cell 2 rfl
    have kB2_3 := hx_B2.cell 3 rfl
    go_simp
    try go_ints
    rfl
  refine walk_qg [(6, none), (150, some 4)] (by kernel_rfl) 37 150 true rfl rfl (fun b w' hx hs => by obtain ⟨-, h1, -⟩ := hs; exact h1) ?_
  apply Exists.intro
  refine ⟨fun b w' hx hs => ?_, ?_⟩
  · obtain ⟨h0, h1, -⟩ := hs
    change _ = _ at h0
    change _ = _ at h1
    rw [eval_tmp] at h0 h1
    have hx_B1 := B1.ext hx
    have kB1_0 := hx_B1.cell 0 rfl
    have kB1_1 := hx_B1.cell 1 rfl
    have kB1_2 := hx_B1.cell 2 rfl
    have kB1_3 := hx_B1.cell 3 rfl
    have hx_B2 := B2.ext hx
    have kB2_0 := hx_B2.cell 0 rfl
    have kB2_1 := hx_B2.cell 1 rfl
    have kB2_2 := hx_B2.cell 2 rfl
    have kB2_3 := hx_B2.cell 3 rfl
    go_simp
    try go_ints
    rfl
  refine walk_cg [(154, some 1), (155, some 0), (150, some 5)] (by kernel_rfl) 37 150 true rfl rfl (fun b w' hx hs => by obtain ⟨-, -, h2, -⟩ := hs; exact h2) (fun _ v => v = .int .i64 (sg (qa - qb))) (fun _ _ _ x h => by first | exact h | exact h.ext x) (fun b w' hx hs => ?_) ?_
  · as_aux_lemma =>
      obtain ⟨h0, h1, h2, -⟩ := hs
      change _ = _ at h0
      change _ = _ at h1
      change _ = _ at h2
      rw [eval_tmp] at h0 h1 h2
      go_simp
      refine upon_enter ((cmp_num _ (hT.ext hx) (n1.ext hx) (n2.ext hx)).mono fun ed w2 ⟨he, hx2⟩ => ⟨_, he, hx2, ?_⟩)
      rw [cmpO_sz (n := 2149) (ZA.out) (ZB.out) (by omega)]
  refine walk_qg [(156, some 0), (150, some 6)] (by kernel_rfl) 37 150 true rfl rfl (fun b w' hx hs => by obtain ⟨-, h1, -⟩ := hs; exact h1) ?_
  apply Exists.intro
  refine ⟨fun b w' hx hs => ?_, ?_⟩
  · obtain ⟨h0, h1, -⟩ := hs
    change _ = _ at h0
    change _ = _ at h1
    rw [eval_tmp] at h0 h1
    go_simp
    try go_ints
    rfl
  refine walk_qg [(153, some 4), (157, some 0), (150, some 7)] (by kernel_rfl) 37 150 true rfl rfl (fun b w' hx hs => by obtain ⟨-, -, h2, -⟩ := hs; exact h2) ?_
  apply Exists.intro
  refine ⟨fun b w' hx hs => ?_, ?_⟩
  · obtain ⟨h0, h1, h2, -⟩ := hs
    change _ = _ at h0
    change _ = _ at h1
    change _ = _ at h2
    rw [eval_tmp] at h0 h1 h2
    go_simp
    try go_ints
    rfl
  refine walk_q [(150, some 8), (158, some 0)] (by kernel_rfl) rfl ?_
  apply Exists.intro
  refine ⟨fun b w' hx hs => ?_, ?_⟩
  · obtain ⟨h0, h1, -⟩ := hs
    change _ = _ at h0
    change _ = _ at h1
    rw [eval_tmp] at h0 h1
    go_simp
    try go_ints
    rfl
  refine walk_q [(159, some 0)] (by kernel_rfl) rfl ?_
  apply Exists.intro
  refine ⟨fun b w' hx hs => ?_, ?_⟩
  · obtain ⟨h0, -⟩ := hs
    change _ = _ at h0
    rw [eval_tmp] at h0
    go_simp
    try go_ints
    rfl
  refine walk_end ?_
  intro w7 hx7
  rintro _ rfl
  rintro _ rfl
  rintro _ rfl
  rintro _ rfl
  rintro _ rfl
  rintro _ rfl
  rintro _ rfl
  rintro _ rfl
  rintro _ rfl
  rintro _ rfl
  rintro _ rfl
  rintro _ rfl
  rintro _ rfl
  rintro _ rfl
  rintro _ rfl
  rintro _ rfl
  rintro _ rfl
  intro v143 hv143
  rintro _ rfl
  rintro _ rfl
  rintro _ rfl
  rintro _ rfl
  rintro _ rfl
  rintro _ rfl
  rintro _ rfl
  intro v135 hv135
  intro v134 hv134
  rintro _ rfl
  rintro _ rfl
  rintro _ rfl
  rintro _ rfl
  rintro _ rfl
  rintro _ rfl
  rintro _ rfl
  rintro _ rfl
  intro v125 hv125
  rintro _ rfl
  rintro _ rfl
  rintro _ rfl
  rintro _ rfl
  rintro _ rfl
  rintro _ rfl
  rintro _ rfl
  rintro _ rfl
  rintro _ rfl
  intro v115 hv115
  rintro _ rfl
  rintro _ rfl
  unfold fin
  simp only [Act.put, List.setIfInBounds_toArray, List.set_cons_succ, List.set_cons_zero]
  clear g1 g2 g3
  replace B1 := B1.ext hx7
  replace B2 := B2.ext hx7
  replace B3 := B3.ext hx7
  replace n1 := n1.ext hx7
  replace n2 := n2.ext hx7
  replace n3 := n3.ext hx7
  replace hx := hx.trans hx7
  replace hT := hT.ext hx7
  clear hx7
  go_wp2
  refine wp_steady 3 206 (by kernel_rfl) (by as_aux_lemma => kernel_rfl) rfl ?_
  refine walk_q [(8, none)] (by kernel_rfl) rfl ?_
  apply Exists.intro
  refine ⟨fun b w' hx hs => ?_, ?_⟩
  · obtain ⟨h0, -⟩ := hs
    change _ = _ at h0
    rw [eval_tmp] at h0
    go_simp
    try go_ints
    rfl
  refine walk_q [(160, some 0)] (by kernel_rfl) rfl ?_
  apply Exists.intro
  refine ⟨fun b w' hx hs => ?_, ?_⟩
  · obtain ⟨h0, -⟩ := hs
    change _ = _ at h0
    rw [eval_tmp] at h0
    go_simp
    try go_ints
    rfl
  refine walk_qg [(9, none), (161, some 0)] (by kernel_rfl) 1 161 true rfl rfl (fun b w' hx hs => by obtain ⟨-, h1, -⟩ := hs; exact h1) ?_
  apply Exists.intro
  refine ⟨fun b w' hx hs => ?_, ?_⟩
  · obtain ⟨h0, h1, -⟩ := hs
    change _ = _ at h0
    change _ = _ at h1
    rw [eval_tmp] at h0 h1
    go_simp
    try go_ints
    rfl
  refine walk_q [(161, some 1), (162, some 0)] (by kernel_rfl) rfl ?_
  apply Exists.intro
  refine ⟨fun b w' hx hs => ?_, ?_⟩
  · obtain ⟨h0, h1, -⟩ := hs
    change _ = _ at h0
    change _ = _ at h1
    rw [eval_tmp] at h0 h1
    go_simp
    try go_ints
    rfl
  refine walk_q [(163, some 0)] (by kernel_rfl) rfl ?_
  apply Exists.intro
  refine ⟨fun b w' hx hs => ?_, ?_⟩
  · obtain ⟨h0, -⟩ := hs
    change _ = _ at h0
    rw [eval_tmp] at h0
    go_simp
    try go_ints
    rfl
  refine walk_qg [(10, none), (164, some 0)] (by kernel_rfl) 4 164 true rfl rfl (fun b w' hx hs => by obtain ⟨-, h1, -⟩ := hs; exact h1) ?_
  apply Exists.intro
  refine ⟨fun b w' hx hs => ?_, ?_⟩
  · obtain ⟨h0, h1, -⟩ := hs
    change _ = _ at h0
    change _ = _ at h1
    rw [eval_tmp] at h0 h1
    go_simp
    try go_ints
    rfl
  refine walk_q [(164, some 1), (165, some 0)] (by kernel_rfl) rfl ?_
  apply Exists.intro
  refine ⟨fun b w' hx hs => ?_, ?_⟩
  · obtain ⟨h0, h1, -⟩ := hs
    change _ = _ at h0
    change _ = _ at h1
    rw [eval_tmp] at h0 h1
    go_simp
    try go_ints
    rfl
  refine walk_q [(166, some 0)] (by kernel_rfl) rfl ?_
  apply Exists.intro
  refine ⟨fun b w' hx hs => ?_, ?_⟩
  · obtain ⟨h0, -⟩ := hs
    change _ = _ at h0
    rw [eval_tmp] at h0
    go_simp
    try go_ints
    rfl
  refine walk_qg [(5, none), (167, some 0)] (by kernel_rfl) 7 167 true rfl rfl (fun b w' hx hs => by obtain ⟨-, h1, -⟩ := hs; exact h1) ?_
  apply Exists.intro
  refine ⟨fun b w' hx hs => ?_, ?_⟩
  · obtain ⟨h0, h1, -⟩ := hs
    change _ = _ at h0
    change _ = _ at h1
    rw [eval_tmp] at h0 h1
    have hx_B1 := B1.ext hx
    have kB1_0 := hx_B1.cell 0 rfl
    have kB1_1 := hx_B1.cell 1 rfl
    have kB1_2 := hx_B1.cell 2 rfl
    have kB1_3 := hx_B1.cell 3 rfl
    have hx_B2 := B2.ext hx
    have kB2_0 := hx_B2.cell 0 rfl
    have kB2_1 := hx_B2.cell 1 rfl
    have kB2_2 := hx_B2.cell 2 rfl
    have kB2_3 := hx_B2.cell 3 rfl
    go_simp
    try go_ints
    rfl
  refine walk_qg [(1, none), (167, some 1)] (by kernel_rfl) 7 167 true rfl rfl (fun b w' hx hs => by obtain ⟨-, h1, -⟩ := hs; exact h1) ?_
  apply Exists.intro
  refine ⟨fun b w' hx hs => ?_, ?_⟩
  · obtain ⟨h0, h1, -⟩ := hs
    change _ = _ at h0
    change _ = _ at h1
    rw [eval_tmp] at h0 h1
    go_simp
    try go_ints
    rfl
  refine walk_cg [(168, some 1), (169, some 0), (167, some 2)] (by kernel_rfl) 7 167 true rfl rfl (fun b w' hx hs => by obtain ⟨-, -, h2, -⟩ := hs; exact h2) (fun w' v => IsNum w' v (some ((qa * p2 r)))) (fun _ _ _ x h => by first | exact h | exact h.ext x) (fun b w' hx hs => ?_) ?_
  · as_aux_lemma =>
      obtain ⟨h0, h1, h2, -⟩ := hs
      change _ = _ at h0
      change _ = _ at h1
      change _ = _ at h2
      rw [eval_tmp] at h0 h1 h2
      go_simp
      refine upon_enter ((shift_any r _ (hT.ext hx) (n1.ext hx)).mono fun ed w2 ⟨v, he, hx2, hn⟩ => ⟨v, he, hx2, ?_⟩)
      rw [shiftO_sz (n := 2149) (m := 1001) (ZA.out) (by omega) (by omega) (by omega)] at hn
      first | exact hn | simpa using hn
  refine walk_qg [(1, none), (167, some 3)] (by kernel_rfl) 7 167 true rfl rfl (fun b w' hx hs => by obtain ⟨-, h1, -⟩ := hs; exact h1) ?_
  apply Exists.intro
  refine ⟨fun b w' hx hs => ?_, ?_⟩
  · obtain ⟨h0, h1, -⟩ := hs
    change _ = _ at h0
    change _ = _ at h1
    rw [eval_tmp] at h0 h1
    go_simp
    try go_ints
    rfl
  refine walk_qg [(171, some 0), (167, some 4)] (by kernel_rfl) 7 167 true rfl rfl (fun b w' hx hs => by obtain ⟨-, h1, -⟩ := hs; exact h1) ?_
  apply Exists.intro
  refine ⟨fun b w' hx hs => ?_, ?_⟩
  · obtain ⟨h0, h1, -⟩ := hs
    change _ = _ at h0
    change _ = _ at h1
    rw [eval_tmp] at h0 h1
    go_simp
    try go_ints
    rfl
  refine walk_cg [(170, some 2), (172, some 0), (167, some 5)] (by kernel_rfl) 7 167 true rfl rfl (fun b w' hx hs => by obtain ⟨-, -, h2, -⟩ := hs; exact h2) (fun w' v => IsNum w' v (some (((qa * p2 r) * p2 (-r))))) (fun _ _ _ x h => by first | exact h | exact h.ext x) (fun b w' hx hs => ?_) ?_
  · as_aux_lemma =>
      obtain ⟨h0, h1, h2, -⟩ := hs
      change _ = _ at h1
      change _ = _ at h2
      rw [eval_tmp] at h0 h1 h2
      go_simp
      refine upon_enter ((shift_any (-r) _ (hT.ext hx) (show IsNum _ _ (some ((qa * p2 r))) from by rw [← eval_tmp] at *; exact h0)).mono fun ed w2 ⟨v, he, hx2, hn⟩ => ⟨v, he, hx2, ?_⟩)
      rw [shiftO_sz (n := 3150) (m := 1001) ((show Sz 3150 ((qa * p2 r)) from ((Sz.shift (m := 1001) (ZA.out) (by omega) (by omega)).mono (by omega)))) (by omega) (by omega) (by omega)] at hn
      first | exact hn | simpa using hn
  refine walk_qg [(5, none), (167, some 6)] (by kernel_rfl) 7 167 true rfl rfl (fun b w' hx hs => by obtain ⟨-, h1, -⟩ := hs; exact h1) ?_
  apply Exists.intro
  refine ⟨fun b w' hx hs => ?_, ?_⟩
  · obtain ⟨h0, h1, -⟩ := hs
    change _ = _ at h0
    change _ = _ at h1
    rw [eval_tmp] at h0 h1
    have hx_B1 := B1.ext hx
    have kB1_0 := hx_B1.cell 0 rfl
    have kB1_1 := hx_B1.cell 1 rfl
    have kB1_2 := hx_B1.cell 2 rfl
    have kB1_3 := hx_B1.cell 3 rfl
    have hx_B2 := B2.ext hx
    have kB2_0 := hx_B2.cell 0 rfl
    have kB2_1 := hx_B2.cell 1 rfl
    have kB2_2 := hx_B2.cell 2 rfl
    have kB2_3 := hx_B2.cell 3 rfl
    go_simp
    try go_ints
    rfl
  refine walk_cg [(173, some 1), (174, some 0), (167, some 7)] (by kernel_rfl) 7 167 true rfl rfl (fun b w' hx hs => by obtain ⟨-, -, h2, -⟩ := hs; exact h2) (fun _ v => v = .int .i64 (0)) (fun _ _ _ x h => by first | exact h | exact h.ext x) (fun b w' hx hs => ?_) ?_
  · as_aux_lemma =>
      obtain ⟨h0, h1, h2, -⟩ := hs
      change _ = _ at h1
      change _ = _ at h2
      rw [eval_tmp] at h0 h1 h2
      go_simp
      refine upon_enter ((cmp_num _ (hT.ext hx) (show IsNum _ _ (some (((qa * p2 r) * p2 (-r)))) from by rw [← eval_tmp] at *; exact h0) (n1.ext hx)).mono fun ed w2 ⟨he, hx2⟩ => ⟨_, he, hx2, ?_⟩)
      rw [cmpO_sz (n := 4151) ((show Sz 4151 (((qa * p2 r) * p2 (-r))) from ((Sz.shift (m := 1001) ((show Sz 3150 ((qa * p2 r)) from ((Sz.shift (m := 1001) (ZA.out) (by omega) (by omega)).mono (by omega)))) (by omega) (by omega)).mono (by omega)))) ((ZA.out).mono (by omega)) (by omega)]
      have hval : sg (((qa * p2 r) * p2 (-r)) - qa) = 0 := shift_back qa r
      rw [hval]
  refine walk_qg [(175, some 0), (167, some 8)] (by kernel_rfl) 7 167 true rfl rfl (fun b w' hx hs => by obtain ⟨-, h1, -⟩ := hs; exact h1) ?_
  apply Exists.intro
  refine ⟨fun b w' hx hs => ?_, ?_⟩
  · obtain ⟨h0, h1, -⟩ := hs
    change _ = _ at h0
    change _ = _ at h1
    rw [eval_tmp] at h0 h1
    go_simp
    try go_ints
    rfl
  refine walk_q [(167, some 9), (176, some 0)] (by kernel_rfl) rfl ?_
  apply Exists.intro
  refine ⟨fun b w' hx hs => ?_, ?_⟩
  · obtain ⟨h0, h1, -⟩ := hs
    change _ = _ at h0
    change _ = _ at h1
    rw [eval_tmp] at h0 h1
    go_simp
    try go_ints
    rfl
  refine walk_q [(177, some 0)] (by kernel_rfl) rfl ?_
  apply Exists.intro
  refine ⟨fun b w' hx hs => ?_, ?_⟩
  · obtain ⟨h0, -⟩ := hs
    change _ = _ at h0
    rw [eval_tmp] at h0
    go_simp
    try go_ints
    rfl
  refine walk_qg [(5, none), (178, some 0)] (by kernel_rfl) 18 178 true rfl rfl (fun b w' hx hs => by obtain ⟨-, h1, -⟩ := hs; exact h1) ?_
  apply Exists.intro
  refine ⟨fun b w' hx hs => ?_, ?_⟩
  · obtain ⟨h0, h1, -⟩ := hs
    change _ = _ at h0
    change _ = _ at h1
    rw [eval_tmp] at h0 h1
    have hx_B1 := B1.ext hx
    have kB1_0 := hx_B1.cell 0 rfl
    have kB1_1 := hx_B1.cell 1 rfl
    have kB1_2 := hx_B1.cell 2 rfl
    have kB1_3 := hx_B1.cell 3 rfl
    have hx_B2 := B2.ext hx
    have kB2_0 := hx_B2.cell 0 rfl
    have kB2_1 := hx_B2.cell 1 rfl
    have kB2_2 := hx_B2.cell 2 rfl
    have kB2_3 := hx_B2.cell 3 rfl
    go_simp
    try go_ints
    rfl
  refine walk_qg [(1, none), (178, some 1)] (by kernel_rfl) 18 178 true rfl rfl (fun b w' hx hs => by obtain ⟨-, h1, -⟩ := hs; exact h1) ?_
  apply Exists.intro
  refine ⟨fun b w' hx hs => ?_, ?_⟩
  · obtain ⟨h0, h1, -⟩ := hs
    change _ = _ at h0
    change _ = _ at h1
    rw [eval_tmp] at h0 h1
    go_simp
    try go_ints
    rfl
  refine walk_cg [(179, some 1), (180, some 0), (178, some 2)] (by kernel_rfl) 18 178 true rfl rfl (fun b w' hx hs => by obtain ⟨-, -, h2, -⟩ := hs; exact h2) (fun w' v => IsNum w' v (some ((qa * p2 r)))) (fun _ _ _ x h => by first | exact h | exact h.ext x) (fun b w' hx hs => ?_) ?_
  · as_aux_lemma =>
      obtain ⟨h0, h1, h2, -⟩ := hs
      change _ = _ at h0
      change _ = _ at h1
      change _ = _ at h2
      rw [eval_tmp] at h0 h1 h2
      go_simp
      refine upon_enter ((shift_any r _ (hT.ext hx) (n1.ext hx)).mono fun ed w2 ⟨v, he, hx2, hn⟩ => ⟨v, he, hx2, ?_⟩)
      rw [shiftO_sz (n := 2149) (m := 1001) (ZA.out) (by omega) (by omega) (by omega)] at hn
      first | exact hn | simpa using hn
  refine walk_qg [(6, none), (178, some 3)] (by kernel_rfl) 18 178 true rfl rfl (fun b w' hx hs => by obtain ⟨-, h1, -⟩ := hs; exact h1) ?_
  apply Exists.intro
  refine ⟨fun b w' hx hs => ?_, ?_⟩
  · obtain ⟨h0, h1, -⟩ := hs
    change _ = _ at h0
    change _ = _ at h1
    rw [eval_tmp] at h0 h1
    have hx_B1 := B1.ext hx
    have kB1_0 := hx_B1.cell 0 rfl
    have kB1_1 := hx_B1.cell 1 rfl
    have kB1_2 := hx_B1.cell 2 rfl
    have kB1_3 := hx_B1.cell 3 rfl
    have hx_B2 := B2.ext hx
    have kB2_0 := hx_B2.cell 0 rfl
    have kB2_1 := hx_B2.cell 1 rfl
    have kB2_2 := hx_B2.cell 2 rfl
    have kB2_3 := hx_B2.cell 3 rfl
    go_simp
    try go_ints
    rfl
  refine walk_qg [(1, none), (178, some 4)] (by kernel_rfl) 18 178 true rfl rfl (fun b w' hx hs => by obtain ⟨-, h1, -⟩ := hs; exact h1) ?_
  apply Exists.intro
  refine ⟨fun b w' hx hs => ?_, ?_⟩
  · obtain ⟨h0, h1, -⟩ := hs
    change _ = _ at h0
    change _ = _ at h1
    rw [eval_tmp] at h0 h1
    go_simp
    try go_ints
    rfl
  refine walk_cg [(182, some 1), (183, some 0), (178, some 5)] (by kernel_rfl) 18 178 true rfl rfl (fun b w' hx hs => by obtain ⟨-, -, h2, -⟩ := hs; exact h2) (fun w' v => IsNum w' v (some ((qb * p2 r)))) (fun _ _ _ x h => by first | exact h | exact h.ext x) (fun b w' hx hs => ?_) ?_
  · as_aux_lemma =>
      obtain ⟨h0, h1, h2, -⟩ := hs
      change _ = _ at h0
      change _ = _ at h1
      change _ = _ at h2
      rw [eval_tmp] at h0 h1 h2
      go_simp
      refine upon_enter ((shift_any r _ (hT.ext hx) (n2.ext hx)).mono fun ed w2 ⟨v, he, hx2, hn⟩ => ⟨v, he, hx2, ?_⟩)
      rw [shiftO_sz (n := 2149) (m := 1001) (ZB.out) (by omega) (by omega) (by omega)] at hn
      first | exact hn | simpa using hn
  refine walk_cg [(181, some 3), (184, some 0), (178, some 6)] (by kernel_rfl) 18 178 true rfl rfl (fun b w' hx hs => by obtain ⟨-, -, h2, -⟩ := hs; exact h2) (fun w' v => IsNum w' v (some (((qa * p2 r) + (qb * p2 r))))) (fun _ _ _ x h => by first | exact h | exact h.ext x) (fun b w' hx hs => ?_) ?_
  · as_aux_lemma =>
      obtain ⟨h0, h1, h2, -⟩ := hs
      change _ = _ at h2
      rw [eval_tmp] at h0 h1 h2
      go_simp
      refine upon_enter ((add_any _ (hT.ext hx) (show IsNum _ _ (some ((qa * p2 r))) from by rw [← eval_tmp] at *; exact h0) (show IsNum _ _ (some ((qb * p2 r))) from by rw [← eval_tmp] at *; exact h1)).mono fun ed w2 ⟨v, he, hx2, hn⟩ => ⟨v, he, hx2, ?_⟩)
      rw [addO_sz (n := 3150) ((show Sz 3150 ((qa * p2 r)) from ((Sz.shift (m := 1001) (ZA.out) (by omega) (by omega)).mono (by omega)))) ((show Sz 3150 ((qb * p2 r)) from ((Sz.shift (m := 1001) (ZB.out) (by omega) (by omega)).mono (by omega)))) (by omega)] at hn
      first | exact hn | simpa using hn
  refine walk_qg [(5, none), (178, some 7)] (by kernel_rfl) 18 178 true rfl rfl (fun b w' hx hs => by obtain ⟨-, h1, -⟩ := hs; exact h1) ?_
  apply Exists.intro
  refine ⟨fun b w' hx hs => ?_, ?_⟩
  · obtain ⟨h0, h1, -⟩ := hs
    change _ = _ at h0
    change _ = _ at h1
    rw [eval_tmp] at h0 h1
    have hx_B1 := B1.ext hx
    have kB1_0 := hx_B1.cell 0 rfl
    have kB1_1 := hx_B1.cell 1 rfl
    have kB1_2 := hx_B1.cell 2 rfl
    have kB1_3 := hx_B1.cell 3 rfl
    have hx_B2 := B2.ext hx
    have kB2_0 := hx_B2.cell 0 rfl
    have kB2_1 := hx_B2.cell 1 rfl
    have kB2_2 := hx_B2.cell 2 rfl
    have kB2_3 := hx_B2.cell 3 rfl
    go_simp
    try go_ints
    rfl
  refine walk_qg [(6, none), (178, some 8)] (by kernel_rfl) 18 178 true rfl rfl (fun b w' hx hs => by obtain ⟨-, h1, -⟩ := hs; exact h1) ?_
  apply Exists.intro
  refine ⟨fun b w' hx hs => ?_, ?_⟩
  · obtain ⟨h0, h1, -⟩ := hs
    change _ = _ at h0
    change _ = _ at h1
    rw [eval_tmp] at h0 h1
    have hx_B1 := B1.ext hx
    have kB1_0 := hx_B1.cell 0 rfl
    have kB1_1 := hx_B1.cell 1 rfl
    have kB1_2 := hx_B1.cell 2 rfl
    have kB1_3 := hx_B1.cell 3 rfl
    have hx_B2 := B2.ext hx
    have kB2_0 := hx_B2.cell 0 rfl
    have kB2_1 := hx_B2.cell 1 rfl
    have kB2_2 := hx_B2.cell 2 rfl
    have kB2_3 := hx_B2.cell 3 rfl
    go_simp
    try go_ints
    rfl
  refine walk_cg [(186, some 1), (187, some 0), (178, some 9)] (by kernel_rfl) 18 178 true rfl rfl (fun b w' hx hs => by obtain ⟨-, -, h2, -⟩ := hs; exact h2) (fun w' v => IsNum w' v (some ((qa + qb)))) (fun _ _ _ x h => by first | exact h | exact h.ext x) (fun b w' hx hs => ?_) ?_
  · as_aux_lemma =>
      obtain ⟨h0, h1, h2, -⟩ := hs
      change _ = _ at h0
      change _ = _ at h1
      change _ = _ at h2
      rw [eval_tmp] at h0 h1 h2
      go_simp
      refine upon_enter ((add_any _ (hT.ext hx) (n1.ext hx) (n2.ext hx)).mono fun ed w2 ⟨v, he, hx2, hn⟩ => ⟨v, he, hx2, ?_⟩)
      rw [addO_sz (n := 2149) (ZA.out) (ZB.out) (by omega)] at hn
      first | exact hn | simpa using hn
  refine walk_qg [(1, none), (178, some 10)] (by kernel_rfl) 18 178 true rfl rfl (fun b w' hx hs => by obtain ⟨-, h1, -⟩ := hs; exact h1) ?_
  apply Exists.intro
  refine ⟨fun b w' hx hs => ?_, ?_⟩
  · obtain ⟨h0, h1, -⟩ := hs
    change _ = _ at h0
    change _ = _ at h1
    rw [eval_tmp] at h0 h1
    go_simp
    try go_ints
    rfl
  refine walk_cg [(188, some 1), (189, some 0), (178, some 11)] (by kernel_rfl) 18 178 true rfl rfl (fun b w' hx hs => by obtain ⟨-, -, h2, -⟩ := hs; exact h2) (fun w' v => IsNum w' v (some (((qa + qb) * p2 r)))) (fun _ _ _ x h => by first | exact h | exact h.ext x) (fun b w' hx hs => ?_) ?_
  · as_aux_lemma =>
      obtain ⟨h0, h1, h2, -⟩ := hs
      change _ = _ at h1
      change _ = _ at h2
      rw [eval_tmp] at h0 h1 h2
      go_simp
      refine upon_enter ((shift_any r _ (hT.ext hx) (show IsNum _ _ (some ((qa + qb))) from by rw [← eval_tmp] at *; exact h0)).mono fun ed w2 ⟨v, he, hx2, hn⟩ => ⟨v, he, hx2, ?_⟩)
      rw [shiftO_sz (n := 2150) (m := 1001) ((show Sz 2150 ((qa + qb)) from (Sz.add (ZA.out) (ZB.out)))) (by omega) (by omega) (by omega)] at hn
      first | exact hn | simpa using hn
  refine walk_cg [(185, some 5), (190, some 0), (178, some 12)] (by kernel_rfl) 18 178 true rfl rfl (fun b w' hx hs => by obtain ⟨-, -, h2, -⟩ := hs; exact h2) (fun _ v => v = .int .i64 (0)) (fun _ _ _ x h => by first | exact h | exact h.ext x) (fun b w' hx hs => ?_) ?_
  · as_aux_lemma =>
      obtain ⟨h0, h1, h2, -⟩ := hs
      change _ = _ at h2
      rw [eval_tmp] at h0 h1 h2
      go_simp
      refine upon_enter ((cmp_num _ (hT.ext hx) (show IsNum _ _ (some (((qa * p2 r) + (qb * p2 r)))) from by rw [← eval_tmp] at *; exact h0) (show IsNum _ _ (some (((qa + qb) * p2 r))) from by rw [← eval_tmp] at *; exact h1)).mono fun ed w2 ⟨he, hx2⟩ => ⟨_, he, hx2, ?_⟩)
      rw [cmpO_sz (n := 3151) ((show Sz 3151 (((qa * p2 r) + (qb * p2 r))) from (Sz.add ((show Sz 3150 ((qa * p2 r)) from ((Sz.shift (m := 1001) (ZA.out) (by omega) (by omega)).mono (by omega)))) ((show Sz 3150 ((qb * p2 r)) from ((Sz.shift (m := 1001) (ZB.out) (by omega) (by omega)).mono (by omega))))))) ((show Sz 3151 (((qa + qb) * p2 r)) from ((Sz.shift (m := 1001) ((show Sz 2150 ((qa + qb)) from (Sz.add (ZA.out) (ZB.out)))) (by omega) (by omega)).mono (by omega)))) (by omega)]
      have hval : sg (((qa * p2 r) + (qb * p2 r)) - ((qa + qb) * p2 r)) = 0 := by first | exact sg_eq0 (by grind) | exact sg_pos (by grind) | exact sg_neg (by grind) | rfl
      rw [hval]
  refine walk_qg [(191, some 0), (178, some 13)] (by kernel_rfl) 18 178 true rfl rfl (fun b w' hx hs => by obtain ⟨-, h1, -⟩ := hs; exact h1) ?_
  apply Exists.intro
  refine ⟨fun b w' hx hs => ?_, ?_⟩
  · obtain ⟨h0, h1, -⟩ := hs
    change _ = _ at h0
    change _ = _ at h1
    rw [eval_tmp] at h0 h1
    go_simp
    try go_ints
    rfl
  refine walk_q [(178, some 14), (192, some 0)] (by kernel_rfl) rfl ?_
  apply Exists.intro
  refine ⟨fun b w' hx hs => ?_, ?_⟩
  · obtain ⟨h0, h1, -⟩ := hs
    change _ = _ at h0
    change _ = _ at h1
    rw [eval_tmp] at h0 h1
    go_simp
    try go_ints
    rfl
  refine walk_q [(193, some 0)] (by kernel_rfl) rfl ?_
  apply Exists.intro
  refine ⟨fun b w' hx hs => ?_, ?_⟩
  · obtain ⟨h0, -⟩ := hs
    change _ = _ at h0
    rw [eval_tmp] at h0
    go_simp
    try go_ints
    rfl
  refine walk_qg [(5, none), (194, some 0)] (by kernel_rfl) 34 194 true rfl rfl (fun b w' hx hs => by obtain ⟨-, h1, -⟩ := hs; exact h1) ?_
  apply Exists.intro
  refine ⟨fun b w' hx hs => ?_, ?_⟩
  · obtain ⟨h0, h1, -⟩ := hs
    change _ = _ at h0
    change _ = _ at h1
    rw [eval_tmp] at h0 h1
    have hx_B1 := B1.ext hx
    have kB1_0 := hx_B1.cell 0 rfl
    have kB1_1 := hx_B1.cell 1 rfl
    have kB1_2 := hx_B1.cell 2 rfl
    have kB1_3 := hx_B1.cell 3 rfl
    have hx_B2 := B2.ext hx
    have kB2_0 := hx_B2.cell 0 rfl
    have kB2_1 := hx_B2.cell 1 rfl
    have kB2_2 := hx_B2.cell 2 rfl
    have kB2_3 := hx_B2.cell 3 rfl
    go_simp
    try go_ints
    rfl
  refine walk_cg [(194, some 1)] (by kernel_rfl) 34 194 true rfl rfl (fun b w' hx hs => by obtain ⟨h0, -⟩ := hs; exact h0) (fun w' v => IsNum w' v (some (((1 : Int) : Rat)))) (fun _ _ _ x h => by first | exact h | exact h.ext x) (fun b w' hx hs => ?_) ?_
  · as_aux_lemma =>
      obtain ⟨h0, -⟩ := hs
      change _ = _ at h0
      rw [eval_tmp] at h0
      go_simp
      refine upon_enter ((int_any (1) _ (by omega) (by omega) (hT.ext hx)).mono fun ed w2 ⟨v, he, hx2, hn⟩ => ⟨v, he, hx2, ?_⟩)
      first | exact hn | simpa using hn
  refine walk_cg [(195, some 1), (196, some 0), (194, some 2)] (by kernel_rfl) 34 194 true rfl rfl (fun b w' hx hs => by obtain ⟨-, -, h2, -⟩ := hs; exact h2) (fun w' v => IsNum w' v (some ((qa * ((1 : Int) : Rat))))) (fun _ _ _ x h => by first | exact h | exact h.ext x) (fun b w' hx hs => ?_) ?_
  · as_aux_lemma =>
      obtain ⟨h0, h1, h2, -⟩ := hs
      change _ = _ at h0
      change _ = _ at h2
      rw [eval_tmp] at h0 h1 h2
      go_simp
      refine upon_enter ((mul_any _ (hT.ext hx) (n1.ext hx) (show IsNum _ _ (some (((1 : Int) : Rat))) from by rw [← eval_tmp] at *; exact h1)).mono fun ed w2 ⟨v, he, hx2, hn⟩ => ⟨v, he, hx2, ?_⟩)
      rw [mulO_sz (n := 2149) (m := 64) (ZA.out) ((show Sz 64 (((1 : Int) : Rat)) from (int_sz (n := 1) (by omega) (by omega)))) (by omega)] at hn
      first | exact hn | simpa using hn
  refine walk_qg [(5, none), (194, some 3)] (by kernel_rfl) 34 194 true rfl rfl (fun b w' hx hs => by obtain ⟨-, h1, -⟩ := hs; exact h1) ?_
  apply Exists.intro
  refine ⟨fun b w' hx hs => ?_, ?_⟩
  · obtain ⟨h0, h1, -⟩ := hs
    change _ = _ at h0
    change _ = _ at h1
    rw [eval_tmp] at h0 h1
    have hx_B1 := B1.ext hx
    have kB1_0 := hx_B1.cell 0 rfl
    have kB1_1 := hx_B1.cell 1 rfl
    have kB1_2 := hx_B1.cell 2 rfl
    have kB1_3 := hx_B1.cell 3 rfl
    have hx_B2 := B2.ext hx
    have kB2_0 := hx_B2.cell 0 rfl
    have kB2_1 := hx_B2.cell 1 rfl
    have kB2_2 := hx_B2.cell 2 rfl
    have kB2_3 := hx_B2.cell 3 rfl
    go_simp
    try go_ints
    rfl
  refine walk_cg [(197, some 1), (198, some 0), (194, some 4)] (by kernel_rfl) 34 194 true rfl rfl (fun b w' hx hs => by obtain ⟨-, -, h2, -⟩ := hs; exact h2) (fun _ v => v = .int .i64 (0)) (fun _ _ _ x h => by first | exact h | exact h.ext x) (fun b w' hx hs => ?_) ?_
  · as_aux_lemma =>
      obtain ⟨h0, h1, h2, -⟩ := hs
      change _ = _ at h1
      change _ = _ at h2
      rw [eval_tmp] at h0 h1 h2
      go_simp
      refine upon_enter ((cmp_num _ (hT.ext hx) (show IsNum _ _ (some ((qa * ((1 : Int) : Rat)))) from by rw [← eval_tmp] at *; exact h0) (n1.ext hx)).mono fun ed w2 ⟨he, hx2⟩ => ⟨_, he, hx2, ?_⟩)
      rw [cmpO_sz (n := 2213) ((show Sz 2213 ((qa * ((1 : Int) : Rat))) from ((Sz.mul (ZA.out) ((show Sz 64 (((1 : Int) : Rat)) from (int_sz (n := 1) (by omega) (by omega))))).mono (by omega)))) ((ZA.out).mono (by omega)) (by omega)]
      have hval : sg ((qa * ((1 : Int) : Rat)) - qa) = 0 := mul_one_int qa
      rw [hval]
  refine walk_qg [(199, some 0), (194, some 5)] (by kernel_rfl) 34 194 true rfl rfl (fun b w' hx hs => by obtain ⟨-, h1, -⟩ := hs; exact h1) ?_
  apply Exists.intro
  refine ⟨fun b w' hx hs => ?_, ?_⟩
  · obtain ⟨h0, h1, -⟩ := hs
    change _ = _ at h0
    change _ = _ at h1
    rw [eval_tmp] at h0 h1
    go_simp
    try go_ints
    rfl
  refine walk_q [(194, some 6), (200, some 0)] (by kernel_rfl) rfl ?_
  apply Exists.intro
  refine ⟨fun b w' hx hs => ?_, ?_⟩
  · obtain ⟨h0, h1, -⟩ := hs
    change _ = _ at h0
    change _ = _ at h1
    rw [eval_tmp] at h0 h1
    go_simp
    try go_ints
    rfl
  refine walk_q [(201, some 0)] (by kernel_rfl) rfl ?_
  apply Exists.intro
  refine ⟨fun b w' hx hs => ?_, ?_⟩
  · obtain ⟨h0, -⟩ := hs
    change _ = _ at h0
    rw [eval_tmp] at h0
    go_simp
    try go_ints
    rfl
  refine walk_qg [(5, none), (202, some 0)] (by kernel_rfl) 42 202 true rfl rfl (fun b w' hx hs => by obtain ⟨-, h1, -⟩ := hs; exact h1) ?_
  apply Exists.intro
  refine ⟨fun b w' hx hs => ?_, ?_⟩
  · obtain ⟨h0, h1, -⟩ := hs
    change _ = _ at h0
    change _ = _ at h1
    rw [eval_tmp] at h0 h1
    have hx_B1 := B1.ext hx
    have kB1_0 := hx_B1.cell 0 rfl
    have kB1_1 := hx_B1.cell 1 rfl
    have kB1_2 := hx_B1.cell 2 rfl
    have kB1_3 := hx_B1.cell 3 rfl
    have hx_B2 := B2.ext hx
    have kB2_0 := hx_B2.cell 0 rfl
    have kB2_1 := hx_B2.cell 1 rfl
    have kB2_2 := hx_B2.cell 2 rfl
    have kB2_3 := hx_B2.cell 3 rfl
    go_simp
    try go_ints
    rfl
  refine walk_cg [(203, some 0), (202, some 1)] (by kernel_rfl) 42 202 true rfl rfl (fun b w' hx hs => by obtain ⟨-, h1, -⟩ := hs; exact h1) (fun _ v => v = .bool true) (fun _ _ _ x h => by first | exact h | exact h.ext x) (fun b w' hx hs => ?_) ?_
  · as_aux_lemma =>
      obtain ⟨h0, h1, -⟩ := hs
      change _ = _ at h0
      change _ = _ at h1
      rw [eval_tmp] at h0 h1
      go_simp
      exact upon_enter ((ok_any _ (n1.ext hx)).mono fun ed w2 ⟨he, hx2⟩ => ⟨_, he, hx2, rfl⟩)
  refine walk_q [(202, some 2), (204, some 0)] (by kernel_rfl) rfl ?_
  apply Exists.intro
  refine ⟨fun b w' hx hs => ?_, ?_⟩
  · obtain ⟨h0, h1, -⟩ := hs
    change _ = _ at h0
    change _ = _ at h1
    rw [eval_tmp] at h0 h1
    go_simp
    try go_ints
    rfl
  refine walk_q [(205, some 0)] (by kernel_rfl) rfl ?_
  apply Exists.intro
  refine ⟨fun b w' hx hs => ?_, ?_⟩
  · obtain ⟨h0, -⟩ := hs
    change _ = _ at h0
    rw [eval_tmp] at h0
    go_simp
    try go_ints
    rfl
  refine walk_end ?_
  intro w8 hx8
  rintro _ rfl
  rintro _ rfl
  rintro _ rfl
  rintro _ rfl
  rintro _ rfl
  rintro _ rfl
  rintro _ rfl
  rintro _ rfl
  rintro _ rfl
  intro v197 hv197
  intro v196 hv196
  rintro _ rfl
  rintro _ rfl
  rintro _ rfl
  rintro _ rfl
  rintro _ rfl
  intro v190 hv190
  rintro _ rfl
  intro v188 hv188
  rintro _ rfl
  rintro _ rfl
  intro v185 hv185
  intro v184 hv184
  rintro _ rfl
  rintro _ rfl
  intro v181 hv181
  rintro _ rfl
  rintro _ rfl
  rintro _ rfl
  rintro _ rfl
  rintro _ rfl
  rintro _ rfl
  rintro _ rfl
  intro v173 hv173
  rintro _ rfl
  rintro _ rfl
  intro v170 hv170
  rintro _ rfl
  rintro _ rfl
  rintro _ rfl
  rintro _ rfl
  rintro _ rfl
  rintro _ rfl
  rintro _ rfl
  rintro _ rfl
  rintro _ rfl
  rintro _ rfl
  unfold fin
  simp only [Act.put, List.setIfInBounds_toArray, List.set_cons_succ, List.set_cons_zero]
  go_wp2
  go_ret
  exact ⟨rfl, hx.trans hx8⟩
end Go.Proofs.YthnmjkjllhlcjaaDoor
