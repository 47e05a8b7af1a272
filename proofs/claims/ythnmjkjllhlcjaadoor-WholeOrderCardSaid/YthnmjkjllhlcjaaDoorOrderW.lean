/- The walk of law 01's WholeOrder; no condition. -/
import Derived.Test.YthnmjkjllhlcjaaDoorLawC
namespace Go.Proofs.YthnmjkjllhlcjaaDoor
open Go Go.RowKit Go.Steady Go.Tri
set_option maxRecDepth 100000

theorem sg_le_trans {a b c : Rat} (h : 0 ≤ sg (a - b)) (k : 0 ≤ sg (b - c)) : 0 ≤ sg (a - c) := by
  rcases sg_cases (a - c) with ⟨h1, e⟩ | ⟨_, e⟩ | ⟨_, e⟩
  · rcases sg_cases (a - b) with ⟨h2, e2⟩ | ⟨h2, e2⟩ | ⟨h2, e2⟩ <;> rcases sg_cases (b - c) with ⟨h3, e3⟩ | ⟨h3, e3⟩ | ⟨h3, e3⟩ <;> first | omega | (exfalso; grind)
  · omega
  · omega
theorem sg_pos_iff {q : Rat} (h : 0 < sg q) : 0 < q := by
  rcases sg_cases q with ⟨_, e⟩ | ⟨_, e⟩ | ⟨h1, _⟩
  · omega
  · omega
  · exact h1
theorem rn_not_lt {p q : Rat} {x y : Nat} (hx : Rn p x) (hy : Rn q y) (h : q ≤ p) : (FloatKind.f64.format.order x y == some .lt) = false := by
  have h1 : FloatKind.f64.format.order x y = some (compare (sr x) (sr y)) := order_sr hx.1 hy.1
  have h2 := Rn.le hy hx h
  rw [h1, beq_eq_false_iff_ne]
  intro h3
  have := Int.compare_eq_lt.1 (Option.some.inj h3)
  omega
theorem order_k1 {q : Rat} {h : Int} (hi : p2 h ≤ ab q ∧ ab q < p2 (h + 1)) : ∃ k1 k2 : Int, sg (ab q - ((1 : Int) : Rat) * p2 h) = k1 ∧ 0 ≤ k1 ∧ sg (ab q - ((1 : Int) : Rat) * p2 (h + 1)) = k2 ∧ k2 < 0 := by
  have e : ((1 : Int) : Rat) = 1 := rfl
  rw [e, Rat.one_mul, Rat.one_mul]
  refine ⟨_, _, rfl, ?_, rfl, ?_⟩
  · rcases sg_cases (ab q - p2 h) with ⟨h1, _⟩ | ⟨_, e⟩ | ⟨_, e⟩
    · exfalso; grind
    · omega
    · omega
  · rw [sg_neg (by grind)]; omega
theorem ab_sz {n : Int} {q : Rat} (h : Sz n q) : Sz n (ab q) := by unfold ab; split; exact h.neg; exact h
set_option maxHeartbeats 6400000 in
theorem order_any (x0 x1 x2 x3 x4 x5 x6 x7 x8 : Nat) (w : World) (hT : Tab w) (h0 : x0 < 18446744073709551616) (h1 : x1 < 18446744073709551616) (h2 : x2 < 18446744073709551616) (h3 : x3 < 18446744073709551616) (h4 : x4 < 18446744073709551616) (h5 : x5 < 18446744073709551616) (h6 : x6 < 18446744073709551616) (h7 : x7 < 18446744073709551616) (h8 : x8 < 18446744073709551616) :
    Calls Tryd.prog 4 #[.agg #[.float .f64 x0, .float .f64 x1, .float .f64 x2, .float .f64 x3, .float .f64 x4, .float .f64 x5, .float .f64 x6, .float .f64 x7, .float .f64 x8]] w fun ed w' => ed = .returned (.bool true) ∧ Ext w w' := by
  have HT0 := Lib.hid hT
  have of1 := fun w => of_law x0 x1 x2 w h0 h1 h2
  have of2 := fun w => of_law x3 x4 x5 w h3 h4 h5
  have of3 := fun w => of_law x6 x7 x8 w h6 h7 h8
  have OF1 := Lib.hid of1; have OF2 := Lib.hid of2; have OF3 := Lib.hid of3
  clear of1 of2 of3 h0 h1 h2 h3 h4 h5 h6 h7 h8
  obtain ⟨qa, hqa, za⟩ := ofV_ex x0 x1 x2
  obtain ⟨qb, hqb, zb⟩ := ofV_ex x3 x4 x5
  obtain ⟨qc, hqc, zc⟩ := ofV_ex x6 x7 x8
  have QA := Lib.hid hqa; have QB := Lib.hid hqb; have QC := Lib.hid hqc; have ZA := Lib.hid za; have ZB := Lib.hid zb; have ZC := Lib.hid zc
  clear hqa hqb hqc za zb zc
  have BF := Box.new w #[.float .f64 x0, .float .f64 x1, .float .f64 x2, .float .f64 x3, .float .f64 x4, .float .f64 x5, .float .f64 x6, .float .f64 x7, .float .f64 x8] 23
  have hx : Ext w (w.alloc (.cells #[.float .f64 x0, .float .f64 x1, .float .f64 x2, .float .f64 x3, .float .f64 x4, .float .f64 x5, .float .f64 x6, .float .f64 x7, .float .f64 x8] 23)) := (Ext.refl _).alloc _
  go_enter Tryd.func4, Tryd.ntmps4
  go_wp2_with fail
  refine (works_any _ (hT.ext hx)).mono ?_
  rintro ed w1 ⟨rfl, hxk⟩
  replace BF := BF.ext hxk
  replace hx := hx.trans hxk
  replace hT := hT.ext hx
  clear hxk
  have BF_c0 := BF.cell 0 rfl; have BF_c1 := BF.cell 1 rfl; have BF_c2 := BF.cell 2 rfl; have BF_c3 := BF.cell 3 rfl; have BF_c4 := BF.cell 4 rfl; have BF_c5 := BF.cell 5 rfl; have BF_c6 := BF.cell 6 rfl; have BF_c7 := BF.cell 7 rfl; have BF_c8 := BF.cell 8 rfl; have BF_f0 := BF.free 0; have BF_f1 := BF.free 1; have BF_f2 := BF.free 2; have BF_f3 := BF.free 3; have BF_f4 := BF.free 4; have BF_f5 := BF.free 5; have BF_f6 := BF.free 6; have BF_f7 := BF.free 7; have BF_f8 := BF.free 8; have BF_lt := BF.lt
  go_wp2_with fail
  clear BF_c0 BF_c1 BF_c2 BF_c3 BF_c4 BF_c5 BF_c6 BF_c7 BF_c8 BF_f0 BF_f1 BF_f2 BF_f3 BF_f4 BF_f5 BF_f6 BF_f7 BF_f8 BF_lt
  refine (OF1.out _ hT).mono ?_
  rintro ed w2 ⟨v2, rfl, hxk, n1⟩
  rw [QA.out] at n1
  replace BF := BF.ext hxk
  replace hx := hx.trans hxk
  replace hT := hT.ext hxk
  clear hxk
  obtain ⟨a1, m1, c1, e1, neg1, non1, rfl, n1⟩ := n1.kept
  have B1 := Box.new w2 #[.slice a1 m1 c1, .int .i64 e1, .bool neg1, .bool non1] 29
  replace BF := BF.alloc (.cells #[.slice a1 m1 c1, .int .i64 e1, .bool neg1, .bool non1] 29)
  have hxa : Ext w2 (w2.alloc (.cells #[.slice a1 m1 c1, .int .i64 e1, .bool neg1, .bool non1] 29)) := (Ext.refl _).alloc _
  replace n1 := n1.ext hxa
  replace hx := hx.trans hxa
  replace hT := hT.ext hxa
  clear hxa
  have BF_c0 := BF.cell 0 rfl; have BF_c1 := BF.cell 1 rfl; have BF_c2 := BF.cell 2 rfl; have BF_c3 := BF.cell 3 rfl; have BF_c4 := BF.cell 4 rfl; have BF_c5 := BF.cell 5 rfl; have BF_c6 := BF.cell 6 rfl; have BF_c7 := BF.cell 7 rfl; have BF_c8 := BF.cell 8 rfl; have BF_f0 := BF.free 0; have BF_f1 := BF.free 1; have BF_f2 := BF.free 2; have BF_f3 := BF.free 3; have BF_f4 := BF.free 4; have BF_f5 := BF.free 5; have BF_f6 := BF.free 6; have BF_f7 := BF.free 7; have BF_f8 := BF.free 8; have BF_lt := BF.lt
  go_wp2_with fail
  clear BF_c0 BF_c1 BF_c2 BF_c3 BF_c4 BF_c5 BF_c6 BF_c7 BF_c8 BF_f0 BF_f1 BF_f2 BF_f3 BF_f4 BF_f5 BF_f6 BF_f7 BF_f8 BF_lt
  refine (OF2.out _ hT).mono ?_
  rintro ed w3 ⟨v3, rfl, hxk, n2⟩
  rw [QB.out] at n2
  replace BF := BF.ext hxk
  replace B1 := B1.ext hxk
  replace n1 := n1.ext hxk
  replace hx := hx.trans hxk
  replace hT := hT.ext hxk
  clear hxk
  obtain ⟨a2, m2, c2, e2, neg2, non2, rfl, n2⟩ := n2.kept
  have B2 := Box.new w3 #[.slice a2 m2 c2, .int .i64 e2, .bool neg2, .bool non2] 29
  replace BF := BF.alloc (.cells #[.slice a2 m2 c2, .int .i64 e2, .bool neg2, .bool non2] 29)
  replace B1 := B1.alloc (.cells #[.slice a2 m2 c2, .int .i64 e2, .bool neg2, .bool non2] 29)
  have hxa : Ext w3 (w3.alloc (.cells #[.slice a2 m2 c2, .int .i64 e2, .bool neg2, .bool non2] 29)) := (Ext.refl _).alloc _
  replace n1 := n1.ext hxa
  replace n2 := n2.ext hxa
  replace hx := hx.trans hxa
  replace hT := hT.ext hxa
  clear hxa
  have BF_c0 := BF.cell 0 rfl; have BF_c1 := BF.cell 1 rfl; have BF_c2 := BF.cell 2 rfl; have BF_c3 := BF.cell 3 rfl; have BF_c4 := BF.cell 4 rfl; have BF_c5 := BF.cell 5 rfl; have BF_c6 := BF.cell 6 rfl; have BF_c7 := BF.cell 7 rfl; have BF_c8 := BF.cell 8 rfl; have BF_f0 := BF.free 0; have BF_f1 := BF.free 1; have BF_f2 := BF.free 2; have BF_f3 := BF.free 3; have BF_f4 := BF.free 4; have BF_f5 := BF.free 5; have BF_f6 := BF.free 6; have BF_f7 := BF.free 7; have BF_f8 := BF.free 8; have BF_lt := BF.lt
  go_wp2_with fail
  clear BF_c0 BF_c1 BF_c2 BF_c3 BF_c4 BF_c5 BF_c6 BF_c7 BF_c8 BF_f0 BF_f1 BF_f2 BF_f3 BF_f4 BF_f5 BF_f6 BF_f7 BF_f8 BF_lt
  refine (OF3.out _ hT).mono ?_
  rintro ed w4 ⟨v4, rfl, hxk, n3⟩
  rw [QC.out] at n3
  replace B1 := B1.ext hxk
  replace B2 := B2.ext hxk
  replace n1 := n1.ext hxk
  replace n2 := n2.ext hxk
  replace hx := hx.trans hxk
  replace hT := hT.ext hxk
  clear hxk BF
  obtain ⟨a3, m3, c3, e3, neg3, non3, rfl, n3⟩ := n3.kept
  have B3 := Box.new w4 #[.slice a3 m3 c3, .int .i64 e3, .bool neg3, .bool non3] 29
  replace B1 := B1.alloc (.cells #[.slice a3 m3 c3, .int .i64 e3, .bool neg3, .bool non3] 29)
  replace B2 := B2.alloc (.cells #[.slice a3 m3 c3, .int .i64 e3, .bool neg3, .bool non3] 29)
  have hxa : Ext w4 (w4.alloc (.cells #[.slice a3 m3 c3, .int .i64 e3, .bool neg3, .bool non3] 29)) := (Ext.refl _).alloc _
  replace n1 := n1.ext hxa
  replace n2 := n2.ext hxa
  replace n3 := n3.ext hxa
  replace hx := hx.trans hxa
  replace hT := hT.ext hxa
  clear hxa
  go_wp2
  obtain ⟨t1, ht1⟩ : ∃ t, decide (0 ≤ sg (qa - qb)) = t := ⟨_, rfl⟩
  obtain ⟨t2, ht2⟩ : ∃ t, decide (0 ≤ sg (qb - qc)) = t := ⟨_, rfl⟩
  obtain ⟨t3, ht3⟩ : ∃ t, decide (0 < sg (qa - qb)) = t := ⟨_, rfl⟩
  have H46 := Lib.hid (show (t1 && t2) = true → decide (sg (qa - qc) < 0) = false from fun h => by
    rw [← ht1, ← ht2, Bool.and_eq_true, decide_eq_true_eq, decide_eq_true_eq] at h
    have := sg_le_trans h.1 h.2
    simp; omega)
  have H71 := Lib.hid (show t3 = true → qb ≤ qa from fun h => by
    rw [← ht3, decide_eq_true_eq] at h
    have := sg_pos_iff h
    grind)
  refine wp_steady 3 119 (by kernel_rfl) (by as_aux_lemma => kernel_rfl) rfl ?_
  refine walk_q [(3, none)] (by kernel_rfl) rfl ?_
  apply Exists.intro
  refine ⟨fun b w' hx hs => ?_, ?_⟩
  · obtain ⟨h0, -⟩ := hs
    change _ = _ at h0
    rw [eval_tmp] at h0
    have hx_B1 := B1.ext hx
    have kB1_0 := hx_B1.cell 0 rfl
    have kB1_1 := hx_B1.cell 1 rfl
    have kB1_2 := hx_B1.cell 2 rfl
    have kB1_3 := hx_B1.cell 3 rfl
    have hx_B2 := B2.ext hx
    have kB2_0 := hx_B2.cell 0 rfl
    have kB2_1 := hx_B2.cell 1 rfl
    have kB2_2 := hx_B2.cell 2 rfl
    have kB2_3 := hx_B2.cell 3 rfl
    have hx_B3 := B3.ext hx
    have kB3_0 := hx_B3.cell 0 rfl
    have kB3_1 := hx_B3.cell 1 rfl
    have kB3_2 := hx_B3.cell 2 rfl
    have kB3_3 := hx_B3.cell 3 rfl
    go_simp
    try go_ints
    rfl
  refine walk_q [(4, none)] (by kernel_rfl) rfl ?_
  apply Exists.intro
  refine ⟨fun b w' hx hs => ?_, ?_⟩
  · obtain ⟨h0, -⟩ := hs
    change _ = _ at h0
    rw [eval_tmp] at h0
    have hx_B1 := B1.ext hx
    have kB1_0 := hx_B1.cell 0 rfl
    have kB1_1 := hx_B1.cell 1 rfl
    have kB1_2 := hx_B1.cell 2 rfl
    have kB1_3 := hx_B1.cell 3 rfl
    have hx_B2 := B2.ext hx
    have kB2_0 := hx_B2.cell 0 rfl
    have kB2_1 := hx_B2.cell 1 rfl
    have kB2_2 := hx_B2.cell 2 rfl
    have kB2_3 := hx_B2.cell 3 rfl
    have hx_B3 := B3.ext hx
    have kB3_0 := hx_B3.cell 0 rfl
    have kB3_1 := hx_B3.cell 1 rfl
    have kB3_2 := hx_B3.cell 2 rfl
    have kB3_3 := hx_B3.cell 3 rfl
    go_simp
    try go_ints
    rfl
  refine walk_c [(32, some 1), (33, some 0)] (by kernel_rfl) rfl (fun _ v => v = .int .i64 (sg (qa - qb))) (fun _ _ _ x h => by first | exact h | exact h.ext x) (fun b w' hx hs => ?_) ?_
  · as_aux_lemma =>
      obtain ⟨h0, h1, -⟩ := hs
      change _ = _ at h0
      change _ = _ at h1
      rw [eval_tmp] at h0 h1
      go_simp
      refine upon_enter ((cmp_num _ (hT.ext hx) (n1.ext hx) (n2.ext hx)).mono fun ed w2 ⟨he, hx2⟩ => ⟨_, he, hx2, ?_⟩)
      rw [cmpO_sz (n := 2149) (ZA.out) (ZB.out) (by omega)]
  refine walk_q [(34, some 0)] (by kernel_rfl) rfl ?_
  apply Exists.intro
  refine ⟨fun b w' hx hs => ?_, ?_⟩
  · obtain ⟨h0, -⟩ := hs
    change _ = _ at h0
    rw [eval_tmp] at h0
    go_simp
    try go_ints
    rfl
  refine walk_q [(35, some 0)] (by kernel_rfl) rfl ?_
  apply Exists.intro
  refine ⟨fun b w' hx hs => ?_, ?_⟩
  · obtain ⟨h0, -⟩ := hs
    change _ = _ at h0
    rw [eval_tmp] at h0
    go_simp
    try go_ints
    rfl
  refine walk_m [(4, none), (36, some 0)] (by kernel_rfl) 4 36 (t1) true rfl rfl (fun b w' hx hs => by obtain ⟨-, h1, -⟩ := hs; exact h1) (fun w' v => IsNum w' v (some (qb))) (fun _ _ _ x h => by first | exact h | exact h.ext x) (fun hcg b w' hx hs => ?_) ?_
  · as_aux_lemma =>
      obtain ⟨h0, h1, -⟩ := hs
      change _ = _ at h0
      change _ = _ at h1
      rw [eval_tmp] at h0 h1
      have hx_b := B2.ext hx; have k0 := hx_b.cell 0 rfl; have k1 := hx_b.cell 1 rfl; have k2 := hx_b.cell 2 rfl; have k3 := hx_b.cell 3 rfl
      go_simp
      exact ⟨Ext.refl _, n2.ext hx⟩
  refine walk_m [(5, none), (36, some 1)] (by kernel_rfl) 4 36 (t1) true rfl rfl (fun b w' hx hs => by obtain ⟨-, h1, -⟩ := hs; exact h1) (fun w' v => IsNum w' v (some (qc))) (fun _ _ _ x h => by first | exact h | exact h.ext x) (fun hcg b w' hx hs => ?_) ?_
  · as_aux_lemma =>
      obtain ⟨h0, h1, -⟩ := hs
      change _ = _ at h0
      change _ = _ at h1
      rw [eval_tmp] at h0 h1
      have hx_b := B3.ext hx; have k0 := hx_b.cell 0 rfl; have k1 := hx_b.cell 1 rfl; have k2 := hx_b.cell 2 rfl; have k3 := hx_b.cell 3 rfl
      go_simp
      exact ⟨Ext.refl _, n3.ext hx⟩
  refine walk_m [(37, some 1), (38, some 0), (36, some 2)] (by kernel_rfl) 4 36 (t1) true rfl rfl (fun b w' hx hs => by obtain ⟨-, -, h2, -⟩ := hs; exact h2) (fun _ v => v = .int .i64 (sg (qb - qc))) (fun _ _ _ x h => by first | exact h | exact h.ext x) (fun hcg b w' hx hs => ?_) ?_
  · as_aux_lemma =>
      obtain ⟨h0, h1, h2, -⟩ := hs
      change _ = _ at h2
      rw [eval_tmp] at h0 h1 h2
      go_simp
      refine upon_enter ((cmp_num _ (hT.ext hx) (show IsNum _ _ (some (qb)) from by have hm := h0 hcg; rw [← eval_tmp] at *; exact hm) (show IsNum _ _ (some (qc)) from by have hm := h1 hcg; rw [← eval_tmp] at *; exact hm)).mono fun ed w2 ⟨he, hx2⟩ => ⟨_, he, hx2, ?_⟩)
      rw [cmpO_sz (n := 2149) (ZB.out) (ZC.out) (by omega)]
  refine walk_m [(39, some 0), (36, some 3)] (by kernel_rfl) 4 36 (t1) true rfl rfl (fun b w' hx hs => by obtain ⟨-, h1, -⟩ := hs; exact h1) (fun _ v => v = .bool t2) (fun _ _ _ x h => by first | exact h | exact h.ext x) (fun hcg b w' hx hs => ?_) ?_
  · as_aux_lemma =>
      obtain ⟨h0, h1, -⟩ := hs
      change _ = _ at h1
      rw [eval_tmp] at h0 h1
      have e1 := h0 hcg
      change _ = _ at e1
      go_simp
      exact ⟨Ext.refl _, rfl⟩
  refine walk_c [(36, some 4), (40, some 0)] (by kernel_rfl) rfl (fun _ v => v = .bool (t1 && t2)) (fun _ _ _ x h => by first | exact h | exact h.ext x) (fun b w' hx hs => ?_) ?_
  · as_aux_lemma =>
      obtain ⟨h0, h1, -⟩ := hs
      change _ = _ at h0
      rw [eval_tmp] at h0 h1
      change _ = _ at h0
      by_cases hc : t1 = true
      · have e1 := h1 hc
        change _ = _ at e1
        rw [hc] at h0
        go_simp
        exact ⟨Ext.refl _, rfl⟩
      · have hc' : t1 = false := by simpa using hc
        rw [hc'] at h0
        go_simp
        exact ⟨Ext.refl _, rfl⟩
  refine walk_q [(41, some 0)] (by kernel_rfl) rfl ?_
  apply Exists.intro
  refine ⟨fun b w' hx hs => ?_, ?_⟩
  · obtain ⟨h0, -⟩ := hs
    change _ = _ at h0
    rw [eval_tmp] at h0
    go_simp
    try go_ints
    rfl
  refine walk_m [(3, none), (42, some 0)] (by kernel_rfl) 10 42 (t1 && t2) true rfl rfl (fun b w' hx hs => by obtain ⟨-, h1, -⟩ := hs; exact h1) (fun w' v => IsNum w' v (some (qa))) (fun _ _ _ x h => by first | exact h | exact h.ext x) (fun hcg b w' hx hs => ?_) ?_
  · as_aux_lemma =>
      obtain ⟨h0, h1, -⟩ := hs
      change _ = _ at h0
      change _ = _ at h1
      rw [eval_tmp] at h0 h1
      have hx_b := B1.ext hx; have k0 := hx_b.cell 0 rfl; have k1 := hx_b.cell 1 rfl; have k2 := hx_b.cell 2 rfl; have k3 := hx_b.cell 3 rfl
      go_simp
      exact ⟨Ext.refl _, n1.ext hx⟩
  refine walk_m [(5, none), (42, some 1)] (by kernel_rfl) 10 42 (t1 && t2) true rfl rfl (fun b w' hx hs => by obtain ⟨-, h1, -⟩ := hs; exact h1) (fun w' v => IsNum w' v (some (qc))) (fun _ _ _ x h => by first | exact h | exact h.ext x) (fun hcg b w' hx hs => ?_) ?_
  · as_aux_lemma =>
      obtain ⟨h0, h1, -⟩ := hs
      change _ = _ at h0
      change _ = _ at h1
      rw [eval_tmp] at h0 h1
      have hx_b := B3.ext hx; have k0 := hx_b.cell 0 rfl; have k1 := hx_b.cell 1 rfl; have k2 := hx_b.cell 2 rfl; have k3 := hx_b.cell 3 rfl
      go_simp
      exact ⟨Ext.refl _, n3.ext hx⟩
  refine walk_m [(43, some 1), (44, some 0), (42, some 2)] (by kernel_rfl) 10 42 (t1 && t2) true rfl rfl (fun b w' hx hs => by obtain ⟨-, -, h2, -⟩ := hs; exact h2) (fun _ v => v = .int .i64 (sg (qa - qc))) (fun _ _ _ x h => by first | exact h | exact h.ext x) (fun hcg b w' hx hs => ?_) ?_
  · as_aux_lemma =>
      obtain ⟨h0, h1, h2, -⟩ := hs
      change _ = _ at h2
      rw [eval_tmp] at h0 h1 h2
      go_simp
      refine upon_enter ((cmp_num _ (hT.ext hx) (show IsNum _ _ (some (qa)) from by have hm := h0 hcg; rw [← eval_tmp] at *; exact hm) (show IsNum _ _ (some (qc)) from by have hm := h1 hcg; rw [← eval_tmp] at *; exact hm)).mono fun ed w2 ⟨he, hx2⟩ => ⟨_, he, hx2, ?_⟩)
      rw [cmpO_sz (n := 2149) (ZA.out) (ZC.out) (by omega)]
  refine walk_m [(45, some 0), (42, some 3)] (by kernel_rfl) 10 42 (t1 && t2) true rfl rfl (fun b w' hx hs => by obtain ⟨-, h1, -⟩ := hs; exact h1) (fun _ v => v = .bool false) (fun _ _ _ x h => by first | exact h | exact h.ext x) (fun hcg b w' hx hs => ?_) ?_
  · as_aux_lemma =>
      obtain ⟨h0, h1, -⟩ := hs
      change _ = _ at h1
      rw [eval_tmp] at h0 h1
      have e1 := h0 hcg
      change _ = _ at e1
      have e2 := H46.out hcg
      go_simp
      exact ⟨Ext.refl _, rfl⟩
  refine walk_c [(42, some 4), (46, some 0)] (by kernel_rfl) rfl (fun _ v => v = .bool false) (fun _ _ _ x h => by first | exact h | exact h.ext x) (fun b w' hx hs => ?_) ?_
  · as_aux_lemma =>
      obtain ⟨h0, h1, -⟩ := hs
      change _ = _ at h0
      rw [eval_tmp] at h0 h1
      change _ = _ at h0
      by_cases hc : (t1 && t2) = true
      · have e1 := h1 hc
        change _ = _ at e1
        rw [hc] at h0
        go_simp
        exact ⟨Ext.refl _, rfl⟩
      · have hc' : (t1 && t2) = false := by simpa using hc
        rw [hc'] at h0
        go_simp
        exact ⟨Ext.refl _, rfl⟩
  refine walk_q [(47, some 0)] (by kernel_rfl) rfl ?_
  apply Exists.intro
  refine ⟨fun b w' hx hs => ?_, ?_⟩
  · obtain ⟨h0, -⟩ := hs
    change _ = _ at h0
    rw [eval_tmp] at h0
    go_simp
    try go_ints
    rfl
  refine walk_qg [(3, none), (48, some 0)] (by kernel_rfl) 16 48 false rfl rfl (fun b w' hx hs => by obtain ⟨-, h1, -⟩ := hs; exact h1) ?_
  apply Exists.intro
  refine ⟨fun b w' hx hs => ?_, ?_⟩
  · obtain ⟨h0, h1, -⟩ := hs
    change _ = _ at h0
    change _ = _ at h1
    rw [eval_tmp] at h0 h1
    have hx_B1 := B1.ext hx
    have kB1_0 := hx_B1.cell 0 rfl
    have kB1_1 := hx_B1.cell 1 rfl
    have kB1_2 := hx_B1.cell 2 rfl
    have kB1_3 := hx_B1.cell 3 rfl
    have hx_B2 := B2.ext hx
    have kB2_0 := hx_B2.cell 0 rfl
    have kB2_1 := hx_B2.cell 1 rfl
    have kB2_2 := hx_B2.cell 2 rfl
    have kB2_3 := hx_B2.cell 3 rfl
    have hx_B3 := B3.ext hx
    have kB3_0 := hx_B3.cell 0 rfl
    have kB3_1 := hx_B3.cell 1 rfl
    have kB3_2 := hx_B3.cell 2 rfl
    have kB3_3 := hx_B3.cell 3 rfl
    go_simp
    try go_ints
    rfl
  refine walk_qg [(5, none), (48, some 1)] (by kernel_rfl) 16 48 false rfl rfl (fun b w' hx hs => by obtain ⟨-, h1, -⟩ := hs; exact h1) ?_
  apply Exists.intro
  refine ⟨fun b w' hx hs => ?_, ?_⟩
  · obtain ⟨h0, h1, -⟩ := hs
    change _ = _ at h0
    change _ = _ at h1
    rw [eval_tmp] at h0 h1
    have hx_B1 := B1.ext hx
    have kB1_0 := hx_B1.cell 0 rfl
    have kB1_1 := hx_B1.cell 1 rfl
    have kB1_2 := hx_B1.cell 2 rfl
    have kB1_3 := hx_B1.cell 3 rfl
    have hx_B2 := B2.ext hx
    have kB2_0 := hx_B2.cell 0 rfl
    have kB2_1 := hx_B2.cell 1 rfl
    have kB2_2 := hx_B2.cell 2 rfl
    have kB2_3 := hx_B2.cell 3 rfl
    have hx_B3 := B3.ext hx
    have kB3_0 := hx_B3.cell 0 rfl
    have kB3_1 := hx_B3.cell 1 rfl
    have kB3_2 := hx_B3.cell 2 rfl
    have kB3_3 := hx_B3.cell 3 rfl
    go_simp
    try go_ints
    rfl
  refine walk_cg [(49, some 1), (50, some 0), (48, some 2)] (by kernel_rfl) 16 48 false rfl rfl (fun b w' hx hs => by obtain ⟨-, -, h2, -⟩ := hs; exact h2) (fun w' v => IsNum w' v (some ((qa + qc)))) (fun _ _ _ x h => by first | exact h | exact h.ext x) (fun b w' hx hs => ?_) ?_
  · as_aux_lemma =>
      obtain ⟨h0, h1, h2, -⟩ := hs
      change _ = _ at h0
      change _ = _ at h1
      change _ = _ at h2
      rw [eval_tmp] at h0 h1 h2
      go_simp
      refine upon_enter ((add_any _ (hT.ext hx) (n1.ext hx) (n3.ext hx)).mono fun ed w2 ⟨v, he, hx2, hn⟩ => ⟨v, he, hx2, ?_⟩)
      rw [addO_sz (n := 2149) (ZA.out) (ZC.out) (by omega)] at hn
      first | exact hn | simpa using hn
  refine walk_qg [(4, none), (48, some 3)] (by kernel_rfl) 16 48 false rfl rfl (fun b w' hx hs => by obtain ⟨-, h1, -⟩ := hs; exact h1) ?_
  apply Exists.intro
  refine ⟨fun b w' hx hs => ?_, ?_⟩
  · obtain ⟨h0, h1, -⟩ := hs
    change _ = _ at h0
    change _ = _ at h1
    rw [eval_tmp] at h0 h1
    have hx_B1 := B1.ext hx
    have kB1_0 := hx_B1.cell 0 rfl
    have kB1_1 := hx_B1.cell 1 rfl
    have kB1_2 := hx_B1.cell 2 rfl
    have kB1_3 := hx_B1.cell 3 rfl
    have hx_B2 := B2.ext hx
    have kB2_0 := hx_B2.cell 0 rfl
    have kB2_1 := hx_B2.cell 1 rfl
    have kB2_2 := hx_B2.cell 2 rfl
    have kB2_3 := hx_B2.cell 3 rfl
    have hx_B3 := B3.ext hx
    have kB3_0 := hx_B3.cell 0 rfl
    have kB3_1 := hx_B3.cell 1 rfl
    have kB3_2 := hx_B3.cell 2 rfl
    have kB3_3 := hx_B3.cell 3 rfl
    go_simp
    try go_ints
    rfl
  refine walk_qg [(5, none), (48, some 4)] (by kernel_rfl) 16 48 false rfl rfl (fun b w' hx hs => by obtain ⟨-, h1, -⟩ := hs; exact h1) ?_
  apply Exists.intro
  refine ⟨fun b w' hx hs => ?_, ?_⟩
  · obtain ⟨h0, h1, -⟩ := hs
    change _ = _ at h0
    change _ = _ at h1
    rw [eval_tmp] at h0 h1
    have hx_B1 := B1.ext hx
    have kB1_0 := hx_B1.cell 0 rfl
    have kB1_1 := hx_B1.cell 1 rfl
    have kB1_2 := hx_B1.cell 2 rfl
    have kB1_3 := hx_B1.cell 3 rfl
    have hx_B2 := B2.ext hx
    have kB2_0 := hx_B2.cell 0 rfl
    have kB2_1 := hx_B2.cell 1 rfl
    have kB2_2 := hx_B2.cell 2 rfl
    have kB2_3 := hx_B2.cell 3 rfl
    have hx_B3 := B3.ext hx
    have kB3_0 := hx_B3.cell 0 rfl
    have kB3_1 := hx_B3.cell 1 rfl
    have kB3_2 := hx_B3.cell 2 rfl
    have kB3_3 := hx_B3.cell 3 rfl
    go_simp
    try go_ints
    rfl
  refine walk_cg [(52, some 1), (53, some 0), (48, some 5)] (by kernel_rfl) 16 48 false rfl rfl (fun b w' hx hs => by obtain ⟨-, -, h2, -⟩ := hs; exact h2) (fun w' v => IsNum w' v (some ((qb + qc)))) (fun _ _ _ x h => by first | exact h | exact h.ext x) (fun b w' hx hs => ?_) ?_
  · as_aux_lemma =>
      obtain ⟨h0, h1, h2, -⟩ := hs
      change _ = _ at h0
      change _ = _ at h1
      change _ = _ at h2
      rw [eval_tmp] at h0 h1 h2
      go_simp
      refine upon_enter ((add_any _ (hT.ext hx) (n2.ext hx) (n3.ext hx)).mono fun ed w2 ⟨v, he, hx2, hn⟩ => ⟨v, he, hx2, ?_⟩)
      rw [addO_sz (n := 2149) (ZB.out) (ZC.out) (by omega)] at hn
      first | exact hn | simpa using hn
  refine walk_cg [(51, some 3), (54, some 0), (48, some 6)] (by kernel_rfl) 16 48 false rfl rfl (fun b w' hx hs => by obtain ⟨-, -, h2, -⟩ := hs; exact h2) (fun _ v => v = .int .i64 (sg (qa - qb))) (fun _ _ _ x h => by first | exact h | exact h.ext x) (fun b w' hx hs => ?_) ?_
  · as_aux_lemma =>
      obtain ⟨h0, h1, h2, -⟩ := hs
      change _ = _ at h2
      rw [eval_tmp] at h0 h1 h2
      go_simp
      refine upon_enter ((cmp_num _ (hT.ext hx) (show IsNum _ _ (some ((qa + qc))) from by rw [← eval_tmp] at *; exact h0) (show IsNum _ _ (some ((qb + qc))) from by rw [← eval_tmp] at *; exact h1)).mono fun ed w2 ⟨he, hx2⟩ => ⟨_, he, hx2, ?_⟩)
      rw [cmpO_sz (n := 2150) ((show Sz 2150 ((qa + qc)) from (Sz.add (ZA.out) (ZC.out)))) ((show Sz 2150 ((qb + qc)) from (Sz.add (ZB.out) (ZC.out)))) (by omega)]
      have hval : sg ((qa + qc) - (qb + qc)) = sg (qa - qb) := (by congr 1; grind)
      rw [hval]
  refine walk_qg [(3, none), (48, some 7)] (by kernel_rfl) 16 48 false rfl rfl (fun b w' hx hs => by obtain ⟨-, h1, -⟩ := hs; exact h1) ?_
  apply Exists.intro
  refine ⟨fun b w' hx hs => ?_, ?_⟩
  · obtain ⟨h0, h1, -⟩ := hs
    change _ = _ at h0
    change _ = _ at h1
    rw [eval_tmp] at h0 h1
    have hx_B1 := B1.ext hx
    have kB1_0 := hx_B1.cell 0 rfl
    have kB1_1 := hx_B1.cell 1 rfl
    have kB1_2 := hx_B1.cell 2 rfl
    have kB1_3 := hx_B1.cell 3 rfl
    have hx_B2 := B2.ext hx
    have kB2_0 := hx_B2.cell 0 rfl
    have kB2_1 := hx_B2.cell 1 rfl
    have kB2_2 := hx_B2.cell 2 rfl
    have kB2_3 := hx_B2.cell 3 rfl
    have hx_B3 := B3.ext hx
    have kB3_0 := hx_B3.cell 0 rfl
    have kB3_1 := hx_B3.cell 1 rfl
    have kB3_2 := hx_B3.cell 2 rfl
    have kB3_3 := hx_B3.cell 3 rfl
    go_simp
    try go_ints
    rfl
  refine walk_qg [(4, none), (48, some 8)] (by kernel_rfl) 16 48 false rfl rfl (fun b w' hx hs => by obtain ⟨-, h1, -⟩ := hs; exact h1) ?_
  apply Exists.intro
  refine ⟨fun b w' hx hs => ?_, ?_⟩
  · obtain ⟨h0, h1, -⟩ := hs
    change _ = _ at h0
    change _ = _ at h1
    rw [eval_tmp] at h0 h1
    have hx_B1 := B1.ext hx
    have kB1_0 := hx_B1.cell 0 rfl
    have kB1_1 := hx_B1.cell 1 rfl
    have kB1_2 := hx_B1.cell 2 rfl
    have kB1_3 := hx_B1.cell 3 rfl
    have hx_B2 := B2.ext hx
    have kB2_0 := hx_B2.cell 0 rfl
    have kB2_1 := hx_B2.cell 1 rfl
    have kB2_2 := hx_B2.cell 2 rfl
    have kB2_3 := hx_B2.cell 3 rfl
    have hx_B3 := B3.ext hx
    have kB3_0 := hx_B3.cell 0 rfl
    have kB3_1 := hx_B3.cell 1 rfl
    have kB3_2 := hx_B3.cell 2 rfl
    have kB3_3 := hx_B3.cell 3 rfl
    go_simp
    try go_ints
    rfl
  refine walk_cg [(56, some 1), (57, some 0), (48, some 9)] (by kernel_rfl) 16 48 false rfl rfl (fun b w' hx hs => by obtain ⟨-, -, h2, -⟩ := hs; exact h2) (fun _ v => v = .int .i64 (sg (qa - qb))) (fun _ _ _ x h => by first | exact h | exact h.ext x) (fun b w' hx hs => ?_) ?_
  · as_aux_lemma =>
      obtain ⟨h0, h1, h2, -⟩ := hs
      change _ = _ at h0
      change _ = _ at h1
      change _ = _ at h2
      rw [eval_tmp] at h0 h1 h2
      go_simp
      refine upon_enter ((cmp_num _ (hT.ext hx) (n1.ext hx) (n2.ext hx)).mono fun ed w2 ⟨he, hx2⟩ => ⟨_, he, hx2, ?_⟩)
      rw [cmpO_sz (n := 2149) (ZA.out) (ZB.out) (by omega)]
  refine walk_qg [(55, some 3), (58, some 0), (48, some 10)] (by kernel_rfl) 16 48 false rfl rfl (fun b w' hx hs => by obtain ⟨-, -, h2, -⟩ := hs; exact h2) ?_
  apply Exists.intro
  refine ⟨fun b w' hx hs => ?_, ?_⟩
  · obtain ⟨h0, h1, h2, -⟩ := hs
    change _ = _ at h0
    change _ = _ at h1
    change _ = _ at h2
    rw [eval_tmp] at h0 h1 h2
    go_simp
    try go_ints
    rfl
  refine walk_q [(48, some 11), (59, some 0)] (by kernel_rfl) rfl ?_
  apply Exists.intro
  refine ⟨fun b w' hx hs => ?_, ?_⟩
  · obtain ⟨h0, h1, -⟩ := hs
    change _ = _ at h0
    change _ = _ at h1
    rw [eval_tmp] at h0 h1
    go_simp
    try go_ints
    rfl
  refine walk_q [(60, some 0)] (by kernel_rfl) rfl ?_
  apply Exists.intro
  refine ⟨fun b w' hx hs => ?_, ?_⟩
  · obtain ⟨h0, -⟩ := hs
    change _ = _ at h0
    rw [eval_tmp] at h0
    go_simp
    try go_ints
    rfl
  refine walk_qg [(3, none), (61, some 0)] (by kernel_rfl) 29 61 false rfl rfl (fun b w' hx hs => by obtain ⟨-, h1, -⟩ := hs; exact h1) ?_
  apply Exists.intro
  refine ⟨fun b w' hx hs => ?_, ?_⟩
  · obtain ⟨h0, h1, -⟩ := hs
    change _ = _ at h0
    change _ = _ at h1
    rw [eval_tmp] at h0 h1
    have hx_B1 := B1.ext hx
    have kB1_0 := hx_B1.cell 0 rfl
    have kB1_1 := hx_B1.cell 1 rfl
    have kB1_2 := hx_B1.cell 2 rfl
    have kB1_3 := hx_B1.cell 3 rfl
    have hx_B2 := B2.ext hx
    have kB2_0 := hx_B2.cell 0 rfl
    have kB2_1 := hx_B2.cell 1 rfl
    have kB2_2 := hx_B2.cell 2 rfl
    have kB2_3 := hx_B2.cell 3 rfl
    have hx_B3 := B3.ext hx
    have kB3_0 := hx_B3.cell 0 rfl
    have kB3_1 := hx_B3.cell 1 rfl
    have kB3_2 := hx_B3.cell 2 rfl
    have kB3_3 := hx_B3.cell 3 rfl
    go_simp
    try go_ints
    rfl
  refine walk_qg [(4, none), (61, some 1)] (by kernel_rfl) 29 61 false rfl rfl (fun b w' hx hs => by obtain ⟨-, h1, -⟩ := hs; exact h1) ?_
  apply Exists.intro
  refine ⟨fun b w' hx hs => ?_, ?_⟩
  · obtain ⟨h0, h1, -⟩ := hs
    change _ = _ at h0
    change _ = _ at h1
    rw [eval_tmp] at h0 h1
    have hx_B1 := B1.ext hx
    have kB1_0 := hx_B1.cell 0 rfl
    have kB1_1 := hx_B1.cell 1 rfl
    have kB1_2 := hx_B1.cell 2 rfl
    have kB1_3 := hx_B1.cell 3 rfl
    have hx_B2 := B2.ext hx
    have kB2_0 := hx_B2.cell 0 rfl
    have kB2_1 := hx_B2.cell 1 rfl
    have kB2_2 := hx_B2.cell 2 rfl
    have kB2_3 := hx_B2.cell 3 rfl
    have hx_B3 := B3.ext hx
    have kB3_0 := hx_B3.cell 0 rfl
    have kB3_1 := hx_B3.cell 1 rfl
    have kB3_2 := hx_B3.cell 2 rfl
    have kB3_3 := hx_B3.cell 3 rfl
    go_simp
    try go_ints
    rfl
  refine walk_cg [(62, some 1), (63, some 0), (61, some 2)] (by kernel_rfl) 29 61 false rfl rfl (fun b w' hx hs => by obtain ⟨-, -, h2, -⟩ := hs; exact h2) (fun _ v => v = .int .i64 (sg (qa - qb))) (fun _ _ _ x h => by first | exact h | exact h.ext x) (fun b w' hx hs => ?_) ?_
  · as_aux_lemma =>
      obtain ⟨h0, h1, h2, -⟩ := hs
      change _ = _ at h0
      change _ = _ at h1
      change _ = _ at h2
      rw [eval_tmp] at h0 h1 h2
      go_simp
      refine upon_enter ((cmp_num _ (hT.ext hx) (n1.ext hx) (n2.ext hx)).mono fun ed w2 ⟨he, hx2⟩ => ⟨_, he, hx2, ?_⟩)
      rw [cmpO_sz (n := 2149) (ZA.out) (ZB.out) (by omega)]
  refine walk_qg [(64, some 0), (61, some 3)] (by kernel_rfl) 29 61 false rfl rfl (fun b w' hx hs => by obtain ⟨-, h1, -⟩ := hs; exact h1) ?_
  apply Exists.intro
  refine ⟨fun b w' hx hs => ?_, ?_⟩
  · obtain ⟨h0, h1, -⟩ := hs
    change _ = _ at h0
    change _ = _ at h1
    rw [eval_tmp] at h0 h1
    go_simp
    try go_ints
    rfl
  refine walk_qg [(65, some 0), (61, some 4)] (by kernel_rfl) 29 61 false rfl rfl (fun b w' hx hs => by obtain ⟨-, h1, -⟩ := hs; exact h1) ?_
  apply Exists.intro
  refine ⟨fun b w' hx hs => ?_, ?_⟩
  · obtain ⟨h0, h1, -⟩ := hs
    change _ = _ at h0
    change _ = _ at h1
    rw [eval_tmp] at h0 h1
    go_simp
    try go_ints
    rfl
  refine walk_m [(3, none), (66, some 0)] (by kernel_rfl) 34 66 (t3) true rfl rfl (fun b w' hx hs => by obtain ⟨-, h1, -⟩ := hs; exact h1) (fun w' v => IsNum w' v (some (qa))) (fun _ _ _ x h => by first | exact h | exact h.ext x) (fun hcg b w' hx hs => ?_) ?_
  · as_aux_lemma =>
      obtain ⟨h0, h1, -⟩ := hs
      change _ = _ at h0
      change _ = _ at h1
      rw [eval_tmp] at h0 h1
      have hx_b := B1.ext hx; have k0 := hx_b.cell 0 rfl; have k1 := hx_b.cell 1 rfl; have k2 := hx_b.cell 2 rfl; have k3 := hx_b.cell 3 rfl
      go_simp
      exact ⟨Ext.refl _, n1.ext hx⟩
  refine walk_m [(67, some 0), (66, some 1)] (by kernel_rfl) 34 66 (t3) true rfl rfl (fun b w' hx hs => by obtain ⟨-, h1, -⟩ := hs; exact h1) (fun _ v => ∃ z, v = .float .f64 z ∧ Rn (qa) z) (fun _ _ _ x h => by first | exact h | exact h.ext x) (fun hcg b w' hx hs => ?_) ?_
  · as_aux_lemma =>
      obtain ⟨h0, h1, -⟩ := hs
      change _ = _ at h1
      rw [eval_tmp] at h0 h1
      go_simp
      exact upon_enter ((float_any _ (show IsNum _ _ (some (qa)) from by have hm := h0 hcg; rw [← eval_tmp] at *; exact hm)).mono fun ed w2 ⟨z, he, hx2, hr⟩ => ⟨_, he, hx2, z, rfl, hr⟩)
  refine walk_m [(4, none), (66, some 2)] (by kernel_rfl) 34 66 (t3) true rfl rfl (fun b w' hx hs => by obtain ⟨-, h1, -⟩ := hs; exact h1) (fun w' v => IsNum w' v (some (qb))) (fun _ _ _ x h => by first | exact h | exact h.ext x) (fun hcg b w' hx hs => ?_) ?_
  · as_aux_lemma =>
      obtain ⟨h0, h1, -⟩ := hs
      change _ = _ at h0
      change _ = _ at h1
      rw [eval_tmp] at h0 h1
      have hx_b := B2.ext hx; have k0 := hx_b.cell 0 rfl; have k1 := hx_b.cell 1 rfl; have k2 := hx_b.cell 2 rfl; have k3 := hx_b.cell 3 rfl
      go_simp
      exact ⟨Ext.refl _, n2.ext hx⟩
  refine walk_m [(69, some 0), (66, some 3)] (by kernel_rfl) 34 66 (t3) true rfl rfl (fun b w' hx hs => by obtain ⟨-, h1, -⟩ := hs; exact h1) (fun _ v => ∃ z, v = .float .f64 z ∧ Rn (qb) z) (fun _ _ _ x h => by first | exact h | exact h.ext x) (fun hcg b w' hx hs => ?_) ?_
  · as_aux_lemma =>
      obtain ⟨h0, h1, -⟩ := hs
      change _ = _ at h1
      rw [eval_tmp] at h0 h1
      go_simp
      exact upon_enter ((float_any _ (show IsNum _ _ (some (qb)) from by have hm := h0 hcg; rw [← eval_tmp] at *; exact hm)).mono fun ed w2 ⟨z, he, hx2, hr⟩ => ⟨_, he, hx2, z, rfl, hr⟩)
  refine walk_m [(68, some 2), (70, some 0), (66, some 4)] (by kernel_rfl) 34 66 (t3) true rfl rfl (fun b w' hx hs => by obtain ⟨-, -, h2, -⟩ := hs; exact h2) (fun _ v => v = .bool false) (fun _ _ _ x h => by first | exact h | exact h.ext x) (fun hcg b w' hx hs => ?_) ?_
  · as_aux_lemma =>
      obtain ⟨h0, h1, h2, -⟩ := hs
      change _ = _ at h2
      rw [eval_tmp] at h0 h1 h2
      obtain ⟨z1, e1, r1⟩ := h0 hcg
      obtain ⟨z2, e2, r2⟩ := h1 hcg
      have e3 := rn_not_lt r1 r2 (H71.out hcg)
      go_simp
      exact ⟨Ext.refl _, rfl⟩
  refine walk_cg [(66, some 5), (71, some 0), (61, some 10)] (by kernel_rfl) 29 61 false rfl rfl (fun b w' hx hs => by obtain ⟨-, -, h2, -⟩ := hs; exact h2) (fun _ v => v = .bool false) (fun _ _ _ x h => by first | exact h | exact h.ext x) (fun b w' hx hs => ?_) ?_
  · as_aux_lemma =>
      obtain ⟨h0, h1, h2, -⟩ := hs
      change _ = _ at h0
      change _ = _ at h2
      rw [eval_tmp] at h0 h1 h2
      change _ = _ at h0
      by_cases hc : t3 = true
      · have e1 := h1 hc
        change _ = _ at e1
        rw [hc] at h0
        go_simp
        exact ⟨Ext.refl _, rfl⟩
      · have hc' : t3 = false := by simpa using hc
        rw [hc'] at h0
        go_simp
        exact ⟨Ext.refl _, rfl⟩
  refine walk_q [(61, some 11), (72, some 0)] (by kernel_rfl) rfl ?_
  apply Exists.intro
  refine ⟨fun b w' hx hs => ?_, ?_⟩
  · obtain ⟨h0, h1, -⟩ := hs
    change _ = _ at h0
    change _ = _ at h1
    rw [eval_tmp] at h0 h1
    go_simp
    try go_ints
    rfl
  refine walk_end ?_
  intro w5 hx5
  rintro _ rfl
  rintro _ rfl
  intro v71 hv71
  intro v70 hv70
  intro v69 hv69
  intro v68 hv68
  intro v67 hv67
  rintro _ rfl
  rintro _ rfl
  rintro _ rfl
  rintro _ rfl
  rintro _ rfl
  rintro _ rfl
  rintro _ rfl
  rintro _ rfl
  rintro _ rfl
  rintro _ rfl
  rintro _ rfl
  rintro _ rfl
  intro v54 hv54
  rintro _ rfl
  rintro _ rfl
  intro v51 hv51
  rintro _ rfl
  rintro _ rfl
  rintro _ rfl
  rintro _ rfl
  intro v46 hv46
  intro v45 hv45
  intro v44 hv44
  intro v43 hv43
  rintro _ rfl
  rintro _ rfl
  intro v40 hv40
  intro v39 hv39
  intro v38 hv38
  intro v37 hv37
  rintro _ rfl
  rintro _ rfl
  rintro _ rfl
  rintro _ rfl
  rintro _ rfl
  unfold fin
  simp only [Act.put, List.setIfInBounds_toArray, List.set_cons_succ, List.set_cons_zero]
  replace B1 := B1.ext hx5
  replace B2 := B2.ext hx5
  replace B3 := B3.ext hx5
  replace n1 := n1.ext hx5
  replace n2 := n2.ext hx5
  replace n3 := n3.ext hx5
  replace hx := hx.trans hx5
  replace hT := hT.ext hx5
  clear hx5
  clear H46 H71 ht1 ht2 ht3
  have B1_c0 := B1.cell 0 rfl; have B1_c1 := B1.cell 1 rfl; have B1_c2 := B1.cell 2 rfl; have B1_c3 := B1.cell 3 rfl; have B1_f0 := B1.free 0; have B1_f1 := B1.free 1; have B1_f2 := B1.free 2; have B1_f3 := B1.free 3; have B1_lt := B1.lt
  go_wp2_with fail
  clear B1_c0 B1_c1 B1_c2 B1_c3 B1_f0 B1_f1 B1_f2 B1_f3 B1_lt
  refine (sign_any _ n1).mono ?_
  rintro ed w6 ⟨he, hxk⟩
  rw [show sgO (some qa) = sg qa from rfl] at he
  subst he
  replace B1 := B1.ext hxk
  replace B2 := B2.ext hxk
  replace B3 := B3.ext hxk
  replace n1 := n1.ext hxk
  replace n2 := n2.ext hxk
  replace n3 := n3.ext hxk
  replace hx := hx.trans hxk
  replace hT := hT.ext hxk
  clear hxk
  by_cases hz : qa = 0
  · have hs : sg qa = 0 := by rw [hz]; exact sg_zero
    have hh : hiQ qa = 0 := by rw [hz]; exact hiQ_zero
    have hl : loQ qa = 0 := by rw [hz]; exact loQ_zero
    have HH := Lib.hid hh; have HL := Lib.hid hl; clear hh hl hz
    have B1_c0 := B1.cell 0 rfl; have B1_c1 := B1.cell 1 rfl; have B1_c2 := B1.cell 2 rfl; have B1_c3 := B1.cell 3 rfl; have B1_f0 := B1.free 0; have B1_f1 := B1.free 1; have B1_f2 := B1.free 2; have B1_f3 := B1.free 3; have B1_lt := B1.lt
    go_wp2_with fail
    clear B1_c0 B1_c1 B1_c2 B1_c3 B1_f0 B1_f1 B1_f2 B1_f3 B1_lt
    refine (high_num _ n1).mono ?_
    rintro ed w7 ⟨he, hxk⟩
    rw [show (some qa).getD 0 = qa from rfl, HH.out] at he
    subst he
    replace B1 := B1.ext hxk
    replace B2 := B2.ext hxk
    replace B3 := B3.ext hxk
    replace n1 := n1.ext hxk
    replace n2 := n2.ext hxk
    replace n3 := n3.ext hxk
    replace hx := hx.trans hxk
    replace hT := hT.ext hxk
    clear hxk
    have B1_c0 := B1.cell 0 rfl; have B1_c1 := B1.cell 1 rfl; have B1_c2 := B1.cell 2 rfl; have B1_c3 := B1.cell 3 rfl; have B1_f0 := B1.free 0; have B1_f1 := B1.free 1; have B1_f2 := B1.free 2; have B1_f3 := B1.free 3; have B1_lt := B1.lt
    go_wp2_with fail
    clear B1_c0 B1_c1 B1_c2 B1_c3 B1_f0 B1_f1 B1_f2 B1_f3 B1_lt
    refine (low_num _ hT n1).mono ?_
    rintro ed w8 ⟨he, hxk⟩
    rw [show (some qa).getD 0 = qa from rfl, HL.out] at he
    subst he
    replace B1 := B1.ext hxk
    replace B2 := B2.ext hxk
    replace B3 := B3.ext hxk
    replace n1 := n1.ext hxk
    replace n2 := n2.ext hxk
    replace n3 := n3.ext hxk
    replace hx := hx.trans hxk
    replace hT := hT.ext hxk
    clear hxk
    go_wp2
    go_ret
    exact ⟨rfl, hx⟩
  · have hs : (sg qa == 0) = false := by
      rcases sg_cases qa with ⟨_, e⟩ | ⟨h, _⟩ | ⟨_, e⟩
      · rw [e]; rfl
      · exact absurd h hz
      · rw [e]; rfl
    have lt1 := B1.lt
    have B6 := Box.new w6 #[.slice a1 m1 c1, .int .i64 e1, .bool neg1, .bool non1] 29
    have B1_c0 := B1.cell 0 rfl; have B1_c1 := B1.cell 1 rfl; have B1_c2 := B1.cell 2 rfl; have B1_c3 := B1.cell 3 rfl; have B1_f0 := B1.free 0; have B1_f1 := B1.free 1; have B1_f2 := B1.free 2; have B1_f3 := B1.free 3; have B1_lt := B1.lt
    have hxa : Ext w6 (w6.alloc (.cells #[.slice a1 m1 c1, .int .i64 e1, .bool neg1, .bool non1] 29)) := (Ext.refl _).alloc _
    have n1a := n1.ext hxa
    go_wp2_with fail
    clear B1_c0 B1_c1 B1_c2 B1_c3 B1_f0 B1_f1 B1_f2 B1_f3 B1_lt
    refine (sign_any _ n1a).mono ?_
    rintro ed w7 ⟨he, hxk⟩
    rw [show sgO (some qa) = sg qa from rfl] at he
    subst he
    clear n1a
    replace B6 := B6.ext hxk
    have hx6 : w.heap.size ≤ w6.heap.size := hx.size
    replace hxk := hxa.trans hxk
    clear hxa
    replace B1 := B1.ext hxk
    replace B2 := B2.ext hxk
    replace B3 := B3.ext hxk
    replace n1 := n1.ext hxk
    replace n2 := n2.ext hxk
    replace n3 := n3.ext hxk
    replace hx := hx.trans hxk
    replace hT := hT.ext hxk
    clear hxk
    have hd1 : w2.heap.size ≠ w6.heap.size := by omega
    have hhi := (IsNum.hi n1).1
    have hlo := (IsNum.lo n1).1
    have hbd := hi_bounds hhi hz ZA.out
    have hle := hlo.le_hi hhi hz
    obtain ⟨h, hh⟩ : ∃ h, hiQ qa = h := ⟨_, rfl⟩
    obtain ⟨l, hl⟩ : ∃ l, loQ qa = l := ⟨_, rfl⟩
    rw [hh] at hhi hbd hle
    rw [hl] at hle
    have hhi2 : p2 h ≤ ab qa ∧ ab qa < p2 (h + 1) := by
      rcases hhi with ⟨e, -⟩ | e
      · exact absurd e hz
      · exact e
    clear hhi hlo
    have HH := Lib.hid hh; have HL := Lib.hid hl; have HI := Lib.hid hhi2; clear hh hl hhi2
    obtain ⟨hb1, hb2⟩ := hbd
    obtain ⟨k1, k2, hk1, hk1p, hk2, hk2p⟩ := order_k1 HI.out
    have K1 := Lib.hid hk1; have K2 := Lib.hid hk2; clear hk1 hk2
    have ZM := Lib.hid (ab_sz ZA.out)
    by_cases hneg : qa < 0
    · have hsg : sg qa = -1 := sg_neg hneg
      have hm : -qa = ab qa := by unfold ab; rw [if_pos hneg]
      have HM := Lib.hid hm; clear hm hz hs hneg
      have B6_c0 := B6.cell 0 rfl; have B6_c1 := B6.cell 1 rfl; have B6_c2 := B6.cell 2 rfl; have B6_c3 := B6.cell 3 rfl; have B6_f0 := B6.free 0; have B6_f1 := B6.free 1; have B6_f2 := B6.free 2; have B6_f3 := B6.free 3; have B6_lt := B6.lt
      go_wp2_with fail
      clear B6_c0 B6_c1 B6_c2 B6_c3 B6_f0 B6_f1 B6_f2 B6_f3 B6_lt
      refine (neg_any _ n1).mono ?_
      rintro ed w8 ⟨v8, rfl, hxk, n6⟩
      rw [negO_some, HM.out] at n6
      replace B6 := B6.ext hxk
      replace B1 := B1.ext hxk
      replace B2 := B2.ext hxk
      replace B3 := B3.ext hxk
      replace n1 := n1.ext hxk
      replace n2 := n2.ext hxk
      replace n3 := n3.ext hxk
      replace hx := hx.trans hxk
      replace hT := hT.ext hxk
      clear hxk
      obtain ⟨a6, m6, c6, e6, neg6, non6, rfl, n6⟩ := n6.kept
      have hT0 := HT0.out
      obtain ⟨W, hW, hxW, B6', hnum, hbox⟩ := store_num hx B6 hx6 a6 m6 c6 e6 neg6 non6
      have B1' := hbox _ _ _ hd1 B1
      have n1' := hnum _ _ n1
      have n6' := hnum _ _ n6
      have hT' : Tab W := hT0.ext hxW
      have B6_c0 := B6.cell 0 rfl; have B6_c1 := B6.cell 1 rfl; have B6_c2 := B6.cell 2 rfl; have B6_c3 := B6.cell 3 rfl; have B6_f0 := B6.free 0; have B6_f1 := B6.free 1; have B6_f2 := B6.free 2; have B6_f3 := B6.free 3; have B6_lt := B6.lt
      have HXW0 := hxW
      clear hnum hbox B1 n1 n6 hT hx hxW n2 n3 B2 B3 B6
      go_wp2_with fail
      clear hW
      clear B6_c0 B6_c1 B6_c2 B6_c3 B6_f0 B6_f1 B6_f2 B6_f3 B6_lt
      have HXW := Lib.hid HXW0
      refine (int_any 1 _ (by omega) (by omega) hT').mono ?_
      rintro ed w9 ⟨v9, rfl, hxk, n7⟩
      have B1b := B1'.ext hxk
      have B6b := B6'.ext hxk
      have n1b := n1'.ext hxk
      have n6b := n6'.ext hxk
      obtain ⟨a7, m7, c7, e7, neg7, non7, rfl, n7⟩ := n7.kept
      have B7 := Box.new w9 #[.slice a7 m7 c7, .int .i64 e7, .bool neg7, .bool non7] 29
      have hxa : Ext w9 (w9.alloc (.cells #[.slice a7 m7 c7, .int .i64 e7, .bool neg7, .bool non7] 29)) := (Ext.refl _).alloc _
      have B1c := B1b.ext hxa
      have B6c := B6b.ext hxa
      have n1c := n1b.ext hxa
      have n6c := n6b.ext hxa
      have n7c := n7.ext hxa
      have hxc := (HXW.out.trans hxk).trans hxa
      have hTc := HT0.out.ext hxc
      clear B1' B6' n1' n6' B1b B6b n1b n6b n7 hxk hxa hT'
      have B1c_c0 := B1c.cell 0 rfl; have B1c_c1 := B1c.cell 1 rfl; have B1c_c2 := B1c.cell 2 rfl; have B1c_c3 := B1c.cell 3 rfl; have B1c_f0 := B1c.free 0; have B1c_f1 := B1c.free 1; have B1c_f2 := B1c.free 2; have B1c_f3 := B1c.free 3; have B1c_lt := B1c.lt
      go_wp2_with fail
      clear B1c_c0 B1c_c1 B1c_c2 B1c_c3 B1c_f0 B1c_f1 B1c_f2 B1c_f3 B1c_lt
      refine (high_num _ n1c).mono ?_
      rintro ed w10 ⟨he, hxk⟩
      rw [show (some qa).getD 0 = qa from rfl, HH.out] at he
      subst he
      have B1 := B1c.ext hxk
      have B6 := B6c.ext hxk
      have B7' := B7.ext hxk
      have n1 := n1c.ext hxk
      have n6 := n6c.ext hxk
      have n7 := n7c.ext hxk
      have hx := hxc.trans hxk
      have hT := hTc.ext hxk
      clear B1c B6c B7 n1c n6c n7c hxc hTc hxk
      go_wp2
      refine wp_steady 3 119 (by kernel_rfl) (by as_aux_lemma => kernel_rfl) rfl ?_
      refine walk_q [(3, none)] (by kernel_rfl) rfl ?_
      apply Exists.intro
      refine ⟨fun b w' hx hs => ?_, ?_⟩
      · obtain ⟨h0, -⟩ := hs
        change _ = _ at h0
        rw [eval_tmp] at h0
        go_simp
        try go_ints
        rfl
      refine walk_q [(97, some 0)] (by kernel_rfl) rfl ?_
      apply Exists.intro
      refine ⟨fun b w' hx hs => ?_, ?_⟩
      · obtain ⟨h0, -⟩ := hs
        change _ = _ at h0
        rw [eval_tmp] at h0
        have hx_B1 := B1.ext hx
        have kB1_0 := hx_B1.cell 0 rfl
        have kB1_1 := hx_B1.cell 1 rfl
        have kB1_2 := hx_B1.cell 2 rfl
        have kB1_3 := hx_B1.cell 3 rfl
        have hx_B6 := B6.ext hx
        have kB6_0 := hx_B6.cell 0 rfl
        have kB6_1 := hx_B6.cell 1 rfl
        have kB6_2 := hx_B6.cell 2 rfl
        have kB6_3 := hx_B6.cell 3 rfl
        have hx_B7' := B7'.ext hx
        have kB7'_0 := hx_B7'.cell 0 rfl
        have kB7'_1 := hx_B7'.cell 1 rfl
        have kB7'_2 := hx_B7'.cell 2 rfl
        have kB7'_3 := hx_B7'.cell 3 rfl
        go_simp
        try go_ints
        rfl
      refine walk_c [(98, some 0)] (by kernel_rfl) rfl (fun _ v => v = .int .i64 (l)) (fun _ _ _ x h => by first | exact h | exact h.ext x) (fun b w' hx hs => ?_) ?_
      · as_aux_lemma =>
          obtain ⟨h0, -⟩ := hs
          change _ = _ at h0
          rw [eval_tmp] at h0
          go_simp
          refine upon_enter ((low_num _ (hT.ext hx) (n1.ext hx)).mono fun ed w2 ⟨he, hx2⟩ => ⟨_, he, hx2, ?_⟩)
          rw [show Option.getD (some (qa)) 0 = qa from rfl]
          have hval : loQ (qa) = l := HL.out
          rw [hval]
      refine walk_q [(8, none)] (by kernel_rfl) rfl ?_
      apply Exists.intro
      refine ⟨fun b w' hx hs => ?_, ?_⟩
      · obtain ⟨h0, -⟩ := hs
        change _ = _ at h0
        rw [eval_tmp] at h0
        go_simp
        try go_ints
        rfl
      refine walk_q [(99, some 1), (100, some 0)] (by kernel_rfl) rfl ?_
      apply Exists.intro
      refine ⟨fun b w' hx hs => ?_, ?_⟩
      · obtain ⟨h0, h1, -⟩ := hs
        change _ = _ at h0
        change _ = _ at h1
        rw [eval_tmp] at h0 h1
        go_simp
        try go_ints
        rfl
      refine walk_q [(101, some 0)] (by kernel_rfl) rfl ?_
      apply Exists.intro
      refine ⟨fun b w' hx hs => ?_, ?_⟩
      · obtain ⟨h0, -⟩ := hs
        change _ = _ at h0
        rw [eval_tmp] at h0
        go_simp
        try go_ints
        rfl
      refine walk_qg [(6, none), (102, some 0)] (by kernel_rfl) 5 102 true rfl rfl (fun b w' hx hs => by obtain ⟨-, h1, -⟩ := hs; exact h1) ?_
      apply Exists.intro
      refine ⟨fun b w' hx hs => ?_, ?_⟩
      · obtain ⟨h0, h1, -⟩ := hs
        change _ = _ at h0
        change _ = _ at h1
        rw [eval_tmp] at h0 h1
        have hx_B1 := B1.ext hx
        have kB1_0 := hx_B1.cell 0 rfl
        have kB1_1 := hx_B1.cell 1 rfl
        have kB1_2 := hx_B1.cell 2 rfl
        have kB1_3 := hx_B1.cell 3 rfl
        have hx_B6 := B6.ext hx
        have kB6_0 := hx_B6.cell 0 rfl
        have kB6_1 := hx_B6.cell 1 rfl
        have kB6_2 := hx_B6.cell 2 rfl
        have kB6_3 := hx_B6.cell 3 rfl
        have hx_B7' := B7'.ext hx
        have kB7'_0 := hx_B7'.cell 0 rfl
        have kB7'_1 := hx_B7'.cell 1 rfl
        have kB7'_2 := hx_B7'.cell 2 rfl
        have kB7'_3 := hx_B7'.cell 3 rfl
        go_simp
        try go_ints
        rfl
      refine walk_qg [(7, none), (102, some 1)] (by kernel_rfl) 5 102 true rfl rfl (fun b w' hx hs => by obtain ⟨-, h1, -⟩ := hs; exact h1) ?_
      apply Exists.intro
      refine ⟨fun b w' hx hs => ?_, ?_⟩
      · obtain ⟨h0, h1, -⟩ := hs
        change _ = _ at h0
        change _ = _ at h1
        rw [eval_tmp] at h0 h1
        have hx_B1 := B1.ext hx
        have kB1_0 := hx_B1.cell 0 rfl
        have kB1_1 := hx_B1.cell 1 rfl
        have kB1_2 := hx_B1.cell 2 rfl
        have kB1_3 := hx_B1.cell 3 rfl
        have hx_B6 := B6.ext hx
        have kB6_0 := hx_B6.cell 0 rfl
        have kB6_1 := hx_B6.cell 1 rfl
        have kB6_2 := hx_B6.cell 2 rfl
        have kB6_3 := hx_B6.cell 3 rfl
        have hx_B7' := B7'.ext hx
        have kB7'_0 := hx_B7'.cell 0 rfl
        have kB7'_1 := hx_B7'.cell 1 rfl
        have kB7'_2 := hx_B7'.cell 2 rfl
        have kB7'_3 := hx_B7'.cell 3 rfl
        go_simp
        try go_ints
        rfl
      refine walk_qg [(8, none), (102, some 2)] (by kernel_rfl) 5 102 true rfl rfl (fun b w' hx hs => by obtain ⟨-, h1, -⟩ := hs; exact h1) ?_
      apply Exists.intro
      refine ⟨fun b w' hx hs => ?_, ?_⟩
      · obtain ⟨h0, h1, -⟩ := hs
        change _ = _ at h0
        change _ = _ at h1
        rw [eval_tmp] at h0 h1
        go_simp
        try go_ints
        rfl
      refine walk_cg [(104, some 1), (105, some 0), (102, some 3)] (by kernel_rfl) 5 102 true rfl rfl (fun b w' hx hs => by obtain ⟨-, -, h2, -⟩ := hs; exact h2) (fun w' v => IsNum w' v (some ((((1 : Int) : Rat) * p2 h)))) (fun _ _ _ x h => by first | exact h | exact h.ext x) (fun b w' hx hs => ?_) ?_
      · as_aux_lemma =>
          obtain ⟨h0, h1, h2, -⟩ := hs
          change _ = _ at h0
          change _ = _ at h1
          change _ = _ at h2
          rw [eval_tmp] at h0 h1 h2
          go_simp
          refine upon_enter ((shift_any h _ (hT.ext hx) (n7.ext hx)).mono fun ed w2 ⟨v, he, hx2, hn⟩ => ⟨v, he, hx2, ?_⟩)
          rw [shiftO_sz (n := 64) (m := 2300) ((int_sz (by omega) (by omega))) (by omega) (by omega) (by omega)] at hn
          first | exact hn | simpa using hn
      refine walk_cg [(103, some 3), (106, some 0), (102, some 4)] (by kernel_rfl) 5 102 true rfl rfl (fun b w' hx hs => by obtain ⟨-, -, h2, -⟩ := hs; exact h2) (fun _ v => v = .int .i64 (k1)) (fun _ _ _ x h => by first | exact h | exact h.ext x) (fun b w' hx hs => ?_) ?_
      · as_aux_lemma =>
          obtain ⟨h0, h1, h2, -⟩ := hs
          change _ = _ at h0
          change _ = _ at h2
          rw [eval_tmp] at h0 h1 h2
          go_simp
          refine upon_enter ((cmp_num _ (hT.ext hx) (n6.ext hx) (show IsNum _ _ (some ((((1 : Int) : Rat) * p2 h))) from by rw [← eval_tmp] at *; exact h1)).mono fun ed w2 ⟨he, hx2⟩ => ⟨_, he, hx2, ?_⟩)
          rw [cmpO_sz (n := 2364) ((ZM.out).mono (by omega)) ((show Sz 2364 ((((1 : Int) : Rat) * p2 h)) from ((Sz.shift (m := 2300) ((int_sz (by omega) (by omega))) (by omega) (by omega)).mono (by omega)))) (by omega)]
          have hval : sg ((ab qa) - (((1 : Int) : Rat) * p2 h)) = k1 := K1.out
          rw [hval]
      refine walk_qg [(107, some 0), (102, some 5)] (by kernel_rfl) 5 102 true rfl rfl (fun b w' hx hs => by obtain ⟨-, h1, -⟩ := hs; exact h1) ?_
      apply Exists.intro
      refine ⟨fun b w' hx hs => ?_, ?_⟩
      · obtain ⟨h0, h1, -⟩ := hs
        change _ = _ at h0
        change _ = _ at h1
        rw [eval_tmp] at h0 h1
        go_simp
        try go_ints
        rfl
      refine walk_q [(102, some 6), (108, some 0)] (by kernel_rfl) rfl ?_
      apply Exists.intro
      refine ⟨fun b w' hx hs => ?_, ?_⟩
      · obtain ⟨h0, h1, -⟩ := hs
        change _ = _ at h0
        change _ = _ at h1
        rw [eval_tmp] at h0 h1
        go_simp
        try go_ints
        rfl
      refine walk_q [(109, some 0)] (by kernel_rfl) rfl ?_
      apply Exists.intro
      refine ⟨fun b w' hx hs => ?_, ?_⟩
      · obtain ⟨h0, -⟩ := hs
        change _ = _ at h0
        rw [eval_tmp] at h0
        go_simp
        try go_ints
        rfl
      refine walk_qg [(6, none), (110, some 0)] (by kernel_rfl) 13 110 true rfl rfl (fun b w' hx hs => by obtain ⟨-, h1, -⟩ := hs; exact h1) ?_
      apply Exists.intro
      refine ⟨fun b w' hx hs => ?_, ?_⟩
      · obtain ⟨h0, h1, -⟩ := hs
        change _ = _ at h0
        change _ = _ at h1
        rw [eval_tmp] at h0 h1
        have hx_B1 := B1.ext hx
        have kB1_0 := hx_B1.cell 0 rfl
        have kB1_1 := hx_B1.cell 1 rfl
        have kB1_2 := hx_B1.cell 2 rfl
        have kB1_3 := hx_B1.cell 3 rfl
        have hx_B6 := B6.ext hx
        have kB6_0 := hx_B6.cell 0 rfl
        have kB6_1 := hx_B6.cell 1 rfl
        have kB6_2 := hx_B6.cell 2 rfl
        have kB6_3 := hx_B6.cell 3 rfl
        have hx_B7' := B7'.ext hx
        have kB7'_0 := hx_B7'.cell 0 rfl
        have kB7'_1 := hx_B7'.cell 1 rfl
        have kB7'_2 := hx_B7'.cell 2 rfl
        have kB7'_3 := hx_B7'.cell 3 rfl
        go_simp
        try go_ints
        rfl
      refine walk_qg [(7, none), (110, some 1)] (by kernel_rfl) 13 110 true rfl rfl (fun b w' hx hs => by obtain ⟨-, h1, -⟩ := hs; exact h1) ?_
      apply Exists.intro
      refine ⟨fun b w' hx hs => ?_, ?_⟩
      · obtain ⟨h0, h1, -⟩ := hs
        change _ = _ at h0
        change _ = _ at h1
        rw [eval_tmp] at h0 h1
        have hx_B1 := B1.ext hx
        have kB1_0 := hx_B1.cell 0 rfl
        have kB1_1 := hx_B1.cell 1 rfl
        have kB1_2 := hx_B1.cell 2 rfl
        have kB1_3 := hx_B1.cell 3 rfl
        have hx_B6 := B6.ext hx
        have kB6_0 := hx_B6.cell 0 rfl
        have kB6_1 := hx_B6.cell 1 rfl
        have kB6_2 := hx_B6.cell 2 rfl
        have kB6_3 := hx_B6.cell 3 rfl
        have hx_B7' := B7'.ext hx
        have kB7'_0 := hx_B7'.cell 0 rfl
        have kB7'_1 := hx_B7'.cell 1 rfl
        have kB7'_2 := hx_B7'.cell 2 rfl
        have kB7'_3 := hx_B7'.cell 3 rfl
        go_simp
        try go_ints
        rfl
      refine walk_qg [(8, none), (110, some 2)] (by kernel_rfl) 13 110 true rfl rfl (fun b w' hx hs => by obtain ⟨-, h1, -⟩ := hs; exact h1) ?_
      apply Exists.intro
      refine ⟨fun b w' hx hs => ?_, ?_⟩
      · obtain ⟨h0, h1, -⟩ := hs
        change _ = _ at h0
        change _ = _ at h1
        rw [eval_tmp] at h0 h1
        go_simp
        try go_ints
        rfl
      refine walk_qg [(113, some 0), (110, some 3)] (by kernel_rfl) 13 110 true rfl rfl (fun b w' hx hs => by obtain ⟨-, h1, -⟩ := hs; exact h1) ?_
      apply Exists.intro
      refine ⟨fun b w' hx hs => ?_, ?_⟩
      · obtain ⟨h0, h1, -⟩ := hs
        change _ = _ at h0
        change _ = _ at h1
        rw [eval_tmp] at h0 h1
        go_simp
        try go_ints
        rfl
      refine walk_cg [(112, some 2), (114, some 0), (110, some 4)] (by kernel_rfl) 13 110 true rfl rfl (fun b w' hx hs => by obtain ⟨-, -, h2, -⟩ := hs; exact h2) (fun w' v => IsNum w' v (some ((((1 : Int) : Rat) * p2 (h + 1))))) (fun _ _ _ x h => by first | exact h | exact h.ext x) (fun b w' hx hs => ?_) ?_
      · as_aux_lemma =>
          obtain ⟨h0, h1, h2, -⟩ := hs
          change _ = _ at h0
          change _ = _ at h1
          change _ = _ at h2
          rw [eval_tmp] at h0 h1 h2
          go_simp
          refine upon_enter ((shift_any (h + 1) _ (hT.ext hx) (n7.ext hx)).mono fun ed w2 ⟨v, he, hx2, hn⟩ => ⟨v, he, hx2, ?_⟩)
          rw [shiftO_sz (n := 64) (m := 2300) ((int_sz (by omega) (by omega))) (by omega) (by omega) (by omega)] at hn
          first | exact hn | simpa using hn
      refine walk_cg [(111, some 4), (115, some 0), (110, some 5)] (by kernel_rfl) 13 110 true rfl rfl (fun b w' hx hs => by obtain ⟨-, -, h2, -⟩ := hs; exact h2) (fun _ v => v = .int .i64 (k2)) (fun _ _ _ x h => by first | exact h | exact h.ext x) (fun b w' hx hs => ?_) ?_
      · as_aux_lemma =>
          obtain ⟨h0, h1, h2, -⟩ := hs
          change _ = _ at h0
          change _ = _ at h2
          rw [eval_tmp] at h0 h1 h2
          go_simp
          refine upon_enter ((cmp_num _ (hT.ext hx) (n6.ext hx) (show IsNum _ _ (some ((((1 : Int) : Rat) * p2 (h + 1)))) from by rw [← eval_tmp] at *; exact h1)).mono fun ed w2 ⟨he, hx2⟩ => ⟨_, he, hx2, ?_⟩)
          rw [cmpO_sz (n := 2364) ((ZM.out).mono (by omega)) ((show Sz 2364 ((((1 : Int) : Rat) * p2 (h + 1))) from ((Sz.shift (m := 2300) ((int_sz (by omega) (by omega))) (by omega) (by omega)).mono (by omega)))) (by omega)]
          have hval : sg ((ab qa) - (((1 : Int) : Rat) * p2 (h + 1))) = k2 := K2.out
          rw [hval]
      refine walk_qg [(116, some 0), (110, some 6)] (by kernel_rfl) 13 110 true rfl rfl (fun b w' hx hs => by obtain ⟨-, h1, -⟩ := hs; exact h1) ?_
      apply Exists.intro
      refine ⟨fun b w' hx hs => ?_, ?_⟩
      · obtain ⟨h0, h1, -⟩ := hs
        change _ = _ at h0
        change _ = _ at h1
        rw [eval_tmp] at h0 h1
        go_simp
        try go_ints
        rfl
      refine walk_q [(110, some 7), (117, some 0)] (by kernel_rfl) rfl ?_
      apply Exists.intro
      refine ⟨fun b w' hx hs => ?_, ?_⟩
      · obtain ⟨h0, h1, -⟩ := hs
        change _ = _ at h0
        change _ = _ at h1
        rw [eval_tmp] at h0 h1
        go_simp
        try go_ints
        rfl
      refine walk_q [(118, some 0)] (by kernel_rfl) rfl ?_
      apply Exists.intro
      refine ⟨fun b w' hx hs => ?_, ?_⟩
      · obtain ⟨h0, -⟩ := hs
        change _ = _ at h0
        rw [eval_tmp] at h0
        go_simp
        try go_ints
        rfl
      refine walk_end ?_
      intro w11 hx11
      rintro _ rfl
      rintro _ rfl
      rintro _ rfl
      rintro _ rfl
      intro v115 hv115
      rintro _ rfl
      rintro _ rfl
      rintro _ rfl
      rintro _ rfl
      rintro _ rfl
      rintro _ rfl
      rintro _ rfl
      rintro _ rfl
      intro v106 hv106
      rintro _ rfl
      rintro _ rfl
      rintro _ rfl
      rintro _ rfl
      rintro _ rfl
      rintro _ rfl
      rintro _ rfl
      rintro _ rfl
      rintro _ rfl
      unfold fin
      simp only [Act.put, List.setIfInBounds_toArray, List.set_cons_succ, List.set_cons_zero]
      go_wp2
      go_ret
      exact ⟨rfl, hx.trans hx11⟩
    · have hsg : ¬ sg qa < 0 := by
        rcases sg_cases qa with ⟨h, _⟩ | ⟨_, e⟩ | ⟨_, e⟩
        · exact absurd h hneg
        · omega
        · omega
      have hm : qa = ab qa := by unfold ab; rw [if_neg hneg]
      have n6' : IsNum w7 (.agg #[.slice a1 m1 c1, .int .i64 e1, .bool neg1, .bool non1]) (some (ab qa)) := by rw [← hm]; exact n1
      have HXW := Lib.hid hx
      have B1' := B1
      have B6' := B6
      have n1' := n1
      have hT' := hT
      clear hm hz hs hneg B1 B6 n1 n2 n3 B2 B3 hx hT
      go_wp2_with fail
      clear hsg
      refine (int_any 1 _ (by omega) (by omega) hT').mono ?_
      rintro ed w9 ⟨v9, rfl, hxk, n7⟩
      have B1b := B1'.ext hxk
      have B6b := B6'.ext hxk
      have n1b := n1'.ext hxk
      have n6b := n6'.ext hxk
      obtain ⟨a7, m7, c7, e7, neg7, non7, rfl, n7⟩ := n7.kept
      have B7 := Box.new w9 #[.slice a7 m7 c7, .int .i64 e7, .bool neg7, .bool non7] 29
      have hxa : Ext w9 (w9.alloc (.cells #[.slice a7 m7 c7, .int .i64 e7, .bool neg7, .bool non7] 29)) := (Ext.refl _).alloc _
      have B1c := B1b.ext hxa
      have B6c := B6b.ext hxa
      have n1c := n1b.ext hxa
      have n6c := n6b.ext hxa
      have n7c := n7.ext hxa
      have hxc := (HXW.out.trans hxk).trans hxa
      have hTc := HT0.out.ext hxc
      clear B1' B6' n1' n6' B1b B6b n1b n6b n7 hxk hxa hT'
      have B1c_c0 := B1c.cell 0 rfl; have B1c_c1 := B1c.cell 1 rfl; have B1c_c2 := B1c.cell 2 rfl; have B1c_c3 := B1c.cell 3 rfl; have B1c_f0 := B1c.free 0; have B1c_f1 := B1c.free 1; have B1c_f2 := B1c.free 2; have B1c_f3 := B1c.free 3; have B1c_lt := B1c.lt
      go_wp2_with fail
      clear B1c_c0 B1c_c1 B1c_c2 B1c_c3 B1c_f0 B1c_f1 B1c_f2 B1c_f3 B1c_lt
      refine (high_num _ n1c).mono ?_
      rintro ed w10 ⟨he, hxk⟩
      rw [show (some qa).getD 0 = qa from rfl, HH.out] at he
      subst he
      have B1 := B1c.ext hxk
      have B6 := B6c.ext hxk
      have B7' := B7.ext hxk
      have n1 := n1c.ext hxk
      have n6 := n6c.ext hxk
      have n7 := n7c.ext hxk
      have hx := hxc.trans hxk
      have hT := hTc.ext hxk
      clear B1c B6c B7 n1c n6c n7c hxc hTc hxk
      go_wp2
      refine wp_steady 3 119 (by kernel_rfl) (by as_aux_lemma => kernel_rfl) rfl ?_
      refine walk_q [(3, none)] (by kernel_rfl) rfl ?_
      apply Exists.intro
      refine ⟨fun b w' hx hs => ?_, ?_⟩
      · obtain ⟨h0, -⟩ := hs
        change _ = _ at h0
        rw [eval_tmp] at h0
        go_simp
        try go_ints
        rfl
      refine walk_q [(97, some 0)] (by kernel_rfl) rfl ?_
      apply Exists.intro
      refine ⟨fun b w' hx hs => ?_, ?_⟩
      · obtain ⟨h0, -⟩ := hs
        change _ = _ at h0
        rw [eval_tmp] at h0
        have hx_B1 := B1.ext hx
        have kB1_0 := hx_B1.cell 0 rfl
        have kB1_1 := hx_B1.cell 1 rfl
        have kB1_2 := hx_B1.cell 2 rfl
        have kB1_3 := hx_B1.cell 3 rfl
        have hx_B6 := B6.ext hx
        have kB6_0 := hx_B6.cell 0 rfl
        have kB6_1 := hx_B6.cell 1 rfl
        have kB6_2 := hx_B6.cell 2 rfl
        have kB6_3 := hx_B6.cell 3 rfl
        have hx_B7' := B7'.ext hx
        have kB7'_0 := hx_B7'.cell 0 rfl
        have kB7'_1 := hx_B7'.cell 1 rfl
        have kB7'_2 := hx_B7'.cell 2 rfl
        have kB7'_3 := hx_B7'.cell 3 rfl
        go_simp
        try go_ints
        rfl
      refine walk_c [(98, some 0)] (by kernel_rfl) rfl (fun _ v => v = .int .i64 (l)) (fun _ _ _ x h => by first | exact h | exact h.ext x) (fun b w' hx hs => ?_) ?_
      · as_aux_lemma =>
          obtain ⟨h0, -⟩ := hs
          change _ = _ at h0
          rw [eval_tmp] at h0
          go_simp
          refine upon_enter ((low_num _ (hT.ext hx) (n1.ext hx)).mono fun ed w2 ⟨he, hx2⟩ => ⟨_, he, hx2, ?_⟩)
          rw [show Option.getD (some (qa)) 0 = qa from rfl]
          have hval : loQ (qa) = l := HL.out
          rw [hval]
      refine walk_q [(8, none)] (by kernel_rfl) rfl ?_
      apply Exists.intro
      refine ⟨fun b w' hx hs => ?_, ?_⟩
      · obtain ⟨h0, -⟩ := hs
        change _ = _ at h0
        rw [eval_tmp] at h0
        go_simp
        try go_ints
        rfl
      refine walk_q [(99, some 1), (100, some 0)] (by kernel_rfl) rfl ?_
      apply Exists.intro
      refine ⟨fun b w' hx hs => ?_, ?_⟩
      · obtain ⟨h0, h1, -⟩ := hs
        change _ = _ at h0
        change _ = _ at h1
        rw [eval_tmp] at h0 h1
        go_simp
        try go_ints
        rfl
      refine walk_q [(101, some 0)] (by kernel_rfl) rfl ?_
      apply Exists.intro
      refine ⟨fun b w' hx hs => ?_, ?_⟩
      · obtain ⟨h0, -⟩ := hs
        change _ = _ at h0
        rw [eval_tmp] at h0
        go_simp
        try go_ints
        rfl
      refine walk_qg [(6, none), (102, some 0)] (by kernel_rfl) 5 102 true rfl rfl (fun b w' hx hs => by obtain ⟨-, h1, -⟩ := hs; exact h1) ?_
      apply Exists.intro
      refine ⟨fun b w' hx hs => ?_, ?_⟩
      · obtain ⟨h0, h1, -⟩ := hs
        change _ = _ at h0
        change _ = _ at h1
        rw [eval_tmp] at h0 h1
        have hx_B1 := B1.ext hx
        have kB1_0 := hx_B1.cell 0 rfl
        have kB1_1 := hx_B1.cell 1 rfl
        have kB1_2 := hx_B1.cell 2 rfl
        have kB1_3 := hx_B1.cell 3 rfl
        have hx_B6 := B6.ext hx
        have kB6_0 := hx_B6.cell 0 rfl
        have kB6_1 := hx_B6.cell 1 rfl
        have kB6_2 := hx_B6.cell 2 rfl
        have kB6_3 := hx_B6.cell 3 rfl
        have hx_B7' := B7'.ext hx
        have kB7'_0 := hx_B7'.cell 0 rfl
        have kB7'_1 := hx_B7'.cell 1 rfl
        have kB7'_2 := hx_B7'.cell 2 rfl
        have kB7'_3 := hx_B7'.cell 3 rfl
        go_simp
        try go_ints
        rfl
      refine walk_qg [(7, none), (102, some 1)] (by kernel_rfl) 5 102 true rfl rfl (fun b w' hx hs => by obtain ⟨-, h1, -⟩ := hs; exact h1) ?_
      apply Exists.intro
      refine ⟨fun b w' hx hs => ?_, ?_⟩
      · obtain ⟨h0, h1, -⟩ := hs
        change _ = _ at h0
        change _ = _ at h1
        rw [eval_tmp] at h0 h1
        have hx_B1 := B1.ext hx
        have kB1_0 := hx_B1.cell 0 rfl
        have kB1_1 := hx_B1.cell 1 rfl
        have kB1_2 := hx_B1.cell 2 rfl
        have kB1_3 := hx_B1.cell 3 rfl
        have hx_B6 := B6.ext hx
        have kB6_0 := hx_B6.cell 0 rfl
        have kB6_1 := hx_B6.cell 1 rfl
        have kB6_2 := hx_B6.cell 2 rfl
        have kB6_3 := hx_B6.cell 3 rfl
        have hx_B7' := B7'.ext hx
        have kB7'_0 := hx_B7'.cell 0 rfl
        have kB7'_1 := hx_B7'.cell 1 rfl
        have kB7'_2 := hx_B7'.cell 2 rfl
        have kB7'_3 := hx_B7'.cell 3 rfl
        go_simp
        try go_ints
        rfl
      refine walk_qg [(8, none), (102, some 2)] (by kernel_rfl) 5 102 true rfl rfl (fun b w' hx hs => by obtain ⟨-, h1, -⟩ := hs; exact h1) ?_
      apply Exists.intro
      refine ⟨fun b w' hx hs => ?_, ?_⟩
      · obtain ⟨h0, h1, -⟩ := hs
        change _ = _ at h0
        change _ = _ at h1
        rw [eval_tmp] at h0 h1
        go_simp
        try go_ints
        rfl
      refine walk_cg [(104, some 1), (105, some 0), (102, some 3)] (by kernel_rfl) 5 102 true rfl rfl (fun b w' hx hs => by obtain ⟨-, -, h2, -⟩ := hs; exact h2) (fun w' v => IsNum w' v (some ((((1 : Int) : Rat) * p2 h)))) (fun _ _ _ x h => by first | exact h | exact h.ext x) (fun b w' hx hs => ?_) ?_
      · as_aux_lemma =>
          obtain ⟨h0, h1, h2, -⟩ := hs
          change _ = _ at h0
          change _ = _ at h1
          change _ = _ at h2
          rw [eval_tmp] at h0 h1 h2
          go_simp
          refine upon_enter ((shift_any h _ (hT.ext hx) (n7.ext hx)).mono fun ed w2 ⟨v, he, hx2, hn⟩ => ⟨v, he, hx2, ?_⟩)
          rw [shiftO_sz (n := 64) (m := 2300) ((int_sz (by omega) (by omega))) (by omega) (by omega) (by omega)] at hn
          first | exact hn | simpa using hn
      refine walk_cg [(103, some 3), (106, some 0), (102, some 4)] (by kernel_rfl) 5 102 true rfl rfl (fun b w' hx hs => by obtain ⟨-, -, h2, -⟩ := hs; exact h2) (fun _ v => v = .int .i64 (k1)) (fun _ _ _ x h => by first | exact h | exact h.ext x) (fun b w' hx hs => ?_) ?_
      · as_aux_lemma =>
          obtain ⟨h0, h1, h2, -⟩ := hs
          change _ = _ at h0
          change _ = _ at h2
          rw [eval_tmp] at h0 h1 h2
          go_simp
          refine upon_enter ((cmp_num _ (hT.ext hx) (n6.ext hx) (show IsNum _ _ (some ((((1 : Int) : Rat) * p2 h))) from by rw [← eval_tmp] at *; exact h1)).mono fun ed w2 ⟨he, hx2⟩ => ⟨_, he, hx2, ?_⟩)
          rw [cmpO_sz (n := 2364) ((ZM.out).mono (by omega)) ((show Sz 2364 ((((1 : Int) : Rat) * p2 h)) from ((Sz.shift (m := 2300) ((int_sz (by omega) (by omega))) (by omega) (by omega)).mono (by omega)))) (by omega)]
          have hval : sg ((ab qa) - (((1 : Int) : Rat) * p2 h)) = k1 := K1.out
          rw [hval]
      refine walk_qg [(107, some 0), (102, some 5)] (by kernel_rfl) 5 102 true rfl rfl (fun b w' hx hs => by obtain ⟨-, h1, -⟩ := hs; exact h1) ?_
      apply Exists.intro
      refine ⟨fun b w' hx hs => ?_, ?_⟩
      · obtain ⟨h0, h1, -⟩ := hs
        change _ = _ at h0
        change _ = _ at h1
        rw [eval_tmp] at h0 h1
        go_simp
        try go_ints
        rfl
      refine walk_q [(102, some 6), (108, some 0)] (by kernel_rfl) rfl ?_
      apply Exists.intro
      refine ⟨fun b w' hx hs => ?_, ?_⟩
      · obtain ⟨h0, h1, -⟩ := hs
        change _ = _ at h0
        change _ = _ at h1
        rw [eval_tmp] at h0 h1
        go_simp
        try go_ints
        rfl
      refine walk_q [(109, some 0)] (by kernel_rfl) rfl ?_
      apply Exists.intro
      refine ⟨fun b w' hx hs => ?_, ?_⟩
      · obtain ⟨h0, -⟩ := hs
        change _ = _ at h0
        rw [eval_tmp] at h0
        go_simp
        try go_ints
        rfl
      refine walk_qg [(6, none), (110, some 0)] (by kernel_rfl) 13 110 true rfl rfl (fun b w' hx hs => by obtain ⟨-, h1, -⟩ := hs; exact h1) ?_
      apply Exists.intro
      refine ⟨fun b w' hx hs => ?_, ?_⟩
      · obtain ⟨h0, h1, -⟩ := hs
        change _ = _ at h0
        change _ = _ at h1
        rw [eval_tmp] at h0 h1
        have hx_B1 := B1.ext hx
        have kB1_0 := hx_B1.cell 0 rfl
        have kB1_1 := hx_B1.cell 1 rfl
        have kB1_2 := hx_B1.cell 2 rfl
        have kB1_3 := hx_B1.cell 3 rfl
        have hx_B6 := B6.ext hx
        have kB6_0 := hx_B6.cell 0 rfl
        have kB6_1 := hx_B6.cell 1 rfl
        have kB6_2 := hx_B6.cell 2 rfl
        have kB6_3 := hx_B6.cell 3 rfl
        have hx_B7' := B7'.ext hx
        have kB7'_0 := hx_B7'.cell 0 rfl
        have kB7'_1 := hx_B7'.cell 1 rfl
        have kB7'_2 := hx_B7'.cell 2 rfl
        have kB7'_3 := hx_B7'.cell 3 rfl
        go_simp
        try go_ints
        rfl
      refine walk_qg [(7, none), (110, some 1)] (by kernel_rfl) 13 110 true rfl rfl (fun b w' hx hs => by obtain ⟨-, h1, -⟩ := hs; exact h1) ?_
      apply Exists.intro
      refine ⟨fun b w' hx hs => ?_, ?_⟩
      · obtain ⟨h0, h1, -⟩ := hs
        change _ = _ at h0
        change _ = _ at h1
        rw [eval_tmp] at h0 h1
        have hx_B1 := B1.ext hx
        have kB1_0 := hx_B1.cell 0 rfl
        have kB1_1 := hx_B1.cell 1 rfl
        have kB1_2 := hx_B1.cell 2 rfl
        have kB1_3 := hx_B1.cell 3 rfl
        have hx_B6 := B6.ext hx
        have kB6_0 := hx_B6.cell 0 rfl
        have kB6_1 := hx_B6.cell 1 rfl
        have kB6_2 := hx_B6.cell 2 rfl
        have kB6_3 := hx_B6.cell 3 rfl
        have hx_B7' := B7'.ext hx
        have kB7'_0 := hx_B7'.cell 0 rfl
        have kB7'_1 := hx_B7'.cell 1 rfl
        have kB7'_2 := hx_B7'.cell 2 rfl
        have kB7'_3 := hx_B7'.cell 3 rfl
        go_simp
        try go_ints
        rfl
      refine walk_qg [(8, none), (110, some 2)] (by kernel_rfl) 13 110 true rfl rfl (fun b w' hx hs => by obtain ⟨-, h1, -⟩ := hs; exact h1) ?_
      apply Exists.intro
      refine ⟨fun b w' hx hs => ?_, ?_⟩
      · obtain ⟨h0, h1, -⟩ := hs
        change _ = _ at h0
        change _ = _ at h1
        rw [eval_tmp] at h0 h1
        go_simp
        try go_ints
        rfl
      refine walk_qg [(113, some 0), (110, some 3)] (by kernel_rfl) 13 110 true rfl rfl (fun b w' hx hs => by obtain ⟨-, h1, -⟩ := hs; exact h1) ?_
      apply Exists.intro
      refine ⟨fun b w' hx hs => ?_, ?_⟩
      · obtain ⟨h0, h1, -⟩ := hs
        change _ = _ at h0
        change _ = _ at h1
        rw [eval_tmp] at h0 h1
        go_simp
        try go_ints
        rfl
      refine walk_cg [(112, some 2), (114, some 0), (110, some 4)] (by kernel_rfl) 13 110 true rfl rfl (fun b w' hx hs => by obtain ⟨-, -, h2, -⟩ := hs; exact h2) (fun w' v => IsNum w' v (some ((((1 : Int) : Rat) * p2 (h + 1))))) (fun _ _ _ x h => by first | exact h | exact h.ext x) (fun b w' hx hs => ?_) ?_
      · as_aux_lemma =>
          obtain ⟨h0, h1, h2, -⟩ := hs
          change _ = _ at h0
          change _ = _ at h1
          change _ = _ at h2
          rw [eval_tmp] at h0 h1 h2
          go_simp
          refine upon_enter ((shift_any (h + 1) _ (hT.ext hx) (n7.ext hx)).mono fun ed w2 ⟨v, he, hx2, hn⟩ => ⟨v, he, hx2, ?_⟩)
          rw [shiftO_sz (n := 64) (m := 2300) ((int_sz (by omega) (by omega))) (by omega) (by omega) (by omega)] at hn
          first | exact hn | simpa using hn
      refine walk_cg [(111, some 4), (115, some 0), (110, some 5)] (by kernel_rfl) 13 110 true rfl rfl (fun b w' hx hs => by obtain ⟨-, -, h2, -⟩ := hs; exact h2) (fun _ v => v = .int .i64 (k2)) (fun _ _ _ x h => by first | exact h | exact h.ext x) (fun b w' hx hs => ?_) ?_
      · as_aux_lemma =>
          obtain ⟨h0, h1, h2, -⟩ := hs
          change _ = _ at h0
          change _ = _ at h2
          rw [eval_tmp] at h0 h1 h2
          go_simp
          refine upon_enter ((cmp_num _ (hT.ext hx) (n6.ext hx) (show IsNum _ _ (some ((((1 : Int) : Rat) * p2 (h + 1)))) from by rw [← eval_tmp] at *; exact h1)).mono fun ed w2 ⟨he, hx2⟩ => ⟨_, he, hx2, ?_⟩)
          rw [cmpO_sz (n := 2364) ((ZM.out).mono (by omega)) ((show Sz 2364 ((((1 : Int) : Rat) * p2 (h + 1))) from ((Sz.shift (m := 2300) ((int_sz (by omega) (by omega))) (by omega) (by omega)).mono (by omega)))) (by omega)]
          have hval : sg ((ab qa) - (((1 : Int) : Rat) * p2 (h + 1))) = k2 := K2.out
          rw [hval]
      refine walk_qg [(116, some 0), (110, some 6)] (by kernel_rfl) 13 110 true rfl rfl (fun b w' hx hs => by obtain ⟨-, h1, -⟩ := hs; exact h1) ?_
      apply Exists.intro
      refine ⟨fun b w' hx hs => ?_, ?_⟩
      · obtain ⟨h0, h1, -⟩ := hs
        change _ = _ at h0
        change _ = _ at h1
        rw [eval_tmp] at h0 h1
        go_simp
        try go_ints
        rfl
      refine walk_q [(110, some 7), (117, some 0)] (by kernel_rfl) rfl ?_
      apply Exists.intro
      refine ⟨fun b w' hx hs => ?_, ?_⟩
      · obtain ⟨h0, h1, -⟩ := hs
        change _ = _ at h0
        change _ = _ at h1
        rw [eval_tmp] at h0 h1
        go_simp
        try go_ints
        rfl
      refine walk_q [(118, some 0)] (by kernel_rfl) rfl ?_
      apply Exists.intro
      refine ⟨fun b w' hx hs => ?_, ?_⟩
      · obtain ⟨h0, -⟩ := hs
        change _ = _ at h0
        rw [eval_tmp] at h0
        go_simp
        try go_ints
        rfl
      refine walk_end ?_
      intro w11 hx11
      rintro _ rfl
      rintro _ rfl
      rintro _ rfl
      rintro _ rfl
      intro v115 hv115
      rintro _ rfl
      rintro _ rfl
      rintro _ rfl
      rintro _ rfl
      rintro _ rfl
      rintro _ rfl
      rintro _ rfl
      rintro _ rfl
      intro v106 hv106
      rintro _ rfl
      rintro _ rfl
      rintro _ rfl
      rintro _ rfl
      rintro _ rfl
      rintro _ rfl
      rintro _ rfl
      rintro _ rfl
      rintro _ rfl
      unfold fin
      simp only [Act.put, List.setIfInBounds_toArray, List.set_cons_succ, List.set_cons_zero]
      go_wp2
      go_ret
      exact ⟨rfl, hx.trans hx11⟩
end Go.Proofs.YthnmjkjllhlcjaaDoor
