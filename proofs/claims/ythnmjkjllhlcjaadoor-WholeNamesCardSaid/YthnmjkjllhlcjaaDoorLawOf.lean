/- The walk of law 01's 'of': a number of three floats; no condition. -/
import Derived.Test.YthnmjkjllhlcjaaDoorLawB
namespace Go.Proofs.YthnmjkjllhlcjaaDoor
open Go Go.RowKit Go.Steady Go.Tri
set_option maxRecDepth 100000

set_option maxHeartbeats 3200000 in
theorem of_law (x y z : Nat) (w : World) (hx1 : x < 18446744073709551616) (hy1 : y < 18446744073709551616) (hz1 : z < 18446744073709551616) (hT : Tab w) :
    Calls Tryd.prog 24 #[.float .f64 x, .float .f64 y, .float .f64 z] w (Gives w fun w' v => IsNum w' v (some (ofV x y z))) := by
  have B0 := Box.new w #[.slice none 0 0, .int .i64 0, .bool false, .bool false] 29
  have hx : Ext w (w.alloc (.cells #[.slice none 0 0, .int .i64 0, .bool false, .bool false] 29)) := (Ext.refl _).alloc _
  have c1 := of_any x (w.alloc (.cells #[.slice none 0 0, .int .i64 0, .bool false, .bool false] 29)) hx1 (hT.ext hx)
  go_enter Tryd.func24, Tryd.ntmps24
  go_wp2_with fail
  refine c1.mono ?_
  clear c1
  rintro ed w1 ⟨v1, rfl, hxk, n1⟩
  replace B0 := B0.ext hxk
  replace hx := hx.trans hxk
  clear hxk
  obtain ⟨a, n, c, e, neg, non, rfl, n1⟩ := n1.kept
  have B1 := Box.new w1 #[.slice a n c, .int .i64 e, .bool neg, .bool non] 29
  replace B0 := B0.alloc (.cells #[.slice a n c, .int .i64 e, .bool neg, .bool non] 29)
  have hxa : Ext w1 (w1.alloc (.cells #[.slice a n c, .int .i64 e, .bool neg, .bool non] 29)) := (Ext.refl _).alloc _
  replace n1 := n1.ext hxa
  replace hx := hx.trans hxa
  clear hxa
  go_wp2_with fail
  refine (of_any y _ hy1 (hT.ext hx)).mono ?_
  rintro ed w2 ⟨v2, rfl, hxk, n2⟩
  replace B0 := B0.ext hxk
  replace B1 := B1.ext hxk
  replace n1 := n1.ext hxk
  replace hx := hx.trans hxk
  clear hxk
  obtain ⟨a2, m2, c2, e2, neg2, non2, rfl, n2⟩ := n2.kept
  have B2 := Box.new w2 #[.slice a2 m2 c2, .int .i64 e2, .bool neg2, .bool non2] 29
  replace B0 := B0.alloc (.cells #[.slice a2 m2 c2, .int .i64 e2, .bool neg2, .bool non2] 29)
  replace B1 := B1.alloc (.cells #[.slice a2 m2 c2, .int .i64 e2, .bool neg2, .bool non2] 29)
  have hxa : Ext w2 (w2.alloc (.cells #[.slice a2 m2 c2, .int .i64 e2, .bool neg2, .bool non2] 29)) := (Ext.refl _).alloc _
  replace n1 := n1.ext hxa
  replace n2 := n2.ext hxa
  replace hx := hx.trans hxa
  clear hxa
  go_wp2_with fail
  refine (of_any z _ hz1 (hT.ext hx)).mono ?_
  rintro ed w3 ⟨v3, rfl, hxk, n3⟩
  replace B0 := B0.ext hxk
  replace B1 := B1.ext hxk
  replace B2 := B2.ext hxk
  replace n1 := n1.ext hxk
  replace n2 := n2.ext hxk
  replace hx := hx.trans hxk
  clear hxk
  obtain ⟨a3, m3, c3, e3, neg3, non3, rfl, n3⟩ := n3.kept
  have B3 := Box.new w3 #[.slice a3 m3 c3, .int .i64 e3, .bool neg3, .bool non3] 29
  replace B0 := B0.alloc (.cells #[.slice a3 m3 c3, .int .i64 e3, .bool neg3, .bool non3] 29)
  replace B1 := B1.alloc (.cells #[.slice a3 m3 c3, .int .i64 e3, .bool neg3, .bool non3] 29)
  replace B2 := B2.alloc (.cells #[.slice a3 m3 c3, .int .i64 e3, .bool neg3, .bool non3] 29)
  have hxa : Ext w3 (w3.alloc (.cells #[.slice a3 m3 c3, .int .i64 e3, .bool neg3, .bool non3] 29)) := (Ext.refl _).alloc _
  replace n1 := n1.ext hxa
  replace n2 := n2.ext hxa
  replace n3 := n3.ext hxa
  replace hx := hx.trans hxa
  replace hT := hT.ext hx
  clear hxa
  by_cases f1 : Fin64 x
  · rw [ofF_fin f1] at n1
    by_cases f2 : Fin64 y
    · rw [ofF_fin f2] at n2
      by_cases f3 : Fin64 z
      · rw [ofF_fin f3] at n3
        have hV : fl x + fl y * fl z = ofV x y z := by unfold ofV; rw [if_pos ⟨f1, f2, f3⟩]
        have s1 := fl_sz f1
        have s2 := fl_sz f2
        have s3 := fl_sz f3
        have HV := Lib.hid hV; have S1 := Lib.hid s1; have S2 := Lib.hid s2; have S3 := Lib.hid s3; clear hV s1 s2 s3 f1 f2 f3
        have B1_c0 := B1.cell 0 rfl; have B1_c1 := B1.cell 1 rfl; have B1_c2 := B1.cell 2 rfl; have B1_c3 := B1.cell 3 rfl; have B1_f0 := B1.free 0; have B1_f1 := B1.free 1; have B1_f2 := B1.free 2; have B1_f3 := B1.free 3; have B1_lt := B1.lt
        go_wp2_with fail
        refine (ok_any _ n1).mono ?_
        rintro ed w4 ⟨rfl, hxk⟩
        replace B0 := B0.ext hxk
        replace B1 := B1.ext hxk
        replace B2 := B2.ext hxk
        replace B3 := B3.ext hxk
        replace hT := hT.ext hxk
        replace n1 := n1.ext hxk
        replace n2 := n2.ext hxk
        replace n3 := n3.ext hxk
        replace hx := hx.trans hxk
        clear hxk
        clear B1_c0 B1_c1 B1_c2 B1_c3 B1_f0 B1_f1 B1_f2 B1_f3 B1_lt
        have B2_c0 := B2.cell 0 rfl; have B2_c1 := B2.cell 1 rfl; have B2_c2 := B2.cell 2 rfl; have B2_c3 := B2.cell 3 rfl; have B2_f0 := B2.free 0; have B2_f1 := B2.free 1; have B2_f2 := B2.free 2; have B2_f3 := B2.free 3; have B2_lt := B2.lt
        go_wp2_with fail
        refine (ok_any _ n2).mono ?_
        rintro ed w5 ⟨rfl, hxk⟩
        replace B0 := B0.ext hxk
        replace B1 := B1.ext hxk
        replace B2 := B2.ext hxk
        replace B3 := B3.ext hxk
        replace hT := hT.ext hxk
        replace n1 := n1.ext hxk
        replace n2 := n2.ext hxk
        replace n3 := n3.ext hxk
        replace hx := hx.trans hxk
        clear hxk
        clear B2_c0 B2_c1 B2_c2 B2_c3 B2_f0 B2_f1 B2_f2 B2_f3 B2_lt
        have B3_c0 := B3.cell 0 rfl; have B3_c1 := B3.cell 1 rfl; have B3_c2 := B3.cell 2 rfl; have B3_c3 := B3.cell 3 rfl; have B3_f0 := B3.free 0; have B3_f1 := B3.free 1; have B3_f2 := B3.free 2; have B3_f3 := B3.free 3; have B3_lt := B3.lt
        go_wp2_with fail
        refine (ok_any _ n3).mono ?_
        rintro ed w6 ⟨rfl, hxk⟩
        replace B0 := B0.ext hxk
        replace B1 := B1.ext hxk
        replace B2 := B2.ext hxk
        replace B3 := B3.ext hxk
        replace hT := hT.ext hxk
        replace n1 := n1.ext hxk
        replace n2 := n2.ext hxk
        replace n3 := n3.ext hxk
        replace hx := hx.trans hxk
        clear hxk
        clear B3_c0 B3_c1 B3_c2 B3_c3 B3_f0 B3_f1 B3_f2 B3_f3 B3_lt
        go_wp2
        refine wp_steady_tail 6 5 35 (by kernel_rfl) (by as_aux_lemma => kernel_rfl) rfl rfl ?_
        simp only [List.take_succ_cons, List.take_zero, List.drop_succ_cons, List.drop_zero, List.map_cons, List.map_nil]
        refine walk_q [(7, none)] (by kernel_rfl) rfl ?_
        apply Exists.intro
        refine ⟨fun b w' hx hs => ?_, ?_⟩
        · obtain ⟨h0, -⟩ := hs
          change _ = _ at h0
          rw [eval_tmp] at h0
          have hx_B1 := B1.ext hx
          have kB1_0 := hx_B1.cell 0 rfl
          have kB1_1 := hx_B1.cell 1 rfl
          have kB1_2 := hx_B1.cell 2 rfl
          have kB1_3 := hx_B1.cell 3 rfl
          have hx_B2 := B2.ext hx
          have kB2_0 := hx_B2.cell 0 rfl
          have kB2_1 := hx_B2.cell 1 rfl
          have kB2_2 := hx_B2.cell 2 rfl
          have kB2_3 := hx_B2.cell 3 rfl
          have hx_B3 := B3.ext hx
          have kB3_0 := hx_B3.cell 0 rfl
          have kB3_1 := hx_B3.cell 1 rfl
          have kB3_2 := hx_B3.cell 2 rfl
          have kB3_3 := hx_B3.cell 3 rfl
          go_simp
          try go_ints
          rfl
        refine walk_q [(8, none)] (by kernel_rfl) rfl ?_
        apply Exists.intro
        refine ⟨fun b w' hx hs => ?_, ?_⟩
        · obtain ⟨h0, -⟩ := hs
          change _ = _ at h0
          rw [eval_tmp] at h0
          have hx_B1 := B1.ext hx
          have kB1_0 := hx_B1.cell 0 rfl
          have kB1_1 := hx_B1.cell 1 rfl
          have kB1_2 := hx_B1.cell 2 rfl
          have kB1_3 := hx_B1.cell 3 rfl
          have hx_B2 := B2.ext hx
          have kB2_0 := hx_B2.cell 0 rfl
          have kB2_1 := hx_B2.cell 1 rfl
          have kB2_2 := hx_B2.cell 2 rfl
          have kB2_3 := hx_B2.cell 3 rfl
          have hx_B3 := B3.ext hx
          have kB3_0 := hx_B3.cell 0 rfl
          have kB3_1 := hx_B3.cell 1 rfl
          have kB3_2 := hx_B3.cell 2 rfl
          have kB3_3 := hx_B3.cell 3 rfl
          go_simp
          try go_ints
          rfl
        refine walk_q [(9, none)] (by kernel_rfl) rfl ?_
        apply Exists.intro
        refine ⟨fun b w' hx hs => ?_, ?_⟩
        · obtain ⟨h0, -⟩ := hs
          change _ = _ at h0
          rw [eval_tmp] at h0
          have hx_B1 := B1.ext hx
          have kB1_0 := hx_B1.cell 0 rfl
          have kB1_1 := hx_B1.cell 1 rfl
          have kB1_2 := hx_B1.cell 2 rfl
          have kB1_3 := hx_B1.cell 3 rfl
          have hx_B2 := B2.ext hx
          have kB2_0 := hx_B2.cell 0 rfl
          have kB2_1 := hx_B2.cell 1 rfl
          have kB2_2 := hx_B2.cell 2 rfl
          have kB2_3 := hx_B2.cell 3 rfl
          have hx_B3 := B3.ext hx
          have kB3_0 := hx_B3.cell 0 rfl
          have kB3_1 := hx_B3.cell 1 rfl
          have kB3_2 := hx_B3.cell 2 rfl
          have kB3_3 := hx_B3.cell 3 rfl
          go_simp
          try go_ints
          rfl
        refine walk_c [(31, some 1), (32, some 0)] (by kernel_rfl) rfl (fun w' v => IsNum w' v (some ((fl y * fl z)))) (fun _ _ _ x h => by first | exact h | exact h.ext x) (fun b w' hx hs => ?_) ?_
        · as_aux_lemma =>
            obtain ⟨h0, h1, -⟩ := hs
            change _ = _ at h0
            change _ = _ at h1
            rw [eval_tmp] at h0 h1
            go_simp
            refine upon_enter ((mul_any _ (hT.ext hx) (n2.ext hx) (n3.ext hx)).mono fun ed w2 ⟨v, he, hx2, hn⟩ => ⟨v, he, hx2, ?_⟩)
            rw [mulO_sz (n := 1074) (m := 1074) (S2.out) (S3.out) (by omega)] at hn
            first | exact hn | simpa using hn
        refine walk_c [(30, some 3), (33, some 0)] (by kernel_rfl) rfl (fun w' v => IsNum w' v (some ((fl x + (fl y * fl z))))) (fun _ _ _ x h => by first | exact h | exact h.ext x) (fun b w' hx hs => ?_) ?_
        · as_aux_lemma =>
            obtain ⟨h0, h1, -⟩ := hs
            change _ = _ at h0
            rw [eval_tmp] at h0 h1
            go_simp
            refine upon_enter ((add_any _ (hT.ext hx) (n1.ext hx) (show IsNum _ _ (some ((fl y * fl z))) from by rw [← eval_tmp] at *; exact h1)).mono fun ed w2 ⟨v, he, hx2, hn⟩ => ⟨v, he, hx2, ?_⟩)
            rw [addO_sz (n := 2148) ((S1.out).mono (by omega)) ((show Sz 2148 ((fl y * fl z)) from ((Sz.mul (S2.out) (S3.out)).mono (by omega)))) (by omega)] at hn
            first | exact hn | simpa using hn
        refine walk_end ?_
        intro w7 hx7
        intro v34 hv34
        intro v33 hv33
        rintro _ rfl
        rintro _ rfl
        rintro _ rfl
        unfold fin
        simp only [Act.put, List.setIfInBounds_toArray, List.set_cons_succ, List.set_cons_zero]
        rw [HV.out] at hv34
        obtain ⟨a4, n4, c4, e4, neg4, non4, rfl, hv34⟩ := hv34.kept
        replace B0 := B0.ext hx7
        replace hx := hx.trans hx7
        clear hx7
        have HST := Lib.hid (hv34.store B0 a4 n4 c4 e4 neg4 non4)
        have B0_c0 := B0.cell 0 rfl; have B0_c1 := B0.cell 1 rfl; have B0_c2 := B0.cell 2 rfl; have B0_c3 := B0.cell 3 rfl; have B0_f0 := B0.free 0; have B0_f1 := B0.free 1; have B0_f2 := B0.free 2; have B0_f3 := B0.free 3; have B0_lt := B0.lt
        go_wp2
        refine bodyPost_ret (v := .agg #[.slice a4 n4 c4, .int .i64 e4, .bool neg4, .bool non4]) (by simp [results, Tryd.results24, go_sem, B0_c0, B0_c1, B0_c2, B0_c3]) rfl ?_
        exact Gives.mk _ (by (with_reducible (repeat (first | exact Ext.refl _ | exact hx | refine Ext.drewN ?_ _ | refine Ext.drew ?_ | refine Ext.alloc ?_ _ | refine Ext.setCell ?_ (by first | (dsimp only; omega) | simp | (simp; omega)) _)))) HST.out
      · have hV : ofV x y z = 0 := by unfold ofV; rw [if_neg (fun h => f3 h.2.2)]
        rw [ofF_not f3] at n3
        have HV := Lib.hid hV
        clear hV f1 f2 f3
        have B1_c0 := B1.cell 0 rfl; have B1_c1 := B1.cell 1 rfl; have B1_c2 := B1.cell 2 rfl; have B1_c3 := B1.cell 3 rfl; have B1_f0 := B1.free 0; have B1_f1 := B1.free 1; have B1_f2 := B1.free 2; have B1_f3 := B1.free 3; have B1_lt := B1.lt
        go_wp2_with fail
        refine (ok_any _ n1).mono ?_
        rintro ed w4 ⟨rfl, hxk⟩
        replace B0 := B0.ext hxk
        replace B1 := B1.ext hxk
        replace B2 := B2.ext hxk
        replace B3 := B3.ext hxk
        replace hT := hT.ext hxk
        replace n1 := n1.ext hxk
        replace n2 := n2.ext hxk
        replace n3 := n3.ext hxk
        replace hx := hx.trans hxk
        clear hxk
        clear B1_c0 B1_c1 B1_c2 B1_c3 B1_f0 B1_f1 B1_f2 B1_f3 B1_lt
        have B2_c0 := B2.cell 0 rfl; have B2_c1 := B2.cell 1 rfl; have B2_c2 := B2.cell 2 rfl; have B2_c3 := B2.cell 3 rfl; have B2_f0 := B2.free 0; have B2_f1 := B2.free 1; have B2_f2 := B2.free 2; have B2_f3 := B2.free 3; have B2_lt := B2.lt
        go_wp2_with fail
        refine (ok_any _ n2).mono ?_
        rintro ed w5 ⟨rfl, hxk⟩
        replace B0 := B0.ext hxk
        replace B1 := B1.ext hxk
        replace B2 := B2.ext hxk
        replace B3 := B3.ext hxk
        replace hT := hT.ext hxk
        replace n1 := n1.ext hxk
        replace n2 := n2.ext hxk
        replace n3 := n3.ext hxk
        replace hx := hx.trans hxk
        clear hxk
        clear B2_c0 B2_c1 B2_c2 B2_c3 B2_f0 B2_f1 B2_f2 B2_f3 B2_lt
        have B3_c0 := B3.cell 0 rfl; have B3_c1 := B3.cell 1 rfl; have B3_c2 := B3.cell 2 rfl; have B3_c3 := B3.cell 3 rfl; have B3_f0 := B3.free 0; have B3_f1 := B3.free 1; have B3_f2 := B3.free 2; have B3_f3 := B3.free 3; have B3_lt := B3.lt
        go_wp2_with fail
        refine (ok_any _ n3).mono ?_
        rintro ed w6 ⟨rfl, hxk⟩
        replace B0 := B0.ext hxk
        replace B1 := B1.ext hxk
        replace B2 := B2.ext hxk
        replace B3 := B3.ext hxk
        replace hT := hT.ext hxk
        replace n1 := n1.ext hxk
        replace n2 := n2.ext hxk
        replace n3 := n3.ext hxk
        replace hx := hx.trans hxk
        clear hxk
        clear B3_c0 B3_c1 B3_c2 B3_c3 B3_f0 B3_f1 B3_f2 B3_f3 B3_lt
        have B0_c0 := B0.cell 0 rfl; have B0_c1 := B0.cell 1 rfl; have B0_c2 := B0.cell 2 rfl; have B0_c3 := B0.cell 3 rfl; have B0_f0 := B0.free 0; have B0_f1 := B0.free 1; have B0_f2 := B0.free 2; have B0_f3 := B0.free 3; have B0_lt := B0.lt
        go_wp2
        refine bodyPost_ret (v := .agg #[.slice none 0 0, .int .i64 0, .bool false, .bool false]) (by simp [results, Tryd.results24, go_sem, B0_c0, B0_c1, B0_c2, B0_c3]) rfl ?_
        exact Gives.mk _ (by (with_reducible (repeat (first | exact Ext.refl _ | exact hx | refine Ext.drewN ?_ _ | refine Ext.drew ?_ | refine Ext.alloc ?_ _ | refine Ext.setCell ?_ (by first | (dsimp only; omega) | simp | (simp; omega)) _)))) (by rw [HV.out]; exact isNum_zero _)
    · have hV : ofV x y z = 0 := by unfold ofV; rw [if_neg (fun h => f2 h.2.1)]
      rw [ofF_not f2] at n2
      have HV := Lib.hid hV
      clear hV f1 f2
      have B1_c0 := B1.cell 0 rfl; have B1_c1 := B1.cell 1 rfl; have B1_c2 := B1.cell 2 rfl; have B1_c3 := B1.cell 3 rfl; have B1_f0 := B1.free 0; have B1_f1 := B1.free 1; have B1_f2 := B1.free 2; have B1_f3 := B1.free 3; have B1_lt := B1.lt
      go_wp2_with fail
      refine (ok_any _ n1).mono ?_
      rintro ed w4 ⟨rfl, hxk⟩
      replace B0 := B0.ext hxk
      replace B1 := B1.ext hxk
      replace B2 := B2.ext hxk
      replace B3 := B3.ext hxk
      replace hT := hT.ext hxk
      replace n1 := n1.ext hxk
      replace n2 := n2.ext hxk
      replace n3 := n3.ext hxk
      replace hx := hx.trans hxk
      clear hxk
      clear B1_c0 B1_c1 B1_c2 B1_c3 B1_f0 B1_f1 B1_f2 B1_f3 B1_lt
      have B2_c0 := B2.cell 0 rfl; have B2_c1 := B2.cell 1 rfl; have B2_c2 := B2.cell 2 rfl; have B2_c3 := B2.cell 3 rfl; have B2_f0 := B2.free 0; have B2_f1 := B2.free 1; have B2_f2 := B2.free 2; have B2_f3 := B2.free 3; have B2_lt := B2.lt
      go_wp2_with fail
      refine (ok_any _ n2).mono ?_
      rintro ed w5 ⟨rfl, hxk⟩
      replace B0 := B0.ext hxk
      replace B1 := B1.ext hxk
      replace B2 := B2.ext hxk
      replace B3 := B3.ext hxk
      replace hT := hT.ext hxk
      replace n1 := n1.ext hxk
      replace n2 := n2.ext hxk
      replace n3 := n3.ext hxk
      replace hx := hx.trans hxk
      clear hxk
      clear B2_c0 B2_c1 B2_c2 B2_c3 B2_f0 B2_f1 B2_f2 B2_f3 B2_lt
      have B0_c0 := B0.cell 0 rfl; have B0_c1 := B0.cell 1 rfl; have B0_c2 := B0.cell 2 rfl; have B0_c3 := B0.cell 3 rfl; have B0_f0 := B0.free 0; have B0_f1 := B0.free 1; have B0_f2 := B0.free 2; have B0_f3 := B0.free 3; have B0_lt := B0.lt
      go_wp2
      refine bodyPost_ret (v := .agg #[.slice none 0 0, .int .i64 0, .bool false, .bool false]) (by simp [results, Tryd.results24, go_sem, B0_c0, B0_c1, B0_c2, B0_c3]) rfl ?_
      exact Gives.mk _ (by (with_reducible (repeat (first | exact Ext.refl _ | exact hx | refine Ext.drewN ?_ _ | refine Ext.drew ?_ | refine Ext.alloc ?_ _ | refine Ext.setCell ?_ (by first | (dsimp only; omega) | simp | (simp; omega)) _)))) (by rw [HV.out]; exact isNum_zero _)
  · have hV : ofV x y z = 0 := by unfold ofV; rw [if_neg (fun h => f1 h.1)]
    rw [ofF_not f1] at n1
    have HV := Lib.hid hV
    clear hV f1
    have B1_c0 := B1.cell 0 rfl; have B1_c1 := B1.cell 1 rfl; have B1_c2 := B1.cell 2 rfl; have B1_c3 := B1.cell 3 rfl; have B1_f0 := B1.free 0; have B1_f1 := B1.free 1; have B1_f2 := B1.free 2; have B1_f3 := B1.free 3; have B1_lt := B1.lt
    go_wp2_with fail
    refine (ok_any _ n1).mono ?_
    rintro ed w4 ⟨rfl, hxk⟩
    replace B0 := B0.ext hxk
    replace B1 := B1.ext hxk
    replace B2 := B2.ext hxk
    replace B3 := B3.ext hxk
    replace hT := hT.ext hxk
    replace n1 := n1.ext hxk
    replace n2 := n2.ext hxk
    replace n3 := n3.ext hxk
    replace hx := hx.trans hxk
    clear hxk
    clear B1_c0 B1_c1 B1_c2 B1_c3 B1_f0 B1_f1 B1_f2 B1_f3 B1_lt
    have B0_c0 := B0.cell 0 rfl; have B0_c1 := B0.cell 1 rfl; have B0_c2 := B0.cell 2 rfl; have B0_c3 := B0.cell 3 rfl; have B0_f0 := B0.free 0; have B0_f1 := B0.free 1; have B0_f2 := B0.free 2; have B0_f3 := B0.free 3; have B0_lt := B0.lt
    go_wp2
    refine bodyPost_ret (v := .agg #[.slice none 0 0, .int .i64 0, .bool false, .bool false]) (by simp [results, Tryd.results24, go_sem, B0_c0, B0_c1, B0_c2, B0_c3]) rfl ?_
    exact Gives.mk _ (by (with_reducible (repeat (first | exact Ext.refl _ | exact hx | refine Ext.drewN ?_ _ | refine Ext.drew ?_ | refine Ext.alloc ?_ _ | refine Ext.setCell ?_ (by first | (dsimp only; omega) | simp | (simp; omega)) _)))) (by rw [HV.out]; exact isNum_zero _)
end Go.Proofs.YthnmjkjllhlcjaaDoor
