/- The walks of whole.Num.Sub and Cmp; no condition. -/
import Derived.Test.YthnmjkjllhlcjaaDoorAddW
namespace Go.Proofs.YthnmjkjllhlcjaaDoor
open Go Go.RowKit Go.Steady Go.Tri
set_option maxRecDepth 100000

noncomputable def subO (q q' : Option Rat) : Option Rat := addO q (negO q')
noncomputable def cmpO (q q' : Option Rat) : Int := sgO (subO q q')

set_option maxHeartbeats 400000 in
theorem sub_core (a a' : Option Addr) (n n' c c' : Nat) (e e' : Int) (neg neg' non non' : Bool) (q q' : Option Rat) (w : World) (hT : Tab w) (h : IsNum w (.agg #[.slice a n c, .int .i64 e, .bool neg, .bool non]) q) (h' : IsNum w (.agg #[.slice a' n' c', .int .i64 e', .bool neg', .bool non']) q') :
    Calls Tryd.prog 27 #[.agg #[.slice a n c, .int .i64 e, .bool neg, .bool non], .agg #[.slice a' n' c', .int .i64 e', .bool neg', .bool non']] w (Gives w fun w' r => IsNum w' r (subO q q')) := by
  have B0 : Box (((w.alloc (.cells #[.slice a n c, .int .i64 e, .bool neg, .bool non] 29)).alloc (.cells #[.slice a' n' c', .int .i64 e', .bool neg', .bool non'] 29)).alloc (.cells #[.slice none 0 0, .int .i64 0, .bool false, .bool false] 29)) (w.heap.size) #[.slice a n c, .int .i64 e, .bool neg, .bool non] 29 := (((Box.new w #[.slice a n c, .int .i64 e, .bool neg, .bool non] 29).alloc (.cells #[.slice a' n' c', .int .i64 e', .bool neg', .bool non'] 29)).alloc (.cells #[.slice none 0 0, .int .i64 0, .bool false, .bool false] 29)); have B1 : Box (((w.alloc (.cells #[.slice a n c, .int .i64 e, .bool neg, .bool non] 29)).alloc (.cells #[.slice a' n' c', .int .i64 e', .bool neg', .bool non'] 29)).alloc (.cells #[.slice none 0 0, .int .i64 0, .bool false, .bool false] 29)) (w.heap.size + 1) #[.slice a' n' c', .int .i64 e', .bool neg', .bool non'] 29 := (by have hbx := ((Box.new (w.alloc (.cells #[.slice a n c, .int .i64 e, .bool neg, .bool non] 29)) #[.slice a' n' c', .int .i64 e', .bool neg', .bool non'] 29).alloc (.cells #[.slice none 0 0, .int .i64 0, .bool false, .bool false] 29)); simpa only [World.size_alloc] using hbx); have B2 : Box (((w.alloc (.cells #[.slice a n c, .int .i64 e, .bool neg, .bool non] 29)).alloc (.cells #[.slice a' n' c', .int .i64 e', .bool neg', .bool non'] 29)).alloc (.cells #[.slice none 0 0, .int .i64 0, .bool false, .bool false] 29)) (w.heap.size + 1 + 1) #[.slice none 0 0, .int .i64 0, .bool false, .bool false] 29 := (by have hbx := (Box.new ((w.alloc (.cells #[.slice a n c, .int .i64 e, .bool neg, .bool non] 29)).alloc (.cells #[.slice a' n' c', .int .i64 e', .bool neg', .bool non'] 29)) #[.slice none 0 0, .int .i64 0, .bool false, .bool false] 29); simpa only [World.size_alloc] using hbx); have hx0 : Ext w (((w.alloc (.cells #[.slice a n c, .int .i64 e, .bool neg, .bool non] 29)).alloc (.cells #[.slice a' n' c', .int .i64 e', .bool neg', .bool non'] 29)).alloc (.cells #[.slice none 0 0, .int .i64 0, .bool false, .bool false] 29)) := ((((Ext.refl w).alloc (.cells #[.slice a n c, .int .i64 e, .bool neg, .bool non] 29)).alloc (.cells #[.slice a' n' c', .int .i64 e', .bool neg', .bool non'] 29)).alloc (.cells #[.slice none 0 0, .int .i64 0, .bool false, .bool false] 29))
  go_enter Tryd.func27, Tryd.ntmps27
  go_wp2
  refine wp_steady_tail 5 4 9 (by kernel_rfl) (by as_aux_lemma => kernel_rfl) rfl rfl ?_
  simp only [List.take_succ_cons, List.take_zero, List.drop_succ_cons, List.drop_zero, List.map_cons, List.map_nil]
  refine walk_q [(2, none)] (by kernel_rfl) rfl ?_
  apply Exists.intro
  refine ⟨fun b w' hx hs => ?_, ?_⟩
  · obtain ⟨h0, -⟩ := hs
    change _ = _ at h0
    rw [eval_tmp] at h0
    have hx_B0 := B0.ext hx
    have kB0_0 := hx_B0.cell 0 rfl
    have kB0_1 := hx_B0.cell 1 rfl
    have kB0_2 := hx_B0.cell 2 rfl
    have kB0_3 := hx_B0.cell 3 rfl
    have hx_B1 := B1.ext hx
    have kB1_0 := hx_B1.cell 0 rfl
    have kB1_1 := hx_B1.cell 1 rfl
    have kB1_2 := hx_B1.cell 2 rfl
    have kB1_3 := hx_B1.cell 3 rfl
    go_simp
    try go_ints
    rfl
  refine walk_q [(3, none)] (by kernel_rfl) rfl ?_
  apply Exists.intro
  refine ⟨fun b w' hx hs => ?_, ?_⟩
  · obtain ⟨h0, -⟩ := hs
    change _ = _ at h0
    rw [eval_tmp] at h0
    have hx_B0 := B0.ext hx
    have kB0_0 := hx_B0.cell 0 rfl
    have kB0_1 := hx_B0.cell 1 rfl
    have kB0_2 := hx_B0.cell 2 rfl
    have kB0_3 := hx_B0.cell 3 rfl
    have hx_B1 := B1.ext hx
    have kB1_0 := hx_B1.cell 0 rfl
    have kB1_1 := hx_B1.cell 1 rfl
    have kB1_2 := hx_B1.cell 2 rfl
    have kB1_3 := hx_B1.cell 3 rfl
    go_simp
    try go_ints
    rfl
  refine walk_c [(6, some 0)] (by kernel_rfl) rfl (fun w' v => IsNum w' v (negO q')) (fun _ _ _ x h => by first | exact h | exact h.ext x) (fun b w' hx hs => ?_) ?_
  · as_aux_lemma =>
      obtain ⟨h0, -⟩ := hs
      change _ = _ at h0
      rw [eval_tmp] at h0
      go_simp
      exact upon_enter (neg_any _ (h'.ext (hx0.trans hx)))
  refine walk_c [(5, some 2), (7, some 0)] (by kernel_rfl) rfl (fun w' v => IsNum w' v (subO q q')) (fun _ _ _ x h => by first | exact h | exact h.ext x) (fun b w' hx hs => ?_) ?_
  · as_aux_lemma =>
      obtain ⟨h0, h1, -⟩ := hs
      change _ = _ at h0
      rw [eval_tmp] at h0 h1
      go_simp
      exact upon_enter (add_any _ (hT.ext (hx0.trans hx)) (h.ext (hx0.trans hx)) (by rw [← eval_tmp] at *; exact h1))
  refine walk_end ?_
  intro w3 hx3
  intro v8 hv8
  intro v7 hv7
  rintro _ rfl
  rintro _ rfl
  unfold fin
  simp only [Act.put, List.setIfInBounds_toArray, List.set_cons_succ, List.set_cons_zero]
  obtain ⟨a4, n4, c4, e4, neg4, non4, rfl, -⟩ := hv8.shape
  replace B2 := B2.ext hx3
  have hx3' := hx0.trans hx3
  clear hx3
  have hstore := hv8.store B2 a4 n4 c4 e4 neg4 non4
  have HST := Lib.hid hstore; clear hstore
  have B2_c0 := B2.cell 0 rfl; have B2_c1 := B2.cell 1 rfl; have B2_c2 := B2.cell 2 rfl; have B2_c3 := B2.cell 3 rfl; have B2_f0 := B2.free 0; have B2_f1 := B2.free 1; have B2_f2 := B2.free 2; have B2_f3 := B2.free 3; have B2_lt := B2.lt
  go_wp2
  refine bodyPost_ret (v := .agg #[.slice a4 n4 c4, .int .i64 e4, .bool neg4, .bool non4]) (by simp [results, Tryd.results27, go_sem, B2_c0, B2_c1, B2_c2, B2_c3]) rfl ?_
  exact Gives.mk _ (by (with_reducible (repeat (first | exact Ext.refl _ | exact hx3' | refine Ext.drewN ?_ _ | refine Ext.drew ?_ | refine Ext.alloc ?_ _ | refine Ext.setCell ?_ (by first | (dsimp only; omega) | simp | (simp; omega)) _)))) HST.out
/-- Num.Sub. -/
theorem sub_any {v v' : Value} {q q' : Option Rat} (w : World) (hT : Tab w) (h : IsNum w v q) (h' : IsNum w v' q') :
    Calls Tryd.prog 27 #[v, v'] w (Gives w fun w' r => IsNum w' r (subO q q')) := by
  obtain ⟨a, n, c, e, neg, non, rfl, -⟩ := h.shape
  obtain ⟨a', n', c', e', neg', non', rfl, -⟩ := h'.shape
  exact sub_core _ _ _ _ _ _ _ _ _ _ _ _ q q' w hT h h'

theorem cmp_num_core (a a' : Option Addr) (n n' c c' : Nat) (e e' : Int) (neg neg' non non' : Bool) (q q' : Option Rat) (w : World) (hT : Tab w) (h : IsNum w (.agg #[.slice a n c, .int .i64 e, .bool neg, .bool non]) q) (h' : IsNum w (.agg #[.slice a' n' c', .int .i64 e', .bool neg', .bool non']) q') :
    Calls Tryd.prog 26 #[.agg #[.slice a n c, .int .i64 e, .bool neg, .bool non], .agg #[.slice a' n' c', .int .i64 e', .bool neg', .bool non']] w (fun ed w' => ed = .returned (.int .i64 (cmpO q q')) ∧ Ext w w') := by
  go_enter Tryd.func26, Tryd.ntmps26
  go_wp2_with fail
  refine (sub_any _ (hT.ext (by (with_reducible (repeat (first | exact Ext.refl _ | refine Ext.drewN ?_ _ | refine Ext.drew ?_ | refine Ext.alloc ?_ _ | refine Ext.setCell ?_ (by first | (dsimp only; omega) | simp | (simp; omega)) _))))) (h.ext (by (with_reducible (repeat (first | exact Ext.refl _ | refine Ext.drewN ?_ _ | refine Ext.drew ?_ | refine Ext.alloc ?_ _ | refine Ext.setCell ?_ (by first | (dsimp only; omega) | simp | (simp; omega)) _))))) (h'.ext (by (with_reducible (repeat (first | exact Ext.refl _ | refine Ext.drewN ?_ _ | refine Ext.drew ?_ | refine Ext.alloc ?_ _ | refine Ext.setCell ?_ (by first | (dsimp only; omega) | simp | (simp; omega)) _)))))).mono ?_
  rintro ed w1 ⟨v1, rfl, hx, hn⟩
  have hx1 : Ext w w1 := Ext.trans (by (with_reducible (repeat (first | exact Ext.refl _ | refine Ext.drewN ?_ _ | refine Ext.drew ?_ | refine Ext.alloc ?_ _ | refine Ext.setCell ?_ (by first | (dsimp only; omega) | simp | (simp; omega)) _)))) hx
  clear hx
  go_wp2_with fail
  refine (sign_any _ hn).mono ?_
  rintro ed w2 ⟨rfl, hx⟩
  have hx2 : Ext w w2 := hx1.trans hx
  clear hx
  go_wp2
  go_ret
  exact ⟨rfl, hx2⟩
/-- Num.Cmp. -/
theorem cmp_num {v v' : Value} {q q' : Option Rat} (w : World) (hT : Tab w) (h : IsNum w v q) (h' : IsNum w v' q') :
    Calls Tryd.prog 26 #[v, v'] w (fun ed w' => ed = .returned (.int .i64 (cmpO q q')) ∧ Ext w w') := by
  obtain ⟨a, n, c, e, neg, non, rfl, -⟩ := h.shape
  obtain ⟨a', n', c', e', neg', non', rfl, -⟩ := h'.shape
  exact cmp_num_core _ _ _ _ _ _ _ _ _ _ _ _ q q' w hT h h'
end Go.Proofs.YthnmjkjllhlcjaaDoor
