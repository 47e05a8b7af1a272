/- The walk of whole.Num.Add; no condition. -/
import Derived.Test.YthnmjkjllhlcjaaDoorCmpW
namespace Go.Proofs.YthnmjkjllhlcjaaDoor
open Go Go.RowKit Go.Steady Go.Tri
set_option maxRecDepth 100000

theorem add_none (a a' : Option Addr) (n n' c c' : Nat) (e e' : Int) (neg neg' non non' : Bool) (w : World) (h : (non || non') = true) :
    Calls Tryd.prog 25 #[.agg #[.slice a n c, .int .i64 e, .bool neg, .bool non], .agg #[.slice a' n' c', .int .i64 e', .bool neg', .bool non']] w (Gives w fun w' v => IsNum w' v none) := by
  cases non
  · simp only [Bool.false_or] at h
    subst h
    go_enter Tryd.func25, Tryd.ntmps25
    go_wp2
    refine bodyPost_ret (v := .agg #[.slice none 0 0, .int .i64 0, .bool false, .bool true]) (by simp [results, Tryd.results25, go_sem]) rfl ?_
    exact Gives.mk _ (by (with_reducible (repeat (first | exact Ext.refl _ | refine Ext.drewN ?_ _ | refine Ext.drew ?_ | refine Ext.alloc ?_ _ | refine Ext.setCell ?_ (by first | (dsimp only; omega) | simp | (simp; omega)) _)))) rfl
  · clear h
    go_enter Tryd.func25, Tryd.ntmps25
    go_wp2
    refine bodyPost_ret (v := .agg #[.slice none 0 0, .int .i64 0, .bool false, .bool true]) (by simp [results, Tryd.results25, go_sem]) rfl ?_
    exact Gives.mk _ (by (with_reducible (repeat (first | exact Ext.refl _ | refine Ext.drewN ?_ _ | refine Ext.drew ?_ | refine Ext.alloc ?_ _ | refine Ext.setCell ?_ (by first | (dsimp only; omega) | simp | (simp; omega)) _)))) rfl
theorem add_left0 (a a' : Option Addr) (n' c c' : Nat) (e e' : Int) (neg neg' : Bool) (w : World) :
    Calls Tryd.prog 25 #[.agg #[.slice a 0 c, .int .i64 e, .bool neg, .bool false], .agg #[.slice a' n' c', .int .i64 e', .bool neg', .bool false]] w (fun ed w' => ed = .returned (.agg #[.slice a' n' c', .int .i64 e', .bool neg', .bool false]) ∧ Ext w w') := by
  go_enter Tryd.func25, Tryd.ntmps25
  go_wp2
  refine bodyPost_ret (v := .agg #[.slice a' n' c', .int .i64 e', .bool neg', .bool false]) (by simp [results, Tryd.results25, go_sem]) rfl ?_
  exact ⟨rfl, by (with_reducible (repeat (first | exact Ext.refl _ | refine Ext.drewN ?_ _ | refine Ext.drew ?_ | refine Ext.alloc ?_ _ | refine Ext.setCell ?_ (by first | (dsimp only; omega) | simp | (simp; omega)) _)))⟩
theorem add_right0 (a a' : Option Addr) (n c c' : Nat) (e e' : Int) (neg neg' : Bool) (w : World) (hn : 0 < n) :
    Calls Tryd.prog 25 #[.agg #[.slice a n c, .int .i64 e, .bool neg, .bool false], .agg #[.slice a' 0 c', .int .i64 e', .bool neg', .bool false]] w (fun ed w' => ed = .returned (.agg #[.slice a n c, .int .i64 e, .bool neg, .bool false]) ∧ Ext w w') := by
  have h0 : ((n : Int) == 0) = false := by simp; omega
  go_enter Tryd.func25, Tryd.ntmps25
  go_wp2
  refine bodyPost_ret (v := .agg #[.slice a n c, .int .i64 e, .bool neg, .bool false]) (by simp [results, Tryd.results25, go_sem]) rfl ?_
  exact ⟨rfl, by (with_reducible (repeat (first | exact Ext.refl _ | refine Ext.drewN ?_ _ | refine Ext.drew ?_ | refine Ext.alloc ?_ _ | refine Ext.setCell ?_ (by first | (dsimp only; omega) | simp | (simp; omega)) _)))⟩

theorem sg_ge {x y : Rat} (h : y ≤ x) : ∃ s : Int, sg (x - y) = s ∧ 0 ≤ s := by
  refine ⟨_, rfl, ?_⟩
  unfold sg
  rw [if_neg (by grind)]
  split <;> omega
def MagOf (w : World) (v : Value) (q : Rat) : Prop := ∃ ys fr, IsMag w v ys fr ∧ magVal ys fr = q ∧ ys.length ≤ 10000000000 ∧ -1000000000 ≤ fr ∧ fr ≤ 1000000000
theorem MagOf.ext {w w' : World} {v : Value} {q : Rat} (h : MagOf w v q) (x : Ext w w') : MagOf w' v q := by
  obtain ⟨ys, fr, h1, h2⟩ := h; exact ⟨ys, fr, h1.ext x, h2⟩
theorem made_of {v : Value} {q : Rat} (neg : Bool) (w : World) (hT : Tab w) (h : MagOf w v q) : Calls Tryd.prog 94 #[v, .bool neg] w (MadePost w neg q) := by
  obtain ⟨ys, fr, h1, rfl, h3, h4, h5⟩ := h
  exact made_any neg w hT h1 (by omega) (by omega) (by omega)

set_option maxHeartbeats 800000 in
theorem add_same (xs xs' : List Nat) (a a' : Option Addr) (n n' c c' : Nat) (e e' : Int) (neg : Bool) (w : World) (hn : 0 < n) (hn' : 0 < n') (hT : Tab w) (hm : IsMag w (.agg #[.slice a n c, .int .i64 e]) xs e) (hm' : IsMag w (.agg #[.slice a' n' c', .int .i64 e']) xs' e') (hb : MagBd xs e) (hb' : MagBd xs' e') :
    Calls Tryd.prog 25 #[.agg #[.slice a n c, .int .i64 e, .bool neg, .bool false], .agg #[.slice a' n' c', .int .i64 e', .bool neg, .bool false]] w (Gives w fun w' v => IsNum w' v (mk (sgn neg (magVal xs e + magVal xs' e')))) := by
  have h0 : ((n : Int) == 0) = false := by simp; omega
  have h0' : ((n' : Int) == 0) = false := by simp; omega
  have B0 : Box (((w.alloc (.cells #[.slice a n c, .int .i64 e, .bool neg, .bool false] 29)).alloc (.cells #[.slice a' n' c', .int .i64 e', .bool neg, .bool false] 29)).alloc (.cells #[.slice none 0 0, .int .i64 0, .bool false, .bool false] 29)) (w.heap.size) #[.slice a n c, .int .i64 e, .bool neg, .bool false] 29 := (((Box.new w #[.slice a n c, .int .i64 e, .bool neg, .bool false] 29).alloc (.cells #[.slice a' n' c', .int .i64 e', .bool neg, .bool false] 29)).alloc (.cells #[.slice none 0 0, .int .i64 0, .bool false, .bool false] 29)); have B1 : Box (((w.alloc (.cells #[.slice a n c, .int .i64 e, .bool neg, .bool false] 29)).alloc (.cells #[.slice a' n' c', .int .i64 e', .bool neg, .bool false] 29)).alloc (.cells #[.slice none 0 0, .int .i64 0, .bool false, .bool false] 29)) (w.heap.size + 1) #[.slice a' n' c', .int .i64 e', .bool neg, .bool false] 29 := (by have hbx := ((Box.new (w.alloc (.cells #[.slice a n c, .int .i64 e, .bool neg, .bool false] 29)) #[.slice a' n' c', .int .i64 e', .bool neg, .bool false] 29).alloc (.cells #[.slice none 0 0, .int .i64 0, .bool false, .bool false] 29)); simpa only [World.size_alloc] using hbx); have B2 : Box (((w.alloc (.cells #[.slice a n c, .int .i64 e, .bool neg, .bool false] 29)).alloc (.cells #[.slice a' n' c', .int .i64 e', .bool neg, .bool false] 29)).alloc (.cells #[.slice none 0 0, .int .i64 0, .bool false, .bool false] 29)) (w.heap.size + 1 + 1) #[.slice none 0 0, .int .i64 0, .bool false, .bool false] 29 := (by have hbx := (Box.new ((w.alloc (.cells #[.slice a n c, .int .i64 e, .bool neg, .bool false] 29)).alloc (.cells #[.slice a' n' c', .int .i64 e', .bool neg, .bool false] 29)) #[.slice none 0 0, .int .i64 0, .bool false, .bool false] 29); simpa only [World.size_alloc] using hbx); have hx0 : Ext w (((w.alloc (.cells #[.slice a n c, .int .i64 e, .bool neg, .bool false] 29)).alloc (.cells #[.slice a' n' c', .int .i64 e', .bool neg, .bool false] 29)).alloc (.cells #[.slice none 0 0, .int .i64 0, .bool false, .bool false] 29)) := ((((Ext.refl w).alloc (.cells #[.slice a n c, .int .i64 e, .bool neg, .bool false] 29)).alloc (.cells #[.slice a' n' c', .int .i64 e', .bool neg, .bool false] 29)).alloc (.cells #[.slice none 0 0, .int .i64 0, .bool false, .bool false] 29))
  go_enter Tryd.func25, Tryd.ntmps25
  go_wp2
  refine wp_steady_tail 9 8 64 (by kernel_rfl) (by as_aux_lemma => kernel_rfl) rfl rfl ?_
  simp only [List.take_succ_cons, List.take_zero, List.drop_succ_cons, List.drop_zero, List.map_cons, List.map_nil]
  refine walk_q [(2, none)] (by kernel_rfl) rfl ?_
  apply Exists.intro
  refine ⟨fun b w' hx hs => ?_, ?_⟩
  · obtain ⟨h0, -⟩ := hs
    change _ = _ at h0
    rw [eval_tmp] at h0
    go_simp
    try go_ints
    rfl
  refine walk_q [(33, some 0)] (by kernel_rfl) rfl ?_
  apply Exists.intro
  refine ⟨fun b w' hx hs => ?_, ?_⟩
  · obtain ⟨h0, -⟩ := hs
    change _ = _ at h0
    rw [eval_tmp] at h0
    have hx_B0 := B0.ext hx
    have kB0_0 := hx_B0.cell 0 rfl
    have kB0_1 := hx_B0.cell 1 rfl
    have kB0_2 := hx_B0.cell 2 rfl
    have kB0_3 := hx_B0.cell 3 rfl
    have hx_B1 := B1.ext hx
    have kB1_0 := hx_B1.cell 0 rfl
    have kB1_1 := hx_B1.cell 1 rfl
    have kB1_2 := hx_B1.cell 2 rfl
    have kB1_3 := hx_B1.cell 3 rfl
    go_simp
    try go_ints
    rfl
  refine walk_q [(3, none)] (by kernel_rfl) rfl ?_
  apply Exists.intro
  refine ⟨fun b w' hx hs => ?_, ?_⟩
  · obtain ⟨h0, -⟩ := hs
    change _ = _ at h0
    rw [eval_tmp] at h0
    go_simp
    try go_ints
    rfl
  refine walk_q [(35, some 0)] (by kernel_rfl) rfl ?_
  apply Exists.intro
  refine ⟨fun b w' hx hs => ?_, ?_⟩
  · obtain ⟨h0, -⟩ := hs
    change _ = _ at h0
    rw [eval_tmp] at h0
    have hx_B0 := B0.ext hx
    have kB0_0 := hx_B0.cell 0 rfl
    have kB0_1 := hx_B0.cell 1 rfl
    have kB0_2 := hx_B0.cell 2 rfl
    have kB0_3 := hx_B0.cell 3 rfl
    have hx_B1 := B1.ext hx
    have kB1_0 := hx_B1.cell 0 rfl
    have kB1_1 := hx_B1.cell 1 rfl
    have kB1_2 := hx_B1.cell 2 rfl
    have kB1_3 := hx_B1.cell 3 rfl
    go_simp
    try go_ints
    rfl
  refine walk_c [(34, some 2), (36, some 0)] (by kernel_rfl) rfl (fun w' v => MagOf w' v (magVal xs e + magVal xs' e')) (fun _ _ _ x h => by first | exact h | exact h.ext x) (fun b w' hx hs => ?_) ?_
  · as_aux_lemma =>
      obtain ⟨h0, h1, -⟩ := hs
      change _ = _ at h0
      change _ = _ at h1
      rw [eval_tmp] at h0 h1
      go_simp
      exact upon_enter (sum_any _ (hm.ext (hx0.trans hx)) (hm'.ext (hx0.trans hx)) hb hb')
  refine walk_q [(2, none)] (by kernel_rfl) rfl ?_
  apply Exists.intro
  refine ⟨fun b w' hx hs => ?_, ?_⟩
  · obtain ⟨h0, -⟩ := hs
    change _ = _ at h0
    rw [eval_tmp] at h0
    go_simp
    try go_ints
    rfl
  refine walk_q [(38, some 0)] (by kernel_rfl) rfl ?_
  apply Exists.intro
  refine ⟨fun b w' hx hs => ?_, ?_⟩
  · obtain ⟨h0, -⟩ := hs
    change _ = _ at h0
    rw [eval_tmp] at h0
    have hx_B0 := B0.ext hx
    have kB0_0 := hx_B0.cell 0 rfl
    have kB0_1 := hx_B0.cell 1 rfl
    have kB0_2 := hx_B0.cell 2 rfl
    have kB0_3 := hx_B0.cell 3 rfl
    have hx_B1 := B1.ext hx
    have kB1_0 := hx_B1.cell 0 rfl
    have kB1_1 := hx_B1.cell 1 rfl
    have kB1_2 := hx_B1.cell 2 rfl
    have kB1_3 := hx_B1.cell 3 rfl
    go_simp
    try go_ints
    rfl
  refine walk_c [(37, some 2), (39, some 0)] (by kernel_rfl) rfl (fun w' v => IsNum w' v (mk (sgn neg (magVal xs e + magVal xs' e')))) (fun _ _ _ x h => by first | exact h | exact h.ext x) (fun b w' hx hs => ?_) ?_
  · as_aux_lemma =>
      obtain ⟨h0, h1, -⟩ := hs
      change _ = _ at h1
      rw [eval_tmp] at h0 h1
      go_simp
      exact upon_enter (made_of neg _ (hT.ext (hx0.trans hx)) (by rw [← eval_tmp] at *; exact h0))
  refine walk_end ?_
  intro w3 hx3
  intro v40 hv40
  rintro _ rfl
  rintro _ rfl
  intro v37 hv37
  rintro _ rfl
  rintro _ rfl
  rintro _ rfl
  rintro _ rfl
  unfold fin
  simp only [Act.put, List.setIfInBounds_toArray, List.set_cons_succ, List.set_cons_zero]
  obtain ⟨a4, n4, c4, e4, neg4, non4, rfl, -⟩ := hv40.shape
  replace B2 := B2.ext hx3
  have hx3' := hx0.trans hx3
  clear hx3
  have hstore := hv40.store B2 a4 n4 c4 e4 neg4 non4
  have HST := Lib.hid hstore; clear hstore
  have B2_c0 := B2.cell 0 rfl; have B2_c1 := B2.cell 1 rfl; have B2_c2 := B2.cell 2 rfl; have B2_c3 := B2.cell 3 rfl; have B2_f0 := B2.free 0; have B2_f1 := B2.free 1; have B2_f2 := B2.free 2; have B2_f3 := B2.free 3; have B2_lt := B2.lt
  go_wp2
  refine bodyPost_ret (v := .agg #[.slice a4 n4 c4, .int .i64 e4, .bool neg4, .bool non4]) (by simp [results, Tryd.results25, go_sem, B2_c0, B2_c1, B2_c2, B2_c3]) rfl ?_
  exact Gives.mk _ (by (with_reducible (repeat (first | exact Ext.refl _ | exact hx3' | refine Ext.drewN ?_ _ | refine Ext.drew ?_ | refine Ext.alloc ?_ _ | refine Ext.setCell ?_ (by first | (dsimp only; omega) | simp | (simp; omega)) _)))) HST.out

set_option maxHeartbeats 800000 in
theorem add_lt (xs xs' : List Nat) (a a' : Option Addr) (n n' c c' : Nat) (e e' : Int) (neg : Bool) (w : World) (hn : 0 < n) (hn' : 0 < n') (hT : Tab w) (hm : IsMag w (.agg #[.slice a n c, .int .i64 e]) xs e) (hm' : IsMag w (.agg #[.slice a' n' c', .int .i64 e']) xs' e') (hb : MagBd xs e) (hb' : MagBd xs' e') (hlt : magVal xs e < magVal xs' e') :
    Calls Tryd.prog 25 #[.agg #[.slice a n c, .int .i64 e, .bool neg, .bool false], .agg #[.slice a' n' c', .int .i64 e', .bool (!neg), .bool false]] w (Gives w fun w' v => IsNum w' v (mk (sgn (!neg) (magVal xs' e' - magVal xs e)))) := by
  have h0 : ((n : Int) == 0) = false := by simp; omega
  have h0' : ((n' : Int) == 0) = false := by simp; omega
  have hng : (neg == !neg) = false := by cases neg <;> rfl
  have HS := Lib.hid (sg_lt hlt)
  have hle := Rat.le_of_lt hlt
  clear hlt
  have HLE := Lib.hid hle; clear hle
  have B0 : Box (((w.alloc (.cells #[.slice a n c, .int .i64 e, .bool neg, .bool false] 29)).alloc (.cells #[.slice a' n' c', .int .i64 e', .bool (!neg), .bool false] 29)).alloc (.cells #[.slice none 0 0, .int .i64 0, .bool false, .bool false] 29)) (w.heap.size) #[.slice a n c, .int .i64 e, .bool neg, .bool false] 29 := (((Box.new w #[.slice a n c, .int .i64 e, .bool neg, .bool false] 29).alloc (.cells #[.slice a' n' c', .int .i64 e', .bool (!neg), .bool false] 29)).alloc (.cells #[.slice none 0 0, .int .i64 0, .bool false, .bool false] 29)); have B1 : Box (((w.alloc (.cells #[.slice a n c, .int .i64 e, .bool neg, .bool false] 29)).alloc (.cells #[.slice a' n' c', .int .i64 e', .bool (!neg), .bool false] 29)).alloc (.cells #[.slice none 0 0, .int .i64 0, .bool false, .bool false] 29)) (w.heap.size + 1) #[.slice a' n' c', .int .i64 e', .bool (!neg), .bool false] 29 := (by have hbx := ((Box.new (w.alloc (.cells #[.slice a n c, .int .i64 e, .bool neg, .bool false] 29)) #[.slice a' n' c', .int .i64 e', .bool (!neg), .bool false] 29).alloc (.cells #[.slice none 0 0, .int .i64 0, .bool false, .bool false] 29)); simpa only [World.size_alloc] using hbx); have B2 : Box (((w.alloc (.cells #[.slice a n c, .int .i64 e, .bool neg, .bool false] 29)).alloc (.cells #[.slice a' n' c', .int .i64 e', .bool (!neg), .bool false] 29)).alloc (.cells #[.slice none 0 0, .int .i64 0, .bool false, .bool false] 29)) (w.heap.size + 1 + 1) #[.slice none 0 0, .int .i64 0, .bool false, .bool false] 29 := (by have hbx := (Box.new ((w.alloc (.cells #[.slice a n c, .int .i64 e, .bool neg, .bool false] 29)).alloc (.cells #[.slice a' n' c', .int .i64 e', .bool (!neg), .bool false] 29)) #[.slice none 0 0, .int .i64 0, .bool false, .bool false] 29); simpa only [World.size_alloc] using hbx); have hx0 : Ext w (((w.alloc (.cells #[.slice a n c, .int .i64 e, .bool neg, .bool false] 29)).alloc (.cells #[.slice a' n' c', .int .i64 e', .bool (!neg), .bool false] 29)).alloc (.cells #[.slice none 0 0, .int .i64 0, .bool false, .bool false] 29)) := ((((Ext.refl w).alloc (.cells #[.slice a n c, .int .i64 e, .bool neg, .bool false] 29)).alloc (.cells #[.slice a' n' c', .int .i64 e', .bool (!neg), .bool false] 29)).alloc (.cells #[.slice none 0 0, .int .i64 0, .bool false, .bool false] 29))
  go_enter Tryd.func25, Tryd.ntmps25
  go_wp2_with fail
  refine (cmp_any _ (hm.ext hx0) (hm'.ext hx0) hb hb').mono ?_
  rintro ed w1 ⟨hed, hx1⟩
  rw [HS.out] at hed
  subst hed
  replace B0 := B0.ext hx1
  replace B1 := B1.ext hx1
  replace B2 := B2.ext hx1
  replace hx0 := hx0.trans hx1
  clear hx1
  go_wp2
  refine wp_steady_tail 9 8 64 (by kernel_rfl) (by as_aux_lemma => kernel_rfl) rfl rfl ?_
  simp only [List.take_succ_cons, List.take_zero, List.drop_succ_cons, List.drop_zero, List.map_cons, List.map_nil]
  refine walk_q [(3, none)] (by kernel_rfl) rfl ?_
  apply Exists.intro
  refine ⟨fun b w' hx hs => ?_, ?_⟩
  · obtain ⟨h0, -⟩ := hs
    change _ = _ at h0
    rw [eval_tmp] at h0
    go_simp
    try go_ints
    rfl
  refine walk_q [(48, some 0)] (by kernel_rfl) rfl ?_
  apply Exists.intro
  refine ⟨fun b w' hx hs => ?_, ?_⟩
  · obtain ⟨h0, -⟩ := hs
    change _ = _ at h0
    rw [eval_tmp] at h0
    have hx_B0 := B0.ext hx
    have kB0_0 := hx_B0.cell 0 rfl
    have kB0_1 := hx_B0.cell 1 rfl
    have kB0_2 := hx_B0.cell 2 rfl
    have kB0_3 := hx_B0.cell 3 rfl
    have hx_B1 := B1.ext hx
    have kB1_0 := hx_B1.cell 0 rfl
    have kB1_1 := hx_B1.cell 1 rfl
    have kB1_2 := hx_B1.cell 2 rfl
    have kB1_3 := hx_B1.cell 3 rfl
    go_simp
    try go_ints
    rfl
  refine walk_q [(2, none)] (by kernel_rfl) rfl ?_
  apply Exists.intro
  refine ⟨fun b w' hx hs => ?_, ?_⟩
  · obtain ⟨h0, -⟩ := hs
    change _ = _ at h0
    rw [eval_tmp] at h0
    go_simp
    try go_ints
    rfl
  refine walk_q [(50, some 0)] (by kernel_rfl) rfl ?_
  apply Exists.intro
  refine ⟨fun b w' hx hs => ?_, ?_⟩
  · obtain ⟨h0, -⟩ := hs
    change _ = _ at h0
    rw [eval_tmp] at h0
    have hx_B0 := B0.ext hx
    have kB0_0 := hx_B0.cell 0 rfl
    have kB0_1 := hx_B0.cell 1 rfl
    have kB0_2 := hx_B0.cell 2 rfl
    have kB0_3 := hx_B0.cell 3 rfl
    have hx_B1 := B1.ext hx
    have kB1_0 := hx_B1.cell 0 rfl
    have kB1_1 := hx_B1.cell 1 rfl
    have kB1_2 := hx_B1.cell 2 rfl
    have kB1_3 := hx_B1.cell 3 rfl
    go_simp
    try go_ints
    rfl
  refine walk_c [(49, some 2), (51, some 0)] (by kernel_rfl) rfl (fun w' v => MagOf w' v (magVal xs' e' - magVal xs e)) (fun _ _ _ x h => by first | exact h | exact h.ext x) (fun b w' hx hs => ?_) ?_
  · as_aux_lemma =>
      obtain ⟨h0, h1, -⟩ := hs
      change _ = _ at h0
      change _ = _ at h1
      rw [eval_tmp] at h0 h1
      go_simp
      exact upon_enter (less_any _ (hm'.ext (hx0.trans hx)) (hm.ext (hx0.trans hx)) hb' hb HLE.out)
  refine walk_q [(3, none)] (by kernel_rfl) rfl ?_
  apply Exists.intro
  refine ⟨fun b w' hx hs => ?_, ?_⟩
  · obtain ⟨h0, -⟩ := hs
    change _ = _ at h0
    rw [eval_tmp] at h0
    go_simp
    try go_ints
    rfl
  refine walk_q [(53, some 0)] (by kernel_rfl) rfl ?_
  apply Exists.intro
  refine ⟨fun b w' hx hs => ?_, ?_⟩
  · obtain ⟨h0, -⟩ := hs
    change _ = _ at h0
    rw [eval_tmp] at h0
    have hx_B0 := B0.ext hx
    have kB0_0 := hx_B0.cell 0 rfl
    have kB0_1 := hx_B0.cell 1 rfl
    have kB0_2 := hx_B0.cell 2 rfl
    have kB0_3 := hx_B0.cell 3 rfl
    have hx_B1 := B1.ext hx
    have kB1_0 := hx_B1.cell 0 rfl
    have kB1_1 := hx_B1.cell 1 rfl
    have kB1_2 := hx_B1.cell 2 rfl
    have kB1_3 := hx_B1.cell 3 rfl
    go_simp
    try go_ints
    rfl
  refine walk_c [(52, some 2), (54, some 0)] (by kernel_rfl) rfl (fun w' v => IsNum w' v (mk (sgn (!neg) (magVal xs' e' - magVal xs e)))) (fun _ _ _ x h => by first | exact h | exact h.ext x) (fun b w' hx hs => ?_) ?_
  · as_aux_lemma =>
      obtain ⟨h0, h1, -⟩ := hs
      change _ = _ at h1
      rw [eval_tmp] at h0 h1
      go_simp
      exact upon_enter (made_of (!neg) _ (hT.ext (hx0.trans hx)) (by rw [← eval_tmp] at *; exact h0))
  refine walk_end ?_
  intro w3 hx3
  intro v55 hv55
  rintro _ rfl
  rintro _ rfl
  intro v52 hv52
  rintro _ rfl
  rintro _ rfl
  rintro _ rfl
  rintro _ rfl
  unfold fin
  simp only [Act.put, List.setIfInBounds_toArray, List.set_cons_succ, List.set_cons_zero]
  obtain ⟨a4, n4, c4, e4, neg4, non4, rfl, -⟩ := hv55.shape
  replace B2 := B2.ext hx3
  have hx3' := hx0.trans hx3
  clear hx3
  have hstore := hv55.store B2 a4 n4 c4 e4 neg4 non4
  have HST := Lib.hid hstore; clear hstore
  have B2_c0 := B2.cell 0 rfl; have B2_c1 := B2.cell 1 rfl; have B2_c2 := B2.cell 2 rfl; have B2_c3 := B2.cell 3 rfl; have B2_f0 := B2.free 0; have B2_f1 := B2.free 1; have B2_f2 := B2.free 2; have B2_f3 := B2.free 3; have B2_lt := B2.lt
  go_wp2
  refine bodyPost_ret (v := .agg #[.slice a4 n4 c4, .int .i64 e4, .bool neg4, .bool non4]) (by simp [results, Tryd.results25, go_sem, B2_c0, B2_c1, B2_c2, B2_c3]) rfl ?_
  exact Gives.mk _ (by (with_reducible (repeat (first | exact Ext.refl _ | exact hx3' | refine Ext.drewN ?_ _ | refine Ext.drew ?_ | refine Ext.alloc ?_ _ | refine Ext.setCell ?_ (by first | (dsimp only; omega) | simp | (simp; omega)) _)))) HST.out

set_option maxHeartbeats 800000 in
theorem add_ge (xs xs' : List Nat) (a a' : Option Addr) (n n' c c' : Nat) (e e' : Int) (neg : Bool) (w : World) (hn : 0 < n) (hn' : 0 < n') (hT : Tab w) (hm : IsMag w (.agg #[.slice a n c, .int .i64 e]) xs e) (hm' : IsMag w (.agg #[.slice a' n' c', .int .i64 e']) xs' e') (hb : MagBd xs e) (hb' : MagBd xs' e') (hle : magVal xs' e' ≤ magVal xs e) :
    Calls Tryd.prog 25 #[.agg #[.slice a n c, .int .i64 e, .bool neg, .bool false], .agg #[.slice a' n' c', .int .i64 e', .bool (!neg), .bool false]] w (Gives w fun w' v => IsNum w' v (mk (sgn neg (magVal xs e - magVal xs' e')))) := by
  have h0 : ((n : Int) == 0) = false := by simp; omega
  have h0' : ((n' : Int) == 0) = false := by simp; omega
  have hng : (neg == !neg) = false := by cases neg <;> rfl
  obtain ⟨s, hs, hs0⟩ : ∃ s : Int, sg (magVal xs e - magVal xs' e') = s ∧ 0 ≤ s := sg_ge hle
  have HS := Lib.hid hs
  have hs1 : ¬ s < 0 := by omega
  clear hs
  have HLE := Lib.hid hle; clear hle
  have B0 : Box (((w.alloc (.cells #[.slice a n c, .int .i64 e, .bool neg, .bool false] 29)).alloc (.cells #[.slice a' n' c', .int .i64 e', .bool (!neg), .bool false] 29)).alloc (.cells #[.slice none 0 0, .int .i64 0, .bool false, .bool false] 29)) (w.heap.size) #[.slice a n c, .int .i64 e, .bool neg, .bool false] 29 := (((Box.new w #[.slice a n c, .int .i64 e, .bool neg, .bool false] 29).alloc (.cells #[.slice a' n' c', .int .i64 e', .bool (!neg), .bool false] 29)).alloc (.cells #[.slice none 0 0, .int .i64 0, .bool false, .bool false] 29)); have B1 : Box (((w.alloc (.cells #[.slice a n c, .int .i64 e, .bool neg, .bool false] 29)).alloc (.cells #[.slice a' n' c', .int .i64 e', .bool (!neg), .bool false] 29)).alloc (.cells #[.slice none 0 0, .int .i64 0, .bool false, .bool false] 29)) (w.heap.size + 1) #[.slice a' n' c', .int .i64 e', .bool (!neg), .bool false] 29 := (by have hbx := ((Box.new (w.alloc (.cells #[.slice a n c, .int .i64 e, .bool neg, .bool false] 29)) #[.slice a' n' c', .int .i64 e', .bool (!neg), .bool false] 29).alloc (.cells #[.slice none 0 0, .int .i64 0, .bool false, .bool false] 29)); simpa only [World.size_alloc] using hbx); have B2 : Box (((w.alloc (.cells #[.slice a n c, .int .i64 e, .bool neg, .bool false] 29)).alloc (.cells #[.slice a' n' c', .int .i64 e', .bool (!neg), .bool false] 29)).alloc (.cells #[.slice none 0 0, .int .i64 0, .bool false, .bool false] 29)) (w.heap.size + 1 + 1) #[.slice none 0 0, .int .i64 0, .bool false, .bool false] 29 := (by have hbx := (Box.new ((w.alloc (.cells #[.slice a n c, .int .i64 e, .bool neg, .bool false] 29)).alloc (.cells #[.slice a' n' c', .int .i64 e', .bool (!neg), .bool false] 29)) #[.slice none 0 0, .int .i64 0, .bool false, .bool false] 29); simpa only [World.size_alloc] using hbx); have hx0 : Ext w (((w.alloc (.cells #[.slice a n c, .int .i64 e, .bool neg, .bool false] 29)).alloc (.cells #[.slice a' n' c', .int .i64 e', .bool (!neg), .bool false] 29)).alloc (.cells #[.slice none 0 0, .int .i64 0, .bool false, .bool false] 29)) := ((((Ext.refl w).alloc (.cells #[.slice a n c, .int .i64 e, .bool neg, .bool false] 29)).alloc (.cells #[.slice a' n' c', .int .i64 e', .bool (!neg), .bool false] 29)).alloc (.cells #[.slice none 0 0, .int .i64 0, .bool false, .bool false] 29))
  go_enter Tryd.func25, Tryd.ntmps25
  go_wp2_with fail
  refine (cmp_any _ (hm.ext hx0) (hm'.ext hx0) hb hb').mono ?_
  rintro ed w1 ⟨hed, hx1⟩
  rw [HS.out] at hed
  subst hed
  replace B0 := B0.ext hx1
  replace B1 := B1.ext hx1
  replace B2 := B2.ext hx1
  replace hx0 := hx0.trans hx1
  clear hx1
  go_wp2
  refine wp_steady_tail 9 8 64 (by kernel_rfl) (by as_aux_lemma => kernel_rfl) rfl rfl ?_
  simp only [List.take_succ_cons, List.take_zero, List.drop_succ_cons, List.drop_zero, List.map_cons, List.map_nil]
  refine walk_q [(2, none)] (by kernel_rfl) rfl ?_
  apply Exists.intro
  refine ⟨fun b w' hx hs => ?_, ?_⟩
  · obtain ⟨h0, -⟩ := hs
    change _ = _ at h0
    rw [eval_tmp] at h0
    go_simp
    try go_ints
    rfl
  refine walk_q [(56, some 0)] (by kernel_rfl) rfl ?_
  apply Exists.intro
  refine ⟨fun b w' hx hs => ?_, ?_⟩
  · obtain ⟨h0, -⟩ := hs
    change _ = _ at h0
    rw [eval_tmp] at h0
    have hx_B0 := B0.ext hx
    have kB0_0 := hx_B0.cell 0 rfl
    have kB0_1 := hx_B0.cell 1 rfl
    have kB0_2 := hx_B0.cell 2 rfl
    have kB0_3 := hx_B0.cell 3 rfl
    have hx_B1 := B1.ext hx
    have kB1_0 := hx_B1.cell 0 rfl
    have kB1_1 := hx_B1.cell 1 rfl
    have kB1_2 := hx_B1.cell 2 rfl
    have kB1_3 := hx_B1.cell 3 rfl
    go_simp
    try go_ints
    rfl
  refine walk_q [(3, none)] (by kernel_rfl) rfl ?_
  apply Exists.intro
  refine ⟨fun b w' hx hs => ?_, ?_⟩
  · obtain ⟨h0, -⟩ := hs
    change _ = _ at h0
    rw [eval_tmp] at h0
    go_simp
    try go_ints
    rfl
  refine walk_q [(58, some 0)] (by kernel_rfl) rfl ?_
  apply Exists.intro
  refine ⟨fun b w' hx hs => ?_, ?_⟩
  · obtain ⟨h0, -⟩ := hs
    change _ = _ at h0
    rw [eval_tmp] at h0
    have hx_B0 := B0.ext hx
    have kB0_0 := hx_B0.cell 0 rfl
    have kB0_1 := hx_B0.cell 1 rfl
    have kB0_2 := hx_B0.cell 2 rfl
    have kB0_3 := hx_B0.cell 3 rfl
    have hx_B1 := B1.ext hx
    have kB1_0 := hx_B1.cell 0 rfl
    have kB1_1 := hx_B1.cell 1 rfl
    have kB1_2 := hx_B1.cell 2 rfl
    have kB1_3 := hx_B1.cell 3 rfl
    go_simp
    try go_ints
    rfl
  refine walk_c [(57, some 2), (59, some 0)] (by kernel_rfl) rfl (fun w' v => MagOf w' v (magVal xs e - magVal xs' e')) (fun _ _ _ x h => by first | exact h | exact h.ext x) (fun b w' hx hs => ?_) ?_
  · as_aux_lemma =>
      obtain ⟨h0, h1, -⟩ := hs
      change _ = _ at h0
      change _ = _ at h1
      rw [eval_tmp] at h0 h1
      go_simp
      exact upon_enter (less_any _ (hm.ext (hx0.trans hx)) (hm'.ext (hx0.trans hx)) hb hb' HLE.out)
  refine walk_q [(2, none)] (by kernel_rfl) rfl ?_
  apply Exists.intro
  refine ⟨fun b w' hx hs => ?_, ?_⟩
  · obtain ⟨h0, -⟩ := hs
    change _ = _ at h0
    rw [eval_tmp] at h0
    go_simp
    try go_ints
    rfl
  refine walk_q [(61, some 0)] (by kernel_rfl) rfl ?_
  apply Exists.intro
  refine ⟨fun b w' hx hs => ?_, ?_⟩
  · obtain ⟨h0, -⟩ := hs
    change _ = _ at h0
    rw [eval_tmp] at h0
    have hx_B0 := B0.ext hx
    have kB0_0 := hx_B0.cell 0 rfl
    have kB0_1 := hx_B0.cell 1 rfl
    have kB0_2 := hx_B0.cell 2 rfl
    have kB0_3 := hx_B0.cell 3 rfl
    have hx_B1 := B1.ext hx
    have kB1_0 := hx_B1.cell 0 rfl
    have kB1_1 := hx_B1.cell 1 rfl
    have kB1_2 := hx_B1.cell 2 rfl
    have kB1_3 := hx_B1.cell 3 rfl
    go_simp
    try go_ints
    rfl
  refine walk_c [(60, some 2), (62, some 0)] (by kernel_rfl) rfl (fun w' v => IsNum w' v (mk (sgn neg (magVal xs e - magVal xs' e')))) (fun _ _ _ x h => by first | exact h | exact h.ext x) (fun b w' hx hs => ?_) ?_
  · as_aux_lemma =>
      obtain ⟨h0, h1, -⟩ := hs
      change _ = _ at h1
      rw [eval_tmp] at h0 h1
      go_simp
      exact upon_enter (made_of neg _ (hT.ext (hx0.trans hx)) (by rw [← eval_tmp] at *; exact h0))
  refine walk_end ?_
  intro w3 hx3
  intro v63 hv63
  rintro _ rfl
  rintro _ rfl
  intro v60 hv60
  rintro _ rfl
  rintro _ rfl
  rintro _ rfl
  rintro _ rfl
  unfold fin
  simp only [Act.put, List.setIfInBounds_toArray, List.set_cons_succ, List.set_cons_zero]
  obtain ⟨a4, n4, c4, e4, neg4, non4, rfl, -⟩ := hv63.shape
  replace B2 := B2.ext hx3
  have hx3' := hx0.trans hx3
  clear hx3
  have hstore := hv63.store B2 a4 n4 c4 e4 neg4 non4
  have HST := Lib.hid hstore; clear hstore
  have B2_c0 := B2.cell 0 rfl; have B2_c1 := B2.cell 1 rfl; have B2_c2 := B2.cell 2 rfl; have B2_c3 := B2.cell 3 rfl; have B2_f0 := B2.free 0; have B2_f1 := B2.free 1; have B2_f2 := B2.free 2; have B2_f3 := B2.free 3; have B2_lt := B2.lt
  go_wp2
  refine bodyPost_ret (v := .agg #[.slice a4 n4 c4, .int .i64 e4, .bool neg4, .bool non4]) (by simp [results, Tryd.results25, go_sem, B2_c0, B2_c1, B2_c2, B2_c3]) rfl ?_
  exact Gives.mk _ (by (with_reducible (repeat (first | exact Ext.refl _ | exact hx3' | refine Ext.drewN ?_ _ | refine Ext.drew ?_ | refine Ext.alloc ?_ _ | refine Ext.setCell ?_ (by first | (dsimp only; omega) | simp | (simp; omega)) _)))) HST.out

noncomputable def addO : Option Rat → Option Rat → Option Rat
  | some x, some y => mk (x + y)
  | _, _ => none
theorem IsNum.fits {w : World} {v : Value} {q : Rat} (h : IsNum w v (some q)) : Fits q := by
  obtain ⟨xs, e, neg, s, -, hc, hlt, hok, rfl⟩ := h
  rcases hok with ⟨rfl, rfl, rfl⟩ | ⟨h0, hf, hl, h1, h2⟩
  · rw [magVal_nil, sgn_zero]; exact fits_zero
  · exact fits_sgn.2 ((fits_mag hlt h0 hl hf).2 ⟨h1, h2⟩)
theorem NumOk.bd {xs : List Nat} {e : Int} {neg : Bool} (h : NumOk xs e neg) (hlt : AllLt 4294967296 xs) : MagBd xs e := by
  rcases h with ⟨rfl, rfl, _⟩ | ⟨h0, hf, hl, h1, h2⟩
  · exact ⟨by simp, by omega, by omega⟩
  · have hb : Lib.bitLen (xs.getD (xs.length - 1) 0) ≤ 32 := Lib.bitLen_le _ 32 (by decide) (hlt.getD (by omega) _)
    have hct := (Lib.lowest_bit 32 (xs.getD 0 0) hf (hlt.getD (by omega) _)).2
    unfold hiBit at h1
    unfold loBit at h2
    refine ⟨?_, ?_, ?_⟩ <;> omega
theorem NumOk.pos {xs : List Nat} {e : Int} {neg : Bool} (h : NumOk xs e neg) : (xs = [] ∧ magVal xs e = 0) ∨ 0 < xs.length := by
  rcases h with ⟨rfl, rfl, _⟩ | ⟨h0, _⟩
  · exact .inl ⟨rfl, magVal_nil _⟩
  · exact .inr h0

/-- Num.Add. -/
theorem add_any {v v' : Value} {q q' : Option Rat} (w : World) (hT : Tab w) (h : IsNum w v q) (h' : IsNum w v' q') :
    Calls Tryd.prog 25 #[v, v'] w (Gives w fun w' r => IsNum w' r (addO q q')) := by
  cases q with
  | none =>
    subst h
    obtain ⟨a, n, c, e, neg, non, rfl, -⟩ := h'.shape
    exact add_none _ _ _ _ _ _ _ _ _ _ _ _ w rfl
  | some q =>
    cases q' with
    | none =>
      subst h'
      obtain ⟨a, n, c, e, neg, non, rfl, -⟩ := h.shape
      exact add_none _ _ _ _ _ _ _ _ _ _ _ _ w (by simp)
    | some q' =>
      have hf := h.fits
      have hf' := h'.fits
      have hk' := h'
      have hk := h
      obtain ⟨xs, e, neg, s, rfl, hc, hlt, hok, rfl⟩ := h
      obtain ⟨xs', e', neg', s', rfl, hc', hlt', hok', rfl⟩ := h'
      have hb := hok.bd hlt
      have hb' := hok'.bd hlt'
      have hm : IsMag w (.agg #[s, .int .i64 e]) xs e := ⟨⟨s, rfl, hc⟩, hlt⟩
      have hm' : IsMag w (.agg #[s', .int .i64 e']) xs' e' := ⟨⟨s', rfl, hc'⟩, hlt'⟩
      obtain ⟨a, c, rfl, -⟩ := hc
      obtain ⟨a', c', rfl, -⟩ := hc'
      simp only [u32s_length] at hm hm' hk hk' ⊢
      rcases hok.pos with ⟨rfl, h0⟩ | h0
      · refine (add_left0 _ _ _ _ _ _ _ _ _ w).mono fun ed w' ⟨he, hx⟩ => ⟨_, he, hx, ?_⟩
        have : addO (some (sgn neg (magVal [] e))) (some (sgn neg' (magVal xs' e'))) = some (sgn neg' (magVal xs' e')) := by
          show mk _ = _
          rw [h0, sgn_zero, Rat.zero_add, mk_fits hf']
        rw [this]; exact hk'.ext hx
      · rcases hok'.pos with ⟨rfl, h0'⟩ | h0'
        · refine (add_right0 _ _ _ _ _ _ _ _ _ w h0).mono fun ed w' ⟨he, hx⟩ => ⟨_, he, hx, ?_⟩
          have : addO (some (sgn neg (magVal xs e))) (some (sgn neg' (magVal [] e'))) = some (sgn neg (magVal xs e)) := by
            show mk _ = _
            rw [h0', sgn_zero, Rat.add_zero, mk_fits hf]
          rw [this]; exact hk.ext hx
        · show Calls _ _ _ _ (Gives w fun w' r => IsNum w' r (mk (sgn neg (magVal xs e) + sgn neg' (magVal xs' e'))))
          by_cases hn : neg' = neg
          · subst hn
            have : sgn neg' (magVal xs e) + sgn neg' (magVal xs' e') = sgn neg' (magVal xs e + magVal xs' e') := by
              unfold sgn; cases neg' <;> simp <;> grind
            rw [this]
            exact add_same xs xs' _ _ _ _ _ _ e e' neg' w h0 h0' hT hm hm' hb hb'
          · have hn' : neg' = !neg := by cases neg <;> cases neg' <;> simp_all
            subst hn'
            by_cases hlt : magVal xs e < magVal xs' e'
            · have : sgn neg (magVal xs e) + sgn (!neg) (magVal xs' e') = sgn (!neg) (magVal xs' e' - magVal xs e) := by
                unfold sgn; cases neg <;> simp <;> grind
              rw [this]
              exact add_lt xs xs' _ _ _ _ _ _ e e' neg w h0 h0' hT hm hm' hb hb' hlt
            · have : sgn neg (magVal xs e) + sgn (!neg) (magVal xs' e') = sgn neg (magVal xs e - magVal xs' e') := by
                unfold sgn; cases neg <;> simp <;> grind
              rw [this]
              exact add_ge xs xs' _ _ _ _ _ _ e e' neg w h0 h0' hT hm hm' hb hb' (Rat.not_lt.1 hlt)
end Go.Proofs.YthnmjkjllhlcjaaDoor
