/- The walks of whole.mag.word and whole.ends; under bounds on lengths and exponents. -/
import Derived.Test.YthnmjkjllhlcjaaDoorOfW
import Derived.Test.YthnmjkjllhlcjaaDoorSums
import Derived.BigRegion
namespace Go.Proofs.YthnmjkjllhlcjaaDoor
open Go Go.RowKit Go.Steady Go.Tri
set_option maxRecDepth 100000


theorem word_low (a : Option Addr) (n c : Nat) (e i : Int) (w : World) (h : i < e) :
    Calls Tryd.prog 141 #[.agg #[.slice a n c, .int .i64 e], .int .i64 i] w fun ed w' => ed = .returned (.int .u32 0) ∧ Ext w w' := by
  go_enter Tryd.func141, Tryd.ntmps141
  go_wp2
  go_ret
  exact ⟨rfl, by (with_reducible (repeat (first | exact Ext.refl _ | refine Ext.drewN ?_ _ | refine Ext.drew ?_ | refine Ext.alloc ?_ _ | refine Ext.setCell ?_ (by first | (dsimp only; omega) | simp | (simp; omega)) _)))⟩
theorem word_high (a : Option Addr) (n c : Nat) (e i : Int) (w : World) (hn : n ≤ 1125899906842624) (he : -1125899906842624 ≤ e) (he' : e ≤ 1125899906842624) (h : e + n ≤ i) :
    Calls Tryd.prog 141 #[.agg #[.slice a n c, .int .i64 e], .int .i64 i] w fun ed w' => ed = .returned (.int .u32 0) ∧ Ext w w' := by
  have h1 : ¬ i < e := by omega
  go_enter Tryd.func141, Tryd.ntmps141
  go_wp2
  go_ret
  exact ⟨rfl, by (with_reducible (repeat (first | exact Ext.refl _ | refine Ext.drewN ?_ _ | refine Ext.drew ?_ | refine Ext.alloc ?_ _ | refine Ext.setCell ?_ (by first | (dsimp only; omega) | simp | (simp; omega)) _)))⟩
theorem word_mid (b o n c k x : Nat) (e : Int) (w : World) (hn : n ≤ 1125899906842624) (he : -1125899906842624 ≤ e) (he' : e ≤ 1125899906842624) (h : k < n) (hc : w.cell? ⟨b, o + k, none⟩ = some (.int .u32 x)) :
    Calls Tryd.prog 141 #[.agg #[.slice (some ⟨b, o, none⟩) n c, .int .i64 e], .int .i64 (e + k)] w fun ed w' => ed = .returned (.int .u32 x) ∧ Ext w w' := by
  have h1 : ¬ e + (k : Int) < e := by omega
  have h2 : e + (k : Int) < e + n := by omega
  have hb := World.block_lt_of_cell? w _ hc
  have hc' : (w.alloc (.cells #[.slice (some ⟨b, o, none⟩) n c, .int .i64 e] 27)).cell? ⟨b, o + k, none⟩ = some (.int .u32 x) := by
    rw [World.cell?_alloc_past _ _ _ hb]; exact hc
  have hs : e + (k : Int) - e = k := by omega
  go_enter Tryd.func141, Tryd.ntmps141
  go_wp2
  go_ret
  exact ⟨rfl, by (with_reducible (repeat (first | exact Ext.refl _ | refine Ext.drewN ?_ _ | refine Ext.drew ?_ | refine Ext.alloc ?_ _ | refine Ext.setCell ?_ (by first | (dsimp only; omega) | simp | (simp; omega)) _)))⟩

/-- mag.word. -/
theorem word_any {v : Value} {xs : List Nat} {e : Int} (i : Int) (w : World) (h : IsMag w v xs e) (hn : xs.length ≤ 1099511627776) (he : -1099511627776 ≤ e) (he' : e ≤ 1099511627776) :
    Calls Tryd.prog 141 #[v, .int .i64 i] w fun ed w' => ed = .returned (.int .u32 (wordAt xs e i : Nat)) ∧ Ext w w' := by
  obtain ⟨⟨s, rfl, hs⟩, hlt⟩ := h
  unfold wordAt
  by_cases h1 : i < e
  · rw [if_pos h1]
    obtain ⟨a, c, rfl, -⟩ := hs
    exact word_low _ _ _ _ _ _ h1
  · rw [if_neg h1]
    by_cases h2 : e + xs.length ≤ i
    · rw [List.getD_eq_getElem?_getD, List.getElem?_eq_none (by omega)]
      obtain ⟨a, c, rfl, -⟩ := hs
      rw [u32s_length]
      exact word_high _ _ _ _ _ _ (by omega) (by omega) (by omega) h2
    · obtain ⟨b, o, c, rfl, hlc, hcc, hc⟩ := hs.open_u32 (by omega)
      obtain ⟨k, hk⟩ := Int.le.dest (show e ≤ i by omega)
      subst hk
      rw [show (e + (k : Int) - e).toNat = k by omega]
      exact word_mid b o xs.length c k _ e w (by omega) (by omega) (by omega) (by omega) (hc k (by omega))

theorem ends_core (a a' : Option Addr) (n c n' c' : Nat) (e e' : Int) (w : World) (hn : n ≤ 1125899906842624) (hn' : n' ≤ 1125899906842624) (he : -1125899906842624 ≤ e) (he1 : e ≤ 1125899906842624) (he' : -1125899906842624 ≤ e') (he1' : e' ≤ 1125899906842624) :
    Calls Tryd.prog 140 #[.agg #[.slice a n c, .int .i64 e], .agg #[.slice a' n' c', .int .i64 e']] w fun ed w' => ed = .returned (.tuple #[.int .i64 (min e e'), .int .i64 (max (e + n) (e' + n'))]) ∧ Ext w w' := by
  have B0 : Box ((w.alloc (.cells #[.slice a n c, .int .i64 e] 27)).alloc (.cells #[.slice a' n' c', .int .i64 e'] 27)) w.heap.size #[.slice a n c, .int .i64 e] 27 := (Box.new w _ _).alloc _
  have B1 : Box ((w.alloc (.cells #[.slice a n c, .int .i64 e] 27)).alloc (.cells #[.slice a' n' c', .int .i64 e'] 27)) (w.heap.size + 1) #[.slice a' n' c', .int .i64 e'] 27 := by simpa using Box.new (w.alloc (.cells #[.slice a n c, .int .i64 e] 27)) #[.slice a' n' c', .int .i64 e'] 27
  go_enter Tryd.func140, Tryd.ntmps140
  go_wp2
  refine wp_steady 3 24 (by kernel_rfl) (by as_aux_lemma => kernel_rfl) rfl ?_
  refine walk_q [(2, none)] (by kernel_rfl) rfl ?_
  apply Exists.intro
  refine ⟨fun b w' hx hs => ?_, ?_⟩
  · obtain ⟨h0, -⟩ := hs
    change _ = _ at h0
    rw [eval_tmp] at h0
    go_simp
    try go_ints
    rfl
  refine walk_q [(6, some 0)] (by kernel_rfl) rfl ?_
  apply Exists.intro
  refine ⟨fun b w' hx hs => ?_, ?_⟩
  · obtain ⟨h0, -⟩ := hs
    change _ = _ at h0
    rw [eval_tmp] at h0
    have hx_B0 := B0.ext hx
    have kB0_0 := hx_B0.cell 0 rfl
    have kB0_1 := hx_B0.cell 1 rfl
    have hx_B1 := B1.ext hx
    have kB1_0 := hx_B1.cell 0 rfl
    have kB1_1 := hx_B1.cell 1 rfl
    go_simp
    try go_ints
    rfl
  refine walk_q [(3, none)] (by kernel_rfl) rfl ?_
  apply Exists.intro
  refine ⟨fun b w' hx hs => ?_, ?_⟩
  · obtain ⟨h0, -⟩ := hs
    change _ = _ at h0
    rw [eval_tmp] at h0
    go_simp
    try go_ints
    rfl
  refine walk_q [(8, some 0)] (by kernel_rfl) rfl ?_
  apply Exists.intro
  refine ⟨fun b w' hx hs => ?_, ?_⟩
  · obtain ⟨h0, -⟩ := hs
    change _ = _ at h0
    rw [eval_tmp] at h0
    have hx_B0 := B0.ext hx
    have kB0_0 := hx_B0.cell 0 rfl
    have kB0_1 := hx_B0.cell 1 rfl
    have hx_B1 := B1.ext hx
    have kB1_0 := hx_B1.cell 0 rfl
    have kB1_1 := hx_B1.cell 1 rfl
    go_simp
    try go_ints
    rfl
  refine walk_q [(7, some 2), (9, some 0)] (by kernel_rfl) rfl ?_
  apply Exists.intro
  refine ⟨fun b w' hx hs => ?_, ?_⟩
  · obtain ⟨h0, h1, -⟩ := hs
    change _ = _ at h0
    change _ = _ at h1
    rw [eval_tmp] at h0 h1
    go_simp
    try go_ints
    rfl
  refine walk_q [(2, none)] (by kernel_rfl) rfl ?_
  apply Exists.intro
  refine ⟨fun b w' hx hs => ?_, ?_⟩
  · obtain ⟨h0, -⟩ := hs
    change _ = _ at h0
    rw [eval_tmp] at h0
    go_simp
    try go_ints
    rfl
  refine walk_q [(11, some 0)] (by kernel_rfl) rfl ?_
  apply Exists.intro
  refine ⟨fun b w' hx hs => ?_, ?_⟩
  · obtain ⟨h0, -⟩ := hs
    change _ = _ at h0
    rw [eval_tmp] at h0
    have hx_B0 := B0.ext hx
    have kB0_0 := hx_B0.cell 0 rfl
    have kB0_1 := hx_B0.cell 1 rfl
    have hx_B1 := B1.ext hx
    have kB1_0 := hx_B1.cell 0 rfl
    have kB1_1 := hx_B1.cell 1 rfl
    go_simp
    try go_ints
    rfl
  refine walk_q [(2, none)] (by kernel_rfl) rfl ?_
  apply Exists.intro
  refine ⟨fun b w' hx hs => ?_, ?_⟩
  · obtain ⟨h0, -⟩ := hs
    change _ = _ at h0
    rw [eval_tmp] at h0
    go_simp
    try go_ints
    rfl
  refine walk_q [(13, some 0)] (by kernel_rfl) rfl ?_
  apply Exists.intro
  refine ⟨fun b w' hx hs => ?_, ?_⟩
  · obtain ⟨h0, -⟩ := hs
    change _ = _ at h0
    rw [eval_tmp] at h0
    have hx_B0 := B0.ext hx
    have kB0_0 := hx_B0.cell 0 rfl
    have kB0_1 := hx_B0.cell 1 rfl
    have hx_B1 := B1.ext hx
    have kB1_0 := hx_B1.cell 0 rfl
    have kB1_1 := hx_B1.cell 1 rfl
    go_simp
    try go_ints
    rfl
  refine walk_q [(14, some 0)] (by kernel_rfl) rfl ?_
  apply Exists.intro
  refine ⟨fun b w' hx hs => ?_, ?_⟩
  · obtain ⟨h0, -⟩ := hs
    change _ = _ at h0
    rw [eval_tmp] at h0
    go_simp
    try go_ints
    rfl
  refine walk_q [(12, some 3), (15, some 0)] (by kernel_rfl) rfl ?_
  apply Exists.intro
  refine ⟨fun b w' hx hs => ?_, ?_⟩
  · obtain ⟨h0, h1, -⟩ := hs
    change _ = _ at h0
    change _ = _ at h1
    rw [eval_tmp] at h0 h1
    go_simp
    try go_ints
    rfl
  refine walk_q [(3, none)] (by kernel_rfl) rfl ?_
  apply Exists.intro
  refine ⟨fun b w' hx hs => ?_, ?_⟩
  · obtain ⟨h0, -⟩ := hs
    change _ = _ at h0
    rw [eval_tmp] at h0
    go_simp
    try go_ints
    rfl
  refine walk_q [(17, some 0)] (by kernel_rfl) rfl ?_
  apply Exists.intro
  refine ⟨fun b w' hx hs => ?_, ?_⟩
  · obtain ⟨h0, -⟩ := hs
    change _ = _ at h0
    rw [eval_tmp] at h0
    have hx_B0 := B0.ext hx
    have kB0_0 := hx_B0.cell 0 rfl
    have kB0_1 := hx_B0.cell 1 rfl
    have hx_B1 := B1.ext hx
    have kB1_0 := hx_B1.cell 0 rfl
    have kB1_1 := hx_B1.cell 1 rfl
    go_simp
    try go_ints
    rfl
  refine walk_q [(3, none)] (by kernel_rfl) rfl ?_
  apply Exists.intro
  refine ⟨fun b w' hx hs => ?_, ?_⟩
  · obtain ⟨h0, -⟩ := hs
    change _ = _ at h0
    rw [eval_tmp] at h0
    go_simp
    try go_ints
    rfl
  refine walk_q [(19, some 0)] (by kernel_rfl) rfl ?_
  apply Exists.intro
  refine ⟨fun b w' hx hs => ?_, ?_⟩
  · obtain ⟨h0, -⟩ := hs
    change _ = _ at h0
    rw [eval_tmp] at h0
    have hx_B0 := B0.ext hx
    have kB0_0 := hx_B0.cell 0 rfl
    have kB0_1 := hx_B0.cell 1 rfl
    have hx_B1 := B1.ext hx
    have kB1_0 := hx_B1.cell 0 rfl
    have kB1_1 := hx_B1.cell 1 rfl
    go_simp
    try go_ints
    rfl
  refine walk_q [(20, some 0)] (by kernel_rfl) rfl ?_
  apply Exists.intro
  refine ⟨fun b w' hx hs => ?_, ?_⟩
  · obtain ⟨h0, -⟩ := hs
    change _ = _ at h0
    rw [eval_tmp] at h0
    go_simp
    try go_ints
    rfl
  refine walk_q [(18, some 3), (21, some 0)] (by kernel_rfl) rfl ?_
  apply Exists.intro
  refine ⟨fun b w' hx hs => ?_, ?_⟩
  · obtain ⟨h0, h1, -⟩ := hs
    change _ = _ at h0
    change _ = _ at h1
    rw [eval_tmp] at h0 h1
    go_simp
    try go_ints
    rfl
  refine walk_q [(16, some 6), (22, some 0)] (by kernel_rfl) rfl ?_
  apply Exists.intro
  refine ⟨fun b w' hx hs => ?_, ?_⟩
  · obtain ⟨h0, h1, -⟩ := hs
    change _ = _ at h0
    change _ = _ at h1
    rw [eval_tmp] at h0 h1
    go_simp
    try go_ints
    rfl
  refine walk_q [(10, some 13)] (by kernel_rfl) rfl ?_
  apply Exists.intro
  refine ⟨fun b w' hx hs => ?_, ?_⟩
  · obtain ⟨h0, -⟩ := hs
    change _ = _ at h0
    rw [eval_tmp] at h0
    go_simp
    try go_ints
    rfl
  refine walk_q [(23, some 1)] (by kernel_rfl) rfl ?_
  apply Exists.intro
  refine ⟨fun b w' hx hs => ?_, ?_⟩
  · obtain ⟨h0, -⟩ := hs
    change _ = _ at h0
    rw [eval_tmp] at h0
    go_simp
    try go_ints
    rfl
  refine walk_end ?_
  intro w1 hx1
  rintro _ rfl
  rintro _ rfl
  rintro _ rfl
  rintro _ rfl
  rintro _ rfl
  rintro _ rfl
  rintro _ rfl
  rintro _ rfl
  rintro _ rfl
  rintro _ rfl
  rintro _ rfl
  rintro _ rfl
  rintro _ rfl
  rintro _ rfl
  rintro _ rfl
  rintro _ rfl
  rintro _ rfl
  rintro _ rfl
  rintro _ rfl
  rintro _ rfl
  unfold fin
  simp only [Act.put, List.setIfInBounds_toArray, List.set_cons_succ, List.set_cons_zero]
  go_wp2
  go_ret2
  exact ⟨rfl, Ext.trans (by (with_reducible (repeat (first | exact Ext.refl _ | refine Ext.drewN ?_ _ | refine Ext.drew ?_ | refine Ext.alloc ?_ _ | refine Ext.setCell ?_ (by first | (dsimp only; omega) | simp | (simp; omega)) _)))) hx1⟩

/-- whole.ends. -/
theorem ends_any {v v' : Value} {xs xs' : List Nat} {e e' : Int} (w : World) (h : IsMag w v xs e) (h' : IsMag w v' xs' e') (hn : xs.length ≤ 1099511627776) (hn' : xs'.length ≤ 1099511627776) (he : -1099511627776 ≤ e) (he1 : e ≤ 1099511627776) (he' : -1099511627776 ≤ e') (he1' : e' ≤ 1099511627776) :
    Calls Tryd.prog 140 #[v, v'] w fun ed w' => ed = .returned (.tuple #[.int .i64 (min e e'), .int .i64 (max (e + xs.length) (e' + xs'.length))]) ∧ Ext w w' := by
  obtain ⟨⟨s, rfl, ⟨a, c, rfl, -⟩⟩, -⟩ := h
  obtain ⟨⟨s', rfl, ⟨a', c', rfl, -⟩⟩, -⟩ := h'
  rw [u32s_length, u32s_length]
  exact ends_core a a' _ c _ c' e e' w (by omega) (by omega) (by omega) (by omega) (by omega) (by omega)
end Go.Proofs.YthnmjkjllhlcjaaDoor
