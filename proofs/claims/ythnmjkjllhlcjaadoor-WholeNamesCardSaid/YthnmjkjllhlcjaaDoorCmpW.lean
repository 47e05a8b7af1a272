/- The walk of whole.cmp; under bounds on lengths and exponents. -/
import Derived.Test.YthnmjkjllhlcjaaDoorLessW
namespace Go.Proofs.YthnmjkjllhlcjaaDoor
open Go Go.RowKit Go.Steady Go.Tri
set_option maxRecDepth 100000

theorem sg_lt {x y : Rat} (h : x < y) : sg (x - y) = -1 := by unfold sg; rw [if_pos (by grind)]
theorem sg_eq {x y : Rat} (h : x = y) : sg (x - y) = 0 := by unfold sg; rw [if_neg (by grind), if_pos (by grind)]
theorem sg_gt {x y : Rat} (h : y < x) : sg (x - y) = 1 := by unfold sg; rw [if_neg (by grind), if_neg (by grind)]
theorem mag_lt_of {xs xs' : List Nat} {e e' fr : Int} {len k : Nat} (hlt : AllLt 4294967296 xs) (h1 : fr ≤ e) (h2 : fr ≤ e') (h3 : e + xs.length ≤ fr + len) (h4 : e' + xs'.length ≤ fr + len)
    (hk : k < len) (hd : wordAt xs e (fr + k) < wordAt xs' e' (fr + k)) (heq : ∀ j : Nat, k < j → j < len → wordAt xs e (fr + j) = wordAt xs' e' (fr + j)) : magVal xs e < magVal xs' e' := by
  rw [← sumTo_mag h1 h3, ← sumTo_mag h2 h4]
  refine Rat.mul_lt_mul_of_pos_right (Rat.natCast_lt_natCast.2 ?_) (p2_pos _)
  exact sumTo_split (f := fun j => wordAt xs e (fr + j)) (fun j => wordAt_lt hlt _ _) hd len hk heq
theorem mag_eq_of {xs xs' : List Nat} {e e' fr : Int} {len : Nat} (h1 : fr ≤ e) (h2 : fr ≤ e') (h3 : e + xs.length ≤ fr + len) (h4 : e' + xs'.length ≤ fr + len)
    (heq : ∀ j : Nat, j < len → wordAt xs e (fr + j) = wordAt xs' e' (fr + j)) : magVal xs e = magVal xs' e' := by
  rw [← sumTo_mag h1 h3, ← sumTo_mag h2 h4]
  rw [sumTo_congr len heq]

set_option maxHeartbeats 1600000 in
theorem cmp_core (xs xs' : List Nat) (e e' : Int) (a a' : Option Addr) (n n' c c' : Nat) (w : World) (hv : IsMag w (.agg #[.slice a n c, .int .i64 e]) xs e) (hv' : IsMag w (.agg #[.slice a' n' c', .int .i64 e']) xs' e') (hl : Hid (n = xs.length)) (hl' : Hid (n' = xs'.length)) (hn : n ≤ 1000000000) (hn' : n' ≤ 1000000000) (he : -1000000000 ≤ e) (he1 : e ≤ 1000000000) (he' : -1000000000 ≤ e') (he1' : e' ≤ 1000000000) :
    Calls Tryd.prog 96 #[.agg #[.slice a n c, .int .i64 e], .agg #[.slice a' n' c', .int .i64 e']] w (fun ed w' => ed = .returned (.int .i64 (sg (magVal xs e - magVal xs' e'))) ∧ Ext w w') := by
  go_enter Tryd.func96, Tryd.ntmps96
  go_wp2_with fail
  refine (ends_core a a' n c n' c' e e' _ (by omega) (by omega) (by omega) (by omega) (by omega) (by omega)).mono ?_
  rintro ed w1 ⟨rfl, hx⟩
  have B0 := ((Box.new w #[.slice a n c, .int .i64 e] 27).alloc (.cells #[.slice a' n' c', .int .i64 e'] 27)).ext hx
  have B1 := (Box.new (w.alloc (.cells #[.slice a n c, .int .i64 e] 27)) #[.slice a' n' c', .int .i64 e'] 27).ext hx
  simp only [World.size_alloc] at B1
  have hx1 : Ext w w1 := (((Ext.refl w).alloc _).alloc _).trans hx
  clear hx
  obtain ⟨fr, len, hfr, hto, hf1, hf2, ht1, ht2, hlen⟩ : ∃ (fr : Int) (len : Nat), min e e' = fr ∧ max (e + n) (e' + n') = fr + len ∧ fr ≤ e ∧ fr ≤ e' ∧ e + n ≤ fr + len ∧ e' + n' ≤ fr + len ∧ len ≤ 3000000000 := ⟨min e e', (max (e + n) (e' + n') - min e e').toNat, rfl, by omega, by omega, by omega, by omega, by omega, by omega⟩
  rw [hfr, hto]
  have HF := Lib.hid hfr; have HT := Lib.hid hto; clear hfr hto
  have hfb : -1000000000 ≤ fr ∧ fr ≤ 1000000000 := by have := HF.out; omega
  obtain ⟨hfb1, hfb2⟩ := hfb
  go_wp2
  go_loopw [7] (fun i wr => ∃ k : Nat, k ≤ len ∧ i = .int .i64 (fr + k - 1) ∧ Hid (∀ j : Nat, k ≤ j → j < len → wordAt xs e (fr + j) = wordAt xs' e' (fr + j)) ∧ Ext w wr ∧ Box wr w.heap.size #[.slice a n c, .int .i64 e] 27 ∧ Box wr (w.heap.size + 1) #[.slice a' n' c', .int .i64 e'] 27) (fun i _ => (intOf i + 1 - fr).toNat)
  case atStart => exact ⟨len, Nat.le_refl _, rfl, fun j h1 h2 => absurd h2 (by omega), hx1, B0, B1⟩
  case round =>
    clear B0 B1 hx1
    obtain ⟨k, hk, rfl, hrel, hxr, B0, B1⟩ := hrel
    by_cases hlt : 0 < k
    · obtain ⟨m, rfl⟩ : ∃ m, k = m + 1 := ⟨k - 1, by omega⟩
      obtain ⟨x, hxd, hxl⟩ : ∃ x, wordAt xs e (fr + m) = x ∧ x < 4294967296 := ⟨_, rfl, wordAt_lt hv.lt _ _⟩
      obtain ⟨y, hyd, hyl⟩ : ∃ y, wordAt xs' e' (fr + m) = y ∧ y < 4294967296 := ⟨_, rfl, wordAt_lt hv'.lt _ _⟩
      have HX := Lib.hid hxd; have HY := Lib.hid hyd; clear hxd hyd
      have hm : fr + ((m + 1 : Nat) : Int) - 1 = fr + m := by omega
      rw [hm]
      clear hm
      go_wp2
      refine wp_steady 3 37 (by kernel_rfl) (by as_aux_lemma => kernel_rfl) rfl ?_
      refine walk_q [(2, none)] (by kernel_rfl) rfl ?_
      apply Exists.intro
      refine ⟨fun b w' hx hs => ?_, ?_⟩
      · obtain ⟨h0, -⟩ := hs
        change _ = _ at h0
        rw [eval_tmp] at h0
        have hx_B0 := B0.ext hx
        have kB0_0 := hx_B0.cell 0 rfl
        have kB0_1 := hx_B0.cell 1 rfl
        have hx_B1 := B1.ext hx
        have kB1_0 := hx_B1.cell 0 rfl
        have kB1_1 := hx_B1.cell 1 rfl
        go_simp
        try go_ints
        rfl
      refine walk_q [(7, none)] (by kernel_rfl) rfl ?_
      apply Exists.intro
      refine ⟨fun b w' hx hs => ?_, ?_⟩
      · obtain ⟨h0, -⟩ := hs
        change _ = _ at h0
        rw [eval_tmp] at h0
        go_simp
        try go_ints
        rfl
      refine walk_c [(23, some 1), (24, some 0)] (by kernel_rfl) rfl (fun _ v => v = .int .u32 (x : Nat)) (fun _ _ _ x h => by first | exact h | exact h.ext x) (fun b w' hx hs => ?_) ?_
      · as_aux_lemma =>
          obtain ⟨h0, h1, -⟩ := hs
          change _ = _ at h0
          change _ = _ at h1
          rw [eval_tmp] at h0 h1
          go_simp
          refine upon_enter ((word_any (fr + m) _ (hv.ext (hxr.trans hx)) (by have := hl.out; omega) (by omega) (by omega)).mono fun ed w2 ⟨he, hx2⟩ => ⟨_, he, hx2, ?_⟩)
          rw [HX.out]
      refine walk_q [(3, none)] (by kernel_rfl) rfl ?_
      apply Exists.intro
      refine ⟨fun b w' hx hs => ?_, ?_⟩
      · obtain ⟨h0, -⟩ := hs
        change _ = _ at h0
        rw [eval_tmp] at h0
        have hx_B0 := B0.ext hx
        have kB0_0 := hx_B0.cell 0 rfl
        have kB0_1 := hx_B0.cell 1 rfl
        have hx_B1 := B1.ext hx
        have kB1_0 := hx_B1.cell 0 rfl
        have kB1_1 := hx_B1.cell 1 rfl
        go_simp
        try go_ints
        rfl
      refine walk_q [(7, none)] (by kernel_rfl) rfl ?_
      apply Exists.intro
      refine ⟨fun b w' hx hs => ?_, ?_⟩
      · obtain ⟨h0, -⟩ := hs
        change _ = _ at h0
        rw [eval_tmp] at h0
        go_simp
        try go_ints
        rfl
      refine walk_c [(26, some 1), (27, some 0)] (by kernel_rfl) rfl (fun _ v => v = .int .u32 (y : Nat)) (fun _ _ _ x h => by first | exact h | exact h.ext x) (fun b w' hx hs => ?_) ?_
      · as_aux_lemma =>
          obtain ⟨h0, h1, -⟩ := hs
          change _ = _ at h0
          change _ = _ at h1
          rw [eval_tmp] at h0 h1
          go_simp
          refine upon_enter ((word_any (fr + m) _ (hv'.ext (hxr.trans hx)) (by have := hl'.out; omega) (by omega) (by omega)).mono fun ed w2 ⟨he, hx2⟩ => ⟨_, he, hx2, ?_⟩)
          rw [HY.out]
      refine walk_q [(25, some 3)] (by kernel_rfl) rfl ?_
      apply Exists.intro
      refine ⟨fun b w' hx hs => ?_, ?_⟩
      · obtain ⟨h0, -⟩ := hs
        change _ = _ at h0
        rw [eval_tmp] at h0
        go_simp
        try go_ints
        rfl
      refine walk_q [(28, some 1)] (by kernel_rfl) rfl ?_
      apply Exists.intro
      refine ⟨fun b w' hx hs => ?_, ?_⟩
      · obtain ⟨h0, -⟩ := hs
        change _ = _ at h0
        rw [eval_tmp] at h0
        go_simp
        try go_ints
        rfl
      refine walk_end ?_
      intro w3 hx3
      rintro _ rfl
      rintro _ rfl
      rintro _ rfl
      rintro _ rfl
      rintro _ rfl
      rintro _ rfl
      rintro _ rfl
      rintro _ rfl
      unfold fin
      simp only [Act.put, List.setIfInBounds_toArray, List.set_cons_succ, List.set_cons_zero]
      replace B0 := B0.ext hx3
      replace B1 := B1.ext hx3
      have hxr3 := hxr.trans hx3
      clear hx3 hxr
      have h3 : e + xs.length ≤ fr + len := by have := hl.out; omega
      have h4 : e' + xs'.length ≤ fr + len := by have := hl'.out; omega
      rcases Nat.lt_trichotomy x y with h | h | h
      · have hyx : ¬ (y : Int) < x := by omega
        have hxy : (x : Int) < y := by omega
        go_wp2
        go_ret
        refine ⟨?_, hxr3⟩
        have := mag_lt_of hv.lt hf1 hf2 h3 h4 (k := m) (by omega) (by rw [HX.out, HY.out]; exact h) (fun j h1 h2 => hrel.out j (by omega) h2)
        rw [sg_lt this]; rfl
      · subst h
        have hyx : ¬ (x : Int) < x := by omega
        go_wp2
        go_roundw
        case rel => exact ⟨m, by omega, by go_num, fun j h1 h2 => by
          by_cases hj : j = m
          · subst hj; rw [HX.out, HY.out]
          · exact hrel.out j (by omega) h2, hxr3, B0, B1⟩
        case measure => simp [intOf]; omega
      · have hyx : (y : Int) < x := by omega
        go_wp2
        go_ret
        refine ⟨?_, hxr3⟩
        have := mag_lt_of hv'.lt hf2 hf1 h4 h3 (k := m) (by omega) (by rw [HX.out, HY.out]; exact h) (fun j h1 h2 => (hrel.out j (by omega) h2).symm)
        rw [sg_gt this]; rfl
    · have hk0 : k = 0 := by omega
      subst hk0
      go_wp2
      go_ret
      refine ⟨?_, hxr⟩
      have h3 : e + xs.length ≤ fr + len := by have := hl.out; omega
      have h4 : e' + xs'.length ≤ fr + len := by have := hl'.out; omega
      have := mag_eq_of hf1 hf2 h3 h4 (fun j h2 => hrel.out j (by omega) h2)
      rw [sg_eq this]; rfl
/-- whole.cmp. -/
theorem cmp_any {v v' : Value} {xs xs' : List Nat} {e e' : Int} (w : World) (h : IsMag w v xs e) (h' : IsMag w v' xs' e') (b : MagBd xs e) (b' : MagBd xs' e') :
    Calls Tryd.prog 96 #[v, v'] w (fun ed w' => ed = .returned (.int .i64 (sg (magVal xs e - magVal xs' e'))) ∧ Ext w w') := by
  have hh := h
  have hh' := h'
  obtain ⟨⟨s, rfl, ⟨a, c, rfl, -⟩⟩, -⟩ := hh
  obtain ⟨⟨s', rfl, ⟨a', c', rfl, -⟩⟩, -⟩ := hh'
  obtain ⟨b1, b2, b3⟩ := b
  obtain ⟨b1', b2', b3'⟩ := b'
  exact cmp_core xs xs' e e' _ _ _ _ _ _ w h h' (u32s_length xs) (u32s_length xs') (by rw [u32s_length]; exact b1) (by rw [u32s_length]; exact b1') b2 b3 b2' b3'
end Go.Proofs.YthnmjkjllhlcjaaDoor
