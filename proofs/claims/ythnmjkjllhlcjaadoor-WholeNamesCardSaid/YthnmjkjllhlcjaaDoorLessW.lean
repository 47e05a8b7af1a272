/- The walks of whole.less and whole.cmp; under bounds on lengths and exponents. -/
import Derived.Test.YthnmjkjllhlcjaaDoorSumW
namespace Go.Proofs.YthnmjkjllhlcjaaDoor
open Go Go.RowKit Go.Steady Go.Tri
set_option maxRecDepth 100000

def LessRel (w : World) (B : Nat) (xs xs' : List Nat) (e e' fr : Int) (k c : Nat) (v : Value) (wr : World) : Prop :=
  ∃ os : List Nat, os.length = k ∧ AllLt 4294967296 os ∧ c ≤ 1 ∧ ofWords os + sumTo (fun j => wordAt xs' e' (fr + j)) k = sumTo (fun j => wordAt xs e (fr + j)) k + 2 ^ (32 * k) * c ∧ wr.ownsRow B 111 1 v k (u32s os) ∧ Ext w wr

theorem LessRel.step {w w4 : World} {B : Nat} {xs xs' : List Nat} {e e' fr : Int} {k cc x y r q : Nat} {R : Int} {v' : Value} {os : List Nat} (hol : os.length = k) (holt : AllLt 4294967296 os) (hsum : ofWords os + sumTo (fun j => wordAt xs' e' (fr + j)) k = sumTo (fun j => wordAt xs e (fr + j)) k + 2 ^ (32 * k) * cc)
    (hx : wordAt xs e (fr + k) = x) (hy : wordAt xs' e' (fr + k) = y) (hr : r + y + cc = x + 4294967296 * q) (hrl : r < 4294967296) (hq : q ≤ 1) (hR : R = (r : Int)) (hown : w4.ownsRow B 111 1 v' (k + 1) (u32s os ++ [.int .u32 R])) (hxt : Ext w w4) :
    LessRel w B xs xs' e e' fr (k + 1) q v' w4 := by
  subst hR
  refine ⟨os ++ [r], by simp [hol], fun z hz => ?_, hq, ?_, ?_, hxt⟩
  · rcases List.mem_append.1 hz with h | h
    · exact holt z h
    · simp at h; omega
  · simp only [sumTo, hx, hy]
    exact less_step hol hsum hr
  · have : u32s (os ++ [r]) = u32s os ++ [.int .u32 (r : Int)] := by simp [u32s]
    rw [this]; exact hown
theorem LessRel.done {w4 : World} {B : Nat} {xs xs' : List Nat} {e e' fr : Int} {k cc : Nat} {v' : Value} {os : List Nat} (hol : os.length = k) (holt : AllLt 4294967296 os) (hsum : ofWords os + sumTo (fun j => wordAt xs' e' (fr + j)) k = sumTo (fun j => wordAt xs e (fr + j)) k + 2 ^ (32 * k) * cc)
    (h1 : fr ≤ e) (h2 : fr ≤ e') (h3 : e + xs.length ≤ fr + k) (h4 : e' + xs'.length ≤ fr + k) (hcc : cc ≤ 1) (hle : magVal xs' e' ≤ magVal xs e) (hown : w4.ownsRow B 111 1 v' k (u32s os)) :
    IsMag w4 (.agg #[v', .int .i64 fr]) os fr ∧ magVal os fr = magVal xs e - magVal xs' e' := by
  refine ⟨⟨⟨v', rfl, ownsRow_cells hown⟩, holt⟩, ?_⟩
  have hc0 : cc = 0 := by
    have h5 := ofWords_lt holt
    rw [hol] at h5
    rcases Nat.lt_or_ge cc 1 with h | h
    · omega
    · have hc1 : cc = 1 := by omega
      subst hc1
      rw [← sumTo_mag h1 h3, ← sumTo_mag h2 h4] at hle
      have h6 := Rat.le_of_mul_le_mul_right hle (p2_pos _)
      have h7 := Rat.natCast_le_natCast.1 h6
      omega
  subst hc0
  have h8 : ofWords os + sumTo (fun j => wordAt xs' e' (fr + j)) k = sumTo (fun j => wordAt xs e (fr + j)) k := by rw [hsum]; omega
  have h9 : (ofWords os : Rat) + (sumTo (fun j => wordAt xs' e' (fr + j)) k : Rat) = (sumTo (fun j => wordAt xs e (fr + j)) k : Rat) := by rw [← Rat.natCast_add, h8]
  rw [← sumTo_mag h1 h3, ← sumTo_mag h2 h4, ← h9]
  unfold magVal
  grind

set_option maxHeartbeats 1600000 in
theorem less_core (xs xs' : List Nat) (e e' : Int) (a a' : Option Addr) (n n' c c' : Nat) (w : World) (hv : IsMag w (.agg #[.slice a n c, .int .i64 e]) xs e) (hv' : IsMag w (.agg #[.slice a' n' c', .int .i64 e']) xs' e') (hl : Hid (n = xs.length)) (hl' : Hid (n' = xs'.length)) (hn : n ≤ 1000000000) (hn' : n' ≤ 1000000000) (he : -1000000000 ≤ e) (he1 : e ≤ 1000000000) (he' : -1000000000 ≤ e') (he1' : e' ≤ 1000000000) (hle : magVal xs' e' ≤ magVal xs e) :
    Calls Tryd.prog 97 #[.agg #[.slice a n c, .int .i64 e], .agg #[.slice a' n' c', .int .i64 e']] w (Gives w fun w' v => ∃ ys fr, IsMag w' v ys fr ∧ magVal ys fr = magVal xs e - magVal xs' e' ∧ ys.length ≤ 10000000000 ∧ -1000000000 ≤ fr ∧ fr ≤ 1000000000) := by
  obtain ⟨i0, hi, hz0, hz1, hz2⟩ := info_parts info_u32
  go_enter Tryd.func97, Tryd.ntmps97
  go_wp2_with fail
  refine (ends_core a a' n c n' c' e e' _ (by omega) (by omega) (by omega) (by omega) (by omega) (by omega)).mono ?_
  rintro ed w1 ⟨rfl, hx⟩
  have B0 := (((Box.new w #[.slice a n c, .int .i64 e] 27).alloc (.cells #[.slice a' n' c', .int .i64 e'] 27)).alloc (.cells #[.slice none 0 0, .int .i64 0] 27)).ext hx
  have B1 := ((Box.new (w.alloc (.cells #[.slice a n c, .int .i64 e] 27)) #[.slice a' n' c', .int .i64 e'] 27).alloc (.cells #[.slice none 0 0, .int .i64 0] 27)).ext hx
  have B2 := (Box.new ((w.alloc (.cells #[.slice a n c, .int .i64 e] 27)).alloc (.cells #[.slice a' n' c', .int .i64 e'] 27)) #[.slice none 0 0, .int .i64 0] 27).ext hx
  simp only [World.size_alloc] at B1 B2
  have hx1 : Ext w w1 := ((((Ext.refl w).alloc _).alloc _).alloc _).trans hx
  have hsz1 : w.heap.size + 3 ≤ w1.heap.size := by have := B2.lt; omega
  clear hx
  obtain ⟨fr, len, hfr, hto, hf1, hf2, ht1, ht2, hlen⟩ : ∃ (fr : Int) (len : Nat), min e e' = fr ∧ max (e + n) (e' + n') = fr + len ∧ fr ≤ e ∧ fr ≤ e' ∧ e + n ≤ fr + len ∧ e' + n' ≤ fr + len ∧ len ≤ 3000000000 := ⟨min e e', (max (e + n) (e' + n') - min e e').toNat, rfl, by omega, by omega, by omega, by omega, by omega, by omega⟩
  rw [hfr, hto]
  have HF := Lib.hid hfr; have HT := Lib.hid hto; clear hfr hto
  have hfb : -1000000000 ≤ fr ∧ fr ≤ 1000000000 := by have := HF.out; omega
  obtain ⟨hfb1, hfb2⟩ := hfb
  have hcap : fr + (len : Int) - fr = (len : Int) := by omega
  go_wp2_with (at_make; refine wpList_make_own _ rfl _ _ 25 rfl (w.heap.size + 3) 111 i0 (.int .u32 0) 1 Tryd.underlying25 hi hz0 hz1 _ _ _ len rfl rfl (by omega) (by rw [hz2]; omega) (by unfold maxLen; omega) (by omega) ?_)
  clear hcap
  intro w2 hown hgrow
  have hx2 : Ext w w2 := hx1.grown hgrow (by simp)
  replace B0 := B0.grown hgrow (by simp)
  replace B1 := B1.grown hgrow (by simp)
  replace B2 := B2.grown hgrow (by simp)
  clear hgrow hx1 hsz1
  go_wp2
  have hrel0 : LessRel w (w.heap.size + 3) xs xs' e e' fr 0 0 (.slice (some ⟨w1.heap.size, 0, none⟩) 0 len) w2 := ⟨[], rfl, fun x hx => by simp at hx, by omega, by simp [ofWords, sumTo], hown, hx2⟩
  clear hown hx2
  go_loopw [7, 8, 9] (fun o cr i wr => ∃ k cc : Nat, k ≤ len ∧ i = .int .i64 (fr + k) ∧ cr = .int .i64 cc ∧ cc ≤ 1 ∧ LessRel w (w.heap.size + 3) xs xs' e e' fr k cc o wr ∧ Box wr w.heap.size #[.slice a n c, .int .i64 e] 27 ∧ Box wr (w.heap.size + 1) #[.slice a' n' c', .int .i64 e'] 27 ∧ Box wr (w.heap.size + 1 + 1) #[.slice none 0 0, .int .i64 0] 27) (fun _ _ i _ => (fr + len - intOf i).toNat)
  case atStart => exact ⟨0, 0, Nat.zero_le _, by simp, rfl, by omega, hrel0, B0, B1, B2⟩
  case round =>
    clear hrel0 B0 B1 B2
    obtain ⟨k, cc, hk, rfl, rfl, hcc, hrel, B0, B1, B2⟩ := hrel
    obtain ⟨os, hol, holt, -, hsum, hown, hxr⟩ := hrel
    have HOL := Lib.hid hol; have HOLT := Lib.hid holt; have HSUM := Lib.hid hsum; clear hol holt hsum
    by_cases hlt : k < len
    · obtain ⟨x, hxd, hxl⟩ : ∃ x, wordAt xs e (fr + k) = x ∧ x < 4294967296 := ⟨_, rfl, wordAt_lt hv.lt _ _⟩
      obtain ⟨y, hyd, hyl⟩ : ∃ y, wordAt xs' e' (fr + k) = y ∧ y < 4294967296 := ⟨_, rfl, wordAt_lt hv'.lt _ _⟩
      have HX := Lib.hid hxd; have HY := Lib.hid hyd; clear hxd hyd
      go_wp2
      refine wp_steady 3 50 (by kernel_rfl) (by as_aux_lemma => kernel_rfl) rfl ?_
      refine walk_q [(2, none)] (by kernel_rfl) rfl ?_
      apply Exists.intro
      refine ⟨fun b w' hx hs => ?_, ?_⟩
      · obtain ⟨h0, -⟩ := hs
        change _ = _ at h0
        rw [eval_tmp] at h0
        have hx_B0 := B0.ext hx
        have kB0_0 := hx_B0.cell 0 rfl
        have kB0_1 := hx_B0.cell 1 rfl
        have hx_B1 := B1.ext hx
        have kB1_0 := hx_B1.cell 0 rfl
        have kB1_1 := hx_B1.cell 1 rfl
        go_simp
        try go_ints
        rfl
      refine walk_q [(9, none)] (by kernel_rfl) rfl ?_
      apply Exists.intro
      refine ⟨fun b w' hx hs => ?_, ?_⟩
      · obtain ⟨h0, -⟩ := hs
        change _ = _ at h0
        rw [eval_tmp] at h0
        go_simp
        try go_ints
        rfl
      refine walk_c [(27, some 1), (28, some 0)] (by kernel_rfl) rfl (fun _ v => v = .int .u32 (x : Nat)) (fun _ _ _ x h => by first | exact h | exact h.ext x) (fun b w' hx hs => ?_) ?_
      · as_aux_lemma =>
          obtain ⟨h0, h1, -⟩ := hs
          change _ = _ at h0
          change _ = _ at h1
          rw [eval_tmp] at h0 h1
          go_simp
          refine upon_enter ((word_any (fr + k) _ (hv.ext (hxr.trans hx)) (by have := hl.out; omega) (by omega) (by omega)).mono fun ed w2 ⟨he, hx2⟩ => ⟨_, he, hx2, ?_⟩)
          rw [HX.out]
      refine walk_q [(29, some 0)] (by kernel_rfl) rfl ?_
      apply Exists.intro
      refine ⟨fun b w' hx hs => ?_, ?_⟩
      · obtain ⟨h0, -⟩ := hs
        change _ = _ at h0
        rw [eval_tmp] at h0
        go_simp
        try go_ints
        rfl
      refine walk_q [(3, none)] (by kernel_rfl) rfl ?_
      apply Exists.intro
      refine ⟨fun b w' hx hs => ?_, ?_⟩
      · obtain ⟨h0, -⟩ := hs
        change _ = _ at h0
        rw [eval_tmp] at h0
        have hx_B0 := B0.ext hx
        have kB0_0 := hx_B0.cell 0 rfl
        have kB0_1 := hx_B0.cell 1 rfl
        have hx_B1 := B1.ext hx
        have kB1_0 := hx_B1.cell 0 rfl
        have kB1_1 := hx_B1.cell 1 rfl
        go_simp
        try go_ints
        rfl
      refine walk_q [(9, none)] (by kernel_rfl) rfl ?_
      apply Exists.intro
      refine ⟨fun b w' hx hs => ?_, ?_⟩
      · obtain ⟨h0, -⟩ := hs
        change _ = _ at h0
        rw [eval_tmp] at h0
        go_simp
        try go_ints
        rfl
      refine walk_c [(31, some 1), (32, some 0)] (by kernel_rfl) rfl (fun _ v => v = .int .u32 (y : Nat)) (fun _ _ _ x h => by first | exact h | exact h.ext x) (fun b w' hx hs => ?_) ?_
      · as_aux_lemma =>
          obtain ⟨h0, h1, -⟩ := hs
          change _ = _ at h0
          change _ = _ at h1
          rw [eval_tmp] at h0 h1
          go_simp
          refine upon_enter ((word_any (fr + k) _ (hv'.ext (hxr.trans hx)) (by have := hl'.out; omega) (by omega) (by omega)).mono fun ed w2 ⟨he, hx2⟩ => ⟨_, he, hx2, ?_⟩)
          rw [HY.out]
      refine walk_q [(33, some 0)] (by kernel_rfl) rfl ?_
      apply Exists.intro
      refine ⟨fun b w' hx hs => ?_, ?_⟩
      · obtain ⟨h0, -⟩ := hs
        change _ = _ at h0
        rw [eval_tmp] at h0
        go_simp
        try go_ints
        rfl
      refine walk_q [(30, some 4), (34, some 0)] (by kernel_rfl) rfl ?_
      apply Exists.intro
      refine ⟨fun b w' hx hs => ?_, ?_⟩
      · obtain ⟨h0, h1, -⟩ := hs
        change _ = _ at h0
        change _ = _ at h1
        rw [eval_tmp] at h0 h1
        go_simp
        try go_ints
        rfl
      refine walk_q [(8, none)] (by kernel_rfl) rfl ?_
      apply Exists.intro
      refine ⟨fun b w' hx hs => ?_, ?_⟩
      · obtain ⟨h0, -⟩ := hs
        change _ = _ at h0
        rw [eval_tmp] at h0
        go_simp
        try go_ints
        rfl
      refine walk_q [(35, some 1), (36, some 0)] (by kernel_rfl) rfl ?_
      apply Exists.intro
      refine ⟨fun b w' hx hs => ?_, ?_⟩
      · obtain ⟨h0, h1, -⟩ := hs
        change _ = _ at h0
        change _ = _ at h1
        rw [eval_tmp] at h0 h1
        go_simp
        try go_ints
        rfl
      refine walk_q [(37, some 0)] (by kernel_rfl) rfl ?_
      apply Exists.intro
      refine ⟨fun b w' hx hs => ?_, ?_⟩
      · obtain ⟨h0, -⟩ := hs
        change _ = _ at h0
        rw [eval_tmp] at h0
        go_simp
        try go_ints
        rfl
      refine walk_end ?_
      intro w3 hx3
      rintro _ rfl
      rintro _ rfl
      rintro _ rfl
      rintro _ rfl
      rintro _ rfl
      rintro _ rfl
      rintro _ rfl
      rintro _ rfl
      rintro _ rfl
      rintro _ rfl
      rintro _ rfl
      rintro _ rfl
      unfold fin
      simp only [Act.put, List.setIfInBounds_toArray, List.set_cons_succ, List.set_cons_zero]
      have hown3 := ownsRow_ext hown hx3
      replace B0 := B0.ext hx3
      replace B1 := B1.ext hx3
      replace B2 := B2.ext hx3
      have hB2 := B2.lt
      have hxr3 := hxr.trans hx3
      clear hx3 hown hxr
      by_cases hd : (x : Int) - y - cc < 0
      · go_wp2_with (at_builtin; refine wpList_append_own _ rfl _ _ 25 rfl (w.heap.size + 3) 111 i0 (.int .u32 0) 1 4 Tryd.underlying25 hi hz0 hz1 hz2 rfl (by decide) _ _ _ rfl (hown3.alloc _) ⟨w3.heap.size, 0, none⟩ 1 1 [.int .u32 ((x : Int) - y - cc + 4294967296)] rfl rfl (cell_one_new _ _ _) (by simp [Value.oneCell']) (by unfold maxLen; omega) (by omega) (by simp; omega) ?_)
        intro v' w4 hown4 hgrow4 _
        have hx4 : Ext w w4 := (hxr3.alloc _).grown hgrow4 (fun k hk => by have := (hown3.lt k hk).1; omega)
        have hne : ∀ b : Nat, b ≤ w.heap.size + 1 + 1 → some b ≠ Value.ownBlock _ := fun b hb hk => by have := (hown3.lt b hk.symm).1; omega
        replace B0 := (B0.alloc _).grown hgrow4 (hne _ (by omega))
        replace B1 := (B1.alloc _).grown hgrow4 (hne _ (by omega))
        replace B2 := (B2.alloc _).grown hgrow4 (hne _ (by omega))
        clear hgrow4 hne hown3 hxr3 hB2
        go_wp2
        go_roundw
        case rel => exact ⟨k + 1, 1, by omega, by go_num, by go_num, by omega, LessRel.step (r := ((x : Int) - y - cc + 4294967296).toNat) (q := 1) HOL.out HOLT.out HSUM.out HX.out HY.out (by omega) (by omega) (by omega) (by omega) hown4 hx4, B0, B1, B2⟩
        case measure => simp [intOf]; omega
      · go_wp2_with (at_builtin; refine wpList_append_own _ rfl _ _ 25 rfl (w.heap.size + 3) 111 i0 (.int .u32 0) 1 4 Tryd.underlying25 hi hz0 hz1 hz2 rfl (by decide) _ _ _ rfl (hown3.alloc _) ⟨w3.heap.size, 0, none⟩ 1 1 [.int .u32 ((x : Int) - y - cc)] rfl rfl (cell_one_new _ _ _) (by simp [Value.oneCell']) (by unfold maxLen; omega) (by omega) (by simp; omega) ?_)
        intro v' w4 hown4 hgrow4 _
        have hx4 : Ext w w4 := (hxr3.alloc _).grown hgrow4 (fun k hk => by have := (hown3.lt k hk).1; omega)
        have hne : ∀ b : Nat, b ≤ w.heap.size + 1 + 1 → some b ≠ Value.ownBlock _ := fun b hb hk => by have := (hown3.lt b hk.symm).1; omega
        replace B0 := (B0.alloc _).grown hgrow4 (hne _ (by omega))
        replace B1 := (B1.alloc _).grown hgrow4 (hne _ (by omega))
        replace B2 := (B2.alloc _).grown hgrow4 (hne _ (by omega))
        clear hgrow4 hne hown3 hxr3 hB2
        go_wp2
        go_roundw
        case rel => exact ⟨k + 1, 0, by omega, by go_num, by go_num, by omega, LessRel.step (r := ((x : Int) - y - cc).toNat) (q := 0) HOL.out HOLT.out HSUM.out HX.out HY.out (by omega) (by omega) (by omega) (by omega) hown4 hx4, B0, B1, B2⟩
        case measure => simp [intOf]; omega
    · have hkl : len = k := by omega
      subst hkl
      have hB2 := B2.lt
      have hfin := LessRel.done HOL.out HOLT.out HSUM.out hf1 hf2 (by rw [← hl.out]; exact ht1) (by rw [← hl'.out]; exact ht2) hcc hle hown
      have hfin1 := hfin.1
      obtain ⟨⟨s4, hs4, ⟨a4, c4, hsl, -⟩⟩, -⟩ := hfin1
      have hv4 : ∀ v', v' = s4 → v' = .slice a4 len c4 := fun v' h1 => by
        have h2 := HOL.out
        rw [h1, hsl]; simp [h2]
      simp only [Value.agg.injEq, Array.mk.injEq, List.cons.injEq, and_true] at hs4
      have hv4' := hv4 _ hs4
      clear hs4 hsl hv4
      subst hv4'
      have hlast := hfin.1.store B2 a4 len c4 fr
      have HFIN := Lib.hid hfin.2; have HLAST := Lib.hid hlast; clear hfin hlast hown B0 B1
      have B2_c0 := B2.cell 0 rfl; have B2_c1 := B2.cell 1 rfl; have B2_f0 := B2.free 0; have B2_f1 := B2.free 1; have B2_lt := B2.lt
      go_wp2
      refine bodyPost_ret (v := .agg #[.slice a4 len c4, .int .i64 fr]) (by simp [results, Tryd.results97, go_sem, B2_c0, B2_c1]) rfl ?_
      exact Gives.mk _ (by (with_reducible (repeat (first | exact Ext.refl _ | exact hxr | refine Ext.drewN ?_ _ | refine Ext.drew ?_ | refine Ext.alloc ?_ _ | refine Ext.setCell ?_ (by first | (dsimp only; omega) | simp | (simp; omega)) _)))) ⟨os, fr, HLAST.out, HFIN.out, by rw [HOL.out]; omega, hfb1, hfb2⟩
/-- whole.less. -/
theorem less_any {v v' : Value} {xs xs' : List Nat} {e e' : Int} (w : World) (h : IsMag w v xs e) (h' : IsMag w v' xs' e') (b : MagBd xs e) (b' : MagBd xs' e') (hle : magVal xs' e' ≤ magVal xs e) :
    Calls Tryd.prog 97 #[v, v'] w (Gives w fun w' v => ∃ ys fr, IsMag w' v ys fr ∧ magVal ys fr = magVal xs e - magVal xs' e' ∧ ys.length ≤ 10000000000 ∧ -1000000000 ≤ fr ∧ fr ≤ 1000000000) := by
  have hh := h
  have hh' := h'
  obtain ⟨⟨s, rfl, ⟨a, c, rfl, -⟩⟩, -⟩ := hh
  obtain ⟨⟨s', rfl, ⟨a', c', rfl, -⟩⟩, -⟩ := hh'
  obtain ⟨b1, b2, b3⟩ := b
  obtain ⟨b1', b2', b3'⟩ := b'
  exact less_core xs xs' e e' _ _ _ _ _ _ w h h' (u32s_length xs) (u32s_length xs') (by rw [u32s_length]; exact b1) (by rw [u32s_length]; exact b1') b2 b3 b2' b3' hle
end Go.Proofs.YthnmjkjllhlcjaaDoor
