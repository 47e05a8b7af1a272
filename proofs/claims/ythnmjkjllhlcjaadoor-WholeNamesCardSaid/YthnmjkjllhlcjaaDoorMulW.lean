/- The walk of whole.Num.Mul; no condition. -/
import Derived.Test.YthnmjkjllhlcjaaDoorSubW
import Derived.Test.YthnmjkjllhlcjaaDoorMulP
import Derived.Deep.LoopGhost
import Derived.WalkMore
namespace Go.Proofs.YthnmjkjllhlcjaaDoor
open Go Go.RowKit Go.Steady Go.Tri
set_option maxRecDepth 100000

def HasWords (w : World) (a : Option Addr) (xs : List Nat) : Prop := ∀ j, j < xs.length → ∃ b o, a = some ⟨b, o, none⟩ ∧ w.cell? ⟨b, o + j, none⟩ = some (.int .u32 (xs.getD j 0 : Nat))
theorem Cells.hasWords {w : World} {a : Option Addr} {n c : Nat} {xs : List Nat} (h : Cells w (.slice a n c) (u32s xs)) : HasWords w a xs := fun j hj => by
  obtain ⟨a', c', hv, -, -, hu⟩ := h
  cases hv
  obtain ⟨b, o, ha, hc⟩ := hu j (.int .u32 (xs[j] : Nat)) (by simp [u32s, hj])
  exact ⟨b, o, ha, by rw [hc]; simp [hj]⟩
theorem Box.set_u32 {w : World} {b : Nat} {os : List Nat} {t : TypeId} (h : Box w b (u32s os).toArray t) (p x : Nat) (X : Int) (hX : X = (x : Int)) : Box (w.setCell ⟨b, p, none⟩ (.int .u32 X)) b (u32s (os.set p x)).toArray t := by
  subst hX
  have := h.set p (.int .u32 (x : Int))
  have e : (u32s os).toArray.setIfInBounds p (.int .u32 (x : Int)) = (u32s (os.set p x)).toArray := by
    simp [u32s, List.map_set]
  rwa [e] at this
theorem Box.cell_u32 {w : World} {b : Nat} {os : List Nat} {t : TypeId} (h : Box w b (u32s os).toArray t) {p : Nat} (hp : p < os.length) : w.cell? ⟨b, p, none⟩ = some (.int .u32 (os.getD p 0 : Nat)) :=
  h.cell p (by simp [u32s, hp])

theorem mul_none (a a' : Option Addr) (n n' c c' : Nat) (e e' : Int) (neg neg' non non' : Bool) (w : World) (h : (non || non') = true) :
    Calls Tryd.prog 29 #[.agg #[.slice a n c, .int .i64 e, .bool neg, .bool non], .agg #[.slice a' n' c', .int .i64 e', .bool neg', .bool non']] w (Gives w fun w' v => IsNum w' v none) := by
  cases non
  · simp only [Bool.false_or] at h
    subst h
    go_enter Tryd.func29, Tryd.ntmps29
    go_wp2
    refine bodyPost_ret (v := .agg #[.slice none 0 0, .int .i64 0, .bool false, .bool true]) (by simp [results, Tryd.results29, go_sem]) rfl ?_
    exact Gives.mk _ (by (with_reducible (repeat (first | exact Ext.refl _ | refine Ext.drewN ?_ _ | refine Ext.drew ?_ | refine Ext.alloc ?_ _ | refine Ext.setCell ?_ (by first | (dsimp only; omega) | simp | (simp; omega)) _)))) rfl
  · clear h
    go_enter Tryd.func29, Tryd.ntmps29
    go_wp2
    refine bodyPost_ret (v := .agg #[.slice none 0 0, .int .i64 0, .bool false, .bool true]) (by simp [results, Tryd.results29, go_sem]) rfl ?_
    exact Gives.mk _ (by (with_reducible (repeat (first | exact Ext.refl _ | refine Ext.drewN ?_ _ | refine Ext.drew ?_ | refine Ext.alloc ?_ _ | refine Ext.setCell ?_ (by first | (dsimp only; omega) | simp | (simp; omega)) _)))) rfl

/-- Where the outer loop stands. -/
structure MulRel (xs ys : List Nat) (i : Nat) (os : List Nat) : Prop where
  len : os.length = xs.length + ys.length
  lt : AllLt 4294967296 os
  val : ofWords os = ofWords (xs.take i) * ofWords ys
theorem ofWords_zeros (n : Nat) : ofWords (List.replicate n 0) = 0 := by
  induction n with
  | zero => rfl
  | succ n ih => simp [List.replicate_succ, ofWords, ih]
theorem MulRel.start {xs ys : List Nat} {n : Nat} (h : n = xs.length + ys.length) : MulRel xs ys 0 (List.replicate n 0) :=
  ⟨by simp [h], fun x hx => by simp at hx; omega, by simp [ofWords_zeros, ofWords]⟩
theorem inner_next {xs ys os : List Nat} {m x y z t k j cc : Nat} (ht : x * y = t) (hx : xs.getD k 0 = x) (hy : ys.getD j 0 = y) (hz : os.getD (k + j) 0 = z) (h : Hid (os.length = m ∧ AllLt 4294967296 os ∧ InnerAt xs ys os k j cc)) (hj : j < ys.length) (hk : k + j < m) :
    Hid ((os.set (k + j) ((cc + (t + z)) % 4294967296)).length = m ∧ AllLt 4294967296 (os.set (k + j) ((cc + (t + z)) % 4294967296)) ∧ InnerAt xs ys (os.set (k + j) ((cc + (t + z)) % 4294967296)) k (j + 1) ((cc + (t + z)) / 4294967296)) := by
  subst ht hx hy hz
  obtain ⟨h1, h2, h3⟩ := h.out
  exact Lib.hid ⟨by rw [List.length_set, h1], set_lt h2 (Nat.mod_lt _ (by decide)), inner_step (by omega) hj h3⟩
theorem inner_last {xs ys os : List Nat} {m n' k cc : Nat} (h : Hid (os.length = m ∧ AllLt 4294967296 os ∧ InnerAt xs ys os k n' cc)) (hn : n' = ys.length) (hk : k < xs.length) :
    Hid (os.length = m ∧ AllLt 4294967296 os ∧ ofWords os + 2 ^ (32 * (k + n')) * cc = ofWords (xs.take (k + 1)) * ofWords ys) := by
  subst hn
  obtain ⟨h1, h2, h3⟩ := h.out
  exact Lib.hid ⟨h1, h2, inner_end hk h3⟩
theorem carry_next {os : List Nat} {m p cc z P : Nat} (h : Hid (os.length = m ∧ AllLt 4294967296 os ∧ ofWords os + 2 ^ (32 * p) * cc = P)) (hz : os.getD p 0 = z) (hp : p < m) :
    Hid ((os.set p ((cc + z) % 4294967296)).length = m ∧ AllLt 4294967296 (os.set p ((cc + z) % 4294967296)) ∧ ofWords (os.set p ((cc + z) % 4294967296)) + 2 ^ (32 * (p + 1)) * ((cc + z) / 4294967296) = P) := by
  subst hz
  obtain ⟨h1, h2, h3⟩ := h.out
  have := mul_step (a := 0) (by omega) h3
  simp only [Nat.zero_add, Nat.mul_zero, Nat.add_zero] at this
  exact Lib.hid ⟨by rw [List.length_set, h1], set_lt h2 (Nat.mod_lt _ (by decide)), this⟩
theorem carry_last {xs ys os : List Nat} {n n' k p q : Nat} (h : Hid (os.length = n + n' ∧ AllLt 4294967296 os ∧ ofWords os + 2 ^ (32 * (p + 1)) * q = ofWords (xs.take (k + 1)) * ofWords ys)) (hq : q = 0) (hn : n = xs.length) (hn' : n' = ys.length) : Hid (MulRel xs ys (k + 1) os) := by
  subst hq hn hn'
  obtain ⟨h1, h2, h3⟩ := h.out
  exact Lib.hid ⟨h1, h2, by simpa using h3⟩
theorem mul_mag {wr : World} {g n n' k : Nat} {E : Int} {xs ys os : List Nat} {t : TypeId} (h : Hid (MulRel xs ys k os)) (hn : n = xs.length) (hn' : n' = ys.length) (G : Box wr g (u32s os).toArray t) (hs : n + n' ≤ 9223372036854775807) :
    IsMag wr (.agg #[.slice (some ⟨g, 0, none⟩) (n + n') (n + n'), .int .i64 E]) os E := by
  have hl : os.length = n + n' := by rw [h.out.len, hn, hn']
  have := cells_of_box G rfl (by simp; omega)
  simp only [u32s_length] at this
  rw [hl] at this
  exact ⟨⟨_, rfl, this⟩, h.out.lt⟩
theorem made_box {w : World} {g n B : Nat} {t : TypeId} (h : w.ownsRow B t 1 (.slice (some ⟨g, 0, none⟩) n n) n (madeCells #[Value.int .u32 0] n).toList) : Box w g (u32s (List.replicate n 0)).toArray t := by
  obtain ⟨hl, hcase⟩ := h
  rcases hcase with ⟨h1, h2⟩ | ⟨g', cap, cur, h1, -, hg, hnc, hcm, hcs, htake⟩
  · simp at h1
  · simp only [Value.slice.injEq, Option.some.injEq, Addr.mk.injEq] at h1
    obtain ⟨⟨rfl, -⟩, -, rfl⟩ := h1
    rw [Nat.mul_one] at hcs htake
    have : cur.toList = (madeCells #[Value.int .u32 0] n).toList := by
      rw [← htake, List.take_of_length_le (by simp [hcs])]
    have hc : cur = (u32s (List.replicate n 0)).toArray := by
      rw [← Array.toArray_toList (xs := cur), this]
      refine congrArg _ (List.ext_getElem (by simp [size_madeCells]) fun i h1 h2 => ?_)
      simp [madeCells, u32s, Nat.mod_one]
    unfold Box; rw [hg, hc]

set_option maxHeartbeats 3200000 in
theorem mul_core (xs ys : List Nat) (a a' : Option Addr) (n n' c c' : Nat) (e e' : Int) (neg neg' : Bool) (w : World) (hT : Tab w) (hA : Hid (HasWords w a xs)) (hB : Hid (HasWords w a' ys)) (hla : Hid (n = xs.length)) (hlb : Hid (n' = ys.length)) (hxl : AllLt 4294967296 xs) (hyl : AllLt 4294967296 ys) (hb : MagBd xs e) (hb' : MagBd ys e') :
    Calls Tryd.prog 29 #[.agg #[.slice a n c, .int .i64 e, .bool neg, .bool false], .agg #[.slice a' n' c', .int .i64 e', .bool neg', .bool false]] w (Gives w fun w' v => IsNum w' v (mk (sgn (neg != neg') (magVal xs e * magVal ys e')))) := by
  obtain ⟨i0, hi, hz0, hz1, hz2⟩ := info_parts info_u32
  have hn : n ≤ 1000000000 := by rw [hla.out]; exact hb.1
  have hn' : n' ≤ 1000000000 := by rw [hlb.out]; exact hb'.1
  have HXL := Lib.hid hxl; have HYL := Lib.hid hyl; have HBD := Lib.hid hb; have HBD' := Lib.hid hb'
  clear hxl hyl hb hb'
  have B0 : Box (((w.alloc (.cells #[.slice a n c, .int .i64 e, .bool neg, .bool false] 29)).alloc (.cells #[.slice a' n' c', .int .i64 e', .bool neg', .bool false] 29)).alloc (.cells #[.slice none 0 0, .int .i64 0, .bool false, .bool false] 29)) (w.heap.size) #[.slice a n c, .int .i64 e, .bool neg, .bool false] 29 := (((Box.new w #[.slice a n c, .int .i64 e, .bool neg, .bool false] 29).alloc (.cells #[.slice a' n' c', .int .i64 e', .bool neg', .bool false] 29)).alloc (.cells #[.slice none 0 0, .int .i64 0, .bool false, .bool false] 29)); have B1 : Box (((w.alloc (.cells #[.slice a n c, .int .i64 e, .bool neg, .bool false] 29)).alloc (.cells #[.slice a' n' c', .int .i64 e', .bool neg', .bool false] 29)).alloc (.cells #[.slice none 0 0, .int .i64 0, .bool false, .bool false] 29)) (w.heap.size + 1) #[.slice a' n' c', .int .i64 e', .bool neg', .bool false] 29 := (by have hbx := ((Box.new (w.alloc (.cells #[.slice a n c, .int .i64 e, .bool neg, .bool false] 29)) #[.slice a' n' c', .int .i64 e', .bool neg', .bool false] 29).alloc (.cells #[.slice none 0 0, .int .i64 0, .bool false, .bool false] 29)); simpa only [World.size_alloc] using hbx); have B2 : Box (((w.alloc (.cells #[.slice a n c, .int .i64 e, .bool neg, .bool false] 29)).alloc (.cells #[.slice a' n' c', .int .i64 e', .bool neg', .bool false] 29)).alloc (.cells #[.slice none 0 0, .int .i64 0, .bool false, .bool false] 29)) (w.heap.size + 1 + 1) #[.slice none 0 0, .int .i64 0, .bool false, .bool false] 29 := (by have hbx := (Box.new ((w.alloc (.cells #[.slice a n c, .int .i64 e, .bool neg, .bool false] 29)).alloc (.cells #[.slice a' n' c', .int .i64 e', .bool neg', .bool false] 29)) #[.slice none 0 0, .int .i64 0, .bool false, .bool false] 29); simpa only [World.size_alloc] using hbx); have hx0 : Ext w (((w.alloc (.cells #[.slice a n c, .int .i64 e, .bool neg, .bool false] 29)).alloc (.cells #[.slice a' n' c', .int .i64 e', .bool neg', .bool false] 29)).alloc (.cells #[.slice none 0 0, .int .i64 0, .bool false, .bool false] 29)) := ((((Ext.refl w).alloc (.cells #[.slice a n c, .int .i64 e, .bool neg, .bool false] 29)).alloc (.cells #[.slice a' n' c', .int .i64 e', .bool neg', .bool false] 29)).alloc (.cells #[.slice none 0 0, .int .i64 0, .bool false, .bool false] 29))
  go_enter Tryd.func29, Tryd.ntmps29
  go_wp2_with (at_make; go_loud (refine wpList_make_full _ rfl _ _ 25 rfl (w.heap.size + 3) 111 i0 (.int .u32 0) 1 Tryd.underlying25 hi hz0 hz1 _ _ _ _ (n + n') rfl rfl (by omega) (by omega) (by rw [hz2]; omega) (by unfold maxLen; omega) (by simp) ?_))
  intro wm hown hgrow
  replace hx0 : Ext w wm := hx0.grown hgrow (by simp)
  replace B0 := B0.grown hgrow (by simp)
  replace B1 := B1.grown hgrow (by simp)
  replace B2 := B2.grown hgrow (by simp)
  have G := made_box hown
  clear hgrow hown
  have B0_c0 := B0.cell 0 rfl; have B0_c1 := B0.cell 1 rfl; have B0_c2 := B0.cell 2 rfl; have B0_c3 := B0.cell 3 rfl; have B0_f0 := B0.free 0; have B0_f1 := B0.free 1; have B0_f2 := B0.free 2; have B0_f3 := B0.free 3; have B0_lt := B0.lt
  have B1_c0 := B1.cell 0 rfl; have B1_c1 := B1.cell 1 rfl; have B1_c2 := B1.cell 2 rfl; have B1_c3 := B1.cell 3 rfl; have B1_f0 := B1.free 0; have B1_f1 := B1.free 1; have B1_f2 := B1.free 2; have B1_f3 := B1.free 3; have B1_lt := B1.lt
  go_wp2
  have hrel0 : MulRel xs ys 0 (List.replicate (n + n') 0) := MulRel.start (by rw [hla.out, hlb.out])
  clear B0_c0 B0_c1 B0_c2 B0_c3 B0_f0 B0_f1 B0_f2 B0_f3 B0_lt
  clear B1_c0 B1_c1 B1_c2 B1_c3 B1_f0 B1_f1 B1_f2 B1_f3 B1_lt
  go_loopw [33] (fun i wr => ∃ (k : Nat) (os : List Nat), k ≤ n ∧ i = .int .i64 (k : Int) ∧ Hid (MulRel xs ys k os) ∧ Box wr (w.heap.size + 1 + 1 + 1) (u32s os).toArray 111 ∧ Ext w wr ∧ Box wr w.heap.size #[.slice a n c, .int .i64 e, .bool neg, .bool false] 29 ∧ Box wr (w.heap.size + 1) #[.slice a' n' c', .int .i64 e', .bool neg', .bool false] 29 ∧ Box wr (w.heap.size + 1 + 1) #[.slice none 0 0, .int .i64 0, .bool false, .bool false] 29) (fun i _ => (n - intOf i).toNat)
  case atStart => exact ⟨0, _, Nat.zero_le _, rfl, Lib.hid hrel0, G, hx0, B0, B1, B2⟩
  case round =>
    clear hrel0 B0 B1 B2 G hx0
    obtain ⟨k, os, hk, rfl, hrel, G, hx, B0, B1, B2⟩ := hrel
    by_cases hkn : k < n
    · obtain ⟨b, o, rfl, hc⟩ := hA.out k (by rw [← hla.out]; exact hkn)
      obtain ⟨x, hxd, hxl⟩ : ∃ x, xs.getD k 0 = x ∧ x < 4294967296 := ⟨_, rfl, HXL.out.getD (by omega) k⟩
      rw [hxd] at hc
      replace hc := hx.cell hc
      have HX := Lib.hid hxd; clear hxd
      have B1_c0 := B1.cell 0 rfl; have B1_c1 := B1.cell 1 rfl; have B1_c2 := B1.cell 2 rfl; have B1_c3 := B1.cell 3 rfl; have B1_f0 := B1.free 0; have B1_f1 := B1.free 1; have B1_f2 := B1.free 2; have B1_f3 := B1.free 3; have B1_lt := B1.lt
      go_wp2
      go_step3
      go_wp2
      clear B1_c0 B1_c1 B1_c2 B1_c3 B1_f0 B1_f1 B1_f2 B1_f3 B1_lt
      clear hc
      have hst : Hid (os.length = n + n' ∧ AllLt 4294967296 os ∧ InnerAt xs ys os k 0 0) := Lib.hid ⟨by rw [hrel.out.len, hla.out, hlb.out], hrel.out.lt, inner_start hrel.out.val⟩
      clear hrel
      go_loopw [42, 8] (fun i cr wr => ∃ (j cc : Nat) (os : List Nat), j ≤ n' ∧ i = .int .i64 (j : Int) ∧ cr = .int .u64 cc ∧ cc < 4294967296 ∧ Hid (os.length = n + n' ∧ AllLt 4294967296 os ∧ InnerAt xs ys os k j cc) ∧ Box wr (w.heap.size + 1 + 1 + 1) (u32s os).toArray 111 ∧ Ext w wr ∧ Box wr w.heap.size #[.slice (some ⟨b, o, none⟩) n c, .int .i64 e, .bool neg, .bool false] 29 ∧ Box wr (w.heap.size + 1) #[.slice a' n' c', .int .i64 e', .bool neg', .bool false] 29 ∧ Box wr (w.heap.size + 1 + 1) #[.slice none 0 0, .int .i64 0, .bool false, .bool false] 29) (fun i _ _ => (n' - intOf i).toNat)
      case atStart => exact ⟨0, 0, os, Nat.zero_le _, rfl, rfl, by omega, hst, G, hx, B0, B1, B2⟩
      case round =>
        clear hst B0 B1 B2 G hx
        obtain ⟨j, cc, os, hj, rfl, rfl, hcc, hrel, G, hx, B0, B1, B2⟩ := hrel
        by_cases hjn : j < n'
        · obtain ⟨b', o', rfl, hc⟩ := hB.out j (by rw [← hlb.out]; exact hjn)
          obtain ⟨y, hyd, hyl⟩ : ∃ y, ys.getD j 0 = y ∧ y < 4294967296 := ⟨_, rfl, HYL.out.getD (by omega) j⟩
          rw [hyd] at hc
          replace hc := hx.cell hc
          have HY := Lib.hid hyd; clear hyd
          obtain ⟨z, hzd, hzl⟩ : ∃ z, os.getD (k + j) 0 = z ∧ z < 4294967296 := ⟨_, rfl, hrel.out.2.1.getD (by omega) _⟩
          have hcz := G.cell_u32 (p := k + j) (by rw [hrel.out.1]; omega)
          rw [hzd] at hcz
          have HZ := Lib.hid hzd; clear hzd
          obtain ⟨t, htd⟩ : ∃ t, x * y = t := ⟨_, rfl⟩
          have htI : (x : Int) * (y : Int) = (t : Int) := by rw [← htd]; simp
          have htb : cc + (t + z) < 18446744073709551616 ∧ (cc + (t + z)) / 4294967296 < 4294967296 := by
            have := mul_bound hcc hxl hyl hzl
            rw [htd] at this; exact ⟨this.1, this.2.1⟩
          obtain ⟨htb1, htb2⟩ := htb
          have HT := Lib.hid htd; clear htd
          have hfz := G.free (k + j)
          go_wp2
          go_roundw
          case rel => exact ⟨j + 1, (cc + (t + z)) / 4294967296, os.set (k + j) ((cc + (t + z)) % 4294967296), by omega, by go_num, by go_num, by omega, inner_next HT.out HX.out HY.out HZ.out hrel (by rw [← hlb.out]; exact hjn) (by omega), G.set_u32 _ _ _ (by omega), hx.setCell (by simp <;> omega) _, B0.far (by simp <;> omega) _, B1.far (by simp <;> omega) _, B2.far (by simp) _⟩
          case measure => simp [intOf]; omega
        · have hjn' : n' = j := by omega
          subst hjn'
          have hP : Hid (os.length = n + n' ∧ AllLt 4294967296 os ∧ ofWords os + 2 ^ (32 * (k + n')) * cc = ofWords (xs.take (k + 1)) * ofWords ys) := inner_last hrel hlb.out (by rw [← hla.out]; exact hkn)
          have hPs : Hid (ofWords (xs.take (k + 1)) * ofWords ys < 2 ^ (32 * (k + 1 + n'))) := Lib.hid (by rw [hlb.out]; exact mul_size HXL.out HYL.out (by rw [← hla.out]; exact hkn))
          clear hrel
          have B1_c0 := B1.cell 0 rfl; have B1_c1 := B1.cell 1 rfl; have B1_c2 := B1.cell 2 rfl; have B1_c3 := B1.cell 3 rfl; have B1_f0 := B1.free 0; have B1_f1 := B1.free 1; have B1_f2 := B1.free 2; have B1_f3 := B1.free 3; have B1_lt := B1.lt
          go_wp2
          go_step3
          go_wp2
          clear B1_c0 B1_c1 B1_c2 B1_c3 B1_f0 B1_f1 B1_f2 B1_f3 B1_lt
          go_loopw [11, 8] (fun i cr wr => ∃ (p cc : Nat) (os : List Nat), p < n + n' ∧ i = .int .i64 (p : Int) ∧ cr = .int .u64 cc ∧ cc < 4294967296 ∧ Hid (os.length = n + n' ∧ AllLt 4294967296 os ∧ ofWords os + 2 ^ (32 * p) * cc = ofWords (xs.take (k + 1)) * ofWords ys) ∧ Box wr (w.heap.size + 1 + 1 + 1) (u32s os).toArray 111 ∧ Ext w wr ∧ Box wr w.heap.size #[.slice (some ⟨b, o, none⟩) n c, .int .i64 e, .bool neg, .bool false] 29 ∧ Box wr (w.heap.size + 1) #[.slice a' n' c', .int .i64 e', .bool neg', .bool false] 29 ∧ Box wr (w.heap.size + 1 + 1) #[.slice none 0 0, .int .i64 0, .bool false, .bool false] 29) (fun i _ _ => (n + n' - intOf i).toNat)
          case atStart => exact ⟨k + n', cc, os, by omega, by go_num, rfl, hcc, hP, G, hx, B0, B1, B2⟩
          case round =>
            clear hP B0 B1 B2 G hx
            obtain ⟨p, cc, os, hp, rfl, rfl, hcc, hrel, G, hx, B0, B1, B2⟩ := hrel
            obtain ⟨z, hzd, hzl⟩ : ∃ z, os.getD p 0 = z ∧ z < 4294967296 := ⟨_, rfl, hrel.out.2.1.getD (by omega) _⟩
            have hcz := G.cell_u32 (p := p) (by rw [hrel.out.1]; omega)
            rw [hzd] at hcz
            have HZ := Lib.hid hzd; clear hzd
            have hfz := G.free p
            have hnx : Hid ((os.set p ((cc + z) % 4294967296)).length = n + n' ∧ AllLt 4294967296 (os.set p ((cc + z) % 4294967296)) ∧ ofWords (os.set p ((cc + z) % 4294967296)) + 2 ^ (32 * (p + 1)) * ((cc + z) / 4294967296) = ofWords (xs.take (k + 1)) * ofWords ys) := carry_next hrel HZ.out hp
            clear hrel
            have G' : Box (wr.setCell ⟨w.heap.size + 1 + 1 + 1, p, none⟩ (.int .u32 (((cc : Int) + z) % 4294967296))) (w.heap.size + 1 + 1 + 1) (u32s (os.set p ((cc + z) % 4294967296))).toArray 111 := G.set_u32 _ _ _ (by omega)
            clear G
            have hq : (cc + z) / 4294967296 < 2 := by omega
            by_cases hz : (cc + z) / 4294967296 = 0
            · have hzI : (((cc : Int) + z) / 4294967296 == 0) = true := by simp; omega
              have hlt : cc + z < 4294967296 := by omega
              go_wp2
              simp only [Exit.noGoto]
              go_wp2
              rw [Nat.mod_eq_of_lt hlt] at hnx G'
              rw [Int.emod_eq_of_lt (by omega) (by omega)] at G'
              go_roundw
              case rel => exact ⟨k + 1, os.set p (cc + z), by omega, by go_num, carry_last hnx hz hla.out hlb.out, G', hx.setCell (by simp <;> omega) _, B0.far (by simp <;> omega) _, B1.far (by simp <;> omega) _, B2.far (by simp) _⟩
              case measure => simp [intOf]; omega
            · have hzI : (((cc : Int) + z) / 4294967296 == 0) = false := by simp; omega
              have hroom : p + 1 < k + 1 + n' := carry_room hnx.out.2.2 hPs.out hz
              go_wp2
              go_roundw
              case rel => exact ⟨p + 1, (cc + z) / 4294967296, os.set p ((cc + z) % 4294967296), by omega, by go_num, by go_num, by omega, hnx, G', hx.setCell (by simp <;> omega) _, B0.far (by simp <;> omega) _, B1.far (by simp <;> omega) _, B2.far (by simp) _⟩
              case measure => simp [intOf]; omega
    · have hkn' : n = k := by omega
      subst hkn'
      have hmag : IsMag wr (.agg #[.slice (some ⟨w.heap.size + 1 + 1 + 1, 0, none⟩) (n + n') (n + n'), .int .i64 (e + e')]) os (e + e') := mul_mag hrel hla.out hlb.out G (by omega)
      have hval : Hid (magVal os (e + e') = magVal xs e * magVal ys e') := Lib.hid (magVal_mul (by rw [← hla.out]; exact hrel.out.val))
      have hol : os.length = n + n' := by rw [hrel.out.len, hla.out, hlb.out]
      obtain ⟨-, he1, he2⟩ := HBD.out
      obtain ⟨-, he1', he2'⟩ := HBD'.out
      have HOL := Lib.hid hol
      clear hrel hol G
      have B0_c0 := B0.cell 0 rfl; have B0_c1 := B0.cell 1 rfl; have B0_c2 := B0.cell 2 rfl; have B0_c3 := B0.cell 3 rfl; have B0_f0 := B0.free 0; have B0_f1 := B0.free 1; have B0_f2 := B0.free 2; have B0_f3 := B0.free 3; have B0_lt := B0.lt
      have B1_c0 := B1.cell 0 rfl; have B1_c1 := B1.cell 1 rfl; have B1_c2 := B1.cell 2 rfl; have B1_c3 := B1.cell 3 rfl; have B1_f0 := B1.free 0; have B1_f1 := B1.free 1; have B1_f2 := B1.free 2; have B1_f3 := B1.free 3; have B1_lt := B1.lt
      go_wp2_with fail
      clear B0_c0 B0_c1 B0_c2 B0_c3 B0_f0 B0_f1 B0_f2 B0_f3 B0_lt
      clear B1_c0 B1_c1 B1_c2 B1_c3 B1_f0 B1_f1 B1_f2 B1_f3 B1_lt
      refine (made_any (neg != neg') _ (hT.ext hx) hmag (by have := HOL.out; omega) (by omega) (by omega)).mono ?_
      rintro ed w3 ⟨v4, rfl, hx3, hv4⟩
      rw [hval.out] at hv4
      obtain ⟨a4, n4, c4, e4, neg4, non4, rfl, -⟩ := hv4.shape
      replace B2 := B2.ext hx3
      have hx3' := hx.trans hx3
      clear hx3 B0 B1
      have hstore := hv4.store B2 a4 n4 c4 e4 neg4 non4
      have HST := Lib.hid hstore; clear hstore
      have B2_c0 := B2.cell 0 rfl; have B2_c1 := B2.cell 1 rfl; have B2_c2 := B2.cell 2 rfl; have B2_c3 := B2.cell 3 rfl; have B2_f0 := B2.free 0; have B2_f1 := B2.free 1; have B2_f2 := B2.free 2; have B2_f3 := B2.free 3; have B2_lt := B2.lt
      go_wp2
      refine bodyPost_ret (v := .agg #[.slice a4 n4 c4, .int .i64 e4, .bool neg4, .bool non4]) (by simp [results, Tryd.results29, go_sem, B2_c0, B2_c1, B2_c2, B2_c3]) rfl ?_
      exact Gives.mk _ (by (with_reducible (repeat (first | exact Ext.refl _ | exact hx3' | refine Ext.drewN ?_ _ | refine Ext.drew ?_ | refine Ext.alloc ?_ _ | refine Ext.setCell ?_ (by first | (dsimp only; omega) | simp | (simp; omega)) _)))) HST.out

noncomputable def mulO : Option Rat → Option Rat → Option Rat
  | some x, some y => mk (x * y)
  | _, _ => none
/-- Num.Mul. -/
theorem mul_any {v v' : Value} {q q' : Option Rat} (w : World) (hT : Tab w) (h : IsNum w v q) (h' : IsNum w v' q') :
    Calls Tryd.prog 29 #[v, v'] w (Gives w fun w' r => IsNum w' r (mulO q q')) := by
  cases q with
  | none =>
    subst h
    obtain ⟨a, n, c, e, neg, non, rfl, -⟩ := h'.shape
    exact mul_none _ _ _ _ _ _ _ _ _ _ _ _ w rfl
  | some q =>
    cases q' with
    | none =>
      subst h'
      obtain ⟨a, n, c, e, neg, non, rfl, -⟩ := h.shape
      exact mul_none _ _ _ _ _ _ _ _ _ _ _ _ w (by simp)
    | some q' =>
      obtain ⟨xs, e, neg, s, rfl, hc, hlt, hok, rfl⟩ := h
      obtain ⟨xs', e', neg', s', rfl, hc', hlt', hok', rfl⟩ := h'
      have hb := hok.bd hlt
      have hb' := hok'.bd hlt'
      have e1 : sgn neg (magVal xs e) * sgn neg' (magVal xs' e') = sgn (neg != neg') (magVal xs e * magVal xs' e') := by
        unfold sgn; cases neg <;> cases neg' <;> simp <;> grind
      show Calls _ _ _ _ (Gives w fun w' r => IsNum w' r (mk (sgn neg (magVal xs e) * sgn neg' (magVal xs' e'))))
      rw [e1]
      have hcc := hc
      have hcc' := hc'
      obtain ⟨a, c, rfl, -⟩ := hc
      obtain ⟨a', c', rfl, -⟩ := hc'
      simp only [u32s_length] at hcc hcc' ⊢
      exact mul_core xs xs' a a' _ _ c c' e e' neg neg' w hT (Lib.hid hcc.hasWords) (Lib.hid hcc'.hasWords) (Lib.hid rfl) (Lib.hid rfl) hlt hlt' hb hb'
end Go.Proofs.YthnmjkjllhlcjaaDoor
