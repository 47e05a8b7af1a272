/- The walk of whole.Num.Shift; no condition. -/
import Derived.Test.YthnmjkjllhlcjaaDoorMulW
import Derived.Test.YthnmjkjllhlcjaaDoorShiftP
import Derived.Test.YthnmjkjllhlcjaaDoorShelf
import Derived.BigQuiet
namespace Go.Proofs.YthnmjkjllhlcjaaDoor
open Go Go.RowKit Go.Steady Go.Tri
set_option maxRecDepth 100000

theorem ownsRow_base {w : World} {B B' : Nat} {t : TypeId} {sz : Nat} {v : Value} {n : Nat} {us : List Value} (h : w.ownsRow B t sz v n us) (hB : B' ≤ B) : w.ownsRow B' t sz v n us := by
  obtain ⟨hl, hcase⟩ := h
  refine ⟨hl, ?_⟩
  rcases hcase with h | ⟨g, cap, cur, h1, h2, h3⟩
  · exact .inl h
  · exact .inr ⟨g, cap, cur, h1, Nat.le_trans hB h2, h3⟩
theorem clone_any {xs : List Nat} {a : Option Addr} {c : Nat} {B : Nat} (w : World) (h : Cells w (.slice a xs.length c) (u32s xs)) (h0 : 0 < xs.length) (hl : xs.length ≤ 1000000000) (hB : B ≤ w.heap.size) :
    Calls Tryd.prog 98 #[.slice a xs.length c] w (Gives w fun w' v => w'.ownsRow B 111 1 v xs.length (u32s xs)) := by
  obtain ⟨b, o, c', hs, hlc, hcc, hc⟩ := h.open_u32 h0
  cases hs
  obtain ⟨i0, hi, hz0, hz1, hz2⟩ := info_parts info_u32
  refine (Tryd.slices_Clone i0 (.int .u32 0) 1 4 hi hz0 hz1 hz2 rfl (by omega) (by intro w; exact Tryd.sizeOf111 w) b o xs.length c (u32s xs) w (by simp) (by unfold maxLen; omega) (by omega) (fun j u hj => ?_) (fun u hu => ?_)).mono ?_
  · simp only [u32s, List.getElem?_map, Option.map_eq_some_iff] at hj
    obtain ⟨x, hx, rfl⟩ := hj
    have hjl : j < xs.length := (List.getElem?_eq_some_iff.1 hx).1
    rw [hc j hjl, List.getD_eq_getElem?_getD, hx]
    rfl
  · simp only [u32s, List.mem_map] at hu
    obtain ⟨x, -, rfl⟩ := hu
    rfl
  · rintro e w' ⟨v', rfl, hown, -, hx⟩
    exact ⟨v', rfl, hx, ownsRow_base hown hB⟩

theorem ownsRow_slice {w : World} {B : Nat} {t : TypeId} {v : Value} {n : Nat} {us : List Value} (h : w.ownsRow B t 1 v n us) (h0 : 0 < n) : ∃ g cap, v = .slice (some ⟨g, 0, none⟩) n cap ∧ w.ownsRow B t 1 (.slice (some ⟨g, 0, none⟩) n cap) n us := by
  obtain ⟨-, hcase⟩ := id h
  rcases hcase with ⟨-, h2⟩ | ⟨g, cap, cur, h1, -⟩
  · omega
  · exact ⟨g, cap, h1, by rw [← h1]; exact h⟩
theorem ownsRow_type {w : World} {B g : Nat} {t t' : TypeId} {n cap : Nat} {us : List Value} {cs : Array Value} (h : w.ownsRow B t 1 (.slice (some ⟨g, 0, none⟩) n cap) n us) (hb : Box w g cs t') (hne : t ≠ t') : False := by
  rcases h.2 with ⟨h1, -⟩ | ⟨g', cap', cur, h1, -, hg, -⟩
  · simp at h1
  · simp only [Value.slice.injEq, Option.some.injEq, Addr.mk.injEq] at h1
    obtain ⟨⟨rfl, -⟩, -⟩ := h1
    unfold Box at hb
    rw [hb] at hg
    simp only [Option.some.injEq, Obj.cells.injEq] at hg
    exact hne hg.2.1.symm
theorem ownsRow_far {w : World} {B g : Nat} {t : TypeId} {n cap : Nat} {us : List Value} (h : w.ownsRow B t 1 (.slice (some ⟨g, 0, none⟩) n cap) n us) {p : Addr} (hp : g ≠ p.block) (u : Value) : (w.setCell p u).ownsRow B t 1 (.slice (some ⟨g, 0, none⟩) n cap) n us := by
  obtain ⟨hl, hcase⟩ := h
  refine ⟨hl, ?_⟩
  rcases hcase with ⟨h1, -⟩ | ⟨g', cap', cur, h1, h2, hg, h3⟩
  · simp at h1
  · have h1' := h1
    simp only [Value.slice.injEq, Option.some.injEq, Addr.mk.injEq] at h1
    obtain ⟨⟨rfl, -⟩, -⟩ := h1
    exact .inr ⟨g, cap', cur, h1', h2, (Below.heap_setCell w p u g hp).trans hg, h3⟩
/-- A row of words of which the head is told. -/
def Row (w : World) (g : Nat) (os : List Nat) (t : TypeId) : Prop := ∃ rest : List Value, Box w g (u32s os ++ rest).toArray t
theorem ownsRow_row {w : World} {B g : Nat} {t : TypeId} {n cap : Nat} {us : List Value} (h : w.ownsRow B t 1 (.slice (some ⟨g, 0, none⟩) n cap) n us) : ∃ rest : List Value, Box w g (us ++ rest).toArray t := by
  rcases h.2 with ⟨h1, -⟩ | ⟨g', cap', cur, h1, -, hg, h2, h3, h4, h5⟩
  · simp at h1
  · simp only [Value.slice.injEq, Option.some.injEq, Addr.mk.injEq] at h1
    obtain ⟨⟨rfl, -⟩, -⟩ := h1
    refine ⟨cur.toList.drop (n * 1), ?_⟩
    unfold Box
    rw [hg, ← h5, List.take_append_drop, Array.toArray_toList]
theorem ownsRow_cap {w : World} {B g : Nat} {t : TypeId} {n cap : Nat} {us : List Value} (h : w.ownsRow B t 1 (.slice (some ⟨g, 0, none⟩) n cap) n us) : n ≤ cap ∧ cap ≤ 9223372036854775807 := by
  rcases h.2 with ⟨h1, -⟩ | ⟨g', cap', cur, h1, -, hg, h2, h3, h4, h5⟩
  · simp at h1
  · simp only [Value.slice.injEq, Option.some.injEq, Addr.mk.injEq] at h1
    obtain ⟨⟨rfl, -⟩, -, rfl⟩ := h1
    exact ⟨h2, by unfold maxLen at h3; omega⟩
theorem Row.far {w : World} {g : Nat} {os : List Nat} {t : TypeId} (h : Row w g os t) {p : Addr} (hp : g ≠ p.block) (u : Value) : Row (w.setCell p u) g os t := by
  obtain ⟨rest, h⟩ := h; exact ⟨rest, h.far hp u⟩
theorem Row.ext {w w' : World} {g : Nat} {os : List Nat} {t : TypeId} (h : Row w g os t) (x : Ext w w') : Row w' g os t := by
  obtain ⟨rest, h⟩ := h; exact ⟨rest, h.ext x⟩
theorem Row.cell {w : World} {g : Nat} {os : List Nat} {t : TypeId} (h : Row w g os t) {p : Nat} (hp : p < os.length) : w.cell? ⟨g, p, none⟩ = some (.int .u32 (os.getD p 0 : Nat)) := by
  obtain ⟨rest, h⟩ := h
  exact h.cell p (by rw [List.getElem?_toArray, List.getElem?_append_left (by simpa using hp)]; simp [u32s, hp])
theorem Row.free {w : World} {g : Nat} {os : List Nat} {t : TypeId} (h : Row w g os t) (p : Nat) : w.frozen? ⟨g, p, none⟩ = false := by
  obtain ⟨rest, h⟩ := h; exact h.free p
theorem Row.set {w : World} {g : Nat} {os : List Nat} {t : TypeId} (h : Row w g os t) {p : Nat} (hp : p < os.length) (x : Nat) {X : Int} (hX : X = (x : Int)) : Row (w.setCell ⟨g, p, none⟩ (.int .u32 X)) g (os.set p x) t := by
  subst hX
  obtain ⟨rest, h⟩ := h
  refine ⟨rest, ?_⟩
  have := h.set p (.int .u32 (x : Int))
  rw [List.setIfInBounds_toArray, List.set_append_left _ _ (by simpa using hp)] at this
  simpa [u32s, List.map_set] using this
theorem Row.cells {w : World} {g n cap : Nat} {os : List Nat} {t : TypeId} (h : Row w g os t) (hn : os.length = n) (hc : n ≤ cap) (hm : cap ≤ 9223372036854775807) : Cells w (.slice (some ⟨g, 0, none⟩) n cap) (u32s os) := by
  refine ⟨_, _, by rw [u32s_length, hn], by rw [u32s_length, hn]; exact hc, hm, fun j u hj => ⟨g, 0, rfl, ?_⟩⟩
  rw [Nat.zero_add]
  obtain ⟨rest, h⟩ := h
  refine h.cell j ?_
  have hjl := (List.getElem?_eq_some_iff.1 hj).1
  rw [List.getElem?_toArray, ← hj, List.getElem?_append_left hjl]
theorem bits_or_u32_nat (a b : Nat) (ha : a < 4294967296) (hb : b < 4294967296) : bits .or .u32 (a : Int) (b : Int) = ((a ||| b : Nat) : Int) := by
  have hx : a ||| b < 2 ^ 32 := Nat.or_lt_two_pow (by omega) (by omega)
  have h1 : (BitVec.ofInt 32 (a : Int)).toNat = a := by rw [BitVec.toNat_ofInt]; omega
  have h2 : (BitVec.ofInt 32 (b : Int)).toNat = b := by rw [BitVec.toNat_ofInt]; omega
  show IntKind.u32.wrap ((BitVec.ofInt 32 a ||| BitVec.ofInt 32 b).toNat : Int) = _
  rw [BitVec.toNat_or, h1, h2, IntKind.wrap_u32]
  omega
theorem sh_or {x y r : Nat} (hy : y < 4294967296) (hr0 : 0 < r) (hr : r < 32) : bits BinOp.or IntKind.u32 ((x : Int) * 2 ^ r % 4294967296) ((y : Int) / 2 ^ (32 - r)) = ((x * 2 ^ r % 4294967296 + y / 2 ^ (32 - r) : Nat) : Int) := by
  have e1 : (4294967296 : Nat) = 2 ^ (32 - r) * 2 ^ r := by rw [← Nat.pow_add, show (32 - r) + r = 32 by omega]
  have h2 : x * 2 ^ r % 4294967296 = 2 ^ r * (x % 2 ^ (32 - r)) := by rw [e1, Nat.mul_mod_mul_right, Nat.mul_comm]
  have h3 : y / 2 ^ (32 - r) < 2 ^ r := by
    rw [Nat.div_lt_iff_lt_mul (Nat.two_pow_pos _), ← Nat.pow_add, show r + (32 - r) = 32 by omega]
    exact hy
  have h4 : x * 2 ^ r % 4294967296 < 4294967296 := Nat.mod_lt _ (by decide)
  have h5 : 2 ^ r ≤ 2 ^ 31 := Nat.pow_le_pow_right (by decide) (by omega)
  have c1 : (x : Int) * 2 ^ r % 4294967296 = ((x * 2 ^ r % 4294967296 : Nat) : Int) := by
    rw [Int.natCast_emod, Int.natCast_mul, Int.natCast_pow]; rfl
  have c2 : (y : Int) / 2 ^ (32 - r) = ((y / 2 ^ (32 - r) : Nat) : Int) := by
    rw [Int.natCast_ediv, Int.natCast_pow]; rfl
  rw [c1, c2, bits_or_u32_nat _ _ (by omega) (by omega), h2, Nat.two_pow_add_eq_or_of_lt h3]
theorem row_zero {wr : World} {g n r x : Nat} {ys : List Nat} {t : TypeId} (hx : ys.getD 0 0 = x) (h : Row wr g (mix ys r n 1) t) (hn : 0 < n) : Row (wr.setCell ⟨g, 0, none⟩ (.int .u32 ((x : Int) * 2 ^ r % 4294967296))) g (mix ys r n 0) t := by
  have := h.set (p := 0) (by rw [mix_len]; exact hn) (shWord ys r 0) (X := (x : Int) * 2 ^ r % 4294967296) (by
    unfold shWord
    rw [hx, if_pos rfl, Nat.add_zero, Int.natCast_emod, Int.natCast_mul, Int.natCast_pow]; rfl)
  rwa [mix_set] at this
theorem row_succ {wr : World} {g n r x y q : Nat} {ys : List Nat} {t : TypeId} (hx : ys.getD (q + 1) 0 = x) (hy : ys.getD q 0 = y) (hyl : y < 4294967296) (hr0 : 0 < r) (hr : r < 32) (h : Row wr g (mix ys r n (q + 1 + 1)) t) (hn : q + 1 < n) :
    Row (wr.setCell ⟨g, q + 1, none⟩ (.int .u32 (bits BinOp.or IntKind.u32 ((x : Int) * 2 ^ r % 4294967296) ((y : Int) / 2 ^ (32 - r))))) g (mix ys r n (q + 1)) t := by
  have := h.set (p := q + 1) (by rw [mix_len]; exact hn) (shWord ys r (q + 1)) (X := bits BinOp.or IntKind.u32 ((x : Int) * 2 ^ r % 4294967296) ((y : Int) / 2 ^ (32 - r))) (by
    rw [sh_or hyl hr0 hr]
    unfold shWord
    rw [hx, if_neg (by omega), Nat.add_sub_cancel, hy])
  rwa [mix_set] at this
theorem clone_of {xs : List Nat} {a : Option Addr} {n c : Nat} {B : Nat} {e : Int} (hn : Hid (n = xs.length)) (w : World) (h : IsMag w (.agg #[.slice a n c, .int .i64 e]) xs e) (h0 : 0 < n) (hl : n ≤ 1000000000) (hB : B ≤ w.heap.size) :
    Calls Tryd.prog 98 #[.slice a n c] w (Gives w fun w' v => w'.ownsRow B 111 1 v n (u32s xs)) := by
  obtain ⟨⟨s, hs, hc⟩, -⟩ := h
  have := hn.out
  subst this
  simp only [Value.agg.injEq, Array.mk.injEq, List.cons.injEq] at hs
  rw [← hs.1] at hc
  exact clone_any w hc h0 hl hB

noncomputable def shiftO (q : Option Rat) (k : Int) : Option Rat := q.bind fun x => mk (x * p2 k)

theorem shift_none (a : Option Addr) (n c : Nat) (e k : Int) (neg : Bool) (w : World) :
    Calls Tryd.prog 31 #[.agg #[.slice a n c, .int .i64 e, .bool neg, .bool true], .int .i64 k] w (Gives w fun _ v => v = .agg #[.slice a n c, .int .i64 e, .bool neg, .bool true]) := by
  have B0 : Box ((w.alloc (.cells #[.slice a n c, .int .i64 e, .bool neg, .bool true] 29)).alloc (.cells #[.slice none 0 0, .int .i64 0, .bool false, .bool false] 29)) (w.heap.size) #[.slice a n c, .int .i64 e, .bool neg, .bool true] 29 := ((Box.new w #[.slice a n c, .int .i64 e, .bool neg, .bool true] 29).alloc (.cells #[.slice none 0 0, .int .i64 0, .bool false, .bool false] 29)); have B1 : Box ((w.alloc (.cells #[.slice a n c, .int .i64 e, .bool neg, .bool true] 29)).alloc (.cells #[.slice none 0 0, .int .i64 0, .bool false, .bool false] 29)) (w.heap.size + 1) #[.slice none 0 0, .int .i64 0, .bool false, .bool false] 29 := (by have hbx := (Box.new (w.alloc (.cells #[.slice a n c, .int .i64 e, .bool neg, .bool true] 29)) #[.slice none 0 0, .int .i64 0, .bool false, .bool false] 29); simpa only [World.size_alloc] using hbx); have hx0 : Ext w ((w.alloc (.cells #[.slice a n c, .int .i64 e, .bool neg, .bool true] 29)).alloc (.cells #[.slice none 0 0, .int .i64 0, .bool false, .bool false] 29)) := (((Ext.refl w).alloc (.cells #[.slice a n c, .int .i64 e, .bool neg, .bool true] 29)).alloc (.cells #[.slice none 0 0, .int .i64 0, .bool false, .bool false] 29))
  go_enter Tryd.func31, Tryd.ntmps31
  go_wp2
  refine bodyPost_ret (v := .agg #[.slice a n c, .int .i64 e, .bool neg, .bool true]) (by simp [results, Tryd.results31, go_sem]) rfl ?_
  exact Gives.mk _ (by (with_reducible (repeat (first | exact Ext.refl _ | refine Ext.drewN ?_ _ | refine Ext.drew ?_ | refine Ext.alloc ?_ _ | refine Ext.setCell ?_ (by first | (dsimp only; omega) | simp | (simp; omega)) _)))) rfl
theorem shift_zero (a : Option Addr) (c : Nat) (e k : Int) (neg : Bool) (w : World) :
    Calls Tryd.prog 31 #[.agg #[.slice a 0 c, .int .i64 e, .bool neg, .bool false], .int .i64 k] w (Gives w fun _ v => v = .agg #[.slice a 0 c, .int .i64 e, .bool neg, .bool false]) := by
  have B0 : Box ((w.alloc (.cells #[.slice a 0 c, .int .i64 e, .bool neg, .bool false] 29)).alloc (.cells #[.slice none 0 0, .int .i64 0, .bool false, .bool false] 29)) (w.heap.size) #[.slice a 0 c, .int .i64 e, .bool neg, .bool false] 29 := ((Box.new w #[.slice a 0 c, .int .i64 e, .bool neg, .bool false] 29).alloc (.cells #[.slice none 0 0, .int .i64 0, .bool false, .bool false] 29)); have B1 : Box ((w.alloc (.cells #[.slice a 0 c, .int .i64 e, .bool neg, .bool false] 29)).alloc (.cells #[.slice none 0 0, .int .i64 0, .bool false, .bool false] 29)) (w.heap.size + 1) #[.slice none 0 0, .int .i64 0, .bool false, .bool false] 29 := (by have hbx := (Box.new (w.alloc (.cells #[.slice a 0 c, .int .i64 e, .bool neg, .bool false] 29)) #[.slice none 0 0, .int .i64 0, .bool false, .bool false] 29); simpa only [World.size_alloc] using hbx); have hx0 : Ext w ((w.alloc (.cells #[.slice a 0 c, .int .i64 e, .bool neg, .bool false] 29)).alloc (.cells #[.slice none 0 0, .int .i64 0, .bool false, .bool false] 29)) := (((Ext.refl w).alloc (.cells #[.slice a 0 c, .int .i64 e, .bool neg, .bool false] 29)).alloc (.cells #[.slice none 0 0, .int .i64 0, .bool false, .bool false] 29))
  go_enter Tryd.func31, Tryd.ntmps31
  go_wp2
  refine bodyPost_ret (v := .agg #[.slice a 0 c, .int .i64 e, .bool neg, .bool false]) (by simp [results, Tryd.results31, go_sem]) rfl ?_
  exact Gives.mk _ (by (with_reducible (repeat (first | exact Ext.refl _ | refine Ext.drewN ?_ _ | refine Ext.drew ?_ | refine Ext.alloc ?_ _ | refine Ext.setCell ?_ (by first | (dsimp only; omega) | simp | (simp; omega)) _)))) rfl
theorem shift_far (a : Option Addr) (n c : Nat) (e k : Int) (neg : Bool) (w : World) (hn : 0 < n) (hk : k < -196608 ∨ 196608 < k) :
    Calls Tryd.prog 31 #[.agg #[.slice a n c, .int .i64 e, .bool neg, .bool false], .int .i64 k] w (Gives w fun _ v => v = .agg #[.slice none 0 0, .int .i64 0, .bool false, .bool true]) := by
  have B0 : Box ((w.alloc (.cells #[.slice a n c, .int .i64 e, .bool neg, .bool false] 29)).alloc (.cells #[.slice none 0 0, .int .i64 0, .bool false, .bool false] 29)) (w.heap.size) #[.slice a n c, .int .i64 e, .bool neg, .bool false] 29 := ((Box.new w #[.slice a n c, .int .i64 e, .bool neg, .bool false] 29).alloc (.cells #[.slice none 0 0, .int .i64 0, .bool false, .bool false] 29)); have B1 : Box ((w.alloc (.cells #[.slice a n c, .int .i64 e, .bool neg, .bool false] 29)).alloc (.cells #[.slice none 0 0, .int .i64 0, .bool false, .bool false] 29)) (w.heap.size + 1) #[.slice none 0 0, .int .i64 0, .bool false, .bool false] 29 := (by have hbx := (Box.new (w.alloc (.cells #[.slice a n c, .int .i64 e, .bool neg, .bool false] 29)) #[.slice none 0 0, .int .i64 0, .bool false, .bool false] 29); simpa only [World.size_alloc] using hbx); have hx0 : Ext w ((w.alloc (.cells #[.slice a n c, .int .i64 e, .bool neg, .bool false] 29)).alloc (.cells #[.slice none 0 0, .int .i64 0, .bool false, .bool false] 29)) := (((Ext.refl w).alloc (.cells #[.slice a n c, .int .i64 e, .bool neg, .bool false] 29)).alloc (.cells #[.slice none 0 0, .int .i64 0, .bool false, .bool false] 29))
  have h0 : ((n : Int) == 0) = false := by simp; omega
  rcases hk with hk | hk
  · have hk' : ¬ 196608 < k := by omega
    go_enter Tryd.func31, Tryd.ntmps31
    go_wp2
    refine bodyPost_ret (v := .agg #[.slice none 0 0, .int .i64 0, .bool false, .bool true]) (by simp [results, Tryd.results31, go_sem]) rfl ?_
    exact Gives.mk _ (by (with_reducible (repeat (first | exact Ext.refl _ | refine Ext.drewN ?_ _ | refine Ext.drew ?_ | refine Ext.alloc ?_ _ | refine Ext.setCell ?_ (by first | (dsimp only; omega) | simp | (simp; omega)) _)))) rfl
  · go_enter Tryd.func31, Tryd.ntmps31
    go_wp2
    refine bodyPost_ret (v := .agg #[.slice none 0 0, .int .i64 0, .bool false, .bool true]) (by simp [results, Tryd.results31, go_sem]) rfl ?_
    exact Gives.mk _ (by (with_reducible (repeat (first | exact Ext.refl _ | refine Ext.drewN ?_ _ | refine Ext.drew ?_ | refine Ext.alloc ?_ _ | refine Ext.setCell ?_ (by first | (dsimp only; omega) | simp | (simp; omega)) _)))) rfl

set_option maxHeartbeats 1600000 in
theorem shift_core (xs : List Nat) (a : Option Addr) (n c : Nat) (e k : Int) (neg : Bool) (w : World) (hT : Tab w) (hn : 0 < n) (hk0 : -196608 ≤ k) (hk1 : k ≤ 196608) (hm : IsMag w (.agg #[.slice a n c, .int .i64 e]) xs e) (hl : Hid (n = xs.length)) (hnb : n ≤ 1000000000) (he : -1000000000 ≤ e) (he1 : e ≤ 1000000000) :
    Calls Tryd.prog 31 #[.agg #[.slice a n c, .int .i64 e, .bool neg, .bool false], .int .i64 k] w (Gives w fun w' v => IsNum w' v (mk (sgn neg (magVal xs e * p2 k)))) := by
  have h0 : ((n : Int) == 0) = false := by simp; omega
  have hk2 : ¬ 196608 < k := by omega
  have hk3 : ¬ k < -196608 := by omega
  have hand := and31 k
  generalize hr : (k % 32).toNat = r at hand
  have HR := Lib.hid hr; clear hr
  obtain ⟨i0, hi, hz0, hz1, hz2⟩ := info_parts info_u32
  have B0 : Box ((w.alloc (.cells #[.slice a n c, .int .i64 e, .bool neg, .bool false] 29)).alloc (.cells #[.slice none 0 0, .int .i64 0, .bool false, .bool false] 29)) (w.heap.size) #[.slice a n c, .int .i64 e, .bool neg, .bool false] 29 := ((Box.new w #[.slice a n c, .int .i64 e, .bool neg, .bool false] 29).alloc (.cells #[.slice none 0 0, .int .i64 0, .bool false, .bool false] 29)); have B1 : Box ((w.alloc (.cells #[.slice a n c, .int .i64 e, .bool neg, .bool false] 29)).alloc (.cells #[.slice none 0 0, .int .i64 0, .bool false, .bool false] 29)) (w.heap.size + 1) #[.slice none 0 0, .int .i64 0, .bool false, .bool false] 29 := (by have hbx := (Box.new (w.alloc (.cells #[.slice a n c, .int .i64 e, .bool neg, .bool false] 29)) #[.slice none 0 0, .int .i64 0, .bool false, .bool false] 29); simpa only [World.size_alloc] using hbx); have hx0 : Ext w ((w.alloc (.cells #[.slice a n c, .int .i64 e, .bool neg, .bool false] 29)).alloc (.cells #[.slice none 0 0, .int .i64 0, .bool false, .bool false] 29)) := (((Ext.refl w).alloc (.cells #[.slice a n c, .int .i64 e, .bool neg, .bool false] 29)).alloc (.cells #[.slice none 0 0, .int .i64 0, .bool false, .bool false] 29))
  go_enter Tryd.func31, Tryd.ntmps31
  go_wp2
  refine wp_steady_tail 13 12 85 (by kernel_rfl) (by as_aux_lemma => kernel_rfl) rfl rfl ?_
  simp only [List.take_succ_cons, List.take_zero, List.drop_succ_cons, List.drop_zero, List.map_cons, List.map_nil]
  refine walk_q [(2, none)] (by kernel_rfl) rfl ?_
  apply Exists.intro
  refine ⟨fun b w' hx hs => ?_, ?_⟩
  · obtain ⟨h0, -⟩ := hs
    change _ = _ at h0
    rw [eval_tmp] at h0
    go_simp
    try go_ints
    rfl
  refine walk_q [(28, some 0)] (by kernel_rfl) rfl ?_
  apply Exists.intro
  refine ⟨fun b w' hx hs => ?_, ?_⟩
  · obtain ⟨h0, -⟩ := hs
    change _ = _ at h0
    rw [eval_tmp] at h0
    go_simp
    try go_ints
    rfl
  refine walk_q [(29, some 0)] (by kernel_rfl) rfl ?_
  apply Exists.intro
  refine ⟨fun b w' hx hs => ?_, ?_⟩
  · obtain ⟨h0, -⟩ := hs
    change _ = _ at h0
    rw [eval_tmp] at h0
    have hx_B0 := B0.ext hx
    have kB0_0 := hx_B0.cell 0 rfl
    have kB0_1 := hx_B0.cell 1 rfl
    have kB0_2 := hx_B0.cell 2 rfl
    have kB0_3 := hx_B0.cell 3 rfl
    go_simp
    try go_ints
    rfl
  refine walk_c [(30, some 0)] (by kernel_rfl) rfl (fun w' v => ∃ g cap, v = .slice (some ⟨g, 0, none⟩) n cap ∧ w'.ownsRow (w.heap.size + 1 + 1) 111 1 (.slice (some ⟨g, 0, none⟩) n cap) n (u32s xs)) (fun _ _ _ x h => by obtain ⟨g, cap, h1, h2⟩ := h; exact ⟨g, cap, h1, ownsRow_ext h2 x⟩) (fun b w' hx hs => ?_) ?_
  · as_aux_lemma =>
      obtain ⟨h0, -⟩ := hs
      change _ = _ at h0
      rw [eval_tmp] at h0
      go_simp
      exact upon_enter ((clone_of hl _ (hm.ext (hx0.trans hx)) hn hnb (by have := hx.size; simpa using this)).mono fun _ _ ⟨v, h1, h2, h3⟩ => ⟨v, h1, h2, ownsRow_slice h3 hn⟩)
  refine walk_q [(2, none)] (by kernel_rfl) rfl ?_
  apply Exists.intro
  refine ⟨fun b w' hx hs => ?_, ?_⟩
  · obtain ⟨h0, -⟩ := hs
    change _ = _ at h0
    rw [eval_tmp] at h0
    go_simp
    try go_ints
    rfl
  refine walk_q [(32, some 0)] (by kernel_rfl) rfl ?_
  apply Exists.intro
  refine ⟨fun b w' hx hs => ?_, ?_⟩
  · obtain ⟨h0, -⟩ := hs
    change _ = _ at h0
    rw [eval_tmp] at h0
    go_simp
    try go_ints
    rfl
  refine walk_q [(33, some 0)] (by kernel_rfl) rfl ?_
  apply Exists.intro
  refine ⟨fun b w' hx hs => ?_, ?_⟩
  · obtain ⟨h0, -⟩ := hs
    change _ = _ at h0
    rw [eval_tmp] at h0
    have hx_B0 := B0.ext hx
    have kB0_0 := hx_B0.cell 0 rfl
    have kB0_1 := hx_B0.cell 1 rfl
    have kB0_2 := hx_B0.cell 2 rfl
    have kB0_3 := hx_B0.cell 3 rfl
    go_simp
    try go_ints
    rfl
  refine walk_q [(1, none)] (by kernel_rfl) rfl ?_
  apply Exists.intro
  refine ⟨fun b w' hx hs => ?_, ?_⟩
  · obtain ⟨h0, -⟩ := hs
    change _ = _ at h0
    rw [eval_tmp] at h0
    go_simp
    try go_ints
    rfl
  refine walk_q [(35, some 0)] (by kernel_rfl) rfl ?_
  apply Exists.intro
  refine ⟨fun b w' hx hs => ?_, ?_⟩
  · obtain ⟨h0, -⟩ := hs
    change _ = _ at h0
    rw [eval_tmp] at h0
    go_simp
    try go_ints
    rfl
  refine walk_q [(34, some 2), (36, some 0)] (by kernel_rfl) rfl ?_
  apply Exists.intro
  refine ⟨fun b w' hx hs => ?_, ?_⟩
  · obtain ⟨h0, h1, -⟩ := hs
    change _ = _ at h0
    change _ = _ at h1
    rw [eval_tmp] at h0 h1
    go_simp
    try go_ints
    rfl
  refine walk_c [(31, some 6), (37, some 0)] (by kernel_rfl) rfl (fun w' v => ∃ g cap, v = .agg #[.slice (some ⟨g, 0, none⟩) n cap, .int .i64 (e + k / 32)] ∧ w'.ownsRow (w.heap.size + 1 + 1) 111 1 (.slice (some ⟨g, 0, none⟩) n cap) n (u32s xs)) (fun _ _ _ x h => by obtain ⟨g, cap, h1, h2⟩ := h; exact ⟨g, cap, h1, ownsRow_ext h2 x⟩) (fun b w' hx hs => ?_) ?_
  · as_aux_lemma =>
      obtain ⟨h0, h1, -⟩ := hs
      change _ = _ at h1
      rw [eval_tmp] at h0 h1
      obtain ⟨g, cap, h01, h02⟩ := h0
      go_simp
      exact ⟨Ext.refl _, _, _, rfl, h02⟩
  refine walk_c [] (by kernel_rfl) rfl (fun w' v => ∃ b, v = .pointer (some ⟨b, 0, none⟩) ∧ w.heap.size + 1 + 1 ≤ b ∧ Box w' b #[.slice none 0 0, .int .i64 0] 27) (fun _ _ _ x h => by obtain ⟨b, h1, h2, h3⟩ := h; exact ⟨b, h1, h2, h3.ext x⟩) (fun b w' hx hs => ?_) ?_
  · as_aux_lemma =>
      clear hs
      go_simp
      exact ⟨(Ext.refl _).alloc _, _, rfl, by have := hx.size; simpa using this, Box.new _ _ _⟩
  refine walk_end ?_
  intro w3 hx3
  intro v5 hv5
  intro v38 hv38
  rintro _ rfl
  rintro _ rfl
  rintro _ rfl
  rintro _ rfl
  rintro _ rfl
  rintro _ rfl
  intro v31 hv31
  rintro _ rfl
  rintro _ rfl
  rintro _ rfl
  unfold fin
  simp only [Act.put, List.setIfInBounds_toArray, List.set_cons_succ, List.set_cons_zero]
  obtain ⟨b, rfl, hb, B5⟩ := hv5
  obtain ⟨g, cap, rfl, hown⟩ := hv38
  clear hv31
  replace B0 := B0.ext hx3
  replace B1 := B1.ext hx3
  have hxw := hx0.trans hx3
  clear hx3 hx0
  have hbg : b ≠ g := fun h => by
    subst h
    exact (ownsRow_type hown B5 (by decide)).elim
  have hB0 : w.heap.size ≠ b := by omega
  have hB1 : w.heap.size + 1 ≠ b := by omega
  have B5_c0 := B5.cell 0 rfl; have B5_c1 := B5.cell 1 rfl; have B5_f0 := B5.free 0; have B5_f1 := B5.free 1; have B5_lt := B5.lt
  have hr32 : r < 32 := by have := HR.out; omega
  have hown5 : ((w3.setCell ⟨b, 0, none⟩ (.slice (some ⟨g, 0, none⟩) n cap)).setCell ⟨b, 1, none⟩ (.int .i64 (e + k / 32))).ownsRow (w.heap.size + 1 + 1) 111 1 (.slice (some ⟨g, 0, none⟩) n cap) n (u32s xs) := ownsRow_far (ownsRow_far hown hbg.symm _) hbg.symm _
  have hnew := cell_one_new ((w3.setCell ⟨b, 0, none⟩ (.slice (some ⟨g, 0, none⟩) n cap)).setCell ⟨b, 1, none⟩ (.int .i64 (e + k / 32))) (.int .u32 0) 111
  simp only [World.size_setCell] at hnew
  by_cases hr0 : r = 0
  · subst hr0
    clear hnew
    have HVAL : Hid (magVal xs (e + k / 32) = magVal xs e * p2 k) := Lib.hid (magVal_shift (r := 0) (by have := HR.out; omega) (by simp))
    have hmag : IsMag ((w3.setCell ⟨b, 0, none⟩ (.slice (some ⟨g, 0, none⟩) n cap)).setCell ⟨b, 1, none⟩ (.int .i64 (e + k / 32))) (.agg #[.slice (some ⟨g, 0, none⟩) n cap, .int .i64 (e + k / 32)]) xs (e + k / 32) := ⟨⟨_, rfl, ownsRow_cells hown5⟩, hm.lt⟩
    clear hown hown5
    have B0_c0 := B0.cell 0 rfl; have B0_c1 := B0.cell 1 rfl; have B0_c2 := B0.cell 2 rfl; have B0_c3 := B0.cell 3 rfl; have B0_f0 := B0.free 0; have B0_f1 := B0.free 1; have B0_f2 := B0.free 2; have B0_f3 := B0.free 3; have B0_lt := B0.lt
    go_wp2_with fail
    clear B0_c0 B0_c1 B0_c2 B0_c3 B0_f0 B0_f1 B0_f2 B0_f3 B0_lt
    clear B5_c0 B5_c1 B5_f0 B5_f1 B5_lt
    replace B1 := (B1.far (p := ⟨b, 0, none⟩) hB1 (.slice (some ⟨g, 0, none⟩) n cap)).far (p := ⟨b, 1, none⟩) hB1 (.int .i64 (e + k / 32))
    replace hxw := (hxw.setCell (p := ⟨b, 0, none⟩) (by show w.heap.size ≤ b; omega) (.slice (some ⟨g, 0, none⟩) n cap)).setCell (p := ⟨b, 1, none⟩) (by show w.heap.size ≤ b; omega) (.int .i64 (e + k / 32))
    refine (made_any neg _ (hT.ext hxw) hmag (by rw [← hl.out]; omega) (by omega) (by omega)).mono ?_
    rintro ed w6 ⟨v4, rfl, hx6, hv4⟩
    rw [HVAL.out] at hv4
    obtain ⟨a4, n4, c4, e4, neg4, non4, rfl, -⟩ := hv4.shape
    replace B1 := B1.ext hx6
    have hx7 := hxw.trans hx6
    clear hx6 B0
    have hstore := hv4.store B1 a4 n4 c4 e4 neg4 non4
    have HST := Lib.hid hstore; clear hstore
    have B1_c0 := B1.cell 0 rfl; have B1_c1 := B1.cell 1 rfl; have B1_c2 := B1.cell 2 rfl; have B1_c3 := B1.cell 3 rfl; have B1_f0 := B1.free 0; have B1_f1 := B1.free 1; have B1_f2 := B1.free 2; have B1_f3 := B1.free 3; have B1_lt := B1.lt
    go_wp2
    refine bodyPost_ret (v := .agg #[.slice a4 n4 c4, .int .i64 e4, .bool neg4, .bool non4]) (by simp [results, Tryd.results31, go_sem, B1_c0, B1_c1, B1_c2, B1_c3]) rfl ?_
    exact Gives.mk _ (by (with_reducible (repeat (first | exact Ext.refl _ | exact hx7 | refine Ext.drewN ?_ _ | refine Ext.drew ?_ | refine Ext.alloc ?_ _ | refine Ext.setCell ?_ (by first | (dsimp only; omega) | simp | (simp; omega)) _)))) HST.out
  · have hr1 : 0 < (r : Int) := by omega
    go_wp2_with (at_builtin; refine wpList_append_own _ rfl _ _ 25 rfl (w.heap.size + 1 + 1) 111 i0 (.int .u32 0) 1 4 Tryd.underlying25 hi hz0 hz1 hz2 rfl (by decide) _ _ _ rfl (hown5.alloc _) ⟨w3.heap.size, 0, none⟩ 1 1 [.int .u32 0] rfl rfl hnew (by simp [Value.oneCell']) (by unfold maxLen; omega) (by omega) (by simp; omega) ?_)
    clear hnew hown5
    clear B5_c0 B5_c1 B5_f0 B5_f1 B5_lt
    intro v6 w6 hown6 hgrow6 _
    have hg := (hown.lt g rfl).1
    have hne : ∀ b' : Nat, b' ≠ g → some b' ≠ (Value.slice (some ⟨g, 0, none⟩) n cap).ownBlock := fun b' h h' => h (by simpa [Value.ownBlock] using h')
    have hx6 : Ext w w6 := (((hxw.setCell (p := ⟨b, 0, none⟩) (by show w.heap.size ≤ b; omega) (.slice (some ⟨g, 0, none⟩) n cap)).setCell (p := ⟨b, 1, none⟩) (by show w.heap.size ≤ b; omega) (.int .i64 (e + k / 32))).alloc _).grown hgrow6 (fun k' hk' => by simp only [Value.ownBlock, Option.some.injEq] at hk'; omega)
    replace B0 := ((((B0.far (p := ⟨b, 0, none⟩) hB0 (.slice (some ⟨g, 0, none⟩) n cap)).far (p := ⟨b, 1, none⟩) hB0 (.int .i64 (e + k / 32))).alloc _).grown hgrow6 (hne _ (by omega)))
    replace B1 := ((((B1.far (p := ⟨b, 0, none⟩) hB1 (.slice (some ⟨g, 0, none⟩) n cap)).far (p := ⟨b, 1, none⟩) hB1 (.int .i64 (e + k / 32))).alloc _).grown hgrow6 (hne _ (by omega)))
    replace B5 := ((((B5.set 0 (.slice (some ⟨g, 0, none⟩) n cap)).set 1 (.int .i64 (e + k / 32))).alloc _).grown hgrow6 (hne _ hbg))
    simp only [List.setIfInBounds_toArray, List.set_cons_succ, List.set_cons_zero] at B5
    clear hgrow6 hne hg hown hxw hbg
    obtain ⟨g6, cap6, rfl, hown7⟩ := ownsRow_slice hown6 (by omega)
    clear hown6
    have hbg6 : b ≠ g6 := fun h => by
      subst h
      exact (ownsRow_type hown7 B5 (by decide)).elim
    have hg6 := (hown7.lt g6 rfl).1
    have hg6b : g6 ≠ b := fun h => hbg6 h.symm
    obtain ⟨hc1, hc2⟩ := ownsRow_cap hown7
    obtain ⟨rest, hrow⟩ := ownsRow_row hown7
    rw [show u32s xs ++ [.int .u32 0] = u32s (xs ++ [0]) by simp [u32s], ← mix_start (ys := xs ++ [0]) r, List.length_append, List.length_singleton, ← hl.out] at hrow
    replace hrow : Row w6 g6 (mix (xs ++ [0]) r (n + 1) (n + 1)) 111 := ⟨rest, hrow⟩
    have hys : AllLt 4294967296 (xs ++ [0]) := fun x hx => by
      rcases List.mem_append.1 hx with h | h
      · exact hm.lt x h
      · simp at h; omega
    have HYS := Lib.hid hys; clear hys
    have HVAL : Hid (magVal (mix (xs ++ [0]) r (n + 1) 0) (e + k / 32) = magVal xs e * p2 k) := Lib.hid (magVal_shift (r := r) (by have := HR.out; omega) (by rw [hl.out]; exact mix_val hr32))
    clear hown7
    have B5_c0 := B5.cell 0 rfl; have B5_c1 := B5.cell 1 rfl; have B5_f0 := B5.free 0; have B5_f1 := B5.free 1; have B5_lt := B5.lt
    go_wp2
    clear B5_c0 B5_c1 B5_f0 B5_f1 B5_lt
    replace hx6 := hx6.setCell (p := ⟨b, 0, none⟩) (by show w.heap.size ≤ b; omega) (.slice (some ⟨g6, 0, none⟩) (n + 1) cap6)
    replace B0 := B0.far (p := ⟨b, 0, none⟩) hB0 (.slice (some ⟨g6, 0, none⟩) (n + 1) cap6)
    replace B1 := B1.far (p := ⟨b, 0, none⟩) hB1 (.slice (some ⟨g6, 0, none⟩) (n + 1) cap6)
    replace B5 := B5.set 0 (.slice (some ⟨g6, 0, none⟩) (n + 1) cap6)
    simp only [List.setIfInBounds_toArray, List.set_cons_zero] at B5
    replace hrow := hrow.far (p := ⟨b, 0, none⟩) hg6b (.slice (some ⟨g6, 0, none⟩) (n + 1) cap6)
    go_loopw [7] (fun i wr => ∃ j : Nat, j ≤ n + 1 ∧ i = .int .i64 ((j : Int) - 1) ∧ Row wr g6 (mix (xs ++ [0]) r (n + 1) j) 111 ∧ Ext w wr ∧ Box wr w.heap.size #[.slice a n c, .int .i64 e, .bool neg, .bool false] 29 ∧ Box wr (w.heap.size + 1) #[.slice none 0 0, .int .i64 0, .bool false, .bool false] 29 ∧ Box wr b #[.slice (some ⟨g6, 0, none⟩) (n + 1) cap6, .int .i64 (e + k / 32)] 27) (fun i _ => (intOf i + 1).toNat)
    case atStart => exact ⟨n + 1, by omega, by go_num, hrow, hx6, B0, B1, B5⟩
    case round =>
      clear hrow hx6 B0 B1 B5
      obtain ⟨j, hj, rfl, hrow, hx6, B0, B1, B5⟩ := hrel
      cases j with
      | zero =>
        have B5_c0 := B5.cell 0 rfl; have B5_c1 := B5.cell 1 rfl; have B5_f0 := B5.free 0; have B5_f1 := B5.free 1; have B5_lt := B5.lt
        have B0_c0 := B0.cell 0 rfl; have B0_c1 := B0.cell 1 rfl; have B0_c2 := B0.cell 2 rfl; have B0_c3 := B0.cell 3 rfl; have B0_f0 := B0.free 0; have B0_f1 := B0.free 1; have B0_f2 := B0.free 2; have B0_f3 := B0.free 3; have B0_lt := B0.lt
        have hmag : IsMag wr (.agg #[.slice (some ⟨g6, 0, none⟩) (n + 1) cap6, .int .i64 (e + k / 32)]) (mix (xs ++ [0]) r (n + 1) 0) (e + k / 32) := ⟨⟨_, rfl, hrow.cells (mix_len _ _ _ _) hc1 hc2⟩, mix_lt HYS.out (by omega) hr32⟩
        clear hrow
        go_wp2_with fail
        clear B0_c0 B0_c1 B0_c2 B0_c3 B0_f0 B0_f1 B0_f2 B0_f3 B0_lt
        clear B5_c0 B5_c1 B5_f0 B5_f1 B5_lt
        refine (made_any neg _ (hT.ext hx6) hmag (by rw [mix_len]; omega) (by omega) (by omega)).mono ?_
        rintro ed w6 ⟨v4, rfl, hx8, hv4⟩
        rw [HVAL.out] at hv4
        obtain ⟨a4, n4, c4, e4, neg4, non4, rfl, -⟩ := hv4.shape
        replace B1 := B1.ext hx8
        have hx7 := hx6.trans hx8
        clear hx8 hx6 B0 B5
        have hstore := hv4.store B1 a4 n4 c4 e4 neg4 non4
        have HST := Lib.hid hstore; clear hstore
        have B1_c0 := B1.cell 0 rfl; have B1_c1 := B1.cell 1 rfl; have B1_c2 := B1.cell 2 rfl; have B1_c3 := B1.cell 3 rfl; have B1_f0 := B1.free 0; have B1_f1 := B1.free 1; have B1_f2 := B1.free 2; have B1_f3 := B1.free 3; have B1_lt := B1.lt
        go_wp2
        refine bodyPost_ret (v := .agg #[.slice a4 n4 c4, .int .i64 e4, .bool neg4, .bool non4]) (by simp [results, Tryd.results31, go_sem, B1_c0, B1_c1, B1_c2, B1_c3]) rfl ?_
        exact Gives.mk _ (by (with_reducible (repeat (first | exact Ext.refl _ | exact hx7 | refine Ext.drewN ?_ _ | refine Ext.drew ?_ | refine Ext.alloc ?_ _ | refine Ext.setCell ?_ (by first | (dsimp only; omega) | simp | (simp; omega)) _)))) HST.out
      | succ p =>
        have hpp : ((p + 1 : Nat) : Int) - 1 = (p : Int) := by omega
        rw [hpp]
        clear hpp
        have hcp := hrow.cell (p := p) (by rw [mix_len]; omega)
        rw [mix_getD (by omega), if_neg (by omega)] at hcp
        have hfp := hrow.free p
        obtain ⟨x, hxd, hxl⟩ : ∃ x, (xs ++ [0]).getD p 0 = x ∧ x < 4294967296 := ⟨_, rfl, HYS.out.getD (by omega) _⟩
        rw [hxd] at hcp
        have HX := Lib.hid hxd; clear hxd
        cases p with
        | zero =>
          have B5_c0 := B5.cell 0 rfl; have B5_c1 := B5.cell 1 rfl; have B5_f0 := B5.free 0; have B5_f1 := B5.free 1; have B5_lt := B5.lt
          go_wp2
          go_roundw
          case rel => exact ⟨0, by omega, by go_num, row_zero HX.out hrow (by omega), hx6.setCell (by show w.heap.size ≤ g6; omega) _, B0.far (by show w.heap.size ≠ g6; omega) _, B1.far (by show w.heap.size + 1 ≠ g6; omega) _, B5.far (by show b ≠ g6; omega) _⟩
          case measure => simp [intOf]
        | succ q =>
          have hcq := hrow.cell (p := q) (by rw [mix_len]; omega)
          rw [mix_getD (by omega), if_neg (by omega)] at hcq
          obtain ⟨y, hyd, hyl⟩ : ∃ y, (xs ++ [0]).getD q 0 = y ∧ y < 4294967296 := ⟨_, rfl, HYS.out.getD (by omega) _⟩
          rw [hyd] at hcq
          have HY := Lib.hid hyd; clear hyd
          have hq0 : (0 : Int) < ((q + 1 : Nat) : Int) := by omega
          have hqq : ((q + 1 : Nat) : Int) - 1 = (q : Int) := by omega
          have B5_c0 := B5.cell 0 rfl; have B5_c1 := B5.cell 1 rfl; have B5_f0 := B5.free 0; have B5_f1 := B5.free 1; have B5_lt := B5.lt
          go_wp2
          go_roundw
          case rel => exact ⟨q + 1, by omega, by go_num, row_succ HX.out HY.out hyl (by omega) hr32 hrow (by omega), hx6.setCell (by show w.heap.size ≤ g6; omega) _, B0.far (by show w.heap.size ≠ g6; omega) _, B1.far (by show w.heap.size + 1 ≠ g6; omega) _, B5.far (by show b ≠ g6; omega) _⟩
          case measure => simp [intOf]; omega

theorem NumOk.ne {xs : List Nat} {e : Int} {neg : Bool} (h : NumOk xs e neg) (h0 : 0 < xs.length) : sgn neg (magVal xs e) ≠ 0 := by
  rcases h with ⟨rfl, -⟩ | ⟨-, hf, -⟩
  · simp at h0
  · have := magVal_pos (e := e) hf
    unfold sgn
    cases neg <;> simp <;> grind
theorem gr_abs {q : Rat} {l : Int} (h0 : q ≠ 0) (h : Gr l q) : p2 (-l) ≤ q ∨ p2 (-l) ≤ -q := by
  obtain ⟨z, hz⟩ := h
  have hq : q = z * p2 (-l) := by rw [← hz, Rat.mul_assoc, p2_mul_neg, Rat.mul_one]
  have hp := p2_pos (-l)
  have hz0 : z ≠ 0 := fun h => h0 (by rw [hq, h]; simp)
  rcases Int.lt_or_gt_of_ne hz0 with h1 | h1
  · right
    have : (1 : Rat) ≤ ((-z : Int) : Rat) := by exact_mod_cast (by omega : (1 : Int) ≤ -z)
    have h2 := Rat.mul_le_mul_of_nonneg_right this (Rat.le_of_lt hp)
    rw [hq]
    rw [Rat.intCast_neg] at h2
    grind
  · left
    have : (1 : Rat) ≤ (z : Rat) := by exact_mod_cast (by omega : (1 : Int) ≤ z)
    have h2 := Rat.mul_le_mul_of_nonneg_right this (Rat.le_of_lt hp)
    rw [hq]
    grind
theorem shift_out {q : Rat} {k : Int} (h0 : q ≠ 0) (hf : Fits q) (hk : k < -196608 ∨ 196608 < k) : ¬ Fits (q * p2 k) := fun h => by
  have hk0 := p2_pos k
  rcases hk with hk | hk
  · rcases gr_abs (q := q * p2 k) (fun h => h0 ((Rat.mul_eq_zero.1 h).resolve_right (p2_ne k))) h.2 with h1 | h1
    · have h2 : q * p2 k < p2 65537 * p2 k := Rat.mul_lt_mul_of_pos_right hf.1.1 hk0
      rw [← p2_add] at h2
      have := p2_lt_iff.1 (Std.lt_of_le_of_lt h1 h2)
      omega
    · have h2 : -q * p2 k < p2 65537 * p2 k := Rat.mul_lt_mul_of_pos_right hf.1.2 hk0
      rw [← p2_add, Rat.neg_mul] at h2
      have := p2_lt_iff.1 (Std.lt_of_le_of_lt h1 h2)
      omega
  · rcases gr_abs h0 hf.2 with h1 | h1
    · have h2 : p2 (-65536) * p2 k ≤ q * p2 k := Rat.mul_le_mul_of_nonneg_right h1 (Rat.le_of_lt hk0)
      rw [← p2_add] at h2
      have := p2_lt_iff.1 (Std.lt_of_le_of_lt h2 h.1.1)
      omega
    · have h2 : p2 (-65536) * p2 k ≤ -q * p2 k := Rat.mul_le_mul_of_nonneg_right h1 (Rat.le_of_lt hk0)
      rw [← p2_add, Rat.neg_mul] at h2
      have := p2_lt_iff.1 (Std.lt_of_le_of_lt h2 h.1.2)
      omega
/-- Num.Shift. -/
theorem shift_any {v : Value} {q : Option Rat} (k : Int) (w : World) (hT : Tab w) (h : IsNum w v q) :
    Calls Tryd.prog 31 #[v, .int .i64 k] w (Gives w fun w' r => IsNum w' r (shiftO q k)) := by
  cases q with
  | none =>
    subst h
    exact (shift_none _ _ _ _ _ _ w).mono fun _ _ ⟨v, h1, h2, h3⟩ => ⟨v, h1, h2, h3⟩
  | some q =>
    have hf := h.fits
    have hk := h
    obtain ⟨xs, e, neg, s, rfl, hc, hlt, hok, rfl⟩ := h
    have hb := hok.bd hlt
    have hm : IsMag w (.agg #[s, .int .i64 e]) xs e := ⟨⟨s, rfl, hc⟩, hlt⟩
    obtain ⟨a, c, rfl, -⟩ := hc
    simp only [u32s_length] at hm hk ⊢
    show Calls _ _ _ _ (Gives w fun w' r => IsNum w' r (mk (sgn neg (magVal xs e) * p2 k)))
    rw [← sgn_mul]
    rcases hok.pos with ⟨rfl, h0⟩ | h0
    · refine (shift_zero _ _ _ _ _ w).mono fun _ _ ⟨v, h1, h2, h3⟩ => ⟨v, h1, h2, ?_⟩
      rw [h0, Rat.zero_mul, sgn_zero, mk_fits fits_zero, h3]
      rw [h0, sgn_zero] at hk
      exact hk.ext h2
    · by_cases hkk : k < -196608 ∨ 196608 < k
      · refine (shift_far _ _ _ _ _ _ w h0 hkk).mono fun _ _ ⟨v, h1, h2, h3⟩ => ⟨v, h1, h2, ?_⟩
        rw [sgn_mul, mk_none (shift_out (NumOk.ne hok h0) hf hkk)]
        exact h3
      · exact shift_core xs _ _ _ e k neg w hT h0 (by omega) (by omega) hm (Lib.hid rfl) hb.1 hb.2.1 hb.2.2
end Go.Proofs.YthnmjkjllhlcjaaDoor
