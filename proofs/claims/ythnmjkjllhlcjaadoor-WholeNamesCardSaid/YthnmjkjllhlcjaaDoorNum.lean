/- What a whole.Num stands for; the walk of whole.made; under bounds on lengths and exponents. -/
import Derived.Test.YthnmjkjllhlcjaaDoorTrim
import Derived.Test.YthnmjkjllhlcjaaDoorFl
namespace Go.Proofs.YthnmjkjllhlcjaaDoor
open Go Go.RowKit Go.Steady Go.Tri
set_option maxRecDepth 100000

def hiBit (xs : List Nat) (e : Int) : Int := 32 * (e + xs.length) - 1 - (32 - (Lib.bitLen (xs.getD (xs.length - 1) 0) : Nat))
def loBit (xs : List Nat) (e : Int) : Int := 32 * e + (Lib.ctz 32 (xs.getD 0 0) : Nat)
def NumOk (xs : List Nat) (e : Int) (neg : Bool) : Prop :=
  (xs = [] ∧ e = 0 ∧ neg = false) ∨ (0 < xs.length ∧ xs.getD 0 0 ≠ 0 ∧ xs.getD (xs.length - 1) 0 ≠ 0 ∧ hiBit xs e ≤ 65536 ∧ -65536 ≤ loBit xs e)
def IsNum (w : World) (v : Value) : Option Rat → Prop
  | none => v = .agg #[.slice none 0 0, .int .i64 0, .bool false, .bool true]
  | some q => ∃ xs e neg s, v = .agg #[s, .int .i64 e, .bool neg, .bool false] ∧ Cells w s (u32s xs) ∧ AllLt 4294967296 xs ∧ NumOk xs e neg ∧ q = sgn neg (magVal xs e)
theorem IsNum.ext {w w' : World} {v : Value} {q : Option Rat} (h : IsNum w v q) (x : Ext w w') : IsNum w' v q := by
  cases q with
  | none => exact h
  | some q =>
    obtain ⟨xs, e, neg, s, hv, hc, r⟩ := h
    exact ⟨xs, e, neg, s, hv, hc.ext x, r⟩
/-- A row of cells is untouched by a store into a block that holds none of its values. -/
theorem Cells.far {w : World} {v : Value} {us : List Value} (h : Cells w v us) {B : Nat} {cs : Array Value} {t : TypeId} (hb : Box w B cs t) (hd : ∀ u ∈ us, u ∉ cs) (p : Addr) (hp : p.block = B) (x : Value) : Cells (w.setCell p x) v us := by
  obtain ⟨a, c, hv, hl, hc, hu⟩ := h
  refine ⟨a, c, hv, hl, hc, fun j u hj => ?_⟩
  obtain ⟨b, o, ha, hcell⟩ := hu j u hj
  refine ⟨b, o, ha, ?_⟩
  have hne : b ≠ p.block := fun e => by
    subst hp; subst e
    unfold Box at hb
    unfold World.cell? at hcell
    rw [hb] at hcell
    simp at hcell
    exact hd u (List.mem_of_getElem? hj) (Array.mem_of_getElem? hcell)
  rw [← hcell]
  exact World.cell?_of_block (Below.heap_setCell w p x b hne)
theorem u32_not_mem {xs : List Nat} {cs : Array Value} (h : ∀ x : Int, Value.int .u32 x ∉ cs) : ∀ u ∈ u32s xs, u ∉ cs := fun u hu => by
  obtain ⟨x, -, rfl⟩ := List.mem_map.1 hu
  exact h x
theorem Cells.store4 {w : World} {v : Value} {xs : List Nat} (h : Cells w v (u32s xs)) {B : Nat} {a0 : Option Addr} {n0 c0 : Nat} {e0 : Int} {p0 r0 : Bool} {t : TypeId} (hb : Box w B #[.slice a0 n0 c0, .int .i64 e0, .bool p0, .bool r0] t) (a : Option Addr) (n c : Nat) (e : Int) (p r : Bool) :
    Cells ((((w.setCell ⟨B, 0, none⟩ (.slice a n c)).setCell ⟨B, 1, none⟩ (.int .i64 e)).setCell ⟨B, 2, none⟩ (.bool p)).setCell ⟨B, 3, none⟩ (.bool r)) v (u32s xs) := by
  have b1 := hb.set 0 (.slice a n c)
  have b2 := b1.set 1 (.int .i64 e)
  have b3 := b2.set 2 (.bool p)
  simp at b1 b2 b3
  exact ((((h.far hb (u32_not_mem (by simp)) _ rfl _).far b1 (u32_not_mem (by simp)) _ rfl _).far b2 (u32_not_mem (by simp)) _ rfl _).far b3 (u32_not_mem (by simp)) _ rfl _)
theorem Cells.store2 {w : World} {v : Value} {xs : List Nat} (h : Cells w v (u32s xs)) {B : Nat} {a0 : Option Addr} {n0 c0 : Nat} {e0 : Int} {t : TypeId} (hb : Box w B #[.slice a0 n0 c0, .int .i64 e0] t) (a : Option Addr) (n c : Nat) (e : Int) :
    Cells ((w.setCell ⟨B, 0, none⟩ (.slice a n c)).setCell ⟨B, 1, none⟩ (.int .i64 e)) v (u32s xs) := by
  have b1 := hb.set 0 (.slice a n c)
  simp at b1
  exact ((h.far hb (u32_not_mem (by simp)) _ rfl _).far b1 (u32_not_mem (by simp)) _ rfl _)
theorem IsNum.store {w : World} {v : Value} {q : Option Rat} (h : IsNum w v q) {B : Nat} {a0 : Option Addr} {n0 c0 : Nat} {e0 : Int} {p0 r0 : Bool} {t : TypeId} (hb : Box w B #[.slice a0 n0 c0, .int .i64 e0, .bool p0, .bool r0] t) (a : Option Addr) (n c : Nat) (e : Int) (p r : Bool) :
    IsNum ((((w.setCell ⟨B, 0, none⟩ (.slice a n c)).setCell ⟨B, 1, none⟩ (.int .i64 e)).setCell ⟨B, 2, none⟩ (.bool p)).setCell ⟨B, 3, none⟩ (.bool r)) v q := by
  cases q with
  | none => exact h
  | some q =>
    obtain ⟨xs, e', neg, s, hv, hc, rest⟩ := h
    exact ⟨xs, e', neg, s, hv, hc.store4 hb a n c e p r, rest⟩
theorem IsMag.store {w : World} {v : Value} {xs : List Nat} {e' : Int} (h : IsMag w v xs e') {B : Nat} {a0 : Option Addr} {n0 c0 : Nat} {e0 : Int} {t : TypeId} (hb : Box w B #[.slice a0 n0 c0, .int .i64 e0] t) (a : Option Addr) (n c : Nat) (e : Int) :
    IsMag ((w.setCell ⟨B, 0, none⟩ (.slice a n c)).setCell ⟨B, 1, none⟩ (.int .i64 e)) v xs e' := by
  obtain ⟨⟨s, hv, hs⟩, hlt⟩ := h
  exact ⟨⟨s, hv, hs.store2 hb a n c e⟩, hlt⟩
theorem isNum_zero (w : World) : IsNum w (.agg #[.slice none 0 0, .int .i64 0, .bool false, .bool false]) (some 0) :=
  ⟨[], 0, false, .slice none 0 0, rfl, Cells.nil w 0 (by omega) none, fun x hx => by simp at hx, .inl ⟨rfl, rfl, rfl⟩, by simp [sgn, magVal_nil]⟩

theorem getD_cut {xs : List Nat} {f l j : Nat} (hj : j < l - f) : ((xs.drop f).take (l - f)).getD j 0 = xs.getD (f + j) 0 := by
  rw [List.getD_eq_getElem?_getD, List.getElem?_take, if_pos hj, List.getElem?_drop, ← List.getD_eq_getElem?_getD]
theorem len_cut {xs : List Nat} {f l : Nat} (hl : l ≤ xs.length) (hfl : f ≤ l) : ((xs.drop f).take (l - f)).length = l - f := by
  rw [List.length_take, List.length_drop]; omega
theorem mem_cut {xs : List Nat} {f l : Nat} (h : AllLt 4294967296 xs) : AllLt 4294967296 ((xs.drop f).take (l - f)) := fun x hx => h x (List.mem_of_mem_drop (List.mem_of_mem_take hx))
theorem cells_cut {w : World} {b o c f l : Nat} {xs : List Nat} (hl : l ≤ xs.length) (hlc : xs.length ≤ c) (hfl : f ≤ l) (hcc : c ≤ 9223372036854775807)
    (hc : ∀ j, j < xs.length → w.cell? ⟨b, o + j, none⟩ = some (.int .u32 (xs.getD j 0 : Nat))) : Cells w (.slice (some ⟨b, o + f, none⟩) (l - f) (c - f)) (u32s ((xs.drop f).take (l - f))) := by
  refine ⟨some ⟨b, o + f, none⟩, c - f, by rw [u32s_length, len_cut hl hfl], by rw [u32s_length, len_cut hl hfl]; omega, by omega, fun j u hu => ⟨b, o + f, rfl, ?_⟩⟩
  have hj : j < l - f := by
    have := (List.getElem?_eq_some_iff.1 hu).1
    rwa [u32s_length, len_cut hl hfl] at this
  have h1 := hc (f + j) (by omega)
  rw [← Nat.add_assoc] at h1
  rw [h1, ← getD_cut hj]
  unfold u32s at hu
  rw [List.getElem?_map] at hu
  rw [List.getD_eq_getElem?_getD]
  cases h : ((xs.drop f).take (l - f))[j]? with
  | none => rw [h] at hu; cases hu
  | some x => rw [h] at hu; simpa using hu

theorem sgn_zero (neg : Bool) : sgn neg 0 = 0 := by unfold sgn; cases neg <;> grind
theorem fits_sgn {neg : Bool} {q : Rat} : Fits (sgn neg q) ↔ Fits q := by
  unfold sgn; cases neg
  · simp
  · simp only [if_true]
    exact ⟨fun h => by have := h.neg; rwa [Rat.neg_neg] at this, Fits.neg⟩

/-- What 'made' answers, out of the trimmed words. -/
theorem made_is {w : World} {xs : List Nat} {e : Int} {neg : Bool} {s : Value} (hs : Cells w s (u32s xs)) (hlt : AllLt 4294967296 xs) (h0 : 0 < xs.length) (hf : xs.getD 0 0 ≠ 0) (hl : xs.getD (xs.length - 1) 0 ≠ 0) :
    (hiBit xs e ≤ 65536 → -65536 ≤ loBit xs e → IsNum w (.agg #[s, .int .i64 e, .bool neg, .bool false]) (mk (sgn neg (magVal xs e)))) ∧
    (¬ (hiBit xs e ≤ 65536 ∧ -65536 ≤ loBit xs e) → mk (sgn neg (magVal xs e)) = none) := by
  have hfit := fits_mag (e := e) hlt h0 hl hf
  refine ⟨fun h1 h2 => ?_, fun h => mk_none fun hh => h (hfit.1 (fits_sgn.1 hh))⟩
  rw [mk_fits (fits_sgn.2 (hfit.2 ⟨h1, h2⟩))]
  exact ⟨xs, e, neg, s, rfl, hs, hlt, .inr ⟨h0, hf, hl, h1, h2⟩, rfl⟩

def MadePost (w : World) (neg : Bool) (q : Rat) : Ending → World → Prop := Gives w fun w' v => IsNum w' v (mk (sgn neg q))

theorem made_zero (a : Option Addr) (c : Nat) (e : Int) (neg : Bool) (w : World) :
    Calls Tryd.prog 94 #[.agg #[.slice a 0 c, .int .i64 e], .bool neg] w (MadePost w neg 0) := by
  go_enter Tryd.func94, Tryd.ntmps94
  go_wp2_with fail
  refine (trimmed_zero a c e _).mono ?_
  rintro ed w1 ⟨rfl, hx⟩
  have B0 := (((Box.new w #[.slice a 0 c, .int .i64 e] 27).alloc _).ext hx)
  have B1 := ((Box.new (w.alloc (.cells #[.slice a 0 c, .int .i64 e] 27)) #[.slice none 0 0, .int .i64 0, .bool false, .bool false] 29).ext hx)
  simp at B1
  have hx' : Ext w w1 := (((Ext.refl w).alloc _).alloc _).trans hx
  clear hx
  have B0_c0 := B0.cell 0 rfl; have B0_c1 := B0.cell 1 rfl; have B0_f0 := B0.free 0; have B0_f1 := B0.free 1; have B0_lt := B0.lt
  have B1_c0 := B1.cell 0 rfl; have B1_c1 := B1.cell 1 rfl; have B1_c2 := B1.cell 2 rfl; have B1_c3 := B1.cell 3 rfl; have B1_f0 := B1.free 0; have B1_f1 := B1.free 1; have B1_f2 := B1.free 2; have B1_f3 := B1.free 3; have B1_lt := B1.lt
  go_wp2
  refine bodyPost_ret (v := .agg #[.slice none 0 0, .int .i64 0, .bool false, .bool false]) (by simp [results, Tryd.results94, go_sem, B1_c0, B1_c1, B1_c2, B1_c3]) rfl ?_
  refine Gives.mk _ ?_ ?_
  · (with_reducible (repeat (first | exact Ext.refl _ | exact hx' | refine Ext.drewN ?_ _ | refine Ext.drew ?_ | refine Ext.alloc ?_ _ | refine Ext.setCell ?_ (by first | (dsimp only; omega) | simp | (simp; omega)) _)))
  · rw [sgn_zero, mk_fits fits_zero]; exact isNum_zero _

theorem none_is {w : World} : IsNum w (.agg #[.slice none 0 0, .int .i64 0, .bool false, .bool true]) none := rfl

theorem found_zeros {xs : List Nat} {f l : Nat} (hF : Found xs f l) (h : f = l) (j : Nat) : xs.getD j 0 = 0 := by
  rcases Nat.lt_or_ge j f with h1 | h1
  · exact hF.below j h1
  · rcases Nat.lt_or_ge j xs.length with h2 | h2
    · exact hF.above j (by omega) h2
    · rw [List.getD_eq_getElem?_getD, List.getElem?_eq_none h2]; rfl

set_option maxHeartbeats 800000 in
theorem made_core (b o0 c0 : Nat) (e0 : Int) (xs0 : List Nat) (neg : Bool) (w : World) (h00 : 0 < xs0.length) (hlc0 : xs0.length ≤ c0) (hcc0 : c0 ≤ 9223372036854775807) (hlen0 : xs0.length ≤ 1099511627776) (he0 : -1099511627776 ≤ e0) (he0' : e0 ≤ 1099511627776)
    (hT : Tab w) (hlt0 : AllLt 4294967296 xs0) (hcs0 : ∀ j, j < xs0.length → w.cell? ⟨b, o0 + j, none⟩ = some (.int .u32 (xs0.getD j 0 : Nat))) :
    Calls Tryd.prog 94 #[.agg #[.slice (some ⟨b, o0, none⟩) xs0.length c0, .int .i64 e0], .bool neg] w (MadePost w neg (magVal xs0 e0)) := by
  have hb := World.block_lt_of_cell? w _ (hcs0 0 h00)
  have HC0 := Lib.hid hcs0; have HLT := Lib.hid hlt0; clear hcs0 hlt0
  go_enter Tryd.func94, Tryd.ntmps94
  go_wp2_with fail
  refine (trimmed_core b o0 c0 xs0 e0 _ h00 hlc0 hcc0 (by omega) (by omega) (by omega) (fun j hj => Ext.cell (w := w) (by (with_reducible (repeat (first | exact Ext.refl _ | refine Ext.drewN ?_ _ | refine Ext.drew ?_ | refine Ext.alloc ?_ _ | refine Ext.setCell ?_ (by first | (dsimp only; omega) | simp | (simp; omega)) _)))) (HC0.out j hj))).mono ?_
  rintro ed w1 ⟨f, l, hF, hx, hcase⟩
  have B0 := (((Box.new w #[.slice (some ⟨b, o0, none⟩) xs0.length c0, .int .i64 e0] 27).alloc _).ext hx)
  have B1 := ((Box.new (w.alloc (.cells #[.slice (some ⟨b, o0, none⟩) xs0.length c0, .int .i64 e0] 27)) #[.slice none 0 0, .int .i64 0, .bool false, .bool false] 29).ext hx)
  simp at B1
  have hx' : Ext w w1 := (((Ext.refl w).alloc _).alloc _).trans hx
  clear hx
  have B0_c0 := B0.cell 0 rfl; have B0_c1 := B0.cell 1 rfl; have B0_f0 := B0.free 0; have B0_f1 := B0.free 1; have B0_lt := B0.lt
  have B1_c0 := B1.cell 0 rfl; have B1_c1 := B1.cell 1 rfl; have B1_c2 := B1.cell 2 rfl; have B1_c3 := B1.cell 3 rfl; have B1_f0 := B1.free 0; have B1_f1 := B1.free 1; have B1_f2 := B1.free 2; have B1_f3 := B1.free 3; have B1_lt := B1.lt
  rcases hcase with ⟨hfl, rfl⟩ | ⟨hfl, hf0, hl0, rfl⟩
  · have HF := Lib.hid hF; have HFL := Lib.hid hfl; clear hF hfl
    go_wp2
    refine bodyPost_ret (v := .agg #[.slice none 0 0, .int .i64 0, .bool false, .bool false]) (by simp [results, Tryd.results94, go_sem, B1_c0, B1_c1, B1_c2, B1_c3]) rfl ?_
    refine Gives.mk _ ?_ ?_
    · (with_reducible (repeat (first | exact Ext.refl _ | exact hx' | refine Ext.drewN ?_ _ | refine Ext.drew ?_ | refine Ext.alloc ?_ _ | refine Ext.setCell ?_ (by first | (dsimp only; omega) | simp | (simp; omega)) _)))
    · rw [magVal_zeros e0 (found_zeros HF.out HFL.out), sgn_zero, mk_fits fits_zero]; exact isNum_zero _
  have hle : l ≤ xs0.length := hF.len
  have hs := cells_cut (w := w) hle hlc0 (Nat.le_of_lt hfl) (by omega) HC0.out
  have hlt := mem_cut (f := f) (l := l) HLT.out
  have hlen' := len_cut hle (Nat.le_of_lt hfl)
  have hxf : ((xs0.drop f).take (l - f)).getD 0 0 ≠ 0 := by rw [getD_cut (by omega)]; exact hf0
  have hxl : ((xs0.drop f).take (l - f)).getD (l - f - 1) 0 ≠ 0 := by rw [getD_cut (by omega), show f + (l - f - 1) = l - 1 by omega]; exact hl0
  have key := made_is (w := w) (e := e0 + f) (neg := neg) hs hlt (by omega) hxf (by rw [hlen']; exact hxl)
  rw [magVal_cut e0 (Nat.le_of_lt hfl) hle hF.below hF.above] at key
  have hfc := HC0.out f (by omega)
  have hlcell := HC0.out (l - 1) (by omega)
  have hfl' := HLT.out.getD (by omega) f
  have hll := HLT.out.getD (by omega) (l - 1)
  have hgf : ((xs0.drop f).take (l - f)).getD 0 0 = xs0.getD f 0 := by rw [getD_cut (by omega)]; rfl
  have hgl : ((xs0.drop f).take (l - f)).getD (l - f - 1) 0 = xs0.getD (l - 1) 0 := by rw [getD_cut (by omega), show f + (l - f - 1) = l - 1 by omega]
  have HIB : hiBit ((xs0.drop f).take (l - f)) (e0 + f) = 32 * (e0 + f + ((l - f : Nat) : Int)) - 1 - (32 - (Lib.bitLen (xs0.getD (l - 1) 0) : Nat)) := by unfold hiBit; rw [hlen', hgl]
  have LOB : loBit ((xs0.drop f).take (l - f)) (e0 + f) = 32 * (e0 + f) + (Lib.ctz 32 (xs0.getD f 0) : Nat) := by unfold loBit; rw [hgf]
  have hlen : 0 < l - f := by omega
  have hlc : l - f ≤ c0 - f := by omega
  have hcc : c0 - f ≤ 9223372036854775807 := by omega
  have hlen1 : l - f ≤ 1099511627776 := by omega
  have hidx : o0 + (l - 1) = o0 + f + (l - f - 1) := by omega
  rw [hidx] at hlcell
  have he : -2199023255552 ≤ e0 + f := by omega
  have he' : e0 + f ≤ 2199023255552 := by omega
  clear hgf hgl hxf hxl hs hlt hlen' hF hle hidx
  generalize (xs0.drop f).take (l - f) = xs at *
  generalize l - f = len at *
  generalize c0 - f = c at *
  generalize e0 + (f : Int) = e at *
  generalize o0 + f = o at *
  generalize xs0.getD f 0 = xf at *
  generalize xs0.getD (l - 1) 0 = xl at *
  have hbl : Lib.bitLen xl ≤ 32 := Lib.bitLen_le xl 32 (by decide) (by omega)
  have hct := (Lib.lowest_bit 32 xf hf0 (by omega)).2
  have KEY := Lib.hid key; clear key
  have HIB := Lib.hid HIB
  have LOB := Lib.hid LOB
  clear hfl
  go_wp2_with fail
  refine (high_core b o len c e xl _ hlen (by omega) (by omega) (by omega) (by omega) (Ext.cell (w := w) (by (with_reducible (repeat (first | exact Ext.refl _ | exact hx' | refine Ext.drewN ?_ _ | refine Ext.drew ?_ | refine Ext.alloc ?_ _ | refine Ext.setCell ?_ (by first | (dsimp only; omega) | simp | (simp; omega)) _)))) hlcell)).mono ?_
  rintro ed w2 ⟨rfl, hx2⟩
  have C0 := ((B0.set 0 (.slice (some ⟨b, o, none⟩) len c)).set 1 (.int .i64 e)).ext hx2
  simp at C0
  have C1 := ((B1.far (p := ⟨w.heap.size, 0, none⟩) (by simp) (.slice (some ⟨b, o, none⟩) len c)).far (p := ⟨w.heap.size, 1, none⟩) (by simp) (.int .i64 e)).ext hx2
  have hx2' : Ext w w2 := Ext.trans (by (with_reducible (repeat (first | exact Ext.refl _ | exact hx' | refine Ext.drewN ?_ _ | refine Ext.drew ?_ | refine Ext.alloc ?_ _ | refine Ext.setCell ?_ (by first | (dsimp only; omega) | simp | (simp; omega)) _)))) hx2
  clear hx2
  clear B0_c0 B0_c1 B0_f0 B0_f1 B0_lt
  clear B1_c0 B1_c1 B1_c2 B1_c3 B1_f0 B1_f1 B1_f2 B1_f3 B1_lt
  have C0_c0 := C0.cell 0 rfl; have C0_c1 := C0.cell 1 rfl; have C0_f0 := C0.free 0; have C0_f1 := C0.free 1; have C0_lt := C0.lt
  have C1_c0 := C1.cell 0 rfl; have C1_c1 := C1.cell 1 rfl; have C1_c2 := C1.cell 2 rfl; have C1_c3 := C1.cell 3 rfl; have C1_f0 := C1.free 0; have C1_f1 := C1.free 1; have C1_f2 := C1.free 2; have C1_f3 := C1.free 3; have C1_lt := C1.lt
  generalize hH : 32 * (e + (len : Int)) - 1 - (32 - (Lib.bitLen xl : Nat)) = H at *
  have HH := Lib.hid hH
  have hHb : -140737488355328 ≤ H ∧ H ≤ 140737488355328 := by omega
  clear hH
  by_cases hhi : H ≤ 65536
  · go_wp2_with fail
    refine (low_core b o len c e xf _ hlen (by omega) (by omega) (by omega) (Tab.ext hT (by (with_reducible (repeat (first | exact Ext.refl _ | exact hx2' | refine Ext.drewN ?_ _ | refine Ext.drew ?_ | refine Ext.alloc ?_ _ | refine Ext.setCell ?_ (by first | (dsimp only; omega) | simp | (simp; omega)) _))))) hf0 (by omega) (Ext.cell (w := w) (by (with_reducible (repeat (first | exact Ext.refl _ | exact hx2' | refine Ext.drewN ?_ _ | refine Ext.drew ?_ | refine Ext.alloc ?_ _ | refine Ext.setCell ?_ (by first | (dsimp only; omega) | simp | (simp; omega)) _)))) hfc)).mono ?_
    rintro ed w3 ⟨rfl, hx3⟩
    have D0 := C0.ext hx3
    have D1 := C1.ext hx3
    have hx3' : Ext w w3 := hx2'.trans hx3
    clear hx3
    clear C0_c0 C0_c1 C0_f0 C0_f1 C0_lt
    clear C1_c0 C1_c1 C1_c2 C1_c3 C1_f0 C1_f1 C1_f2 C1_f3 C1_lt
    have D0_c0 := D0.cell 0 rfl; have D0_c1 := D0.cell 1 rfl; have D0_f0 := D0.free 0; have D0_f1 := D0.free 1; have D0_lt := D0.lt
    have D1_c0 := D1.cell 0 rfl; have D1_c1 := D1.cell 1 rfl; have D1_c2 := D1.cell 2 rfl; have D1_c3 := D1.cell 3 rfl; have D1_f0 := D1.free 0; have D1_f1 := D1.free 1; have D1_f2 := D1.free 2; have D1_f3 := D1.free 3; have D1_lt := D1.lt
    generalize hL : 32 * e + (Lib.ctz 32 xf : Nat) = L at *
    have HL := Lib.hid hL
    clear hL
    by_cases hlo : -65536 ≤ L
    · have hlo' : ¬ L < -65536 := by omega
      go_wp2
      refine bodyPost_ret (v := .agg #[.slice (some ⟨b, o, none⟩) len c, .int .i64 e, .bool neg, .bool false]) (by simp [results, Tryd.results94, go_sem, D1_c0, D1_c1, D1_c2, D1_c3]) rfl ?_
      refine Gives.mk _ ?_ ?_
      · (with_reducible (repeat (first | exact Ext.refl _ | exact hx3' | refine Ext.drewN ?_ _ | refine Ext.drew ?_ | refine Ext.alloc ?_ _ | refine Ext.setCell ?_ (by first | (dsimp only; omega) | simp | (simp; omega)) _)))
      · exact (KEY.out.1 (by rw [HIB.out]; exact hhi) (by rw [LOB.out]; exact hlo)).ext (by (with_reducible (repeat (first | exact Ext.refl _ | exact hx3' | refine Ext.drewN ?_ _ | refine Ext.drew ?_ | refine Ext.alloc ?_ _ | refine Ext.setCell ?_ (by first | (dsimp only; omega) | simp | (simp; omega)) _))))
    · have hlo' : L < -65536 := by omega
      go_wp2
      refine bodyPost_ret (v := .agg #[.slice none 0 0, .int .i64 0, .bool false, .bool true]) (by simp [results, Tryd.results94, go_sem, D1_c0, D1_c1, D1_c2, D1_c3]) rfl ?_
      refine Gives.mk _ ?_ ?_
      · (with_reducible (repeat (first | exact Ext.refl _ | exact hx3' | refine Ext.drewN ?_ _ | refine Ext.drew ?_ | refine Ext.alloc ?_ _ | refine Ext.setCell ?_ (by first | (dsimp only; omega) | simp | (simp; omega)) _)))
      · rw [KEY.out.2 (fun h => by rw [LOB.out] at h; have := h.2; omega)]; exact none_is
  · have hhi' : 65536 < H := by omega
    go_wp2
    refine bodyPost_ret (v := .agg #[.slice none 0 0, .int .i64 0, .bool false, .bool true]) (by simp [results, Tryd.results94, go_sem, C1_c0, C1_c1, C1_c2, C1_c3]) rfl ?_
    refine Gives.mk _ ?_ ?_
    · (with_reducible (repeat (first | exact Ext.refl _ | exact hx2' | refine Ext.drewN ?_ _ | refine Ext.drew ?_ | refine Ext.alloc ?_ _ | refine Ext.setCell ?_ (by first | (dsimp only; omega) | simp | (simp; omega)) _)))
    · rw [KEY.out.2 (fun h => by rw [HIB.out] at h; have := h.1; omega)]; exact none_is

/-- whole.made: the number, or none. -/
theorem made_any {v : Value} {xs : List Nat} {e : Int} (neg : Bool) (w : World) (hT : Tab w) (hm : IsMag w v xs e) (hlen : xs.length ≤ 1099511627776) (he : -1099511627776 ≤ e) (he' : e ≤ 1099511627776) :
    Calls Tryd.prog 94 #[v, .bool neg] w (MadePost w neg (magVal xs e)) := by
  obtain ⟨⟨s, rfl, hs⟩, hlt⟩ := hm
  by_cases h0 : 0 < xs.length
  · obtain ⟨b, o, c, rfl, hlc, hcc, hc⟩ := hs.open_u32 h0
    exact made_core b o c e xs neg w h0 hlc hcc hlen he he' hT hlt hc
  · have hx : xs = [] := by cases xs with | nil => rfl | cons x xs => simp at h0
    subst hx
    obtain ⟨a, c, hv, -⟩ := hs
    subst hv
    rw [magVal_nil]
    exact made_zero a c e neg w
end Go.Proofs.YthnmjkjllhlcjaaDoor
