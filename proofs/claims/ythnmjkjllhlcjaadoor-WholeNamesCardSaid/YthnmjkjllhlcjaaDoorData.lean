/- What values in memory stand for: rows of cells, magnitudes; that it lasts; no condition. -/
import Derived.Test.YthnmjkjllhlcjaaDoorChecked
import Derived.Test.YthnmjkjllhlcjaaDoorSteady
import Derived.WalkKit
import Derived.Lib.TrailingZeros
import Derived.Deep.Draws
namespace Go.Proofs.YthnmjkjllhlcjaaDoor
open Go Go.RowKit Go.Steady

theorem _root_.Go.Steady.Ext.drewN {a w : World} (h : Ext a w) (n : Nat) : Ext a (w.drewN n) := ⟨h.os, h.tape, h.output, h.size, h.block⟩

theorem _root_.Go.Steady.Ext.setCell {a w : World} (h : Ext a w) {p : Addr} (hp : a.heap.size ≤ p.block) (u : Value) : Ext a (w.setCell p u) := Below.setCell h hp u

theorem _root_.Go.Steady.Ext.cells {w w' : World} (h : Ext w w') : ∀ b o, b < w.heap.size → w'.cell? ⟨b, o, none⟩ = w.cell? ⟨b, o, none⟩ := fun b o hb => Below.cell (p := ⟨b, o, none⟩) h hb
theorem _root_.Go.Steady.Ext.frozens {w w' : World} (h : Ext w w') : ∀ b o, b < w.heap.size → w'.frozen? ⟨b, o, none⟩ = w.frozen? ⟨b, o, none⟩ := fun b o hb => Below.frozen (p := ⟨b, o, none⟩) h hb

/-- A block of memory, whole. -/
def Box (w : World) (b : Nat) (cs : Array Value) (t : TypeId) : Prop := w.heap[b]? = some (.cells cs t (0, 0))
section
variable {w w' : World} {b : Nat} {cs : Array Value} {t : TypeId}
theorem Box.lt (h : Box w b cs t) : b < w.heap.size := (Array.getElem?_eq_some_iff.1 h).1
theorem Box.ext (h : Box w b cs t) (x : Ext w w') : Box w' b cs t := x.heap h
theorem Box.cell (h : Box w b cs t) (i : Nat) {v : Value} (hv : cs[i]? = some v) : w.cell? ⟨b, i, none⟩ = some v := by
  unfold Box at h; simp [World.cell?, h, hv]
theorem Box.free (h : Box w b cs t) (i : Nat) : w.frozen? ⟨b, i, none⟩ = false := by
  unfold Box at h; simp [World.frozen?, h]
theorem Box.drewN (h : Box w b cs t) (n : Nat) : Box (w.drewN n) b cs t := h
theorem Box.drew (h : Box w b cs t) : Box w.drew b cs t := h
theorem Box.new (w : World) (cs : Array Value) (t : TypeId) : Box (w.alloc (.cells cs t)) w.heap.size cs t := by
  show (w.heap.push _)[w.heap.size]? = _; simp
theorem Box.alloc (h : Box w b cs t) (o : Obj) : Box (w.alloc o) b cs t := h.ext ((Ext.refl _).alloc _)
theorem Box.far (h : Box w b cs t) {p : Addr} (hp : b ≠ p.block) (u : Value) : Box (w.setCell p u) b cs t :=
  (Below.heap_setCell w p u b hp).trans h
theorem Box.set (h : Box w b cs t) (i : Nat) (u : Value) : Box (w.setCell ⟨b, i, none⟩ u) b (cs.setIfInBounds i u) t := by
  have hlt := h.lt
  unfold Box at h ⊢
  simp only [World.setCell, Array.getElem?_modify, if_true, h]
  simp
end

/-- 'v' is a slice that holds these values. -/
def Cells (w : World) (v : Value) (us : List Value) : Prop :=
  ∃ a c, v = .slice a us.length c ∧ us.length ≤ c ∧ c ≤ 9223372036854775807 ∧ ∀ j u, us[j]? = some u → ∃ b o, a = some ⟨b, o, none⟩ ∧ w.cell? ⟨b, o + j, none⟩ = some u

theorem Cells.ext {w w' : World} {v : Value} {us : List Value} (h : Cells w v us) (x : Ext w w') : Cells w' v us := by
  obtain ⟨a, c, hv, hl, hc, hu⟩ := h
  refine ⟨a, c, hv, hl, hc, fun j u hj => ?_⟩
  obtain ⟨b, o, ha, hcell⟩ := hu j u hj
  exact ⟨b, o, ha, x.cell hcell⟩

theorem cells_of_box {w : World} {b : Nat} {cs : Array Value} {t : TypeId} {us : List Value} (h : Box w b cs t) (hu : cs.toList = us) (hl : us.length ≤ 9223372036854775807) : Cells w (.slice (some ⟨b, 0, none⟩) us.length us.length) us :=
  ⟨_, _, rfl, Nat.le_refl _, hl, fun j u hj => ⟨b, 0, rfl, h.cell _ (by rw [← hu] at hj; simpa using hj)⟩⟩

def u32s (xs : List Nat) : List Value := xs.map fun x : Nat => Value.int .u32 (x : Int)
def i64s (xs : List Int) : List Value := xs.map fun x => .int .i64 x
def f64s (xs : List Nat) : List Value := xs.map fun x => .float .f64 x
@[simp] theorem u32s_length (xs : List Nat) : (u32s xs).length = xs.length := by simp [u32s]
@[simp] theorem i64s_length (xs : List Int) : (i64s xs).length = xs.length := by simp [i64s]
@[simp] theorem f64s_length (xs : List Nat) : (f64s xs).length = xs.length := by simp [f64s]

theorem Cells.nil (w : World) (k : Nat) (hk : k ≤ 9223372036854775807) (a : Option Addr) : Cells w (.slice a 0 k) [] := ⟨a, k, rfl, Nat.zero_le _, hk, fun _ _ h => by simp at h⟩

/-- Open a row of words that is not empty. -/
theorem Cells.open_u32 {w : World} {v : Value} {xs : List Nat} (h : Cells w v (u32s xs)) (h0 : 0 < xs.length) :
    ∃ b o c, v = .slice (some ⟨b, o, none⟩) xs.length c ∧ xs.length ≤ c ∧ c ≤ 9223372036854775807 ∧ ∀ j, j < xs.length → w.cell? ⟨b, o + j, none⟩ = some (.int .u32 (xs.getD j 0 : Nat)) := by
  obtain ⟨a, c, hv, hl, hc, hu⟩ := h
  have hlen : (u32s xs).length = xs.length := u32s_length xs
  obtain ⟨b, o, ha, -⟩ := hu 0 (.int .u32 (xs[0] : Nat)) (by simp [u32s, h0])
  refine ⟨b, o, c, by rw [hv, ha, hlen], by omega, hc, fun j hj => ?_⟩
  obtain ⟨b', o', ha', hcell⟩ := hu j (.int .u32 (xs[j] : Nat)) (by simp [u32s, hj])
  rw [ha] at ha'
  cases ha'
  rw [hcell]
  simp [hj]

def AllLt (B : Nat) (xs : List Nat) : Prop := ∀ x ∈ xs, x < B
theorem AllLt.getD {B : Nat} {xs : List Nat} (h : AllLt B xs) (hB : 0 < B) (j : Nat) : xs.getD j 0 < B := by
  rw [List.getD_eq_getElem?_getD]
  cases hj : xs[j]? with
  | none => simpa using hB
  | some x => exact h x (List.mem_of_getElem? hj)

/-- The table that counts trailing zeros. -/
def Tab (w : World) : Prop := ∀ i, i < 32 → w.cell? ⟨1, i, none⟩ = some (.int .u8 (Lib.deBruijn32tab.getD i 0 : Nat))
theorem Tab.ext {w w' : World} (h : Tab w) (x : Ext w w') : Tab w' := fun i hi => x.cell (h i hi)

/-- A magnitude: its words and its exponent. -/
structure IsMag (w : World) (v : Value) (xs : List Nat) (e : Int) : Prop where
  val : ∃ s, v = .agg #[s, .int .i64 e] ∧ Cells w s (u32s xs)
  lt : AllLt 4294967296 xs
theorem IsMag.ext {w w' : World} {v : Value} {xs : List Nat} {e : Int} (h : IsMag w v xs e) (x : Ext w w') : IsMag w' v xs e := by
  obtain ⟨⟨s, hv, hs⟩, hlt⟩ := h
  exact ⟨⟨s, hv, hs.ext x⟩, hlt⟩

/-- A call that hands back one value of which this is told; what was there stays. -/
def Gives (w : World) (R : World → Value → Prop) (e : Ending) (w' : World) : Prop := ∃ v, e = .returned v ∧ Ext w w' ∧ R w' v
theorem Gives.mk {w w' : World} {R : World → Value → Prop} (v : Value) (x : Ext w w') (h : R w' v) : Gives w R (.returned v) w' := ⟨v, rfl, x, h⟩
end Go.Proofs.YthnmjkjllhlcjaaDoor
