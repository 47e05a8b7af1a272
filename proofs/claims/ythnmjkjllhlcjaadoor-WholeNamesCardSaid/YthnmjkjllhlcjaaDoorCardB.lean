/- What all cards of this seat share: the table out of the row's list, floats opened, a law's post; no condition. -/
import Derived.Test.YthnmjkjllhlcjaaDoorCards
import Derived.Test.YthnmjkjllhlcjaaDoorTie
import Derived.Test.YthnmjkjllhlcjaaDoorData
import Derived.ProofKit
import Derived.OpenShut
import Derived.OpenVars
import Derived.Carry
import Derived.Deep.DeepHandedRow
import Derived.Lib.LaidTab
import Derived.Laws.Cover2
namespace Go.Proofs.YthnmjkjllhlcjaaDoor
open Go Go.RowKit Go.Steady Go.ChangeShapes Go.WideShapes Go.ChangeAt

theorem own : ownKnob Tryd.prog.godebug = none := by kernel_rfl
theorem laidOut : laidOutB Tryd.prog = true := by kernel_rfl
theorem gTab : Tryd.prog.globalNamed "math/bits.deBruijn32tab" = some 1 := by kernel_rfl
theorem gTabType : (Tryd.prog.globals[1]?).map (·.type) = some 141 := by kernel_rfl
theorem cellsTab : Tryd.prog.cellsOf 141 = 32 := by kernel_rfl
theorem cellsByte : Tryd.prog.cellsOf 5 = 1 := by kernel_rfl
theorem cellsFloat : Tryd.prog.cellsOf 22 = 1 := by kernel_rfl
def tabInts : List Int := [0, 1, 28, 2, 29, 14, 24, 3, 30, 22, 20, 15, 25, 17, 4, 8, 31, 27, 13, 23, 21, 19, 16, 7, 26, 12, 18, 6, 11, 5, 10, 9]
theorem tab_of {W : World} (h : laidMetH Tryd.prog [("math/bits.deBruijn32tab", Rows.laid_math_bits_deBruijn32tab)] W) : Tab W := fun i hi => by
  have hT : Lib.TabIs Tryd.prog W "math/bits.deBruijn32tab" .u8 tabInts := Lib.tabIs_of_head (rest := []) gTab gTabType Tryd.underlying141 Tryd.underlying5 cellsByte cellsTab h
  have hc := hT.cell gTab i (by show i < 32; exact hi)
  rw [hc]
  have key : ∀ j : Fin 32, tabInts.getD j.1 0 = ((Lib.deBruijn32tab.getD j.1 0 : Nat) : Int) := by decide
  rw [key ⟨i, hi⟩]

theorem and_tt {a b : Bool} (h : a = true) (k : b = true) : (a && b) = true := by rw [h, k]; rfl

/-- A world for the witness: the settled one, the table holding what its initialiser lays. -/
noncomputable def laidWorld (os : Os) : World :=
  { World.holding Tryd.prog os ⟨#[], #[], []⟩ with heap := (World.holding Tryd.prog os ⟨#[], #[], []⟩).heap.modify 1 fun
      | .cells _ t frozen => .cells (tabInts.map fun z => Value.int .u8 z).toArray t frozen
      | o => o }

set_option maxRecDepth 100000 in
/-- An array of floats that came in. -/
theorem open_floats {H : Type} {enc : TypeId × Value → H} {w : World} {base : Nat} {sp : Nat → Bool} {held : Bool} {r : Reach} {b0 n : Nat} {t : TypeId} {v : Value} {d : DataW H} {ps : List MemPlace}
    (ht : Tryd.prog.underlying t = some (.array n 22)) (hct : Tryd.prog.cellsOf t = n) (hval : Value.okWide Tryd.prog w r b0 t v) (hd : DataW.Trod enc Tryd.prog w base sp held t v d ps) :
    ∃ xs : List Nat, xs.length = n ∧ v = .agg (xs.map fun x => Value.float .f64 x).toArray ∧ ∀ x ∈ xs, x < 18446744073709551616 := by
  obtain ⟨cs, rfl, hsz, -⟩ : ∃ cs, v = .agg cs ∧ cs.size = Tryd.prog.cellsOf t ∧ Row.okWide Tryd.prog w r b0 t cs := by
    unfold Value.okWide at hval; rw [ht] at hval; exact hval
  obtain ⟨fuel, hf⟩ := hd
  obtain ⟨xs, m, rfl, -, hl, hxl, hx⟩ := DataW.trod_array ht hf
  have hcl : (Value.agg cs).cells = cs := rfl
  rw [hcl] at hl hx
  rw [hct] at hl
  rw [cellsFloat] at hx
  have key : ∀ i (hi : i < n), ∃ b : Nat, cs.toList[i]'(by omega) = .float .f64 b ∧ b < 18446744073709551616 := fun i hi => by
    have h1 := hx i hi
    rw [Nat.mul_one, List.drop_eq_getElem_cons (by omega), List.take_succ_cons, List.take_zero] at h1
    rw [List.getElem?_eq_getElem (by omega)] at h1
    generalize cs.toList[i]'(by omega) = c at h1
    cases m with
    | zero => simp [DataW.trod] at h1
    | succ m =>
      have hu : Tryd.prog.underlying 22 = some (.float .f64) := Tryd.underlying22
      cases c with
      | float k b =>
        cases k with
        | f64 =>
          by_cases hw : (Lit.float .f64 b).wf = true
          · refine ⟨b, rfl, ?_⟩
            simp only [Lit.wf, decide_eq_true_eq] at hw
            omega
          · simp [DataW.trod, hu, hw] at h1
        | _ => simp [DataW.trod, hu] at h1
      | _ => simp [DataW.trod, hu] at h1
  have all : ∀ k, k ≤ n → ∃ ys : List Nat, ys.length = k ∧ cs.toList.take k = ys.map (fun x => Value.float .f64 x) ∧ ∀ x ∈ ys, x < 18446744073709551616 := fun k => by
    induction k with
    | zero => intro _; exact ⟨[], rfl, by simp, fun x h => by simp at h⟩
    | succ k ih =>
      intro hk
      obtain ⟨ys, h1, h2, h3⟩ := ih (by omega)
      obtain ⟨b, hb, hlt⟩ := key k (by omega)
      refine ⟨ys ++ [b], by simp [h1], ?_, fun x hx => ?_⟩
      · rw [List.take_succ_eq_append_getElem (by omega), h2, hb]; simp
      · rcases List.mem_append.1 hx with h | h
        · exact h3 x h
        · simp at h; omega
  obtain ⟨ys, h1, h2, h3⟩ := all n (Nat.le_refl _)
  rw [List.take_of_length_le (by omega)] at h2
  exact ⟨ys, h1, by rw [← h2], h3⟩

/-- What came in reads behind the call as before. -/
theorem trodAll_ext {H : Type} {enc : TypeId × Value → H} {W W' : World} (hx : Ext W W') : ∀ {ts : List TypeId} {vs : List Value} {ds : List (DataW H)} {ps : List MemPlace},
    (∀ t ∈ ts, Tryd.prog.readableRec t = true ∧ t < Tryd.prog.types.size) → (∀ x ∈ ps, x.block < W.heap.size) → DataW.TrodAll enc Tryd.prog W 0 (fun _ => true) true ts vs ds ps →
    DataW.TrodAll enc Tryd.prog W' 0 (fun b => decide (b < W.heap.size)) true ts vs ds ps
  | [], [], [], _, _, _, h => h
  | t :: ts, v :: vs, d :: ds, ps, hr, hlt, ⟨p, q, h1, h2, e⟩ => by
    subst e
    obtain ⟨r1, r2⟩ := hr t (List.mem_cons_self ..)
    exact ⟨p, q, Below.trod laidOut r1 r2 h1 hx (fun x hx => hlt x (by simp [hx])), trodAll_ext hx (fun t ht => hr t (List.mem_cons_of_mem _ ht)) (fun x hx => hlt x (by simp [hx])) h2, rfl⟩
  | [], [], _ :: _, _, _, _, h => h.elim
  | [], _ :: _, _, _, _, _, h => h.elim
  | _ :: _, [], _, _, _, _, h => h.elim
  | _ :: _, _ :: _, [], _, _, _, h => h.elim

/-- A law's post: true; what came in reads as before. -/
theorem law_post {H : Type} {enc : TypeId × Value → H} {fn : Func} {s : ChangeSpec} {W W' : World} {args : Array Value} {ds gs : List (DataW H)} {before : List MemPlace}
    (hW : DataW.Whole enc Tryd.prog fn.params.toList s.vars false W args.toList ds gs before) (hv : s.vars = []) (hs : s.fn H (ds ++ gs) = { results := [.lit (.bool true)], args := ds }) (hr : fn.resultTypes = #[4])
    (hp : ∀ t ∈ fn.params.toList, Tryd.prog.readableRec t = true ∧ t < Tryd.prog.types.size) (hx : Ext W W') : s.post enc Tryd.prog fn false true false false W args (.bool true) W' := by
  have hlt : ∀ x ∈ before, x.block < W.heap.size := fun x hx => hW.lt x hx
  have hW' := hW
  obtain ⟨p, q, hA, hV, rfl, _, _⟩ := hW
  rw [hv] at hV
  obtain ⟨rfl, rfl⟩ := trodVars_none hV
  have e1 : (Value.bool true).resultList fn.resultTypes.size = [.bool true] := by rw [hr]; rfl
  refine ⟨ds, [], _, [], p, [], hW', ?_, ?_, ?_, hx.frame _, fun h => by cases h⟩
  · rw [hs, e1, hr]; exact trodAll_mk1 (shut_bool Tryd.underlying4 true)
  · rw [hs]; exact trodAll_ext hx hp (fun x h => hlt x (by simp [h])) hA
  · rw [hs, hv]; rfl
end Go.Proofs.YthnmjkjllhlcjaaDoor
