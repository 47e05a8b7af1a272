/- Plain mathematics: numbers far below the bounds are reckoned without a loss; no condition. -/
import Derived.Test.YthnmjkjllhlcjaaDoorShiftW
namespace Go.Proofs.YthnmjkjllhlcjaaDoor
open Go Go.RowKit Go.Steady Go.Tri

/-- Below 2^n, a multiple of 2^-n. -/
def Sz (n : Int) (q : Rat) : Prop := Bd n q ∧ Gr n q
section
variable {n m : Int} {a b : Rat}
theorem Sz.mono (h : Sz n a) (hn : n ≤ m) : Sz m a := ⟨h.1.mono hn, h.2.mono hn⟩
theorem Sz.zero : Sz n 0 := ⟨Bd.zero n, Gr.zero n⟩
theorem Sz.add (x : Sz n a) (y : Sz n b) : Sz (n + 1) (a + b) := ⟨x.1.add y.1, (x.2.add y.2).mono (by omega)⟩
theorem Sz.neg (x : Sz n a) : Sz n (-a) := ⟨x.1.neg, x.2.neg⟩
theorem Sz.sub (x : Sz n a) (y : Sz n b) : Sz (n + 1) (a - b) := by rw [Rat.sub_eq_add_neg]; exact x.add y.neg
theorem Sz.mul (x : Sz n a) (y : Sz m b) : Sz (n + m) (a * b) := ⟨x.1.mul y.1, x.2.mul y.2⟩
theorem bd_p2 (k : Int) : Bd (k + 1) (p2 k) := ⟨p2_lt (by omega), by have := p2_pos k; have := p2_pos (k + 1); grind⟩
theorem gr_p2 (k : Int) : Gr (-k) (p2 k) := by show Intg _; rw [p2_mul_neg]; exact Intg.int 1
theorem Sz.pow {k : Int} (h1 : k < n) (h2 : -n ≤ k) : Sz n (p2 k) := ⟨(bd_p2 k).mono (by omega), (gr_p2 k).mono (by omega)⟩
theorem Sz.shift (h : Sz n a) {k : Int} (hk : k < m) (hk' : -m ≤ k) : Sz (n + m) (a * Tri.p2 k) := h.mul (Sz.pow hk hk')
theorem Sz.fits (h : Sz n a) (hn : n ≤ 65536) : Fits a := ⟨h.1.mono (by omega), h.2.mono hn⟩
theorem addO_sz (x : Sz n a) (y : Sz n b) (hn : n ≤ 65535) : addO (some a) (some b) = some (a + b) := mk_fits ((x.add y).fits (by omega))
theorem negO_some : negO (some a) = some (-a) := rfl
theorem subO_sz (x : Sz n a) (y : Sz n b) (hn : n ≤ 65535) : subO (some a) (some b) = some (a - b) := by
  show addO (some a) (some (-b)) = _
  rw [addO_sz x y.neg hn, Rat.sub_eq_add_neg]
theorem mulO_sz (x : Sz n a) (y : Sz m b) (hn : n + m ≤ 65536) : mulO (some a) (some b) = some (a * b) := mk_fits ((x.mul y).fits hn)
theorem shiftO_sz (x : Sz n a) {k : Int} (hk : k < m) (hk' : -m ≤ k) (hn : n + m ≤ 65536) : shiftO (some a) k = some (a * Tri.p2 k) := mk_fits ((x.shift hk hk').fits hn)
theorem cmpO_sz (x : Sz n a) (y : Sz n b) (hn : n ≤ 65535) : cmpO (some a) (some b) = sg (a - b) := by unfold cmpO; rw [subO_sz x y hn]; rfl
end
theorem sg_zero : sg 0 = 0 := by unfold sg; rw [if_neg (by grind), if_pos rfl]
theorem sg_pos {q : Rat} (h : 0 < q) : sg q = 1 := by unfold sg; rw [if_neg (by grind), if_neg (by grind)]
theorem sg_neg {q : Rat} (h : q < 0) : sg q = -1 := by unfold sg; rw [if_pos h]
theorem sg_cases (q : Rat) : (q < 0 ∧ sg q = -1) ∨ (q = 0 ∧ sg q = 0) ∨ (0 < q ∧ sg q = 1) := by
  by_cases h : q < 0
  · exact .inl ⟨h, sg_neg h⟩
  · by_cases h0 : q = 0
    · exact .inr (.inl ⟨h0, by rw [h0]; exact sg_zero⟩)
    · have hp : 0 < q := by grind
      exact .inr (.inr ⟨hp, sg_pos hp⟩)
theorem sg_neg_eq (q : Rat) : sg (-q) = -sg q := by
  rcases sg_cases q with ⟨h, e⟩ | ⟨h, e⟩ | ⟨h, e⟩
  · rw [e, sg_pos (by grind)]; rfl
  · rw [h]; simp [sg_zero]
  · rw [e, sg_neg (by grind)]
theorem sg_mul (a b : Rat) : sg (a * b) = sg a * sg b := by
  rcases sg_cases a with ⟨h, e⟩ | ⟨h, e⟩ | ⟨h, e⟩
  · rcases sg_cases b with ⟨h', e'⟩ | ⟨h', e'⟩ | ⟨h', e'⟩
    · rw [e, e', sg_pos (by have := Rat.mul_pos (show 0 < -a by grind) (show 0 < -b by grind); grind)]; rfl
    · rw [h', Rat.mul_zero, sg_zero]; omega
    · rw [e, e', sg_neg (by have := Rat.mul_pos (show 0 < -a by grind) h'; grind)]; rfl
  · rw [h, Rat.zero_mul, sg_zero]; omega
  · rcases sg_cases b with ⟨h', e'⟩ | ⟨h', e'⟩ | ⟨h', e'⟩
    · rw [e, e', sg_neg (by have := Rat.mul_pos h (show 0 < -b by grind); grind)]; rfl
    · rw [h', Rat.mul_zero, sg_zero]; omega
    · rw [e, e', sg_pos (Rat.mul_pos h h')]; rfl
theorem sg_range (q : Rat) : -1 ≤ sg q ∧ sg q ≤ 1 := by rcases sg_cases q with ⟨_, e⟩ | ⟨_, e⟩ | ⟨_, e⟩ <;> omega

/-- What three floats give: a + b c, or nought. -/
noncomputable def ofV (a b c : Nat) : Rat := if Fin64 a ∧ Fin64 b ∧ Fin64 c then fl a + fl b * fl c else 0
theorem fl_sz {x : Nat} (h : Fin64 x) : Sz 1074 (fl x) := ⟨(fl_fits h).1.mono (by omega), (fl_fits h).2⟩
theorem ofV_sz (a b c : Nat) : Sz 2149 (ofV a b c) := by
  unfold ofV
  split
  · rename_i h
    obtain ⟨h1, h2, h3⟩ := h
    exact ((fl_sz h1).mono (show (1074 : Int) ≤ 1074 + 1074 by omega)).add ((fl_sz h2).mul (fl_sz h3)) |>.mono (by omega)
  · exact Sz.zero
end Go.Proofs.YthnmjkjllhlcjaaDoor
