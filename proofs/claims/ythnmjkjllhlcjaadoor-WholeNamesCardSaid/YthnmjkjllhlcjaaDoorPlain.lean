/- Plain mathematics: powers of two among the rationals, words, what may be a number; no condition. -/
import Derived.Lib.ItoaNum
import Derived.Lib.TrailingZeros
namespace Go.Tri
open Go

def p2 (k : Int) : Rat := (2 : Rat) ^ k
theorem p2_pos (k : Int) : 0 < p2 k := Rat.zpow_pos (by decide)
theorem p2_ne (k : Int) : p2 k ≠ 0 := Rat.ne_of_gt (p2_pos k)
theorem p2_add (a b : Int) : p2 (a + b) = p2 a * p2 b := Rat.zpow_add (by decide) a b
theorem p2_zero : p2 0 = 1 := Rat.zpow_zero 2
theorem p2_one : p2 1 = 2 := Rat.zpow_one 2
theorem p2_nat (n : Nat) : p2 n = ((2 ^ n : Nat) : Rat) := by
  show (2 : Rat) ^ (n : Int) = _
  rw [Rat.zpow_natCast]; exact (Rat.natCast_pow 2 n).symm
theorem p2_sub (a b : Int) : p2 (a - b) * p2 b = p2 a := by rw [← p2_add]; congr 1; omega
theorem p2_neg_mul (a : Int) : p2 (-a) * p2 a = 1 := by rw [← p2_add, Int.add_left_neg, p2_zero]
theorem p2_mul_neg (a : Int) : p2 a * p2 (-a) = 1 := by rw [← p2_add, Int.add_right_neg, p2_zero]
theorem one_le_p2 (n : Nat) : (1 : Rat) ≤ p2 n := by
  rw [p2_nat]; exact_mod_cast Nat.one_le_two_pow
theorem p2_le {a b : Int} (h : a ≤ b) : p2 a ≤ p2 b := by
  obtain ⟨n, rfl⟩ := Int.le.dest h
  rw [p2_add]
  have := Rat.mul_le_mul_of_nonneg_left (one_le_p2 n) (Rat.le_of_lt (p2_pos a))
  rwa [Rat.mul_one] at this
theorem p2_succ (a : Int) : p2 (a + 1) = 2 * p2 a := by rw [p2_add, p2_one]; exact Rat.mul_comm _ _
theorem p2_lt {a b : Int} (h : a < b) : p2 a < p2 b := by
  have h1 := p2_le (show a + 1 ≤ b by omega)
  have h2 := p2_succ a
  have h3 := p2_pos a
  grind
theorem p2_lt_iff {a b : Int} : p2 a < p2 b ↔ a < b := ⟨fun h => by
  rcases Int.lt_or_le a b with h' | h'
  · exact h'
  · exact absurd (p2_le h') (by rw [Rat.not_le]; exact h), p2_lt⟩

/-- A whole number. -/
def Intg (q : Rat) : Prop := ∃ z : Int, q = z
theorem Intg.int (z : Int) : Intg z := ⟨z, rfl⟩
theorem Intg.nat (z : Nat) : Intg z := ⟨z, (Rat.intCast_natCast z).symm⟩
theorem Intg.add {a b : Rat} (h : Intg a) (k : Intg b) : Intg (a + b) := by
  obtain ⟨x, rfl⟩ := h; obtain ⟨y, rfl⟩ := k; exact ⟨x + y, (Rat.intCast_add x y).symm⟩
theorem Intg.mul {a b : Rat} (h : Intg a) (k : Intg b) : Intg (a * b) := by
  obtain ⟨x, rfl⟩ := h; obtain ⟨y, rfl⟩ := k; exact ⟨x * y, (Rat.intCast_mul x y).symm⟩
theorem Intg.neg {a : Rat} (h : Intg a) : Intg (-a) := by
  obtain ⟨x, rfl⟩ := h; exact ⟨-x, (Rat.intCast_neg x).symm⟩
theorem Intg.p2 (n : Nat) : Intg (p2 n) := by rw [p2_nat]; exact Intg.nat _

/-- Of magnitude below 2^h. -/
def Bd (h : Int) (q : Rat) : Prop := q < p2 h ∧ -q < p2 h
/-- A multiple of 2^-l. -/
def Gr (l : Int) (q : Rat) : Prop := Intg (q * p2 l)
theorem Bd.mono {h k : Int} {q : Rat} (b : Bd h q) (hk : h ≤ k) : Bd k q := by
  have := p2_le hk
  obtain ⟨b1, b2⟩ := b
  exact ⟨by grind, by grind⟩
theorem Gr.mono {h k : Int} {q : Rat} (b : Gr h q) (hk : h ≤ k) : Gr k q := by
  obtain ⟨n, rfl⟩ := Int.le.dest hk
  show Intg (q * p2 (h + n))
  rw [p2_add, ← Rat.mul_assoc]
  exact Intg.mul b (Intg.p2 n)
theorem Bd.zero (h : Int) : Bd h 0 := ⟨p2_pos h, by have := p2_pos h; grind⟩
theorem Gr.zero (h : Int) : Gr h 0 := ⟨0, by grind⟩
theorem Bd.neg {h : Int} {q : Rat} (b : Bd h q) : Bd h (-q) := ⟨b.2, by rw [Rat.neg_neg]; exact b.1⟩
theorem Gr.neg {h : Int} {q : Rat} (b : Gr h q) : Gr h (-q) := by
  show Intg (-q * p2 h); rw [Rat.neg_mul]; exact Intg.neg b
theorem Bd.add {h : Int} {a b : Rat} (x : Bd h a) (y : Bd h b) : Bd (h + 1) (a + b) := by
  obtain ⟨x1, x2⟩ := x; obtain ⟨y1, y2⟩ := y
  constructor <;> rw [p2_succ] <;> grind
theorem Gr.add {h : Int} {a b : Rat} (x : Gr h a) (y : Gr h b) : Gr h (a + b) := by
  show Intg ((a + b) * p2 h); rw [Rat.add_mul]; exact Intg.add x y
theorem Gr.mul {h k : Int} {a b : Rat} (x : Gr h a) (y : Gr k b) : Gr (h + k) (a * b) := by
  show Intg (a * b * p2 (h + k))
  rw [p2_add, show a * b * (p2 h * p2 k) = (a * p2 h) * (b * p2 k) by grind]
  exact Intg.mul x y
theorem mul_bd {a b A B : Rat} (ha : a < A) (ha' : -a < A) (hb : b < B) (hb' : -b < B) : a * b < A * B := by
  have hA : 0 < A := by grind
  have hB : 0 < B := by grind
  rcases Rat.le_total (a := 0) (b := a) with h | h
  · rcases Rat.le_total (a := 0) (b := b) with k | k
    · have h1 : a * b ≤ A * b := Rat.mul_le_mul_of_nonneg_right (Rat.le_of_lt ha) k
      have h2 : A * b < A * B := Rat.mul_lt_mul_of_pos_left hb hA
      grind
    · have h1 : 0 ≤ a * -b := Rat.mul_nonneg h (by grind)
      have h2 := Rat.mul_pos hA hB
      grind
  · rcases Rat.le_total (a := 0) (b := b) with k | k
    · have h1 : 0 ≤ -a * b := Rat.mul_nonneg (by grind) k
      have h2 := Rat.mul_pos hA hB
      grind
    · have h1 : -a * -b ≤ A * -b := Rat.mul_le_mul_of_nonneg_right (Rat.le_of_lt ha') (by grind)
      have h2 : A * -b < A * B := Rat.mul_lt_mul_of_pos_left hb' hA
      grind
theorem Bd.mul {h k : Int} {a b : Rat} (x : Bd h a) (y : Bd k b) : Bd (h + k) (a * b) := by
  unfold Bd; rw [p2_add]
  refine ⟨mul_bd x.1 x.2 y.1 y.2, ?_⟩
  rw [show -(a * b) = -a * b by grind]
  exact mul_bd x.2 (by rw [Rat.neg_neg]; exact x.1) y.1 y.2

/-- What may be a number. -/
def Fits (q : Rat) : Prop := Bd 65537 q ∧ Gr 65536 q
open Classical in
noncomputable def mk (q : Rat) : Option Rat := if Fits q then some q else none
theorem mk_fits {q : Rat} (h : Fits q) : mk q = some q := if_pos h
theorem mk_none {q : Rat} (h : ¬ Fits q) : mk q = none := if_neg h
theorem fits_zero : Fits 0 := ⟨Bd.zero _, Gr.zero _⟩
theorem Fits.neg {q : Rat} (h : Fits q) : Fits (-q) := ⟨h.1.neg, h.2.neg⟩

/-! ### Words of 32 bits -/
def ofWords : List Nat → Nat
  | [] => 0
  | x :: xs => x + 4294967296 * ofWords xs
theorem ofWords_append (xs ys : List Nat) : ofWords (xs ++ ys) = ofWords xs + 2 ^ (32 * xs.length) * ofWords ys := by
  induction xs with
  | nil => simp [ofWords]
  | cons x xs ih =>
    simp only [List.cons_append, ofWords, ih, List.length_cons]
    rw [show 32 * (xs.length + 1) = 32 + 32 * xs.length by omega, Nat.pow_add]
    grind
theorem ofWords_lt {xs : List Nat} (h : ∀ x ∈ xs, x < 4294967296) : ofWords xs < 2 ^ (32 * xs.length) := by
  induction xs with
  | nil => simp [ofWords]
  | cons x xs ih =>
    have h1 := h x (List.mem_cons_self ..)
    have h2 := ih fun y hy => h y (List.mem_cons_of_mem _ hy)
    simp only [ofWords, List.length_cons]
    rw [show 32 * (xs.length + 1) = 32 + 32 * xs.length by omega, Nat.pow_add]
    have : (2 : Nat) ^ 32 = 4294967296 := by decide
    rw [this]
    omega
theorem ofWords_zero {xs : List Nat} (h : ∀ j, xs.getD j 0 = 0) : ofWords xs = 0 := by
  induction xs with
  | nil => rfl
  | cons x xs ih =>
    have h0 := h 0
    simp at h0
    simp only [ofWords]
    rw [h0, ih fun j => by simpa using h (j + 1)]
theorem ofWords_pos {xs : List Nat} {j : Nat} (h : xs.getD j 0 ≠ 0) : ofWords xs ≠ 0 := by
  induction xs generalizing j with
  | nil => simp at h
  | cons x xs ih =>
    simp only [ofWords]
    cases j with
    | zero => simp at h; omega
    | succ j => have := ih (j := j) (by simpa using h); omega

noncomputable def magVal (xs : List Nat) (e : Int) : Rat := (ofWords xs : Rat) * p2 (32 * e)
theorem magVal_nil (e : Int) : magVal [] e = 0 := by unfold magVal ofWords; grind
theorem magVal_nonneg (xs : List Nat) (e : Int) : 0 ≤ magVal xs e := Rat.mul_nonneg Rat.natCast_nonneg (Rat.le_of_lt (p2_pos _))
theorem magVal_zeros {xs : List Nat} (e : Int) (h : ∀ j, xs.getD j 0 = 0) : magVal xs e = 0 := by
  unfold magVal; rw [ofWords_zero h]; grind
/-- Noughts ahead and behind do not count. -/
theorem magVal_cut {xs : List Nat} {f l : Nat} (e : Int) (hfl : f ≤ l) (hl : l ≤ xs.length) (hb : ∀ j, j < f → xs.getD j 0 = 0) (ha : ∀ j, l ≤ j → j < xs.length → xs.getD j 0 = 0) :
    magVal ((xs.drop f).take (l - f)) (e + f) = magVal xs e := by
  have e1 : xs = xs.take f ++ ((xs.drop f).take (l - f) ++ xs.drop l) := by
    conv => lhs; rw [← List.take_append_drop f xs]
    congr 1
    conv => lhs; rw [← List.take_append_drop (l - f) (xs.drop f)]
    rw [List.drop_drop, show f + (l - f) = l by omega]
  have h1 : ofWords (xs.take f) = 0 := ofWords_zero fun j => by
    rw [List.getD_eq_getElem?_getD, List.getElem?_take]
    split
    · rename_i h; have := hb j h; rwa [List.getD_eq_getElem?_getD] at this
    · rfl
  have h2 : ofWords (xs.drop l) = 0 := ofWords_zero fun j => by
    rw [List.getD_eq_getElem?_getD, List.getElem?_drop]
    by_cases h : l + j < xs.length
    · have := ha (l + j) (by omega) h; rwa [List.getD_eq_getElem?_getD] at this
    · rw [List.getElem?_eq_none (by omega)]; rfl
  have h3 : ofWords xs = 2 ^ (32 * f) * ofWords ((xs.drop f).take (l - f)) := by
    conv => lhs; rw [e1]
    rw [ofWords_append, ofWords_append, h1, h2, List.length_take, Nat.min_eq_left (by omega)]
    simp
  unfold magVal
  rw [h3, Rat.natCast_mul, show 32 * (e + (f : Int)) = ((32 * f : Nat) : Int) + 32 * e by omega, p2_add, p2_nat]
  grind

theorem bitLen_bounds {x : Nat} (h0 : x ≠ 0) (h : x < 4294967296) : 1 ≤ Lib.bitLen x ∧ 2 ^ (Lib.bitLen x - 1) ≤ x ∧ x < 2 ^ Lib.bitLen x :=
  Lib.bitLenAux_bounds 64 x (by omega) h0

/-- The highest bit. -/
theorem high_bounds {xs : List Nat} {e : Int} (hlt : ∀ x ∈ xs, x < 4294967296) (h0 : 0 < xs.length) (hl : xs.getD (xs.length - 1) 0 ≠ 0) :
    p2 (32 * (e + xs.length) - 1 - (32 - (Lib.bitLen (xs.getD (xs.length - 1) 0) : Nat))) ≤ magVal xs e ∧ magVal xs e < p2 (32 * (e + xs.length) - 1 - (32 - (Lib.bitLen (xs.getD (xs.length - 1) 0) : Nat)) + 1) := by
  have hx : xs = xs.take (xs.length - 1) ++ [xs.getD (xs.length - 1) 0] := by
    conv => lhs; rw [← List.take_append_drop (xs.length - 1) xs]
    congr 1
    rw [List.drop_eq_getElem_cons (by omega), List.drop_eq_nil_of_le (by omega)]
    simp [show xs.length - 1 < xs.length by omega]
  generalize ht : xs.getD (xs.length - 1) 0 = t at hx hl ⊢
  have htl : t < 4294967296 := by
    rw [← ht, List.getD_eq_getElem?_getD, List.getElem?_eq_getElem (by omega)]
    exact hlt _ (List.getElem_mem _)
  obtain ⟨b1, b2, b3⟩ := bitLen_bounds hl htl
  have hlow : ofWords (xs.take (xs.length - 1)) < 2 ^ (32 * (xs.length - 1)) := by
    have := ofWords_lt (xs := xs.take (xs.length - 1)) fun x hx => hlt x (List.mem_of_mem_take hx)
    rwa [List.length_take, Nat.min_eq_left (by omega)] at this
  have hv : ofWords xs = ofWords (xs.take (xs.length - 1)) + 2 ^ (32 * (xs.length - 1)) * t := by
    conv => lhs; rw [hx]
    rw [ofWords_append, List.length_take, Nat.min_eq_left (by omega)]
    simp [ofWords]
  generalize Lib.bitLen t = n at *
  have lo : 2 ^ (32 * (xs.length - 1) + (n - 1)) ≤ ofWords xs := by
    rw [Nat.pow_add, hv]
    have := Nat.mul_le_mul_left (2 ^ (32 * (xs.length - 1))) b2
    omega
  have hi : ofWords xs < 2 ^ (32 * (xs.length - 1) + n) := by
    rw [Nat.pow_add, hv]
    have := Nat.mul_le_mul_left (2 ^ (32 * (xs.length - 1))) (show t + 1 ≤ 2 ^ n by omega)
    rw [Nat.mul_add, Nat.mul_one] at this
    omega
  have lo' : p2 ((32 * (xs.length - 1) + (n - 1) : Nat)) ≤ (ofWords xs : Rat) := by rw [p2_nat]; exact_mod_cast lo
  have hi' : (ofWords xs : Rat) < p2 ((32 * (xs.length - 1) + n : Nat)) := by rw [p2_nat]; exact_mod_cast hi
  unfold magVal
  constructor
  · rw [show 32 * (e + (xs.length : Int)) - 1 - (32 - (n : Int)) = ((32 * (xs.length - 1) + (n - 1) : Nat) : Int) + 32 * e by omega, p2_add]
    exact Rat.mul_le_mul_of_nonneg_right lo' (Rat.le_of_lt (p2_pos _))
  · rw [show 32 * (e + (xs.length : Int)) - 1 - (32 - (n : Int)) + 1 = ((32 * (xs.length - 1) + n : Nat) : Int) + 32 * e by omega, p2_add]
    exact Rat.mul_lt_mul_of_pos_right hi' (p2_pos _)

/-- The lowest bit. -/
theorem low_odd {xs : List Nat} {e : Int} (hlt : ∀ x ∈ xs, x < 4294967296) (hf : xs.getD 0 0 ≠ 0) :
    ∃ m : Nat, magVal xs e = ((2 * m + 1 : Nat) : Rat) * p2 (32 * e + (Lib.ctz 32 (xs.getD 0 0) : Nat)) := by
  cases xs with
  | nil => simp at hf
  | cons x xs =>
    simp only [List.getD_cons_zero] at hf ⊢
    have hx := hlt x (List.mem_cons_self ..)
    obtain ⟨m, hm, hk⟩ := Lib.ctzFrom_spec 32 x (by omega) (by omega)
    have hc : Lib.ctz 32 x = Lib.ctzFrom 32 x := by unfold Lib.ctz; rw [if_neg hf]
    rw [hc]
    generalize Lib.ctzFrom 32 x = k at *
    refine ⟨m + 2 ^ (31 - k) * ofWords xs, ?_⟩
    have : ofWords (x :: xs) = (2 * (m + 2 ^ (31 - k) * ofWords xs) + 1) * 2 ^ k := by
      simp only [ofWords]
      have h32 : (4294967296 : Nat) = 2 ^ k * (2 * 2 ^ (31 - k)) := by
        rw [← Nat.pow_succ', ← Nat.pow_add, show k + (31 - k + 1) = 32 by omega]
      rw [h32, hm]; grind
    unfold magVal
    rw [this, Rat.natCast_mul, p2_add, p2_nat k]
    grind

theorem odd_not_gr {m : Nat} {k l : Int} (h : Gr l (((2 * m + 1 : Nat) : Rat) * p2 k)) : -l ≤ k := by
  rcases Int.lt_or_le k (-l) with h' | h'
  · exfalso
    obtain ⟨z, hz⟩ := h
    obtain ⟨n, hn⟩ := Int.le.dest (show k + 1 ≤ -l by omega)
    rw [Rat.mul_assoc, ← p2_add] at hz
    have h1 : (((2 * m + 1 : Nat) : Rat) * p2 (k + l)) * p2 (-(k + l)) = (z : Rat) * p2 (-(k + l)) := by rw [hz]
    rw [Rat.mul_assoc, p2_mul_neg, Rat.mul_one, show -(k + l) = ((n + 1 : Nat) : Int) by omega, p2_nat, Nat.pow_succ] at h1
    have h2 : ((2 * m + 1 : Nat) : Int) = z * ((2 ^ n * 2 : Nat) : Int) := by
      have h3 : (((2 * m + 1 : Nat) : Int) : Rat) = ((z * ((2 ^ n * 2 : Nat) : Int) : Int) : Rat) := by
        rw [Rat.intCast_natCast, Rat.intCast_mul, Rat.intCast_natCast]; exact h1
      exact Rat.intCast_inj.1 h3
    generalize (2 : Nat) ^ n = t at h2
    have : ((2 * m + 1 : Nat) : Int) % 2 = 0 := by rw [h2]; exact Int.emod_eq_zero_of_dvd ⟨z * t, by push_cast; grind⟩
    omega
  · exact h'
theorem gr_of_le {m : Nat} {k l : Int} (h : -l ≤ k) : Gr l (((2 * m + 1 : Nat) : Rat) * p2 k) := by
  show Intg _
  obtain ⟨n, hn⟩ := Int.le.dest h
  rw [Rat.mul_assoc, ← p2_add, show k + l = (n : Int) by omega]
  exact Intg.mul (Intg.nat _) (Intg.p2 n)

/-- May it be? -/
theorem fits_mag {xs : List Nat} {e : Int} (hlt : ∀ x ∈ xs, x < 4294967296) (h0 : 0 < xs.length) (hl : xs.getD (xs.length - 1) 0 ≠ 0) (hf : xs.getD 0 0 ≠ 0) :
    Fits (magVal xs e) ↔ 32 * (e + (xs.length : Int)) - 1 - (32 - (Lib.bitLen (xs.getD (xs.length - 1) 0) : Nat)) ≤ 65536 ∧ -65536 ≤ 32 * e + (Lib.ctz 32 (xs.getD 0 0) : Nat) := by
  obtain ⟨b1, b2⟩ := high_bounds (e := e) hlt h0 hl
  obtain ⟨m, hm⟩ := low_odd (e := e) hlt hf
  have hn := magVal_nonneg xs e
  constructor
  · rintro ⟨hb, hg⟩
    refine ⟨?_, ?_⟩
    · have : p2 (32 * (e + (xs.length : Int)) - 1 - (32 - (Lib.bitLen (xs.getD (xs.length - 1) 0) : Nat))) < p2 65537 := by have := hb.1; grind
      have := p2_lt_iff.1 this
      omega
    · rw [hm] at hg
      exact odd_not_gr hg
  · rintro ⟨hh, hlo⟩
    refine ⟨⟨?_, ?_⟩, ?_⟩
    · have := p2_le (show 32 * (e + (xs.length : Int)) - 1 - (32 - (Lib.bitLen (xs.getD (xs.length - 1) 0) : Nat)) + 1 ≤ 65537 by omega)
      grind
    · have := p2_pos 65537; grind
    · rw [hm]; exact gr_of_le (by omega)
end Go.Tri
