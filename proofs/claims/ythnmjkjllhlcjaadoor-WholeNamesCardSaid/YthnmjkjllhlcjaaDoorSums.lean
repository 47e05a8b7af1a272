/- Plain mathematics: sums of words by their places; no condition. -/
import Derived.Test.YthnmjkjllhlcjaaDoorPlain
namespace Go.Tri
open Go

def sumTo (f : Nat → Nat) : Nat → Nat
  | 0 => 0
  | k + 1 => sumTo f k + 2 ^ (32 * k) * f k
theorem sumTo_add (f g : Nat → Nat) : ∀ n, sumTo (fun j => f j + g j) n = sumTo f n + sumTo g n
  | 0 => rfl
  | n + 1 => by simp only [sumTo, sumTo_add f g n]; grind
theorem ofWords_snoc (xs : List Nat) (x : Nat) : ofWords (xs ++ [x]) = ofWords xs + 2 ^ (32 * xs.length) * x := by
  rw [ofWords_append]; simp [ofWords]
theorem sumTo_take (ys : List Nat) : ∀ n, sumTo (fun j => ys.getD j 0) n = ofWords (ys.take n)
  | 0 => by simp [sumTo, ofWords]
  | n + 1 => by
    simp only [sumTo, sumTo_take ys n]
    rcases Nat.lt_or_ge n ys.length with h | h
    · rw [List.take_succ_eq_append_getElem h, ofWords_snoc, List.length_take, Nat.min_eq_left (by omega)]
      simp [h]
    · rw [List.take_of_length_le h, List.take_of_length_le (by omega)]
      rw [List.getD_eq_getElem?_getD, List.getElem?_eq_none h]; simp
def wordAt (xs : List Nat) (e i : Int) : Nat := if i < e then 0 else xs.getD (i - e).toNat 0
theorem wordAt_lt {xs : List Nat} (h : ∀ x ∈ xs, x < 4294967296) (e i : Int) : wordAt xs e i < 4294967296 := by
  unfold wordAt
  split
  · omega
  · rw [List.getD_eq_getElem?_getD]
    cases hj : xs[(i - e).toNat]? with
    | none => simp
    | some x => exact h x (List.mem_of_getElem? hj)
theorem wordAt_shift (xs : List Nat) (b : Int) (d j : Nat) : wordAt xs (b + d) (b + j) = (List.replicate d 0 ++ xs).getD j 0 := by
  unfold wordAt
  rw [List.getD_eq_getElem?_getD (l := List.replicate d 0 ++ xs)]
  rcases Nat.lt_or_ge j d with h | h
  · rw [if_pos (by omega), List.getElem?_append_left (by simpa using h), List.getElem?_replicate, if_pos h]; rfl
  · rw [if_neg (by omega), List.getElem?_append_right (by simpa using h), List.length_replicate, ← List.getD_eq_getElem?_getD, show (b + (j : Int) - (b + d)).toNat = j - d by omega]
theorem ofWords_replicate (d : Nat) : ofWords (List.replicate d 0) = 0 := ofWords_zero fun j => by
  rw [List.getD_eq_getElem?_getD, List.getElem?_replicate]; split <;> rfl
/-- The words by their places make the number. -/
theorem sumTo_words {xs : List Nat} {b e : Int} {n : Nat} (hb : b ≤ e) (hn : e + xs.length ≤ b + n) : sumTo (fun j => wordAt xs e (b + j)) n = 2 ^ (32 * (e - b).toNat) * ofWords xs := by
  obtain ⟨d, rfl⟩ := Int.le.dest hb
  have : (fun j : Nat => wordAt xs (b + d) (b + j)) = fun j => (List.replicate d 0 ++ xs).getD j 0 := funext fun j => wordAt_shift xs b d j
  rw [this, sumTo_take, List.take_of_length_le (by simp; omega), ofWords_append, ofWords_replicate, List.length_replicate, show (b + (d : Int) - b).toNat = d by omega]
  omega
theorem sumTo_mag {xs : List Nat} {b e : Int} {n : Nat} (hb : b ≤ e) (hn : e + xs.length ≤ b + n) : (sumTo (fun j => wordAt xs e (b + j)) n : Rat) * p2 (32 * b) = magVal xs e := by
  rw [sumTo_words hb hn, Rat.natCast_mul, ← p2_nat]
  unfold magVal
  rw [show 32 * e = ((32 * (e - b).toNat : Nat) : Int) + 32 * b by omega, p2_add]
  grind
/-- One step of a sum with its carry. -/
theorem sum_step {os : List Nat} {k c a b S : Nat} (hl : os.length = k) (h : ofWords os + 2 ^ (32 * k) * c = S) :
    ofWords (os ++ [(c + (a + b)) % 4294967296]) + 2 ^ (32 * (k + 1)) * ((c + (a + b)) / 4294967296) = S + 2 ^ (32 * k) * (a + b) := by
  rw [ofWords_snoc, hl, show 32 * (k + 1) = 32 * k + 32 by omega, Nat.pow_add]
  have e : (2 : Nat) ^ 32 = 4294967296 := by decide
  have hd := Nat.div_add_mod (c + (a + b)) 4294967296
  generalize (c + (a + b)) % 4294967296 = r at *
  generalize (c + (a + b)) / 4294967296 = q at *
  rw [e, ← h]
  have : c + (a + b) = 4294967296 * q + r := hd.symm
  grind
theorem sumTo_lt {f : Nat → Nat} (h : ∀ j, f j < 4294967296) : ∀ n, sumTo f n < 2 ^ (32 * n)
  | 0 => by simp [sumTo]
  | n + 1 => by
    have ih := sumTo_lt h n
    have h1 := h n
    simp only [sumTo]
    rw [show 32 * (n + 1) = 32 * n + 32 by omega, Nat.pow_add]
    have h2 : 2 ^ (32 * n) * (f n + 1) ≤ 2 ^ (32 * n) * 2 ^ 32 := Nat.mul_le_mul_left _ (by have e : (2 : Nat) ^ 32 = 4294967296 := by decide
                                                                                            omega)
    rw [Nat.mul_add, Nat.mul_one] at h2
    omega
/-- One step of a difference with its borrow. -/
theorem less_step {os : List Nat} {k a b bw r q X Y : Nat} (hl : os.length = k) (h : ofWords os + Y = X + 2 ^ (32 * k) * bw) (hr : r + b + bw = a + 4294967296 * q) :
    ofWords (os ++ [r]) + (Y + 2 ^ (32 * k) * b) = X + 2 ^ (32 * k) * a + 2 ^ (32 * (k + 1)) * q := by
  rw [ofWords_snoc, hl, show 32 * (k + 1) = 32 * k + 32 by omega, Nat.pow_add, show (2 : Nat) ^ 32 = 4294967296 by decide]
  generalize 2 ^ (32 * k) = P at *
  have h1 : P * (r + b + bw) = P * (a + 4294967296 * q) := by rw [hr]
  have h2 : P * (r + b + bw) = P * r + P * b + P * bw := by grind
  have h3 : P * (a + 4294967296 * q) = P * a + P * 4294967296 * q := by grind
  omega
theorem sumTo_split {f g : Nat → Nat} {k : Nat} (hf : ∀ j, f j < 4294967296) (hlt : f k < g k) : ∀ n, k < n → (∀ j, k < j → j < n → f j = g j) → sumTo f n < sumTo g n
  | 0, h, _ => absurd h (Nat.not_lt_zero _)
  | n + 1, h, heq => by
    simp only [sumTo]
    by_cases hk : k = n
    · subst hk
      have h1 := sumTo_lt hf k
      have h2 : 2 ^ (32 * k) * (f k + 1) ≤ 2 ^ (32 * k) * g k := Nat.mul_le_mul_left _ hlt
      rw [Nat.mul_add, Nat.mul_one] at h2
      omega
    · have ih := sumTo_split hf hlt n (by omega) fun j h1 h2 => heq j h1 (by omega)
      rw [heq n (by omega) (by omega)]
      omega
theorem sumTo_congr {f g : Nat → Nat} : ∀ n, (∀ j, j < n → f j = g j) → sumTo f n = sumTo g n
  | 0, _ => rfl
  | n + 1, h => by simp only [sumTo]; rw [sumTo_congr n fun j hj => h j (by omega), h n (by omega)]
end Go.Tri
