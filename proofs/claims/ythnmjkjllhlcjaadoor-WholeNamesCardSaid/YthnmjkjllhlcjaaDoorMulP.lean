/- Plain mathematics: a product of words, word by word; no condition. -/
import Derived.Test.YthnmjkjllhlcjaaDoorSums
namespace Go.Tri
open Go

theorem ofWords_set {os : List Nat} {p : Nat} (x : Nat) (hp : p < os.length) : ofWords (os.set p x) + 2 ^ (32 * p) * os.getD p 0 = ofWords os + 2 ^ (32 * p) * x := by
  induction os generalizing p with
  | nil => simp at hp
  | cons y os ih =>
    cases p with
    | zero => simp [ofWords]; omega
    | succ p =>
      have := ih (p := p) (by simpa using hp)
      simp only [List.set_cons_succ, ofWords, List.getD_cons_succ]
      rw [show 32 * (p + 1) = 32 + 32 * p by omega, Nat.pow_add, show (2 : Nat) ^ 32 = 4294967296 by decide]
      generalize 2 ^ (32 * p) = P at *
      have e1 : 4294967296 * P * os.getD p 0 = 4294967296 * (P * os.getD p 0) := by grind
      have e2 : 4294967296 * P * x = 4294967296 * (P * x) := by grind
      omega
theorem set_lt {os : List Nat} {p x : Nat} (h : ∀ y ∈ os, y < 4294967296) (hx : x < 4294967296) : ∀ y ∈ os.set p x, y < 4294967296 := fun y hy => by
  rcases List.mem_or_eq_of_mem_set hy with h1 | h1
  · exact h y h1
  · omega
/-- One word more is added in. -/
theorem mul_step {os : List Nat} {p c a S : Nat} (hp : p < os.length) (h : ofWords os + 2 ^ (32 * p) * c = S) :
    ofWords (os.set p ((c + (a + os.getD p 0)) % 4294967296)) + 2 ^ (32 * (p + 1)) * ((c + (a + os.getD p 0)) / 4294967296) = S + 2 ^ (32 * p) * a := by
  have h1 := ofWords_set ((c + (a + os.getD p 0)) % 4294967296) hp
  have hd := Nat.div_add_mod (c + (a + os.getD p 0)) 4294967296
  rw [show 32 * (p + 1) = 32 * p + 32 by omega, Nat.pow_add, show (2 : Nat) ^ 32 = 4294967296 by decide]
  generalize os.getD p 0 = o at *
  generalize (c + (a + o)) % 4294967296 = r at *
  generalize (c + (a + o)) / 4294967296 = q at *
  generalize 2 ^ (32 * p) = P at *
  have h2 : P * (4294967296 * q + r) = P * (c + (a + o)) := by rw [hd]
  have h3 : P * (4294967296 * q + r) = P * 4294967296 * q + P * r := by grind
  have h4 : P * (c + (a + o)) = P * c + P * a + P * o := by grind
  omega
theorem ofWords_take_succ {xs : List Nat} {k : Nat} (h : k < xs.length) : ofWords (xs.take (k + 1)) = ofWords (xs.take k) + 2 ^ (32 * k) * xs.getD k 0 := by
  rw [List.take_succ_eq_append_getElem h, ofWords_snoc, List.length_take, Nat.min_eq_left (by omega)]
  simp [h]
theorem mul_bound {c x y o : Nat} (hc : c < 4294967296) (hx : x < 4294967296) (hy : y < 4294967296) (ho : o < 4294967296) : c + (x * y + o) < 18446744073709551616 ∧ (c + (x * y + o)) / 4294967296 < 4294967296 ∧ x * y < 18446744069414584321 + 1 := by
  have : x * y ≤ 4294967295 * 4294967295 := Nat.mul_le_mul (by omega) (by omega)
  generalize x * y = t at *
  omega
/-- Where there is a carry there is room for it. -/
theorem carry_room {os : List Nat} {p c P m : Nat} (h : ofWords os + 2 ^ (32 * p) * c = P) (hP : P < 2 ^ (32 * m)) (hc : c ≠ 0) : p < m := by
  rcases Nat.lt_or_ge p m with h1 | h1
  · exact h1
  · have h2 : 2 ^ (32 * m) ≤ 2 ^ (32 * p) := Nat.pow_le_pow_right (by omega) (by omega)
    have h3 : 2 ^ (32 * p) * 1 ≤ 2 ^ (32 * p) * c := Nat.mul_le_mul_left _ (by omega)
    omega
theorem mul_size {xs ys : List Nat} {i : Nat} (hx : ∀ x ∈ xs, x < 4294967296) (hy : ∀ y ∈ ys, y < 4294967296) (hi : i < xs.length) : ofWords (xs.take (i + 1)) * ofWords ys < 2 ^ (32 * (i + 1 + ys.length)) := by
  have h1 := ofWords_lt (xs := xs.take (i + 1)) fun x h => hx x (List.mem_of_mem_take h)
  rw [List.length_take, Nat.min_eq_left (by omega)] at h1
  have h2 := ofWords_lt hy
  rw [Nat.mul_add, Nat.pow_add]
  exact Nat.mul_lt_mul_of_lt_of_le h1 (Nat.le_of_lt h2) (Nat.two_pow_pos _)
/-- Where the inner loop stands. -/
def InnerAt (xs ys os : List Nat) (i k c : Nat) : Prop := ofWords os + 2 ^ (32 * (i + k)) * c = ofWords (xs.take i) * ofWords ys + 2 ^ (32 * i) * xs.getD i 0 * ofWords (ys.take k)
theorem inner_start {xs ys os : List Nat} {i : Nat} (h : ofWords os = ofWords (xs.take i) * ofWords ys) : InnerAt xs ys os i 0 0 := by
  unfold InnerAt; simp [ofWords, h]
theorem inner_step {xs ys os : List Nat} {i k c : Nat} (hp : i + k < os.length) (hk : k < ys.length) (h : InnerAt xs ys os i k c) :
    InnerAt xs ys (os.set (i + k) ((c + (xs.getD i 0 * ys.getD k 0 + os.getD (i + k) 0)) % 4294967296)) i (k + 1) ((c + (xs.getD i 0 * ys.getD k 0 + os.getD (i + k) 0)) / 4294967296) := by
  unfold InnerAt at *
  have := mul_step (a := xs.getD i 0 * ys.getD k 0) hp h
  rw [show i + (k + 1) = i + k + 1 by omega, this, ofWords_take_succ hk, show 32 * (i + k) = 32 * i + 32 * k by omega, Nat.pow_add]
  grind
theorem inner_end {xs ys os : List Nat} {i c : Nat} (hi : i < xs.length) (h : InnerAt xs ys os i ys.length c) : ofWords os + 2 ^ (32 * (i + ys.length)) * c = ofWords (xs.take (i + 1)) * ofWords ys := by
  unfold InnerAt at h
  rw [h, List.take_length, ofWords_take_succ hi]
  grind
theorem magVal_mul {xs ys os : List Nat} {e e' : Int} (h : ofWords os = ofWords (xs.take xs.length) * ofWords ys) : magVal os (e + e') = magVal xs e * magVal ys e' := by
  rw [List.take_length] at h
  unfold magVal
  rw [h, Rat.natCast_mul, show 32 * (e + e') = 32 * e + 32 * e' by omega, p2_add]
  grind
end Go.Tri
