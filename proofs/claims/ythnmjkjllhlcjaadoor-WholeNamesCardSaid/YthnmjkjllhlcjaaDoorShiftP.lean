/- Plain mathematics: words moved up by some bits, from the top down; no condition. -/
import Derived.Test.YthnmjkjllhlcjaaDoorMulP
namespace Go.Tri
open Go

def shWord (ys : List Nat) (r j : Nat) : Nat := ys.getD j 0 * 2 ^ r % 4294967296 + (if j = 0 then 0 else ys.getD (j - 1) 0 / 2 ^ (32 - r))
/-- From place i on the words are moved. -/
def mix (ys : List Nat) (r m i : Nat) : List Nat := (List.range m).map fun j => if i ≤ j then shWord ys r j else ys.getD j 0
theorem mix_len (ys : List Nat) (r m i : Nat) : (mix ys r m i).length = m := by simp [mix]
theorem mix_getD {ys : List Nat} {r m i j : Nat} (hj : j < m) : (mix ys r m i).getD j 0 = if i ≤ j then shWord ys r j else ys.getD j 0 := by
  rw [List.getD_eq_getElem?_getD]
  simp [mix, hj]
theorem mix_start {ys : List Nat} (r : Nat) : mix ys r ys.length ys.length = ys := by
  refine List.ext_getElem (mix_len _ _ _ _) fun j h1 h2 => ?_
  simp [mix, h2, Nat.not_le.2 h2]
theorem mix_set {ys : List Nat} {r m i : Nat} : (mix ys r m (i + 1)).set i (shWord ys r i) = mix ys r m i := by
  refine List.ext_getElem (by simp [mix_len]) fun j h1 h2 => ?_
  rw [List.getElem_set]
  simp only [mix, List.getElem_map, List.getElem_range]
  by_cases h : i = j
  · subst h; simp
  · rw [if_neg h]
    by_cases h3 : i ≤ j
    · rw [if_pos h3, if_pos (by omega)]
    · rw [if_neg h3, if_neg (by omega)]
theorem div_pow {y r : Nat} (hr : r ≤ 32) : y / 2 ^ (32 - r) = y * 2 ^ r / 4294967296 := by
  have h : (4294967296 : Nat) = 2 ^ r * 2 ^ (32 - r) := by rw [← Nat.pow_add, show r + (32 - r) = 32 by omega]
  rw [h, Nat.mul_comm y, Nat.mul_div_mul_left _ _ (Nat.two_pow_pos r)]
theorem shWord_lt {ys : List Nat} (h : ∀ y ∈ ys, y < 4294967296) {r j : Nat} (hr0 : 0 < r) (hr : r < 32) : shWord ys r j < 4294967296 := by
  unfold shWord
  have h1 : ys.getD j 0 * 2 ^ r % 4294967296 + 2 ^ r ≤ 4294967296 := by
    have e1 : (4294967296 : Nat) = 2 ^ (32 - r) * 2 ^ r := by rw [← Nat.pow_add, show (32 - r) + r = 32 by omega]
    have h2 : ys.getD j 0 * 2 ^ r % 4294967296 = (ys.getD j 0 % 2 ^ (32 - r)) * 2 ^ r := by
      rw [e1, Nat.mul_mod_mul_right]
    have h3 := Nat.mod_lt (ys.getD j 0) (Nat.two_pow_pos (32 - r))
    rw [h2]
    have h4 : (ys.getD j 0 % 2 ^ (32 - r) + 1) * 2 ^ r ≤ 2 ^ (32 - r) * 2 ^ r := Nat.mul_le_mul_right _ h3
    rw [Nat.add_mul, Nat.one_mul, ← e1] at h4
    exact h4
  have h5 : ∀ k, ys.getD k 0 < 4294967296 := fun k => by
    rw [List.getD_eq_getElem?_getD]
    cases hk : ys[k]? with
    | none => simp
    | some y => exact h y (List.mem_of_getElem? hk)
  split
  · have := Nat.two_pow_pos r; omega
  · have : ys.getD (j - 1) 0 / 2 ^ (32 - r) < 2 ^ r := by
      rw [Nat.div_lt_iff_lt_mul (Nat.two_pow_pos _), ← Nat.pow_add, show r + (32 - r) = 32 by omega]
      exact h5 _
    omega
theorem sh_sum (ys : List Nat) {r : Nat} (hr : r < 32) : ∀ k, sumTo (shWord ys r) k + 2 ^ (32 * k) * (if k = 0 then 0 else ys.getD (k - 1) 0 / 2 ^ (32 - r)) = 2 ^ r * sumTo (fun j => ys.getD j 0) k
  | 0 => by simp [sumTo]
  | k + 1 => by
    have ih := sh_sum ys hr k
    simp only [sumTo, Nat.add_sub_cancel, Nat.add_one_ne_zero, if_false]
    rw [show shWord ys r k = ys.getD k 0 * 2 ^ r % 4294967296 + (if k = 0 then 0 else ys.getD (k - 1) 0 / 2 ^ (32 - r)) from rfl]
    generalize (if k = 0 then 0 else ys.getD (k - 1) 0 / 2 ^ (32 - r)) = c at *
    rw [div_pow (by omega)]
    have hd := Nat.div_add_mod (ys.getD k 0 * 2 ^ r) 4294967296
    rw [show 32 * (k + 1) = 32 * k + 32 by omega, Nat.pow_add, show (2 : Nat) ^ 32 = 4294967296 by decide]
    generalize (ys.getD k 0 * 2 ^ r) / 4294967296 = q at *
    generalize (ys.getD k 0 * 2 ^ r) % 4294967296 = s at *
    generalize ys.getD k 0 = y at *
    generalize 2 ^ (32 * k) = P at *
    generalize 2 ^ r = R at *
    have e0 : R * (sumTo (fun j => ys.getD j 0) k + P * y) = R * sumTo (fun j => ys.getD j 0) k + R * (P * y) := Nat.mul_add _ _ _
    rw [e0, ← ih]
    have e1 : R * (P * y) = P * (y * R) := by grind
    rw [e1, ← hd]
    grind
theorem mix_val {xs : List Nat} {r : Nat} (hr : r < 32) : ofWords (mix (xs ++ [0]) r (xs.length + 1) 0) = 2 ^ r * ofWords xs := by
  have h1 := sumTo_take (mix (xs ++ [0]) r (xs.length + 1) 0) (xs.length + 1)
  rw [List.take_of_length_le (by rw [mix_len]; omega)] at h1
  rw [← h1, sumTo_congr (g := shWord (xs ++ [0]) r) _ fun j hj => by rw [mix_getD hj, if_pos (Nat.zero_le _)]]
  have h2 := sh_sum (xs ++ [0]) hr (xs.length + 1)
  have h3 := sumTo_take (xs ++ [0]) (xs.length + 1)
  rw [List.take_of_length_le (by simp), ofWords_snoc] at h3
  rw [h3] at h2
  simpa using h2
theorem mix_lt {ys : List Nat} (h : ∀ y ∈ ys, y < 4294967296) {r m i : Nat} (hr0 : 0 < r) (hr : r < 32) : ∀ y ∈ mix ys r m i, y < 4294967296 := fun y hy => by
  obtain ⟨j, -, rfl⟩ := List.mem_map.1 hy
  split
  · exact shWord_lt h hr0 hr
  · rw [List.getD_eq_getElem?_getD]
    cases hk : ys[j]? with
    | none => simp
    | some y => exact h y (List.mem_of_getElem? hk)
theorem magVal_shift {xs ys : List Nat} {r : Nat} {e k : Int} (hk : k % 32 = r) (h : ofWords ys = 2 ^ r * ofWords xs) : magVal ys (e + k / 32) = magVal xs e * p2 k := by
  unfold magVal
  have hk' : k = 32 * (k / 32) + r := by omega
  have e1 : p2 k = p2 (32 * (k / 32)) * p2 r := by rw [← p2_add, ← hk']
  rw [h, Rat.natCast_mul, ← p2_nat, e1, show 32 * (e + k / 32) = 32 * e + 32 * (k / 32) by omega, p2_add]
  grind
end Go.Tri
