/- The walks of whole.bit, Int, OK, Sign, Neg; no condition. -/
import Derived.Test.YthnmjkjllhlcjaaDoorNum
namespace Go.Proofs.YthnmjkjllhlcjaaDoor
open Go Go.RowKit Go.Steady Go.Tri
set_option maxRecDepth 100000

theorem and31 (k : Int) : bits BinOp.and IntKind.i64 k 31 = ((k % 32).toNat : Nat) := by
  have h2 : (BitVec.ofInt 64 31).toNat = 2 ^ 5 - 1 := by decide
  have hx : ((BitVec.ofInt 64 k).toNat : Int) % 32 = k % 32 := by
    rw [BitVec.toNat_ofInt]
    omega
  show IntKind.i64.wrap ((BitVec.ofInt 64 k &&& BitVec.ofInt 64 31).toNat : Int) = _
  rw [BitVec.toNat_and, h2, Nat.and_two_pow_sub_one_eq_mod, IntKind.wrap_i64]
  generalize (BitVec.ofInt 64 k).toNat = t at *
  omega

theorem lo_hi (u r : Nat) (hu : u < 18446744073709551616) (hr : r < 32) :
    ofWords [u * 2 ^ r % 18446744073709551616 % 4294967296, u * 2 ^ r % 18446744073709551616 / 4294967296 % 4294967296, u * 2 ^ r / 18446744073709551616 % 4294967296] = u * 2 ^ r := by
  have h1 : u * 2 ^ r < 18446744073709551616 * 4294967296 := Nat.mul_lt_mul_of_lt_of_le hu (Nat.le_trans (Nat.pow_le_pow_right (by omega) (Nat.le_of_lt hr)) (by decide)) (by decide)
  generalize u * 2 ^ r = t at *
  simp only [ofWords]
  omega

def bitWords (u r : Nat) : List Nat := [u * 2 ^ r % 18446744073709551616 % 4294967296, u * 2 ^ r % 18446744073709551616 / 4294967296 % 4294967296, u * 2 ^ r / 18446744073709551616 % 4294967296]
theorem bitWords_lt (u r : Nat) : AllLt 4294967296 (bitWords u r) := fun x hx => by
  simp only [bitWords, List.mem_cons, List.not_mem_nil, or_false] at hx
  omega
theorem bit_val (u : Nat) (k : Int) (hu : u < 18446744073709551616) : magVal (bitWords u (k % 32).toNat) (k / 32) = (u : Rat) * p2 k := by
  unfold magVal bitWords
  rw [lo_hi u _ hu (by omega), Rat.natCast_mul, Rat.mul_assoc, ← p2_nat, ← p2_add]
  congr 2
  omega

theorem bit_shift (u r : Nat) (k : Int) (w : World) (hr0 : 0 < r) (hr : r < 32) (hand : bits BinOp.and IntKind.i64 k 31 = (r : Nat)) :
    Calls Tryd.prog 99 #[.int .u64 u, .int .i64 k] w (Gives w fun w' v => IsMag w' v (bitWords u r) (k / 32)) := by
  go_enter Tryd.func99, Tryd.ntmps99
  go_wp2
  refine bodyPost_ret (v := .agg #[.slice (some ⟨w.heap.size + 1, 0, none⟩) 3 3, .int .i64 (k / 32)]) (by simp [results, Tryd.results99, go_sem]) rfl ?_
  refine Gives.mk _ (by (with_reducible (repeat (first | exact Ext.refl _ | refine Ext.drewN ?_ _ | refine Ext.drew ?_ | refine Ext.alloc ?_ _ | refine Ext.setCell ?_ (by first | (dsimp only; omega) | simp | (simp; omega)) _)))) ⟨⟨_, rfl, ?_⟩, bitWords_lt u r⟩
  have hB := Box.new (w.alloc (.cells #[.slice (some ⟨w.heap.size + 1, 0, none⟩) 3 3, .int .i64 (k / 32)] 27)) #[.int .u32 (IntKind.u64.wrap ((u : Int) * 2 ^ r) % 4294967296), .int .u32 (IntKind.u64.wrap ((u : Int) * 2 ^ r) / 4294967296 % 4294967296), .int .u32 ((u : Int) / 2 ^ (64 - r) % 4294967296)] 111
  have h64 : (18446744073709551616 : Nat) = 2 ^ r * 2 ^ (64 - r) := by rw [← Nat.pow_add, show r + (64 - r) = 64 by omega]
  have hd : u * 2 ^ r / 18446744073709551616 = u / 2 ^ (64 - r) := by
    rw [h64, Nat.mul_comm u, Nat.mul_div_mul_left _ _ (Nat.two_pow_pos r)]
  have ht : (u : Int) * 2 ^ r = ((u * 2 ^ r : Nat) : Int) := by rw [Int.natCast_mul, Int.natCast_pow]; rfl
  have e1 : IntKind.u64.wrap ((u : Int) * 2 ^ r) % 4294967296 = ((u * 2 ^ r % 18446744073709551616 % 4294967296 : Nat) : Int) := by rw [IntKind.wrap_u64, ht]; omega
  have e2 : IntKind.u64.wrap ((u : Int) * 2 ^ r) / 4294967296 % 4294967296 = ((u * 2 ^ r % 18446744073709551616 / 4294967296 % 4294967296 : Nat) : Int) := by rw [IntKind.wrap_u64, ht]; omega
  have e3 : (u : Int) / 2 ^ (64 - r) % 4294967296 = ((u * 2 ^ r / 18446744073709551616 % 4294967296 : Nat) : Int) := by
    rw [hd, show (2 : Int) ^ (64 - r) = ((2 ^ (64 - r) : Nat) : Int) by rw [Int.natCast_pow]; rfl]
    generalize 2 ^ (64 - r) = m
    rw [Int.natCast_emod, Int.natCast_ediv]; rfl
  have := cells_of_box hB (us := u32s (bitWords u r)) (by rw [e1, e2, e3]; rfl) (by simp [bitWords])
  simpa [bitWords] using this
theorem bit_even (u : Nat) (k : Int) (w : World) (hu : u < 18446744073709551616) (hand : bits BinOp.and IntKind.i64 k 31 = 0) :
    Calls Tryd.prog 99 #[.int .u64 u, .int .i64 k] w (Gives w fun w' v => IsMag w' v (bitWords u 0) (k / 32)) := by
  go_enter Tryd.func99, Tryd.ntmps99
  go_wp2
  refine bodyPost_ret (v := .agg #[.slice (some ⟨w.heap.size + 1, 0, none⟩) 3 3, .int .i64 (k / 32)]) (by simp [results, Tryd.results99, go_sem]) rfl ?_
  refine Gives.mk _ (by (with_reducible (repeat (first | exact Ext.refl _ | refine Ext.drewN ?_ _ | refine Ext.drew ?_ | refine Ext.alloc ?_ _ | refine Ext.setCell ?_ (by first | (dsimp only; omega) | simp | (simp; omega)) _)))) ⟨⟨_, rfl, ?_⟩, bitWords_lt u 0⟩
  have hB := Box.new (w.alloc (.cells #[.slice (some ⟨w.heap.size + 1, 0, none⟩) 3 3, .int .i64 (k / 32)] 27)) #[.int .u32 ((u : Int) % 4294967296), .int .u32 ((u : Int) / 4294967296), .int .u32 0] 111
  have e1 : (u : Int) % 4294967296 = ((u * 2 ^ 0 % 18446744073709551616 % 4294967296 : Nat) : Int) := by omega
  have e2 : (u : Int) / 4294967296 = ((u * 2 ^ 0 % 18446744073709551616 / 4294967296 % 4294967296 : Nat) : Int) := by omega
  have e3 : (0 : Int) = ((u * 2 ^ 0 / 18446744073709551616 % 4294967296 : Nat) : Int) := by omega
  have := cells_of_box hB (us := u32s (bitWords u 0)) (by rw [e1, e2, e3]; rfl) (by simp [bitWords])
  simpa [bitWords] using this

/-- whole.bit: u times 2^k. -/
theorem bit_any (u : Nat) (k : Int) (w : World) (hu : u < 18446744073709551616) :
    Calls Tryd.prog 99 #[.int .u64 u, .int .i64 k] w (Gives w fun w' v => ∃ xs, xs.length = 3 ∧ magVal xs (k / 32) = (u : Rat) * p2 k ∧ IsMag w' v xs (k / 32)) := by
  have ha := and31 k
  by_cases h : (k % 32).toNat = 0
  · rw [h] at ha
    exact (bit_even u k w hu (by simpa using ha)).mono fun e w' ⟨v, h1, h2, h3⟩ => ⟨v, h1, h2, bitWords u 0, rfl, by rw [← bit_val u k hu, h], h3⟩
  · exact (bit_shift u _ k w (by omega) (by omega) ha).mono fun e w' ⟨v, h1, h2, h3⟩ => ⟨v, h1, h2, bitWords u _, rfl, bit_val u k hu, h3⟩

/-- What a number's cells are. -/
theorem IsNum.shape {w : World} {v : Value} {q : Option Rat} (h : IsNum w v q) :
    ∃ a n c e neg non, v = .agg #[.slice a n c, .int .i64 e, .bool neg, .bool non] ∧ (n : Nat) ≤ 1000000 ∧ -1000000 ≤ e ∧ e ≤ 1000000 ∧ (non = true ↔ q = none) := by
  cases q with
  | none => exact ⟨none, 0, 0, 0, false, true, h, by omega, by omega, by omega, by simp⟩
  | some q =>
    obtain ⟨xs, e, neg, s, hv, ⟨a, c, hs, -⟩, hlt, hok, -⟩ := h
    subst hs
    refine ⟨a, xs.length, c, e, neg, false, by simpa using hv, ?_⟩
    rcases hok with ⟨rfl, rfl, rfl⟩ | ⟨h0, hf, hl, h1, h2⟩
    · simp
    · have hb : Lib.bitLen (xs.getD (xs.length - 1) 0) ≤ 32 := Lib.bitLen_le _ 32 (by decide) (hlt.getD (by omega) _)
      have hct := (Lib.lowest_bit 32 (xs.getD 0 0) hf (hlt.getD (by omega) _)).2
      unfold hiBit at h1
      unfold loBit at h2
      refine ⟨?_, ?_, ?_, by simp⟩ <;> omega

theorem ok_any {v : Value} {q : Option Rat} (w : World) (h : IsNum w v q) :
    Calls Tryd.prog 33 #[v] w (fun ed w' => ed = .returned (.bool q.isSome) ∧ Ext w w') := by
  obtain ⟨a, n, c, e, neg, non, rfl, -, -, -, hn⟩ := h.shape
  have hb : q.isSome = !non := by cases q <;> cases non <;> simp_all
  rw [hb]
  clear hn h hb
  go_enter Tryd.func33, Tryd.ntmps33
  go_wp2
  go_ret
  exact ⟨rfl, by (with_reducible (repeat (first | exact Ext.refl _ | refine Ext.drewN ?_ _ | refine Ext.drew ?_ | refine Ext.alloc ?_ _ | refine Ext.setCell ?_ (by first | (dsimp only; omega) | simp | (simp; omega)) _)))⟩

/-- The sign of a number. -/
noncomputable def sg (q : Rat) : Int := if q < 0 then -1 else if q = 0 then 0 else 1
noncomputable def sgO : Option Rat → Int
  | none => 0
  | some q => sg q
theorem magVal_pos {xs : List Nat} {e : Int} (h : xs.getD 0 0 ≠ 0) : 0 < magVal xs e :=
  Rat.mul_pos (Rat.natCast_pos.2 (Nat.pos_of_ne_zero (ofWords_pos h))) (p2_pos _)
theorem sg_sgn {neg : Bool} {q : Rat} (h : 0 < q) : sg (sgn neg q) = if neg then -1 else 1 := by
  unfold sg sgn; cases neg <;> simp <;> grind

/-- A number's parts: nothing, or words with a sign. -/
theorem IsNum.parts {w : World} {v : Value} {q : Option Rat} (h : IsNum w v q) :
    ∃ a n c e neg non, v = .agg #[.slice a n c, .int .i64 e, .bool neg, .bool non] ∧ (n : Nat) ≤ 1000000 ∧ -1000000 ≤ e ∧ e ≤ 1000000 ∧
      ((n = 0 ∧ neg = false ∧ sgO q = 0 ∧ (q = none ∨ q = some 0)) ∨ (0 < n ∧ sgO q = if neg then -1 else 1)) := by
  cases q with
  | none => exact ⟨none, 0, 0, 0, false, true, h, by omega, by omega, by omega, .inl ⟨rfl, rfl, rfl, .inl rfl⟩⟩
  | some q =>
    obtain ⟨a, n, c, e, neg, non, hv, b1, b2, b3, -⟩ := h.shape
    obtain ⟨xs, e', neg', s, hv', ⟨a', c', hs, -⟩, hlt, hok, hq⟩ := h
    subst hs
    rw [hv'] at hv
    simp only [Value.agg.injEq, Array.mk.injEq, List.cons.injEq, Value.slice.injEq, Value.int.injEq, Value.bool.injEq] at hv
    obtain ⟨⟨rfl, rfl, rfl⟩, ⟨-, rfl⟩, rfl, rfl, -⟩ := hv
    refine ⟨_, _, _, _, _, _, hv', by omega, b2, b3, ?_⟩
    rcases hok with ⟨rfl, rfl, rfl⟩ | ⟨h0, hf, hl, h1, h2⟩
    · left
      rw [magVal_nil, sgn_zero] at hq
      subst hq
      exact ⟨rfl, rfl, by simp [sgO, sg], .inr rfl⟩
    · right
      rw [hq]
      exact ⟨by simpa using h0, sg_sgn (magVal_pos hf)⟩

theorem sign_core (a : Option Addr) (n c : Nat) (e : Int) (neg non : Bool) (w : World) :
    Calls Tryd.prog 28 #[.agg #[.slice a n c, .int .i64 e, .bool neg, .bool non]] w (fun ed w' => ed = .returned (.int .i64 (if n = 0 then 0 else if neg then -1 else 1)) ∧ Ext w w') := by
  by_cases hn : n = 0
  · subst hn
    go_enter Tryd.func28, Tryd.ntmps28
    go_wp2
    go_ret
    exact ⟨rfl, by (with_reducible (repeat (first | exact Ext.refl _ | refine Ext.drewN ?_ _ | refine Ext.drew ?_ | refine Ext.alloc ?_ _ | refine Ext.setCell ?_ (by first | (dsimp only; omega) | simp | (simp; omega)) _)))⟩
  · have h0 : ((n : Int) == 0) = false := by simp; omega
    rw [if_neg hn]
    cases neg
    all_goals
      go_enter Tryd.func28, Tryd.ntmps28
      go_wp2
      go_ret
      exact ⟨rfl, by (with_reducible (repeat (first | exact Ext.refl _ | refine Ext.drewN ?_ _ | refine Ext.drew ?_ | refine Ext.alloc ?_ _ | refine Ext.setCell ?_ (by first | (dsimp only; omega) | simp | (simp; omega)) _)))⟩
theorem sign_any {v : Value} {q : Option Rat} (w : World) (h : IsNum w v q) :
    Calls Tryd.prog 28 #[v] w (fun ed w' => ed = .returned (.int .i64 (sgO q)) ∧ Ext w w') := by
  obtain ⟨a, n, c, e, neg, non, rfl, -, -, -, hs⟩ := h.parts
  refine (sign_core a n c e neg non w).mono fun ed w' ⟨h1, h2⟩ => ⟨?_, h2⟩
  rw [h1]
  rcases hs with ⟨rfl, rfl, hs, -⟩ | ⟨h0, hs⟩
  · rw [hs]; rfl
  · rw [hs, if_neg (by omega)]

theorem neg_core (a : Option Addr) (n c : Nat) (e : Int) (neg non : Bool) (w : World) :
    Calls Tryd.prog 30 #[.agg #[.slice a n c, .int .i64 e, .bool neg, .bool non]] w (fun ed w' => ed = .returned (.agg #[.slice a n c, .int .i64 e, .bool (!neg && decide (0 < n)), .bool non]) ∧ Ext w w') := by
  by_cases hn : n = 0
  · subst hn
    cases neg
    all_goals
      go_enter Tryd.func30, Tryd.ntmps30
      go_wp2
      refine bodyPost_ret (v := .agg #[.slice a 0 c, .int .i64 e, .bool false, .bool non]) (by simp [results, Tryd.results30, go_sem]) rfl ⟨rfl, ?_⟩
      (with_reducible (repeat (first | exact Ext.refl _ | refine Ext.drewN ?_ _ | refine Ext.drew ?_ | refine Ext.alloc ?_ _ | refine Ext.setCell ?_ (by first | (dsimp only; omega) | simp | (simp; omega)) _)))
  · have h0 : (0 : Int) < (n : Int) := by omega
    have h0n : 0 < n := by omega
    have hd : decide (0 < n) = true := decide_eq_true h0n
    rw [hd]
    clear hd hn
    cases neg
    · go_enter Tryd.func30, Tryd.ntmps30
      go_wp2
      refine bodyPost_ret (v := .agg #[.slice a n c, .int .i64 e, .bool true, .bool non]) (by simp [results, Tryd.results30, go_sem]) rfl ⟨rfl, ?_⟩
      (with_reducible (repeat (first | exact Ext.refl _ | refine Ext.drewN ?_ _ | refine Ext.drew ?_ | refine Ext.alloc ?_ _ | refine Ext.setCell ?_ (by first | (dsimp only; omega) | simp | (simp; omega)) _)))
    · go_enter Tryd.func30, Tryd.ntmps30
      go_wp2
      refine bodyPost_ret (v := .agg #[.slice a n c, .int .i64 e, .bool false, .bool non]) (by simp [results, Tryd.results30, go_sem]) rfl ⟨rfl, ?_⟩
      (with_reducible (repeat (first | exact Ext.refl _ | refine Ext.drewN ?_ _ | refine Ext.drew ?_ | refine Ext.alloc ?_ _ | refine Ext.setCell ?_ (by first | (dsimp only; omega) | simp | (simp; omega)) _)))
noncomputable def negO : Option Rat → Option Rat := Option.map (-·)
theorem neg_any {v : Value} {q : Option Rat} (w : World) (h : IsNum w v q) :
    Calls Tryd.prog 30 #[v] w (Gives w fun w' v => IsNum w' v (negO q)) := by
  cases q with
  | none =>
    subst h
    exact (neg_core _ _ _ _ _ _ w).mono fun ed w' ⟨h1, h2⟩ => ⟨_, h1, h2, rfl⟩
  | some q =>
    obtain ⟨xs, e, neg, s, rfl, hc, hlt, hok, hq⟩ := h
    have hc' := hc
    obtain ⟨a, c, rfl, -⟩ := hc
    rw [u32s_length]
    refine (neg_core a xs.length c e neg false w).mono fun ed w' ⟨h1, h2⟩ => ⟨_, h1, h2, ?_⟩
    rw [u32s_length] at hc'
    refine ⟨xs, e, _, _, rfl, hc'.ext h2, hlt, ?_, ?_⟩
    · rcases hok with ⟨rfl, rfl, rfl⟩ | hh
      · exact .inl ⟨rfl, rfl, rfl⟩
      · exact .inr hh
    · rw [hq]
      rcases hok with ⟨rfl, rfl, rfl⟩ | ⟨h0, _⟩
      · simp [sgn, magVal_nil]
      · rw [show decide (0 < xs.length) = true by simpa using h0, Bool.and_true]
        unfold sgn; cases neg <;> simp [Rat.neg_neg]

theorem fits_int {n : Int} (h : -18446744073709551616 < n) (h' : n < 18446744073709551616) : Fits (n : Rat) := by
  have hb : Bd 64 (n : Rat) := by
    have h64 : p2 64 = ((18446744073709551616 : Int) : Rat) := by
      rw [show (64 : Int) = ((64 : Nat) : Int) from rfl, p2_nat]; rfl
    refine ⟨?_, ?_⟩
    · rw [h64]; exact Rat.intCast_lt_intCast.2 h'
    · rw [h64, ← Rat.intCast_neg]; exact Rat.intCast_lt_intCast.2 (by omega)
  have hg : Gr 0 (n : Rat) := by
    show Intg _
    rw [p2_zero, Rat.mul_one]; exact Intg.int n
  exact ⟨hb.mono (by omega), hg.mono (by omega)⟩
theorem int_rat (n : Int) : sgn (decide (n < 0)) ((n.natAbs : Rat) * p2 0) = (n : Rat) := by
  rw [p2_zero, Rat.mul_one]
  by_cases h : n < 0
  · simp only [h, decide_true, sgn, if_true]
    rw [← Rat.intCast_natCast, ← Rat.intCast_neg]; congr 1; omega
  · simp only [h, decide_false, sgn]
    rw [← Rat.intCast_natCast]; simp; congr 1; omega

theorem int_any (n : Int) (w : World) (hn : -9223372036854775808 ≤ n) (hn' : n ≤ 9223372036854775807) (hT : Tab w) :
    Calls Tryd.prog 32 #[.int .i64 n] w (Gives w fun w' v => IsNum w' v (some (n : Rat))) := by
  have hpost : mk (sgn (decide (n < 0)) ((n.natAbs : Rat) * p2 0)) = some (n : Rat) := by rw [int_rat, mk_fits (fits_int (by omega) (by omega))]
  by_cases h : n < 0
  · have hw : IntKind.u64.wrap (-IntKind.u64.wrap n) = ((n.natAbs : Nat) : Int) := by simp only [IntKind.wrap_u64]; omega
    rw [decide_eq_true h] at hpost
    have HW := Lib.hid hw; have HP := Lib.hid hpost; clear hw hpost
    go_enter Tryd.func32, Tryd.ntmps32
    go_wp2_with fail
    rw [HW.out]
    refine (bit_any n.natAbs 0 _ (by omega)).mono ?_
    rintro ed w1 ⟨v1, rfl, hx, xs, hl3, hval, hm⟩
    have B := (Box.new w #[.slice none 0 0, .int .i64 0, .bool false, .bool false] 29).ext hx
    have hx' : Ext w w1 := ((Ext.refl w).alloc _).trans hx
    have HV := Lib.hid hval; have HL := Lib.hid hl3; clear hx hval hl3
    have B_c0 := B.cell 0 rfl; have B_c1 := B.cell 1 rfl; have B_c2 := B.cell 2 rfl; have B_c3 := B.cell 3 rfl; have B_f0 := B.free 0; have B_f1 := B.free 1; have B_f2 := B.free 2; have B_f3 := B.free 3; have B_lt := B.lt
    go_wp2_with fail
    refine (made_any true _ (hT.ext hx') hm (by have := HL.out; omega) (by omega) (by omega)).mono ?_
    rintro ed w2 ⟨v2, rfl, hx2, hnum⟩
    have B' := B.ext hx2
    have hx2' : Ext w w2 := hx'.trans hx2
    clear hx2
    clear B_c0 B_c1 B_c2 B_c3 B_f0 B_f1 B_f2 B_f3 B_lt
    have B'_c0 := B'.cell 0 rfl; have B'_c1 := B'.cell 1 rfl; have B'_c2 := B'.cell 2 rfl; have B'_c3 := B'.cell 3 rfl; have B'_f0 := B'.free 0; have B'_f1 := B'.free 1; have B'_f2 := B'.free 2; have B'_f3 := B'.free 3; have B'_lt := B'.lt
    rw [HV.out, HP.out] at hnum
    obtain ⟨a, m, c, e, neg, non, rfl, -⟩ := hnum.shape
    go_wp2
    refine bodyPost_ret (v := .agg #[.slice a m c, .int .i64 e, .bool neg, .bool non]) (by simp [results, Tryd.results32, go_sem, B'_c0, B'_c1, B'_c2, B'_c3]) rfl ?_
    exact Gives.mk _ (by (with_reducible (repeat (first | exact Ext.refl _ | exact hx2' | refine Ext.drewN ?_ _ | refine Ext.drew ?_ | refine Ext.alloc ?_ _ | refine Ext.setCell ?_ (by first | (dsimp only; omega) | simp | (simp; omega)) _)))) (hnum.store B' a m c e neg non)
  · rw [decide_eq_false h] at hpost
    obtain ⟨k, rfl⟩ := Int.eq_ofNat_of_zero_le (show 0 ≤ n by omega)
    rw [Int.natAbs_natCast] at hpost
    have HP := Lib.hid hpost; clear hpost h
    go_enter Tryd.func32, Tryd.ntmps32
    go_wp2_with fail
    refine (bit_any k 0 _ (by omega)).mono ?_
    rintro ed w1 ⟨v1, rfl, hx, xs, hl3, hval, hm⟩
    have B := (Box.new w #[.slice none 0 0, .int .i64 0, .bool false, .bool false] 29).ext hx
    have hx' : Ext w w1 := ((Ext.refl w).alloc _).trans hx
    have HV := Lib.hid hval; have HL := Lib.hid hl3; clear hx hval hl3
    have B_c0 := B.cell 0 rfl; have B_c1 := B.cell 1 rfl; have B_c2 := B.cell 2 rfl; have B_c3 := B.cell 3 rfl; have B_f0 := B.free 0; have B_f1 := B.free 1; have B_f2 := B.free 2; have B_f3 := B.free 3; have B_lt := B.lt
    go_wp2_with fail
    refine (made_any false _ (hT.ext hx') hm (by have := HL.out; omega) (by omega) (by omega)).mono ?_
    rintro ed w2 ⟨v2, rfl, hx2, hnum⟩
    have B' := B.ext hx2
    have hx2' : Ext w w2 := hx'.trans hx2
    clear hx2
    clear B_c0 B_c1 B_c2 B_c3 B_f0 B_f1 B_f2 B_f3 B_lt
    have B'_c0 := B'.cell 0 rfl; have B'_c1 := B'.cell 1 rfl; have B'_c2 := B'.cell 2 rfl; have B'_c3 := B'.cell 3 rfl; have B'_f0 := B'.free 0; have B'_f1 := B'.free 1; have B'_f2 := B'.free 2; have B'_f3 := B'.free 3; have B'_lt := B'.lt
    rw [HV.out, HP.out] at hnum
    obtain ⟨a, m, c, e, neg, non, rfl, -⟩ := hnum.shape
    go_wp2
    refine bodyPost_ret (v := .agg #[.slice a m c, .int .i64 e, .bool neg, .bool non]) (by simp [results, Tryd.results32, go_sem, B'_c0, B'_c1, B'_c2, B'_c3]) rfl ?_
    exact Gives.mk _ (by (with_reducible (repeat (first | exact Ext.refl _ | exact hx2' | refine Ext.drewN ?_ _ | refine Ext.drew ?_ | refine Ext.alloc ?_ _ | refine Ext.setCell ?_ (by first | (dsimp only; omega) | simp | (simp; omega)) _)))) (hnum.store B' a m c e neg non)
end Go.Proofs.YthnmjkjllhlcjaaDoor
