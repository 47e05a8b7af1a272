/- A law for regions whose order is drawn and whose calls make memory: if each operation, in whatever later world it comes up, yields a value of which a lasting fact is told, then so does the region in whatever order; no condition. -/
import Derived.Orders
import Derived.Below
namespace Go.Steady
open Go Go.RowKit

/-- What was there is there still. -/
def Ext (w w' : World) : Prop := Below w.heap.size w w'
theorem Ext.refl (w : World) : Ext w w := Below.refl _ _
theorem Ext.trans {a b c : World} (h : Ext a b) (k : Ext b c) : Ext a c := Below.trans h (Below.mono k h.size)
theorem Ext.alloc {a w : World} (h : Ext a w) (o : Obj) : Ext a (w.alloc o) := Below.alloc h h.size o
theorem Ext.drew {a w : World} (h : Ext a w) : Ext a w.drew := Below.drew h
theorem Ext.cell {w w' : World} (h : Ext w w') {p : Addr} {v : Value} (hc : w.cell? p = some v) : w'.cell? p = some v :=
  (Below.cell h (World.block_lt_of_cell? w p hc)).trans hc
theorem Ext.heap {w w' : World} (h : Ext w w') {b : Nat} {o : Obj} (hc : w.heap[b]? = some o) : w'.heap[b]? = some o :=
  (h.block b (Array.getElem?_eq_some_iff.1 hc).1).trans hc

abbrev Fact := World → Value → Prop
def Lasts (G : Fact) : Prop := ∀ w w' v, Ext w w' → G w v → G w' v
theorem lasts_eq (u : Value) : Lasts (fun _ v => v = u) := fun _ _ _ _ h => h

/-- What one operation comes to. -/
def upon (P : Program) (w : World) (G : Fact) : Result Next → Prop
  | .ok (.value v) w' => Ext w w' ∧ G w' v
  | .ok .skip w' => Ext w w' ∧ G w' undef
  | .ok (.enter f args) w' => Ext w w' ∧ Calls P f args w' fun e w'' => ∃ v, e = .returned v ∧ Ext w' w'' ∧ G w'' v
  | _ => False

theorem wp_of_upon {P : Program} {o : Oper} {b : Act} {w : World} {G : Fact} {K : Act → World → Prop} {Q : Exit → Act → World → Prop}
    (h : upon P w G ((execOp b.eval o).run P w)) (hk : ∀ v w', Ext w w' → G w' v → K (b.put o.dst v) w') : o.wp P b w K Q := by
  unfold Oper.wp
  generalize (execOp b.eval o).run P w = r at h
  cases r with
  | ok n w' =>
    cases n <;> simp only [upon] at h <;> simp only [Oper.upon]
    case value u => exact hk _ _ h.1 h.2
    case skip => exact hk _ _ h.1 h.2
    case enter f args => exact h.2.mono fun e w'' ⟨v, he, hx, hg⟩ => by subst he; exact hk _ _ (h.1.trans hx) hg
  | halt x w' => simp only [upon] at h

def edges (ops : Array Oper) (j : Nat) : List Nat :=
  match ops[j]? with
  | some o => (o.after.toList.filter (Region.binds .any)).map (·.on)
  | none => []
def grow (ops : Array Oper) : Nat → List Nat → List Nat
  | 0, S => S
  | n + 1, S => grow ops n (S ++ (S.flatMap (edges ops)).filter fun x => !S.contains x).eraseDups
def anc (ops : Array Oper) (F j : Nat) : List Nat := grow ops F (edges ops j)

def Closed (ops : Array Oper) (listed : Array Bool) : Prop := ∀ j, j < ops.size → listed.getD j true = true → ∀ x ∈ edges ops j, listed.getD x false = true
theorem getD_both {l : Array Bool} {j : Nat} (h : l.getD j false = true) : l.getD j true = true := by
  rcases Nat.lt_or_ge j l.size with h' | h'
  · simp [h'] at h ⊢; exact h
  · simp [Array.getElem?_eq_none h'] at h
theorem lt_of_getD {l : Array Bool} {j : Nat} (h : l.getD j false = true) : j < l.size := by
  rcases Nat.lt_or_ge j l.size with h' | h'
  · exact h'
  · simp [Array.getElem?_eq_none h'] at h
theorem grow_listed {ops : Array Oper} {listed : Array Bool} (hs : listed.size = ops.size) (hc : Closed ops listed) : ∀ F S, (∀ x ∈ S, listed.getD x false = true) → ∀ x ∈ grow ops F S, listed.getD x false = true
  | 0, _, h => h
  | F + 1, S, h => by
    refine grow_listed hs hc F _ fun x hx => ?_
    rw [List.mem_eraseDups, List.mem_append] at hx
    rcases hx with hx | hx
    · exact h x hx
    · obtain ⟨hx, _⟩ := List.mem_filter.1 hx
      obtain ⟨y, hy, hxy⟩ := List.mem_flatMap.1 hx
      have := h y hy
      exact hc y (by have := lt_of_getD this; omega) (getD_both this) x hxy

/-- The facts that are checked of a region, by reckoning. -/
def okB (ops : Array Oper) (F sz : Nat) : Bool :=
  (List.range ops.size).all fun j =>
    match ops[j]? with
    | none => false
    | some o =>
      (edges ops j).all (fun e => decide (e < j)) && (match o.dst with | some d => decide (d < sz) | none => true) &&
      (List.range ops.size).all fun k =>
        match ops[k]? with
        | none => true
        | some ok =>
          match ok.dst with
          | none => true
          | some t => (k == j || o.dst != some t) &&
            (!(o.looksAt ops).contains t || (decide (k < j) && (anc ops F j).contains k) || (decide (j < k) && (anc ops F k).contains j))

structure Ok (ops : Array Oper) (F sz : Nat) : Prop where
  back : ∀ (j : Nat) (o : Oper), ops[j]? = some o → ∀ e ∈ edges ops j, e < j
  dst : ∀ (j : Nat) (o : Oper) (d : Tmp), ops[j]? = some o → o.dst = some d → d < sz
  one : ∀ (j : Nat) (o : Oper) (k : Nat) (ok : Oper) (t : Tmp), ops[j]? = some o → ops[k]? = some ok → o.dst = some t → ok.dst = some t → k = j
  look : ∀ (j : Nat) (o : Oper) (k : Nat) (ok : Oper) (t : Tmp), ops[j]? = some o → ops[k]? = some ok → ok.dst = some t → t ∈ o.looksAt ops → (k < j ∧ k ∈ anc ops F j) ∨ (j < k ∧ j ∈ anc ops F k)
theorem ok_of {ops : Array Oper} {F sz : Nat} (h : okB ops F sz = true) : Ok ops F sz := by
  unfold okB at h
  rw [List.all_eq_true] at h
  have key : ∀ j o, ops[j]? = some o → _ := fun j o ho => by
    have hj : j < ops.size := (Array.getElem?_eq_some_iff.1 ho).1
    have := h j (List.mem_range.2 hj)
    rw [ho] at this
    simp only [Bool.and_eq_true] at this
    exact this
  have key2 : ∀ j o k ok t, ops[j]? = some o → ops[k]? = some ok → ok.dst = some t → (k = j ∨ o.dst ≠ some t) ∧ (t ∉ o.looksAt ops ∨ (k < j ∧ k ∈ anc ops F j) ∨ (j < k ∧ j ∈ anc ops F k)) := fun j o k ok t ho hk ht => by
    have hkk : k < ops.size := (Array.getElem?_eq_some_iff.1 hk).1
    have h1 := (key j o ho).2
    rw [List.all_eq_true] at h1
    have h2 := h1 k (List.mem_range.2 hkk)
    rw [hk] at h2
    simp only [ht, Bool.and_eq_true, Bool.or_eq_true, beq_iff_eq, bne_iff_ne, Bool.not_eq_true', decide_eq_true_eq] at h2
    refine ⟨h2.1, ?_⟩
    rcases h2.2 with (h3 | h3) | h3
    · exact .inl (by simpa using h3)
    · exact .inr (.inl ⟨h3.1, by simpa using h3.2⟩)
    · exact .inr (.inr ⟨h3.1, by simpa using h3.2⟩)
  refine ⟨fun j o ho e he => ?_, fun j o d ho hd => ?_, fun j o k ok t ho hk ht hkt => ?_, fun j o k ok t ho hk hkt hl => ?_⟩
  · have := (key j o ho).1.1
    rw [List.all_eq_true] at this
    simpa using this e he
  · have := (key j o ho).1.2
    rw [hd] at this
    simpa using this
  · rcases (key2 j o k ok t ho hk hkt).1 with h | h
    · exact h
    · exact absurd ht h
  · rcases (key2 j o k ok t ho hk hkt).2 with h | h
    · exact absurd hl h
    · exact h

section
variable {P : Program} {ops : Array Oper} {w0 : World} {a0 : Act} {gs : List Fact}

def fact (gs : List Fact) (k : Nat) : Fact := gs.getD k (fun _ _ => True)

/-- The state when these have come up. -/
structure At (ops : Array Oper) (w0 : World) (a0 : Act) (gs : List Fact) (listed : Array Bool) (b : Act) (w : World) : Prop where
  ext : Ext w0 w
  defers : b.defers = a0.defers
  size : b.tmps.size = a0.tmps.size
  out : ∀ i o d, ops[i]? = some o → listed.getD i false = true → o.dst = some d → fact gs i w (b.eval (.tmp d))
  rest : ∀ t, (∀ i o, ops[i]? = some o → listed.getD i false = true → o.dst ≠ some t) → b.eval (.tmp t) = a0.eval (.tmp t)

def seen1 (ops : Array Oper) (a0 : Act) (gs : List Fact) (i : Nat) (b : Act) (w : World) (t : Tmp) : Prop :=
  (∀ k ok, k < i → ops[k]? = some ok → ok.dst = some t → fact gs k w (b.eval (.tmp t))) ∧ ((∀ k ok, k < i → ops[k]? = some ok → ok.dst ≠ some t) → b.eval (.tmp t) = a0.eval (.tmp t))

/-- An operation, wherever it comes up. -/
def stepOk (P : Program) (ops : Array Oper) (o : Oper) (G : Fact) (b : Act) (w : World) : Prop :=
  if Region.wanted o (yielded ops b.tmps) then upon P w G ((execOp b.eval o).run P w) else G w undef

theorem eval_put_same {b : Act} {d : Nat} {v : Value} (h : d < b.tmps.size) : (b.put (some d) v).eval (.tmp d) = v := by
  simp [Act.eval, Act.put, h]

theorem step_at {F sz : Nat} (hok : Ok ops F sz) (hsz : sz ≤ a0.tmps.size) (hl : ∀ k, Lasts (fact gs k)) {i : Nat} {o : Oper} (hi : ops[i]? = some o)
    (hstep : ∀ b w, Ext w0 w → (∀ t ∈ o.looksAt ops, seen1 ops a0 gs i b w t) → stepOk P ops o (fact gs i) b w)
    {listed : Array Bool} (hs : listed.size = ops.size) (hc : Closed ops listed) (hun : listed.getD i true = false) (hr : ∀ x ∈ edges ops i, listed.getD x false = true)
    {b : Act} {w : World} (hat : At ops w0 a0 gs listed b w) {K : Act → World → Prop} {Q : Exit → Act → World → Prop}
    (hk : ∀ b' w', At ops w0 a0 gs (listed.setIfInBounds i true) b' w' → K b' w') : wpOp P ops Q i K b w := by
  have hil : i < listed.size := by rw [hs]; exact (Array.getElem?_eq_some_iff.1 hi).1
  have hif : listed.getD i false = false := by simp [hil] at hun ⊢; exact hun
  have hseen : ∀ t ∈ o.looksAt ops, seen1 ops a0 gs i b w t := fun t ht => by
    refine ⟨fun k ok hki hko hkt => ?_, fun hno => hat.rest t fun k ok hko hkl hkt => ?_⟩
    · rcases hok.look i o k ok t hi hko hkt ht with ⟨_, hanc⟩ | ⟨h', _⟩
      · exact hat.out k ok t hko (grow_listed hs hc F _ hr k hanc) hkt
      · omega
    · rcases hok.look i o k ok t hi hko hkt ht with ⟨h', _⟩ | ⟨_, hanc⟩
      · exact hno k ok h' hko hkt
      · have hkin := hc k (by have := lt_of_getD hkl; omega) (getD_both hkl)
        have := grow_listed hs hc F _ hkin i hanc
        rw [hif] at this; cases this
  have hst := hstep b w hat.ext hseen
  have next : ∀ v w', Ext w w' → fact gs i w' v → At ops w0 a0 gs (listed.setIfInBounds i true) (b.put o.dst v) w' := fun v w' hx hg => by
    refine ⟨hat.ext.trans hx, ?_, ?_, fun k ok d hko hkl hkd => ?_, fun t hno => ?_⟩
    · have := hat.defers; cases o.dst <;> exact this
    · have := hat.size; cases o.dst <;> simpa [Act.put] using this
    · by_cases hki : k = i
      · subst hki
        rw [hi] at hko; cases hko
        rw [hkd, eval_put_same (Nat.lt_of_lt_of_le (hok.dst k o d hi hkd) (by rw [hat.size]; exact hsz))]
        exact hg
      · have hkl' : listed.getD k false = true := by rwa [getD_set_ne false (Ne.symm hki)] at hkl
        rw [Act.eval_put (fun d' hd' he => by
          cases he
          exact hki (hok.one i o k ok d hi hko hd' hkd))]
        exact hl k _ _ _ hx (hat.out k ok d hko hkl' hkd)
    · have hot : o.dst ≠ some t := hno i o hi (by simp [hil])
      rw [Act.eval_put (fun d' hd' he => by cases he; exact hot hd')]
      refine hat.rest t fun k ok hko hkl => hno k ok hko ?_
      by_cases hki : k = i
      · subst hki; simp [hil]
      · rw [getD_set_ne false (Ne.symm hki)]; exact hkl
  unfold wpOp
  simp only [hi]
  unfold stepOk at hst
  by_cases hw : Region.wanted o (yielded ops b.tmps) = true
  · rw [if_pos hw] at hst ⊢
    exact .inl (wp_of_upon hst fun v w' hx hg => hk _ _ (next v w' hx hg))
  · rw [if_neg hw] at hst ⊢
    exact hk _ _ (next undef w (Ext.refl _) hst)

theorem closed_set {listed : Array Bool} {i : Nat} (hc : Closed ops listed) (hr : ∀ x ∈ edges ops i, listed.getD x false = true) : Closed ops (listed.setIfInBounds i true) := fun j hj hjl x hx => by
  have up : ∀ x, listed.getD x false = true → (listed.setIfInBounds i true).getD x false = true := fun x h => getD_set_true h
  by_cases hji : j = i
  · subst hji; exact up x (hr x hx)
  · rw [getD_set_ne true (Ne.symm hji)] at hjl
    exact up x (hc j hj hjl x hx)

/-- How many have not come up. -/
def left (listed : Array Bool) : Nat := listed.toList.countP (! ·)
theorem left_set {listed : Array Bool} {i : Nat} (h : listed.getD i true = false) : left (listed.setIfInBounds i true) + 1 = left listed := by
  have hlt : i < listed.size := by
    rcases Nat.lt_or_ge i listed.size with h' | h'
    · exact h'
    · simp [Array.getElem?_eq_none h'] at h
  have hv : listed[i] = false := by simpa [hlt] using h
  unfold left
  rw [Array.toList_setIfInBounds, List.countP_set (by simpa using hlt)]
  have : 0 < listed.toList.countP (! ·) := List.countP_pos_iff.2 ⟨false, by rw [← hv]; exact Array.getElem_mem_toList hlt, rfl⟩
  have hv' : listed.toList[i]'(by simpa using hlt) = false := by simpa using hv
  rw [hv']
  simp only [Bool.not_false, Bool.not_true, if_true, Bool.false_eq_true, if_false]
  omega

theorem ready_edges {listed : Array Bool} {i : Nat} (h : i ∈ Region.ready .any ops listed) : listed.getD i true = false ∧ ∃ o, ops[i]? = some o ∧ ∀ x ∈ edges ops i, listed.getD x false = true := by
  obtain ⟨h0, o, ho, hall⟩ := mem_ready.1 h
  refine ⟨h0, o, ho, fun x hx => ?_⟩
  unfold edges at hx
  rw [ho] at hx
  obtain ⟨e, he, rfl⟩ := List.mem_map.1 hx
  obtain ⟨he, hb⟩ := List.mem_filter.1 he
  exact hall e (by simpa using he) hb

theorem all_of_none {F sz : Nat} (hok : Ok ops F sz) {listed : Array Bool} (hs : listed.size = ops.size) (h : Region.ready .any ops listed = []) : ∀ n j, j < n → j < ops.size → listed.getD j false = true
  | 0, _, h, _ => absurd h (Nat.not_lt_zero _)
  | n + 1, j, hj, hjs => by
    have ih := all_of_none hok hs h n
    by_cases hjn : j < n
    · exact ih j hjn hjs
    · obtain rfl : j = n := by omega
      have ho : ops[j]? = some ops[j] := Array.getElem?_eq_some_iff.2 ⟨hjs, rfl⟩
      cases hv : listed.getD j true with
      | true => simp [hs, hjs] at hv ⊢; exact hv
      | false =>
        have : j ∈ Region.ready .any ops listed := mem_ready.2 ⟨hv, ops[j], ho, fun e he hb => by
          have hmem : e.on ∈ edges ops j := by
            unfold edges; rw [ho]
            exact List.mem_map.2 ⟨e, List.mem_filter.2 ⟨by simpa using he, hb⟩, rfl⟩
          have := hok.back j _ ho _ hmem
          exact ih e.on this (by omega)⟩
        rw [h] at this; cases this

/-- Whatever order is picked: 'm' operations are steady; if there is one behind them it waits for all. -/
theorem any_of_steady {F sz m : Nat} (hok : Ok ops F sz) (hsz : sz ≤ a0.tmps.size) (hl : ∀ k, Lasts (fact gs k)) (hm : ops.size ≤ m + 1)
    (hlast : ∀ i, i < m → m < ops.size → i ∈ anc ops F m)
    (hstep : ∀ i o, i < m → ops[i]? = some o → ∀ b w, Ext w0 w → (∀ t ∈ o.looksAt ops, seen1 ops a0 gs i b w t) → stepOk P ops o (fact gs i) b w)
    {Q : Exit → Act → World → Prop}
    (hfin : ∀ b w listed, (∀ i, i < m → i < ops.size → listed.getD i false = true) → (∀ i, m ≤ i → listed.getD i false = false) → At ops w0 a0 gs listed b w → if m < ops.size then wpOp P ops Q m (fun b w => Q .normal b w) b w else Q .normal b w) :
    ∀ fuel listed b w, listed.size = ops.size → Closed ops listed → left listed ≤ fuel → (∀ i, m ≤ i → listed.getD i false = false) → At ops w0 a0 gs listed b w → wpAny P .any ops Q fuel listed b w := by
  intro fuel
  induction fuel with
  | zero =>
    intro listed b w hs hc hf hmf hat
    have hall : ∀ i, i < ops.size → listed.getD i false = true := fun i hi => by
      have : i < listed.size := by omega
      cases hv : listed[i] with
      | true => simp [this, hv]
      | false =>
        have : 0 < left listed := List.countP_pos_iff.2 ⟨false, by rw [← hv]; exact Array.getElem_mem_toList this, rfl⟩
        omega
    refine ⟨?_, ?_⟩
    · cases hr : Region.ready .any ops listed with
      | nil => rfl
      | cons x xs =>
        have hx : x ∈ Region.ready .any ops listed := by rw [hr]; exact List.mem_cons_self ..
        obtain ⟨h0, o, ho, _⟩ := ready_edges hx
        have := getD_both (hall x (Array.getElem?_eq_some_iff.1 ho).1)
        rw [this] at h0; cases h0
    · have := hfin b w listed (fun i _ h => hall i h) hmf hat
      by_cases hms : m < ops.size
      · have := hall m hms; rw [hmf m (Nat.le_refl _)] at this; cases this
      · rwa [if_neg hms] at this
  | succ fuel ih =>
    intro listed b w hs hc hf hmf hat
    refine ⟨fun hnil => ?_, fun i hi => ?_⟩
    · have hall := all_of_none hok hs hnil ops.size
      have := hfin b w listed (fun i _ h => hall i h h) hmf hat
      by_cases hms : m < ops.size
      · have := hall m hms hms; rw [hmf m (Nat.le_refl _)] at this; cases this
      · rwa [if_neg hms] at this
    · obtain ⟨h0, o, ho, hr⟩ := ready_edges hi
      by_cases him : i < m
      · refine step_at hok hsz hl ho (hstep i o him ho) hs hc h0 hr hat fun b' w' hat' => ih _ b' w' (by simpa using hs) (closed_set hc hr) (by have := left_set h0; omega) (fun k hk => ?_) hat'
        rw [getD_set_ne false (by omega)]
        exact hmf k hk
      · have his : i < ops.size := (Array.getElem?_eq_some_iff.1 ho).1
        obtain rfl : i = m := by omega
        have hall : ∀ k, k < i → k < ops.size → listed.getD k false = true := fun k hk _ => grow_listed hs hc F _ hr k (hlast k hk his)
        have := hfin b w listed hall hmf hat
        rw [if_pos his] at this
        refine wpOp_mono (fun b' w' hq => ?_) this
        have hall' : ∀ k, k < ops.size → (listed.setIfInBounds i true).getD k false = true := fun k hk => by
          by_cases hki : k = i
          · subst hki; simp [hs, his]
          · rw [getD_set_ne false (Ne.symm hki)]; exact hall k (by omega) hk
        have hnil : Region.ready .any ops (listed.setIfInBounds i true) = [] := by
          cases hr' : Region.ready .any ops (listed.setIfInBounds i true) with
          | nil => rfl
          | cons x xs =>
            have hx : x ∈ Region.ready .any ops (listed.setIfInBounds i true) := by rw [hr']; exact List.mem_cons_self ..
            obtain ⟨h0', o', ho', _⟩ := ready_edges hx
            have := getD_both (hall' x (Array.getElem?_eq_some_iff.1 ho').1)
            rw [this] at h0'; cases h0'
        cases fuel with
        | zero => exact ⟨hnil, hq⟩
        | succ fuel => exact ⟨fun _ => hq, fun j hj => by rw [hnil] at hj; cases hj⟩

/-! ### The order of the text -/
theorem getD_rep (n i : Nat) : (Array.replicate n false).getD i false = false := by
  simp only [Array.getD_eq_getD_getElem?, Array.getElem?_replicate]; split <;> rfl
def Chain (ops : Array Oper) : List Nat → Array Bool → Prop
  | [], listed => ∀ i, i < ops.size → listed.getD i false = true
  | i :: is, listed => i < ops.size ∧ listed.getD i true = false ∧ (∀ x ∈ edges ops i, listed.getD x false = true) ∧ Chain ops is (listed.setIfInBounds i true)

theorem ops_of_steady {F sz m : Nat} (hok : Ok ops F sz) (hsz : sz ≤ a0.tmps.size) (hl : ∀ k, Lasts (fact gs k)) (hm : ops.size ≤ m + 1)
    (hlast : ∀ i, i < m → m < ops.size → i ∈ anc ops F m)
    (hstep : ∀ i o, i < m → ops[i]? = some o → ∀ b w, Ext w0 w → (∀ t ∈ o.looksAt ops, seen1 ops a0 gs i b w t) → stepOk P ops o (fact gs i) b w)
    {Q : Exit → Act → World → Prop}
    (hfin : ∀ b w listed, (∀ i, i < m → i < ops.size → listed.getD i false = true) → (∀ i, m ≤ i → listed.getD i false = false) → At ops w0 a0 gs listed b w → if m < ops.size then wpOp P ops Q m (fun b w => Q .normal b w) b w else Q .normal b w) :
    ∀ is listed b w, Chain ops is listed → listed.size = ops.size → Closed ops listed → (∀ i, m ≤ i → listed.getD i false = false) → At ops w0 a0 gs listed b w → wpOps P ops Q is b w := by
  intro is
  induction is with
  | nil =>
    intro listed b w hch hs hc hmf hat
    have := hfin b w listed (fun i _ h => hch i h) hmf hat
    unfold wpOps
    by_cases hms : m < ops.size
    · have := hch m hms; rw [hmf m (Nat.le_refl _)] at this; cases this
    · rwa [if_neg hms] at this
  | cons i is ih =>
    intro listed b w hch hs hc hmf hat
    obtain ⟨his, h0, hr, hch'⟩ := hch
    have ho : ops[i]? = some ops[i] := Array.getElem?_eq_some_iff.2 ⟨his, rfl⟩
    rw [wpOps_cons]
    by_cases him : i < m
    · refine step_at hok hsz hl ho (hstep i _ him ho) hs hc h0 hr hat fun b' w' hat' => ih _ b' w' hch' (by simpa using hs) (closed_set hc hr) (fun k hk => ?_) hat'
      rw [getD_set_ne false (by omega)]
      exact hmf k hk
    · obtain rfl : i = m := by omega
      have hall : ∀ k, k < i → k < ops.size → listed.getD k false = true := fun k hk _ => grow_listed hs hc F _ hr k (hlast k hk his)
      have := hfin b w listed hall hmf hat
      rw [if_pos his] at this
      refine wpOp_mono (fun b' w' hq => ?_) this
      have hall' : ∀ k, k < ops.size → (listed.setIfInBounds i true).getD k false = true := fun k hk => by
        by_cases hki : k = i
        · subst hki; simp [hs, his]
        · rw [getD_set_ne false (Ne.symm hki)]; exact hall k (by omega) hk
      cases is with
      | nil => exact hq
      | cons j js =>
        obtain ⟨hjs, h0', _⟩ := hch'
        have := getD_both (hall' j hjs)
        rw [this] at h0'; cases h0'

theorem chain_range {F sz : Nat} (hok : Ok ops F sz) : ∀ n k listed, k + n = ops.size → listed.size = ops.size → (∀ i, i < k → listed.getD i false = true) → (∀ i, k ≤ i → listed.getD i false = false) → Chain ops (List.range' k n) listed
  | 0, k, listed, hk, _, h1, _ => fun i hi => h1 i (by omega)
  | n + 1, k, listed, hk, hs, h1, h2 => by
    have hks : k < ops.size := by omega
    have ho : ops[k]? = some ops[k] := Array.getElem?_eq_some_iff.2 ⟨hks, rfl⟩
    refine ⟨hks, ?_, fun x hx => h1 x (hok.back k _ ho x hx), chain_range hok n (k + 1) _ (by omega) (by simpa using hs) (fun i hi => ?_) (fun i hi => ?_)⟩
    · have := h2 k (Nat.le_refl _)
      have hkl : k < listed.size := by omega
      simp [hkl] at this ⊢; exact this
    · by_cases hik : i = k
      · subst hik; simp [hs, hks]
      · rw [getD_set_ne false (Ne.symm hik)]; exact h1 i (by omega)
    · rw [getD_set_ne false (by omega)]; exact h2 i (by omega)

theorem at_start (w w' : World) (hx : Ext w w') : At ops w a0 gs (Array.replicate ops.size false) a0 w' :=
  ⟨hx, rfl, rfl, fun i o d _ h _ => (by rw [getD_rep] at h; cases h), fun _ _ => rfl⟩
theorem closed_start : Closed ops (Array.replicate ops.size false) := fun j hj h => by
  simp [hj] at h
theorem left_start : left (Array.replicate ops.size false) ≤ ops.size := by
  unfold left
  exact Nat.le_trans List.countP_le_length (by simp)

theorem region_of_steady {F sz m : Nat} {id : Nat} {draw : Bool} {w : World} (hmx : P.follows .mixedOrders = true) (hok : Ok ops F sz) (hsz : sz ≤ a0.tmps.size) (hl : ∀ k, Lasts (fact gs k)) (hm : ops.size ≤ m + 1)
    (hlast : ∀ i, i < m → m < ops.size → i ∈ anc ops F m)
    (hstep : ∀ i o, i < m → ops[i]? = some o → ∀ b w', Ext w w' → (∀ t ∈ o.looksAt ops, seen1 ops a0 gs i b w' t) → stepOk P ops o (fact gs i) b w')
    {Q : Exit → Act → World → Prop}
    (hfin : ∀ b w' listed, (∀ i, i < m → i < ops.size → listed.getD i false = true) → (∀ i, m ≤ i → listed.getD i false = false) → At ops w a0 gs listed b w' → if m < ops.size then wpOp P ops Q m (fun b w => Q .normal b w) b w' else Q .normal b w') :
    (Code.region id ops draw).wp P Q a0 w := by
  cases draw with
  | true =>
    exact wp_region_any hmx (any_of_steady hok hsz hl hm hlast hstep hfin _ _ _ _ (by simp) closed_start left_start (fun i _ => getD_rep _ _) (at_start w _ (Ext.refl w).drew))
  | false =>
    refine wp_region (ops_of_steady hok hsz hl hm hlast hstep hfin _ _ _ _ ?_ (by simp) closed_start (fun i _ => getD_rep _ _) (at_start w _ (Ext.refl w)))
    rw [List.range_eq_range']
    exact chain_range hok _ _ _ (by omega) (by simp) (fun i hi => absurd hi (Nat.not_lt_zero _)) (fun i _ => getD_rep _ _)

/-! ### The walk in the order of the text -/
def looks (ops : Array Oper) (i : Nat) (o : Oper) : List (Tmp × Option Nat) :=
  (o.looksAt ops).map fun t => (t, (List.range i).find? fun k => match ops[k]? with | some ok => ok.dst == some t | none => false)
def sees (gs : List Fact) (a0 b : Act) (w : World) : List (Tmp × Option Nat) → Prop
  | [] => True
  | (t, some k) :: L => fact gs k w (b.eval (.tmp t)) ∧ sees gs a0 b w L
  | (t, none) :: L => b.eval (.tmp t) = a0.eval (.tmp t) ∧ sees gs a0 b w L

theorem sees_of {i : Nat} {b : Act} {w : World} {gs gs' : List Fact} (hi : i ≤ gs.length) (hpre : ∀ k, k < i → fact gs' k = fact gs k) : ∀ ts : List Tmp, (∀ t ∈ ts, seen1 ops a0 gs' i b w t) →
    sees gs a0 b w (ts.map fun t => (t, (List.range i).find? fun k => match ops[k]? with | some ok => ok.dst == some t | none => false))
  | [], _ => trivial
  | t :: ts, h => by
    have ih := sees_of hi hpre ts fun t ht => h t (List.mem_cons_of_mem _ ht)
    have ht := h t (List.mem_cons_self ..)
    simp only [List.map_cons]
    cases hf : (List.range i).find? fun k => match ops[k]? with | some ok => ok.dst == some t | none => false with
    | none =>
      refine ⟨ht.2 fun k ok hk hok hkt => ?_, ih⟩
      have := List.find?_eq_none.1 hf k (List.mem_range.2 hk)
      simp [hok, hkt] at this
    | some k =>
      have hk := List.mem_range.1 (List.mem_of_find?_eq_some hf)
      have hp := List.find?_some hf
      refine ⟨?_, ih⟩
      cases hok : ops[k]? with
      | none => simp [hok] at hp
      | some ok => simp [hok] at hp; rw [← hpre k hk]; exact ht.1 k ok hk hok hp

def walk (P : Program) (ops : Array Oper) (w0 : World) (a0 : Act) (R : List Fact → Prop) : List Oper → List Fact → Prop
  | [], gs => R gs
  | o :: l, gs => ∃ G, Lasts G ∧ (∀ b w, Ext w0 w → sees gs a0 b w (looks ops gs.length o) → stepOk P ops o G b w) ∧ walk P ops w0 a0 R l (gs ++ [G])

theorem fact_append_left {gs hs : List Fact} {k : Nat} (h : k < gs.length) : fact (gs ++ hs) k = fact gs k := by
  unfold fact; simp [List.getD_eq_getElem?_getD, List.getElem?_append_left h]

theorem walk_spec {R : List Fact → Prop} : ∀ (l : List Oper) (gs : List Fact), (∀ k, Lasts (fact gs k)) → walk P ops w0 a0 R l gs →
    ∃ hs, hs.length = l.length ∧ (∀ k, Lasts (fact (gs ++ hs) k)) ∧ R (gs ++ hs) ∧
      ∀ j o, l[j]? = some o → ∀ b w, Ext w0 w → (∀ t ∈ o.looksAt ops, seen1 ops a0 (gs ++ hs) (gs.length + j) b w t) → stepOk P ops o (fact (gs ++ hs) (gs.length + j)) b w
  | [], gs, hl, h => ⟨[], rfl, by simpa using hl, by simpa [walk] using h, fun j o ho => by simp at ho⟩
  | o :: l, gs, hl, ⟨G, hG, hst, hw⟩ => by
    have hl' : ∀ k, Lasts (fact (gs ++ [G]) k) := fun k => by
      rcases Nat.lt_or_ge k gs.length with h | h
      · rw [fact_append_left h]; exact hl k
      · unfold fact
        by_cases hk : k = gs.length
        · subst hk; simpa using hG
        · rw [List.getD_eq_getElem?_getD, List.getElem?_eq_none (by simp; omega)]; exact fun _ _ _ _ _ => trivial
    obtain ⟨hs, hlen, h1, h2, h3⟩ := walk_spec l (gs ++ [G]) hl' hw
    refine ⟨G :: hs, by simp [hlen], by simpa using h1, by simpa using h2, fun j o' ho' b w hx hsn => ?_⟩
    cases j with
    | zero =>
      obtain rfl : o = o' := by simpa using ho'
      have : fact (gs ++ G :: hs) (gs.length + 0) = G := by simp [fact]
      rw [this]
      exact hst b w hx (sees_of (i := gs.length) (Nat.le_refl _) (fun k hk => fact_append_left hk) _ (by simpa using hsn))
    | succ j =>
      have := h3 j o' (by simpa using ho') b w hx (by simpa [Nat.add_assoc, Nat.add_comm 1 j] using hsn)
      simpa [Nat.add_assoc, Nat.add_comm 1 j] using this

/-- What is told behind the region: the slots hold values of which the facts are told. -/
def fin (K : Act → World → Prop) (w : World) : List (Option Tmp) → List Fact → Act → Prop
  | some d :: ds, G :: gs, a => ∀ v, G w v → fin K w ds gs (a.put (some d) v)
  | none :: ds, _ :: gs, a => fin K w ds gs a
  | _, _, a => K a w

structure Agree (a b : Act) (ds : List (Option Tmp)) : Prop where
  defers : a.defers = b.defers
  size : a.tmps.size = b.tmps.size
  rest : ∀ t, some t ∉ ds → a.eval (.tmp t) = b.eval (.tmp t)

theorem eq_of_agree {a b : Act} (h : Agree a b []) : a = b := by
  cases a; cases b
  obtain ⟨h1, h2, h3⟩ := h
  simp only [Act.mk.injEq]
  refine ⟨Array.ext h2 fun i hi hi' => ?_, h1⟩
  have := h3 i (by simp)
  simp only [Act.eval] at this
  simpa [hi, hi'] using this

theorem fin_spec {K : Act → World → Prop} {w : World} {b : Act} : ∀ (ds : List (Option Tmp)) (gs : List Fact) (a : Act), ds.length ≤ gs.length → (∀ d, some d ∈ ds → d < a.tmps.size) → Agree a b ds →
    (∀ i d, ds[i]? = some (some d) → fact gs i w (b.eval (.tmp d))) → fin K w ds gs a → K b w
  | [], gs, a, _, _, ha, _, h => by
    cases gs <;> (rw [eq_of_agree ha] at h; exact h)
  | none :: ds, [], _, hlen, _, _, _, _ => by simp at hlen
  | some d :: ds, [], _, hlen, _, _, _, _ => by simp at hlen
  | none :: ds, G :: gs, a, hlen, hlt, ha, hf, h =>
    fin_spec ds gs a (by simpa using hlen) (fun d hd => hlt d (List.mem_cons_of_mem _ hd)) ⟨ha.defers, ha.size, fun t ht => ha.rest t (by simp [ht])⟩ (fun i d hd => by simpa [fact] using hf (i + 1) d (by simpa using hd)) h
  | some d :: ds, G :: gs, a, hlen, hlt, ha, hf, h => by
    have hd : d < a.tmps.size := hlt d (List.mem_cons_self ..)
    refine fin_spec ds gs (a.put (some d) (b.eval (.tmp d))) (by simpa using hlen) (fun d' hd' => by simpa [Act.put] using hlt d' (List.mem_cons_of_mem _ hd')) ⟨ha.defers, by simpa [Act.put] using ha.size, fun t ht => ?_⟩ (fun i d' hd' => by simpa [fact] using hf (i + 1) d' (by simpa using hd')) (h _ (by simpa [fact] using hf 0 d rfl))
    by_cases htd : t = d
    · subst htd; exact eval_put_same hd
    · rw [Act.eval_put (fun d' h1 h2 => by cases h1; cases h2; exact htd rfl)]
      exact ha.rest t (by simp [htd, ht])

def tailB (ops : Array Oper) (F n : Nat) : Bool := (List.range n).all fun i => (anc ops F n).contains i

theorem fin_of_at {gs : List Fact} {K : Act → World → Prop} {w w' : World} {b : Act} {listed : Array Bool} {n : Nat} {F sz : Nat} (hok : Ok ops F sz) (hsz : sz ≤ a0.tmps.size) (hn : n ≤ ops.size) (hlen : gs.length = n)
    (hl : ∀ i, i < n → listed.getD i false = true) (hl' : ∀ i, n ≤ i → listed.getD i false = false) (hat : At ops w a0 gs listed b w')
    (h : fin K w' ((ops.toList.take n).map (·.dst)).reverse gs.reverse a0) : K b w' := by
  have hlen2 : ((ops.toList.take n).map (·.dst)).length = n := by simp; omega
  refine fin_spec _ gs.reverse a0 (by simp [hlen]; omega) (fun d hd => ?_) ⟨hat.defers.symm, hat.size.symm, fun t ht => (hat.rest t fun i o ho hil hot => ?_).symm⟩ (fun i d hd => ?_) h
  · obtain ⟨o, ho, hod⟩ := List.mem_map.1 (List.mem_reverse.1 hd)
    obtain ⟨j, hj, rfl⟩ := List.getElem_of_mem (List.mem_of_mem_take ho)
    exact Nat.lt_of_lt_of_le (hok.dst j _ d (by simp at hj; simp [hj]) hod) hsz
  · have hin : i < n := by
      rcases Nat.lt_or_ge i n with h | h
      · exact h
      · rw [hl' i h] at hil; cases hil
    refine ht (List.mem_reverse.2 (List.mem_map.2 ⟨o, ?_, hot⟩))
    have : (ops.toList.take n)[i]? = some o := by rw [List.getElem?_take, if_pos hin]; simpa using ho
    exact List.mem_of_getElem? this
  · have hi : i < n := by
      have := (List.getElem?_eq_some_iff.1 hd).1
      rwa [List.length_reverse, hlen2] at this
    rw [List.getElem?_reverse (by rw [hlen2]; exact hi), hlen2, List.getElem?_map, List.getElem?_take, if_pos (by omega)] at hd
    simp only [Array.getElem?_toList, Option.map_eq_some_iff] at hd
    obtain ⟨o, ho, hod⟩ := hd
    have := hat.out (n - 1 - i) o d ho (hl _ (by omega)) hod
    unfold fact at this ⊢
    rw [List.getD_eq_getElem?_getD] at this ⊢
    rw [List.getElem?_reverse (by omega), hlen]
    exact this

/-! ### The walk, what is told last ahead -/
def rfact (rgs : List Fact) (j : Nat) : Fact := rgs.getD j (fun _ _ => True)
theorem fact_reverse {rgs : List Fact} {k : Nat} (h : k < rgs.length) : fact rgs.reverse k = rfact rgs (rgs.length - 1 - k) := by
  unfold fact rfact
  rw [List.getD_eq_getElem?_getD, List.getD_eq_getElem?_getD, List.getElem?_reverse h]
def looksR (ops : Array Oper) (i : Nat) (o : Oper) : List (Tmp × Option Nat) := (looks ops i o).map fun x => (x.1, x.2.map fun k => i - 1 - k)
def seesR (rgs : List Fact) (a0 b : Act) (w : World) : List (Tmp × Option Nat) → Prop
  | [] => True
  | (t, some k) :: L => rfact rgs k w (b.eval (.tmp t)) ∧ seesR rgs a0 b w L
  | (t, none) :: L => b.eval (.tmp t) = a0.eval (.tmp t) ∧ seesR rgs a0 b w L
theorem seesR_of {rgs : List Fact} {b : Act} {w : World} : ∀ L : List (Tmp × Option Nat), (∀ x ∈ L, ∀ k, x.2 = some k → k < rgs.length) → sees rgs.reverse a0 b w L → seesR rgs a0 b w (L.map fun x => (x.1, x.2.map fun k => rgs.length - 1 - k))
  | [], _, _ => trivial
  | (t, none) :: L, hk, h => ⟨h.1, seesR_of L (fun x hx => hk x (List.mem_cons_of_mem _ hx)) h.2⟩
  | (t, some k) :: L, hk, h => ⟨by
      have := h.1
      rw [fact_reverse (hk _ (List.mem_cons_self ..) k rfl)] at this
      exact this, seesR_of L (fun x hx => hk x (List.mem_cons_of_mem _ hx)) h.2⟩
theorem looks_lt {i : Nat} {o : Oper} : ∀ x ∈ looks ops i o, ∀ k, x.2 = some k → k < i := by
  intro x hx k hk
  obtain ⟨t, -, rfl⟩ := List.mem_map.1 hx
  exact List.mem_range.1 (List.mem_of_find?_eq_some hk)
def walkR (P : Program) (ops : Array Oper) (w0 : World) (a0 : Act) (R : List Fact → Prop) : List Oper → List Fact → Prop
  | [], rgs => R rgs
  | o :: l, rgs => ∃ G, Lasts G ∧ (∀ b w, Ext w0 w → seesR rgs a0 b w (looksR ops rgs.length o) → stepOk P ops o G b w) ∧ walkR P ops w0 a0 R l (G :: rgs)
theorem walk_of_walkR {R : List Fact → Prop} : ∀ (l : List Oper) (rgs : List Fact), walkR P ops w0 a0 R l rgs → walk P ops w0 a0 (fun gs => R gs.reverse) l rgs.reverse
  | [], rgs, h => by unfold walk; rw [List.reverse_reverse]; exact h
  | o :: l, rgs, ⟨G, hG, hst, hw⟩ => by
    refine ⟨G, hG, fun b w hx hs => hst b w hx ?_, ?_⟩
    · rw [List.length_reverse] at hs
      exact seesR_of _ looks_lt hs
    · have := walk_of_walkR l (G :: rgs) hw
      rwa [List.reverse_cons] at this

theorem wp_steady_core {id : Nat} {draw : Bool} {w : World} {Q : Exit → Act → World → Prop} {l : List Oper} (F n sz : Nat) (hmx : P.follows .mixedOrders = true) (hB : okB l.toArray F sz = true) (hn : n ≤ l.length) (hn1 : l.length ≤ n + 1) (hT : l.length ≤ n ∨ tailB l.toArray F n = true) (hsz : a0.tmps.size = sz)
    (K : Act → World → Prop) (hK : ∀ b w', K b w' → if n < l.length then wpOp P l.toArray Q n (fun b w => Q .normal b w) b w' else Q .normal b w')
    (h : walkR P l.toArray w a0 (fun rgs => ∀ w', Ext w w' → fin K w' ((l.take n).map (·.dst)).reverse rgs a0) (l.take n) []) : (Code.region id l.toArray draw).wp P Q a0 w := by
  have hok := ok_of hB
  obtain ⟨hs, hlen, hl, hR, hst⟩ := walk_spec (l.take n) [] (fun k => by unfold fact; exact fun _ _ _ _ _ => by simp) (walk_of_walkR _ [] h)
  have hlen' : hs.length = n := by rw [hlen, List.length_take]; omega
  refine region_of_steady (gs := [] ++ hs) (m := n) hmx hok (by omega) hl (by simpa using hn1) (fun i hi hm => ?_) (fun i o hi ho b w' hx hsn => ?_) (fun b w' listed h1 h2 hat => ?_)
  · rcases hT with hT | hT
    · simp at hm; omega
    · unfold tailB at hT
      rw [List.all_eq_true] at hT
      simpa using hT i (List.mem_range.2 hi)
  · have : (l.take n)[i]? = some o := by rw [List.getElem?_take, if_pos hi]; simpa using ho
    have := hst i o this b w' hx (by simpa using hsn)
    simpa using this
  · have := fin_of_at (n := n) (K := K) hok (by omega) (by simpa using hn) (by simpa using hlen') (fun i hi => h1 i hi (by simp; omega)) h2 hat (by simpa using hR w' hat.ext)
    simpa using hK b w' this

/-- All of the region's operations. -/
theorem wp_steady {id : Nat} {draw : Bool} {w : World} {Q : Exit → Act → World → Prop} {l : List Oper} (F sz : Nat) (hmx : P.follows .mixedOrders = true) (hB : okB l.toArray F sz = true) (hsz : a0.tmps.size = sz)
    (h : walkR P l.toArray w a0 (fun rgs => ∀ w', Ext w w' → fin (fun b w => Q .normal b w) w' (l.map (·.dst)).reverse rgs a0) l []) : (Code.region id l.toArray draw).wp P Q a0 w :=
  wp_steady_core F l.length sz hmx hB (Nat.le_refl _) (by omega) (.inl (Nat.le_refl _)) hsz _ (fun b w' hk => by simpa using hk) (by simpa using h)

/-- All but the last one, which waits for all. -/
theorem wp_steady_tail {id : Nat} {draw : Bool} {w : World} {Q : Exit → Act → World → Prop} {l : List Oper} (F n sz : Nat) (hmx : P.follows .mixedOrders = true) (hB : (okB l.toArray F sz && tailB l.toArray F n) = true) (hn : l.length = n + 1) (hsz : a0.tmps.size = sz)
    (h : walkR P l.toArray w a0 (fun rgs => ∀ w', Ext w w' → fin (fun b w => wpList P l.toArray Q (l.drop n) b w) w' ((l.take n).map (·.dst)).reverse rgs a0) (l.take n) []) : (Code.region id l.toArray draw).wp P Q a0 w := by
  rw [Bool.and_eq_true] at hB
  refine wp_steady_core F n sz hmx hB.1 (by omega) (by omega) (.inr hB.2) hsz _ (fun b w' hk => ?_) h
  rw [if_pos (by omega)]
  have hd : l.drop n = [l[n]] := by
    rw [List.drop_eq_getElem_cons (by omega), List.drop_eq_nil_of_le (by omega)]
  rw [hd] at hk
  have ho : l.toArray[n]? = some l[n] := by simp
  unfold wpOp
  simp only [ho]
  exact hk

/-! ### Steps -/
theorem eval_tmp (b : Act) (t : Nat) : b.eval (.tmp t) = b.tmps[t]?.getD undef := by simp [Act.eval]
variable {R : List Fact → Prop} {o : Oper} {l : List Oper}
/-- An operation without a guard that yields one value in every later world. -/
theorem walk_q (L : List (Tmp × Option Nat)) (hL : looksR ops gs.length o = L) (hg : o.guard = none)
    (h : ∃ u, (∀ b w, Ext w0 w → seesR gs a0 b w L → (execOp b.eval o).run P w = .ok (.value u) w) ∧ walkR P ops w0 a0 R l ((fun _ v => v = u) :: gs)) : walkR P ops w0 a0 R (o :: l) gs := by
  obtain ⟨u, h1, h2⟩ := h
  refine ⟨_, lasts_eq u, fun b w hx hs => ?_, h2⟩
  rw [hL] at hs
  unfold stepOk
  rw [if_pos (by simp [Region.wanted, hg]), h1 b w hx hs]
  exact ⟨Ext.refl _, rfl⟩
theorem yielded_of {b : Act} {j t : Nat} {c : Bool} (hj : (ops[j]?).bind (·.dst) = some t) (hb : b.eval (.tmp t) = .bool c) : yielded ops b.tmps j = some c := by
  unfold yielded
  rw [hj]
  simp only [Act.eval, Array.getD_eq_getD_getElem?] at hb
  simp only [Option.bind_some]
  cases h : b.tmps[t]? with
  | none => rw [h] at hb; simp [undef] at hb
  | some v => rw [h] at hb; simp at hb; rw [hb]
/-- The same with a guard that lets it. -/
theorem walk_qg (L : List (Tmp × Option Nat)) (hL : looksR ops gs.length o = L) (j t : Nat) (c : Bool) (hg : o.guard = some (j, c)) (hj : (ops[j]?).bind (·.dst) = some t) (hc : ∀ b w, Ext w0 w → seesR gs a0 b w L → b.eval (.tmp t) = .bool c)
    (h : ∃ u, (∀ b w, Ext w0 w → seesR gs a0 b w L → (execOp b.eval o).run P w = .ok (.value u) w) ∧ walkR P ops w0 a0 R l ((fun _ v => v = u) :: gs)) : walkR P ops w0 a0 R (o :: l) gs := by
  obtain ⟨u, h1, h2⟩ := h
  refine ⟨_, lasts_eq u, fun b w hx hs => ?_, h2⟩
  rw [hL] at hs
  unfold stepOk
  rw [if_pos (by simp [Region.wanted, hg, yielded_of hj (hc b w hx hs)]), h1 b w hx hs]
  exact ⟨Ext.refl _, rfl⟩
/-- A guard that passes it over. -/
theorem walk_skip (L : List (Tmp × Option Nat)) (hL : looksR ops gs.length o = L) (j t : Nat) (c : Bool) (hg : o.guard = some (j, !c)) (hj : (ops[j]?).bind (·.dst) = some t) (hc : ∀ b w, Ext w0 w → seesR gs a0 b w L → b.eval (.tmp t) = .bool c)
    (h : walkR P ops w0 a0 R l ((fun _ v => v = undef) :: gs)) : walkR P ops w0 a0 R (o :: l) gs := by
  refine ⟨_, lasts_eq undef, fun b w hx hs => ?_, h⟩
  rw [hL] at hs
  unfold stepOk
  rw [if_neg (by rw [Region.wanted, hg]; simp only [yielded_of hj (hc b w hx hs)]; cases c <;> simp)]
/-- An operation of which a lasting fact is told: mostly a call. -/
theorem walk_c (L : List (Tmp × Option Nat)) (hL : looksR ops gs.length o = L) (hg : o.guard = none) (G : Fact) (hG : Lasts G)
    (h : ∀ b w, Ext w0 w → seesR gs a0 b w L → upon P w G ((execOp b.eval o).run P w)) (hw : walkR P ops w0 a0 R l (G :: gs)) : walkR P ops w0 a0 R (o :: l) gs := by
  refine ⟨G, hG, fun b w hx hs => ?_, hw⟩
  rw [hL] at hs
  unfold stepOk
  rw [if_pos (by simp [Region.wanted, hg])]
  exact h b w hx hs
theorem walk_cg (L : List (Tmp × Option Nat)) (hL : looksR ops gs.length o = L) (j t : Nat) (c : Bool) (hg : o.guard = some (j, c)) (hj : (ops[j]?).bind (·.dst) = some t) (hc : ∀ b w, Ext w0 w → seesR gs a0 b w L → b.eval (.tmp t) = .bool c) (G : Fact) (hG : Lasts G)
    (h : ∀ b w, Ext w0 w → seesR gs a0 b w L → upon P w G ((execOp b.eval o).run P w)) (hw : walkR P ops w0 a0 R l (G :: gs)) : walkR P ops w0 a0 R (o :: l) gs := by
  refine ⟨G, hG, fun b w hx hs => ?_, hw⟩
  rw [hL] at hs
  unfold stepOk
  rw [if_pos (by simp [Region.wanted, hg, yielded_of hj (hc b w hx hs)])]
  exact h b w hx hs
theorem upon_weak {w : World} {G G' : Fact} (hg : ∀ w v, G w v → G' w v) {r : Result Next} (h : upon P w G r) : upon P w G' r := by
  cases r with
  | ok n w' =>
    cases n <;> simp only [upon] at h ⊢
    case value v => exact ⟨h.1, hg _ _ h.2⟩
    case skip => exact ⟨h.1, hg _ _ h.2⟩
    case enter f args => exact ⟨h.1, h.2.mono fun e w'' ⟨v, he, hx, hv⟩ => ⟨v, he, hx, hg _ _ hv⟩⟩
  | halt x w' => simp only [upon] at h
/-- An operation that comes up or not: a guard that is not decided. -/
theorem walk_m (L : List (Tmp × Option Nat)) (hL : looksR ops gs.length o = L) (j t : Nat) (c g : Bool) (hg : o.guard = some (j, g)) (hj : (ops[j]?).bind (·.dst) = some t) (hc : ∀ b w, Ext w0 w → seesR gs a0 b w L → b.eval (.tmp t) = .bool c) (G : Fact) (hG : Lasts G)
    (h : c = g → ∀ b w, Ext w0 w → seesR gs a0 b w L → upon P w G ((execOp b.eval o).run P w)) (hw : walkR P ops w0 a0 R l ((fun w v => c = g → G w v) :: gs)) : walkR P ops w0 a0 R (o :: l) gs := by
  refine ⟨fun w v => c = g → G w v, fun w w' v x hh e => hG _ _ _ x (hh e), fun b w hx hs => ?_, hw⟩
  rw [hL] at hs
  unfold stepOk
  by_cases hcg : c = g
  · rw [if_pos (by simp [Region.wanted, hg, yielded_of hj (hc b w hx hs), hcg])]
    exact upon_weak (fun _ _ hv _ => hv) (h hcg b w hx hs)
  · rw [if_neg (by rw [Region.wanted, hg]; simp only [yielded_of hj (hc b w hx hs)]; cases c <;> cases g <;> simp_all)]
    exact fun e => absurd e hcg
theorem upon_enter {w : World} {G : Fact} {f : FuncId} {args : Array Value} (h : Calls P f args w fun e w' => ∃ v, e = .returned v ∧ Ext w w' ∧ G w' v) : upon P w G (.ok (.enter f args) w) := ⟨Ext.refl _, h⟩
theorem walk_end (h : R gs) : walkR P ops w0 a0 R [] gs := h
end
end Go.Steady
