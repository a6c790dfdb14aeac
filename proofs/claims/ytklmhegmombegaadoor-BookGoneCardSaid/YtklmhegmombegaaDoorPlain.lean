/-
  A saga in plain Lean: what is due, how it goes, what it comes to. No program in sight.
  A saga's laws in plain Lean: what holds of every saga that is run; how its runs end. No program in sight.
  Sagas that go well, that go back, that are never answered: how their runs end, in plain Lean.
  The records of a run go, in plain Lean.
  What goes when a saga waits, and when it begins, in plain Lean.
-/
import Derived.Test.YtklmhegmombegaaDoorRe0
set_option linter.unusedVariables false
set_option linter.unusedSimpArgs false
namespace Go.Proofs.YtklmhegmombegaaDoor.Re.Plain

/-- A saga: its steps (whose, which kind), and how it stands. -/
structure Sg where
  steps : List (Int × Int)
  phase : Nat
  pos : Nat
  tries : Nat
  wait : Bool
  back : Bool
  done : Nat
  undone : Nat
  may : Nat
  seq : Nat

/-- The last one below n of which p is so; -1: none. -/
def lastOf (p : Nat → Bool) : Nat → Int
  | 0 => -1
  | n + 1 => if p n = true then (n : Int) else lastOf p n
def opn (s : Sg) (i : Nat) : Bool := (kindAt s.steps i == 1) && (s.done.testBit i || s.may.testBit i) && !s.undone.testBit i
def target (s : Sg) : Int := lastOf (opn s) s.steps.length
def stepOf (s : Sg) : Int := if s.phase = 1 then target s else if s.pos < s.steps.length then (s.pos : Int) else -1
def over (s : Sg) : Bool := decide (2 ≤ s.phase) && decide (s.phase ≤ 4)

/-- What is due: kind, step, try, back, end. -/
structure Du where
  kind : Int
  step : Int
  tr : Int
  bk : Bool
  nd : Int
deriving DecidableEq

def due (s : Sg) (lim : Nat) : Option Du :=
  if s.wait = true ∨ over s = true ∨ s.steps = [] then none
  else if stepOf s < 0 then (if s.phase = 0 then some ⟨5, 0, 0, false, 2⟩ else some ⟨5, 0, 0, false, 3⟩)
  else if s.tries < lim then some ⟨2, stepOf s, s.tries + 1, decide (s.phase = 1), 0⟩
  else some ⟨5, 0, 0, false, 4⟩

def bitOf (s : Sg) : Nat := 2 ^ (stepOf s).toNat
def clr (a b : Nat) : Nat := a &&& (63 ^^^ b)
def answered (s : Sg) (good : Bool) : Sg :=
  if s.back = true then (if good = true then { s with undone := s.undone ||| bitOf s, tries := 0, wait := false, back := false } else { s with wait := false, back := false })
  else if good = true then { s with done := s.done ||| bitOf s, may := clr s.may (bitOf s), pos := s.pos + 1, tries := 0, wait := false, back := false }
  else if kindAt s.steps (stepOf s).toNat = 3 then { s with wait := false, back := false }
  else { s with may := clr s.may (bitOf s), phase := 1, tries := 0, wait := false, back := false }
def lapsed (s : Sg) (lim : Nat) : Sg :=
  if s.back = true then { s with wait := false, back := false }
  else if kindAt s.steps (stepOf s).toNat = 1 ∧ s.tries = lim then { s with may := s.may ||| bitOf s, phase := 1, tries := 0, wait := false, back := false }
  else { s with may := s.may ||| bitOf s, wait := false, back := false }
def sent (s : Sg) (d : Du) : Sg := { s with wait := true, tries := d.tr.toNat, back := d.bk, seq := s.seq + 1 }
def ended (s : Sg) (d : Du) : Sg := { s with phase := d.nd.toNat, seq := s.seq + 1 }
def more (s : Sg) : Sg := { s with seq := s.seq + 1 }

/-- What a record says of a call. -/
structure Rc where
  kind : Int
  seq : Int
  step : Int
  tr : Int
  bk : Bool
  good : Bool
  nd : Int
def told (x : Rc) : Du := ⟨x.kind, x.step, x.tr, x.bk, x.nd⟩
/-- The saga behind a record; none: it does not go. -/
def go (s : Sg) (x : Rc) (lim : Nat) : Option Sg :=
  if x.seq ≠ s.seq ∨ s.steps = [] ∨ over s = true then none
  else if x.kind = 2 then (if due s lim = some (told x) then some (sent s (told x)) else none)
  else if x.kind = 5 then (if due s lim = some (told x) then some (ended s (told x)) else none)
  else if x.kind = 3 ∨ x.kind = 4 then
    (if s.wait = false ∨ x.step ≠ stepOf s ∨ x.tr ≠ s.tries ∨ x.bk ≠ s.back then none
     else if x.kind = 3 then some (answered (more s) x.good) else some (lapsed (more s) lim))
  else none

def missing (s : Sg) : Nat := if s.phase = 2 then 0 else clr s.done s.undone

/-- May steps be a saga's? From a least kind on. -/
def mayFrom (k : Int) : List (Int × Int) → Bool
  | [] => true
  | x :: l => decide (0 ≤ x.1 ∧ x.1 ≤ 3 ∧ k ≤ x.2 ∧ x.2 ≤ 3) && mayFrom (if x.2 = 2 then 3 else x.2) l
def mayB (l : List (Int × Int)) : Bool := decide (1 ≤ l.length ∧ l.length ≤ 6) && mayFrom 1 l
def new (l : List (Int × Int)) : Sg := ⟨l, 0, 0, 0, false, false, 0, 0, 0, 1⟩
def zero : Sg := ⟨[], 0, 0, 0, false, false, 0, 0, 0, 0⟩
def newOf (l : List (Int × Int)) : Sg := if mayB l = true then new l else zero

/-- One round: what is due goes, or the call that is out is answered (0 Good, 1 not, 2 lapse). -/
def next (lim : Nat) (ans : List Nat) (st : Sg × Nat) : Sg × Nat :=
  match due st.1 lim with
  | some d => (if d.kind = 2 then sent st.1 d else ended st.1 d, st.2)
  | none =>
    let a := (ans[st.2]?).getD 0 % 3
    (if a = 2 then lapsed (more st.1) lim else answered (more st.1) (decide (a = 0)), st.2 + 1)
def iter (l : List (Int × Int)) (lim : Nat) (ans : List Nat) : Nat → Sg × Nat
  | 0 => (new l, 0)
  | n + 1 => next lim ans (iter l lim ans n)

/-- Where all n rounds have gone, and the saga is over. -/
def Ends (l : List (Int × Int)) (lim : Nat) (ans : List Nat) (n : Nat) (s : Sg) : Prop :=
  (iter l lim ans n).1 = s ∧ over s = true ∧ ∀ m, m < n → over (iter l lim ans m).1 = false
theorem Ends.unique {l : List (Int × Int)} {lim : Nat} {ans : List Nat} {n m : Nat} {s t : Sg} (h : Ends l lim ans n s) (k : Ends l lim ans m t) : n = m ∧ s = t := by
  obtain ⟨rfl, h2, h3⟩ := h
  obtain ⟨rfl, k2, k3⟩ := k
  by_cases h1 : n < m
  · rw [k3 n h1] at h2; cases h2
  · by_cases h4 : m < n
    · rw [h3 m h4] at k2; cases k2
    · obtain rfl : n = m := by omega
      exact ⟨rfl, rfl⟩

/-! ## Which kinds there are -/
theorem mayFrom_kind {l : List (Int × Int)} {k : Int} (h : mayFrom k l = true) (hk : 1 ≤ k) : ∀ i, i < l.length → k ≤ kindAt l i ∧ kindAt l i ≤ 3 := by
  induction l generalizing k with
  | nil => intro i hi; simp at hi
  | cons x l ih =>
    simp only [mayFrom, Bool.and_eq_true, decide_eq_true_eq] at h
    obtain ⟨⟨_, _, h3, h4⟩, h5⟩ := h
    intro i hi
    cases i with
    | zero => simp [kindAt]; exact ⟨h3, h4⟩
    | succ i =>
      have := ih h5 (by split <;> omega) i (by simpa using hi)
      have e : kindAt (x :: l) (i + 1) = kindAt l i := by simp [kindAt]
      rw [e]
      split at this <;> omega
/-- Behind a step that decides all are tried until they are done. -/
theorem mayFrom_sorted {l : List (Int × Int)} {k : Int} (h : mayFrom k l = true) (hk : 1 ≤ k) : ∀ i j, i < j → j < l.length → kindAt l j ≠ 3 → kindAt l i = 1 := by
  induction l generalizing k with
  | nil => intro i j _ hj; simp at hj
  | cons x l ih =>
    simp only [mayFrom, Bool.and_eq_true, decide_eq_true_eq] at h
    obtain ⟨⟨_, _, h3, h4⟩, h5⟩ := h
    intro i j hij hj hk3
    obtain ⟨j, rfl⟩ : ∃ j', j = j' + 1 := ⟨j - 1, by omega⟩
    have e : kindAt (x :: l) (j + 1) = kindAt l j := by simp [kindAt]
    rw [e] at hk3
    simp only [List.length_cons] at hj
    cases i with
    | zero =>
      have := mayFrom_kind h5 (by split <;> omega) j (by omega)
      have e0 : kindAt (x :: l) 0 = x.2 := by simp [kindAt]
      rw [e0]
      split at this <;> omega
    | succ i =>
      have e1 : kindAt (x :: l) (i + 1) = kindAt l i := by simp [kindAt]
      rw [e1]
      exact ih h5 (by split <;> omega) i j (by omega) (by omega) hk3
theorem mayB_len {l : List (Int × Int)} (h : mayB l = true) : 1 ≤ l.length ∧ l.length ≤ 6 := by
  simp only [mayB, Bool.and_eq_true, decide_eq_true_eq] at h; exact h.1
theorem mayB_kind {l : List (Int × Int)} (h : mayB l = true) : ∀ i, i < l.length → 1 ≤ kindAt l i ∧ kindAt l i ≤ 3 := by
  simp only [mayB, Bool.and_eq_true] at h; exact mayFrom_kind h.2 (by omega)
theorem mayB_sorted {l : List (Int × Int)} (h : mayB l = true) : ∀ i j, i < j → j < l.length → kindAt l j ≠ 3 → kindAt l i = 1 := by
  simp only [mayB, Bool.and_eq_true] at h; exact mayFrom_sorted h.2 (by omega)
theorem ne_nil {l : List (Int × Int)} (h : mayB l = true) : l ≠ [] := by
  rintro rfl; exact absurd (mayB_len h).1 (by decide)

/-! ## The last one -/
theorem lastOf_lt (p : Nat → Bool) (n : Nat) : -1 ≤ lastOf p n ∧ lastOf p n < n := by
  induction n with
  | zero => simp [lastOf]
  | succ n ih => unfold lastOf; split <;> omega
theorem lastOf_some {p : Nat → Bool} {n : Nat} (h : 0 ≤ lastOf p n) : p (lastOf p n).toNat = true := by
  induction n with
  | zero => simp [lastOf] at h
  | succ n ih =>
    unfold lastOf at h ⊢
    split at h
    · rename_i hp; rw [if_pos hp]; simpa using hp
    · rename_i hp; rw [if_neg hp]; exact ih h
theorem lastOf_none {p : Nat → Bool} {n : Nat} (h : lastOf p n < 0) : ∀ i, i < n → p i = false := by
  induction n with
  | zero => intro i hi; omega
  | succ n ih =>
    unfold lastOf at h
    split at h
    · omega
    · rename_i hp
      intro i hi
      by_cases e : i = n
      · subst e; simpa using hp
      · exact ih h i (by omega)
theorem lastOf_eq {p : Nat → Bool} {n k : Nat} (hk : k < n) (hp : p k = true) (hl : ∀ i, k < i → i < n → p i = false) : lastOf p n = k := by
  induction n with
  | zero => omega
  | succ n ih =>
    unfold lastOf
    by_cases e : k = n
    · subst e; rw [if_pos hp]
    · rw [if_neg (by rw [hl n (by omega) (by omega)]; decide)]
      exact ih (by omega) (fun i h1 h2 => hl i h1 (by omega))
theorem lastOf_no {p : Nat → Bool} {n : Nat} (h : ∀ i, i < n → p i = false) : lastOf p n = -1 := by
  induction n with
  | zero => rfl
  | succ n ih => unfold lastOf; rw [if_neg (by rw [h n (by omega)]; decide)]; exact ih fun i hi => h i (by omega)
/-- How many there are. -/
def cnt (p : Nat → Bool) : Nat → Nat
  | 0 => 0
  | n + 1 => cnt p n + (if p n = true then 1 else 0)
theorem cnt_le (p : Nat → Bool) (n : Nat) : cnt p n ≤ n := by
  induction n with
  | zero => exact Nat.le_refl _
  | succ n ih => unfold cnt; split <;> omega
theorem cnt_le_of {p : Nat → Bool} {n m : Nat} (h : ∀ i, m ≤ i → i < n → p i = false) : cnt p n ≤ m := by
  induction n with
  | zero => exact Nat.zero_le _
  | succ n ih =>
    unfold cnt
    by_cases e : m ≤ n
    · rw [if_neg (by rw [h n e (by omega)]; decide)]
      exact ih fun i h1 h2 => h i h1 (by omega)
    · have := cnt_le p n
      split <;> omega
theorem cnt_drop {p q : Nat → Bool} {n k : Nat} (hk : k < n) (hp : p k = true) (hq : q k = false) (h : ∀ i, i ≠ k → q i = p i) : cnt q n + 1 = cnt p n := by
  induction n with
  | zero => omega
  | succ n ih =>
    unfold cnt
    by_cases e : k = n
    · subst e
      have : cnt q k = cnt p k := by
        clear ih hk
        have : ∀ m, m ≤ k → cnt q m = cnt p m := by
          intro m
          induction m with
          | zero => intro _; rfl
          | succ m ih => intro hm; unfold cnt; rw [ih (by omega), h m (by omega)]
        exact this k (Nat.le_refl _)
      rw [hp, hq, this]; simp
    · have := ih (by omega)
      rw [h n (by omega)]; omega
theorem cnt_congr {p q : Nat → Bool} {n : Nat} (h : ∀ i, i < n → q i = p i) : cnt q n = cnt p n := by
  induction n with
  | zero => rfl
  | succ n ih => unfold cnt; rw [ih fun i hi => h i (by omega), h n (by omega)]
theorem cnt_pos {p : Nat → Bool} {n k : Nat} (hk : k < n) (hp : p k = true) : 1 ≤ cnt p n := by
  induction n with
  | zero => omega
  | succ n ih =>
    unfold cnt
    by_cases e : k = n
    · subst e; rw [if_pos hp]; omega
    · have := ih (by omega); omega

/-! ## Bits -/
theorem testBit_63 (i : Nat) : (63 : Nat).testBit i = decide (i < 6) := by
  have : (63 : Nat) = 2 ^ 6 - 1 := rfl
  rw [this, Nat.testBit_two_pow_sub_one]
theorem testBit_clr (a b i : Nat) : (clr a b).testBit i = (a.testBit i && (decide (i < 6) ^^ b.testBit i)) := by
  simp [clr, Nat.testBit_and, Nat.testBit_xor, testBit_63]
theorem testBit_pow (k i : Nat) : (2 ^ k).testBit i = decide (k = i) := Nat.testBit_two_pow
theorem lt_of_bits {a : Nat} (h : ∀ i, 6 ≤ i → a.testBit i = false) : a < 64 := by
  have : a < 2 ^ 6 := Nat.lt_pow_two_of_testBit a h
  simpa using this
theorem bits_of_lt {a : Nat} (h : a < 64) : ∀ i, 6 ≤ i → a.testBit i = false := fun i hi =>
  Nat.testBit_lt_two_pow (Nat.lt_of_lt_of_le h (by
    have : (64 : Nat) = 2 ^ 6 := rfl
    rw [this]; exact Nat.pow_le_pow_right (by decide) hi))
theorem or_pow_lt {a k : Nat} (h : a < 64) (hk : k < 6) : a ||| 2 ^ k < 64 := lt_of_bits fun i hi => by
  rw [Nat.testBit_or, bits_of_lt h i hi, testBit_pow]; simp; omega
theorem clr_lt {a b : Nat} (h : a < 64) : clr a b < 64 := lt_of_bits fun i hi => by rw [testBit_clr, bits_of_lt h i hi]; rfl
theorem ones_succ (k i : Nat) : (2 ^ (k + 1) - 1 : Nat).testBit i = ((2 ^ k - 1 : Nat).testBit i || (2 ^ k).testBit i) := by
  rw [Nat.testBit_two_pow_sub_one, Nat.testBit_two_pow_sub_one, testBit_pow]
  by_cases h : i < k
  · simp [h]; omega
  · by_cases e : k = i
    · simp [e]
    · have : ¬ i < k + 1 := by omega
      simp [h, e, this]
end Go.Proofs.YtklmhegmombegaaDoor.Re.Plain
namespace Go.Proofs.YtklmhegmombegaaDoor.Re.Plain

/-- How many records there may be. -/
def most (l : List (Int × Int)) (lim : Nat) : Nat := 4 * (lim * l.length) + 1
def w1 (s : Sg) : Nat := if s.wait = true then 1 else 0

/-- What holds behind n records. -/
structure Inv (l : List (Int × Int)) (lim n : Nat) (s : Sg) : Prop where
  steps : s.steps = l
  ph : s.phase ≤ 4
  pos : s.pos ≤ l.length
  tries : s.tries ≤ lim
  done : s.done = 2 ^ s.pos - 1
  may : ∀ i, s.may.testBit i = true → i = s.pos ∧ s.pos < l.length
  undone : ∀ i, s.undone.testBit i = true → i < l.length ∧ kindAt l i = 1
  seq : s.seq = n + 1
  fwd : s.phase = 0 → s.undone = 0 ∧ s.back = false ∧ (s.wait = true → s.pos < l.length) ∧ n + 2 * (lim * (l.length - s.pos)) + 2 * (lim * l.length) + 1 + w1 s ≤ most l lim + 2 * s.tries
  bwd : s.phase = 1 → s.pos < l.length ∧ kindAt l s.pos ≠ 3 ∧ s.back = s.wait ∧ (s.wait = true → 0 ≤ target s) ∧ (target s < 0 → s.tries = 0) ∧ n + 2 * (lim * cnt (opn s) l.length) + 1 + w1 s ≤ most l lim + 2 * s.tries
  fin : 2 ≤ s.phase → s.wait = false ∧ s.back = false ∧ n ≤ most l lim
  wt : s.wait = true → 1 ≤ s.tries
  com : s.phase = 2 → s.pos = l.length ∧ s.undone = 0
  cmp : s.phase = 3 → s.pos < l.length ∧ kindAt l s.pos ≠ 3 ∧ ∀ i, i < l.length → opn s i = false
  stk : s.phase = 4 → s.undone = 0 ∨ (s.pos < l.length ∧ kindAt l s.pos ≠ 3)

theorem Inv.new {l : List (Int × Int)} {lim : Nat} (_h : mayB l = true) : Inv l lim 0 (new l) where
  steps := rfl
  ph := by simp [Plain.new]
  pos := Nat.zero_le _
  tries := Nat.zero_le _
  done := rfl
  may := by simp [Plain.new]
  undone := by simp [Plain.new]
  seq := rfl
  fwd := fun _ => ⟨rfl, rfl, by simp [Plain.new], by simp only [w1, Plain.new, most, Nat.sub_zero]; simp; omega⟩
  bwd := by simp [Plain.new]
  fin := by simp [Plain.new]
  wt := by simp [Plain.new]
  com := by simp [Plain.new]
  cmp := by simp [Plain.new]
  stk := by simp [Plain.new]

section
variable {l : List (Int × Int)} {lim n : Nat} {s : Sg}

theorem Inv.phase (h : Inv l lim n s) (ho : over s = false) : s.phase = 0 ∨ s.phase = 1 := by
  have := h.ph
  simp [over] at ho
  omega
theorem stepOf_fwd (h : Inv l lim n s) (h0 : s.phase = 0) : stepOf s = if s.pos < l.length then (s.pos : Int) else -1 := by
  rw [stepOf, if_neg (by omega), h.steps]
theorem stepOf_bwd (h0 : s.phase = 1) : stepOf s = target s := by rw [stepOf, if_pos h0]
theorem target_lt (h : Inv l lim n s) : target s < l.length := by
  have := (lastOf_lt (opn s) s.steps.length).2
  unfold target
  rw [h.steps] at this ⊢
  exact this
/-- A call that is out is of a step that there is. -/
theorem Inv.step_wait (h : Inv l lim n s) (ho : over s = false) (hw : s.wait = true) : 0 ≤ stepOf s ∧ stepOf s < l.length := by
  rcases h.phase ho with h0 | h1
  · have := (h.fwd h0).2.2.1 hw
    rw [stepOf_fwd h h0, if_pos this]
    omega
  · rw [stepOf_bwd h1]
    exact ⟨(h.bwd h1).2.2.2.1 hw, target_lt h⟩
/-- .. and which. -/
theorem Inv.step_of (h : Inv l lim n s) (ho : over s = false) (hw : s.wait = true) : (if s.back = true then target s else (s.pos : Int)) = stepOf s := by
  rcases h.phase ho with h0 | h1
  · have := (h.fwd h0)
    rw [this.2.1, stepOf_fwd h h0, if_pos (this.2.2.1 hw)]; rfl
  · have := (h.bwd h1)
    rw [this.2.2.1, hw, stepOf_bwd h1]; rfl
theorem Inv.due_none (h : Inv l lim n s) (hl : mayB l = true) (ho : over s = false) (hd : due s lim = none) : s.wait = true := by
  unfold due at hd
  split at hd
  · rename_i h1
    rcases h1 with h1 | h1 | h1
    · exact h1
    · rw [ho] at h1; cases h1
    · rw [h.steps] at h1; exact absurd h1 (ne_nil hl)
  · split at hd
    · split at hd <;> cases hd
    · split at hd <;> cases hd

theorem target_bit (h : Inv l lim n s) (h0 : 0 ≤ target s) : (target s).toNat < l.length ∧ kindAt l (target s).toNat = 1 ∧ s.undone.testBit (target s).toNat = false ∧ opn s (target s).toNat = true := by
  have h1 : opn s (target s).toNat = true := lastOf_some h0
  have h2 := target_lt h
  have h3 := h1
  simp only [opn, Bool.and_eq_true, beq_iff_eq, Bool.not_eq_true'] at h1
  refine ⟨by omega, ?_, h1.2, h3⟩
  rw [← h.steps]; exact h1.1.1

/-- What is due is one of five. -/
theorem due_cases {d : Du} (hd : due s lim = some d) :
    s.wait = false ∧ over s = false ∧ s.steps ≠ [] ∧
    ((stepOf s < 0 ∧ s.phase = 0 ∧ d = ⟨5, 0, 0, false, 2⟩) ∨ (stepOf s < 0 ∧ s.phase ≠ 0 ∧ d = ⟨5, 0, 0, false, 3⟩) ∨
     (0 ≤ stepOf s ∧ s.tries < lim ∧ d = ⟨2, stepOf s, s.tries + 1, decide (s.phase = 1), 0⟩) ∨ (0 ≤ stepOf s ∧ lim ≤ s.tries ∧ d = ⟨5, 0, 0, false, 4⟩)) := by
  unfold due at hd
  split at hd
  · cases hd
  · rename_i h1
    simp only [not_or, Bool.not_eq_true] at h1
    refine ⟨h1.1, h1.2.1, h1.2.2, ?_⟩
    split at hd
    · split at hd
      · exact .inl ⟨by assumption, by assumption, (Option.some.inj hd).symm⟩
      · exact .inr (.inl ⟨by assumption, by assumption, (Option.some.inj hd).symm⟩)
    · split at hd
      · exact .inr (.inr (.inl ⟨by omega, by assumption, (Option.some.inj hd).symm⟩))
      · exact .inr (.inr (.inr ⟨by omega, by omega, (Option.some.inj hd).symm⟩))

theorem mul_pos_sub {lim a b : Nat} (h : b < a) : lim * (a - b) = lim * (a - (b + 1)) + lim := by
  have : a - b = (a - (b + 1)) + 1 := by omega
  rw [this, Nat.mul_succ]

theorem Inv.sent (h : Inv l lim n s) (hw : s.wait = false) (ho : over s = false) (hk : 0 ≤ stepOf s) (ht : s.tries < lim) :
    Inv l lim (n + 1) (sent s ⟨2, stepOf s, s.tries + 1, decide (s.phase = 1), 0⟩) where
  steps := h.steps
  ph := h.ph
  pos := h.pos
  tries := by simp [Plain.sent]; omega
  done := h.done
  may := h.may
  undone := h.undone
  seq := by simp [Plain.sent, h.seq]
  fwd := fun h0 => by
    have h0 : s.phase = 0 := h0
    obtain ⟨f1, f2, f3, f4⟩ := h.fwd h0
    refine ⟨f1, by simp [Plain.sent, h0], fun _ => ?_, ?_⟩
    · rw [stepOf_fwd h h0] at hk
      split at hk
      · assumption
      · omega
    · simp only [w1, hw, Plain.sent] at f4 ⊢
      have e : ((s.tries : Int) + 1).toNat = s.tries + 1 := by omega
      rw [e]
      simp at f4 ⊢
      omega
  bwd := fun h1 => by
    have h1 : s.phase = 1 := h1
    obtain ⟨f1, f2, f3, f4, f5, f6⟩ := h.bwd h1
    rw [stepOf_bwd h1] at hk
    refine ⟨f1, f2, by simp [Plain.sent, h1], fun _ => hk, fun h => absurd hk (by show ¬ 0 ≤ target s; have : target s < 0 := h; omega), ?_⟩
    have e : cnt (opn (Plain.sent s ⟨2, stepOf s, s.tries + 1, decide (s.phase = 1), 0⟩)) l.length = cnt (opn s) l.length := rfl
    rw [e]
    simp only [w1, hw, Plain.sent] at f6 ⊢
    have e : ((s.tries : Int) + 1).toNat = s.tries + 1 := by omega
    rw [e]
    simp at f6 ⊢
    omega
  fin := fun h2 => by
    have h2 : 2 ≤ s.phase := h2
    rcases h.phase ho with h0 | h1 <;> omega
  wt := fun _ => by simp [Plain.sent]
  com := fun h2 => by
    have h2 : s.phase = 2 := h2
    rcases h.phase ho with h0 | h1 <;> omega
  cmp := fun h2 => by
    have h2 : s.phase = 3 := h2
    rcases h.phase ho with h0 | h1 <;> omega
  stk := fun h2 => by
    have h2 : s.phase = 4 := h2
    rcases h.phase ho with h0 | h1 <;> omega

/-- .. and how it ends. -/
theorem Inv.ended (h : Inv l lim n s) (hl : mayB l = true) {d : Du} (hd : due s lim = some d) (hk : d.kind ≠ 2) : Inv l lim (n + 1) (ended s d) := by
  obtain ⟨hw, ho, _, hc⟩ := due_cases hd
  have hlen := mayB_len hl
  have hle : lim ≤ lim * l.length := Nat.le_mul_of_pos_right _ (by omega)
  have hb : s.back = false := by
    rcases h.phase ho with h0 | h1
    · exact (h.fwd h0).2.1
    · rw [(h.bwd h1).2.2.1, hw]
  have base : ∀ e : Nat, 2 ≤ e → e ≤ 4 → n + 1 ≤ most l lim → (e = 2 → s.pos = l.length ∧ s.undone = 0) → (e = 3 → s.pos < l.length ∧ kindAt l s.pos ≠ 3 ∧ ∀ i, i < l.length → opn s i = false) →
      (e = 4 → s.undone = 0 ∨ (s.pos < l.length ∧ kindAt l s.pos ≠ 3)) → Inv l lim (n + 1) { s with phase := e, seq := s.seq + 1 } := fun e e1 e2 hn c1 c2 c3 =>
    { steps := h.steps, ph := e2, pos := h.pos, tries := h.tries, done := h.done, may := h.may, undone := h.undone, seq := by simp [h.seq],
      fwd := fun h0 => by have : e = 0 := h0; omega
      bwd := fun h0 => by have : e = 1 := h0; omega
      fin := fun _ => ⟨hw, hb, hn⟩
      wt := fun hw' => by have : s.wait = true := hw'; rw [hw] at this; cases this
      com := c1, cmp := c2, stk := c3 }
  rcases hc with ⟨h1, h2, rfl⟩ | ⟨h1, h2, rfl⟩ | ⟨h1, h2, rfl⟩ | ⟨h1, h2, rfl⟩
  · obtain ⟨f1, f2, f3, f4⟩ := h.fwd h2
    rw [stepOf_fwd h h2] at h1
    have hp := h.pos
    have htr := h.tries
    have hpos : s.pos = l.length := by
      split at h1
      · omega
      · omega
    have e0 : l.length - s.pos = 0 := by omega
    rw [e0] at f4
    refine base 2 (by omega) (by omega) ?_ (fun _ => ⟨hpos, f1⟩) (fun h => by cases h) (fun h => by cases h)
    simp only [Nat.mul_zero] at f4
    omega
  · have hp1 : s.phase = 1 := (h.phase ho).resolve_left h2
    obtain ⟨f1, f2, f3, f4, f5, f6⟩ := h.bwd hp1
    rw [stepOf_bwd hp1] at h1
    have ht0 := f5 h1
    have hno : ∀ i, i < l.length → opn s i = false := by
      have := lastOf_none h1
      rwa [h.steps] at this
    refine base 3 (by omega) (by omega) ?_ (fun h => by cases h) (fun _ => ⟨f1, f2, hno⟩) (fun h => by cases h)
    rw [ht0] at f6
    omega
  · exact absurd rfl hk
  · rcases h.phase ho with hp0 | hp1
    · obtain ⟨f1, f2, f3, f4⟩ := h.fwd hp0
      rw [stepOf_fwd h hp0] at h1
      have htr := h.tries
      split at h1
      · rename_i hlt
        have e := mul_pos_sub (lim := lim) hlt
        refine base 4 (by omega) (by omega) ?_ (fun h => by cases h) (fun h => by cases h) (fun _ => .inl f1)
        omega
      · omega
    · obtain ⟨f1, f2, f3, f4, f5, f6⟩ := h.bwd hp1
      rw [stepOf_bwd hp1] at h1
      obtain ⟨t1, _, _, t4⟩ := target_bit h h1
      have htr := h.tries
      have hc : 1 ≤ cnt (opn s) l.length := cnt_pos t1 t4
      have hm : lim ≤ lim * cnt (opn s) l.length := Nat.le_mul_of_pos_right _ hc
      refine base 4 (by omega) (by omega) ?_ (fun h => by cases h) (fun h => by cases h) (fun _ => .inr ⟨f1, f2⟩)
      omega

theorem done_succ (k : Nat) : (2 ^ k - 1 ||| 2 ^ k : Nat) = 2 ^ (k + 1) - 1 := by
  apply Nat.eq_of_testBit_eq
  intro i
  rw [ones_succ, Nat.testBit_or]

theorem Inv.answered (h : Inv l lim n s) (hl : mayB l = true) (ho : over s = false) (hw : s.wait = true) (g : Bool) : Inv l lim (n + 1) (answered (more s) g) := by
  have hlen := mayB_len hl
  have htr := h.tries
  have hst := h.step_wait ho hw
  have hbit : bitOf (more s) = 2 ^ (stepOf s).toNat := rfl
  rcases h.phase ho with h0 | h1
  · obtain ⟨f1, f2, f3, f4⟩ := h.fwd h0
    have hlt := f3 hw
    have hs : stepOf s = s.pos := by rw [stepOf_fwd h h0, if_pos hlt]
    have hbit : bitOf (more s) = 2 ^ s.pos := by rw [hbit, hs]; rfl
    have e := mul_pos_sub (lim := lim) hlt
    have hle : lim ≤ lim * l.length := Nat.le_mul_of_pos_right _ (by omega)
    have hw1 : w1 s = 1 := by simp [w1, hw]
    have hb : (more s).back = false := f2
    have hk : kindAt (more s).steps (stepOf (more s)).toNat = kindAt l s.pos := by
      show kindAt s.steps (stepOf s).toNat = _
      rw [hs, h.steps]; rfl
    have hmay : ∀ i, (clr s.may (2 ^ s.pos)).testBit i = false := fun i => by
      rw [testBit_clr, testBit_pow]
      by_cases hm : s.may.testBit i = true
      · have := h.may i hm
        have h6 : i < 6 := by omega
        simp [this.1]
        intro _; omega
      · simp at hm; simp [hm]
    unfold Plain.answered
    rw [if_neg (by rw [hb]; decide)]
    cases g with
    | true =>
      rw [if_pos rfl]
      refine { steps := h.steps, ph := h.ph, pos := hlt, tries := Nat.zero_le _, done := ?_, may := ?_, undone := h.undone, seq := by simp [more, h.seq], fwd := fun _ => ⟨f1, rfl, (fun h => by cases h), ?_⟩, bwd := fun h1 => ?_, fin := fun h1 => ?_, wt := (fun h => by cases h), com := fun h1 => ?_, cmp := fun h1 => ?_, stk := fun h1 => ?_ }
      · show s.done ||| bitOf (more s) = _
        rw [hbit, h.done]; exact done_succ _
      · intro i hi
        have hi : (clr s.may (bitOf (more s))).testBit i = true := hi
        rw [hbit, hmay] at hi; cases hi
      · show n + 1 + 2 * (lim * (l.length - (s.pos + 1))) + 2 * (lim * l.length) + 1 + 0 ≤ most l lim + 2 * 0
        omega
      · have : s.phase = 1 := h1; omega
      · have : 2 ≤ s.phase := h1; omega
      · have : s.phase = 2 := h1; omega
      · have : s.phase = 3 := h1; omega
      · have : s.phase = 4 := h1; omega
    | false =>
      rw [if_neg (by decide), hk]
      by_cases h3 : kindAt l s.pos = 3
      · rw [if_pos h3]
        refine { steps := h.steps, ph := h.ph, pos := h.pos, tries := h.tries, done := h.done, may := h.may, undone := h.undone, seq := by simp [more, h.seq], fwd := fun _ => ⟨f1, rfl, (fun h => by cases h), ?_⟩, bwd := fun h1 => ?_, fin := fun h1 => ?_, wt := (fun h => by cases h), com := fun h1 => ?_, cmp := fun h1 => ?_, stk := fun h1 => ?_ }
        · show n + 1 + 2 * (lim * (l.length - s.pos)) + 2 * (lim * l.length) + 1 + 0 ≤ most l lim + 2 * s.tries
          omega
        · have : s.phase = 1 := h1; omega
        · have : 2 ≤ s.phase := h1; omega
        · have : s.phase = 2 := h1; omega
        · have : s.phase = 3 := h1; omega
        · have : s.phase = 4 := h1; omega
      · rw [if_neg h3]
        have hcn : cnt (opn { (more s) with may := clr (more s).may (bitOf (more s)), phase := 1, tries := 0, wait := false, back := false }) l.length ≤ l.length := cnt_le _ _
        have hcm := Nat.mul_le_mul_left lim hcn
        refine { steps := h.steps, ph := show 1 ≤ 4 by decide, pos := h.pos, tries := Nat.zero_le _, done := h.done, may := ?_, undone := h.undone, seq := by simp [more, h.seq], fwd := (fun h => by cases h), bwd := fun _ => ⟨hlt, h3, rfl, (fun h => by cases h), fun _ => rfl, ?_⟩, fin := fun h1 => ?_, wt := (fun h => by cases h), com := (fun h => by cases h), cmp := (fun h => by cases h), stk := (fun h => by cases h) }
        · intro i hi
          have hi : (clr s.may (bitOf (more s))).testBit i = true := hi
          rw [hbit, hmay] at hi; cases hi
        · show n + 1 + 2 * (lim * cnt (opn { (more s) with may := clr (more s).may (bitOf (more s)), phase := 1, tries := 0, wait := false, back := false }) l.length) + 1 + 0 ≤ most l lim + 2 * 0
          omega
        · have : 2 ≤ 1 := h1; omega
  · obtain ⟨f1, f2, f3, f4, f5, f6⟩ := h.bwd h1
    have ht := f4 hw
    have hs : stepOf s = target s := stepOf_bwd h1
    have hw1 : w1 s = 1 := by simp [w1, hw]
    have hb : (more s).back = true := by show s.back = true; rw [f3, hw]
    obtain ⟨t1, t2, t3, t4⟩ := target_bit h ht
    unfold Plain.answered
    rw [if_pos hb]
    cases g with
    | true =>
      rw [if_pos rfl]
      have hbit : bitOf (more s) = 2 ^ (target s).toNat := by rw [hbit, hs]
      have hop : ∀ i, opn { (more s) with undone := (more s).undone ||| bitOf (more s), tries := 0, wait := false, back := false } i = (opn s i && !decide ((target s).toNat = i)) := fun i => by
        show ((kindAt s.steps i == 1) && (s.done.testBit i || s.may.testBit i) && !((s.undone ||| bitOf (more s)).testBit i)) = _
        rw [hbit, Nat.testBit_or, testBit_pow]
        unfold opn
        cases (kindAt s.steps i == 1) && (s.done.testBit i || s.may.testBit i) <;> simp
      have hcn : cnt (opn { (more s) with undone := (more s).undone ||| bitOf (more s), tries := 0, wait := false, back := false }) l.length + 1 = cnt (opn s) l.length :=
        cnt_drop t1 t4 (by rw [hop]; simp) (fun i hi => by rw [hop]; simp; intro _; omega)
      have hcm : lim * cnt (opn s) l.length = lim * cnt (opn { (more s) with undone := (more s).undone ||| bitOf (more s), tries := 0, wait := false, back := false }) l.length + lim := by rw [← hcn, Nat.mul_succ]
      refine { steps := h.steps, ph := h.ph, pos := h.pos, tries := Nat.zero_le _, done := h.done, may := h.may, undone := ?_, seq := by simp [more, h.seq], fwd := fun h0 => ?_, bwd := fun _ => ⟨f1, f2, rfl, (fun h => by cases h), fun _ => rfl, ?_⟩, fin := fun h2 => ?_, wt := (fun h => by cases h), com := fun h2 => ?_, cmp := fun h2 => ?_, stk := fun h2 => ?_ }
      · intro i hi
        have hi : (s.undone ||| bitOf (more s)).testBit i = true := hi
        rw [hbit, Nat.testBit_or, testBit_pow] at hi
        simp at hi
        rcases hi with hi | hi
        · exact h.undone i hi
        · subst hi; exact ⟨t1, t2⟩
      · have : s.phase = 0 := h0; omega
      · show n + 1 + 2 * (lim * cnt (opn { (more s) with undone := (more s).undone ||| bitOf (more s), tries := 0, wait := false, back := false }) l.length) + 1 + 0 ≤ most l lim + 2 * 0
        omega
      · have : 2 ≤ s.phase := h2; omega
      · have : s.phase = 2 := h2; omega
      · have : s.phase = 3 := h2; omega
      · have : s.phase = 4 := h2; omega
    | false =>
      rw [if_neg (by decide)]
      refine { steps := h.steps, ph := h.ph, pos := h.pos, tries := h.tries, done := h.done, may := h.may, undone := h.undone, seq := by simp [more, h.seq], fwd := fun h0 => ?_, bwd := fun _ => ⟨f1, f2, rfl, (fun h => by cases h), f5, ?_⟩, fin := fun h2 => ?_, wt := (fun h => by cases h), com := fun h2 => ?_, cmp := fun h2 => ?_, stk := fun h2 => ?_ }
      · have : s.phase = 0 := h0; omega
      · show n + 1 + 2 * (lim * cnt (opn s) l.length) + 1 + 0 ≤ most l lim + 2 * s.tries
        omega
      · have : 2 ≤ s.phase := h2; omega
      · have : s.phase = 2 := h2; omega
      · have : s.phase = 3 := h2; omega
      · have : s.phase = 4 := h2; omega

theorem Inv.lapsed (h : Inv l lim n s) (hl : mayB l = true) (ho : over s = false) (hw : s.wait = true) : Inv l lim (n + 1) (lapsed (more s) lim) := by
  have hlen := mayB_len hl
  have htr := h.tries
  have hw1 : w1 s = 1 := by simp [w1, hw]
  rcases h.phase ho with h0 | h1
  · obtain ⟨f1, f2, f3, f4⟩ := h.fwd h0
    have hlt := f3 hw
    have hs : stepOf s = s.pos := by rw [stepOf_fwd h h0, if_pos hlt]
    have hbit : bitOf (more s) = 2 ^ s.pos := by
      have : bitOf (more s) = 2 ^ (stepOf s).toNat := rfl
      rw [this, hs]; rfl
    have e := mul_pos_sub (lim := lim) hlt
    have hb : (more s).back = false := f2
    have hk : kindAt (more s).steps (stepOf (more s)).toNat = kindAt l s.pos := by
      show kindAt s.steps (stepOf s).toNat = _
      rw [hs, h.steps]; rfl
    have hmay : ∀ i, (s.may ||| bitOf (more s)).testBit i = true → i = s.pos ∧ s.pos < l.length := fun i hi => by
      rw [hbit, Nat.testBit_or, testBit_pow] at hi
      simp at hi
      rcases hi with hi | hi
      · exact h.may i hi
      · exact ⟨hi.symm, hlt⟩
    unfold Plain.lapsed
    rw [if_neg (by rw [hb]; decide), hk]
    by_cases h3 : kindAt l s.pos = 1 ∧ (more s).tries = lim
    · rw [if_pos h3]
      have hcn : cnt (opn { (more s) with may := (more s).may ||| bitOf (more s), phase := 1, tries := 0, wait := false, back := false }) l.length ≤ l.length := cnt_le _ _
      have hcm := Nat.mul_le_mul_left lim hcn
      refine { steps := h.steps, ph := show 1 ≤ 4 by decide, pos := h.pos, tries := Nat.zero_le _, done := h.done, may := hmay, undone := h.undone, seq := by simp [more, h.seq], fwd := (fun h => by cases h), bwd := fun _ => ⟨hlt, (show kindAt l s.pos ≠ 3 by rw [h3.1]; decide), rfl, (fun h => by cases h), fun _ => rfl, ?_⟩, fin := fun h1 => ?_, wt := (fun h => by cases h), com := (fun h => by cases h), cmp := (fun h => by cases h), stk := (fun h => by cases h) }
      · show n + 1 + 2 * (lim * cnt (opn { (more s) with may := (more s).may ||| bitOf (more s), phase := 1, tries := 0, wait := false, back := false }) l.length) + 1 + 0 ≤ most l lim + 2 * 0
        omega
      · have : 2 ≤ 1 := h1; omega
    · rw [if_neg h3]
      refine { steps := h.steps, ph := h.ph, pos := h.pos, tries := h.tries, done := h.done, may := hmay, undone := h.undone, seq := by simp [more, h.seq], fwd := fun _ => ⟨f1, rfl, (fun h => by cases h), ?_⟩, bwd := fun h1 => ?_, fin := fun h1 => ?_, wt := (fun h => by cases h), com := fun h1 => ?_, cmp := fun h1 => ?_, stk := fun h1 => ?_ }
      · show n + 1 + 2 * (lim * (l.length - s.pos)) + 2 * (lim * l.length) + 1 + 0 ≤ most l lim + 2 * s.tries
        omega
      · have : s.phase = 1 := h1; omega
      · have : 2 ≤ s.phase := h1; omega
      · have : s.phase = 2 := h1; omega
      · have : s.phase = 3 := h1; omega
      · have : s.phase = 4 := h1; omega
  · obtain ⟨f1, f2, f3, f4, f5, f6⟩ := h.bwd h1
    have hb : (more s).back = true := by show s.back = true; rw [f3, hw]
    unfold Plain.lapsed
    rw [if_pos hb]
    refine { steps := h.steps, ph := h.ph, pos := h.pos, tries := h.tries, done := h.done, may := h.may, undone := h.undone, seq := by simp [more, h.seq], fwd := fun h0 => ?_, bwd := fun _ => ⟨f1, f2, rfl, (fun h => by cases h), f5, ?_⟩, fin := fun h2 => ?_, wt := (fun h => by cases h), com := fun h2 => ?_, cmp := fun h2 => ?_, stk := fun h2 => ?_ }
    · have : s.phase = 0 := h0; omega
    · show n + 1 + 2 * (lim * cnt (opn s) l.length) + 1 + 0 ≤ most l lim + 2 * s.tries
      omega
    · have : 2 ≤ s.phase := h2; omega
    · have : s.phase = 2 := h2; omega
    · have : s.phase = 3 := h2; omega
    · have : s.phase = 4 := h2; omega

/-- .. behind one round more. -/
theorem Inv.next (h : Inv l lim n s) (hl : mayB l = true) (ho : over s = false) (ans : List Nat) (k : Nat) : Inv l lim (n + 1) (next lim ans (s, k)).1 := by
  unfold Plain.next
  cases hd : due s lim with
  | some d =>
    dsimp only
    by_cases hk : d.kind = 2
    · rw [if_pos hk]
      obtain ⟨hw, _, _, hc⟩ := due_cases hd
      rcases hc with ⟨_, _, rfl⟩ | ⟨_, _, rfl⟩ | ⟨h1, h2, rfl⟩ | ⟨_, _, rfl⟩
      · exact absurd hk (by decide)
      · exact absurd hk (by decide)
      · exact h.sent hw ho h1 h2
      · exact absurd hk (by decide)
    · rw [if_neg hk]
      exact h.ended hl hd hk
  | none =>
    dsimp only
    have hw := h.due_none hl ho hd
    split
    · exact h.lapsed hl ho hw
    · exact h.answered hl ho hw _
end

theorem inv_iter {l : List (Int × Int)} {lim : Nat} (hl : mayB l = true) (ans : List Nat) : ∀ n, (∀ m, m < n → over (iter l lim ans m).1 = false) → Inv l lim n (iter l lim ans n).1 := by
  intro n
  induction n with
  | zero => intro _; exact Inv.new hl
  | succ n ih => intro h; exact (ih fun m hm => h m (by omega)).next hl (h n (by omega)) ans _
theorem Inv.le {l : List (Int × Int)} {lim n : Nat} {s : Sg} (h : Inv l lim n s) (hl : mayB l = true) : n ≤ most l lim := by
  have hlen := mayB_len hl
  have hle : lim ≤ lim * l.length := Nat.le_mul_of_pos_right _ (by omega)
  have := h.tries
  by_cases h0 : s.phase = 0
  · have f := (h.fwd h0).2.2.2
    omega
  by_cases h1 : s.phase = 1
  · obtain ⟨f1, f2, f3, f4, f5, f6⟩ := h.bwd h1
    by_cases ht : target s < 0
    · have := f5 ht; omega
    · obtain ⟨t1, _, _, t4⟩ := target_bit h (by omega)
      have hm : lim ≤ lim * cnt (opn s) l.length := Nat.le_mul_of_pos_right _ (cnt_pos t1 t4)
      omega
  · exact (h.fin (by omega)).2.2
theorem most_le {l : List (Int × Int)} {lim : Nat} (hl : mayB l = true) (h : lim ≤ 9) : most l lim ≤ 217 := by
  have := mayB_len hl
  have : lim * l.length ≤ 9 * 6 := Nat.mul_le_mul h this.2
  unfold most; omega

/-! ## How a run ends -/
theorem ends_of {l : List (Int × Int)} {lim : Nat} (hl : mayB l = true) {ans : List Nat} {n : Nat} (ho : over (iter l lim ans n).1 = true) (h : ∀ m, m < n → over (iter l lim ans m).1 = false) :
    Ends l lim ans n (iter l lim ans n).1 ∧ Inv l lim n (iter l lim ans n).1 := ⟨⟨rfl, ho, h⟩, inv_iter hl ans n h⟩

/-- What SagaEnds says. -/
theorem ends_all {l : List (Int × Int)} {lim n : Nat} {s : Sg} (hl : mayB l = true) (h : Inv l lim n s) (ho : over s = true) :
    n ≤ most l lim ∧ s.seq = n + 1 ∧ (s.phase = 4 ∨ missing s = 0) ∧
    ∀ i, i < l.length → (s.phase = 2 → s.done.testBit i = true ∧ s.undone.testBit i = false) ∧ (s.phase = 3 → s.done.testBit i = true → s.undone.testBit i = true) ∧
      (s.undone.testBit i = true → kindAt l i = 1) ∧ (kindAt l i = 2 → s.done.testBit i = true → s.undone = 0) := by
  have hlen := mayB_len hl
  have h2 : 2 ≤ s.phase := by simp [over] at ho; exact ho.1
  have hdone : ∀ i, s.done.testBit i = decide (i < s.pos) := fun i => by rw [h.done, Nat.testBit_two_pow_sub_one]
  have hp : s.phase = 2 ∨ s.phase = 3 ∨ s.phase = 4 := by have := h.ph; omega
  have hcmp : s.phase = 3 → ∀ i, i < l.length → s.done.testBit i = true → s.undone.testBit i = true := fun h3 i hi hd => by
    obtain ⟨c1, c2, c3⟩ := h.cmp h3
    have hi2 : i < s.pos := by rw [hdone] at hd; simpa using hd
    have hk := mayB_sorted hl i s.pos hi2 c1 c2
    have := c3 i hi
    unfold opn at this
    rw [h.steps, hk, hd] at this
    simpa using this
  refine ⟨(h.fin h2).2.2, h.seq, ?_, fun i hi => ⟨fun hc => ?_, fun hc => hcmp hc i hi, fun hu => (h.undone i hu).2, fun hk hd => ?_⟩⟩
  · rcases hp with hp | hp | hp
    · right; simp [missing, hp]
    · right
      rw [missing, if_neg (by omega)]
      apply Nat.eq_of_testBit_eq
      intro i
      rw [testBit_clr, Nat.zero_testBit]
      by_cases hi : i < l.length
      · cases hd : s.done.testBit i with
        | false => rfl
        | true =>
          rw [hcmp hp i hi hd]
          have : i < 6 := by omega
          simp [this]
      · have : s.done.testBit i = false := by
          have := h.pos
          rw [hdone]; simp; omega
        rw [this]; rfl
    · exact .inl hp
  · obtain ⟨c1, c2⟩ := h.com hc
    rw [hdone, c2]
    simp; omega
  · rw [hdone] at hd
    have hd : i < s.pos := by simpa using hd
    rcases hp with hp | hp | hp
    · exact (h.com hp).2
    · obtain ⟨c1, c2, _⟩ := h.cmp hp
      have := mayB_sorted hl i s.pos hd c1 c2
      omega
    · rcases h.stk hp with h0 | ⟨c1, c2⟩
      · exact h0
      · have := mayB_sorted hl i s.pos hd c1 c2
        omega
end Go.Proofs.YtklmhegmombegaaDoor.Re.Plain
namespace Go.Proofs.YtklmhegmombegaaDoor.Re.Plain

/-- A saga of which j steps went well. -/
def fwdS (l : List (Int × Int)) (j : Nat) : Sg := ⟨l, 0, j, 0, false, false, 2 ^ j - 1, 0, 0, 2 * j + 1⟩
def fwdW (l : List (Int × Int)) (j : Nat) : Sg := ⟨l, 0, j, 1, true, false, 2 ^ j - 1, 0, 0, 2 * j + 2⟩
theorem next_fwdS {l : List (Int × Int)} {lim j k : Nat} {ans : List Nat} (hj : j < l.length) (h1 : 1 ≤ lim) : next lim ans (fwdS l j, k) = (fwdW l j, k) := by
  have hst : stepOf (fwdS l j) = j := by simp [stepOf, fwdS, hj]
  have hl : l ≠ [] := by rintro rfl; simp at hj
  have hd : due (fwdS l j) lim = some ⟨2, j, 1, false, 0⟩ := by
    unfold due
    rw [if_neg (by simp [fwdS, over, hl]), hst, if_neg (by omega), if_pos (by show 0 < lim; omega)]
    simp [fwdS]
  unfold next
  simp only [hd]
  rfl
theorem due_fwdW {l : List (Int × Int)} {lim j : Nat} : due (fwdW l j) lim = none := by unfold due; rw [if_pos (.inl rfl)]
theorem next_good {l : List (Int × Int)} {lim j k : Nat} {ans : List Nat} (hj : j < l.length) (ha : (ans[k]?).getD 0 % 3 = 0) : next lim ans (fwdW l j, k) = (fwdS l (j + 1), k + 1) := by
  have hst : stepOf (more (fwdW l j)) = j := by simp [stepOf, fwdW, more, hj]
  have hbit : bitOf (more (fwdW l j)) = 2 ^ j := by rw [bitOf, hst]; rfl
  unfold next
  simp only [due_fwdW, ha]
  rw [if_neg (by decide)]
  have hb : (more (fwdW l j)).back = false := rfl
  unfold answered
  rw [if_neg (by rw [hb]; decide), if_pos (by decide), hbit]
  have e1 : (2 ^ j - 1 ||| 2 ^ j : Nat) = 2 ^ (j + 1) - 1 := done_succ j
  simp only [fwdW, fwdS, more, e1, clr, Nat.zero_and]
  simp only [Prod.mk.injEq, Sg.mk.injEq, true_and, and_true]
  omega
/-- .. goes back. -/
def bwU (k : Nat) : Nat → Nat
  | 0 => 0
  | j + 1 => bwU k j ||| 2 ^ (k - 1 - j)
def bwS (l : List (Int × Int)) (k j : Nat) : Sg := ⟨l, 1, k, 0, false, false, 2 ^ k - 1, bwU k j, 0, 2 * k + 3 + 2 * j⟩
def bwW (l : List (Int × Int)) (k j : Nat) : Sg := ⟨l, 1, k, 1, true, true, 2 ^ k - 1, bwU k j, 0, 2 * k + 4 + 2 * j⟩
theorem next_bad {l : List (Int × Int)} {lim j k : Nat} {ans : List Nat} (hj : j < l.length) (hk : kindAt l j ≠ 3) (ha : (ans[k]?).getD 0 % 3 = 1) : next lim ans (fwdW l j, k) = (bwS l j 0, k + 1) := by
  have hst : stepOf (more (fwdW l j)) = j := by simp [stepOf, fwdW, more, hj]
  have hbit : bitOf (more (fwdW l j)) = 2 ^ j := by rw [bitOf, hst]; rfl
  unfold next
  simp only [due_fwdW, ha]
  rw [if_neg (by decide)]
  have hb : (more (fwdW l j)).back = false := rfl
  unfold answered
  rw [if_neg (by rw [hb]; decide), if_neg (by decide), hst, if_neg (by exact hk), hbit]
  simp only [fwdW, bwS, more, clr, Nat.zero_and, bwU]
theorem bwU_bit (k j : Nat) (h : j ≤ k) (i : Nat) : (bwU k j).testBit i = decide (k - j ≤ i ∧ i < k) := by
  induction j with
  | zero => simp [bwU]
  | succ j ih =>
    rw [bwU, Nat.testBit_or, ih (by omega), testBit_pow]
    rw [Bool.eq_iff_iff]
    simp
    omega
theorem opn_bw {l : List (Int × Int)} {k j : Nat} (hl : mayB l = true) (hk : k < l.length) (hk3 : kindAt l k ≠ 3) (hj : j ≤ k) (i : Nat) (s : Sg) (hs : s.steps = l ∧ s.done = 2 ^ k - 1 ∧ s.may = 0 ∧ s.undone = bwU k j) :
    opn s i = decide (i < k - j) := by
  obtain ⟨h1, h2, h3, h4⟩ := hs
  unfold opn
  rw [h1, h2, h3, h4, Nat.testBit_two_pow_sub_one, Nat.zero_testBit, bwU_bit k j hj, Bool.eq_iff_iff]
  by_cases hi : i < k
  · have := mayB_sorted hl i k hi hk hk3
    simp [this]; omega
  · simp; omega
theorem target_bw {l : List (Int × Int)} {k j : Nat} (hl : mayB l = true) (hk : k < l.length) (hk3 : kindAt l k ≠ 3) (hj : j < k) (s : Sg) (hs : s.steps = l ∧ s.done = 2 ^ k - 1 ∧ s.may = 0 ∧ s.undone = bwU k j) : target s = ((k - 1 - j : Nat) : Int) := by
  unfold target
  rw [hs.1]
  refine lastOf_eq (by omega) ?_ fun i h1 h2 => ?_
  · rw [opn_bw hl hk hk3 (by omega) _ s hs]; simp; omega
  · rw [opn_bw hl hk hk3 (by omega) _ s hs]; simp; omega
theorem next_bwS {l : List (Int × Int)} {lim k j n : Nat} {ans : List Nat} (hl : mayB l = true) (hk : k < l.length) (hk3 : kindAt l k ≠ 3) (hj : j < k) (h1 : 1 ≤ lim) : next lim ans (bwS l k j, n) = (bwW l k j, n) := by
  have ht := target_bw hl hk hk3 hj (bwS l k j) ⟨rfl, rfl, rfl, rfl⟩
  have hst : stepOf (bwS l k j) = ((k - 1 - j : Nat) : Int) := (stepOf_bwd rfl).trans ht
  have hd : due (bwS l k j) lim = some ⟨2, ((k - 1 - j : Nat) : Int), 1, true, 0⟩ := by
    unfold due
    rw [if_neg (by simp [bwS, over, ne_nil hl]), hst, if_neg (by omega), if_pos (by show 0 < lim; omega)]
    simp [bwS]
  unfold next
  simp only [hd]
  rw [if_pos trivial]
  simp only [sent, bwS, bwW]
  simp only [Prod.mk.injEq, Sg.mk.injEq, true_and, and_true]
  omega
theorem next_bwW {l : List (Int × Int)} {lim k j n : Nat} {ans : List Nat} (hl : mayB l = true) (hk : k < l.length) (hk3 : kindAt l k ≠ 3) (hj : j < k) (ha : (ans[n]?).getD 0 % 3 = 0) : next lim ans (bwW l k j, n) = (bwS l k (j + 1), n + 1) := by
  have ht := target_bw hl hk hk3 hj (more (bwW l k j)) ⟨rfl, rfl, rfl, rfl⟩
  have hst : stepOf (more (bwW l k j)) = ((k - 1 - j : Nat) : Int) := (stepOf_bwd rfl).trans ht
  have hbit : bitOf (more (bwW l k j)) = 2 ^ (k - 1 - j) := by rw [bitOf, hst]; rfl
  have hd : due (bwW l k j) lim = none := by unfold due; rw [if_pos (.inl rfl)]
  unfold next
  simp only [hd, ha]
  rw [if_neg (by decide)]
  have hb : (more (bwW l k j)).back = true := rfl
  unfold answered
  rw [if_pos hb, if_pos (by decide), hbit]
  simp only [bwW, bwS, more, bwU]
  simp only [Prod.mk.injEq, Sg.mk.injEq, true_and, and_true]
  omega

section
variable {l : List (Int × Int)} {lim : Nat} {ans : List Nat}
theorem iter_fwd (h1 : 1 ≤ lim) (j : Nat) (hj : j ≤ l.length) (ha : ∀ i, i < j → (ans[i]?).getD 0 % 3 = 0) : iter l lim ans (2 * j) = (fwdS l j, j) := by
  induction j with
  | zero => rfl
  | succ j ih =>
    have := ih (by omega) fun i hi => ha i (by omega)
    have e : 2 * (j + 1) = 2 * j + 1 + 1 := by omega
    rw [e, iter, iter, this, next_fwdS (by omega) h1, next_good (by omega) (ha j (by omega))]
theorem iter_fwdW (h1 : 1 ≤ lim) (j : Nat) (hj : j < l.length) (ha : ∀ i, i < j → (ans[i]?).getD 0 % 3 = 0) : iter l lim ans (2 * j + 1) = (fwdW l j, j) := by
  rw [iter, iter_fwd h1 j (by omega) ha, next_fwdS hj h1]
/-- All calls go well. -/
theorem ends_good (hl : mayB l = true) (h1 : 1 ≤ lim) (ha : ∀ i, i < l.length → (ans[i]?).getD 0 % 3 = 0) : Ends l lim ans (2 * l.length + 1) { fwdS l l.length with phase := 2, seq := 2 * l.length + 2 } := by
  have hst : stepOf (fwdS l l.length) = -1 := by simp [stepOf, fwdS]
  have hd : due (fwdS l l.length) lim = some ⟨5, 0, 0, false, 2⟩ := by
    unfold due
    rw [if_neg (by simp [fwdS, over, ne_nil hl]), hst, if_pos (by decide), if_pos (show (fwdS l l.length).phase = 0 from rfl)]
  refine ⟨?_, rfl, fun m hm => ?_⟩
  · rw [iter, iter_fwd h1 _ (Nat.le_refl _) ha]
    unfold next
    simp only [hd]
    rfl
  · rcases Nat.mod_two_eq_zero_or_one m with h0 | h0
    · obtain ⟨j, rfl⟩ : ∃ j, m = 2 * j := ⟨m / 2, by omega⟩
      rw [iter_fwd h1 j (by omega) fun i hi => ha i (by omega)]; rfl
    · obtain ⟨j, rfl⟩ : ∃ j, m = 2 * j + 1 := ⟨m / 2, by omega⟩
      rw [iter_fwdW h1 j (by omega) fun i hi => ha i (by omega)]; rfl

theorem iter_bw (hl : mayB l = true) (h1 : 1 ≤ lim) {k : Nat} (hk : k < l.length) (hk3 : kindAt l k ≠ 3) (ha : ∀ i, i ≠ k → (ans[i]?).getD 0 % 3 = 0) (hak : (ans[k]?).getD 0 % 3 = 1) (j : Nat) (hj : j ≤ k) :
    iter l lim ans (2 * k + 2 + 2 * j) = (bwS l k j, k + 1 + j) := by
  induction j with
  | zero =>
    have e : 2 * k + 2 + 2 * 0 = 2 * k + 1 + 1 := by omega
    rw [e, iter, iter_fwdW h1 k hk fun i hi => ha i (by omega), next_bad hk hk3 hak]
  | succ j ih =>
    have := ih (by omega)
    have e : 2 * k + 2 + 2 * (j + 1) = 2 * k + 2 + 2 * j + 1 + 1 := by omega
    rw [e, iter, iter, this, next_bwS hl hk hk3 (by omega) h1, next_bwW hl hk hk3 (by omega) (ha _ (by omega))]; rfl
theorem iter_bwW (hl : mayB l = true) (h1 : 1 ≤ lim) {k : Nat} (hk : k < l.length) (hk3 : kindAt l k ≠ 3) (ha : ∀ i, i ≠ k → (ans[i]?).getD 0 % 3 = 0) (hak : (ans[k]?).getD 0 % 3 = 1) (j : Nat) (hj : j < k) :
    iter l lim ans (2 * k + 2 + 2 * j + 1) = (bwW l k j, k + 1 + j) := by
  rw [iter, iter_bw hl h1 hk hk3 ha hak j (by omega), next_bwS hl hk hk3 hj h1]
/-- One call does not go well; all compensations do. -/
theorem ends_back (hl : mayB l = true) (h1 : 1 ≤ lim) {k : Nat} (hk : k < l.length) (hk3 : kindAt l k ≠ 3) (ha : ∀ i, i ≠ k → (ans[i]?).getD 0 % 3 = 0) (hak : (ans[k]?).getD 0 % 3 = 1) :
    Ends l lim ans (2 * (k + 1) + 2 * k + 1) { bwS l k k with phase := 3, seq := 4 * k + 4 } := by
  have ht : target (bwS l k k) = -1 := by
    unfold target
    refine lastOf_no fun i hi => ?_
    rw [opn_bw hl hk hk3 (Nat.le_refl _) i (bwS l k k) ⟨rfl, rfl, rfl, rfl⟩]; simp
  have hst : stepOf (bwS l k k) = -1 := (stepOf_bwd rfl).trans ht
  have hd : due (bwS l k k) lim = some ⟨5, 0, 0, false, 3⟩ := by
    unfold due
    rw [if_neg (by simp [bwS, over, ne_nil hl]), hst, if_pos (by decide), if_neg (show ¬ (bwS l k k).phase = 0 from (by decide : ¬ (1 : Nat) = 0))]
  refine ⟨?_, rfl, fun m hm => ?_⟩
  · have e : 2 * (k + 1) + 2 * k + 1 = 2 * k + 2 + 2 * k + 1 := by omega
    rw [e, iter, iter_bw hl h1 hk hk3 ha hak k (Nat.le_refl _)]
    unfold next
    simp only [hd]
    rw [if_neg (by decide)]
    simp only [ended, bwS]
    simp only [Sg.mk.injEq, true_and]
    omega
  · by_cases hmk : m < 2 * k + 2
    · rcases Nat.mod_two_eq_zero_or_one m with h0 | h0
      · obtain ⟨j, rfl⟩ : ∃ j, m = 2 * j := ⟨m / 2, by omega⟩
        rw [iter_fwd h1 j (by omega) fun i hi => ha i (by omega)]; rfl
      · obtain ⟨j, rfl⟩ : ∃ j, m = 2 * j + 1 := ⟨m / 2, by omega⟩
        rw [iter_fwdW h1 j (by omega) fun i hi => ha i (by omega)]; rfl
    · rcases Nat.mod_two_eq_zero_or_one m with h0 | h0
      · obtain ⟨j, rfl⟩ : ∃ j, m = 2 * k + 2 + 2 * j := ⟨(m - (2 * k + 2)) / 2, by omega⟩
        rw [iter_bw hl h1 hk hk3 ha hak j (by omega)]; rfl
      · obtain ⟨j, rfl⟩ : ∃ j, m = 2 * k + 2 + 2 * j + 1 := ⟨(m - (2 * k + 2)) / 2, by omega⟩
        rw [iter_bwW hl h1 hk hk3 ha hak j (by omega)]; rfl

/-! ## No call is answered -/
def tryS (l : List (Int × Int)) (j : Nat) : Sg := ⟨l, 0, 0, j, false, false, 0, 0, if j = 0 then 0 else 1, 2 * j + 1⟩
def tryW (l : List (Int × Int)) (j : Nat) : Sg := ⟨l, 0, 0, j + 1, true, false, 0, 0, if j = 0 then 0 else 1, 2 * j + 2⟩
def undS (l : List (Int × Int)) (lim j : Nat) : Sg := ⟨l, 1, 0, j, false, false, 0, 0, 1, 2 * lim + 2 * j + 1⟩
def undW (l : List (Int × Int)) (lim j : Nat) : Sg := ⟨l, 1, 0, j + 1, true, true, 0, 0, 1, 2 * lim + 2 * j + 2⟩
theorem next_tryS (hl : mayB l = true) {j n : Nat} (hj : j < lim) : next lim ans (tryS l j, n) = (tryW l j, n) := by
  have hlen := mayB_len hl
  have hst : stepOf (tryS l j) = 0 := by simp [stepOf, tryS]; omega
  have hd : due (tryS l j) lim = some ⟨2, 0, j + 1, false, 0⟩ := by
    unfold due
    rw [if_neg (by simp [tryS, over, ne_nil hl]), hst, if_neg (by omega), if_pos (by exact hj)]
    simp [tryS]
  unfold next
  simp only [hd]
  rw [if_pos trivial]
  simp only [sent, tryS, tryW]
  simp only [Prod.mk.injEq, Sg.mk.injEq, true_and, and_true]
  omega
theorem next_tryW (hl : mayB l = true) {j n : Nat} (ha : (ans[n]?).getD 0 % 3 = 2) :
    next lim ans (tryW l j, n) = (if kindAt l 0 = 1 ∧ j + 1 = lim then undS l lim 0 else tryS l (j + 1), n + 1) := by
  have hlen := mayB_len hl
  have hst : stepOf (more (tryW l j)) = 0 := by simp [stepOf, tryW, more]; omega
  have hbit : bitOf (more (tryW l j)) = 1 := by rw [bitOf, hst]; rfl
  have hd : due (tryW l j) lim = none := by unfold due; rw [if_pos (.inl rfl)]
  have hor : ((if j = 0 then 0 else 1 : Nat) ||| 1) = 1 := by split <;> rfl
  unfold next
  simp only [hd, ha]
  rw [if_pos trivial]
  have hb : (more (tryW l j)).back = false := rfl
  unfold lapsed
  rw [if_neg (by rw [hb]; decide), hst, hbit]
  have e1 : (more (tryW l j)).tries = j + 1 := rfl
  have e2 : kindAt (more (tryW l j)).steps (0 : Int).toNat = kindAt l 0 := rfl
  rw [e1, e2]
  by_cases h : kindAt l 0 = 1 ∧ j + 1 = lim
  · rw [if_pos h, if_pos h]
    simp only [tryW, undS, more, hor]
    simp only [Prod.mk.injEq, Sg.mk.injEq, true_and, and_true]
    omega
  · rw [if_neg h, if_neg h]
    simp only [tryW, tryS, more, hor]
    simp
    omega
theorem target_und (hl : mayB l = true) (hk : kindAt l 0 = 1) (s : Sg) (hs : s.steps = l ∧ s.done = 0 ∧ s.may = 1 ∧ s.undone = 0) : target s = 0 := by
  have hlen := mayB_len hl
  obtain ⟨h1, h2, h3, h4⟩ := hs
  unfold target
  rw [h1]
  have := lastOf_eq (p := opn s) (n := l.length) (k := 0) (by omega) (by simp [opn, h1, h2, h3, h4, hk]) (fun i hi _ => by
    have : (1 : Nat).testBit i = false := by
      rw [show (1 : Nat) = 2 ^ 0 from rfl, testBit_pow]; simp; omega
    simp [opn, h2, h3, this])
  exact this
theorem next_undS (hl : mayB l = true) (hk : kindAt l 0 = 1) {j n : Nat} (hj : j < lim) : next lim ans (undS l lim j, n) = (undW l lim j, n) := by
  have ht := target_und hl hk (undS l lim j) ⟨rfl, rfl, rfl, rfl⟩
  have hst : stepOf (undS l lim j) = 0 := (stepOf_bwd rfl).trans ht
  have hd : due (undS l lim j) lim = some ⟨2, 0, j + 1, true, 0⟩ := by
    unfold due
    rw [if_neg (by simp [undS, over, ne_nil hl]), hst, if_neg (by omega), if_pos (by exact hj)]
    simp [undS]
  unfold next
  simp only [hd]
  rw [if_pos trivial]
  simp only [sent, undS, undW]
  simp only [Prod.mk.injEq, Sg.mk.injEq, true_and, and_true]
  omega
theorem next_undW {j n : Nat} (ha : (ans[n]?).getD 0 % 3 = 2) : next lim ans (undW l lim j, n) = (undS l lim (j + 1), n + 1) := by
  have hd : due (undW l lim j) lim = none := by unfold due; rw [if_pos (.inl rfl)]
  unfold next
  simp only [hd, ha]
  rw [if_pos trivial]
  have hb : (more (undW l lim j)).back = true := rfl
  unfold lapsed
  rw [if_pos hb]
  simp only [undW, undS, more]
  simp only [Prod.mk.injEq, Sg.mk.injEq, true_and, and_true]
  omega
theorem iter_try (hl : mayB l = true) (ha : ∀ i, i < 30 → (ans[i]?).getD 0 % 3 = 2) (hlim : lim ≤ 9) (j : Nat) (hj : j < lim ∨ (j = lim ∧ kindAt l 0 ≠ 1)) : iter l lim ans (2 * j) = (tryS l j, j) := by
  induction j with
  | zero => rfl
  | succ j ih =>
    have := ih (by omega)
    have e : 2 * (j + 1) = 2 * j + 1 + 1 := by omega
    rw [e, iter, iter, this, next_tryS hl (by omega), next_tryW hl (ha j (by omega)), if_neg (by omega)]
theorem iter_und (hl : mayB l = true) (ha : ∀ i, i < 30 → (ans[i]?).getD 0 % 3 = 2) (h1 : 1 ≤ lim) (hlim : lim ≤ 9) (hk : kindAt l 0 = 1) (j : Nat) (hj : j ≤ lim) : iter l lim ans (2 * lim + 2 * j) = (undS l lim j, lim + j) := by
  induction j with
  | zero =>
    obtain ⟨m, rfl⟩ : ∃ m, lim = m + 1 := ⟨lim - 1, by omega⟩
    have e : 2 * (m + 1) + 2 * 0 = 2 * m + 1 + 1 := by omega
    rw [e, iter, iter, iter_try hl ha hlim m (.inl (by omega)), next_tryS hl (by omega), next_tryW hl (ha m (by omega)), if_pos ⟨hk, rfl⟩]
  | succ j ih =>
    have := ih (by omega)
    have e : 2 * lim + 2 * (j + 1) = 2 * lim + 2 * j + 1 + 1 := by omega
    rw [e, iter, iter, this, next_undS hl hk (by omega), next_undW (ha _ (by omega))]; rfl
/-- .. of a first step that can be compensated. -/
theorem ends_try_comp (hl : mayB l = true) (ha : ∀ i, i < 30 → (ans[i]?).getD 0 % 3 = 2) (h1 : 1 ≤ lim) (hlim : lim ≤ 9) (hk : kindAt l 0 = 1) : Ends l lim ans (4 * lim + 1) { undS l lim lim with phase := 4, seq := 4 * lim + 2 } := by
  have ht := target_und hl hk (undS l lim lim) ⟨rfl, rfl, rfl, rfl⟩
  have hst : stepOf (undS l lim lim) = 0 := (stepOf_bwd rfl).trans ht
  have hd : due (undS l lim lim) lim = some ⟨5, 0, 0, false, 4⟩ := by
    unfold due
    rw [if_neg (by simp [undS, over, ne_nil hl]), hst, if_neg (by omega), if_neg (by simp [undS])]
  refine ⟨?_, rfl, fun m hm => ?_⟩
  · have e : 4 * lim + 1 = 2 * lim + 2 * lim + 1 := by omega
    rw [e, iter, iter_und hl ha h1 hlim hk lim (Nat.le_refl _)]
    unfold next
    simp only [hd]
    rw [if_neg (by decide)]
    simp only [ended, undS]
    simp only [Sg.mk.injEq, true_and]
    omega
  · by_cases hmk : m < 2 * lim
    · rcases Nat.mod_two_eq_zero_or_one m with h0 | h0
      · obtain ⟨j, rfl⟩ : ∃ j, m = 2 * j := ⟨m / 2, by omega⟩
        rw [iter_try hl ha hlim j (.inl (by omega))]; rfl
      · obtain ⟨j, rfl⟩ : ∃ j, m = 2 * j + 1 := ⟨m / 2, by omega⟩
        rw [iter, iter_try hl ha hlim j (.inl (by omega)), next_tryS hl (by omega)]; rfl
    · rcases Nat.mod_two_eq_zero_or_one m with h0 | h0
      · obtain ⟨j, rfl⟩ : ∃ j, m = 2 * lim + 2 * j := ⟨(m - 2 * lim) / 2, by omega⟩
        rw [iter_und hl ha h1 hlim hk j (by omega)]; rfl
      · obtain ⟨j, rfl⟩ : ∃ j, m = 2 * lim + 2 * j + 1 := ⟨(m - 2 * lim) / 2, by omega⟩
        rw [iter, iter_und hl ha h1 hlim hk j (by omega), next_undS hl hk (by omega)]; rfl
/-- .. of another. -/
theorem ends_try (hl : mayB l = true) (ha : ∀ i, i < 30 → (ans[i]?).getD 0 % 3 = 2) (_h1 : 1 ≤ lim) (hlim : lim ≤ 9) (hk : kindAt l 0 ≠ 1) : Ends l lim ans (2 * lim + 1) { tryS l lim with phase := 4, seq := 2 * lim + 2 } := by
  have hlen := mayB_len hl
  have hst : stepOf (tryS l lim) = 0 := by simp [stepOf, tryS]; omega
  have hd : due (tryS l lim) lim = some ⟨5, 0, 0, false, 4⟩ := by
    unfold due
    rw [if_neg (by simp [tryS, over, ne_nil hl]), hst, if_neg (by omega), if_neg (by simp [tryS])]
  refine ⟨?_, rfl, fun m hm => ?_⟩
  · rw [iter, iter_try hl ha hlim lim (.inr ⟨rfl, hk⟩)]
    unfold next
    simp only [hd]
    rfl
  · rcases Nat.mod_two_eq_zero_or_one m with h0 | h0
    · obtain ⟨j, rfl⟩ : ∃ j, m = 2 * j := ⟨m / 2, by omega⟩
      rw [iter_try hl ha hlim j (by omega)]; rfl
    · obtain ⟨j, rfl⟩ : ∃ j, m = 2 * j + 1 := ⟨m / 2, by omega⟩
      rw [iter, iter_try hl ha hlim j (.inl (by omega)), next_tryS hl (by omega)]; rfl
end
end Go.Proofs.YtklmhegmombegaaDoor.Re.Plain
namespace Go.Proofs.YtklmhegmombegaaDoor.Re.Plain

theorem go_due {s : Sg} {lim : Nat} {d : Du} (hd : due s lim = some d) (g : Bool) : go s ⟨d.kind, s.seq, d.step, d.tr, d.bk, g, d.nd⟩ lim = some (if d.kind = 2 then sent s d else ended s d) := by
  obtain ⟨hw, ho, hs, hc⟩ := due_cases hd
  have ht : told ⟨d.kind, s.seq, d.step, d.tr, d.bk, g, d.nd⟩ = d := rfl
  unfold go
  rw [if_neg (by simp [hs, ho]), ht]
  have hk : d.kind = 2 ∨ d.kind = 5 := by
    rcases hc with h | h | h | h <;> rw [h.2.2] <;> simp
  rcases hk with hk | hk
  · rw [if_pos hk, if_pos hd, if_pos hk]
  · rw [if_neg (by rw [show (Rc.mk d.kind s.seq d.step d.tr d.bk g d.nd).kind = d.kind from rfl, hk]; decide), if_pos hk, if_pos hd, if_neg (show ¬ d.kind = 2 by rw [hk]; decide)]
theorem go_answer {s : Sg} {lim : Nat} (hw : s.wait = true) (ho : over s = false) (hs : s.steps ≠ []) (g : Bool) : go s ⟨3, s.seq, stepOf s, s.tries, s.back, g, 0⟩ lim = some (answered (more s) g) := by
  unfold go
  rw [if_neg (by simp [hs, ho]), if_neg (show ¬ (3 : Int) = 2 by decide), if_neg (show ¬ (3 : Int) = 5 by decide), if_pos (.inl rfl), if_neg (by simp [hw]), if_pos rfl]
theorem go_lapse {s : Sg} {lim : Nat} (hw : s.wait = true) (ho : over s = false) (hs : s.steps ≠ []) (g : Bool) : go s ⟨4, s.seq, stepOf s, s.tries, s.back, g, 0⟩ lim = some (lapsed (more s) lim) := by
  unfold go
  rw [if_neg (by simp [hs, ho]), if_neg (show ¬ (4 : Int) = 2 by decide), if_neg (show ¬ (4 : Int) = 5 by decide), if_pos (.inr rfl), if_neg (by simp [hw]), if_neg (show ¬ (4 : Int) = 3 by decide)]
theorem next_due {s : Sg} {lim k : Nat} {ans : List Nat} {d : Du} (hd : due s lim = some d) : next lim ans (s, k) = (if d.kind = 2 then sent s d else ended s d, k) := by
  unfold next; simp only [hd]
theorem next_ans {s : Sg} {lim k : Nat} {ans : List Nat} {a : Nat} (hd : due s lim = none) (ha : (ans[k]?).getD 0 % 3 = a) : next lim ans (s, k) = (if a = 2 then lapsed (more s) lim else answered (more s) (decide (a = 0)), k + 1) := by
  unfold next; simp only [hd, ha]
theorem iter_next {l : List (Int × Int)} {lim n : Nat} {ans : List Nat} {st : Sg × Nat} (h : iter l lim ans n = st) : iter l lim ans (n + 1) = next lim ans st := by rw [iter, h]
end Go.Proofs.YtklmhegmombegaaDoor.Re.Plain
namespace Go.Proofs.YtklmhegmombegaaDoor.Re.Plain

theorem due_new {l : List (Int × Int)} {lim : Nat} (hl : mayB l = true) (h1 : 1 ≤ lim) : due (new l) lim = some ⟨2, 0, 1, false, 0⟩ := by
  have hlen := mayB_len hl
  have hs : stepOf (new l) = 0 := by
    unfold stepOf new
    dsimp only
    rw [if_neg (by decide), if_pos (by omega)]
    rfl
  have hn : ¬ ((new l).wait = true ∨ over (new l) = true ∨ (new l).steps = []) := by
    have := ne_nil hl
    have ho : over (new l) = false := rfl
    rw [ho]
    simp [new, this]
  unfold due
  rw [if_neg hn, hs, if_neg (by decide), if_pos (by show 0 < lim; omega)]
  rfl
theorem go_new {l : List (Int × Int)} {lim : Nat} (hl : mayB l = true) (h1 : 1 ≤ lim) (g : Bool) : go (new l) ⟨2, 1, 0, 1, false, g, 0⟩ lim = some (fwdW l 0) := by
  have h := go_due (due_new hl h1) g
  rw [show (new l).seq = 1 from rfl] at h
  exact h
theorem inv_out {l : List (Int × Int)} {lim : Nat} (hl : mayB l = true) (h1 : 1 ≤ lim) : Inv l lim 1 (fwdW l 0) := by
  have hlen := mayB_len hl
  have h0 : over (iter l lim [] 0).1 = false := rfl
  have h := inv_iter (lim := lim) hl [] 1 (fun m hm => by obtain rfl : m = 0 := by omega
                                                          exact h0)
  have e := iter_fwdW (l := l) (ans := []) h1 0 (by omega) (fun i hi => by omega)
  rw [Nat.mul_zero, Nat.zero_add] at e
  rw [e] at h
  exact h
/-- Where a saga waits, no Intent and no end goes. -/
theorem go_wait_kind {s t : Sg} {x : Rc} {lim : Nat} (hw : s.wait = true) (h : go s x lim = some t) : x.kind = 3 ∨ x.kind = 4 := by
  have hd : due s lim = none := by rw [due, if_pos (.inl hw)]
  unfold go at h
  rw [hd] at h
  split at h
  · cases h
  split at h
  · simp at h
  split at h
  · simp at h
  split at h
  · assumption
  · cases h
end Go.Proofs.YtklmhegmombegaaDoor.Re.Plain
