/-
  A saga in plain Lean: what is due, how it goes, what it comes to. No program in sight.
-/
set_option linter.unusedVariables false
set_option linter.unusedSimpArgs false
namespace Go.Proofs.Ytklmhegmombegaa.Plain

/-- A saga: its steps (whose, which kind), and how it stands. -/
structure Sg where
  steps : List (Int × Int)
  phase : Nat
  pos : Nat
  tries : Nat
  wait : Bool
  back : Bool
  done : Nat
  undone : Nat
  may : Nat
  seq : Nat

def kindAt (l : List (Int × Int)) (i : Nat) : Int := ((l[i]?).map (·.2)).getD 0
/-- The last one below n of which p is so; -1: none. -/
def lastOf (p : Nat → Bool) : Nat → Int
  | 0 => -1
  | n + 1 => if p n = true then (n : Int) else lastOf p n
def opn (s : Sg) (i : Nat) : Bool := (kindAt s.steps i == 1) && (s.done.testBit i || s.may.testBit i) && !s.undone.testBit i
def target (s : Sg) : Int := lastOf (opn s) s.steps.length
def stepOf (s : Sg) : Int := if s.phase = 1 then target s else if s.pos < s.steps.length then (s.pos : Int) else -1
def over (s : Sg) : Bool := decide (2 ≤ s.phase) && decide (s.phase ≤ 4)

/-- What is due: kind, step, try, back, end. -/
structure Du where
  kind : Int
  step : Int
  tr : Int
  bk : Bool
  nd : Int
deriving DecidableEq

def due (s : Sg) (lim : Nat) : Option Du :=
  if s.wait = true ∨ over s = true ∨ s.steps = [] then none
  else if stepOf s < 0 then (if s.phase = 0 then some ⟨5, 0, 0, false, 2⟩ else some ⟨5, 0, 0, false, 3⟩)
  else if s.tries < lim then some ⟨2, stepOf s, s.tries + 1, decide (s.phase = 1), 0⟩
  else some ⟨5, 0, 0, false, 4⟩

def bitOf (s : Sg) : Nat := 2 ^ (stepOf s).toNat
def clr (a b : Nat) : Nat := a &&& (63 ^^^ b)
def answered (s : Sg) (good : Bool) : Sg :=
  if s.back = true then (if good = true then { s with undone := s.undone ||| bitOf s, tries := 0, wait := false, back := false } else { s with wait := false, back := false })
  else if good = true then { s with done := s.done ||| bitOf s, may := clr s.may (bitOf s), pos := s.pos + 1, tries := 0, wait := false, back := false }
  else if kindAt s.steps (stepOf s).toNat = 3 then { s with wait := false, back := false }
  else { s with may := clr s.may (bitOf s), phase := 1, tries := 0, wait := false, back := false }
def lapsed (s : Sg) (lim : Nat) : Sg :=
  if s.back = true then { s with wait := false, back := false }
  else if kindAt s.steps (stepOf s).toNat = 1 ∧ s.tries = lim then { s with may := s.may ||| bitOf s, phase := 1, tries := 0, wait := false, back := false }
  else { s with may := s.may ||| bitOf s, wait := false, back := false }
def sent (s : Sg) (d : Du) : Sg := { s with wait := true, tries := d.tr.toNat, back := d.bk, seq := s.seq + 1 }
def ended (s : Sg) (d : Du) : Sg := { s with phase := d.nd.toNat, seq := s.seq + 1 }
def more (s : Sg) : Sg := { s with seq := s.seq + 1 }

/-- What a record says of a call. -/
structure Rc where
  kind : Int
  seq : Int
  step : Int
  tr : Int
  bk : Bool
  good : Bool
  nd : Int
def told (x : Rc) : Du := ⟨x.kind, x.step, x.tr, x.bk, x.nd⟩
/-- The saga behind a record; none: it does not go. -/
def go (s : Sg) (x : Rc) (lim : Nat) : Option Sg :=
  if x.seq ≠ s.seq ∨ s.steps = [] ∨ over s = true then none
  else if x.kind = 2 then (if due s lim = some (told x) then some (sent s (told x)) else none)
  else if x.kind = 5 then (if due s lim = some (told x) then some (ended s (told x)) else none)
  else if x.kind = 3 ∨ x.kind = 4 then
    (if s.wait = false ∨ x.step ≠ stepOf s ∨ x.tr ≠ s.tries ∨ x.bk ≠ s.back then none
     else if x.kind = 3 then some (answered (more s) x.good) else some (lapsed (more s) lim))
  else none

def missing (s : Sg) : Nat := if s.phase = 2 then 0 else clr s.done s.undone

/-- May steps be a saga's? From a least kind on. -/
def mayFrom (k : Int) : List (Int × Int) → Bool
  | [] => true
  | x :: l => decide (0 ≤ x.1 ∧ x.1 ≤ 3 ∧ k ≤ x.2 ∧ x.2 ≤ 3) && mayFrom (if x.2 = 2 then 3 else x.2) l
def mayB (l : List (Int × Int)) : Bool := decide (1 ≤ l.length ∧ l.length ≤ 6) && mayFrom 1 l
def new (l : List (Int × Int)) : Sg := ⟨l, 0, 0, 0, false, false, 0, 0, 0, 1⟩
def zero : Sg := ⟨[], 0, 0, 0, false, false, 0, 0, 0, 0⟩
def newOf (l : List (Int × Int)) : Sg := if mayB l = true then new l else zero

/-- One round: what is due goes, or the call that is out is answered (0 Good, 1 not, 2 lapse). -/
def next (lim : Nat) (ans : List Nat) (st : Sg × Nat) : Sg × Nat :=
  match due st.1 lim with
  | some d => (if d.kind = 2 then sent st.1 d else ended st.1 d, st.2)
  | none =>
    let a := (ans[st.2]?).getD 0 % 3
    (if a = 2 then lapsed (more st.1) lim else answered (more st.1) (decide (a = 0)), st.2 + 1)
def iter (l : List (Int × Int)) (lim : Nat) (ans : List Nat) : Nat → Sg × Nat
  | 0 => (new l, 0)
  | n + 1 => next lim ans (iter l lim ans n)

/-- Where all n rounds have gone, and the saga is over. -/
def Ends (l : List (Int × Int)) (lim : Nat) (ans : List Nat) (n : Nat) (s : Sg) : Prop :=
  (iter l lim ans n).1 = s ∧ over s = true ∧ ∀ m, m < n → over (iter l lim ans m).1 = false
theorem Ends.unique {l : List (Int × Int)} {lim : Nat} {ans : List Nat} {n m : Nat} {s t : Sg} (h : Ends l lim ans n s) (k : Ends l lim ans m t) : n = m ∧ s = t := by
  obtain ⟨rfl, h2, h3⟩ := h
  obtain ⟨rfl, k2, k3⟩ := k
  by_cases h1 : n < m
  · rw [k3 n h1] at h2; cases h2
  · by_cases h4 : m < n
    · rw [h3 m h4] at k2; cases k2
    · obtain rfl : n = m := by omega
      exact ⟨rfl, rfl⟩

/-! ## Which kinds there are -/
theorem mayFrom_kind {l : List (Int × Int)} {k : Int} (h : mayFrom k l = true) (hk : 1 ≤ k) : ∀ i, i < l.length → k ≤ kindAt l i ∧ kindAt l i ≤ 3 := by
  induction l generalizing k with
  | nil => intro i hi; simp at hi
  | cons x l ih =>
    simp only [mayFrom, Bool.and_eq_true, decide_eq_true_eq] at h
    obtain ⟨⟨_, _, h3, h4⟩, h5⟩ := h
    intro i hi
    cases i with
    | zero => simp [kindAt]; exact ⟨h3, h4⟩
    | succ i =>
      have := ih h5 (by split <;> omega) i (by simpa using hi)
      have e : kindAt (x :: l) (i + 1) = kindAt l i := by simp [kindAt]
      rw [e]
      split at this <;> omega
/-- Behind a step that decides all are tried until they are done. -/
theorem mayFrom_sorted {l : List (Int × Int)} {k : Int} (h : mayFrom k l = true) (hk : 1 ≤ k) : ∀ i j, i < j → j < l.length → kindAt l j ≠ 3 → kindAt l i = 1 := by
  induction l generalizing k with
  | nil => intro i j _ hj; simp at hj
  | cons x l ih =>
    simp only [mayFrom, Bool.and_eq_true, decide_eq_true_eq] at h
    obtain ⟨⟨_, _, h3, h4⟩, h5⟩ := h
    intro i j hij hj hk3
    obtain ⟨j, rfl⟩ : ∃ j', j = j' + 1 := ⟨j - 1, by omega⟩
    have e : kindAt (x :: l) (j + 1) = kindAt l j := by simp [kindAt]
    rw [e] at hk3
    simp only [List.length_cons] at hj
    cases i with
    | zero =>
      have := mayFrom_kind h5 (by split <;> omega) j (by omega)
      have e0 : kindAt (x :: l) 0 = x.2 := by simp [kindAt]
      rw [e0]
      split at this <;> omega
    | succ i =>
      have e1 : kindAt (x :: l) (i + 1) = kindAt l i := by simp [kindAt]
      rw [e1]
      exact ih h5 (by split <;> omega) i j (by omega) (by omega) hk3
theorem mayB_len {l : List (Int × Int)} (h : mayB l = true) : 1 ≤ l.length ∧ l.length ≤ 6 := by
  simp only [mayB, Bool.and_eq_true, decide_eq_true_eq] at h; exact h.1
theorem mayB_kind {l : List (Int × Int)} (h : mayB l = true) : ∀ i, i < l.length → 1 ≤ kindAt l i ∧ kindAt l i ≤ 3 := by
  simp only [mayB, Bool.and_eq_true] at h; exact mayFrom_kind h.2 (by omega)
theorem mayB_sorted {l : List (Int × Int)} (h : mayB l = true) : ∀ i j, i < j → j < l.length → kindAt l j ≠ 3 → kindAt l i = 1 := by
  simp only [mayB, Bool.and_eq_true] at h; exact mayFrom_sorted h.2 (by omega)
theorem ne_nil {l : List (Int × Int)} (h : mayB l = true) : l ≠ [] := by
  rintro rfl; exact absurd (mayB_len h).1 (by decide)

/-! ## The last one -/
theorem lastOf_lt (p : Nat → Bool) (n : Nat) : -1 ≤ lastOf p n ∧ lastOf p n < n := by
  induction n with
  | zero => simp [lastOf]
  | succ n ih => unfold lastOf; split <;> omega
theorem lastOf_some {p : Nat → Bool} {n : Nat} (h : 0 ≤ lastOf p n) : p (lastOf p n).toNat = true := by
  induction n with
  | zero => simp [lastOf] at h
  | succ n ih =>
    unfold lastOf at h ⊢
    split at h
    · rename_i hp; rw [if_pos hp]; simpa using hp
    · rename_i hp; rw [if_neg hp]; exact ih h
theorem lastOf_none {p : Nat → Bool} {n : Nat} (h : lastOf p n < 0) : ∀ i, i < n → p i = false := by
  induction n with
  | zero => intro i hi; omega
  | succ n ih =>
    unfold lastOf at h
    split at h
    · omega
    · rename_i hp
      intro i hi
      by_cases e : i = n
      · subst e; simpa using hp
      · exact ih h i (by omega)
theorem lastOf_eq {p : Nat → Bool} {n k : Nat} (hk : k < n) (hp : p k = true) (hl : ∀ i, k < i → i < n → p i = false) : lastOf p n = k := by
  induction n with
  | zero => omega
  | succ n ih =>
    unfold lastOf
    by_cases e : k = n
    · subst e; rw [if_pos hp]
    · rw [if_neg (by rw [hl n (by omega) (by omega)]; decide)]
      exact ih (by omega) (fun i h1 h2 => hl i h1 (by omega))
theorem lastOf_no {p : Nat → Bool} {n : Nat} (h : ∀ i, i < n → p i = false) : lastOf p n = -1 := by
  induction n with
  | zero => rfl
  | succ n ih => unfold lastOf; rw [if_neg (by rw [h n (by omega)]; decide)]; exact ih fun i hi => h i (by omega)
/-- How many there are. -/
def cnt (p : Nat → Bool) : Nat → Nat
  | 0 => 0
  | n + 1 => cnt p n + (if p n = true then 1 else 0)
theorem cnt_le (p : Nat → Bool) (n : Nat) : cnt p n ≤ n := by
  induction n with
  | zero => exact Nat.le_refl _
  | succ n ih => unfold cnt; split <;> omega
theorem cnt_le_of {p : Nat → Bool} {n m : Nat} (h : ∀ i, m ≤ i → i < n → p i = false) : cnt p n ≤ m := by
  induction n with
  | zero => exact Nat.zero_le _
  | succ n ih =>
    unfold cnt
    by_cases e : m ≤ n
    · rw [if_neg (by rw [h n e (by omega)]; decide)]
      exact ih fun i h1 h2 => h i h1 (by omega)
    · have := cnt_le p n
      split <;> omega
theorem cnt_drop {p q : Nat → Bool} {n k : Nat} (hk : k < n) (hp : p k = true) (hq : q k = false) (h : ∀ i, i ≠ k → q i = p i) : cnt q n + 1 = cnt p n := by
  induction n with
  | zero => omega
  | succ n ih =>
    unfold cnt
    by_cases e : k = n
    · subst e
      have : cnt q k = cnt p k := by
        clear ih hk
        have : ∀ m, m ≤ k → cnt q m = cnt p m := by
          intro m
          induction m with
          | zero => intro _; rfl
          | succ m ih => intro hm; unfold cnt; rw [ih (by omega), h m (by omega)]
        exact this k (Nat.le_refl _)
      rw [hp, hq, this]; simp
    · have := ih (by omega)
      rw [h n (by omega)]; omega
theorem cnt_congr {p q : Nat → Bool} {n : Nat} (h : ∀ i, i < n → q i = p i) : cnt q n = cnt p n := by
  induction n with
  | zero => rfl
  | succ n ih => unfold cnt; rw [ih fun i hi => h i (by omega), h n (by omega)]
theorem cnt_pos {p : Nat → Bool} {n k : Nat} (hk : k < n) (hp : p k = true) : 1 ≤ cnt p n := by
  induction n with
  | zero => omega
  | succ n ih =>
    unfold cnt
    by_cases e : k = n
    · subst e; rw [if_pos hp]; omega
    · have := ih (by omega); omega

/-! ## Bits -/
theorem testBit_63 (i : Nat) : (63 : Nat).testBit i = decide (i < 6) := by
  have : (63 : Nat) = 2 ^ 6 - 1 := rfl
  rw [this, Nat.testBit_two_pow_sub_one]
theorem testBit_clr (a b i : Nat) : (clr a b).testBit i = (a.testBit i && (decide (i < 6) ^^ b.testBit i)) := by
  simp [clr, Nat.testBit_and, Nat.testBit_xor, testBit_63]
theorem testBit_pow (k i : Nat) : (2 ^ k).testBit i = decide (k = i) := Nat.testBit_two_pow
theorem lt_of_bits {a : Nat} (h : ∀ i, 6 ≤ i → a.testBit i = false) : a < 64 := by
  have : a < 2 ^ 6 := Nat.lt_pow_two_of_testBit a h
  simpa using this
theorem bits_of_lt {a : Nat} (h : a < 64) : ∀ i, 6 ≤ i → a.testBit i = false := fun i hi =>
  Nat.testBit_lt_two_pow (Nat.lt_of_lt_of_le h (by
    have : (64 : Nat) = 2 ^ 6 := rfl
    rw [this]; exact Nat.pow_le_pow_right (by decide) hi))
theorem or_pow_lt {a k : Nat} (h : a < 64) (hk : k < 6) : a ||| 2 ^ k < 64 := lt_of_bits fun i hi => by
  rw [Nat.testBit_or, bits_of_lt h i hi, testBit_pow]; simp; omega
theorem clr_lt {a b : Nat} (h : a < 64) : clr a b < 64 := lt_of_bits fun i hi => by rw [testBit_clr, bits_of_lt h i hi]; rfl
theorem ones_succ (k i : Nat) : (2 ^ (k + 1) - 1 : Nat).testBit i = ((2 ^ k - 1 : Nat).testBit i || (2 ^ k).testBit i) := by
  rw [Nat.testBit_two_pow_sub_one, Nat.testBit_two_pow_sub_one, testBit_pow]
  by_cases h : i < k
  · simp [h]; omega
  · by_cases e : k = i
    · simp [e]
    · have : ¬ i < k + 1 := by omega
      simp [h, e, this]
end Go.Proofs.Ytklmhegmombegaa.Plain
