/-
  A saga's laws in plain Lean: what holds of every saga that is run; how its runs end. No program in sight.
-/
import Derived.Test.YtklmhegmombegaaPlain
set_option linter.unusedVariables false
set_option linter.unusedSimpArgs false
namespace Go.Proofs.Ytklmhegmombegaa.Plain

/-- How many records there may be. -/
def most (l : List (Int × Int)) (lim : Nat) : Nat := 4 * (lim * l.length) + 1
def w1 (s : Sg) : Nat := if s.wait = true then 1 else 0

/-- What holds behind n records. -/
structure Inv (l : List (Int × Int)) (lim n : Nat) (s : Sg) : Prop where
  steps : s.steps = l
  ph : s.phase ≤ 4
  pos : s.pos ≤ l.length
  tries : s.tries ≤ lim
  done : s.done = 2 ^ s.pos - 1
  may : ∀ i, s.may.testBit i = true → i = s.pos ∧ s.pos < l.length
  undone : ∀ i, s.undone.testBit i = true → i < l.length ∧ kindAt l i = 1
  seq : s.seq = n + 1
  fwd : s.phase = 0 → s.undone = 0 ∧ s.back = false ∧ (s.wait = true → s.pos < l.length) ∧ n + 2 * (lim * (l.length - s.pos)) + 2 * (lim * l.length) + 1 + w1 s ≤ most l lim + 2 * s.tries
  bwd : s.phase = 1 → s.pos < l.length ∧ kindAt l s.pos ≠ 3 ∧ s.back = s.wait ∧ (s.wait = true → 0 ≤ target s) ∧ (target s < 0 → s.tries = 0) ∧ n + 2 * (lim * cnt (opn s) l.length) + 1 + w1 s ≤ most l lim + 2 * s.tries
  fin : 2 ≤ s.phase → s.wait = false ∧ s.back = false ∧ n ≤ most l lim
  wt : s.wait = true → 1 ≤ s.tries
  com : s.phase = 2 → s.pos = l.length ∧ s.undone = 0
  cmp : s.phase = 3 → s.pos < l.length ∧ kindAt l s.pos ≠ 3 ∧ ∀ i, i < l.length → opn s i = false
  stk : s.phase = 4 → s.undone = 0 ∨ (s.pos < l.length ∧ kindAt l s.pos ≠ 3)

theorem Inv.new {l : List (Int × Int)} {lim : Nat} (_h : mayB l = true) : Inv l lim 0 (new l) where
  steps := rfl
  ph := by simp [Plain.new]
  pos := Nat.zero_le _
  tries := Nat.zero_le _
  done := rfl
  may := by simp [Plain.new]
  undone := by simp [Plain.new]
  seq := rfl
  fwd := fun _ => ⟨rfl, rfl, by simp [Plain.new], by simp only [w1, Plain.new, most, Nat.sub_zero]; simp; omega⟩
  bwd := by simp [Plain.new]
  fin := by simp [Plain.new]
  wt := by simp [Plain.new]
  com := by simp [Plain.new]
  cmp := by simp [Plain.new]
  stk := by simp [Plain.new]

section
variable {l : List (Int × Int)} {lim n : Nat} {s : Sg}

theorem Inv.phase (h : Inv l lim n s) (ho : over s = false) : s.phase = 0 ∨ s.phase = 1 := by
  have := h.ph
  simp [over] at ho
  omega
theorem stepOf_fwd (h : Inv l lim n s) (h0 : s.phase = 0) : stepOf s = if s.pos < l.length then (s.pos : Int) else -1 := by
  rw [stepOf, if_neg (by omega), h.steps]
theorem stepOf_bwd (h0 : s.phase = 1) : stepOf s = target s := by rw [stepOf, if_pos h0]
theorem target_lt (h : Inv l lim n s) : target s < l.length := by
  have := (lastOf_lt (opn s) s.steps.length).2
  unfold target
  rw [h.steps] at this ⊢
  exact this
/-- A call that is out is of a step that there is. -/
theorem Inv.step_wait (h : Inv l lim n s) (ho : over s = false) (hw : s.wait = true) : 0 ≤ stepOf s ∧ stepOf s < l.length := by
  rcases h.phase ho with h0 | h1
  · have := (h.fwd h0).2.2.1 hw
    rw [stepOf_fwd h h0, if_pos this]
    omega
  · rw [stepOf_bwd h1]
    exact ⟨(h.bwd h1).2.2.2.1 hw, target_lt h⟩
/-- .. and which. -/
theorem Inv.step_of (h : Inv l lim n s) (ho : over s = false) (hw : s.wait = true) : (if s.back = true then target s else (s.pos : Int)) = stepOf s := by
  rcases h.phase ho with h0 | h1
  · have := (h.fwd h0)
    rw [this.2.1, stepOf_fwd h h0, if_pos (this.2.2.1 hw)]; rfl
  · have := (h.bwd h1)
    rw [this.2.2.1, hw, stepOf_bwd h1]; rfl
theorem Inv.due_none (h : Inv l lim n s) (hl : mayB l = true) (ho : over s = false) (hd : due s lim = none) : s.wait = true := by
  unfold due at hd
  split at hd
  · rename_i h1
    rcases h1 with h1 | h1 | h1
    · exact h1
    · rw [ho] at h1; cases h1
    · rw [h.steps] at h1; exact absurd h1 (ne_nil hl)
  · split at hd
    · split at hd <;> cases hd
    · split at hd <;> cases hd

theorem target_bit (h : Inv l lim n s) (h0 : 0 ≤ target s) : (target s).toNat < l.length ∧ kindAt l (target s).toNat = 1 ∧ s.undone.testBit (target s).toNat = false ∧ opn s (target s).toNat = true := by
  have h1 : opn s (target s).toNat = true := lastOf_some h0
  have h2 := target_lt h
  have h3 := h1
  simp only [opn, Bool.and_eq_true, beq_iff_eq, Bool.not_eq_true'] at h1
  refine ⟨by omega, ?_, h1.2, h3⟩
  rw [← h.steps]; exact h1.1.1

/-- What is due is one of five. -/
theorem due_cases {d : Du} (hd : due s lim = some d) :
    s.wait = false ∧ over s = false ∧ s.steps ≠ [] ∧
    ((stepOf s < 0 ∧ s.phase = 0 ∧ d = ⟨5, 0, 0, false, 2⟩) ∨ (stepOf s < 0 ∧ s.phase ≠ 0 ∧ d = ⟨5, 0, 0, false, 3⟩) ∨
     (0 ≤ stepOf s ∧ s.tries < lim ∧ d = ⟨2, stepOf s, s.tries + 1, decide (s.phase = 1), 0⟩) ∨ (0 ≤ stepOf s ∧ lim ≤ s.tries ∧ d = ⟨5, 0, 0, false, 4⟩)) := by
  unfold due at hd
  split at hd
  · cases hd
  · rename_i h1
    simp only [not_or, Bool.not_eq_true] at h1
    refine ⟨h1.1, h1.2.1, h1.2.2, ?_⟩
    split at hd
    · split at hd
      · exact .inl ⟨by assumption, by assumption, (Option.some.inj hd).symm⟩
      · exact .inr (.inl ⟨by assumption, by assumption, (Option.some.inj hd).symm⟩)
    · split at hd
      · exact .inr (.inr (.inl ⟨by omega, by assumption, (Option.some.inj hd).symm⟩))
      · exact .inr (.inr (.inr ⟨by omega, by omega, (Option.some.inj hd).symm⟩))

theorem mul_pos_sub {lim a b : Nat} (h : b < a) : lim * (a - b) = lim * (a - (b + 1)) + lim := by
  have : a - b = (a - (b + 1)) + 1 := by omega
  rw [this, Nat.mul_succ]

theorem Inv.sent (h : Inv l lim n s) (hw : s.wait = false) (ho : over s = false) (hk : 0 ≤ stepOf s) (ht : s.tries < lim) :
    Inv l lim (n + 1) (sent s ⟨2, stepOf s, s.tries + 1, decide (s.phase = 1), 0⟩) where
  steps := h.steps
  ph := h.ph
  pos := h.pos
  tries := by simp [Plain.sent]; omega
  done := h.done
  may := h.may
  undone := h.undone
  seq := by simp [Plain.sent, h.seq]
  fwd := fun h0 => by
    have h0 : s.phase = 0 := h0
    obtain ⟨f1, f2, f3, f4⟩ := h.fwd h0
    refine ⟨f1, by simp [Plain.sent, h0], fun _ => ?_, ?_⟩
    · rw [stepOf_fwd h h0] at hk
      split at hk
      · assumption
      · omega
    · simp only [w1, hw, Plain.sent] at f4 ⊢
      have e : ((s.tries : Int) + 1).toNat = s.tries + 1 := by omega
      rw [e]
      simp at f4 ⊢
      omega
  bwd := fun h1 => by
    have h1 : s.phase = 1 := h1
    obtain ⟨f1, f2, f3, f4, f5, f6⟩ := h.bwd h1
    rw [stepOf_bwd h1] at hk
    refine ⟨f1, f2, by simp [Plain.sent, h1], fun _ => hk, fun h => absurd hk (by show ¬ 0 ≤ target s; have : target s < 0 := h; omega), ?_⟩
    have e : cnt (opn (Plain.sent s ⟨2, stepOf s, s.tries + 1, decide (s.phase = 1), 0⟩)) l.length = cnt (opn s) l.length := rfl
    rw [e]
    simp only [w1, hw, Plain.sent] at f6 ⊢
    have e : ((s.tries : Int) + 1).toNat = s.tries + 1 := by omega
    rw [e]
    simp at f6 ⊢
    omega
  fin := fun h2 => by
    have h2 : 2 ≤ s.phase := h2
    rcases h.phase ho with h0 | h1 <;> omega
  wt := fun _ => by simp [Plain.sent]
  com := fun h2 => by
    have h2 : s.phase = 2 := h2
    rcases h.phase ho with h0 | h1 <;> omega
  cmp := fun h2 => by
    have h2 : s.phase = 3 := h2
    rcases h.phase ho with h0 | h1 <;> omega
  stk := fun h2 => by
    have h2 : s.phase = 4 := h2
    rcases h.phase ho with h0 | h1 <;> omega

/-- .. and how it ends. -/
theorem Inv.ended (h : Inv l lim n s) (hl : mayB l = true) {d : Du} (hd : due s lim = some d) (hk : d.kind ≠ 2) : Inv l lim (n + 1) (ended s d) := by
  obtain ⟨hw, ho, _, hc⟩ := due_cases hd
  have hlen := mayB_len hl
  have hle : lim ≤ lim * l.length := Nat.le_mul_of_pos_right _ (by omega)
  have hb : s.back = false := by
    rcases h.phase ho with h0 | h1
    · exact (h.fwd h0).2.1
    · rw [(h.bwd h1).2.2.1, hw]
  have base : ∀ e : Nat, 2 ≤ e → e ≤ 4 → n + 1 ≤ most l lim → (e = 2 → s.pos = l.length ∧ s.undone = 0) → (e = 3 → s.pos < l.length ∧ kindAt l s.pos ≠ 3 ∧ ∀ i, i < l.length → opn s i = false) →
      (e = 4 → s.undone = 0 ∨ (s.pos < l.length ∧ kindAt l s.pos ≠ 3)) → Inv l lim (n + 1) { s with phase := e, seq := s.seq + 1 } := fun e e1 e2 hn c1 c2 c3 =>
    { steps := h.steps, ph := e2, pos := h.pos, tries := h.tries, done := h.done, may := h.may, undone := h.undone, seq := by simp [h.seq],
      fwd := fun h0 => by have : e = 0 := h0; omega
      bwd := fun h0 => by have : e = 1 := h0; omega
      fin := fun _ => ⟨hw, hb, hn⟩
      wt := fun hw' => by have : s.wait = true := hw'; rw [hw] at this; cases this
      com := c1, cmp := c2, stk := c3 }
  rcases hc with ⟨h1, h2, rfl⟩ | ⟨h1, h2, rfl⟩ | ⟨h1, h2, rfl⟩ | ⟨h1, h2, rfl⟩
  · obtain ⟨f1, f2, f3, f4⟩ := h.fwd h2
    rw [stepOf_fwd h h2] at h1
    have hp := h.pos
    have htr := h.tries
    have hpos : s.pos = l.length := by
      split at h1
      · omega
      · omega
    have e0 : l.length - s.pos = 0 := by omega
    rw [e0] at f4
    refine base 2 (by omega) (by omega) ?_ (fun _ => ⟨hpos, f1⟩) (fun h => by cases h) (fun h => by cases h)
    simp only [Nat.mul_zero] at f4
    omega
  · have hp1 : s.phase = 1 := (h.phase ho).resolve_left h2
    obtain ⟨f1, f2, f3, f4, f5, f6⟩ := h.bwd hp1
    rw [stepOf_bwd hp1] at h1
    have ht0 := f5 h1
    have hno : ∀ i, i < l.length → opn s i = false := by
      have := lastOf_none h1
      rwa [h.steps] at this
    refine base 3 (by omega) (by omega) ?_ (fun h => by cases h) (fun _ => ⟨f1, f2, hno⟩) (fun h => by cases h)
    rw [ht0] at f6
    omega
  · exact absurd rfl hk
  · rcases h.phase ho with hp0 | hp1
    · obtain ⟨f1, f2, f3, f4⟩ := h.fwd hp0
      rw [stepOf_fwd h hp0] at h1
      have htr := h.tries
      split at h1
      · rename_i hlt
        have e := mul_pos_sub (lim := lim) hlt
        refine base 4 (by omega) (by omega) ?_ (fun h => by cases h) (fun h => by cases h) (fun _ => .inl f1)
        omega
      · omega
    · obtain ⟨f1, f2, f3, f4, f5, f6⟩ := h.bwd hp1
      rw [stepOf_bwd hp1] at h1
      obtain ⟨t1, _, _, t4⟩ := target_bit h h1
      have htr := h.tries
      have hc : 1 ≤ cnt (opn s) l.length := cnt_pos t1 t4
      have hm : lim ≤ lim * cnt (opn s) l.length := Nat.le_mul_of_pos_right _ hc
      refine base 4 (by omega) (by omega) ?_ (fun h => by cases h) (fun h => by cases h) (fun _ => .inr ⟨f1, f2⟩)
      omega

theorem done_succ (k : Nat) : (2 ^ k - 1 ||| 2 ^ k : Nat) = 2 ^ (k + 1) - 1 := by
  apply Nat.eq_of_testBit_eq
  intro i
  rw [ones_succ, Nat.testBit_or]

theorem Inv.answered (h : Inv l lim n s) (hl : mayB l = true) (ho : over s = false) (hw : s.wait = true) (g : Bool) : Inv l lim (n + 1) (answered (more s) g) := by
  have hlen := mayB_len hl
  have htr := h.tries
  have hst := h.step_wait ho hw
  have hbit : bitOf (more s) = 2 ^ (stepOf s).toNat := rfl
  rcases h.phase ho with h0 | h1
  · obtain ⟨f1, f2, f3, f4⟩ := h.fwd h0
    have hlt := f3 hw
    have hs : stepOf s = s.pos := by rw [stepOf_fwd h h0, if_pos hlt]
    have hbit : bitOf (more s) = 2 ^ s.pos := by rw [hbit, hs]; rfl
    have e := mul_pos_sub (lim := lim) hlt
    have hle : lim ≤ lim * l.length := Nat.le_mul_of_pos_right _ (by omega)
    have hw1 : w1 s = 1 := by simp [w1, hw]
    have hb : (more s).back = false := f2
    have hk : kindAt (more s).steps (stepOf (more s)).toNat = kindAt l s.pos := by
      show kindAt s.steps (stepOf s).toNat = _
      rw [hs, h.steps]; rfl
    have hmay : ∀ i, (clr s.may (2 ^ s.pos)).testBit i = false := fun i => by
      rw [testBit_clr, testBit_pow]
      by_cases hm : s.may.testBit i = true
      · have := h.may i hm
        have h6 : i < 6 := by omega
        simp [this.1]
        intro _; omega
      · simp at hm; simp [hm]
    unfold Plain.answered
    rw [if_neg (by rw [hb]; decide)]
    cases g with
    | true =>
      rw [if_pos rfl]
      refine { steps := h.steps, ph := h.ph, pos := hlt, tries := Nat.zero_le _, done := ?_, may := ?_, undone := h.undone, seq := by simp [more, h.seq], fwd := fun _ => ⟨f1, rfl, (fun h => by cases h), ?_⟩, bwd := fun h1 => ?_, fin := fun h1 => ?_, wt := (fun h => by cases h), com := fun h1 => ?_, cmp := fun h1 => ?_, stk := fun h1 => ?_ }
      · show s.done ||| bitOf (more s) = _
        rw [hbit, h.done]; exact done_succ _
      · intro i hi
        have hi : (clr s.may (bitOf (more s))).testBit i = true := hi
        rw [hbit, hmay] at hi; cases hi
      · show n + 1 + 2 * (lim * (l.length - (s.pos + 1))) + 2 * (lim * l.length) + 1 + 0 ≤ most l lim + 2 * 0
        omega
      · have : s.phase = 1 := h1; omega
      · have : 2 ≤ s.phase := h1; omega
      · have : s.phase = 2 := h1; omega
      · have : s.phase = 3 := h1; omega
      · have : s.phase = 4 := h1; omega
    | false =>
      rw [if_neg (by decide), hk]
      by_cases h3 : kindAt l s.pos = 3
      · rw [if_pos h3]
        refine { steps := h.steps, ph := h.ph, pos := h.pos, tries := h.tries, done := h.done, may := h.may, undone := h.undone, seq := by simp [more, h.seq], fwd := fun _ => ⟨f1, rfl, (fun h => by cases h), ?_⟩, bwd := fun h1 => ?_, fin := fun h1 => ?_, wt := (fun h => by cases h), com := fun h1 => ?_, cmp := fun h1 => ?_, stk := fun h1 => ?_ }
        · show n + 1 + 2 * (lim * (l.length - s.pos)) + 2 * (lim * l.length) + 1 + 0 ≤ most l lim + 2 * s.tries
          omega
        · have : s.phase = 1 := h1; omega
        · have : 2 ≤ s.phase := h1; omega
        · have : s.phase = 2 := h1; omega
        · have : s.phase = 3 := h1; omega
        · have : s.phase = 4 := h1; omega
      · rw [if_neg h3]
        have hcn : cnt (opn { (more s) with may := clr (more s).may (bitOf (more s)), phase := 1, tries := 0, wait := false, back := false }) l.length ≤ l.length := cnt_le _ _
        have hcm := Nat.mul_le_mul_left lim hcn
        refine { steps := h.steps, ph := show 1 ≤ 4 by decide, pos := h.pos, tries := Nat.zero_le _, done := h.done, may := ?_, undone := h.undone, seq := by simp [more, h.seq], fwd := (fun h => by cases h), bwd := fun _ => ⟨hlt, h3, rfl, (fun h => by cases h), fun _ => rfl, ?_⟩, fin := fun h1 => ?_, wt := (fun h => by cases h), com := (fun h => by cases h), cmp := (fun h => by cases h), stk := (fun h => by cases h) }
        · intro i hi
          have hi : (clr s.may (bitOf (more s))).testBit i = true := hi
          rw [hbit, hmay] at hi; cases hi
        · show n + 1 + 2 * (lim * cnt (opn { (more s) with may := clr (more s).may (bitOf (more s)), phase := 1, tries := 0, wait := false, back := false }) l.length) + 1 + 0 ≤ most l lim + 2 * 0
          omega
        · have : 2 ≤ 1 := h1; omega
  · obtain ⟨f1, f2, f3, f4, f5, f6⟩ := h.bwd h1
    have ht := f4 hw
    have hs : stepOf s = target s := stepOf_bwd h1
    have hw1 : w1 s = 1 := by simp [w1, hw]
    have hb : (more s).back = true := by show s.back = true; rw [f3, hw]
    obtain ⟨t1, t2, t3, t4⟩ := target_bit h ht
    unfold Plain.answered
    rw [if_pos hb]
    cases g with
    | true =>
      rw [if_pos rfl]
      have hbit : bitOf (more s) = 2 ^ (target s).toNat := by rw [hbit, hs]
      have hop : ∀ i, opn { (more s) with undone := (more s).undone ||| bitOf (more s), tries := 0, wait := false, back := false } i = (opn s i && !decide ((target s).toNat = i)) := fun i => by
        show ((kindAt s.steps i == 1) && (s.done.testBit i || s.may.testBit i) && !((s.undone ||| bitOf (more s)).testBit i)) = _
        rw [hbit, Nat.testBit_or, testBit_pow]
        unfold opn
        cases (kindAt s.steps i == 1) && (s.done.testBit i || s.may.testBit i) <;> simp
      have hcn : cnt (opn { (more s) with undone := (more s).undone ||| bitOf (more s), tries := 0, wait := false, back := false }) l.length + 1 = cnt (opn s) l.length :=
        cnt_drop t1 t4 (by rw [hop]; simp) (fun i hi => by rw [hop]; simp; intro _; omega)
      have hcm : lim * cnt (opn s) l.length = lim * cnt (opn { (more s) with undone := (more s).undone ||| bitOf (more s), tries := 0, wait := false, back := false }) l.length + lim := by rw [← hcn, Nat.mul_succ]
      refine { steps := h.steps, ph := h.ph, pos := h.pos, tries := Nat.zero_le _, done := h.done, may := h.may, undone := ?_, seq := by simp [more, h.seq], fwd := fun h0 => ?_, bwd := fun _ => ⟨f1, f2, rfl, (fun h => by cases h), fun _ => rfl, ?_⟩, fin := fun h2 => ?_, wt := (fun h => by cases h), com := fun h2 => ?_, cmp := fun h2 => ?_, stk := fun h2 => ?_ }
      · intro i hi
        have hi : (s.undone ||| bitOf (more s)).testBit i = true := hi
        rw [hbit, Nat.testBit_or, testBit_pow] at hi
        simp at hi
        rcases hi with hi | hi
        · exact h.undone i hi
        · subst hi; exact ⟨t1, t2⟩
      · have : s.phase = 0 := h0; omega
      · show n + 1 + 2 * (lim * cnt (opn { (more s) with undone := (more s).undone ||| bitOf (more s), tries := 0, wait := false, back := false }) l.length) + 1 + 0 ≤ most l lim + 2 * 0
        omega
      · have : 2 ≤ s.phase := h2; omega
      · have : s.phase = 2 := h2; omega
      · have : s.phase = 3 := h2; omega
      · have : s.phase = 4 := h2; omega
    | false =>
      rw [if_neg (by decide)]
      refine { steps := h.steps, ph := h.ph, pos := h.pos, tries := h.tries, done := h.done, may := h.may, undone := h.undone, seq := by simp [more, h.seq], fwd := fun h0 => ?_, bwd := fun _ => ⟨f1, f2, rfl, (fun h => by cases h), f5, ?_⟩, fin := fun h2 => ?_, wt := (fun h => by cases h), com := fun h2 => ?_, cmp := fun h2 => ?_, stk := fun h2 => ?_ }
      · have : s.phase = 0 := h0; omega
      · show n + 1 + 2 * (lim * cnt (opn s) l.length) + 1 + 0 ≤ most l lim + 2 * s.tries
        omega
      · have : 2 ≤ s.phase := h2; omega
      · have : s.phase = 2 := h2; omega
      · have : s.phase = 3 := h2; omega
      · have : s.phase = 4 := h2; omega

theorem Inv.lapsed (h : Inv l lim n s) (hl : mayB l = true) (ho : over s = false) (hw : s.wait = true) : Inv l lim (n + 1) (lapsed (more s) lim) := by
  have hlen := mayB_len hl
  have htr := h.tries
  have hw1 : w1 s = 1 := by simp [w1, hw]
  rcases h.phase ho with h0 | h1
  · obtain ⟨f1, f2, f3, f4⟩ := h.fwd h0
    have hlt := f3 hw
    have hs : stepOf s = s.pos := by rw [stepOf_fwd h h0, if_pos hlt]
    have hbit : bitOf (more s) = 2 ^ s.pos := by
      have : bitOf (more s) = 2 ^ (stepOf s).toNat := rfl
      rw [this, hs]; rfl
    have e := mul_pos_sub (lim := lim) hlt
    have hb : (more s).back = false := f2
    have hk : kindAt (more s).steps (stepOf (more s)).toNat = kindAt l s.pos := by
      show kindAt s.steps (stepOf s).toNat = _
      rw [hs, h.steps]; rfl
    have hmay : ∀ i, (s.may ||| bitOf (more s)).testBit i = true → i = s.pos ∧ s.pos < l.length := fun i hi => by
      rw [hbit, Nat.testBit_or, testBit_pow] at hi
      simp at hi
      rcases hi with hi | hi
      · exact h.may i hi
      · exact ⟨hi.symm, hlt⟩
    unfold Plain.lapsed
    rw [if_neg (by rw [hb]; decide), hk]
    by_cases h3 : kindAt l s.pos = 1 ∧ (more s).tries = lim
    · rw [if_pos h3]
      have hcn : cnt (opn { (more s) with may := (more s).may ||| bitOf (more s), phase := 1, tries := 0, wait := false, back := false }) l.length ≤ l.length := cnt_le _ _
      have hcm := Nat.mul_le_mul_left lim hcn
      refine { steps := h.steps, ph := show 1 ≤ 4 by decide, pos := h.pos, tries := Nat.zero_le _, done := h.done, may := hmay, undone := h.undone, seq := by simp [more, h.seq], fwd := (fun h => by cases h), bwd := fun _ => ⟨hlt, (show kindAt l s.pos ≠ 3 by rw [h3.1]; decide), rfl, (fun h => by cases h), fun _ => rfl, ?_⟩, fin := fun h1 => ?_, wt := (fun h => by cases h), com := (fun h => by cases h), cmp := (fun h => by cases h), stk := (fun h => by cases h) }
      · show n + 1 + 2 * (lim * cnt (opn { (more s) with may := (more s).may ||| bitOf (more s), phase := 1, tries := 0, wait := false, back := false }) l.length) + 1 + 0 ≤ most l lim + 2 * 0
        omega
      · have : 2 ≤ 1 := h1; omega
    · rw [if_neg h3]
      refine { steps := h.steps, ph := h.ph, pos := h.pos, tries := h.tries, done := h.done, may := hmay, undone := h.undone, seq := by simp [more, h.seq], fwd := fun _ => ⟨f1, rfl, (fun h => by cases h), ?_⟩, bwd := fun h1 => ?_, fin := fun h1 => ?_, wt := (fun h => by cases h), com := fun h1 => ?_, cmp := fun h1 => ?_, stk := fun h1 => ?_ }
      · show n + 1 + 2 * (lim * (l.length - s.pos)) + 2 * (lim * l.length) + 1 + 0 ≤ most l lim + 2 * s.tries
        omega
      · have : s.phase = 1 := h1; omega
      · have : 2 ≤ s.phase := h1; omega
      · have : s.phase = 2 := h1; omega
      · have : s.phase = 3 := h1; omega
      · have : s.phase = 4 := h1; omega
  · obtain ⟨f1, f2, f3, f4, f5, f6⟩ := h.bwd h1
    have hb : (more s).back = true := by show s.back = true; rw [f3, hw]
    unfold Plain.lapsed
    rw [if_pos hb]
    refine { steps := h.steps, ph := h.ph, pos := h.pos, tries := h.tries, done := h.done, may := h.may, undone := h.undone, seq := by simp [more, h.seq], fwd := fun h0 => ?_, bwd := fun _ => ⟨f1, f2, rfl, (fun h => by cases h), f5, ?_⟩, fin := fun h2 => ?_, wt := (fun h => by cases h), com := fun h2 => ?_, cmp := fun h2 => ?_, stk := fun h2 => ?_ }
    · have : s.phase = 0 := h0; omega
    · show n + 1 + 2 * (lim * cnt (opn s) l.length) + 1 + 0 ≤ most l lim + 2 * s.tries
      omega
    · have : 2 ≤ s.phase := h2; omega
    · have : s.phase = 2 := h2; omega
    · have : s.phase = 3 := h2; omega
    · have : s.phase = 4 := h2; omega

/-- .. behind one round more. -/
theorem Inv.next (h : Inv l lim n s) (hl : mayB l = true) (ho : over s = false) (ans : List Nat) (k : Nat) : Inv l lim (n + 1) (next lim ans (s, k)).1 := by
  unfold Plain.next
  cases hd : due s lim with
  | some d =>
    dsimp only
    by_cases hk : d.kind = 2
    · rw [if_pos hk]
      obtain ⟨hw, _, _, hc⟩ := due_cases hd
      rcases hc with ⟨_, _, rfl⟩ | ⟨_, _, rfl⟩ | ⟨h1, h2, rfl⟩ | ⟨_, _, rfl⟩
      · exact absurd hk (by decide)
      · exact absurd hk (by decide)
      · exact h.sent hw ho h1 h2
      · exact absurd hk (by decide)
    · rw [if_neg hk]
      exact h.ended hl hd hk
  | none =>
    dsimp only
    have hw := h.due_none hl ho hd
    split
    · exact h.lapsed hl ho hw
    · exact h.answered hl ho hw _
end

theorem inv_iter {l : List (Int × Int)} {lim : Nat} (hl : mayB l = true) (ans : List Nat) : ∀ n, (∀ m, m < n → over (iter l lim ans m).1 = false) → Inv l lim n (iter l lim ans n).1 := by
  intro n
  induction n with
  | zero => intro _; exact Inv.new hl
  | succ n ih => intro h; exact (ih fun m hm => h m (by omega)).next hl (h n (by omega)) ans _
theorem Inv.le {l : List (Int × Int)} {lim n : Nat} {s : Sg} (h : Inv l lim n s) (hl : mayB l = true) : n ≤ most l lim := by
  have hlen := mayB_len hl
  have hle : lim ≤ lim * l.length := Nat.le_mul_of_pos_right _ (by omega)
  have := h.tries
  by_cases h0 : s.phase = 0
  · have f := (h.fwd h0).2.2.2
    omega
  by_cases h1 : s.phase = 1
  · obtain ⟨f1, f2, f3, f4, f5, f6⟩ := h.bwd h1
    by_cases ht : target s < 0
    · have := f5 ht; omega
    · obtain ⟨t1, _, _, t4⟩ := target_bit h (by omega)
      have hm : lim ≤ lim * cnt (opn s) l.length := Nat.le_mul_of_pos_right _ (cnt_pos t1 t4)
      omega
  · exact (h.fin (by omega)).2.2
theorem most_le {l : List (Int × Int)} {lim : Nat} (hl : mayB l = true) (h : lim ≤ 9) : most l lim ≤ 217 := by
  have := mayB_len hl
  have : lim * l.length ≤ 9 * 6 := Nat.mul_le_mul h this.2
  unfold most; omega

/-! ## How a run ends -/
theorem ends_of {l : List (Int × Int)} {lim : Nat} (hl : mayB l = true) {ans : List Nat} {n : Nat} (ho : over (iter l lim ans n).1 = true) (h : ∀ m, m < n → over (iter l lim ans m).1 = false) :
    Ends l lim ans n (iter l lim ans n).1 ∧ Inv l lim n (iter l lim ans n).1 := ⟨⟨rfl, ho, h⟩, inv_iter hl ans n h⟩

/-- What SagaEnds says. -/
theorem ends_all {l : List (Int × Int)} {lim n : Nat} {s : Sg} (hl : mayB l = true) (h : Inv l lim n s) (ho : over s = true) :
    n ≤ most l lim ∧ s.seq = n + 1 ∧ (s.phase = 4 ∨ missing s = 0) ∧
    ∀ i, i < l.length → (s.phase = 2 → s.done.testBit i = true ∧ s.undone.testBit i = false) ∧ (s.phase = 3 → s.done.testBit i = true → s.undone.testBit i = true) ∧
      (s.undone.testBit i = true → kindAt l i = 1) ∧ (kindAt l i = 2 → s.done.testBit i = true → s.undone = 0) := by
  have hlen := mayB_len hl
  have h2 : 2 ≤ s.phase := by simp [over] at ho; exact ho.1
  have hdone : ∀ i, s.done.testBit i = decide (i < s.pos) := fun i => by rw [h.done, Nat.testBit_two_pow_sub_one]
  have hp : s.phase = 2 ∨ s.phase = 3 ∨ s.phase = 4 := by have := h.ph; omega
  have hcmp : s.phase = 3 → ∀ i, i < l.length → s.done.testBit i = true → s.undone.testBit i = true := fun h3 i hi hd => by
    obtain ⟨c1, c2, c3⟩ := h.cmp h3
    have hi2 : i < s.pos := by rw [hdone] at hd; simpa using hd
    have hk := mayB_sorted hl i s.pos hi2 c1 c2
    have := c3 i hi
    unfold opn at this
    rw [h.steps, hk, hd] at this
    simpa using this
  refine ⟨(h.fin h2).2.2, h.seq, ?_, fun i hi => ⟨fun hc => ?_, fun hc => hcmp hc i hi, fun hu => (h.undone i hu).2, fun hk hd => ?_⟩⟩
  · rcases hp with hp | hp | hp
    · right; simp [missing, hp]
    · right
      rw [missing, if_neg (by omega)]
      apply Nat.eq_of_testBit_eq
      intro i
      rw [testBit_clr, Nat.zero_testBit]
      by_cases hi : i < l.length
      · cases hd : s.done.testBit i with
        | false => rfl
        | true =>
          rw [hcmp hp i hi hd]
          have : i < 6 := by omega
          simp [this]
      · have : s.done.testBit i = false := by
          have := h.pos
          rw [hdone]; simp; omega
        rw [this]; rfl
    · exact .inl hp
  · obtain ⟨c1, c2⟩ := h.com hc
    rw [hdone, c2]
    simp; omega
  · rw [hdone] at hd
    have hd : i < s.pos := by simpa using hd
    rcases hp with hp | hp | hp
    · exact (h.com hp).2
    · obtain ⟨c1, c2, _⟩ := h.cmp hp
      have := mayB_sorted hl i s.pos hd c1 c2
      omega
    · rcases h.stk hp with h0 | ⟨c1, c2⟩
      · exact h0
      · have := mayB_sorted hl i s.pos hd c1 c2
        omega
end Go.Proofs.Ytklmhegmombegaa.Plain
