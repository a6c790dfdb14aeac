/-
  Sagas that go well, that go back, that are never answered: how their runs end, in plain Lean.
-/
import Derived.Test.YtklmhegmombegaaLaw
set_option linter.unusedVariables false
set_option linter.unusedSimpArgs false
namespace Go.Proofs.Ytklmhegmombegaa.Plain

/-- A saga of which j steps went well. -/
def fwdS (l : List (Int × Int)) (j : Nat) : Sg := ⟨l, 0, j, 0, false, false, 2 ^ j - 1, 0, 0, 2 * j + 1⟩
def fwdW (l : List (Int × Int)) (j : Nat) : Sg := ⟨l, 0, j, 1, true, false, 2 ^ j - 1, 0, 0, 2 * j + 2⟩
theorem next_fwdS {l : List (Int × Int)} {lim j k : Nat} {ans : List Nat} (hj : j < l.length) (h1 : 1 ≤ lim) : next lim ans (fwdS l j, k) = (fwdW l j, k) := by
  have hst : stepOf (fwdS l j) = j := by simp [stepOf, fwdS, hj]
  have hl : l ≠ [] := by rintro rfl; simp at hj
  have hd : due (fwdS l j) lim = some ⟨2, j, 1, false, 0⟩ := by
    unfold due
    rw [if_neg (by simp [fwdS, over, hl]), hst, if_neg (by omega), if_pos (by show 0 < lim; omega)]
    simp [fwdS]
  unfold next
  simp only [hd]
  rfl
theorem due_fwdW {l : List (Int × Int)} {lim j : Nat} : due (fwdW l j) lim = none := by unfold due; rw [if_pos (.inl rfl)]
theorem next_good {l : List (Int × Int)} {lim j k : Nat} {ans : List Nat} (hj : j < l.length) (ha : (ans[k]?).getD 0 % 3 = 0) : next lim ans (fwdW l j, k) = (fwdS l (j + 1), k + 1) := by
  have hst : stepOf (more (fwdW l j)) = j := by simp [stepOf, fwdW, more, hj]
  have hbit : bitOf (more (fwdW l j)) = 2 ^ j := by rw [bitOf, hst]; rfl
  unfold next
  simp only [due_fwdW, ha]
  rw [if_neg (by decide)]
  have hb : (more (fwdW l j)).back = false := rfl
  unfold answered
  rw [if_neg (by rw [hb]; decide), if_pos (by decide), hbit]
  have e1 : (2 ^ j - 1 ||| 2 ^ j : Nat) = 2 ^ (j + 1) - 1 := done_succ j
  simp only [fwdW, fwdS, more, e1, clr, Nat.zero_and]
  simp only [Prod.mk.injEq, Sg.mk.injEq, true_and, and_true]
  omega
/-- .. goes back. -/
def bwU (k : Nat) : Nat → Nat
  | 0 => 0
  | j + 1 => bwU k j ||| 2 ^ (k - 1 - j)
def bwS (l : List (Int × Int)) (k j : Nat) : Sg := ⟨l, 1, k, 0, false, false, 2 ^ k - 1, bwU k j, 0, 2 * k + 3 + 2 * j⟩
def bwW (l : List (Int × Int)) (k j : Nat) : Sg := ⟨l, 1, k, 1, true, true, 2 ^ k - 1, bwU k j, 0, 2 * k + 4 + 2 * j⟩
theorem next_bad {l : List (Int × Int)} {lim j k : Nat} {ans : List Nat} (hj : j < l.length) (hk : kindAt l j ≠ 3) (ha : (ans[k]?).getD 0 % 3 = 1) : next lim ans (fwdW l j, k) = (bwS l j 0, k + 1) := by
  have hst : stepOf (more (fwdW l j)) = j := by simp [stepOf, fwdW, more, hj]
  have hbit : bitOf (more (fwdW l j)) = 2 ^ j := by rw [bitOf, hst]; rfl
  unfold next
  simp only [due_fwdW, ha]
  rw [if_neg (by decide)]
  have hb : (more (fwdW l j)).back = false := rfl
  unfold answered
  rw [if_neg (by rw [hb]; decide), if_neg (by decide), hst, if_neg (by exact hk), hbit]
  simp only [fwdW, bwS, more, clr, Nat.zero_and, bwU]
theorem bwU_bit (k j : Nat) (h : j ≤ k) (i : Nat) : (bwU k j).testBit i = decide (k - j ≤ i ∧ i < k) := by
  induction j with
  | zero => simp [bwU]
  | succ j ih =>
    rw [bwU, Nat.testBit_or, ih (by omega), testBit_pow]
    rw [Bool.eq_iff_iff]
    simp
    omega
theorem opn_bw {l : List (Int × Int)} {k j : Nat} (hl : mayB l = true) (hk : k < l.length) (hk3 : kindAt l k ≠ 3) (hj : j ≤ k) (i : Nat) (s : Sg) (hs : s.steps = l ∧ s.done = 2 ^ k - 1 ∧ s.may = 0 ∧ s.undone = bwU k j) :
    opn s i = decide (i < k - j) := by
  obtain ⟨h1, h2, h3, h4⟩ := hs
  unfold opn
  rw [h1, h2, h3, h4, Nat.testBit_two_pow_sub_one, Nat.zero_testBit, bwU_bit k j hj, Bool.eq_iff_iff]
  by_cases hi : i < k
  · have := mayB_sorted hl i k hi hk hk3
    simp [this]; omega
  · simp; omega
theorem target_bw {l : List (Int × Int)} {k j : Nat} (hl : mayB l = true) (hk : k < l.length) (hk3 : kindAt l k ≠ 3) (hj : j < k) (s : Sg) (hs : s.steps = l ∧ s.done = 2 ^ k - 1 ∧ s.may = 0 ∧ s.undone = bwU k j) : target s = ((k - 1 - j : Nat) : Int) := by
  unfold target
  rw [hs.1]
  refine lastOf_eq (by omega) ?_ fun i h1 h2 => ?_
  · rw [opn_bw hl hk hk3 (by omega) _ s hs]; simp; omega
  · rw [opn_bw hl hk hk3 (by omega) _ s hs]; simp; omega
theorem next_bwS {l : List (Int × Int)} {lim k j n : Nat} {ans : List Nat} (hl : mayB l = true) (hk : k < l.length) (hk3 : kindAt l k ≠ 3) (hj : j < k) (h1 : 1 ≤ lim) : next lim ans (bwS l k j, n) = (bwW l k j, n) := by
  have ht := target_bw hl hk hk3 hj (bwS l k j) ⟨rfl, rfl, rfl, rfl⟩
  have hst : stepOf (bwS l k j) = ((k - 1 - j : Nat) : Int) := (stepOf_bwd rfl).trans ht
  have hd : due (bwS l k j) lim = some ⟨2, ((k - 1 - j : Nat) : Int), 1, true, 0⟩ := by
    unfold due
    rw [if_neg (by simp [bwS, over, ne_nil hl]), hst, if_neg (by omega), if_pos (by show 0 < lim; omega)]
    simp [bwS]
  unfold next
  simp only [hd]
  rw [if_pos trivial]
  simp only [sent, bwS, bwW]
  simp only [Prod.mk.injEq, Sg.mk.injEq, true_and, and_true]
  omega
theorem next_bwW {l : List (Int × Int)} {lim k j n : Nat} {ans : List Nat} (hl : mayB l = true) (hk : k < l.length) (hk3 : kindAt l k ≠ 3) (hj : j < k) (ha : (ans[n]?).getD 0 % 3 = 0) : next lim ans (bwW l k j, n) = (bwS l k (j + 1), n + 1) := by
  have ht := target_bw hl hk hk3 hj (more (bwW l k j)) ⟨rfl, rfl, rfl, rfl⟩
  have hst : stepOf (more (bwW l k j)) = ((k - 1 - j : Nat) : Int) := (stepOf_bwd rfl).trans ht
  have hbit : bitOf (more (bwW l k j)) = 2 ^ (k - 1 - j) := by rw [bitOf, hst]; rfl
  have hd : due (bwW l k j) lim = none := by unfold due; rw [if_pos (.inl rfl)]
  unfold next
  simp only [hd, ha]
  rw [if_neg (by decide)]
  have hb : (more (bwW l k j)).back = true := rfl
  unfold answered
  rw [if_pos hb, if_pos (by decide), hbit]
  simp only [bwW, bwS, more, bwU]
  simp only [Prod.mk.injEq, Sg.mk.injEq, true_and, and_true]
  omega

section
variable {l : List (Int × Int)} {lim : Nat} {ans : List Nat}
theorem iter_fwd (h1 : 1 ≤ lim) (j : Nat) (hj : j ≤ l.length) (ha : ∀ i, i < j → (ans[i]?).getD 0 % 3 = 0) : iter l lim ans (2 * j) = (fwdS l j, j) := by
  induction j with
  | zero => rfl
  | succ j ih =>
    have := ih (by omega) fun i hi => ha i (by omega)
    have e : 2 * (j + 1) = 2 * j + 1 + 1 := by omega
    rw [e, iter, iter, this, next_fwdS (by omega) h1, next_good (by omega) (ha j (by omega))]
theorem iter_fwdW (h1 : 1 ≤ lim) (j : Nat) (hj : j < l.length) (ha : ∀ i, i < j → (ans[i]?).getD 0 % 3 = 0) : iter l lim ans (2 * j + 1) = (fwdW l j, j) := by
  rw [iter, iter_fwd h1 j (by omega) ha, next_fwdS hj h1]
/-- All calls go well. -/
theorem ends_good (hl : mayB l = true) (h1 : 1 ≤ lim) (ha : ∀ i, i < l.length → (ans[i]?).getD 0 % 3 = 0) : Ends l lim ans (2 * l.length + 1) { fwdS l l.length with phase := 2, seq := 2 * l.length + 2 } := by
  have hst : stepOf (fwdS l l.length) = -1 := by simp [stepOf, fwdS]
  have hd : due (fwdS l l.length) lim = some ⟨5, 0, 0, false, 2⟩ := by
    unfold due
    rw [if_neg (by simp [fwdS, over, ne_nil hl]), hst, if_pos (by decide), if_pos (show (fwdS l l.length).phase = 0 from rfl)]
  refine ⟨?_, rfl, fun m hm => ?_⟩
  · rw [iter, iter_fwd h1 _ (Nat.le_refl _) ha]
    unfold next
    simp only [hd]
    rfl
  · rcases Nat.mod_two_eq_zero_or_one m with h0 | h0
    · obtain ⟨j, rfl⟩ : ∃ j, m = 2 * j := ⟨m / 2, by omega⟩
      rw [iter_fwd h1 j (by omega) fun i hi => ha i (by omega)]; rfl
    · obtain ⟨j, rfl⟩ : ∃ j, m = 2 * j + 1 := ⟨m / 2, by omega⟩
      rw [iter_fwdW h1 j (by omega) fun i hi => ha i (by omega)]; rfl

theorem iter_bw (hl : mayB l = true) (h1 : 1 ≤ lim) {k : Nat} (hk : k < l.length) (hk3 : kindAt l k ≠ 3) (ha : ∀ i, i ≠ k → (ans[i]?).getD 0 % 3 = 0) (hak : (ans[k]?).getD 0 % 3 = 1) (j : Nat) (hj : j ≤ k) :
    iter l lim ans (2 * k + 2 + 2 * j) = (bwS l k j, k + 1 + j) := by
  induction j with
  | zero =>
    have e : 2 * k + 2 + 2 * 0 = 2 * k + 1 + 1 := by omega
    rw [e, iter, iter_fwdW h1 k hk fun i hi => ha i (by omega), next_bad hk hk3 hak]
  | succ j ih =>
    have := ih (by omega)
    have e : 2 * k + 2 + 2 * (j + 1) = 2 * k + 2 + 2 * j + 1 + 1 := by omega
    rw [e, iter, iter, this, next_bwS hl hk hk3 (by omega) h1, next_bwW hl hk hk3 (by omega) (ha _ (by omega))]; rfl
theorem iter_bwW (hl : mayB l = true) (h1 : 1 ≤ lim) {k : Nat} (hk : k < l.length) (hk3 : kindAt l k ≠ 3) (ha : ∀ i, i ≠ k → (ans[i]?).getD 0 % 3 = 0) (hak : (ans[k]?).getD 0 % 3 = 1) (j : Nat) (hj : j < k) :
    iter l lim ans (2 * k + 2 + 2 * j + 1) = (bwW l k j, k + 1 + j) := by
  rw [iter, iter_bw hl h1 hk hk3 ha hak j (by omega), next_bwS hl hk hk3 hj h1]
/-- One call does not go well; all compensations do. -/
theorem ends_back (hl : mayB l = true) (h1 : 1 ≤ lim) {k : Nat} (hk : k < l.length) (hk3 : kindAt l k ≠ 3) (ha : ∀ i, i ≠ k → (ans[i]?).getD 0 % 3 = 0) (hak : (ans[k]?).getD 0 % 3 = 1) :
    Ends l lim ans (2 * (k + 1) + 2 * k + 1) { bwS l k k with phase := 3, seq := 4 * k + 4 } := by
  have ht : target (bwS l k k) = -1 := by
    unfold target
    refine lastOf_no fun i hi => ?_
    rw [opn_bw hl hk hk3 (Nat.le_refl _) i (bwS l k k) ⟨rfl, rfl, rfl, rfl⟩]; simp
  have hst : stepOf (bwS l k k) = -1 := (stepOf_bwd rfl).trans ht
  have hd : due (bwS l k k) lim = some ⟨5, 0, 0, false, 3⟩ := by
    unfold due
    rw [if_neg (by simp [bwS, over, ne_nil hl]), hst, if_pos (by decide), if_neg (show ¬ (bwS l k k).phase = 0 from (by decide : ¬ (1 : Nat) = 0))]
  refine ⟨?_, rfl, fun m hm => ?_⟩
  · have e : 2 * (k + 1) + 2 * k + 1 = 2 * k + 2 + 2 * k + 1 := by omega
    rw [e, iter, iter_bw hl h1 hk hk3 ha hak k (Nat.le_refl _)]
    unfold next
    simp only [hd]
    rw [if_neg (by decide)]
    simp only [ended, bwS]
    simp only [Sg.mk.injEq, true_and]
    omega
  · by_cases hmk : m < 2 * k + 2
    · rcases Nat.mod_two_eq_zero_or_one m with h0 | h0
      · obtain ⟨j, rfl⟩ : ∃ j, m = 2 * j := ⟨m / 2, by omega⟩
        rw [iter_fwd h1 j (by omega) fun i hi => ha i (by omega)]; rfl
      · obtain ⟨j, rfl⟩ : ∃ j, m = 2 * j + 1 := ⟨m / 2, by omega⟩
        rw [iter_fwdW h1 j (by omega) fun i hi => ha i (by omega)]; rfl
    · rcases Nat.mod_two_eq_zero_or_one m with h0 | h0
      · obtain ⟨j, rfl⟩ : ∃ j, m = 2 * k + 2 + 2 * j := ⟨(m - (2 * k + 2)) / 2, by omega⟩
        rw [iter_bw hl h1 hk hk3 ha hak j (by omega)]; rfl
      · obtain ⟨j, rfl⟩ : ∃ j, m = 2 * k + 2 + 2 * j + 1 := ⟨(m - (2 * k + 2)) / 2, by omega⟩
        rw [iter_bwW hl h1 hk hk3 ha hak j (by omega)]; rfl

/-! ## No call is answered -/
def tryS (l : List (Int × Int)) (j : Nat) : Sg := ⟨l, 0, 0, j, false, false, 0, 0, if j = 0 then 0 else 1, 2 * j + 1⟩
def tryW (l : List (Int × Int)) (j : Nat) : Sg := ⟨l, 0, 0, j + 1, true, false, 0, 0, if j = 0 then 0 else 1, 2 * j + 2⟩
def undS (l : List (Int × Int)) (lim j : Nat) : Sg := ⟨l, 1, 0, j, false, false, 0, 0, 1, 2 * lim + 2 * j + 1⟩
def undW (l : List (Int × Int)) (lim j : Nat) : Sg := ⟨l, 1, 0, j + 1, true, true, 0, 0, 1, 2 * lim + 2 * j + 2⟩
theorem next_tryS (hl : mayB l = true) {j n : Nat} (hj : j < lim) : next lim ans (tryS l j, n) = (tryW l j, n) := by
  have hlen := mayB_len hl
  have hst : stepOf (tryS l j) = 0 := by simp [stepOf, tryS]; omega
  have hd : due (tryS l j) lim = some ⟨2, 0, j + 1, false, 0⟩ := by
    unfold due
    rw [if_neg (by simp [tryS, over, ne_nil hl]), hst, if_neg (by omega), if_pos (by exact hj)]
    simp [tryS]
  unfold next
  simp only [hd]
  rw [if_pos trivial]
  simp only [sent, tryS, tryW]
  simp only [Prod.mk.injEq, Sg.mk.injEq, true_and, and_true]
  omega
theorem next_tryW (hl : mayB l = true) {j n : Nat} (ha : (ans[n]?).getD 0 % 3 = 2) :
    next lim ans (tryW l j, n) = (if kindAt l 0 = 1 ∧ j + 1 = lim then undS l lim 0 else tryS l (j + 1), n + 1) := by
  have hlen := mayB_len hl
  have hst : stepOf (more (tryW l j)) = 0 := by simp [stepOf, tryW, more]; omega
  have hbit : bitOf (more (tryW l j)) = 1 := by rw [bitOf, hst]; rfl
  have hd : due (tryW l j) lim = none := by unfold due; rw [if_pos (.inl rfl)]
  have hor : ((if j = 0 then 0 else 1 : Nat) ||| 1) = 1 := by split <;> rfl
  unfold next
  simp only [hd, ha]
  rw [if_pos trivial]
  have hb : (more (tryW l j)).back = false := rfl
  unfold lapsed
  rw [if_neg (by rw [hb]; decide), hst, hbit]
  have e1 : (more (tryW l j)).tries = j + 1 := rfl
  have e2 : kindAt (more (tryW l j)).steps (0 : Int).toNat = kindAt l 0 := rfl
  rw [e1, e2]
  by_cases h : kindAt l 0 = 1 ∧ j + 1 = lim
  · rw [if_pos h, if_pos h]
    simp only [tryW, undS, more, hor]
    simp only [Prod.mk.injEq, Sg.mk.injEq, true_and, and_true]
    omega
  · rw [if_neg h, if_neg h]
    simp only [tryW, tryS, more, hor]
    simp
    omega
theorem target_und (hl : mayB l = true) (hk : kindAt l 0 = 1) (s : Sg) (hs : s.steps = l ∧ s.done = 0 ∧ s.may = 1 ∧ s.undone = 0) : target s = 0 := by
  have hlen := mayB_len hl
  obtain ⟨h1, h2, h3, h4⟩ := hs
  unfold target
  rw [h1]
  have := lastOf_eq (p := opn s) (n := l.length) (k := 0) (by omega) (by simp [opn, h1, h2, h3, h4, hk]) (fun i hi _ => by
    have : (1 : Nat).testBit i = false := by
      rw [show (1 : Nat) = 2 ^ 0 from rfl, testBit_pow]; simp; omega
    simp [opn, h2, h3, this])
  exact this
theorem next_undS (hl : mayB l = true) (hk : kindAt l 0 = 1) {j n : Nat} (hj : j < lim) : next lim ans (undS l lim j, n) = (undW l lim j, n) := by
  have ht := target_und hl hk (undS l lim j) ⟨rfl, rfl, rfl, rfl⟩
  have hst : stepOf (undS l lim j) = 0 := (stepOf_bwd rfl).trans ht
  have hd : due (undS l lim j) lim = some ⟨2, 0, j + 1, true, 0⟩ := by
    unfold due
    rw [if_neg (by simp [undS, over, ne_nil hl]), hst, if_neg (by omega), if_pos (by exact hj)]
    simp [undS]
  unfold next
  simp only [hd]
  rw [if_pos trivial]
  simp only [sent, undS, undW]
  simp only [Prod.mk.injEq, Sg.mk.injEq, true_and, and_true]
  omega
theorem next_undW {j n : Nat} (ha : (ans[n]?).getD 0 % 3 = 2) : next lim ans (undW l lim j, n) = (undS l lim (j + 1), n + 1) := by
  have hd : due (undW l lim j) lim = none := by unfold due; rw [if_pos (.inl rfl)]
  unfold next
  simp only [hd, ha]
  rw [if_pos trivial]
  have hb : (more (undW l lim j)).back = true := rfl
  unfold lapsed
  rw [if_pos hb]
  simp only [undW, undS, more]
  simp only [Prod.mk.injEq, Sg.mk.injEq, true_and, and_true]
  omega
theorem iter_try (hl : mayB l = true) (ha : ∀ i, i < 30 → (ans[i]?).getD 0 % 3 = 2) (hlim : lim ≤ 9) (j : Nat) (hj : j < lim ∨ (j = lim ∧ kindAt l 0 ≠ 1)) : iter l lim ans (2 * j) = (tryS l j, j) := by
  induction j with
  | zero => rfl
  | succ j ih =>
    have := ih (by omega)
    have e : 2 * (j + 1) = 2 * j + 1 + 1 := by omega
    rw [e, iter, iter, this, next_tryS hl (by omega), next_tryW hl (ha j (by omega)), if_neg (by omega)]
theorem iter_und (hl : mayB l = true) (ha : ∀ i, i < 30 → (ans[i]?).getD 0 % 3 = 2) (h1 : 1 ≤ lim) (hlim : lim ≤ 9) (hk : kindAt l 0 = 1) (j : Nat) (hj : j ≤ lim) : iter l lim ans (2 * lim + 2 * j) = (undS l lim j, lim + j) := by
  induction j with
  | zero =>
    obtain ⟨m, rfl⟩ : ∃ m, lim = m + 1 := ⟨lim - 1, by omega⟩
    have e : 2 * (m + 1) + 2 * 0 = 2 * m + 1 + 1 := by omega
    rw [e, iter, iter, iter_try hl ha hlim m (.inl (by omega)), next_tryS hl (by omega), next_tryW hl (ha m (by omega)), if_pos ⟨hk, rfl⟩]
  | succ j ih =>
    have := ih (by omega)
    have e : 2 * lim + 2 * (j + 1) = 2 * lim + 2 * j + 1 + 1 := by omega
    rw [e, iter, iter, this, next_undS hl hk (by omega), next_undW (ha _ (by omega))]; rfl
/-- .. of a first step that can be compensated. -/
theorem ends_try_comp (hl : mayB l = true) (ha : ∀ i, i < 30 → (ans[i]?).getD 0 % 3 = 2) (h1 : 1 ≤ lim) (hlim : lim ≤ 9) (hk : kindAt l 0 = 1) : Ends l lim ans (4 * lim + 1) { undS l lim lim with phase := 4, seq := 4 * lim + 2 } := by
  have ht := target_und hl hk (undS l lim lim) ⟨rfl, rfl, rfl, rfl⟩
  have hst : stepOf (undS l lim lim) = 0 := (stepOf_bwd rfl).trans ht
  have hd : due (undS l lim lim) lim = some ⟨5, 0, 0, false, 4⟩ := by
    unfold due
    rw [if_neg (by simp [undS, over, ne_nil hl]), hst, if_neg (by omega), if_neg (by simp [undS])]
  refine ⟨?_, rfl, fun m hm => ?_⟩
  · have e : 4 * lim + 1 = 2 * lim + 2 * lim + 1 := by omega
    rw [e, iter, iter_und hl ha h1 hlim hk lim (Nat.le_refl _)]
    unfold next
    simp only [hd]
    rw [if_neg (by decide)]
    simp only [ended, undS]
    simp only [Sg.mk.injEq, true_and]
    omega
  · by_cases hmk : m < 2 * lim
    · rcases Nat.mod_two_eq_zero_or_one m with h0 | h0
      · obtain ⟨j, rfl⟩ : ∃ j, m = 2 * j := ⟨m / 2, by omega⟩
        rw [iter_try hl ha hlim j (.inl (by omega))]; rfl
      · obtain ⟨j, rfl⟩ : ∃ j, m = 2 * j + 1 := ⟨m / 2, by omega⟩
        rw [iter, iter_try hl ha hlim j (.inl (by omega)), next_tryS hl (by omega)]; rfl
    · rcases Nat.mod_two_eq_zero_or_one m with h0 | h0
      · obtain ⟨j, rfl⟩ : ∃ j, m = 2 * lim + 2 * j := ⟨(m - 2 * lim) / 2, by omega⟩
        rw [iter_und hl ha h1 hlim hk j (by omega)]; rfl
      · obtain ⟨j, rfl⟩ : ∃ j, m = 2 * lim + 2 * j + 1 := ⟨(m - 2 * lim) / 2, by omega⟩
        rw [iter, iter_und hl ha h1 hlim hk j (by omega), next_undS hl hk (by omega)]; rfl
/-- .. of another. -/
theorem ends_try (hl : mayB l = true) (ha : ∀ i, i < 30 → (ans[i]?).getD 0 % 3 = 2) (_h1 : 1 ≤ lim) (hlim : lim ≤ 9) (hk : kindAt l 0 ≠ 1) : Ends l lim ans (2 * lim + 1) { tryS l lim with phase := 4, seq := 2 * lim + 2 } := by
  have hlen := mayB_len hl
  have hst : stepOf (tryS l lim) = 0 := by simp [stepOf, tryS]; omega
  have hd : due (tryS l lim) lim = some ⟨5, 0, 0, false, 4⟩ := by
    unfold due
    rw [if_neg (by simp [tryS, over, ne_nil hl]), hst, if_neg (by omega), if_neg (by simp [tryS])]
  refine ⟨?_, rfl, fun m hm => ?_⟩
  · rw [iter, iter_try hl ha hlim lim (.inr ⟨rfl, hk⟩)]
    unfold next
    simp only [hd]
    rfl
  · rcases Nat.mod_two_eq_zero_or_one m with h0 | h0
    · obtain ⟨j, rfl⟩ : ∃ j, m = 2 * j := ⟨m / 2, by omega⟩
      rw [iter_try hl ha hlim j (by omega)]; rfl
    · obtain ⟨j, rfl⟩ : ∃ j, m = 2 * j + 1 := ⟨m / 2, by omega⟩
      rw [iter, iter_try hl ha hlim j (.inl (by omega)), next_tryS hl (by omega)]; rfl
end
end Go.Proofs.Ytklmhegmombegaa.Plain
