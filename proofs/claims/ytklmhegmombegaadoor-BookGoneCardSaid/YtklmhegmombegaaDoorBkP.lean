/-
  The laws of books, in plain Lean.
-/
import Derived.Test.YtklmhegmombegaaDoorBkH
set_option linter.unusedVariables false
set_option linter.unusedSimpArgs false
namespace Go.Proofs.YtklmhegmombegaaDoor.Re.Plain

theorem ofFrom_ge {lim : Int} : ∀ (l : List Rx) (b : Bk) (k : Nat), k ≤ (ofFrom lim b k l).2 ∧ (ofFrom lim b k l).2 ≤ k + l.length := by
  intro l
  induction l with
  | nil => intro b k; simp [ofFrom]
  | cons x l ih =>
    intro b k
    cases h : bgo b x lim with
    | none => rw [ofFrom_no h]; simp
    | some c => rw [ofFrom_yes h]; have := ih c (k + 1); simp only [List.length_cons]; omega
theorem ofFrom_same {lim : Int} : ∀ (l : List Rx) (b : Bk) (k : Nat), (ofFrom lim b k l).2 = k → (ofFrom lim b k l).1 = b := by
  intro l b k
  cases l with
  | nil => intro _; rfl
  | cons x l =>
    intro hk
    cases h : bgo b x lim with
    | none => rw [ofFrom_no h]
    | some c => rw [ofFrom_yes h] at hk; have := (ofFrom_ge l c (k + 1) (lim := lim)).1; omega
/-- The last record that goes. -/
theorem ofFrom_last {lim : Int} : ∀ (l : List Rx) (b : Bk) (k : Nat), k < (ofFrom lim b k l).2 → ∃ b' x, l[(ofFrom lim b k l).2 - 1 - k]? = some x ∧ bgo b' x lim = some (ofFrom lim b k l).1 := by
  intro l
  induction l with
  | nil => intro b k h; simp [ofFrom] at h
  | cons x l ih =>
    intro b k hk
    cases h : bgo b x lim with
    | none => rw [ofFrom_no h] at hk; simp at hk
    | some c =>
      rw [ofFrom_yes h] at hk ⊢
      have hge := ofFrom_ge l c (k + 1) (lim := lim)
      by_cases e : (ofFrom lim c (k + 1) l).2 = k + 1
      · refine ⟨b, x, ?_, ?_⟩
        · rw [e]; simp
        · rw [ofFrom_same l c (k + 1) e]; exact h
      · obtain ⟨b', y, h1, h2⟩ := ih c (k + 1) (by omega)
        refine ⟨b', y, ?_, h2⟩
        have : (ofFrom lim c (k + 1) l).2 - 1 - k = ((ofFrom lim c (k + 1) l).2 - 1 - (k + 1)) + 1 := by omega
        rw [this, List.getElem?_cons_succ]; exact h1
theorem bcall_twice {b c : Bk} {x : Rx} {lim : Nat} (h : bcall b x lim = some c) : bcall c x lim = none := by
  unfold bcall at h
  split at h
  · rename_i s hs
    split at h
    · rename_i t ht
      cases h
      have hlt : x.saga.toNat < b.sagas.length := (List.getElem?_eq_some_iff.1 hs).1
      unfold bcall
      simp only [List.getElem?_set_self hlt]
      have hq := go_seq ht
      have hno : go t x.rc lim = none := by
        unfold go
        rw [if_pos]
        left
        rw [hq.1, hq.2]
        omega
      rw [hno]
    · cases h
  · cases h
theorem breceipt_some {b c : Bk} {x : Rx} {lim : Nat} (h : breceipt b x lim = some c) : bcall b x lim = some c := by
  unfold breceipt at h
  split at h
  · split at h
    · exact h
    · cases h
  · cases h
theorem breceipt_none {b : Bk} {x : Rx} {lim : Nat} (h : bcall b x lim = none) : breceipt b x lim = none := by
  unfold breceipt
  split
  · split
    · exact h
    · rfl
  · rfl
/-- No record goes twice, one behind itself. -/
theorem bgo_twice {b c : Bk} {x : Rx} {lim : Int} (h : bgo b x lim = some c) : bgo c x lim = none := by
  unfold bgo at h ⊢
  split at h
  · rename_i hr
    rw [if_pos hr]
    split at h
    · rename_i k1
      rw [if_pos k1]
      unfold bbegin at h ⊢
      split at h
      · rename_i hb
        cases h
        rw [if_neg]
        rintro ⟨h1, _⟩
        rw [hb.1] at h1
        simp at h1
        omega
      · cases h
    rename_i k1
    rw [if_neg k1]
    split at h
    · rename_i k3
      rw [if_pos k3]
      exact breceipt_none (bcall_twice (breceipt_some h))
    rename_i k3
    rw [if_neg k3]
    split at h
    · rename_i k6
      rw [if_pos k6]
      unfold brotate at h ⊢
      split at h
      · cases h
        rw [if_neg]
        simp
        omega
      · cases h
    · rename_i k6
      rw [if_neg k6]
      exact bcall_twice h
  · cases h
theorem book_twice {l : List Rx} {lim : Int} {x : Rx} (h : 0 < (bookOf l lim).2) (hx : l[(bookOf l lim).2 - 1]? = some x) : bgo (bookOf l lim).1 x lim = none := by
  obtain ⟨b', y, h1, h2⟩ := ofFrom_last l Bk.zero 0 h
  have e : (ofFrom lim Bk.zero 0 l).2 - 1 - 0 = (bookOf l lim).2 - 1 := rfl
  rw [e, hx] at h1
  cases h1
  exact bgo_twice h2
theorem bookOf_le (l : List Rx) (lim : Int) : (bookOf l lim).2 ≤ l.length := by have := (ofFrom_ge l Bk.zero 0 (lim := lim)).2; unfold bookOf; omega
theorem sameB_self (s : Sg) : sameB s s = true := by unfold sameB; simp
end Go.Proofs.YtklmhegmombegaaDoor.Re.Plain
