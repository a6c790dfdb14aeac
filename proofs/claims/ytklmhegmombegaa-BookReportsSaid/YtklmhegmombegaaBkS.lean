/-
  One record turns one saga, or an epoch, alone; the records of a saga, one by one. Plain Lean.
-/
import Derived.Test.YtklmhegmombegaaBkQ
set_option linter.unusedVariables false
set_option linter.unusedSimpArgs false
namespace Go.Proofs.Ytklmhegmombegaa.Plain

def differs (b c : Bk) (i : Nat) : Bool := match b.sagas[i]?, c.sagas[i]? with
  | some s, some t => !sameB s t
  | _, _ => false
/-- How many of the first sagas differ. -/
def cntTo (b c : Bk) : Nat → Nat
  | 0 => 0
  | k + 1 => cntTo b c k + (if differs b c k = true then 1 else 0)
theorem cntTo_le {b c : Bk} (k : Nat) : cntTo b c k ≤ k := by
  induction k with
  | zero => exact Nat.le_refl _
  | succ k ih => simp only [cntTo]; split <;> omega
theorem differs_same {b c : Bk} {i : Nat} (h : b.sagas[i]? = c.sagas[i]?) : differs b c i = false := by
  unfold differs
  rw [h]
  cases c.sagas[i]? with
  | none => rfl
  | some s => simp [sameB_self]
theorem cntTo_same {b c : Bk} {k : Nat} (h : ∀ i, i < k → b.sagas[i]? = c.sagas[i]?) : cntTo b c k = 0 := by
  induction k with
  | zero => rfl
  | succ k ih => rw [cntTo, ih (fun i hi => h i (by omega)), differs_same (h k (by omega))]; rfl
theorem cntTo_one {b c : Bk} {k j : Nat} (hj : j < k) (h : ∀ i, i < k → i ≠ j → b.sagas[i]? = c.sagas[i]?) (hd : differs b c j = true) : cntTo b c k = 1 := by
  induction k with
  | zero => omega
  | succ k ih =>
    rw [cntTo]
    by_cases e : j = k
    · subst e
      rw [cntTo_same (fun i hi => h i (by omega) (by omega)), if_pos hd]
    · rw [ih (by omega) (fun i hi hne => h i (by omega) hne), differs_same (h k (by omega) (Ne.symm e))]; rfl
theorem sameB_seq {s t : Sg} (h : s.seq ≠ t.seq) : sameB s t = false := by
  cases e : sameB s t with
  | false => rfl
  | true => unfold sameB tenOf at e; simp at e; omega
/-- What one record turns. -/
theorem Turn.one {lim : Nat} {b c : Bk} {x : Rx} (h : Turn lim b x c) : b.sagas.length ≤ c.sagas.length ∧ ((c.sagas.length : Int) - b.sagas.length) + (cntTo b c b.sagas.length : Nat) + (eps c - eps b) = 1 := by
  cases h with
  | begin k1 hx hm =>
    have e : cntTo b { b with sagas := b.sagas ++ [new x.steps] } b.sagas.length = 0 := cntTo_same fun i hi => by
      show _ = (b.sagas ++ [new x.steps])[i]?
      rw [List.getElem?_append_left hi]
    rw [e]
    refine ⟨by simp, ?_⟩
    simp only [List.length_append, List.length_singleton, eps]
    omega
  | @call s t h2 h5 h0 hs hg =>
    have hlt : x.saga.toNat < b.sagas.length := (List.getElem?_eq_some_iff.1 hs).1
    have e : cntTo b { b with sagas := b.sagas.set x.saga.toNat t } b.sagas.length = 1 := by
      refine cntTo_one (j := x.saga.toNat) hlt (fun i hi hne => ?_) ?_
      · show _ = (b.sagas.set x.saga.toNat t)[i]?
        rw [List.getElem?_set_ne (Ne.symm hne)]
      · show (match b.sagas[x.saga.toNat]?, (b.sagas.set x.saga.toNat t)[x.saga.toNat]? with
          | some s, some t => !sameB s t
          | _, _ => false) = true
        rw [hs, List.getElem?_set_self hlt]
        show (!sameB s t) = true
        rw [sameB_seq (by have := (go_seq hg).2; omega)]; rfl
    rw [e]
    refine ⟨by simp, ?_⟩
    simp only [List.length_set, eps]
    omega
  | rot k6 hp0 hp3 he =>
    have e : cntTo b { b with ep := fun p => if p = x.part.toNat then x.epoch else b.ep p } b.sagas.length = 0 := cntTo_same fun i hi => rfl
    rw [e]
    refine ⟨Nat.le_refl _, ?_⟩
    obtain ⟨p, hp⟩ : ∃ p : Nat, x.part.toNat = p := ⟨_, rfl⟩
    have hp4 : p = 0 ∨ p = 1 ∨ p = 2 ∨ p = 3 := by omega
    simp only [eps]
    rw [hp] at he ⊢
    rcases hp4 with rfl | rfl | rfl | rfl <;> simp <;> omega

/-- The first of a saga's records make a saga too; the next goes. -/
theorem Runs.take {lim : Nat} {l : List Rx} {s : Sg} (h : Runs lim l s) : ∀ k, 1 ≤ k → k < l.length → ∃ (s' t : Sg) (x : Rx), Runs lim (l.take k) s' ∧ l[k]? = some x ∧ go s' x.rc lim = some t ∧ Runs lim (l.take (k + 1)) t := by
  induction h with
  | first => intro k h1 h2; simp at h2; omega
  | @next l s t x hr hg ih =>
    intro k h1 h2
    simp only [List.length_append, List.length_singleton] at h2
    by_cases e : k < l.length
    · obtain ⟨s', t', y, h3, h4, h5, h6⟩ := ih k h1 e
      refine ⟨s', t', y, ?_, ?_, h5, ?_⟩
      · rw [List.take_append_of_le_length (by omega)]; exact h3
      · rw [List.getElem?_append_left e]; exact h4
      · rw [List.take_append_of_le_length (by omega)]; exact h6
    · have ek : k = l.length := by omega
      subst ek
      refine ⟨s, t, x, ?_, by simp, hg, ?_⟩
      · rw [List.take_append_of_le_length (Nat.le_refl _), List.take_length]; exact hr
      · rw [List.take_of_length_le (by simp)]; exact .next hr hg
theorem Runs.first' {lim : Nat} {l : List Rx} {s : Sg} (h : Runs lim l s) : ∃ x xs, l = x :: xs ∧ x.kind = 1 ∧ mayB x.steps = true ∧ Runs lim [x] (new x.steps) := by
  induction h with
  | @first x k1 hm => exact ⟨x, [], rfl, k1, hm, .first k1 hm⟩
  | next hr hg ih =>
    obtain ⟨x, xs, rfl, h⟩ := ih
    exact ⟨x, xs ++ [_], rfl, h⟩
theorem Runs.unique {lim : Nat} {l : List Rx} {s : Sg} (h : Runs lim l s) : ∀ {t : Sg}, Runs lim l t → s = t := by
  induction h with
  | @first x k1 hm =>
    intro t ht
    generalize hl : [x] = l at ht
    cases ht with
    | first => simp at hl; subst hl; rfl
    | next hr hg =>
      exfalso
      have := hr.ne
      have h2 := congrArg List.length hl
      simp at h2
      first | exact this h2 | exact this h2.symm | exact this (List.length_eq_zero_iff.1 (by omega))
  | @next l s t x hr hg ih =>
    intro u hu
    generalize hl : l ++ [x] = m at hu
    cases hu with
    | first =>
      exfalso
      have := hr.ne
      have h2 := congrArg List.length hl
      simp at h2
      exact this h2
    | @next l' s' u' x' hr' hg' =>
      obtain ⟨rfl, h2⟩ := List.append_inj' hl rfl
      simp at h2
      subst h2
      have := ih hr'
      subst this
      rw [hg] at hg'
      exact Option.some.inj hg'
end Go.Proofs.Ytklmhegmombegaa.Plain
namespace Go.Proofs.Ytklmhegmombegaa
open Go Go.RowKit Plain
/-- The first of the records, of a slice that may be nil. -/
theorem HoldsRs.first {w : World} {a : Option Addr} {c : Nat} {rs : List (Array Value × Rx)} {n : Nat} (h : HoldsRs w (.slice a rs.length c) rs) (hn : n ≤ rs.length) : HoldsRs w (.slice a n c) (rs.take n) := by
  cases a with
  | some ad => exact h.take hn
  | none =>
    have h0 : rs.length = 0 := by
      obtain ⟨_, a', c', e, hc⟩ := h.rd
      simp only [Value.slice.injEq, true_and] at e
      obtain ⟨rfl, rfl⟩ := e
      rcases hc with ⟨_, h1, _⟩ | ⟨ad, e1, _⟩
      · exact h1
      · cases e1
    have : rs = [] := List.length_eq_zero_iff.1 h0
    subst this
    obtain rfl : n = 0 := by simpa using hn
    exact h
end Go.Proofs.Ytklmhegmombegaa
