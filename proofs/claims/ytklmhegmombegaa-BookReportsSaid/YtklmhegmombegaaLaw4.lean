/-
  What goes when a saga waits, and when it begins, in plain Lean.
-/
import Derived.Test.YtklmhegmombegaaLaw3
set_option linter.unusedVariables false
set_option linter.unusedSimpArgs false
namespace Go.Proofs.Ytklmhegmombegaa.Plain

theorem due_new {l : List (Int × Int)} {lim : Nat} (hl : mayB l = true) (h1 : 1 ≤ lim) : due (new l) lim = some ⟨2, 0, 1, false, 0⟩ := by
  have hlen := mayB_len hl
  have hs : stepOf (new l) = 0 := by
    unfold stepOf new
    dsimp only
    rw [if_neg (by decide), if_pos (by omega)]
    rfl
  have hn : ¬ ((new l).wait = true ∨ over (new l) = true ∨ (new l).steps = []) := by
    have := ne_nil hl
    have ho : over (new l) = false := rfl
    rw [ho]
    simp [new, this]
  unfold due
  rw [if_neg hn, hs, if_neg (by decide), if_pos (by show 0 < lim; omega)]
  rfl
theorem go_new {l : List (Int × Int)} {lim : Nat} (hl : mayB l = true) (h1 : 1 ≤ lim) (g : Bool) : go (new l) ⟨2, 1, 0, 1, false, g, 0⟩ lim = some (fwdW l 0) := by
  have h := go_due (due_new hl h1) g
  rw [show (new l).seq = 1 from rfl] at h
  exact h
theorem inv_out {l : List (Int × Int)} {lim : Nat} (hl : mayB l = true) (h1 : 1 ≤ lim) : Inv l lim 1 (fwdW l 0) := by
  have hlen := mayB_len hl
  have h0 : over (iter l lim [] 0).1 = false := rfl
  have h := inv_iter (lim := lim) hl [] 1 (fun m hm => by obtain rfl : m = 0 := by omega
                                                          exact h0)
  have e := iter_fwdW (l := l) (ans := []) h1 0 (by omega) (fun i hi => by omega)
  rw [Nat.mul_zero, Nat.zero_add] at e
  rw [e] at h
  exact h
/-- Where a saga waits, no Intent and no end goes. -/
theorem go_wait_kind {s t : Sg} {x : Rc} {lim : Nat} (hw : s.wait = true) (h : go s x lim = some t) : x.kind = 3 ∨ x.kind = 4 := by
  have hd : due s lim = none := by rw [due, if_pos (.inl hw)]
  unfold go at h
  rw [hd] at h
  split at h
  · cases h
  split at h
  · simp at h
  split at h
  · simp at h
  split at h
  · assumption
  · cases h
end Go.Proofs.Ytklmhegmombegaa.Plain
