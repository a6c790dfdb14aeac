/-
  The records of a run go, in plain Lean.
-/
import Derived.Test.YtklmhegmombegaaLaw2
set_option linter.unusedVariables false
set_option linter.unusedSimpArgs false
namespace Go.Proofs.Ytklmhegmombegaa.Plain

theorem go_due {s : Sg} {lim : Nat} {d : Du} (hd : due s lim = some d) (g : Bool) : go s ⟨d.kind, s.seq, d.step, d.tr, d.bk, g, d.nd⟩ lim = some (if d.kind = 2 then sent s d else ended s d) := by
  obtain ⟨hw, ho, hs, hc⟩ := due_cases hd
  have ht : told ⟨d.kind, s.seq, d.step, d.tr, d.bk, g, d.nd⟩ = d := rfl
  unfold go
  rw [if_neg (by simp [hs, ho]), ht]
  have hk : d.kind = 2 ∨ d.kind = 5 := by
    rcases hc with h | h | h | h <;> rw [h.2.2] <;> simp
  rcases hk with hk | hk
  · rw [if_pos hk, if_pos hd, if_pos hk]
  · rw [if_neg (by rw [show (Rc.mk d.kind s.seq d.step d.tr d.bk g d.nd).kind = d.kind from rfl, hk]; decide), if_pos hk, if_pos hd, if_neg (show ¬ d.kind = 2 by rw [hk]; decide)]
theorem go_answer {s : Sg} {lim : Nat} (hw : s.wait = true) (ho : over s = false) (hs : s.steps ≠ []) (g : Bool) : go s ⟨3, s.seq, stepOf s, s.tries, s.back, g, 0⟩ lim = some (answered (more s) g) := by
  unfold go
  rw [if_neg (by simp [hs, ho]), if_neg (show ¬ (3 : Int) = 2 by decide), if_neg (show ¬ (3 : Int) = 5 by decide), if_pos (.inl rfl), if_neg (by simp [hw]), if_pos rfl]
theorem go_lapse {s : Sg} {lim : Nat} (hw : s.wait = true) (ho : over s = false) (hs : s.steps ≠ []) (g : Bool) : go s ⟨4, s.seq, stepOf s, s.tries, s.back, g, 0⟩ lim = some (lapsed (more s) lim) := by
  unfold go
  rw [if_neg (by simp [hs, ho]), if_neg (show ¬ (4 : Int) = 2 by decide), if_neg (show ¬ (4 : Int) = 5 by decide), if_pos (.inr rfl), if_neg (by simp [hw]), if_neg (show ¬ (4 : Int) = 3 by decide)]
theorem next_due {s : Sg} {lim k : Nat} {ans : List Nat} {d : Du} (hd : due s lim = some d) : next lim ans (s, k) = (if d.kind = 2 then sent s d else ended s d, k) := by
  unfold next; simp only [hd]
theorem next_ans {s : Sg} {lim k : Nat} {ans : List Nat} {a : Nat} (hd : due s lim = none) (ha : (ans[k]?).getD 0 % 3 = a) : next lim ans (s, k) = (if a = 2 then lapsed (more s) lim else answered (more s) (decide (a = 0)), k + 1) := by
  unfold next; simp only [hd, ha]
theorem iter_next {l : List (Int × Int)} {lim n : Nat} {ans : List Nat} {st : Sg × Nat} (h : iter l lim ans n = st) : iter l lim ans (n + 1) = next lim ans st := by rw [iter, h]
end Go.Proofs.Ytklmhegmombegaa.Plain
