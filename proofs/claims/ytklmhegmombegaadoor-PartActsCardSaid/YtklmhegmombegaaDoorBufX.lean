/-
  What a slice that owns something is. Conditions: as each theorem says.
-/
import Derived.Test.YtklmhegmombegaaDoorBuf
set_option linter.unusedVariables false
set_option linter.unusedSimpArgs false
namespace Go.Proofs.YtklmhegmombegaaDoor
open Go Go.RowKit
theorem buf_some {w : World} {base : Nat} {e : TypeId} {size : Nat} {av : Option Addr} {n cv : Nat} {xs : List Value} (h : Buf w base e size (.slice av n cv) n xs) (hn : n ≠ 0) : ∃ g, av = some ⟨g, 0, none⟩ := by
  rcases h.2 with ⟨e, h0⟩ | ⟨g, cap, cur, e, _⟩
  · exact absurd h0 hn
  · simp only [Value.slice.injEq] at e; exact ⟨g, e.1⟩
theorem buf_row {w : World} {base : Nat} {e : TypeId} {size : Nat} {g n cv : Nat} {xs : List Value} (h : Buf w base e size (.slice (some ⟨g, 0, none⟩) n cv) n xs) : ∃ cur : Array Value, w.heap[g]? = some (.cells cur e (0, 0)) ∧ base ≤ g ∧ n ≤ cv ∧ cv ≤ maxLen ∧ cv * size ≤ cur.size ∧ cur.toList.take (n * size) = xs := by
  rcases h.2 with ⟨e, h0⟩ | ⟨g', cap, cur, e, hb, hg, h1, h2, h3, h4⟩
  · simp at e
  · simp only [Value.slice.injEq, Option.some.injEq, Addr.mk.injEq, and_true] at e
    obtain ⟨rfl, _, rfl⟩ := e
    exact ⟨cur, hg, hb, h1, h2, h3, h4⟩
end Go.Proofs.YtklmhegmombegaaDoor
