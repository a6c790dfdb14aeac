/-
  The laws' example. Conditions: none.
-/
import Derived.Test.YtklmhegmombegaaRun
import Derived.Test.YtklmhegmombegaaSame2
set_option linter.unusedVariables false
set_option linter.unusedSimpArgs false
namespace Go.Proofs.Ytklmhegmombegaa
open Go Go.RowKit Plain

def lA : List (Int × Int) := [(0, 1)]
def sA : Sg := ⟨lA, 0, 0, 0, false, false, 0, 0, 0, 1⟩
def tA : Sg := ⟨lA, 0, 0, 1, true, false, 0, 0, 0, 2⟩
def uA : Sg := ⟨lA, 1, 0, 0, false, false, 0, 0, 0, 3⟩
theorem new_A : newOf lA = sA := rfl
theorem due_A : Plain.due sA 3 = some ⟨2, 0, 1, false, 0⟩ := by decide +kernel
theorem go_A : go sA ⟨2, 1, 0, 1, false, false, 0⟩ 3 = some tA := by kernel_rfl
theorem go_B : go tA ⟨3, 2, 0, 1, false, false, 0⟩ 3 = some uA := by kernel_rfl
theorem due_C : Plain.due uA 3 = some ⟨5, 0, 0, false, 3⟩ := by decide +kernel
theorem ok_A : Okay sA := ⟨by decide, by decide, by decide, by decide, by decide, by decide, by decide, by decide⟩
theorem ok_B : Okay tA := ⟨by decide, by decide, by decide, by decide, by decide, by decide, by decide, by decide⟩
theorem ok_C : Okay uA := ⟨by decide, by decide, by decide, by decide, by decide, by decide, by decide, by decide⟩
theorem may_A : mayB lA = true := by decide +kernel
theorem may_nil : mayB [] = false := by decide +kernel
theorem over_A : over uA = false := by decide +kernel
theorem missing_A : missing uA = 0 := by decide +kernel
theorem same_A : sameB sA sA = true := by decide +kernel
theorem same_B : sameB sA tA = false := by decide +kernel
theorem step_B : 0 ≤ stepOf tA := by decide +kernel

/-- An answer, as the example writes it. -/
def gC : Array Value := ((Z41.setIfInBounds 0 (.int .i64 3)).setIfInBounds 2 (.int .i64 2)).setIfInBounds 4 (.int .i64 1)
set_option maxRecDepth 100000 in
theorem gC_recish : Recish gC ⟨3, 2, 0, 1, false, false, 0⟩ := ⟨rfl, all_set (all_set (all_set Z41_one rfl _) rfl _) rfl _, rfl, rfl, rfl, rfl, rfl, rfl, rfl⟩
theorem build41g {ops : Array Oper} {rest : List Oper} {dst : Option Tmp} {ty : TypeId} {pos : String} {aft : Array Edge} {a : Act} {w : World} {Q : Exit → Act → World → Prop} (h : wpList Try.prog ops Q rest (a.put dst (.agg gC)) w) : wpList Try.prog ops Q (⟨dst, .build 41 #[(0, .const (.int .i64 3)), (2, .const (.int .i64 2)), (4, .const (.int .i64 1))], ty, pos, aft, none⟩ :: rest) a w := by
  refine wpList_plain rfl fun K hK => ?_
  go_simp
  exact hK _ _ h

theorem stp_of_block {w : World} {b : Nat} {p q : Int} {t : TypeId} {fz : Nat × Nat} (h : w.heap[b]? = some (.cells #[.int .i64 p, .int .i64 q] t fz)) : Stp w (.slice (some ⟨b, 0, none⟩) 1 1) [(p, q)] := by
  refine ⟨⟨rfl, some ⟨b, 0, none⟩, 1, rfl, .inr ⟨_, rfl, fun j u hu => ?_⟩⟩, fun k e => ?_⟩
  · rw [Addr.add_none, Nat.zero_add, cell_of_row _ _ j _ _ _ h]
    simpa [flat2] using hu
  · cases e; exact (Array.getElem?_eq_some_iff.1 h).1

end Go.Proofs.Ytklmhegmombegaa
