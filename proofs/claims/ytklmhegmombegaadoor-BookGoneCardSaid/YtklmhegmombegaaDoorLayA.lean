/-
  What the listed variables hold; a world that meets the condition. Conditions: as each theorem says.
-/
import Derived.Test.YtklmhegmombegaaDoorArgA
set_option linter.unusedVariables false
set_option linter.unusedSimpArgs false
set_option maxRecDepth 100000
namespace Go.Proofs.YtklmhegmombegaaDoor
open Go Go.RowKit Go.ChangeShapes Go.WideShapes Go.ChangeAt Plain

def laidL : List (String × DataW Unit) := [("inspeximus/api.K", Rows.laid_inspeximus_api_K), ("inspeximus/api.First", Rows.laid_inspeximus_api_First)]
theorem gK : Tryd.prog.globalNamed "inspeximus/api.K" = some 1 := by kernel_rfl
theorem gFirst : Tryd.prog.globalNamed "inspeximus/api.First" = some 0 := by kernel_rfl
theorem tK : (Tryd.prog.globals[1]?).map (·.type) = some 180 := by kernel_rfl
theorem tFirst : (Tryd.prog.globals[0]?).map (·.type) = some 173 := by kernel_rfl
theorem door_met (os : Os) (args : Array Value) : laidMetH Tryd.prog laidL ((World.doorLaid Tryd.prog 400 os).forCall (fun _ _ => 0) ⟨#[], args, []⟩).memory :=
  laidMetH_of_parts3 (fuel := 8) (laidMet_of_run' 8 (by kernel_rfl) (by kernel_rfl)) (by kernel_rfl) (by kernel_rfl)
theorem cells82 : Tryd.prog.cellsOf 82 = 1 := by kernel_rfl
theorem cells180 : Tryd.prog.cellsOf 180 = 64 := by kernel_rfl
theorem cells173 : Tryd.prog.cellsOf 173 = 8 := by kernel_rfl
/-- An array of words, read as a known datum: its cells. -/
theorem words_of_trod {H : Type} {enc : TypeId × Value → H} {t n m : Nat} {w : World} {cs : List Value} {p : List MemPlace} {ws : List Nat} {sp : Nat → Bool} {held : Bool} (ht : Tryd.prog.underlying t = some (.array n 82)) (hn : ws.length = n)
    (h : DataW.trod enc Tryd.prog w 0 sp held m t cs = some (.agg (ws.map fun (z : Nat) => .lit (.int .u32 (z : Int))), p)) : ∀ i, i < n → cs[i]? = some (.int .u32 ((ws.getD i 0 : Nat) : Int)) := by
  obtain ⟨xs, m', hd, hxs, hl, hx, hi⟩ := DataW.trod_array ht h
  rw [cells82] at hi
  intro i hlt
  have h1 := hi i hlt
  rw [List.getElem?_eq_getElem (by omega)] at h1
  obtain ⟨z, hz, hy, _⟩ := DataW.trod_int Tryd.underlying82 h1
  simp only [Prod.mk.injEq, DataW.agg.injEq] at hxs
  have h2 : (ws.map fun (z : Nat) => (DataW.lit (.int .u32 (z : Int)) : DataW H))[i]? = (xs.map (·.1))[i]? := by rw [hxs.1]
  rw [List.getElem?_map, List.getElem?_map, List.getElem?_eq_getElem (show i < ws.length by omega), List.getElem?_eq_getElem (show i < xs.length by omega), hy] at h2
  simp only [Option.map_some, Option.some.injEq, DataW.lit.injEq, Lit.int.injEq, true_and] at h2
  rw [Nat.mul_one] at hz
  have : ((cs.drop i).take 1)[0]? = some (.int .u32 z) := by rw [hz]; rfl
  rw [List.getD_eq_getElem?_getD, List.getElem?_eq_getElem (show i < ws.length by omega), Option.getD_some, h2]
  simpa using this
theorem K_data : (Rows.laid_inspeximus_api_K : DataW Unit) = .agg (K256.map fun (z : Nat) => .lit (.int .u32 (z : Int))) := by rfl
theorem First_data : (Rows.laid_inspeximus_api_First : DataW Unit) = .agg (H256.map fun (z : Nat) => .lit (.int .u32 (z : Int))) := by rfl
/-- What the condition gives a walk. -/
theorem Laid.of {W : World} (h : laidMetH Tryd.prog laidL W) : Laid W := by
  rw [MakeChecks.laidMetH_plain _ _ _ (by kernel_rfl)] at h
  obtain ⟨ps, ⟨g0, t0, cs0, f0, p0, q0, hg0, ht0, hv0, hd0, ⟨g1, t1, cs1, f1, p1, q1, hg1, ht1, hv1, hd1, _, _⟩, _⟩, _, _⟩ := h
  obtain rfl := Option.some.inj (gK.symm.trans hg0)
  obtain rfl := Option.some.inj (gFirst.symm.trans hg1)
  obtain rfl := Option.some.inj (tK.symm.trans ht0)
  obtain rfl := Option.some.inj (tFirst.symm.trans ht1)
  rw [K_data] at hd0
  rw [First_data] at hd1
  have e0 := words_of_trod Tryd.underlying180 (by rfl) hd0
  have e1 := words_of_trod Tryd.underlying173 (by rfl) hd1
  refine ⟨fun i hi => ?_, fun i hi => ?_⟩
  · have := World.var?_cell hg1 hv1 i
    rw [this, ← e1 i hi]; simp
  · have := World.var?_cell hg0 hv0 i
    rw [this, ← e0 i hi]; simp
end Go.Proofs.YtklmhegmombegaaDoor
