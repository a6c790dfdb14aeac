/-
  The contract of the reference's Great. Conditions: as the theorem says.
-/
import Derived.Test.YtklmhegmombegaaDoorAliveA
set_option linter.unusedVariables false
set_option linter.unusedSimpArgs false
namespace Go.Proofs.YtklmhegmombegaaDoor
open Go Go.RowKit Plain
open Go.Proofs.YtklmhegmombegaaDoor.Re (RecIn hbs)
open Go.Proofs.YtklmhegmombegaaDoor.Re.Plain (Rx rightB)
namespace Plain
def greatX (x : Rx) : Bool := decide (30 < x.steps.length) || decide (300 < x.data.length)
end Plain
theorem f_great (C : Array Value) (x : Rx) (w : World) (h : RecIn w C x) : Calls Tryd.prog 18 #[.agg C] w (BPost (greatX x) w) := by
  obtain ⟨sv, hs, a1, c1, e1, -⟩ := h.st
  obtain ⟨dv, hd, a2, c2, e2, -⟩ := h.da
  subst e1 e2
  have g1 := heap_alloc_new w (.cells C 30)
  have G1 := Lib.hid g1
  have x1 := row_cell g1 hs
  have x2 := row_cell g1 hd
  have k1 := Lib.hid ((Kept.refl (fun _ => False) w).alloc (.cells C 30))
  have HG : Hid (greatX x = (decide (30 < x.steps.length) || decide (300 < x.data.length))) := rfl
  clear h g1 hs hd
  generalize x.steps.length = n at *
  generalize x.data.length = m at *
  go_enter Tryd.func18, Tryd.ntmps18
  go_upto_region 1 with (fail)
  generalize w.alloc (.cells C 30) = w1 at *
  by_cases h1 : 30 < n
  · have t1 : (30 : Int) < (n : Int) := by omega
    have E : Hid (greatX x = true) := by show _ = _; rw [HG.out, decide_eq_true h1]; rfl
    clear h1
    go_wp2_with fail
    go_ret
    exact BPost.mk E.out k1.out
  · have t1 : decide ((30 : Int) < (n : Int)) = false := by rw [decide_eq_false]; omega
    have t1' : decide (30 < n) = false := decide_eq_false h1
    have E : Hid (greatX x = decide (300 < m)) := by show _ = _; rw [HG.out, decide_eq_false h1]; rfl
    clear h1
    go_wp2_with fail
    go_ret
    exact BPost.mk (by rw [E.out, decide_eq_decide]; omega) k1.out
end Go.Proofs.YtklmhegmombegaaDoor
