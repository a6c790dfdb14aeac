/-
  The walk of KeysNone, where a list is long. Conditions: as the theorem says.
-/
import Derived.Test.YtklmhegmombegaaDoorNoneA
set_option linter.unusedVariables false
set_option linter.unusedSimpArgs false
set_option maxRecDepth 100000
namespace Go.Proofs.YtklmhegmombegaaDoor
open Go Go.RowKit Plain

set_option maxHeartbeats 8000000 in
theorem c_noneL (pa wa sa : Option Addr) (np pc nw wcp ns sc : Nat) (nd n ep : Int) (C : Array Value) (w : World) (hL : Laid w) (h33 : C[33]? = some (.slice sa ns sc)) (hlong : 20 < np ∨ 20 < nw ∨ 30 < ns) :
    Calls Tryd.prog 9 #[.agg #[.slice pa np pc, .slice wa nw wcp, .int .i64 nd], .int .i64 n, .int .i64 ep, .agg C] w (BPost true w) := by
  have k1 := ((Kept.refl (fun _ => False) w).alloc (.cells #[.slice pa np pc, .slice wa nw wcp, .int .i64 nd] 24)).alloc (.cells C 40)
  have G1 := Lib.hid (heap_alloc2_old w (.cells #[.slice pa np pc, .slice wa nw wcp, .int .i64 nd] 24) (.cells C 40))
  have G2 := Lib.hid (heap_alloc2_new w (.cells #[.slice pa np pc, .slice wa nw wcp, .int .i64 nd] 24) (.cells C 40))
  have K1 := Lib.hid k1
  have HA := Lib.hid (f_alive _ (hL.kept k1))
  have H33 := Lib.hid h33
  clear k1 hL h33
  go_enter Tryd.func9, Tryd.ntmps9
  go_upto_region 1 with (fail)
  generalize ((w.alloc (.cells #[.slice pa np pc, .slice wa nw wcp, .int .i64 nd] 24)).alloc (.cells C 40)) = w1 at *
  go_wp2_with fail
  refine HA.out.mono ?_
  rintro e w2 ⟨rfl, k2⟩
  have K2 := Lib.hid (K1.out.trans k2)
  have c0 := row_cell (k := 0) (k2.row G1.out) rfl
  have c1 := row_cell (k := 1) (k2.row G1.out) rfl
  have d33 := row_cell (k2.row G2.out) H33.out
  clear k2 G1 G2 K1 HA
  by_cases h1 : 20 < np
  · have t1 : (20 : Int) < (np : Int) := by omega
    clear hlong
    go_wp2_with fail
    go_ret
    exact BPost.mk rfl K2.out
  · have t1 : decide ((20 : Int) < (np : Int)) = false := by rw [decide_eq_false]; omega
    have t1' : decide (20 < np) = false := decide_eq_false h1
    by_cases h2 : 20 < nw
    · have t2 : (20 : Int) < (nw : Int) := by omega
      clear hlong h1
      go_wp2_with fail
      go_ret
      exact BPost.mk rfl K2.out
    · have t2 : decide ((20 : Int) < (nw : Int)) = false := by rw [decide_eq_false]; omega
      have t2' : decide (20 < nw) = false := decide_eq_false h2
      have h3 : 30 < ns := by omega
      have t3 : (30 : Int) < (ns : Int) := by omega
      clear hlong h1 h2
      go_wp2_with fail
      go_ret
      exact BPost.mk rfl K2.out
end Go.Proofs.YtklmhegmombegaaDoor
