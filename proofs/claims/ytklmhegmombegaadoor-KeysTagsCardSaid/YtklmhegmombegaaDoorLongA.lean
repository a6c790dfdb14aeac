/-
  The walks of law 10's statements, where a list is long. Conditions: as each theorem says.
-/
import Derived.Test.YtklmhegmombegaaDoorNoneB
set_option linter.unusedVariables false
set_option linter.unusedSimpArgs false
set_option maxRecDepth 100000
namespace Go.Proofs.YtklmhegmombegaaDoor
open Go Go.RowKit Plain

set_option maxHeartbeats 8000000 in
theorem long3 (pa wa : Option Addr) (np pc nw wcp : Nat) (nd : Int) (a1 a2 : Int) (C : Array Value) (w : World) (hL : Laid w) (hlong : 20 < np ∨ 20 < nw) :
    Calls Tryd.prog 3 #[.agg #[.slice pa np pc, .slice wa nw wcp, .int .i64 nd], .int .i64 a1, .int .i64 a2, .agg C] w (BPost true w) := by
  have k1 := ((Kept.refl (fun _ => False) w).alloc (.cells #[.slice pa np pc, .slice wa nw wcp, .int .i64 nd] 24)).alloc (.cells C 30)
  have G1 := Lib.hid (heap_alloc2_old w (.cells #[.slice pa np pc, .slice wa nw wcp, .int .i64 nd] 24) (.cells C 30))
  have G2 := Lib.hid (heap_alloc2_new w (.cells #[.slice pa np pc, .slice wa nw wcp, .int .i64 nd] 24) (.cells C 30))
  have K1 := Lib.hid k1
  have HA := Lib.hid (f_alive _ (hL.kept k1))
  clear k1 hL
  go_enter Tryd.func3, Tryd.ntmps3
  go_upto_region 1 with (fail)
  generalize ((w.alloc (.cells #[.slice pa np pc, .slice wa nw wcp, .int .i64 nd] 24)).alloc (.cells C 30)) = w1 at *
  go_wp2_with fail
  refine HA.out.mono ?_
  rintro e w2 ⟨rfl, k2⟩
  have K2 := Lib.hid (K1.out.trans k2)
  have c0 := row_cell (k := 0) (k2.row G1.out) rfl
  have c1 := row_cell (k := 1) (k2.row G1.out) rfl
  clear k2 G1 G2 K1 HA
  by_cases h1 : 20 < np
  · have t1 : (20 : Int) < (np : Int) := by omega
    clear hlong
    go_wp2_with fail
    go_ret
    exact BPost.mk rfl K2.out
  · have t1 : decide ((20 : Int) < (np : Int)) = false := by rw [decide_eq_false]; omega
    have t1' : decide (20 < np) = false := decide_eq_false h1
    have t2 : (20 : Int) < (nw : Int) := by omega
    clear hlong h1
    go_wp2_with fail
    go_ret
    exact BPost.mk rfl K2.out
set_option maxHeartbeats 8000000 in
theorem long4 (pa wa : Option Addr) (np pc nw wcp : Nat) (nd : Int) (a1 : Int) (C : Array Value) (sa : Option Addr) (ns sc : Nat) (w : World) (hL : Laid w) (h33 : C[33]? = some (.slice sa ns sc)) (hlong : 20 < np ∨ 20 < nw ∨ 30 < ns) :
    Calls Tryd.prog 4 #[.agg #[.slice pa np pc, .slice wa nw wcp, .int .i64 nd], .int .i64 a1, .agg C] w (BPost true w) := by
  have k1 := ((Kept.refl (fun _ => False) w).alloc (.cells #[.slice pa np pc, .slice wa nw wcp, .int .i64 nd] 24)).alloc (.cells C 40)
  have G1 := Lib.hid (heap_alloc2_old w (.cells #[.slice pa np pc, .slice wa nw wcp, .int .i64 nd] 24) (.cells C 40))
  have G2 := Lib.hid (heap_alloc2_new w (.cells #[.slice pa np pc, .slice wa nw wcp, .int .i64 nd] 24) (.cells C 40))
  have K1 := Lib.hid k1
  have HA := Lib.hid (f_alive _ (hL.kept k1))
  have H33 := Lib.hid h33
  clear k1 hL h33
  go_enter Tryd.func4, Tryd.ntmps4
  go_upto_region 1 with (fail)
  generalize ((w.alloc (.cells #[.slice pa np pc, .slice wa nw wcp, .int .i64 nd] 24)).alloc (.cells C 40)) = w1 at *
  go_wp2_with fail
  refine HA.out.mono ?_
  rintro e w2 ⟨rfl, k2⟩
  have K2 := Lib.hid (K1.out.trans k2)
  have c0 := row_cell (k := 0) (k2.row G1.out) rfl
  have c1 := row_cell (k := 1) (k2.row G1.out) rfl
  have d33 := row_cell (k2.row G2.out) H33.out
  clear k2 G1 G2 K1 HA
  by_cases h1 : 20 < np
  · have t1 : (20 : Int) < (np : Int) := by omega
    clear hlong
    go_wp2_with fail
    go_ret
    exact BPost.mk rfl K2.out
  · have t1 : decide ((20 : Int) < (np : Int)) = false := by rw [decide_eq_false]; omega
    have t1' : decide (20 < np) = false := decide_eq_false h1
    by_cases h2 : 20 < nw
    · have t2 : (20 : Int) < (nw : Int) := by omega
      clear hlong h1
      go_wp2_with fail
      go_ret
      exact BPost.mk rfl K2.out
    · have t2 : decide ((20 : Int) < (nw : Int)) = false := by rw [decide_eq_false]; omega
      have t2' : decide (20 < nw) = false := decide_eq_false h2
      have t3 : (30 : Int) < (ns : Int) := by omega
      clear hlong h1 h2
      go_wp2_with fail
      go_ret
      exact BPost.mk rfl K2.out
set_option maxHeartbeats 8000000 in
theorem long5 (pa wa : Option Addr) (np pc nw wcp : Nat) (nd : Int) (C : Array Value) (a1 : Int) (w : World) (hL : Laid w) (hlong : 20 < np ∨ 20 < nw) :
    Calls Tryd.prog 5 #[.agg #[.slice pa np pc, .slice wa nw wcp, .int .i64 nd], .agg C, .int .u8 a1] w (BPost true w) := by
  have k1 := ((Kept.refl (fun _ => False) w).alloc (.cells #[.slice pa np pc, .slice wa nw wcp, .int .i64 nd] 24)).alloc (.cells C 30)
  have G1 := Lib.hid (heap_alloc2_old w (.cells #[.slice pa np pc, .slice wa nw wcp, .int .i64 nd] 24) (.cells C 30))
  have G2 := Lib.hid (heap_alloc2_new w (.cells #[.slice pa np pc, .slice wa nw wcp, .int .i64 nd] 24) (.cells C 30))
  have K1 := Lib.hid k1
  have HA := Lib.hid (f_alive _ (hL.kept k1))
  clear k1 hL
  go_enter Tryd.func5, Tryd.ntmps5
  go_upto_region 1 with (fail)
  generalize ((w.alloc (.cells #[.slice pa np pc, .slice wa nw wcp, .int .i64 nd] 24)).alloc (.cells C 30)) = w1 at *
  go_wp2_with fail
  refine HA.out.mono ?_
  rintro e w2 ⟨rfl, k2⟩
  have K2 := Lib.hid (K1.out.trans k2)
  have c0 := row_cell (k := 0) (k2.row G1.out) rfl
  have c1 := row_cell (k := 1) (k2.row G1.out) rfl
  clear k2 G1 G2 K1 HA
  by_cases h1 : 20 < np
  · have t1 : (20 : Int) < (np : Int) := by omega
    clear hlong
    go_wp2_with fail
    go_ret
    exact BPost.mk rfl K2.out
  · have t1 : decide ((20 : Int) < (np : Int)) = false := by rw [decide_eq_false]; omega
    have t1' : decide (20 < np) = false := decide_eq_false h1
    have t2 : (20 : Int) < (nw : Int) := by omega
    clear hlong h1
    go_wp2_with fail
    go_ret
    exact BPost.mk rfl K2.out
set_option maxHeartbeats 8000000 in
theorem long6 (pa wa : Option Addr) (np pc nw wcp : Nat) (nd : Int) (a1 : Int) (C : Array Value) (a2 : Int) (b : Bool) (w : World) (hL : Laid w) (hlong : 20 < np ∨ 20 < nw) :
    Calls Tryd.prog 6 #[.agg #[.slice pa np pc, .slice wa nw wcp, .int .i64 nd], .int .i64 a1, .agg C, .int .u8 a2, .bool b] w (BPost true w) := by
  have k1 := ((Kept.refl (fun _ => False) w).alloc (.cells #[.slice pa np pc, .slice wa nw wcp, .int .i64 nd] 24)).alloc (.cells C 26)
  have G1 := Lib.hid (heap_alloc2_old w (.cells #[.slice pa np pc, .slice wa nw wcp, .int .i64 nd] 24) (.cells C 26))
  have G2 := Lib.hid (heap_alloc2_new w (.cells #[.slice pa np pc, .slice wa nw wcp, .int .i64 nd] 24) (.cells C 26))
  have K1 := Lib.hid k1
  have HA := Lib.hid (f_alive _ (hL.kept k1))
  clear k1 hL
  go_enter Tryd.func6, Tryd.ntmps6
  go_upto_region 1 with (fail)
  generalize ((w.alloc (.cells #[.slice pa np pc, .slice wa nw wcp, .int .i64 nd] 24)).alloc (.cells C 26)) = w1 at *
  go_wp2_with fail
  refine HA.out.mono ?_
  rintro e w2 ⟨rfl, k2⟩
  have K2 := Lib.hid (K1.out.trans k2)
  have c0 := row_cell (k := 0) (k2.row G1.out) rfl
  have c1 := row_cell (k := 1) (k2.row G1.out) rfl
  clear k2 G1 G2 K1 HA
  by_cases h1 : 20 < np
  · have t1 : (20 : Int) < (np : Int) := by omega
    clear hlong
    go_wp2_with fail
    go_ret
    exact BPost.mk rfl K2.out
  · have t1 : decide ((20 : Int) < (np : Int)) = false := by rw [decide_eq_false]; omega
    have t1' : decide (20 < np) = false := decide_eq_false h1
    have t2 : (20 : Int) < (nw : Int) := by omega
    clear hlong h1
    go_wp2_with fail
    go_ret
    exact BPost.mk rfl K2.out
set_option maxHeartbeats 8000000 in
theorem long7 (pa wa : Option Addr) (np pc nw wcp : Nat) (nd : Int) (C : Array Value) (a1 : Int) (w : World) (hL : Laid w) (hlong : 20 < np ∨ 20 < nw) :
    Calls Tryd.prog 7 #[.agg #[.slice pa np pc, .slice wa nw wcp, .int .i64 nd], .agg C, .int .u8 a1] w (BPost true w) := by
  have k1 := ((Kept.refl (fun _ => False) w).alloc (.cells #[.slice pa np pc, .slice wa nw wcp, .int .i64 nd] 24)).alloc (.cells C 30)
  have G1 := Lib.hid (heap_alloc2_old w (.cells #[.slice pa np pc, .slice wa nw wcp, .int .i64 nd] 24) (.cells C 30))
  have G2 := Lib.hid (heap_alloc2_new w (.cells #[.slice pa np pc, .slice wa nw wcp, .int .i64 nd] 24) (.cells C 30))
  have K1 := Lib.hid k1
  have HA := Lib.hid (f_alive _ (hL.kept k1))
  clear k1 hL
  go_enter Tryd.func7, Tryd.ntmps7
  go_upto_region 1 with (fail)
  generalize ((w.alloc (.cells #[.slice pa np pc, .slice wa nw wcp, .int .i64 nd] 24)).alloc (.cells C 30)) = w1 at *
  go_wp2_with fail
  refine HA.out.mono ?_
  rintro e w2 ⟨rfl, k2⟩
  have K2 := Lib.hid (K1.out.trans k2)
  have c0 := row_cell (k := 0) (k2.row G1.out) rfl
  have c1 := row_cell (k := 1) (k2.row G1.out) rfl
  clear k2 G1 G2 K1 HA
  by_cases h1 : 20 < np
  · have t1 : (20 : Int) < (np : Int) := by omega
    clear hlong
    go_wp2_with fail
    go_ret
    exact BPost.mk rfl K2.out
  · have t1 : decide ((20 : Int) < (np : Int)) = false := by rw [decide_eq_false]; omega
    have t1' : decide (20 < np) = false := decide_eq_false h1
    have t2 : (20 : Int) < (nw : Int) := by omega
    clear hlong h1
    go_wp2_with fail
    go_ret
    exact BPost.mk rfl K2.out
set_option maxHeartbeats 8000000 in
theorem long8 (pa wa : Option Addr) (np pc nw wcp : Nat) (nd : Int) (a1 : Int) (C : Array Value) (w : World) (hL : Laid w) (hlong : 20 < np ∨ 20 < nw) :
    Calls Tryd.prog 8 #[.agg #[.slice pa np pc, .slice wa nw wcp, .int .i64 nd], .int .i64 a1, .agg C] w (BPost true w) := by
  have k1 := ((Kept.refl (fun _ => False) w).alloc (.cells #[.slice pa np pc, .slice wa nw wcp, .int .i64 nd] 24)).alloc (.cells C 26)
  have G1 := Lib.hid (heap_alloc2_old w (.cells #[.slice pa np pc, .slice wa nw wcp, .int .i64 nd] 24) (.cells C 26))
  have G2 := Lib.hid (heap_alloc2_new w (.cells #[.slice pa np pc, .slice wa nw wcp, .int .i64 nd] 24) (.cells C 26))
  have K1 := Lib.hid k1
  have HA := Lib.hid (f_alive _ (hL.kept k1))
  clear k1 hL
  go_enter Tryd.func8, Tryd.ntmps8
  go_upto_region 1 with (fail)
  generalize ((w.alloc (.cells #[.slice pa np pc, .slice wa nw wcp, .int .i64 nd] 24)).alloc (.cells C 26)) = w1 at *
  go_wp2_with fail
  refine HA.out.mono ?_
  rintro e w2 ⟨rfl, k2⟩
  have K2 := Lib.hid (K1.out.trans k2)
  have c0 := row_cell (k := 0) (k2.row G1.out) rfl
  have c1 := row_cell (k := 1) (k2.row G1.out) rfl
  clear k2 G1 G2 K1 HA
  by_cases h1 : 20 < np
  · have t1 : (20 : Int) < (np : Int) := by omega
    clear hlong
    go_wp2_with fail
    go_ret
    exact BPost.mk rfl K2.out
  · have t1 : decide ((20 : Int) < (np : Int)) = false := by rw [decide_eq_false]; omega
    have t1' : decide (20 < np) = false := decide_eq_false h1
    have t2 : (20 : Int) < (nw : Int) := by omega
    clear hlong h1
    go_wp2_with fail
    go_ret
    exact BPost.mk rfl K2.out
end Go.Proofs.YtklmhegmombegaaDoor
