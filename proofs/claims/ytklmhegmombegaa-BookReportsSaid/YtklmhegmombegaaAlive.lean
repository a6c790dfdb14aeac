/-
  The laws' example, walked. Conditions: none.
-/
import Derived.Test.YtklmhegmombegaaAliveA
set_option linter.unusedVariables false
set_option linter.unusedSimpArgs false
namespace Go.Proofs.Ytklmhegmombegaa
open Go Go.RowKit Plain

set_option maxRecDepth 100000 in
set_option maxHeartbeats 8000000 in
theorem f_alive (w : World) : Calls Try.prog 13 #[] w fun e w' => e = .returned (.bool true) ∧ Kept (fun _ => False) w w' := by
  have g0 := heap_alloc_new w (.cells #[.int .i64 0, .int .i64 1] 34)
  have s0 := stp_of_block g0
  have HN := Lib.hid (f_new _ lA _ s0 (by decide))
  rw [new_A] at HN
  have K0 := Lib.hid ((Kept.refl (fun _ => False) w).alloc (.cells #[.int .i64 0, .int .i64 1] 34))
  clear g0 s0
  go_enter Try.func13, Try.ntmps13
  go_wp2_with (first | fail | (with_reducible refine alloc27 ?_))
  refine HN.out.mono ?_
  rintro e w1 ⟨a, c, rfl, hs1, -, k1⟩
  have hst : sA.steps = lA := rfl
  rw [hst] at hs1 ⊢
  have hlA : lA.length = 1 := rfl
  rw [hlA] at hs1 ⊢
  obtain ⟨VA, hVA⟩ : ∃ VA, (Value.slice a 1 c) = VA := ⟨_, rfl⟩
  have k1' := K0.out.trans k1
  have za := Lib.hid (heap_alloc_new w1 (.cells Z27 27))
  obtain ⟨r1, kA⟩ := alloc_set w1 Z27 (sgC sA (.slice a 1 c)) 27
  have R1 := Lib.hid r1
  have KA := Lib.hid kA
  have HS := Lib.hid hs1
  have KW := Lib.hid k1'
  have HVA := Lib.hid hVA
  have one := Lib.hid (fun s : Sg => sgC_one s a 1 c)
  clear r1 kA hs1 k1' k1 hst hlA HN K0 hVA
  go_wp2_with (first | fail | (with_reducible refine alloc27 ?_) | ((with_reducible refine store27 (C := sgC sA (.slice a 1 c)) ?_ ?_ za.out hz27 (sgC_size _ _) (one.out _) ?_); rfl; rfl) | ((with_reducible refine load27 (C := sgC sA (.slice a 1 c)) (g := w1.heap.size) (o := 0) ?_ (range_row R1.out) (sgC_size _ _) ?_); rfl))
  generalize hwA : (w1.alloc (.cells Z27 27)).setRow w1.heap.size (sgC sA (.slice a 1 c)) = wA at R1 KA ⊢
  clear hwA za
  have HD : Hid (Calls Try.prog 23 #[.agg (sgC sA (.slice a 1 c)), .int .i64 3] wA fun e w' => e = .returned (.tuple #[.agg (dueC ⟨2, 0, 1, false, 0⟩), .bool true]) ∧ Kept (fun _ => False) wA w') := by
    have := f_due sA (.slice a 1 c) 3 wA ok_A (HS.out.kept KA.out) (by decide) (by decide)
    rw [dueR, due_A] at this; exact this
  refine HD.out.mono ?_
  rintro e w2 ⟨rfl, k2⟩
  have z2 := Lib.hid (heap_alloc_new w2 (.cells Z41 41))
  obtain ⟨rX, k3⟩ := alloc_set w2 Z41 (dueC ⟨2, 0, 1, false, 0⟩) 41
  have K3 := k2.trans k3
  have lA1 : w1.heap.size < wA.heap.size := (Array.getElem?_eq_some_iff.1 R1.out).1
  have rA := (K3.block _ lA1 id).trans R1.out
  have CX := dueC_recish ⟨2, 0, 1, false, 0⟩
  have c2 := (cell_of_row _ _ 2 _ _ _ rX).trans CX.c2
  have f2 := free_of_block (j := 2) rX
  have hRX : wA.heap.size ≤ w2.heap.size := k2.size
  obtain ⟨x9, xR, K4⟩ := cell_row (k := 2) rA rX (by omega) K3 hRX (.int .i64 1)
  have RA := Lib.hid x9
  have RX := Lib.hid xR
  have Y4 := Lib.hid K4
  have CS := Lib.hid (CX.seq 1)
  clear rA rX x9 xR K4 CX K3 k2 k3 HD
  go_wp2_with (first | fail | (with_reducible refine alloc41 ?_) | ((with_reducible refine store41 (C := dueC ⟨2, 0, 1, false, 0⟩) ?_ ?_ z2.out rfl (dueC_size _) (dueC_one _) ?_); rfl; rfl) | ((with_reducible refine load27 (C := sgC sA (.slice a 1 c)) (g := w1.heap.size) (o := 0) ?_ (range_row RA.out) (sgC_size _ _) ?_); rfl) | ((with_reducible refine load41 (C := (dueC ⟨2, 0, 1, false, 0⟩).setIfInBounds 2 (.int .i64 1)) (g := w2.heap.size) (o := 0) ?_ (range_row RX.out) CS.out.size ?_); rfl))
  clear c2 f2 z2
  generalize hwB : World.setCell _ _ _ = wB at RA RX Y4 ⊢
  clear hwB
  have HS2 := Lib.hid (HS.out.kept (KA.out.trans Y4.out))
  refine (f_go_is go_A (.slice a 1 c) _ _ CS.out ok_A HS2.out (by decide) (by decide) rfl (by decide) (by decide +kernel) (by intro h; cases h) (by decide)).mono ?_
  rintro e w5 ⟨rfl, k5⟩
  have z5 := Lib.hid (heap_alloc_new w5 (.cells Z27 27))
  obtain ⟨rT, kT⟩ := alloc_set w5 Z27 (sgC tA (.slice a 1 c)) 27
  have K5 := k5.trans kT
  have lX : w2.heap.size < wB.heap.size := (Array.getElem?_eq_some_iff.1 RX.out).1
  have lA2 : w1.heap.size < wB.heap.size := by omega
  have RA2 := Lib.hid ((K5.block _ lA2 id).trans RA.out)
  have RX2 := Lib.hid ((K5.block _ lX id).trans RX.out)
  have RT := Lib.hid rT
  have Y5 := Lib.hid K5
  have h25 : wB.heap.size ≤ w5.heap.size := k5.size
  clear rT kT K5 k5 RA RX HS2
  go_wp2_with (first | fail | (with_reducible refine alloc27 ?_) | (with_reducible refine build41g ?_) | ((with_reducible refine store27 (C := sgC tA (.slice a 1 c)) ?_ ?_ z5.out hz27 (sgC_size _ _) (one.out _) ?_); rfl; rfl) | ((with_reducible refine load27 (C := sgC tA (.slice a 1 c)) (g := w5.heap.size) (o := 0) ?_ (range_row RT.out) (sgC_size _ _) ?_); rfl))
  generalize hwC : (w5.alloc (.cells Z27 27)).setRow w5.heap.size (sgC tA (.slice a 1 c)) = wC at RA2 RX2 RT Y5 ⊢
  clear hwC z5
  have HS3 := Lib.hid (HS.out.kept ((KA.out.trans Y4.out).trans Y5.out))
  refine (f_go_is go_B (.slice a 1 c) _ _ gC_recish ok_B HS3.out (by decide) (by decide) rfl (by decide) (by decide +kernel) (fun _ => step_B) (by decide)).mono ?_
  rintro e w6 ⟨rfl, k6⟩
  have z6 := Lib.hid (heap_alloc_new w6 (.cells Z27 27))
  obtain ⟨rU, kU⟩ := alloc_set w6 Z27 (sgC uA (.slice a 1 c)) 27
  have K6 := k6.trans kU
  have lT : w5.heap.size < wC.heap.size := (Array.getElem?_eq_some_iff.1 RT.out).1
  have hBC : wB.heap.size ≤ wC.heap.size := Y5.out.size
  have RA3 := Lib.hid ((K6.block _ (by omega) id).trans RA2.out)
  have RX3 := Lib.hid ((K6.block _ (by omega) id).trans RX2.out)
  have RT3 := Lib.hid ((K6.block _ lT id).trans RT.out)
  have RU := Lib.hid rU
  have Y6 := Lib.hid K6
  have h36 : wC.heap.size ≤ w6.heap.size := k6.size
  clear rU kU K6 k6 RA2 RX2 RT HS3
  go_wp2_with (first | fail | (with_reducible refine alloc27 ?_) | ((with_reducible refine store27 (C := sgC uA (.slice a 1 c)) ?_ ?_ z6.out hz27 (sgC_size _ _) (one.out _) ?_); rfl; rfl) | ((with_reducible refine load27 (C := sgC uA (.slice a 1 c)) (g := w6.heap.size) (o := 0) ?_ (range_row RU.out) (sgC_size _ _) ?_); rfl))
  generalize hwD : (w6.alloc (.cells Z27 27)).setRow w6.heap.size (sgC uA (.slice a 1 c)) = wD at RA3 RX3 RT3 RU Y6 ⊢
  clear hwD z6
  have HD : Hid (Calls Try.prog 23 #[.agg (sgC uA (.slice a 1 c)), .int .i64 3] wD fun e w' => e = .returned (.tuple #[.agg (dueC ⟨5, 0, 0, false, 3⟩), .bool true]) ∧ Kept (fun _ => False) wD w') := by
    have := f_due uA (.slice a 1 c) 3 wD ok_C (HS.out.kept (((KA.out.trans Y4.out).trans Y5.out).trans Y6.out)) (by decide) (by decide)
    rw [dueR, due_C] at this; exact this
  refine HD.out.mono ?_
  rintro e w7 ⟨rfl, k7⟩
  have z7 := Lib.hid (heap_alloc_new w7 (.cells Z41 41))
  obtain ⟨rY, kY⟩ := alloc_set w7 Z41 (dueC ⟨5, 0, 0, false, 3⟩) 41
  have K7 := k7.trans kY
  have lU : w6.heap.size < wD.heap.size := (Array.getElem?_eq_some_iff.1 RU.out).1
  have hCD : wC.heap.size ≤ wD.heap.size := Y6.out.size
  have RA4 := Lib.hid ((K7.block _ (by omega) id).trans RA3.out)
  have RX4 := Lib.hid ((K7.block _ (by omega) id).trans RX3.out)
  have RT4 := Lib.hid ((K7.block _ (by omega) id).trans RT3.out)
  have RU4 := Lib.hid ((K7.block _ lU id).trans RU.out)
  have RY := Lib.hid rY
  have Y7 := Lib.hid K7
  clear rY kY K7 k7 RA3 RX3 RT3 RU HD
  have HF : Hid (∀ {w' : World}, Kept (fun _ => False) ((w7.alloc (.cells Z41 41)).setRow w7.heap.size (dueC ⟨5, 0, 0, false, 3⟩)) w' → w'.heap[w1.heap.size]? = some (.cells (sgC sA (.slice a 1 c)) 27 (0, 0)) ∧ w'.heap[w5.heap.size]? = some (.cells (sgC tA (.slice a 1 c)) 27 (0, 0)) ∧ w'.heap[w6.heap.size]? = some (.cells (sgC uA (.slice a 1 c)) 27 (0, 0)) ∧ Kept (fun _ => False) w w' ∧ Stp w' (.slice a 1 c) lA) := fun k =>
    have kk := ((((KA.out.trans Y4.out).trans Y5.out).trans Y6.out).trans Y7.out).trans k
    ⟨(k.block _ (Array.getElem?_eq_some_iff.1 RA4.out).1 id).trans RA4.out, (k.block _ (Array.getElem?_eq_some_iff.1 RT4.out).1 id).trans RT4.out, (k.block _ (Array.getElem?_eq_some_iff.1 RU4.out).1 id).trans RU4.out, KW.out.trans kk, HS.out.kept kk⟩
  have x0 := (cell_of_row _ _ 0 _ _ _ RX4.out).trans CS.out.c0
  have x4 := (cell_of_row _ _ 4 _ _ _ RX4.out).trans CS.out.c4
  have CY := dueC_recish ⟨5, 0, 0, false, 3⟩
  have y0 := (cell_of_row _ _ 0 _ _ _ RY.out).trans CY.c0
  have y7 := (cell_of_row _ _ 7 _ _ _ RY.out).trans CY.c7
  have t4 := (cell_of_row _ _ 4 _ _ _ RT4.out).trans (show (sgC tA (.slice a 1 c))[4]? = some (.bool true) from rfl)
  clear CY
  dsimp only at x0 x4 y0 y7
  obtain ⟨u0, u1, u2, u3, u4, u5, u6, u7, u8, u9⟩ := cells10 (show _ = some (Obj.cells #[.slice a 1 c, .int .i64 1, .int .i64 0, .int .i64 0, .bool false, .bool false, .int .i64 0, .int .i64 0, .int .i64 0, .int .i64 3] 27 (0, 0)) from RU4.out)
  have HO : Hid (∀ w', Calls Try.prog 24 #[.agg #[.slice a 1 c, .int .i64 1, .int .i64 0, .int .i64 0, .bool false, .bool false, .int .i64 0, .int .i64 0, .int .i64 0, .int .i64 3]] w' fun e w'' => e = .returned (.bool false) ∧ Kept (fun _ => False) w' w'') := fun w' => by
    have := f_over uA (.slice a 1 c) w'; rw [over_A] at this; exact this
  have HM : Hid (∀ w', Calls Try.prog 21 #[.agg #[.slice a 1 c, .int .i64 1, .int .i64 0, .int .i64 0, .bool false, .bool false, .int .i64 0, .int .i64 0, .int .i64 0, .int .i64 3]] w' fun e w'' => e = .returned (.int .i64 0) ∧ Kept (fun _ => False) w' w'') := fun w' => by
    have := f_missing uA (.slice a 1 c) w' ok_C; rw [missing_A] at this; exact this
  go_wp2_with (first | fail | (with_reducible refine alloc41 ?_) | ((with_reducible refine store41 (C := dueC ⟨5, 0, 0, false, 3⟩) ?_ ?_ z7.out rfl (dueC_size _) (dueC_one _) ?_); rfl; rfl))
  refine (HO.out _).mono ?_
  rintro e w8 ⟨rfl, k8⟩
  clear x0 x4 y0 y7 t4
  clear u0 u1 u2 u3 u4 u5 u6 u7 u8 u9
  obtain ⟨-, -, ru, -⟩ := HF.out k8
  obtain ⟨u0, u1, u2, u3, u4, u5, u6, u7, u8, u9⟩ := cells10 (show _ = some (Obj.cells #[.slice a 1 c, .int .i64 1, .int .i64 0, .int .i64 0, .bool false, .bool false, .int .i64 0, .int .i64 0, .int .i64 0, .int .i64 3] 27 (0, 0)) from ru)
  go_wp2_with fail
  refine (HM.out _).mono ?_
  rintro e w9 ⟨rfl, k9⟩
  clear u0 u1 u2 u3 u4 u5 u6 u7 u8 u9
  clear ru
  have k89 := k8.trans k9
  obtain ⟨rs, rt, -, -, st9⟩ := HF.out k89
  obtain ⟨s0, s1, s2, s3, s4, s5, s6, s7, s8, s9⟩ := cells10 (show _ = some (Obj.cells #[.slice a 1 c, .int .i64 0, .int .i64 0, .int .i64 0, .bool false, .bool false, .int .i64 0, .int .i64 0, .int .i64 0, .int .i64 1] 27 (0, 0)) from rs)
  have HMA := Lib.hid (fun w' (h : Stp w' (.slice a 1 c) lA) => f_may (.slice a 1 c) lA w' h (by decide))
  rw [may_A] at HMA
  go_wp2_with fail
  refine (HMA.out _ st9).mono ?_
  rintro e w10 ⟨rfl, k10⟩
  clear s0 s1 s2 s3 s4 s5 s6 s7 s8 s9
  clear rs rt st9
  have HMN := Lib.hid (fun w' => f_may (.slice none 0 0) [] w' (Stp.nil w') (by decide))
  rw [may_nil] at HMN
  go_wp2_with fail
  refine (HMN.out _).mono ?_
  rintro e w11 ⟨rfl, k11⟩
  have kb := (k89.trans k10).trans k11
  obtain ⟨rs, rt, -, -, st11⟩ := HF.out kb
  obtain ⟨s0, s1, s2, s3, s4, s5, s6, s7, s8, s9⟩ := cells10 (show _ = some (Obj.cells #[.slice a 1 c, .int .i64 0, .int .i64 0, .int .i64 0, .bool false, .bool false, .int .i64 0, .int .i64 0, .int .i64 0, .int .i64 1] 27 (0, 0)) from rs)
  have HSS : Hid (Calls Try.prog 16 #[.agg #[.slice a 1 c, .int .i64 0, .int .i64 0, .int .i64 0, .bool false, .bool false, .int .i64 0, .int .i64 0, .int .i64 0, .int .i64 1], .agg #[.slice a 1 c, .int .i64 0, .int .i64 0, .int .i64 0, .bool false, .bool false, .int .i64 0, .int .i64 0, .int .i64 0, .int .i64 1]] w11 (BPost true w11)) := by
    have := f_same sA sA (.slice a 1 c) (.slice a 1 c) w11 st11 st11 (by decide); rw [same_A] at this; exact this
  go_wp2_with fail
  refine HSS.out.mono ?_
  rintro e w12 ⟨rfl, k12⟩
  clear s0 s1 s2 s3 s4 s5 s6 s7 s8 s9
  clear rs rt st11
  have kc := kb.trans k12
  obtain ⟨rs, rt, -, -, st12⟩ := HF.out kc
  obtain ⟨s0, s1, s2, s3, s4, s5, s6, s7, s8, s9⟩ := cells10 (show _ = some (Obj.cells #[.slice a 1 c, .int .i64 0, .int .i64 0, .int .i64 0, .bool false, .bool false, .int .i64 0, .int .i64 0, .int .i64 0, .int .i64 1] 27 (0, 0)) from rs)
  obtain ⟨t0, t1, t2, t3, t4, t5, t6, t7, t8, t9⟩ := cells10 (show _ = some (Obj.cells #[.slice a 1 c, .int .i64 0, .int .i64 0, .int .i64 1, .bool true, .bool false, .int .i64 0, .int .i64 0, .int .i64 0, .int .i64 2] 27 (0, 0)) from rt)
  have HST : Hid (Calls Try.prog 16 #[.agg #[.slice a 1 c, .int .i64 0, .int .i64 0, .int .i64 0, .bool false, .bool false, .int .i64 0, .int .i64 0, .int .i64 0, .int .i64 1], .agg #[.slice a 1 c, .int .i64 0, .int .i64 0, .int .i64 1, .bool true, .bool false, .int .i64 0, .int .i64 0, .int .i64 0, .int .i64 2]] w12 (BPost false w12)) := by
    have := f_same sA tA (.slice a 1 c) (.slice a 1 c) w12 st12 st12 (by decide); rw [same_B] at this; exact this
  go_wp2_with fail
  refine HST.out.mono ?_
  rintro e w13 ⟨rfl, k13⟩
  clear s0 s1 s2 s3 s4 s5 s6 s7 s8 s9
  clear t0 t1 t2 t3 t4 t5 t6 t7 t8 t9
  have KF := Lib.hid (HF.out (kc.trans k13)).2.2.2.1
  go_wp2_with fail
  go_ret
  exact ⟨rfl, KF.out⟩
end Go.Proofs.Ytklmhegmombegaa
