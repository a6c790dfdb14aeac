/-
  A saga that is over goes by no record, and one that waits by no Intent and no end: 'Rows.SagaStaysSaid', for every input. Conditions: none.
-/
import Derived.Test.YtklmhegmombegaaArg2
import Derived.Test.YtklmhegmombegaaLaw4
import Derived.Test.YtklmhegmombegaaRows
import Derived.OwnWalk
import Derived.ProofKit
import Derived.OpenShut
import Derived.ShutString
import Derived.ChangeOld
import Derived.Below
namespace Go.Proofs.Ytklmhegmombegaa.sagaStays
open Go Go.ChangeShapes Go.WideShapes Go.ChangeAt Go.RowKit Plain
set_option linter.unusedVariables false
set_option linter.unusedSimpArgs false
theorem own : ownKnob Try.prog.godebug = none := by kernel_rfl
theorem laidOut : laidOutB Try.prog = true := by kernel_rfl

theorem f_go_none {s : Sg} {x : Rc} {lim : Nat} (E : go s x lim = none) (v : Value) (C : Array Value) (w : World) (hC : Recish C x) (hs : Stp w v s.steps) (hn : x.seq ≠ s.seq ∨ s.steps = [] ∨ over s = true) :
    Calls Try.prog 22 #[.agg (sgC s v), .agg C, .int .i64 lim] w fun e w' => e = .returned (.tuple #[.agg (sgC s v), .bool false]) ∧ Kept (fun _ => False) w w' := by
  refine (f_go_no s v C x lim w hC hs hn).mono ?_
  rintro e w' ⟨rfl, k⟩
  exact ⟨by rw [E], k⟩

set_option maxRecDepth 100000 in
set_option maxHeartbeats 8000000 in
theorem walk (w : World) (v0 : Value) (w0 : IsSteps w v0) (a1 : Int) (w1 : (Lit.int .i64 a1).wf = true) (v2 : Value) (w2 : IsBytes w v2) (v3 : Value) (w3 : IsRec v3) :
    Calls Try.prog 6 #[v0, .int .i64 a1, v2, v3] w fun e w' => e = .returned (.bool true) ∧ Below w.heap.size w w' := by
  obtain ⟨b, hmay, hyes⟩ := w0.may
  obtain ⟨a2, c2, zs, rfl, hzl, hrd, hz256, hzlt⟩ := w2
  obtain ⟨C, x, rfl, hC⟩ := w3
  have hx0 := heap_alloc_new w (.cells C 41)
  have k0 := (Kept.refl (fun _ => False) w).alloc (.cells C 41)
  have HM := Lib.hid hmay
  have HY := Lib.hid hyes
  have HAL := Lib.hid (f_alive (w.alloc (.cells C 41)))
  have RX0 := Lib.hid hx0
  have K0 := Lib.hid k0
  have HC := Lib.hid hC
  have HR := Lib.hid hrd
  have HZ := Lib.hid hz256
  have HZL := Lib.hid hzlt
  clear hmay hyes w0 hx0 k0 hC hrd hz256 hzlt
  cases b with
  | false =>
    go_enter Try.func6, Try.ntmps6
    go_wp2_with fail
    refine HAL.out.mono ?_
    rintro e w1 ⟨rfl, k1⟩
    go_wp2_with fail
    refine (HM.out _ (K0.out.trans k1)).mono ?_
    rintro e w2 ⟨rfl, k2⟩
    have KF := Lib.hid ((K0.out.trans k1).trans k2)
    go_wp2_with fail
    go_ret
    exact ⟨rfl, KF.out.below (Nat.le_refl _) (fun k h => h.elim)⟩
  | true =>
    obtain ⟨a, c, l, rfl, hst, hl⟩ := HY.out rfl
    have HS := Lib.hid hst
    have HL := Lib.hid hl
    clear hst hl HY
    by_cases hlo : a1 < 1
    · go_enter Try.func6, Try.ntmps6
      go_wp2_with fail
      refine HAL.out.mono ?_
      rintro e w1 ⟨rfl, k1⟩
      go_wp2_with fail
      refine (HM.out _ (K0.out.trans k1)).mono ?_
      rintro e w2 ⟨rfl, k2⟩
      have KF := Lib.hid ((K0.out.trans k1).trans k2)
      go_wp2_with fail
      go_ret
      exact ⟨rfl, KF.out.below (Nat.le_refl _) (fun k h => h.elim)⟩
    by_cases hhi : 9 < a1
    · go_enter Try.func6, Try.ntmps6
      go_wp2_with fail
      refine HAL.out.mono ?_
      rintro e w1 ⟨rfl, k1⟩
      go_wp2_with fail
      refine (HM.out _ (K0.out.trans k1)).mono ?_
      rintro e w2 ⟨rfl, k2⟩
      have KF := Lib.hid ((K0.out.trans k1).trans k2)
      go_wp2_with fail
      go_ret
      exact ⟨rfl, KF.out.below (Nat.le_refl _) (fun k h => h.elim)⟩
    by_cases hz9 : 100 < (zs.length : Int)
    · go_enter Try.func6, Try.ntmps6
      go_wp2_with fail
      refine HAL.out.mono ?_
      rintro e w1 ⟨rfl, k1⟩
      go_wp2_with fail
      refine (HM.out _ (K0.out.trans k1)).mono ?_
      rintro e w2 ⟨rfl, k2⟩
      have KF := Lib.hid ((K0.out.trans k1).trans k2)
      go_wp2_with fail
      go_ret
      exact ⟨rfl, KF.out.below (Nat.le_refl _) (fun k h => h.elim)⟩
    obtain ⟨lim, rfl⟩ : ∃ lim : Nat, a1 = lim := ⟨a1.toNat, by omega⟩
    go_enter Try.func6, Try.ntmps6
    go_wp2_with fail
    refine HAL.out.mono ?_
    rintro e w1 ⟨rfl, k1⟩
    go_wp2_with fail
    refine (HM.out _ (K0.out.trans k1)).mono ?_
    rintro e w2 ⟨rfl, k2⟩
    have RX := Lib.hid ((k1.trans k2).row RX0.out)
    have KW := Lib.hid ((K0.out.trans k1).trans k2)
    have h1 : 1 ≤ lim := by omega
    have h9 : lim ≤ 9 := by omega
    have ll := mayB_len HL.out
    have HRUN := Lib.hid (f_run (.slice a l.length c) (.slice a2 zs.length c2) l lim zs w2 (HS.out.kept KW.out) HL.out h1 h9 (HR.out.kept KW.out (fun _ _ h => h)) (fun hne k e => Nat.lt_of_lt_of_le (HZL.out hne k e) KW.out.size) (by omega) HZ.out)
    clear k1 k2 HM HAL K0 RX0 HR HZ HZL
    go_wp2_with fail
    refine HRUN.out.mono ?_
    rintro e w3 ⟨n, s, a', c', rfl, hend, hinv, hst3, k3⟩
    have HO := Lib.hid hend.2.1
    have HSS := Lib.hid hinv.steps
    have OK := Lib.hid (hinv.okay HL.out h9)
    have HS3 : Hid (Stp w3 (.slice a' l.length c') s.steps) := by show Stp _ _ _; rw [HSS.out]; exact hst3
    have z3 := Lib.hid (heap_alloc_new w3 (.cells Z27 27))
    obtain ⟨r3, kk3⟩ := alloc_set w3 Z27 (sgC s (.slice a' l.length c')) 27
    have RS := Lib.hid r3
    have KA := Lib.hid (KW.out.trans (k3.trans kk3))
    have RXA := Lib.hid ((k3.trans kk3).row RX.out)
    have HSA := Lib.hid (HS3.out.kept kk3)
    have HV0 := Lib.hid (HS.out.kept KA.out)
    clear hend hinv hst3 k3 r3 kk3 HRUN RX KW HS3
    go_wp2_with (first | fail | (with_reducible refine alloc27 ?_) | (with_reducible refine alloc41 ?_) | ((with_reducible refine store27 (C := (sgC s (.slice a' l.length c'))) ?_ ?_ z3.out hz27 (sgC_size _ _) (sgC_one _ _ _ _) ?_); rfl; rfl) | ((with_reducible refine load27 (C := (sgC s (.slice a' l.length c'))) (g := w3.heap.size) (o := 0) ?_ (range_row RS.out) (sgC_size _ _) ?_); rfl) | ((with_reducible refine load41 (C := C) (g := w.heap.size) (o := 0) ?_ (range_row RXA.out) HC.out.size ?_); rfl))
    generalize hwA : (w3.alloc (.cells Z27 27)).setRow w3.heap.size (sgC s (.slice a' l.length c')) = wA at RS KA RXA HSA HV0 ⊢
    clear hwA z3
    have EN : Hid (go s x lim = none) := by show go s x lim = none; rw [go, if_pos (.inr (.inr HO.out))]
    refine (f_go_none EN.out (.slice a' l.length c') C wA HC.out HSA.out (.inr (.inr HO.out))).mono ?_
    rintro e w4 ⟨rfl, k4⟩
    have z4 := Lib.hid (heap_alloc_new w4 (.cells Z27 27))
    obtain ⟨r4, kk4⟩ := alloc_set w4 Z27 (sgC s (.slice a' l.length c')) 27
    have K4 := k4.trans kk4
    have RS2 := Lib.hid (K4.row RS.out)
    have RXB := Lib.hid (K4.row RXA.out)
    have KB := Lib.hid (KA.out.trans K4)
    have HSB := Lib.hid (HSA.out.kept K4)
    have HV1 := Lib.hid (HV0.out.kept K4)
    clear r4 k4 kk4 K4 RS RXA KA HSA HV0 EN
    go_wp2_with (first | fail | (with_reducible refine alloc27 ?_) | (with_reducible refine alloc41 ?_) | ((with_reducible refine store27 (C := (sgC s (.slice a' l.length c'))) ?_ ?_ z4.out hz27 (sgC_size _ _) (sgC_one _ _ _ _) ?_); rfl; rfl) | ((with_reducible refine load27 (C := (sgC s (.slice a' l.length c'))) (g := w3.heap.size) (o := 0) ?_ (range_row RS2.out) (sgC_size _ _) ?_); rfl))
    generalize hwB : (w4.alloc (.cells Z27 27)).setRow w4.heap.size (sgC s (.slice a' l.length c')) = wB at RS2 RXB KB HSB HV1 ⊢
    clear hwB z4
    have HD : Hid (Calls Try.prog 23 #[.agg (sgC s (.slice a' l.length c')), .int .i64 lim] wB fun e w' => e = .returned (.tuple #[.agg Z41, .bool false]) ∧ Kept (fun _ => False) wB w') := by
      have h := f_due s (.slice a' l.length c') lim wB OK.out HSB.out h1 h9
      rw [dueR, show Plain.due s lim = none by rw [Plain.due, if_pos (.inr (.inl HO.out))]] at h
      exact h
    refine HD.out.mono ?_
    rintro e w5 ⟨rfl, k5⟩
    have z5 := Lib.hid (heap_alloc_new w5 (.cells Z41 41))
    obtain ⟨r5, kk5⟩ := alloc_set w5 Z41 Z41 41
    have K5 := k5.trans kk5
    have RS3 := Lib.hid (K5.row RS2.out)
    have RXC := Lib.hid (K5.row RXB.out)
    have KC := Lib.hid (KB.out.trans K5)
    have HV2 := Lib.hid (HV1.out.kept K5)
    clear r5 k5 kk5 K5 RS2 RXB KB HSB HV1 HD
    obtain ⟨u0, u1, u2, u3, u4, u5, u6, u7, u8, u9⟩ := cells10 (show _ = some (Obj.cells #[.slice a' l.length c', .int .i64 s.phase, .int .i64 s.pos, .int .i64 s.tries, .bool s.wait, .bool s.back, .int .i64 s.done, .int .i64 s.undone, .int .i64 s.may, .int .i64 s.seq] 27 (0, 0)) from RS3.out)
    go_wp2_with (first | fail | (with_reducible refine alloc27 ?_) | (with_reducible refine alloc41 ?_) | ((with_reducible refine store41 (C := Z41) ?_ ?_ z5.out rfl (rfl) (Z41_one) ?_); rfl; rfl))
    clear u0 u1 u2 u3 u4 u5 u6 u7 u8 u9
    generalize hwC : (w5.alloc (.cells Z41 41)).setRow w5.heap.size Z41 = wC at RS3 RXC KC HV2 ⊢
    clear hwC z5
    have HF : Hid (Calls Try.prog 24 #[.agg #[.slice a' l.length c', .int .i64 s.phase, .int .i64 s.pos, .int .i64 s.tries, .bool s.wait, .bool s.back, .int .i64 s.done, .int .i64 s.undone, .int .i64 s.may, .int .i64 s.seq]] wC fun e w' => e = .returned (.bool true) ∧ Kept (fun _ => False) wC w') := by
      have h := f_over s (.slice a' l.length c') wC
      rw [HO.out] at h
      exact h
    refine HF.out.mono ?_
    rintro e w6 ⟨rfl, k6⟩
    have RXD := Lib.hid (k6.row RXC.out)
    have KD := Lib.hid (KC.out.trans k6)
    have HV3 := Lib.hid (HV2.out.kept k6)
    have HN : Hid (Calls Try.prog 17 #[.slice a l.length c] w6 (SgFresh (Plain.new l) w6)) := by
      have h := f_new (.slice a l.length c) l w6 HV3.out (by omega)
      rw [newOf, if_pos HL.out] at h
      exact h
    clear k6 RXC KC HV2 HF RS3 HO OK HSS
    go_wp2_with fail
    refine HN.out.mono ?_
    rintro e w7 ⟨a5, c5, rfl, hs5, hfr5, k7⟩
    have hst5 : (Plain.new l).steps = l := rfl
    rw [hst5] at hs5 hfr5 ⊢
    have HFR : Hid (∀ k, (Value.slice a5 l.length c5).ownBlock = some k → k ≠ w.heap.size) := fun k e => by have h1 := hfr5 k e; have h2 := row_lt RXD.out; omega
    clear hfr5
    have z7 := Lib.hid (heap_alloc_new w7 (.cells Z27 27))
    obtain ⟨r7, kk7⟩ := alloc_set w7 Z27 (sgC (Plain.new l) (.slice a5 l.length c5)) 27
    have K7 := k7.trans kk7
    have RN := Lib.hid r7
    have RXE := Lib.hid (K7.row RXD.out)
    have KE := Lib.hid (KD.out.trans K7)
    have HN5 := Lib.hid (hs5.kept kk7)
    have one5 := Lib.hid (fun s : Sg => sgC_one s a5 l.length c5)
    have OKN := Lib.hid ((Inv.new (lim := lim) HL.out).okay HL.out h9)
    clear r7 k7 kk7 K7 RXD KD HV3 HN hs5 hst5
    go_wp2_with (first | fail | (with_reducible refine alloc27 ?_) | (with_reducible refine alloc41 ?_) | ((with_reducible refine store27 (C := (sgC (Plain.new l) (.slice a5 l.length c5))) ?_ ?_ z7.out hz27 (sgC_size _ _) (one5.out _) ?_); rfl; rfl) | ((with_reducible refine load27 (C := (sgC (Plain.new l) (.slice a5 l.length c5))) (g := w7.heap.size) (o := 0) ?_ (range_row RN.out) (sgC_size _ _) ?_); rfl))
    generalize hwE : (w7.alloc (.cells Z27 27)).setRow w7.heap.size (sgC (Plain.new l) (.slice a5 l.length c5)) = wE at RN RXE KE HN5 ⊢
    clear hwE z7
    have HD : Hid (Calls Try.prog 23 #[.agg (sgC (Plain.new l) (.slice a5 l.length c5)), .int .i64 lim] wE fun e w' => e = .returned (.tuple #[.agg (dueC ⟨2, 0, 1, false, 0⟩), .bool true]) ∧ Kept (fun _ => False) wE w') := by
      have h := f_due (Plain.new l) (.slice a5 l.length c5) lim wE OKN.out HN5.out h1 h9
      rw [dueR, due_new HL.out h1] at h
      exact h
    refine HD.out.mono ?_
    rintro e w8 ⟨rfl, k8⟩
    have z8 := Lib.hid (heap_alloc_new w8 (.cells Z41 41))
    obtain ⟨r8, kk8⟩ := alloc_set w8 Z41 (dueC ⟨2, 0, 1, false, 0⟩) 41
    have K8 := k8.trans kk8
    have RN2 := K8.row RN.out
    have RX8 := K8.row RXE.out
    have hne : w7.heap.size ≠ w8.heap.size := by have h1 := row_lt RN.out; have h2 := k8.size; omega
    have hne2 : w.heap.size ≠ w8.heap.size := by have h1 := row_lt RXE.out; have h2 := k8.size; omega
    obtain ⟨x9, xR, K9⟩ := cell_row (k := 2) RN2 r8 hne (KE.out.trans K8) (by have h1 := KE.out.size; have h2 := k8.size; omega) (.int .i64 1)
    have x10 := (setCell_heap_other _ ⟨w8.heap.size, 2, none⟩ (.int .i64 1) w.heap.size hne2).trans RX8
    have c2 := (cell_of_row _ _ 2 _ _ _ r8).trans (dueC_recish ⟨2, 0, 1, false, 0⟩).c2
    have f2 := free_of_block (j := 2) r8
    have HN8 : Stp (World.setCell _ ⟨w8.heap.size, 2, none⟩ (.int .i64 1)) _ _ := HN5.out.kept (K8.setCell (p := ⟨w8.heap.size, 2, none⟩) (.inr k8.size) (.int .i64 1))
    have R9 := Lib.hid x9
    have RR := Lib.hid xR
    have RX9 := Lib.hid x10
    have K9' := Lib.hid K9
    have HN9 := Lib.hid HN8
    have CS := Lib.hid ((dueC_recish ⟨2, 0, 1, false, 0⟩).seq 1)
    clear RN RXE KE HN5 HD k8 r8 kk8 K8 RN2 RX8 hne hne2 x9 xR K9 x10 HN8
    go_wp2_with (first | fail | (with_reducible refine alloc27 ?_) | (with_reducible refine alloc41 ?_) | ((with_reducible refine store41 (C := (dueC ⟨2, 0, 1, false, 0⟩)) ?_ ?_ z8.out rfl (dueC_size _) (dueC_one _) ?_); rfl; rfl) | ((with_reducible refine load27 (C := (sgC (Plain.new l) (.slice a5 l.length c5))) (g := w7.heap.size) (o := 0) ?_ (range_row R9.out) (sgC_size _ _) ?_); rfl) | ((with_reducible refine load41 (C := ((dueC ⟨2, 0, 1, false, 0⟩).setIfInBounds 2 (.int .i64 1))) (g := w8.heap.size) (o := 0) ?_ (range_row RR.out) CS.out.size ?_); rfl))
    clear c2 f2 z8
    generalize hwF : World.setCell _ _ _ = wF at R9 RR RX9 K9' HN9 ⊢
    clear hwF
    refine (f_go_is (go_new HL.out h1 false) (.slice a5 l.length c5) _ _ CS.out OKN.out HN9.out h1 h9 rfl (ne_nil HL.out) rfl (by intro h; cases h) (by show 1 + 1 ≤ 1000000; decide)).mono ?_
    rintro e w10 ⟨rfl, k10⟩
    have z10 := Lib.hid (heap_alloc_new w10 (.cells Z27 27))
    obtain ⟨r10, kk10⟩ := alloc_set w10 Z27 (sgC (fwdW l 0) (.slice a5 l.length c5)) 27
    have K10 := k10.trans kk10
    have RXG := K10.row RX9.out
    have hneu : w10.heap.size ≠ w.heap.size := by have h1 := row_lt RX9.out; have h2 := k10.size; omega
    obtain ⟨y1, y2, K11⟩ := cell_row (k := 2) r10 RXG hneu (K9'.out.trans K10) (Nat.le_refl _) (.int .i64 2)
    have c2 := (cell_of_row _ _ 2 _ _ _ RXG).trans HC.out.c2
    have f2 := free_of_block (j := 2) RXG
    have HNG : Hid (Stp (World.setCell ((w10.alloc (.cells Z27 27)).setRow w10.heap.size (sgC (fwdW l 0) (.slice a5 l.length c5))) ⟨w.heap.size, 2, none⟩ (.int .i64 2)) (.slice a5 l.length c5) l) := by
      have h := HN9.out.kept K10
      exact ⟨h.rd.kept (S := fun k => k = w.heap.size) ((Kept.refl (fun k => k = w.heap.size) _).setCell (p := ⟨w.heap.size, 2, none⟩) (.inl rfl) _) (fun k e e' => HFR.out k e e'), fun k e => by have := h.lt k e; simpa [World.setCell] using this⟩
    have Y1 := Lib.hid y1
    have Y2 := Lib.hid y2
    have K12 := Lib.hid K11
    have CX := Lib.hid (HC.out.seq 2)
    clear R9 RR RX9 K9' HN9 CS r10 k10 kk10 K10 RXG hneu y1 y2 K11 OKN
    go_wp2_with (first | fail | (with_reducible refine alloc27 ?_) | (with_reducible refine alloc41 ?_) | ((with_reducible refine store27 (C := (sgC (fwdW l 0) (.slice a5 l.length c5))) ?_ ?_ z10.out hz27 (sgC_size _ _) (one5.out _) ?_); rfl; rfl) | ((with_reducible refine load27 (C := (sgC (fwdW l 0) (.slice a5 l.length c5))) (g := w10.heap.size) (o := 0) ?_ (range_row Y1.out) (sgC_size _ _) ?_); rfl) | ((with_reducible refine load41 (C := (C.setIfInBounds 2 (.int .i64 2))) (g := w.heap.size) (o := 0) ?_ (range_row Y2.out) CX.out.size ?_); rfl))
    clear c2 f2 z10
    generalize hwG : World.setCell _ _ _ = wG at Y1 Y2 K12 HNG ⊢
    clear hwG
    have INVU := Lib.hid (inv_out HL.out h1)
    refine (f_go_yes (fwdW l 0) (.slice a5 l.length c5) _ _ lim wG CX.out (INVU.out.okay HL.out h9) HNG.out h1 h9 rfl (ne_nil HL.out) rfl (fun hw => (INVU.out.step_wait rfl hw).1) (by show 2 * 0 + 2 + 1 ≤ 1000000; decide)).mono ?_
    rintro e w11 ⟨he, k11⟩
    have z11 := Lib.hid (heap_alloc_new w11 (.cells Z27 27))
    cases hg : go (fwdW l 0) { x with seq := 2 } lim with
    | none =>
      rw [hg] at he
      subst he
      obtain ⟨-, kk11⟩ := alloc_set w11 Z27 (sgC (fwdW l 0) (.slice a5 l.length c5)) 27
      have K13 := k11.trans kk11
      have q4 := (cell_of_row _ _ 4 _ _ _ (K13.row Y1.out)).trans (show _ = some (Value.bool true) from rfl)
      have KF := Lib.hid (K12.out.trans K13)
      clear k11 kk11 K13 hg Y1 Y2 K12 HNG INVU CX
      go_wp2_with (first | fail | (with_reducible refine alloc27 ?_) | (with_reducible refine alloc41 ?_) | ((with_reducible refine store27 (C := (sgC (fwdW l 0) (.slice a5 l.length c5))) ?_ ?_ z11.out hz27 (sgC_size _ _) (one5.out _) ?_); rfl; rfl))
      go_ret
      exact ⟨rfl, KF.out.below (Nat.le_refl _) (fun k h => h.elim)⟩
    | some t =>
      rw [hg] at he
      subst he
      obtain ⟨-, kk11⟩ := alloc_set w11 Z27 (sgC t (.slice a5 l.length c5)) 27
      have K13 := k11.trans kk11
      have q4 := (cell_of_row _ _ 4 _ _ _ (K13.row Y1.out)).trans (show _ = some (Value.bool true) from rfl)
      have x0 := (cell_of_row _ _ 0 _ _ _ (K13.row Y2.out)).trans CX.out.c0
      have KF := Lib.hid (K12.out.trans K13)
      have hk := go_wait_kind (show (fwdW l 0).wait = true from rfl) hg
      dsimp only at x0 hk
      clear k11 kk11 K13 hg Y1 Y2 K12 HNG INVU CX
      rcases hk with hk | hk
      · rw [hk] at x0
        go_wp2_with (first | fail | (with_reducible refine alloc27 ?_) | (with_reducible refine alloc41 ?_) | ((with_reducible refine store27 (C := sgC t (.slice a5 l.length c5)) ?_ ?_ z11.out hz27 (sgC_size _ _) (one5.out _) ?_); rfl; rfl))
        go_ret
        exact ⟨rfl, KF.out.below (Nat.le_refl _) (fun k h => h.elim)⟩
      · rw [hk] at x0
        go_wp2_with (first | fail | (with_reducible refine alloc27 ?_) | (with_reducible refine alloc41 ?_) | ((with_reducible refine store27 (C := sgC t (.slice a5 l.length c5)) ?_ ?_ z11.out hz27 (sgC_size _ _) (one5.out _) ?_); rfl; rfl))
        go_ret
        exact ⟨rfl, KF.out.below (Nat.le_refl _) (fun k h => h.elim)⟩


set_option maxRecDepth 100000 in
theorem lifted (os : Os) (started : os.Started) (H : Type) (enc : TypeId × Value → H) :
    ReturnsInHanded {} Try.checked os 6 .any (Rows.sagaStaysSpec.pre6 enc Try.prog Try.f6 Rows.sagaStaysRow.domain false) (Rows.sagaStaysSpec.post enc Try.prog Try.f6 false true false false) := by
  refine returnsInHanded_of_change (C := Try.checked) own started (by kernel_rfl) Try.func6
    (ChangeSpec.witness6 (enc := enc) (C := Try.checked) false ⟨#[], #[.slice none 0 0, .int .i64 0, .slice none 0 0, .agg Z41], []⟩ 8 (by kernel_rfl) (by kernel_rfl) (by kernel_rfl) (by kernel_rfl)) ?_
  intro W base args ds gs before hval0 hW hcnd _
  have hval : ∀ (j : Nat) t v, Try.f6.params[j]? = some t → args[j]? = some v → Value.okWide Try.prog W .any base t v := hval0
  have hW' := hW
  obtain ⟨p, q, hA0, hV, rfl, hfz, hnd⟩ := hW
  have hA : DataW.TrodAll enc Try.prog W 0 (fun _ => true) true Try.f6.params.toList args.toList ds p := hA0
  rw [Try.params6] at hA hval
  obtain ⟨v0, vs0, d0, ds0, p0, q0, hargs, rfl, rfl, h0, r0⟩ := trodAll_cons hA
  obtain ⟨v1, vs1, d1, ds1, p1, q1, rfl, rfl, rfl, h1, r1⟩ := trodAll_cons r0
  obtain ⟨v2, vs2, d2, ds2, p2, q2, rfl, rfl, rfl, h2, r2⟩ := trodAll_cons r1
  obtain ⟨v3, vs3, d3, ds3, p3, q3, rfl, rfl, rfl, h3, r3⟩ := trodAll_cons r2
  obtain ⟨rfl, rfl, rfl⟩ := trodAll_nil r3
  obtain rfl : args = #[v0, v1, v2, v3] := by cases args; simp_all
  obtain ⟨rfl, rfl⟩ := trodVars_none hV
  have k0 := h0
  have lt0 : ∀ x ∈ p0, x.block < W.heap.size := by obtain ⟨m, hm⟩ := k0; exact DataW.trod_lt m _ _ _ hm
  have w0 := IsSteps.of (hval 0 22 v0 rfl rfl) h0
  obtain ⟨a1, rfl, rfl, rfl, w1⟩ := open_int Try.underlying3 (hval 1 3 v1 rfl rfl) h1
  have k2 := h2
  have lt2 : ∀ x ∈ p2, x.block < W.heap.size := by obtain ⟨m, hm⟩ := k2; exact DataW.trod_lt m _ _ _ hm
  have w2 := IsBytes.of (hval 2 29 v2 rfl rfl) h2
  have k3 := h3
  have lt3 : ∀ x ∈ p3, x.block < W.heap.size := by obtain ⟨m, hm⟩ := k3; exact DataW.trod_lt m _ _ _ hm
  have w3 := IsRec.of (hval 3 41 v3 rfl rfl) h3
  clear hA0 hval0
  refine (walk W v0 w0 a1 w1 v2 w2 v3 w3).mono fun e W' ⟨he, bel⟩ => ?_
  subst he
  exact ⟨_, rfl, _, _, _, [], _, [], hW', trodAll_mk1 (shut_bool Try.underlying4 _), (trodAll_cons_mk (Below.trod laidOut (by kernel_rfl) (of_decide_eq_true (by kernel_rfl)) k0 bel lt0) (trodAll_cons_mk (shut_int Try.underlying3 w1) (trodAll_cons_mk (Below.trod laidOut (by kernel_rfl) (of_decide_eq_true (by kernel_rfl)) k2 bel lt2) (trodAll_cons_mk (Below.trod laidOut (by kernel_rfl) (of_decide_eq_true (by kernel_rfl)) k3 bel lt3) trodAll_mk0)))), rfl, bel.frame _, fun h => by cases h⟩

theorem over : Rows.sagaStaysRow.holds Try.pinned (OpenSpec.ofChange Rows.sagaStaysSpec) :=
  OpenClaim.holds_of_wide 6 Try.f6 rfl rfl rfl rfl rfl rfl rfl ⟨rfl, rfl, rfl, rfl, rfl⟩ rfl rfl rfl rfl rfl (by kernel_rfl) Try.func6 (by kernel_rfl)
    (of_decide_eq_true (by kernel_rfl)) (by unfold Func.isWrapper; first | (rw [if_pos (by decide +kernel)]; kernel_rfl) | (rw [if_neg (by decide +kernel)]; exact ⟨rfl, rfl⟩))
    (fun os started H enc _ => lifted os started H enc)

theorem proved : Rows.SagaStaysSaid := over
#print axioms proved
end Go.Proofs.Ytklmhegmombegaa.sagaStays

