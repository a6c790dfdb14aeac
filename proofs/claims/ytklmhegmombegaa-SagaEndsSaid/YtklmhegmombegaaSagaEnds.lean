/-
  Whatever answers come, a saga ends, and stands as it must then: 'Rows.SagaEndsSaid', for every input. Conditions: none.
-/
import Derived.Test.YtklmhegmombegaaArg2
import Derived.Test.YtklmhegmombegaaRows
import Derived.OwnWalk
import Derived.Deep.QuietTactic
import Derived.BigQuiet
import Derived.ProofKit
import Derived.OpenShut
import Derived.ShutString
import Derived.ChangeOld
import Derived.Below
namespace Go.Proofs.Ytklmhegmombegaa.sagaEnds
open Go Go.ChangeShapes Go.WideShapes Go.ChangeAt Go.RowKit Plain
set_option linter.unusedVariables false
set_option linter.unusedSimpArgs false
theorem own : ownKnob Try.prog.godebug = none := by kernel_rfl
theorem laidOut : laidOutB Try.prog = true := by kernel_rfl

theorem quiet_has {d k n : Nat} {b : Bool} {w : World} (h : ∀ w', Calls Try.prog 20 #[.int .i64 d, .int .i64 k] w' fun e w'' => e = .returned (.bool b) ∧ w' = w'') : Calls Try.prog 20 #[.int .i64 d, .int .i64 k] (w.drewN n) fun e w'' => e = .returned (.bool b) ∧ ∃ m, w'' = w.drewN m :=
  (h (w.drewN n)).mono fun _ _ hh => ⟨hh.1, n, hh.2.symm⟩
theorem room_ends {l : List (Int × Int)} {lim n : Nat} (h : n ≤ Plain.most l lim) (h6 : l.length ≤ 6) (h9 : lim ≤ 9) : (n : Int) ≤ 4 * ((lim : Int) + 1) * (l.length : Int) + 1 ∧ 0 ≤ 4 * ((lim : Int) + 1) * (l.length : Int) ∧ 4 * ((lim : Int) + 1) * (l.length : Int) ≤ 1000 := by
  have e : 4 * (lim + 1) * l.length = 4 * (lim * l.length) + 4 * l.length := by rw [Nat.mul_assoc, Nat.add_mul, Nat.one_mul, Nat.mul_add]
  have hm : lim * l.length ≤ 9 * 6 := Nat.mul_le_mul h9 h6
  have ei : 4 * ((lim : Int) + 1) * (l.length : Int) = ((4 * (lim + 1) * l.length : Nat) : Int) := by push_cast; rfl
  unfold Plain.most at h
  rw [ei, e]
  omega

set_option maxRecDepth 100000 in
set_option maxHeartbeats 8000000 in
theorem walk (w : World) (v0 : Value) (w0 : IsSteps w v0) (a1 : Int) (w1 : (Lit.int .i64 a1).wf = true) (v2 : Value) (w2 : IsBytes w v2) :
    Calls Try.prog 4 #[v0, .int .i64 a1, v2] w fun e w' => e = .returned (.bool true) ∧ Below w.heap.size w w' := by
  obtain ⟨b, hmay, hyes⟩ := w0.may
  obtain ⟨a2, c2, zs, rfl, hzl, hrd, hz256, hzlt⟩ := w2
  have HM := Lib.hid hmay
  have HY := Lib.hid hyes
  have HAL := Lib.hid (f_alive w)
  have HR := Lib.hid hrd
  have HZ := Lib.hid hz256
  have HZL := Lib.hid hzlt
  clear hmay hyes w0 hrd hz256 hzlt
  cases b with
  | false =>
    go_enter Try.func4, Try.ntmps4
    go_wp2_with fail
    refine HAL.out.mono ?_
    rintro e w1 ⟨rfl, k1⟩
    go_wp2_with fail
    refine (HM.out _ k1).mono ?_
    rintro e w2 ⟨rfl, k2⟩
    have KF := Lib.hid (k1.trans k2)
    go_wp2_with fail
    go_ret
    exact ⟨rfl, KF.out.below (Nat.le_refl _) (fun k h => h.elim)⟩
  | true =>
    obtain ⟨a, c, l, rfl, hst, hl⟩ := HY.out rfl
    have HS := Lib.hid hst
    have HL := Lib.hid hl
    clear hst hl HY
    by_cases hlo : a1 < 1
    · go_enter Try.func4, Try.ntmps4
      go_wp2_with fail
      refine HAL.out.mono ?_
      rintro e w1 ⟨rfl, k1⟩
      go_wp2_with fail
      refine (HM.out _ k1).mono ?_
      rintro e w2 ⟨rfl, k2⟩
      have KF := Lib.hid (k1.trans k2)
      go_wp2_with fail
      go_ret
      exact ⟨rfl, KF.out.below (Nat.le_refl _) (fun k h => h.elim)⟩
    by_cases hhi : 9 < a1
    · go_enter Try.func4, Try.ntmps4
      go_wp2_with fail
      refine HAL.out.mono ?_
      rintro e w1 ⟨rfl, k1⟩
      go_wp2_with fail
      refine (HM.out _ k1).mono ?_
      rintro e w2 ⟨rfl, k2⟩
      have KF := Lib.hid (k1.trans k2)
      go_wp2_with fail
      go_ret
      exact ⟨rfl, KF.out.below (Nat.le_refl _) (fun k h => h.elim)⟩
    by_cases hz9 : 300 < (zs.length : Int)
    · go_enter Try.func4, Try.ntmps4
      go_wp2_with fail
      refine HAL.out.mono ?_
      rintro e w1 ⟨rfl, k1⟩
      go_wp2_with fail
      refine (HM.out _ k1).mono ?_
      rintro e w2 ⟨rfl, k2⟩
      have KF := Lib.hid (k1.trans k2)
      go_wp2_with fail
      go_ret
      exact ⟨rfl, KF.out.below (Nat.le_refl _) (fun k h => h.elim)⟩
    obtain ⟨lim, rfl⟩ : ∃ lim : Nat, a1 = lim := ⟨a1.toNat, by omega⟩
    go_enter Try.func4, Try.ntmps4
    go_wp2_with fail
    refine HAL.out.mono ?_
    rintro e w1 ⟨rfl, k1⟩
    go_wp2_with fail
    refine (HM.out _ k1).mono ?_
    rintro e w2 ⟨rfl, k2⟩
    have KW := Lib.hid (k1.trans k2)
    have h1 : 1 ≤ lim := by omega
    have h9 : lim ≤ 9 := by omega
    have ll := mayB_len HL.out
    have HRUN := Lib.hid (f_run (.slice a l.length c) (.slice a2 zs.length c2) l lim zs w2 (HS.out.kept KW.out) HL.out h1 h9 (HR.out.kept KW.out (fun _ _ h => h)) (fun hne k e => Nat.lt_of_lt_of_le (HZL.out hne k e) KW.out.size) (by omega) HZ.out)
    clear k1 k2 HM HAL HR HZ HZL
    go_wp2_with fail
    refine HRUN.out.mono ?_
    rintro e w3 ⟨n, s, a', c', rfl, hend, hinv, hst3, k3⟩
    obtain ⟨hn, hsq, hmi, hall⟩ := ends_all HL.out hinv hend.2.1
    have OK := Lib.hid (hinv.okay HL.out h9)
    have hroom := room_ends hn ll.2 h9
    have z3 := Lib.hid (heap_alloc_new w3 (.cells Z27 27))
    obtain ⟨r3, kk3⟩ := alloc_set w3 Z27 (sgC s (.slice a' l.length c')) 27
    have RS := Lib.hid r3
    have KA := Lib.hid (KW.out.trans (k3.trans kk3))
    have HS3 := Lib.hid (HS.out.kept KA.out)
    have HSQ := Lib.hid hsq
    have HMI := Lib.hid hmi
    have HALL := Lib.hid hall
    have hnb : (n : Int) ≤ 1001 := by omega
    clear hend hinv hst3 k3 r3 kk3 HRUN KW hn hsq hmi hall
    go_upto_region 9 with (first | fail | (with_reducible refine alloc27 ?_) | ((with_reducible refine store27 (C := (sgC s (.slice a' l.length c'))) ?_ ?_ z3.out hz27 (sgC_size _ _) (sgC_one _ _ _ _) ?_); rfl; rfl))
    generalize hwA : (w3.alloc (.cells Z27 27)).setRow w3.heap.size (sgC s (.slice a' l.length c')) = wA at RS KA HS3 ⊢
    clear hwA z3 hroom
    go_loopw [10] (fun i wr => ∃ k : Nat, k ≤ l.length ∧ i = .int .i64 k ∧ Kept (fun _ => False) wA wr) (fun i _ => l.length - (intOf i).toNat)
    case atStart => exact ⟨0, Nat.zero_le _, rfl, Kept.refl _ _⟩
    case round =>
      obtain ⟨k, hk, rfl, hK⟩ := hrel
      have RR := Lib.hid (hK.row RS.out)
      have q1 := (cell_of_row _ _ 1 _ _ _ RR.out).trans (show _ = some (Value.int .i64 s.phase) from rfl)
      by_cases hlt : k < l.length
      · obtain ⟨b, o, cc, e1, x1, -, -⟩ := (HS3.out.kept hK).kind hlt
        simp only [Value.slice.injEq, true_and] at e1
        obtain ⟨rfl, rfl⟩ := e1
        have q6 := (cell_of_row _ _ 6 _ _ _ RR.out).trans (show _ = some (Value.int .i64 s.done) from rfl)
        have q7 := (cell_of_row _ _ 7 _ _ _ RR.out).trans (show _ = some (Value.int .i64 s.undone) from rfl)
        obtain ⟨f2, f3, fk, fp⟩ := HALL.out k hlt
        have HD := Lib.hid (fun w' => f_has s.done k w' OK.out.done (by omega))
        have HU := Lib.hid (fun w' => f_has s.undone k w' OK.out.undone (by omega))
        have law : (((s.phase : Int) == 2) = true → s.done.testBit k = true ∧ s.undone.testBit k = false) ∧ (((s.phase : Int) == 3) = true → s.done.testBit k = true → s.undone.testBit k = true) ∧ (s.undone.testBit k = true → (kindAt l k == 1) = true) ∧ ¬ (((s.phase : Int) == 2) = true ∧ ((s.phase : Int) == 3) = true) ∧ ¬ ((kindAt l k == 1) = true ∧ (kindAt l k == 2) = true) := by
          simp only [beq_iff_eq]
          exact ⟨fun h => f2 (by omega), fun h => f3 (by omega), fk, by omega, by omega⟩
        have hz : (kindAt l k == 2) = true → s.done.testBit k = true → ((s.undone : Int) != 0) = false := by
          rw [beq_iff_eq]
          intro h1 h2
          rw [fp h1 h2]; rfl
        have n1 : (kindAt l k != 1) = !(kindAt l k == 1) := rfl
        have KR := Lib.hid hK
        clear f2 f3 fk fp hK RR
        generalize s.done.testBit k = td at HD law hz
        generalize s.undone.testBit k = tu at HU law
        generalize s.done = dn at q6 HD
        generalize s.undone = un at q7 HU hz
        generalize hb1 : (kindAt l k == 1) = b1 at law n1
        generalize hb2 : (kindAt l k == 2) = b2 at law hz
        generalize hp2 : ((s.phase : Int) == 2) = p2 at law
        generalize hp3 : ((s.phase : Int) == 3) = p3 at law
        generalize kindAt l k = kd at x1 n1 hb1 hb2
        generalize s.phase = ph at q1 hp2 hp3
        clear RS HS3 HALL HSQ HMI OK
        go_wp2_with fail
        go_quiet ((first | (go_at_call_of 20 (Value.int .i64 (dn : Int)); exact quiet_has HD.out) | (go_at_call_of 20 (Value.int .i64 (un : Int)); exact quiet_has HU.out)))
        clear HD HU
        cases p2 <;> cases p3 <;> cases td <;> cases tu <;> cases b1 <;> cases b2 <;> first
          | (exfalso; revert law; decide)
          | (clear law
             try (have hz' := hz rfl rfl)
             clear hz
             go_wp2_with fail
             go_roundw
             case rel => exact ⟨k + 1, by omega, by go_num, KR.out.drewN _⟩
             case measure => simp [intOf]; omega)
      · obtain rfl : k = l.length := by omega
        have q9 := (cell_of_row _ _ 9 _ _ _ RR.out).trans (show _ = some (Value.int .i64 s.seq) from rfl)
        have hS : ((s.seq : Int) == (n : Int) + 1) = true := by rw [beq_iff_eq]; have := HSQ.out; omega
        have KF := Lib.hid (KA.out.trans hK)
        by_cases h4 : s.phase = 4
        · have t4 : ((s.phase : Int) == 4) = true := by rw [beq_iff_eq]; omega
          clear h4 hK
          generalize s.seq = sq at q9 hS
          generalize s.phase = ph at q1 t4
          go_wp2_with fail
          go_ret
          exact ⟨rfl, KF.out.below (Nat.le_refl _) (fun k h => h.elim)⟩
        · have t4 : ((s.phase : Int) == 4) = false := by rw [beq_eq_false_iff_ne]; omega
          have HMS : Hid (Calls Try.prog 21 #[.agg #[.slice a' l.length c', .int .i64 s.phase, .int .i64 s.pos, .int .i64 s.tries, .bool s.wait, .bool s.back, .int .i64 s.done, .int .i64 s.undone, .int .i64 s.may, .int .i64 s.seq]] wr fun e w' => e = .returned (.int .i64 0) ∧ Kept (fun _ => False) wr w') := by
            have h := f_missing s (.slice a' l.length c') wr OK.out
            rw [HMI.out.resolve_left h4] at h
            exact h
          clear h4 hK q1 q9
          obtain ⟨u0, q1, u2, u3, u4, u5, u6, u7, u8, q9⟩ := cells10 (show _ = some (Obj.cells #[.slice a' l.length c', .int .i64 s.phase, .int .i64 s.pos, .int .i64 s.tries, .bool s.wait, .bool s.back, .int .i64 s.done, .int .i64 s.undone, .int .i64 s.may, .int .i64 s.seq] 27 (0, 0)) from RR.out)
          go_wp2_with fail
          refine HMS.out.mono ?_
          rintro e w5 ⟨rfl, k5⟩
          have KG := Lib.hid (KF.out.trans k5)
          clear k5
          go_wp2_with fail
          go_ret
          exact ⟨rfl, KG.out.below (Nat.le_refl _) (fun k h => h.elim)⟩


set_option maxRecDepth 100000 in
theorem lifted (os : Os) (started : os.Started) (H : Type) (enc : TypeId × Value → H) :
    ReturnsInHanded {} Try.checked os 4 .any (Rows.sagaEndsSpec.pre6 enc Try.prog Try.f4 Rows.sagaEndsRow.domain false) (Rows.sagaEndsSpec.post enc Try.prog Try.f4 false true false false) := by
  refine returnsInHanded_of_change (C := Try.checked) own started (by kernel_rfl) Try.func4
    (ChangeSpec.witness6 (enc := enc) (C := Try.checked) false ⟨#[], #[.slice none 0 0, .int .i64 0, .slice none 0 0], []⟩ 8 (by kernel_rfl) (by kernel_rfl) (by kernel_rfl) (by kernel_rfl)) ?_
  intro W base args ds gs before hval0 hW hcnd _
  have hval : ∀ (j : Nat) t v, Try.f4.params[j]? = some t → args[j]? = some v → Value.okWide Try.prog W .any base t v := hval0
  have hW' := hW
  obtain ⟨p, q, hA0, hV, rfl, hfz, hnd⟩ := hW
  have hA : DataW.TrodAll enc Try.prog W 0 (fun _ => true) true Try.f4.params.toList args.toList ds p := hA0
  rw [Try.params4] at hA hval
  obtain ⟨v0, vs0, d0, ds0, p0, q0, hargs, rfl, rfl, h0, r0⟩ := trodAll_cons hA
  obtain ⟨v1, vs1, d1, ds1, p1, q1, rfl, rfl, rfl, h1, r1⟩ := trodAll_cons r0
  obtain ⟨v2, vs2, d2, ds2, p2, q2, rfl, rfl, rfl, h2, r2⟩ := trodAll_cons r1
  obtain ⟨rfl, rfl, rfl⟩ := trodAll_nil r2
  obtain rfl : args = #[v0, v1, v2] := by cases args; simp_all
  obtain ⟨rfl, rfl⟩ := trodVars_none hV
  have k0 := h0
  have lt0 : ∀ x ∈ p0, x.block < W.heap.size := by obtain ⟨m, hm⟩ := k0; exact DataW.trod_lt m _ _ _ hm
  have w0 := IsSteps.of (hval 0 22 v0 rfl rfl) h0
  obtain ⟨a1, rfl, rfl, rfl, w1⟩ := open_int Try.underlying3 (hval 1 3 v1 rfl rfl) h1
  have k2 := h2
  have lt2 : ∀ x ∈ p2, x.block < W.heap.size := by obtain ⟨m, hm⟩ := k2; exact DataW.trod_lt m _ _ _ hm
  have w2 := IsBytes.of (hval 2 29 v2 rfl rfl) h2
  clear hA0 hval0
  refine (walk W v0 w0 a1 w1 v2 w2).mono fun e W' ⟨he, bel⟩ => ?_
  subst he
  exact ⟨_, rfl, _, _, _, [], _, [], hW', trodAll_mk1 (shut_bool Try.underlying4 _), (trodAll_cons_mk (Below.trod laidOut (by kernel_rfl) (of_decide_eq_true (by kernel_rfl)) k0 bel lt0) (trodAll_cons_mk (shut_int Try.underlying3 w1) (trodAll_cons_mk (Below.trod laidOut (by kernel_rfl) (of_decide_eq_true (by kernel_rfl)) k2 bel lt2) trodAll_mk0))), rfl, bel.frame _, fun h => by cases h⟩

theorem over : Rows.sagaEndsRow.holds Try.pinned (OpenSpec.ofChange Rows.sagaEndsSpec) :=
  OpenClaim.holds_of_wide 4 Try.f4 rfl rfl rfl rfl rfl rfl rfl ⟨rfl, rfl, rfl, rfl, rfl⟩ rfl rfl rfl rfl rfl (by kernel_rfl) Try.func4 (by kernel_rfl)
    (of_decide_eq_true (by kernel_rfl)) (by unfold Func.isWrapper; first | (rw [if_pos (by decide +kernel)]; kernel_rfl) | (rw [if_neg (by decide +kernel)]; exact ⟨rfl, rfl⟩))
    (fun os started H enc _ => lifted os started H enc)

theorem proved : Rows.SagaEndsSaid := over
#print axioms proved
end Go.Proofs.Ytklmhegmombegaa.sagaEnds

