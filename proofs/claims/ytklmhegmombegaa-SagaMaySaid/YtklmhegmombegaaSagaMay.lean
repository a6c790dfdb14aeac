/-
  Which steps may be a saga's, and how it begins, is the document's: 'Rows.SagaMaySaid', for every input. Conditions: none.
-/
import Derived.Test.YtklmhegmombegaaArg
import Derived.Test.YtklmhegmombegaaRMay
import Derived.Test.YtklmhegmombegaaRows
import Derived.OwnWalk
import Derived.ProofKit
import Derived.OpenShut
import Derived.ShutString
import Derived.ChangeOld
import Derived.Below
namespace Go.Proofs.Ytklmhegmombegaa.sagaMay
open Go Go.ChangeShapes Go.WideShapes Go.ChangeAt Go.RowKit Plain
set_option linter.unusedVariables false
set_option linter.unusedSimpArgs false
theorem own : ownKnob Try.prog.godebug = none := by kernel_rfl
theorem laidOut : laidOutB Try.prog = true := by kernel_rfl

theorem same_self (s : Sg) : sameB s s = true := by unfold sameB; simp
set_option maxRecDepth 100000 in
set_option maxHeartbeats 8000000 in
theorem walk (w : World) (v0 : Value) (w0 : IsSteps w v0) :
    Calls Try.prog 3 #[v0] w fun e w' => e = .returned (.bool true) ∧ Below w.heap.size w w' := by
  obtain ⟨a, c, l, rfl, hm, hl⟩ := w0
  have HAL := Lib.hid (f_alive w)
  by_cases h30 : 30 < (l.length : Int)
  · clear hl
    go_enter Try.func3, Try.ntmps3
    go_wp2_with fail
    refine HAL.out.mono ?_
    rintro e w1 ⟨rfl, k1⟩
    have KF := Lib.hid k1
    go_wp2_with fail
    go_ret
    exact ⟨rfl, KF.out.below (Nat.le_refl _) (fun k h => h.elim)⟩
  · have HC : Hid (∀ {w' : World}, Kept (fun _ => False) w w' → Calls Try.prog 14 #[.slice a l.length c] w' (BPost (mayB l) w') ∧ Calls Try.prog 15 #[.slice a l.length c] w' (BPost (mayB l) w') ∧ Calls Try.prog 17 #[.slice a l.length c] w' (SgFresh (newOf l) w') ∧ Calls Try.prog 18 #[.slice a l.length c] w' (SgFresh (newOf l) w')) := by
      refine @fun w' k => ?_
      rcases hl with rfl | h
      · exact ⟨f_mayno a 0 c w' (by omega), f_rmayno a c w', f_newno a 0 c w' (f_mayno a 0 c _ (by omega)), f_rnewno a 0 c w' (f_rmayno a c _)⟩
      · have hs := h.kept k
        exact ⟨f_may _ l w' hs (by omega), f_rmay _ l w' hs (by omega), f_new _ l w' hs (by omega), f_rnew _ l w' hs (by omega)⟩
    clear hl
    generalize hmb : mayB l = b at HC
    have HL6 : (newOf l).steps.length ≤ 1000000 := by
      unfold newOf
      split
      · show l.length ≤ _; omega
      · exact Nat.zero_le _
    clear hmb
    generalize newOf l = s at HC HL6
    cases b with
    | true => 
      go_enter Try.func3, Try.ntmps3
      go_wp2_with fail
      refine HAL.out.mono ?_
      rintro e w1 ⟨rfl, k1⟩
      go_wp2_with fail
      refine (HC.out k1).1.mono ?_
      rintro e w2 ⟨rfl, k2⟩
      have q2 := k1.trans k2
      go_wp2_with fail
      refine (HC.out q2).2.1.mono ?_
      rintro e w3 ⟨rfl, k3⟩
      have q3 := q2.trans k3
      go_wp2_with fail
      refine (HC.out q3).2.2.1.mono ?_
      rintro e w4 ⟨a4, c4, rfl, hs4, -, k4⟩
      have q4 := q3.trans k4
      have HS4 := Lib.hid hs4
      clear hs4
      go_wp2_with fail
      refine (HC.out q4).2.2.2.mono ?_
      rintro e w5 ⟨a5, c5, rfl, hs5, -, k5⟩
      have q5 := q4.trans k5
      have HSM : Hid (Calls Try.prog 16 #[.agg (sgC s (.slice a4 s.steps.length c4)), .agg (sgC s (.slice a5 s.steps.length c5))] w5 (BPost true w5)) := by
        have h := f_same s s _ _ w5 (HS4.out.kept k5) hs5 HL6
        rw [same_self] at h
        exact h
      clear hs5
      go_wp2_with fail
      refine HSM.out.mono ?_
      rintro e w6 ⟨rfl, k6⟩
      have KF := Lib.hid (q5.trans k6)
      go_wp2_with fail
      go_ret
      exact ⟨rfl, KF.out.below (Nat.le_refl _) (fun k h => h.elim)⟩
    | false => 
      go_enter Try.func3, Try.ntmps3
      go_wp2_with fail
      refine HAL.out.mono ?_
      rintro e w1 ⟨rfl, k1⟩
      go_wp2_with fail
      refine (HC.out k1).1.mono ?_
      rintro e w2 ⟨rfl, k2⟩
      have q2 := k1.trans k2
      go_wp2_with fail
      refine (HC.out q2).2.1.mono ?_
      rintro e w3 ⟨rfl, k3⟩
      have q3 := q2.trans k3
      go_wp2_with fail
      refine (HC.out q3).2.2.1.mono ?_
      rintro e w4 ⟨a4, c4, rfl, hs4, -, k4⟩
      have q4 := q3.trans k4
      have HS4 := Lib.hid hs4
      clear hs4
      go_wp2_with fail
      refine (HC.out q4).2.2.2.mono ?_
      rintro e w5 ⟨a5, c5, rfl, hs5, -, k5⟩
      have q5 := q4.trans k5
      have HSM : Hid (Calls Try.prog 16 #[.agg (sgC s (.slice a4 s.steps.length c4)), .agg (sgC s (.slice a5 s.steps.length c5))] w5 (BPost true w5)) := by
        have h := f_same s s _ _ w5 (HS4.out.kept k5) hs5 HL6
        rw [same_self] at h
        exact h
      clear hs5
      go_wp2_with fail
      refine HSM.out.mono ?_
      rintro e w6 ⟨rfl, k6⟩
      have KF := Lib.hid (q5.trans k6)
      go_wp2_with fail
      go_ret
      exact ⟨rfl, KF.out.below (Nat.le_refl _) (fun k h => h.elim)⟩


set_option maxRecDepth 100000 in
theorem lifted (os : Os) (started : os.Started) (H : Type) (enc : TypeId × Value → H) :
    ReturnsInHanded {} Try.checked os 3 .any (Rows.sagaMaySpec.pre6 enc Try.prog Try.f3 Rows.sagaMayRow.domain false) (Rows.sagaMaySpec.post enc Try.prog Try.f3 false true false false) := by
  refine returnsInHanded_of_change (C := Try.checked) own started (by kernel_rfl) Try.func3
    (ChangeSpec.witness6 (enc := enc) (C := Try.checked) false ⟨#[], #[.slice none 0 0], []⟩ 8 (by kernel_rfl) (by kernel_rfl) (by kernel_rfl) (by kernel_rfl)) ?_
  intro W base args ds gs before hval0 hW hcnd _
  have hval : ∀ (j : Nat) t v, Try.f3.params[j]? = some t → args[j]? = some v → Value.okWide Try.prog W .any base t v := hval0
  have hW' := hW
  obtain ⟨p, q, hA0, hV, rfl, hfz, hnd⟩ := hW
  have hA : DataW.TrodAll enc Try.prog W 0 (fun _ => true) true Try.f3.params.toList args.toList ds p := hA0
  rw [Try.params3] at hA hval
  obtain ⟨v0, vs0, d0, ds0, p0, q0, hargs, rfl, rfl, h0, r0⟩ := trodAll_cons hA
  obtain ⟨rfl, rfl, rfl⟩ := trodAll_nil r0
  obtain rfl : args = #[v0] := by cases args; simp_all
  obtain ⟨rfl, rfl⟩ := trodVars_none hV
  have k0 := h0
  have lt0 : ∀ x ∈ p0, x.block < W.heap.size := by obtain ⟨m, hm⟩ := k0; exact DataW.trod_lt m _ _ _ hm
  have w0 := IsSteps.of (hval 0 22 v0 rfl rfl) h0
  clear hA0 hval0
  refine (walk W v0 w0).mono fun e W' ⟨he, bel⟩ => ?_
  subst he
  exact ⟨_, rfl, _, _, _, [], _, [], hW', trodAll_mk1 (shut_bool Try.underlying4 _), (trodAll_cons_mk (Below.trod laidOut (by kernel_rfl) (of_decide_eq_true (by kernel_rfl)) k0 bel lt0) trodAll_mk0), rfl, bel.frame _, fun h => by cases h⟩

theorem over : Rows.sagaMayRow.holds Try.pinned (OpenSpec.ofChange Rows.sagaMaySpec) :=
  OpenClaim.holds_of_wide 3 Try.f3 rfl rfl rfl rfl rfl rfl rfl ⟨rfl, rfl, rfl, rfl, rfl⟩ rfl rfl rfl rfl rfl (by kernel_rfl) Try.func3 (by kernel_rfl)
    (of_decide_eq_true (by kernel_rfl)) (by unfold Func.isWrapper; first | (rw [if_pos (by decide +kernel)]; kernel_rfl) | (rw [if_neg (by decide +kernel)]; exact ⟨rfl, rfl⟩))
    (fun os started H enc _ => lifted os started H enc)

theorem proved : Rows.SagaMaySaid := over
#print axioms proved
end Go.Proofs.Ytklmhegmombegaa.sagaMay

