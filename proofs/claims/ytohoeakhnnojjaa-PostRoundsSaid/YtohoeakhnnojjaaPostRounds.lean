/-
  Calls that are late as often as there are calls stand as they stood: 'Rows.PostRoundsSaid', for every input. Conditions: none.
-/
import Derived.Test.YtohoeakhnnojjaaLaw
import Derived.Deep.DeepCutAuto
import Derived.Deep.CutBlock
import Derived.ProofKit
import Derived.OpenShut
import Derived.ShutString
import Derived.ChangeOld
import Derived.Below
namespace Go.Proofs.Ytohoeakhnnojjaa.postRounds
open Go.ChangeShapes Go.WideShapes Go.ChangeAt Go.RowKit
set_option linter.unusedVariables false
theorem own : ownKnob Try.prog.godebug = none := by kernel_rfl
theorem laidOut : laidOutB Try.prog = true := by kernel_rfl

set_option maxHeartbeats 8000000 in
theorem walk (w : World) (v0 : Value) (w0 : IsCalls w v0) :
    Calls Try.prog 6 #[v0] w fun e w' => e = .returned (.bool true) ∧ Below w.heap.size w w' := by
  obtain ⟨a, c, l, rfl, hm, hall, hrd⟩ := w0
  unfold maxLen at hm
  have HA := Lib.hid hall
  have HR := Lib.hid hrd
  clear hall hrd
  go_enter Try.func6, Try.ntmps6
  go_wp2_with fail
  refine (alive_true w).mono ?_
  rintro e w1 ⟨rfl, hk1⟩
  by_cases h80 : 80 < l.length
  · go_wp2_with fail
    go_ret
    exact ⟨rfl, hk1.below (Nat.le_refl _) (fun k h => h)⟩
  go_wp2_with fail
  refine (l_new hk1).mono ?_
  rintro e w2 ⟨D, K, rfl, hL0⟩
  clear hk1
  go_wp2_with fail
  go_loopw [4] (fun i wr => ∃ (k : Nat) (q : List (Array Value)), k ≤ l.length ∧ i = .int .i64 k ∧ L w wr D K q) (fun i _ => l.length - (intOf i).toNat)
  case atStart => exact ⟨0, [], Nat.zero_le _, rfl, hL0⟩
  case round =>
    obtain ⟨k, q, hk, rfl, hL⟩ := hrel
    clear hL0
    by_cases hlt : k < l.length
    · obtain ⟨b, o, c', e1, r1⟩ := HR.out.addr (by omega)
      simp only [Value.slice.injEq, true_and] at e1
      obtain ⟨rfl, rfl⟩ := e1
      have hC : Callish l[k] := HA.out _ (List.getElem_mem hlt)
      have g1 := hL.range (Rd.range HA.out r1 (List.getElem?_eq_getElem hlt))
      clear r1
      generalize l[k] = C at hC g1
      go_wp2_with (first | fail | ((with_reducible refine load28 ?_ g1 hC.size ?_); rfl))
      refine (l_send hL hC).mono ?_
      rintro e wx ⟨rfl, h1⟩
      have HL := Lib.hid h1
      clear h1 g1
      go_wp2_with fail
      go_roundw
      case rel => exact ⟨k + 1, _, by omega, by go_num, HL.out⟩
      case measure => simp [intOf]; omega
    · go_wp2_with fail
      refine (l_list hL).mono ?_
      rintro e wx ⟨a1, c1, rfl, hb, h1, k1⟩
      have hKlt := hL.post.ltK
      have hml := hL.most
      clear hL
      generalize wr.heap.size = lo at hb hKlt
      have HB := Lib.hid hb
      clear hb k1
      go_wp2_with fail
      go_loopw [6] (fun i wr => ∃ k : Nat, k ≤ q.length ∧ i = .int .i64 k ∧ L w wr D K (turned q k) ∧ Buf wr lo 28 41 (.slice a1 q.length c1) q.length (flat q)) (fun i _ => q.length - (intOf i).toNat)
      case atStart => exact ⟨0, Nat.zero_le _, rfl, by rw [turned_zero]; exact h1, HB.out⟩
      case round =>
        obtain ⟨k, hk, rfl, hL, hb⟩ := hrel
        clear h1
        by_cases hlt2 : k < q.length
        · go_wp2_with fail
          refine (k_late hL).mono ?_
          rintro e wy ⟨rfl, h2, k2⟩
          rw [lates_turned]
          rw [late_turned q k hlt2] at h2
          have HL := Lib.hid h2
          have HB2 := Lib.hid (told hb hKlt k2)
          clear hL h2 k2 hb
          by_cases hq2 : 1 < q.length
          · have e2 : lates q = true := by simp [lates]; omega
            rw [e2]
            clear e2
            have t : decide (1 < (q.length : Int)) = true := by rw [decide_eq_true_eq]; omega
            clear hq2
            go_wp2_with fail
            go_roundw
            case rel => exact ⟨k + 1, by omega, by go_num, HL.out, HB2.out⟩
            case measure => simp [intOf]; omega
          · have e2 : lates q = false := by simp [lates]; omega
            rw [e2]
            clear e2
            have t : decide (1 < (q.length : Int)) = false := by rw [decide_eq_false_iff_not]; omega
            clear hq2
            go_wp2_with fail
            go_roundw
            case rel => exact ⟨k + 1, by omega, by go_num, HL.out, HB2.out⟩
            case measure => simp [intOf]; omega
        · obtain rfl : q.length = k := by omega
          rw [turned_all] at hL
          have hca := hL.calls
          go_wp2_with fail
          refine (l_list hL).mono ?_
          rintro e wy ⟨a2, c2, rfl, hb2, h2, k2⟩
          have hb3 := told hb hKlt k2
          have HL := Lib.hid h2
          clear hb k2 h2 hL
          go_wp2_with fail
          refine (f_same wy q hca (by omega) _ _ hb2.rd hb3.rd).mono ?_
          rintro e wz ⟨rfl, k3⟩
          clear hb2 hb3
          go_wp2_with fail
          go_ret
          exact ⟨rfl, ((HL.out.none k3).kept).below (Nat.le_refl _) (fun k h => h)⟩
set_option maxRecDepth 100000 in
theorem lifted (os : Os) (started : os.Started) (H : Type) (enc : TypeId × Value → H) :
    ReturnsInHanded {} Try.checked os 6 .any (Rows.postRoundsSpec.pre6 enc Try.prog Try.f6 Rows.postRoundsRow.domain false) (Rows.postRoundsSpec.post enc Try.prog Try.f6 false true false false) := by
  refine returnsInHanded_of_change (C := Try.checked) own started (by kernel_rfl) Try.func6
    (ChangeSpec.witness6 (enc := enc) (C := Try.checked) false ⟨#[], #[.slice none 0 0], []⟩ 8 (by kernel_rfl) (by kernel_rfl) (by kernel_rfl) (by kernel_rfl)) ?_
  intro W base args ds gs before hval0 hW hcnd _
  have hval : ∀ (j : Nat) t v, Try.f6.params[j]? = some t → args[j]? = some v → Value.okWide Try.prog W .any base t v := hval0
  have hW' := hW
  obtain ⟨p, q, hA0, hV, rfl, hfz, hnd⟩ := hW
  have hA : DataW.TrodAll enc Try.prog W 0 (fun _ => true) true Try.f6.params.toList args.toList ds p := hA0
  rw [Try.params6] at hA hval
  obtain ⟨v0, vs0, d0, ds0, p0, q0, hargs, rfl, rfl, h0, r0⟩ := trodAll_cons hA
  obtain ⟨rfl, rfl, rfl⟩ := trodAll_nil r0
  obtain rfl : args = #[v0] := by cases args; simp_all
  obtain ⟨rfl, rfl⟩ := trodVars_none hV
  have k0 := h0
  have lt0 : ∀ x ∈ p0, x.block < W.heap.size := by obtain ⟨m, hm⟩ := k0; exact DataW.trod_lt m _ _ _ hm
  have w0 := IsCalls.of (hval 0 32 v0 rfl rfl) h0
  clear hA0 hval0
  refine (walk W v0 w0).mono fun e W' ⟨he, bel⟩ => ?_
  subst he
  exact ⟨_, rfl, _, _, _, [], _, [], hW', trodAll_mk1 (shut_bool Try.underlying4 _), (trodAll_cons_mk (Below.trod laidOut (by kernel_rfl) (of_decide_eq_true (by kernel_rfl)) k0 bel lt0) trodAll_mk0), rfl, bel.frame _, fun h => by cases h⟩

theorem over : Rows.postRoundsRow.holds Try.pinned (OpenSpec.ofChange Rows.postRoundsSpec) :=
  OpenClaim.holds_of_wide 6 Try.f6 rfl rfl rfl rfl rfl rfl rfl ⟨rfl, rfl, rfl, rfl, rfl⟩ rfl rfl rfl rfl rfl (by kernel_rfl) Try.func6 (by kernel_rfl)
    (of_decide_eq_true (by kernel_rfl)) (by unfold Func.isWrapper; first | (rw [if_pos (by decide +kernel)]; kernel_rfl) | (rw [if_neg (by decide +kernel)]; exact ⟨rfl, rfl⟩))
    (fun os started H enc _ => lifted os started H enc)

theorem proved : Rows.PostRoundsSaid := over
#print axioms proved
end Go.Proofs.Ytohoeakhnnojjaa.postRounds
