/-
  As many calls are on their way as were sent, and came twice, less those that were taken out: 'Rows.PostEmptySaid', for every input. Conditions: none.
-/
import Derived.Test.YtohoeakhnnojjaaLaw
import Derived.Deep.DeepCutAuto
import Derived.Deep.CutBlock
import Derived.ProofKit
import Derived.OpenShut
import Derived.ShutString
import Derived.ChangeOld
import Derived.Below
namespace Go.Proofs.Ytohoeakhnnojjaa.postEmpty
open Go.ChangeShapes Go.WideShapes Go.ChangeAt Go.RowKit
set_option linter.unusedVariables false
theorem own : ownKnob Try.prog.godebug = none := by kernel_rfl
theorem laidOut : laidOutB Try.prog = true := by kernel_rfl

set_option maxRecDepth 100000 in
set_option maxHeartbeats 8000000 in
theorem walk (w : World) (v0 : Value) (w0 : IsActs w v0) :
    Calls Try.prog 8 #[v0] w fun e w' => e = .returned (.bool true) ∧ Below w.heap.size w w' := by
  obtain ⟨a, n, c, Kd, C, rfl, hm, hx⟩ := w0
  unfold maxLen at hm
  have HA := Lib.hid hx
  clear hx
  go_enter Try.func8, Try.ntmps8
  go_wp2_with fail
  refine (alive_true w).mono ?_
  rintro e w1 ⟨rfl, hk1⟩
  by_cases h80 : 80 < n
  · go_wp2_with fail
    go_ret
    exact ⟨rfl, hk1.below (Nat.le_refl _) (fun k h => h)⟩
  go_wp2_with fail
  refine (l_new hk1).mono ?_
  rintro e w2 ⟨D, K, rfl, hL0⟩
  clear hk1
  go_wp2_with fail
  go_loopw [4, 5] (fun s i wr => ∃ (k : Nat) (q : List (Array Value)), k ≤ n ∧ i = .int .i64 k ∧ s = .int .i64 q.length ∧ L w wr D K q) (fun _ i _ => n - (intOf i).toNat)
  case atStart => exact ⟨0, [], Nat.zero_le _, rfl, rfl, hL0⟩
  case round =>
    obtain ⟨k, q, hk, rfl, rfl, hL⟩ := hrel
    clear hL0
    by_cases hlt : k < n
    · obtain ⟨b, o, rfl, hx⟩ := HA.out.resolve_left (by omega)
      obtain ⟨d0, hC, hr⟩ := hx k hlt
      clear hx
      have c0 := hL.cell d0
      have r0 := hL.range hr
      clear d0 hr
      generalize Kd k = kk at c0
      generalize C k = C at hC r0
      go_upto_block 2 with (fail)
      go_cut [4] (fun s4 wx => ∃ q : List (Array Value), s4 = .int .i64 q.length ∧ L w wx D K q)
      case first =>
        by_cases k0 : kk = 0
        · subst k0
          go_wp2_with (first | fail | ((with_reducible refine load28 ?_ r0 hC.size ?_); rfl))
          refine (l_send hL hC).mono ?_
          rintro e wx ⟨rfl, h1⟩
          have HL := Lib.hid h1
          have hsl := sent_length q C
          have hml := hL.most
          clear h1 c0 r0
          cases hr : room q with
          | true =>
            rw [hr, if_pos rfl] at hsl
            have HS := Lib.hid hsl
            clear hsl hr
            go_wp2_with fail
            go_meet
            exact ⟨_, by rw [HS.out]; go_num, HL.out⟩
          | false =>
            rw [hr, if_neg (by decide), Nat.add_zero] at hsl
            have HS := Lib.hid hsl
            clear hsl hr
            go_wp2_with fail
            go_meet
            exact ⟨_, by rw [HS.out], HL.out⟩
        by_cases k1 : kk = 1
        · subst k1
          go_wp2_with fail
          refine (l_next hL).mono ?_
          rintro e wx ⟨rfl, h1⟩
          have hn1 := heap_alloc_new wx (.cells Z28 28)
          have hk7 := ((Kept.refl (fun _ => False) wx).alloc (.cells Z28 28)).setRow (g := wx.heap.size) (Nat.le_refl _) (firstOf q)
          have HL := Lib.hid (h1.none hk7)
          have hC1 := firstOf_callish hL.calls
          have HQ := Lib.hid hL
          have hml := hL.most
          clear h1 hk7 c0 r0 hL
          generalize firstOf q = C1 at hC1 hn1 HL
          cases q with
          | nil =>
            go_wp2_with (first | fail | (with_reducible refine alloc28 ?_) | ((with_reducible refine store28 (C := C1) ?_ ?_ hn1 rfl hC1 ?_); rfl; rfl))
            go_meet
            exact ⟨[], rfl, HL.out⟩
          | cons C2 q =>
            have hml2 : q.length ≤ 23 := by simpa using hml
            go_wp2_with (first | fail | (with_reducible refine alloc28 ?_) | ((with_reducible refine store28 (C := C1) ?_ ?_ hn1 rfl hC1 ?_); rfl; rfl))
            go_meet
            exact ⟨q, by go_num, HL.out⟩
        by_cases k2 : kk = 2
        · subst k2
          go_wp2_with fail
          refine (l_late hL).mono ?_
          rintro e wx ⟨rfl, h1⟩
          have HL := Lib.hid h1
          clear h1 c0 r0
          go_wp2_with fail
          go_meet
          exact ⟨_, by rw [late_length], HL.out⟩
        by_cases k3 : kk = 3
        · subst k3
          go_wp2_with fail
          refine (l_twice hL).mono ?_
          rintro e wx ⟨rfl, h1⟩
          have HL := Lib.hid h1
          have hsl := twice_length q hL.most
          have hml := hL.most
          clear h1 c0 r0
          cases hr : twices q with
          | true =>
            rw [hr, if_pos rfl] at hsl
            have HS := Lib.hid hsl
            clear hsl hr
            go_wp2_with fail
            go_meet
            exact ⟨_, by rw [HS.out]; go_num, HL.out⟩
          | false =>
            rw [hr, if_neg (by decide), Nat.add_zero] at hsl
            have HS := Lib.hid hsl
            clear hsl hr
            go_wp2_with fail
            go_meet
            exact ⟨_, by rw [HS.out], HL.out⟩
        · go_wp2_with fail
          go_meet
          exact ⟨_, rfl, hL⟩
      case rest =>
        obtain ⟨q, rfl, hL⟩ := hcut
        have hml := hL.most
        clear c0 r0
        go_wp2_with fail
        refine (l_len hL).mono ?_
        rintro e wx ⟨rfl, rfl⟩
        go_wp2_with fail
        refine (l_list hL).mono ?_
        rintro e wx ⟨a1, c1, rfl, _, h1, _⟩
        go_wp2_with fail
        go_roundw
        case rel => exact ⟨k + 1, q, by omega, by go_num, rfl, h1⟩
        case measure => simp [intOf]; omega
    · go_wp2
      go_ret
      exact ⟨rfl, hL.kept.below (Nat.le_refl _) (fun k h => h)⟩
set_option maxRecDepth 100000 in
theorem lifted (os : Os) (started : os.Started) (H : Type) (enc : TypeId × Value → H) :
    ReturnsInHanded {} Try.checked os 8 .any (Rows.postEmptySpec.pre6 enc Try.prog Try.f8 Rows.postEmptyRow.domain false) (Rows.postEmptySpec.post enc Try.prog Try.f8 false true false false) := by
  refine returnsInHanded_of_change (C := Try.checked) own started (by kernel_rfl) Try.func8
    (ChangeSpec.witness6 (enc := enc) (C := Try.checked) false ⟨#[], #[.slice none 0 0], []⟩ 8 (by kernel_rfl) (by kernel_rfl) (by kernel_rfl) (by kernel_rfl)) ?_
  intro W base args ds gs before hval0 hW hcnd _
  have hval : ∀ (j : Nat) t v, Try.f8.params[j]? = some t → args[j]? = some v → Value.okWide Try.prog W .any base t v := hval0
  have hW' := hW
  obtain ⟨p, q, hA0, hV, rfl, hfz, hnd⟩ := hW
  have hA : DataW.TrodAll enc Try.prog W 0 (fun _ => true) true Try.f8.params.toList args.toList ds p := hA0
  rw [Try.params8] at hA hval
  obtain ⟨v0, vs0, d0, ds0, p0, q0, hargs, rfl, rfl, h0, r0⟩ := trodAll_cons hA
  obtain ⟨rfl, rfl, rfl⟩ := trodAll_nil r0
  obtain rfl : args = #[v0] := by cases args; simp_all
  obtain ⟨rfl, rfl⟩ := trodVars_none hV
  have k0 := h0
  have lt0 : ∀ x ∈ p0, x.block < W.heap.size := by obtain ⟨m, hm⟩ := k0; exact DataW.trod_lt m _ _ _ hm
  have w0 := IsActs.of (hval 0 22 v0 rfl rfl) h0
  clear hA0 hval0
  refine (walk W v0 w0).mono fun e W' ⟨he, bel⟩ => ?_
  subst he
  exact ⟨_, rfl, _, _, _, [], _, [], hW', trodAll_mk1 (shut_bool Try.underlying4 _), (trodAll_cons_mk (Below.trod laidOut (by kernel_rfl) (of_decide_eq_true (by kernel_rfl)) k0 bel lt0) trodAll_mk0), rfl, bel.frame _, fun h => by cases h⟩

theorem over : Rows.postEmptyRow.holds Try.pinned (OpenSpec.ofChange Rows.postEmptySpec) :=
  OpenClaim.holds_of_wide 8 Try.f8 rfl rfl rfl rfl rfl rfl rfl ⟨rfl, rfl, rfl, rfl, rfl⟩ rfl rfl rfl rfl rfl (by kernel_rfl) Try.func8 (by kernel_rfl)
    (of_decide_eq_true (by kernel_rfl)) (by unfold Func.isWrapper; first | (rw [if_pos (by decide +kernel)]; kernel_rfl) | (rw [if_neg (by decide +kernel)]; exact ⟨rfl, rfl⟩))
    (fun os started H enc _ => lifted os started H enc)

theorem proved : Rows.PostEmptySaid := over
#print axioms proved
end Go.Proofs.Ytohoeakhnnojjaa.postEmpty
