/-
  What was sent comes out in its order, and no more than there is room for: 'Rows.PostOrderSaid', for every input. Conditions: none.
-/
import Derived.Test.YtohoeakhnnojjaaLaw
import Derived.Deep.DeepCutAuto
import Derived.Deep.CutBlock
import Derived.ProofKit
import Derived.OpenShut
import Derived.ShutString
import Derived.ChangeOld
import Derived.Below
namespace Go.Proofs.Ytohoeakhnnojjaa.postOrder
open Go.ChangeShapes Go.WideShapes Go.ChangeAt Go.RowKit
set_option linter.unusedVariables false
theorem own : ownKnob Try.prog.godebug = none := by kernel_rfl
theorem laidOut : laidOutB Try.prog = true := by kernel_rfl

set_option maxHeartbeats 4000000 in
theorem walk (w : World) (v0 : Value) (w0 : IsCalls w v0) :
    Calls Try.prog 4 #[v0] w fun e w' => e = .returned (.bool true) ∧ Below w.heap.size w w' := by
  obtain ⟨a, c, l, rfl, hm, hall, hrd⟩ := w0
  unfold maxLen at hm
  have HA := Lib.hid hall
  have HR := Lib.hid hrd
  clear hall hrd
  go_enter Try.func4, Try.ntmps4
  go_wp2_with fail
  refine (alive_true w).mono ?_
  rintro e w1 ⟨rfl, hk1⟩
  by_cases h80 : 80 < l.length
  · go_wp2_with fail
    go_ret
    exact ⟨rfl, hk1.below (Nat.le_refl _) (fun k h => h)⟩
  go_wp2_with fail
  refine (l_new hk1).mono ?_
  rintro e w2 ⟨D, K, rfl, hL0⟩
  clear hk1
  go_wp2_with fail
  go_loopw [4] (fun i wr => ∃ k : Nat, k ≤ l.length ∧ i = .int .i64 k ∧ L w wr D K (filled l k)) (fun i _ => l.length - (intOf i).toNat)
  case atStart => exact ⟨0, Nat.zero_le _, rfl, hL0⟩
  case round =>
    obtain ⟨k, hk, rfl, hL⟩ := hrel
    clear hL0
    by_cases hlt : k < l.length
    · obtain ⟨b, o, c', e1, r1⟩ := HR.out.addr (by omega)
      simp only [Value.slice.injEq, true_and] at e1
      obtain ⟨rfl, rfl⟩ := e1
      have hC : Callish l[k] := HA.out _ (List.getElem_mem hlt)
      have g1 := hL.range (Rd.range HA.out r1 (List.getElem?_eq_getElem hlt))
      have HF := Lib.hid (sent_filled l k hlt)
      have HL1 := Lib.hid (filled_length l k hk)
      clear r1
      generalize l[k] = C at hC g1 HF
      by_cases h24 : k < 24
      · have t24 : decide ((k : Int) < 24) = true := by rw [decide_eq_true_eq]; omega
        have er : room (filled l k) = true := by have := HL1.out; simp only [room, decide_eq_true_eq]; omega
        have ER := Lib.hid er
        clear er
        go_wp2_with (first | fail | ((with_reducible refine load28 ?_ g1 hC.size ?_); rfl))
        refine (l_send hL hC).mono ?_
        rintro e wx ⟨rfl, h1⟩
        rw [HF.out] at h1
        rw [ER.out]
        have HL := Lib.hid h1
        clear h1 g1
        go_wp2_with fail
        go_roundw
        case rel => exact ⟨k + 1, by omega, by go_num, HL.out⟩
        case measure => simp [intOf]; omega
      · have t24 : decide ((k : Int) < 24) = false := by rw [decide_eq_false_iff_not]; omega
        have er : room (filled l k) = false := by have := HL1.out; simp only [room, decide_eq_false_iff_not]; omega
        have ER := Lib.hid er
        clear er
        go_wp2_with (first | fail | ((with_reducible refine load28 ?_ g1 hC.size ?_); rfl))
        refine (l_send hL hC).mono ?_
        rintro e wx ⟨rfl, h1⟩
        rw [HF.out] at h1
        rw [ER.out]
        have HL := Lib.hid h1
        clear h1 g1
        go_wp2_with fail
        go_roundw
        case rel => exact ⟨k + 1, by omega, by go_num, HL.out⟩
        case measure => simp [intOf]; omega
    · obtain rfl : l.length = k := by omega
      have HQ := Lib.hid (filled_length l l.length (Nat.le_refl _))
      have HQ2 : Hid (∀ k : Nat, k < (filled l l.length).length → l[k]? = (filled l l.length)[k]?) := by
        intro k hk
        rw [filled, List.getElem?_take, List.getElem?_take]
        simp only [filled, List.length_take] at hk
        rw [if_pos (by omega), if_pos (by omega)]
      generalize filled l l.length = q at hL HQ HQ2
      have hq24 := hL.most
      have HCA := Lib.hid hL.calls
      go_wp2_with fail
      refine (l_len hL).mono ?_
      rintro e w3 ⟨rfl, rfl⟩
      go_wp2_with fail
      have hLs : L w wr D K (q.drop 0) := hL
      clear hL
      go_loopw [6] (fun i wr => ∃ k : Nat, k ≤ q.length ∧ i = .int .i64 k ∧ L w wr D K (q.drop k)) (fun i _ => q.length - (intOf i).toNat)
      case atStart => exact ⟨0, Nat.zero_le _, rfl, hLs⟩
      case round =>
        obtain ⟨k, hk, rfl, hL⟩ := hrel
        clear hLs
        by_cases hlt2 : k < q.length
        · obtain ⟨b, o, c', e1, r1⟩ := HR.out.addr (by have := HQ.out; omega)
          simp only [Value.slice.injEq, true_and] at e1
          obtain ⟨rfl, rfl⟩ := e1
          have hlk : l[k]? = some q[k] := by rw [HQ2.out k hlt2, List.getElem?_eq_getElem hlt2]
          have hC : Callish q[k] := HCA.out _ (List.getElem_mem hlt2)
          have g1 := Rd.range HA.out r1 hlk
          have hdr : q.drop k = q[k] :: q.drop (k + 1) := List.drop_eq_getElem_cons hlt2
          rw [hdr] at hL
          clear r1 hlk hdr
          generalize q[k] = C at hC g1 hL
          go_wp2_with fail
          refine (l_next hL).mono ?_
          rintro e w4 ⟨rfl, h4⟩
          have e4 : firstOf (C :: q.drop (k + 1)) = C := rfl
          have e5 : some1 (C :: q.drop (k + 1)) = true := rfl
          have e6 : (C :: q.drop (k + 1)).tail = q.drop (k + 1) := rfl
          rw [e6] at h4
          rw [e4, e5]
          clear e4 e5 e6 hL
          have hn1 := heap_alloc_new w4 (.cells Z28 28)
          have hn2 := setRow_heap _ _ _ C _ _ hn1
          have hk7 := ((Kept.refl (fun _ => False) w4).alloc (.cells Z28 28)).setRow (g := w4.heap.size) (Nat.le_refl _) C
          have HL := Lib.hid (h4.none hk7)
          have G1 : ∀ w', (∃ n, w' = ((w4.alloc (.cells Z28 28)).setRow w4.heap.size C).drewN n) → w'.rangeAt b (o + k * 41) C.toList := by rintro w' ⟨n, rfl⟩; exact HL.out.range g1
          have G2 : ∀ w', (∃ n, w' = ((w4.alloc (.cells Z28 28)).setRow w4.heap.size C).drewN n) → w'.rangeAt w4.heap.size 0 C.toList := by rintro w' ⟨n, rfl⟩; exact range_row hn2
          have HE := eq28_self hC
          have HN2 := Lib.hid hn2
          clear h4 g1 hn2
          go_wp2_with (first | fail | (with_reducible refine alloc28 ?_) | ((with_reducible refine store28 (C := C) ?_ ?_ hn1 rfl hC ?_); rfl; rfl))
          have hkl : (k : Int) < (l.length : Int) := by have := HQ.out; omega
          have hkl2 : k < l.length := by omega
          refine wp_region_quiet_lit (by kernel_rfl) (by kernel_rfl) ?_
          repeat (first | ((with_reducible refine quiet_load28 ?_ ?_ G1 hC.size ?_); rfl; rfl) | ((with_reducible refine quiet_load28 ?_ ?_ G2 hC.size ?_); rfl; rfl) | quiet_step (fail))
          refine wpQuiet_nil ?_
          intro _ hw'
          obtain ⟨nq, hw''⟩ := hw'
          subst hw''
          clear HE G1 G2 hn1 hkl hkl2 hk7
          go_wp2_with fail
          go_roundw
          case rel => exact ⟨k + 1, by omega, by go_num, HL.out.none ((Kept.refl _ _).drewN nq)⟩
          case measure => simp [intOf]; omega
        · obtain rfl : q.length = k := by omega
          have hdr : q.drop q.length = [] := List.drop_eq_nil_of_le (Nat.le_refl _)
          rw [hdr] at hL
          clear hdr
          go_wp2_with fail
          refine (l_next hL).mono ?_
          rintro e w4 ⟨rfl, h4⟩
          have e4 : firstOf [] = Z28 := rfl
          have e5 : some1 [] = false := rfl
          have e6 : ([] : List (Array Value)).tail = [] := rfl
          rw [e6] at h4
          rw [e4, e5]
          clear e4 e5 e6 hL
          have hn1 := heap_alloc_new w4 (.cells Z28 28)
          have hk7 := ((Kept.refl (fun _ => False) w4).alloc (.cells Z28 28)).setRow (g := w4.heap.size) (Nat.le_refl _) Z28
          have HL := Lib.hid (h4.none hk7)
          clear h4 hk7
          by_cases hle : l.length ≤ 24
          · have t1 : ((q.length : Int) == (l.length : Int)) = true := by have := HQ.out; rw [beq_iff_eq]; omega
            go_wp2_with (first | fail | (with_reducible refine alloc28 ?_) | ((with_reducible refine store28 (C := Z28) ?_ ?_ hn1 rfl Z28_callish ?_); rfl; rfl))
            go_ret
            exact ⟨rfl, HL.out.kept.below (Nat.le_refl _) (fun k h => h)⟩
          · have t1 : ((q.length : Int) == (l.length : Int)) = false := by have := HQ.out; rw [beq_eq_false_iff_ne]; omega
            have t2 : ((q.length : Int) == 24) = true := by have := HQ.out; rw [beq_iff_eq]; omega
            go_wp2_with (first | fail | (with_reducible refine alloc28 ?_) | ((with_reducible refine store28 (C := Z28) ?_ ?_ hn1 rfl Z28_callish ?_); rfl; rfl))
            go_ret
            exact ⟨rfl, HL.out.kept.below (Nat.le_refl _) (fun k h => h)⟩

set_option maxRecDepth 100000 in
theorem lifted (os : Os) (started : os.Started) (H : Type) (enc : TypeId × Value → H) :
    ReturnsInHanded {} Try.checked os 4 .any (Rows.postOrderSpec.pre6 enc Try.prog Try.f4 Rows.postOrderRow.domain false) (Rows.postOrderSpec.post enc Try.prog Try.f4 false true false false) := by
  refine returnsInHanded_of_change (C := Try.checked) own started (by kernel_rfl) Try.func4
    (ChangeSpec.witness6 (enc := enc) (C := Try.checked) false ⟨#[], #[.slice none 0 0], []⟩ 8 (by kernel_rfl) (by kernel_rfl) (by kernel_rfl) (by kernel_rfl)) ?_
  intro W base args ds gs before hval0 hW hcnd _
  have hval : ∀ (j : Nat) t v, Try.f4.params[j]? = some t → args[j]? = some v → Value.okWide Try.prog W .any base t v := hval0
  have hW' := hW
  obtain ⟨p, q, hA0, hV, rfl, hfz, hnd⟩ := hW
  have hA : DataW.TrodAll enc Try.prog W 0 (fun _ => true) true Try.f4.params.toList args.toList ds p := hA0
  rw [Try.params4] at hA hval
  obtain ⟨v0, vs0, d0, ds0, p0, q0, hargs, rfl, rfl, h0, r0⟩ := trodAll_cons hA
  obtain ⟨rfl, rfl, rfl⟩ := trodAll_nil r0
  obtain rfl : args = #[v0] := by cases args; simp_all
  obtain ⟨rfl, rfl⟩ := trodVars_none hV
  have k0 := h0
  have lt0 : ∀ x ∈ p0, x.block < W.heap.size := by obtain ⟨m, hm⟩ := k0; exact DataW.trod_lt m _ _ _ hm
  have w0 := IsCalls.of (hval 0 32 v0 rfl rfl) h0
  clear hA0 hval0
  refine (walk W v0 w0).mono fun e W' ⟨he, bel⟩ => ?_
  subst he
  exact ⟨_, rfl, _, _, _, [], _, [], hW', trodAll_mk1 (shut_bool Try.underlying4 _), (trodAll_cons_mk (Below.trod laidOut (by kernel_rfl) (of_decide_eq_true (by kernel_rfl)) k0 bel lt0) trodAll_mk0), rfl, bel.frame _, fun h => by cases h⟩

theorem over : Rows.postOrderRow.holds Try.pinned (OpenSpec.ofChange Rows.postOrderSpec) :=
  OpenClaim.holds_of_wide 4 Try.f4 rfl rfl rfl rfl rfl rfl rfl ⟨rfl, rfl, rfl, rfl, rfl⟩ rfl rfl rfl rfl rfl (by kernel_rfl) Try.func4 (by kernel_rfl)
    (of_decide_eq_true (by kernel_rfl)) (by unfold Func.isWrapper; first | (rw [if_pos (by decide +kernel)]; kernel_rfl) | (rw [if_neg (by decide +kernel)]; exact ⟨rfl, rfl⟩))
    (fun os started H enc _ => lifted os started H enc)

theorem proved : Rows.PostOrderSaid := over
#print axioms proved
end Go.Proofs.Ytohoeakhnnojjaa.postOrder
