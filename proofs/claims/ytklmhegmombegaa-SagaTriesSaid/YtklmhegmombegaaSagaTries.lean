/-
  A saga none of whose calls is answered is stuck: 'Rows.SagaTriesSaid', for every input. Conditions: none.
-/
import Derived.Test.YtklmhegmombegaaArg
import Derived.Test.YtklmhegmombegaaRows
import Derived.OwnWalk
import Derived.ProofKit
import Derived.OpenShut
import Derived.ShutString
import Derived.ChangeOld
import Derived.Below
namespace Go.Proofs.Ytklmhegmombegaa.sagaTries
open Go Go.ChangeShapes Go.WideShapes Go.ChangeAt Go.RowKit Plain
set_option linter.unusedVariables false
theorem own : ownKnob Try.prog.godebug = none := by kernel_rfl
theorem laidOut : laidOutB Try.prog = true := by kernel_rfl

theorem Try.info5 : (Try.prog.info? 5).map (fun i => (i.zero, i.size, i.bytes)) = some (some (.int .u8 0), 1, 1) := by kernel_rfl
theorem sgC_at {w : World} {B : Nat} {s : Sg} {v : Value} (h : w.heap[B]? = some (.cells (sgC s v) 27 (0, 0))) : w.cell? ⟨B, 1, none⟩ = some (.int .i64 s.phase) ∧ w.cell? ⟨B, 2, none⟩ = some (.int .i64 s.pos) ∧ w.cell? ⟨B, 8, none⟩ = some (.int .i64 s.may) :=
  ⟨(cell_of_row _ _ 1 _ _ _ h).trans rfl, (cell_of_row _ _ 2 _ _ _ h).trans rfl, (cell_of_row _ _ 8 _ _ _ h).trans rfl⟩
set_option maxRecDepth 100000 in
set_option maxHeartbeats 8000000 in
theorem walk (w : World) (v0 : Value) (w0 : IsSteps w v0) (a1 : Int) (w1 : (Lit.int .i64 a1).wf = true) :
    Calls Try.prog 7 #[v0, .int .i64 a1] w fun e w' => e = .returned (.bool true) ∧ Below w.heap.size w w' := by
  obtain ⟨b, hmay, hyes⟩ := w0.may
  have HM := Lib.hid hmay
  have HY := Lib.hid hyes
  have HAL := Lib.hid (f_alive w)
  clear hmay hyes w0
  cases b with
  | false =>
    go_enter Try.func7, Try.ntmps7
    go_wp2_with fail
    refine HAL.out.mono ?_
    rintro e w1 ⟨rfl, k1⟩
    go_wp2_with fail
    refine (HM.out _ k1).mono ?_
    rintro e w2 ⟨rfl, k2⟩
    have KF := Lib.hid (k1.trans k2)
    go_wp2_with fail
    go_ret
    exact ⟨rfl, KF.out.below (Nat.le_refl _) (fun k h => h.elim)⟩
  | true =>
    obtain ⟨a, c, l, rfl, hst, hl⟩ := HY.out rfl
    have HS := Lib.hid hst
    have HL := Lib.hid hl
    clear hst hl HY
    by_cases hlo : a1 < 1
    · go_enter Try.func7, Try.ntmps7
      go_wp2_with fail
      refine HAL.out.mono ?_
      rintro e w1 ⟨rfl, k1⟩
      go_wp2_with fail
      refine (HM.out _ k1).mono ?_
      rintro e w2 ⟨rfl, k2⟩
      have KF := Lib.hid (k1.trans k2)
      go_wp2_with fail
      go_ret
      exact ⟨rfl, KF.out.below (Nat.le_refl _) (fun k h => h.elim)⟩
    by_cases hhi : 9 < a1
    · go_enter Try.func7, Try.ntmps7
      go_wp2_with fail
      refine HAL.out.mono ?_
      rintro e w1 ⟨rfl, k1⟩
      go_wp2_with fail
      refine (HM.out _ k1).mono ?_
      rintro e w2 ⟨rfl, k2⟩
      have KF := Lib.hid (k1.trans k2)
      go_wp2_with fail
      go_ret
      exact ⟨rfl, KF.out.below (Nat.le_refl _) (fun k h => h.elim)⟩
    obtain ⟨lim, rfl⟩ : ∃ lim : Nat, a1 = lim := ⟨a1.toNat, by omega⟩
    go_enter Try.func7, Try.ntmps7
    go_wp2_with fail
    refine HAL.out.mono ?_
    rintro e w1 ⟨rfl, k1⟩
    go_wp2_with fail
    refine (HM.out _ k1).mono ?_
    rintro e w2 ⟨rfl, k2⟩
    have K2 := Lib.hid (k1.trans k2)
    clear k1 k2 HM HAL
    obtain ⟨i5, hi, hz, hsz, hby⟩ := info_parts Try.info5
    go_wp2_with (first | fail | (refine wpList_make_full _ rfl (.const (.int .i64 30)) (.const (.int .i64 30)) 29 rfl w2.heap.size 5 i5 (.int .u8 0) 1 Try.underlying29 hi hz hsz .i64 .i64 30 30 30 rfl rfl rfl rfl (by rw [hby]; decide) (by unfold maxLen; omega) (Nat.le_refl _) ?_; intro w3 hown hgr))
    have hg0 : ∃ cur : Array Value, w3.heap[w2.heap.size]? = some (.cells cur 5 (0, 0)) ∧ cur.size = 30 := by
      obtain ⟨_, h | ⟨g, cap, cur, e, _, h2, _, _, h5, _⟩⟩ := hown
      · cases h.1
      · simp only [Value.slice.injEq, Option.some.injEq, Addr.mk.injEq] at e
        obtain ⟨⟨rfl, _, _⟩, _, rfl⟩ := e
        exact ⟨cur, h2, by simpa using h5⟩
    have hk3 : Kept (fun _ => False) w2 w3 := (Kept.refl _ w2).grown hgr (fun k h => by cases h)
    clear hown hgr
    go_loopw [6] (fun i wr => ∃ (k : Nat) (cur : Array Value), k ≤ 30 ∧ i = .int .i64 k ∧ wr.heap[w2.heap.size]? = some (.cells cur 5 (0, 0)) ∧ cur.size = 30 ∧ (∀ j, j < k → cur[j]? = some (.int .u8 2)) ∧ Kept (fun _ => False) w2 wr) (fun i _ => 30 - (intOf i).toNat)
    case atStart =>
      obtain ⟨cur, h1, h2⟩ := hg0
      exact ⟨0, cur, by omega, rfl, h1, h2, fun j hj => by omega, hk3⟩
    case round =>
      obtain ⟨k, cur, hk, rfl, hg, hcs, hall, hK⟩ := hrel
      by_cases hlt : k < 30
      · have hex : ∃ cv, wr.cell? ⟨w2.heap.size, k, none⟩ = some cv := ⟨_, cell_of_block hg (j := k) (by omega)⟩
        obtain ⟨cv, hc⟩ := hex
        have hf := free_of_block (j := k) hg
        have G := Lib.hid (setCell_block (k := k) hg (.int .u8 2))
        have A := Lib.hid hall
        have KK := Lib.hid (hK.setCell (p := ⟨w2.heap.size, k, none⟩) (.inr (Nat.le_refl _)) (.int .u8 2))
        clear hg hall hK hg0 hk3
        go_wp2_with fail
        go_roundw
        case rel =>
          refine ⟨k + 1, _, by omega, by go_num, G.out, by simpa using hcs, fun j hj => ?_, KK.out⟩
          by_cases e : j = k
          · subst e; simp [hcs, hlt]
          · rw [Array.getElem?_setIfInBounds_ne (by omega)]; exact A.out j (by omega)
        case measure => simp [intOf]; omega
      · obtain rfl : k = 30 := by omega
        have hrd : Rd wr 1 (.slice (some ⟨w2.heap.size, 0, none⟩) (List.replicate 30 2).length 30) (List.replicate 30 2).length ((List.replicate 30 2).map fun (n : Nat) => Value.int .u8 (n : Int)) := by
          refine ⟨by simp, _, 30, rfl, .inr ⟨_, rfl, fun j u hu => ?_⟩⟩
          have hj : j < 30 := by have := (List.getElem?_eq_some_iff.1 hu).1; simpa using this
          have hv : u = .int .u8 2 := by
            have hm := List.mem_of_getElem? hu
            obtain ⟨z, hz, rfl⟩ := List.mem_map.1 hm
            rw [List.eq_of_mem_replicate hz]; rfl
          rw [Addr.add_none, Nat.zero_add, cell_of_row _ _ j _ _ _ hg, hall j hj, hv]
        have lt : w2.heap.size < wr.heap.size := (Array.getElem?_eq_some_iff.1 hg).1
        have KR := Lib.hid (K2.out.trans hK)
        have HRUN := Lib.hid (f_run (.slice a l.length c) _ l lim (List.replicate 30 2) wr (HS.out.kept KR.out) HL.out (by omega) (by omega) hrd (fun k e => by cases e; exact lt) (by simp) (fun z hz => by rw [List.eq_of_mem_replicate hz]; decide))
        have hans : ∀ i, i < 30 → ((List.replicate 30 2)[i]?).getD 0 % 3 = 2 := fun i hi => by rw [List.getElem?_replicate, if_pos hi]; rfl
        have HANS := Lib.hid hans
        have ll := mayB_len HL.out
        obtain ⟨b, o, c', e1, x1, -, -⟩ := HS.out.kind (k := 0) (by omega)
        simp only [Value.slice.injEq, true_and] at e1
        obtain ⟨rfl, rfl⟩ := e1
        have hbl : b < w.heap.size := HS.out.lt b rfl
        have hlr : (List.replicate 30 2).length = 30 := rfl
        rw [hlr] at HRUN
        clear hg hcs hall hK hg0 hk3 hrd hans hlt hk lt hlr
        go_wp2_with fail
        refine HRUN.out.mono ?_
        rintro e w4 ⟨n, s, a', c'', rfl, hend, hinv, hst4, k4⟩
        by_cases hk : kindAt l 0 = 1
        · obtain ⟨rfl, rfl⟩ := hend.unique (ends_try_comp HL.out HANS.out (by omega) (by omega) hk)
          have kt : (kindAt l 0 == 1) = true := by simp [hk]
          have z := Lib.hid (heap_alloc_new w4 (.cells Z27 27))
          obtain ⟨r7, k7⟩ := alloc_set w4 Z27 (sgC { undS l lim lim with phase := 4, seq := 4 * lim + 2 } (.slice a' l.length c'')) 27
          have KF := Lib.hid ((KR.out.trans k4).trans k7)
          have x2 := (KF.out.cell (p := ⟨b, o + 0 * 2 + 1, none⟩) hbl id).trans x1
          have q1 := (cell_of_row _ _ 1 _ _ _ r7).trans (show _ = some (Value.int .i64 4) from rfl)
          have q8 := (cell_of_row _ _ 8 _ _ _ r7).trans (show _ = some (Value.int .i64 1) from rfl)
          have hN : ((((4 * lim + 1 : Nat) : Int)) == 4 * (lim : Int) + 1) = true := by rw [beq_iff_eq]; omega
          have hone := Lib.hid (sgC_one { undS l lim lim with phase := 4, seq := 4 * lim + 2 } a' l.length c'')
          rw [Nat.zero_mul, Nat.add_zero] at x2
          generalize (((4 * lim + 1 : Nat) : Int)) = N at hN ⊢
          have hsc := Lib.hid (sgC_size { undS l lim lim with phase := 4, seq := 4 * lim + 2 } (.slice a' l.length c''))
          generalize sgC { undS l lim lim with phase := 4, seq := 4 * lim + 2 } (.slice a' l.length c'') = SC at *
          clear r7 k7 k4 hend hinv hst4 x1 hk
          go_wp2_with (first | fail | (with_reducible refine alloc27 ?_) | ((with_reducible refine store27 (C := SC) ?_ ?_ z.out hz27 hsc.out hone.out ?_); rfl; rfl))
          go_ret
          exact ⟨rfl, KF.out.below (Nat.le_refl _) (fun k h => h.elim)⟩
        · obtain ⟨rfl, rfl⟩ := hend.unique (ends_try HL.out HANS.out (by omega) (by omega) hk)
          have kt : (kindAt l 0 == 1) = false := by simp [hk]
          have z := Lib.hid (heap_alloc_new w4 (.cells Z27 27))
          obtain ⟨r7, k7⟩ := alloc_set w4 Z27 (sgC { tryS l lim with phase := 4, seq := 2 * lim + 2 } (.slice a' l.length c'')) 27
          have KF := Lib.hid ((KR.out.trans k4).trans k7)
          have x2 := (KF.out.cell (p := ⟨b, o + 0 * 2 + 1, none⟩) hbl id).trans x1
          have q1 := (cell_of_row _ _ 1 _ _ _ r7).trans (show _ = some (Value.int .i64 4) from rfl)
          have q2 := (cell_of_row _ _ 2 _ _ _ r7).trans (show _ = some (Value.int .i64 0) from rfl)
          have hN : ((((2 * lim + 1 : Nat) : Int)) == 2 * (lim : Int) + 1) = true := by rw [beq_iff_eq]; omega
          have hone := Lib.hid (sgC_one { tryS l lim with phase := 4, seq := 2 * lim + 2 } a' l.length c'')
          rw [Nat.zero_mul, Nat.add_zero] at x2
          generalize (((2 * lim + 1 : Nat) : Int)) = N at hN ⊢
          have hsc := Lib.hid (sgC_size { tryS l lim with phase := 4, seq := 2 * lim + 2 } (.slice a' l.length c''))
          generalize sgC { tryS l lim with phase := 4, seq := 2 * lim + 2 } (.slice a' l.length c'') = SC at *
          clear r7 k7 k4 hend hinv hst4 x1 hk
          go_wp2_with (first | fail | (with_reducible refine alloc27 ?_) | ((with_reducible refine store27 (C := SC) ?_ ?_ z.out hz27 hsc.out hone.out ?_); rfl; rfl))
          go_ret
          exact ⟨rfl, KF.out.below (Nat.le_refl _) (fun k h => h.elim)⟩

set_option maxRecDepth 100000 in
theorem lifted (os : Os) (started : os.Started) (H : Type) (enc : TypeId × Value → H) :
    ReturnsInHanded {} Try.checked os 7 .any (Rows.sagaTriesSpec.pre6 enc Try.prog Try.f7 Rows.sagaTriesRow.domain false) (Rows.sagaTriesSpec.post enc Try.prog Try.f7 false true false false) := by
  refine returnsInHanded_of_change (C := Try.checked) own started (by kernel_rfl) Try.func7
    (ChangeSpec.witness6 (enc := enc) (C := Try.checked) false ⟨#[], #[.slice none 0 0, .int .i64 0], []⟩ 8 (by kernel_rfl) (by kernel_rfl) (by kernel_rfl) (by kernel_rfl)) ?_
  intro W base args ds gs before hval0 hW hcnd _
  have hval : ∀ (j : Nat) t v, Try.f7.params[j]? = some t → args[j]? = some v → Value.okWide Try.prog W .any base t v := hval0
  have hW' := hW
  obtain ⟨p, q, hA0, hV, rfl, hfz, hnd⟩ := hW
  have hA : DataW.TrodAll enc Try.prog W 0 (fun _ => true) true Try.f7.params.toList args.toList ds p := hA0
  rw [Try.params7] at hA hval
  obtain ⟨v0, vs0, d0, ds0, p0, q0, hargs, rfl, rfl, h0, r0⟩ := trodAll_cons hA
  obtain ⟨v1, vs1, d1, ds1, p1, q1, rfl, rfl, rfl, h1, r1⟩ := trodAll_cons r0
  obtain ⟨rfl, rfl, rfl⟩ := trodAll_nil r1
  obtain rfl : args = #[v0, v1] := by cases args; simp_all
  obtain ⟨rfl, rfl⟩ := trodVars_none hV
  have k0 := h0
  have lt0 : ∀ x ∈ p0, x.block < W.heap.size := by obtain ⟨m, hm⟩ := k0; exact DataW.trod_lt m _ _ _ hm
  have w0 := IsSteps.of (hval 0 22 v0 rfl rfl) h0
  obtain ⟨a1, rfl, rfl, rfl, w1⟩ := open_int Try.underlying3 (hval 1 3 v1 rfl rfl) h1
  clear hA0 hval0
  refine (walk W v0 w0 a1 w1).mono fun e W' ⟨he, bel⟩ => ?_
  subst he
  exact ⟨_, rfl, _, _, _, [], _, [], hW', trodAll_mk1 (shut_bool Try.underlying4 _), (trodAll_cons_mk (Below.trod laidOut (by kernel_rfl) (of_decide_eq_true (by kernel_rfl)) k0 bel lt0) (trodAll_cons_mk (shut_int Try.underlying3 w1) trodAll_mk0)), rfl, bel.frame _, fun h => by cases h⟩

theorem over : Rows.sagaTriesRow.holds Try.pinned (OpenSpec.ofChange Rows.sagaTriesSpec) :=
  OpenClaim.holds_of_wide 7 Try.f7 rfl rfl rfl rfl rfl rfl rfl ⟨rfl, rfl, rfl, rfl, rfl⟩ rfl rfl rfl rfl rfl (by kernel_rfl) Try.func7 (by kernel_rfl)
    (of_decide_eq_true (by kernel_rfl)) (by unfold Func.isWrapper; first | (rw [if_pos (by decide +kernel)]; kernel_rfl) | (rw [if_neg (by decide +kernel)]; exact ⟨rfl, rfl⟩))
    (fun os started H enc _ => lifted os started H enc)

theorem proved : Rows.SagaTriesSaid := over
#print axioms proved
end Go.Proofs.Ytklmhegmombegaa.sagaTries

