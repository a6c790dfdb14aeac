/-
  A saga all of whose calls go well is committed: 'Rows.SagaGoodSaid', for every input. Conditions: none.
-/
import Derived.Test.YtklmhegmombegaaArg
import Derived.Test.YtklmhegmombegaaRows
import Derived.OwnWalk
import Derived.ProofKit
import Derived.OpenShut
import Derived.ShutString
import Derived.ChangeOld
import Derived.Below
namespace Go.Proofs.Ytklmhegmombegaa.sagaGood
open Go Go.ChangeShapes Go.WideShapes Go.ChangeAt Go.RowKit Plain
set_option linter.unusedVariables false
set_option linter.unusedSimpArgs false
theorem own : ownKnob Try.prog.godebug = none := by kernel_rfl
theorem laidOut : laidOutB Try.prog = true := by kernel_rfl

theorem Try.info5 : (Try.prog.info? 5).map (fun i => (i.zero, i.size, i.bytes)) = some (some (.int .u8 0), 1, 1) := by kernel_rfl
theorem sgC_at {w : World} {B : Nat} {s : Sg} {v : Value} (h : w.heap[B]? = some (.cells (sgC s v) 27 (0, 0))) : w.cell? ⟨B, 1, none⟩ = some (.int .i64 s.phase) ∧ w.cell? ⟨B, 2, none⟩ = some (.int .i64 s.pos) ∧ w.cell? ⟨B, 8, none⟩ = some (.int .i64 s.may) :=
  ⟨(cell_of_row _ _ 1 _ _ _ h).trans rfl, (cell_of_row _ _ 2 _ _ _ h).trans rfl, (cell_of_row _ _ 8 _ _ _ h).trans rfl⟩
set_option maxRecDepth 100000 in
set_option maxHeartbeats 8000000 in
theorem walk (w : World) (v0 : Value) (w0 : IsSteps w v0) (a1 : Int) (w1 : (Lit.int .i64 a1).wf = true) (a2 : Int) (w2 : (Lit.int .u8 a2).wf = true) :
    Calls Try.prog 5 #[v0, .int .i64 a1, .int .u8 a2] w fun e w' => e = .returned (.bool true) ∧ Below w.heap.size w w' := by
  obtain ⟨b, hmay, hyes⟩ := w0.may
  have h2 : 0 ≤ a2 ∧ a2 ≤ 255 := by
    have h := w2
    simp [Lit.wf] at h
    have e1 : IntKind.u8.min = 0 := rfl
    have e2 : IntKind.u8.max = 255 := rfl
    omega
  obtain ⟨z, rfl⟩ : ∃ z : Nat, a2 = z := ⟨a2.toNat, by omega⟩
  clear w2
  have HM := Lib.hid hmay
  have HY := Lib.hid hyes
  have HAL := Lib.hid (f_alive w)
  clear hmay hyes w0
  cases b with
  | false =>
    go_enter Try.func5, Try.ntmps5
    go_wp2_with fail
    refine HAL.out.mono ?_
    rintro e w1 ⟨rfl, k1⟩
    go_wp2_with fail
    refine (HM.out _ k1).mono ?_
    rintro e w2 ⟨rfl, k2⟩
    have KF := Lib.hid (k1.trans k2)
    go_wp2_with fail
    go_ret
    exact ⟨rfl, KF.out.below (Nat.le_refl _) (fun k h => h.elim)⟩
  | true =>
    obtain ⟨a, c, l, rfl, hst, hl⟩ := HY.out rfl
    have HS := Lib.hid hst
    have HL := Lib.hid hl
    clear hst hl HY
    by_cases hlo : a1 < 1
    · go_enter Try.func5, Try.ntmps5
      go_wp2_with fail
      refine HAL.out.mono ?_
      rintro e w1 ⟨rfl, k1⟩
      go_wp2_with fail
      refine (HM.out _ k1).mono ?_
      rintro e w2 ⟨rfl, k2⟩
      have KF := Lib.hid (k1.trans k2)
      go_wp2_with fail
      go_ret
      exact ⟨rfl, KF.out.below (Nat.le_refl _) (fun k h => h.elim)⟩
    by_cases hhi : 9 < a1
    · go_enter Try.func5, Try.ntmps5
      go_wp2_with fail
      refine HAL.out.mono ?_
      rintro e w1 ⟨rfl, k1⟩
      go_wp2_with fail
      refine (HM.out _ k1).mono ?_
      rintro e w2 ⟨rfl, k2⟩
      have KF := Lib.hid (k1.trans k2)
      go_wp2_with fail
      go_ret
      exact ⟨rfl, KF.out.below (Nat.le_refl _) (fun k h => h.elim)⟩
    obtain ⟨lim, rfl⟩ : ∃ lim : Nat, a1 = lim := ⟨a1.toNat, by omega⟩
    go_enter Try.func5, Try.ntmps5
    go_wp2_with fail
    refine HAL.out.mono ?_
    rintro e w1 ⟨rfl, k1⟩
    go_wp2_with fail
    refine (HM.out _ k1).mono ?_
    rintro e w2 ⟨rfl, k2⟩
    have K2 := Lib.hid (k1.trans k2)
    clear k1 k2 HM HAL
    have KR := Lib.hid K2.out
    have HRUN := Lib.hid (f_run (.slice a l.length c) (.slice none 0 0) l lim [] w2 (HS.out.kept KR.out) HL.out (by omega) (by omega) ⟨rfl, none, 0, rfl, .inl ⟨rfl, rfl, rfl⟩⟩ (fun h k e => by cases e) (by simp) (fun z hz => by cases hz))
    have ll := mayB_len HL.out
    go_wp2_with fail
    refine HRUN.out.mono ?_
    rintro e w4 ⟨n, s, a', c', rfl, hend, hinv, hst4, k4⟩
    obtain ⟨rfl, rfl⟩ := hend.unique (ends_good HL.out (by omega) (fun i hi => rfl))
    have z4 := Lib.hid (heap_alloc_new w4 (.cells Z27 27))
    obtain ⟨r7, k7⟩ := alloc_set w4 Z27 (sgC { fwdS l l.length with phase := 2, seq := 2 * l.length + 2 } (.slice a' l.length c')) 27
    have KF := Lib.hid ((KR.out.trans k4).trans k7)
    have q1 := (cell_of_row _ _ 1 _ _ _ r7).trans (show _ = some (Value.int .i64 2) from rfl)
    have hN : ((((2 * l.length + 1 : Nat) : Int)) != 2 * (l.length : Int) + 1) = false := by rw [bne, Bool.not_eq_false', beq_iff_eq]; omega
    have hone := Lib.hid (sgC_one { fwdS l l.length with phase := 2, seq := 2 * l.length + 2 } a' l.length c')
    have hsc := Lib.hid (sgC_size { fwdS l l.length with phase := 2, seq := 2 * l.length + 2 } (.slice a' l.length c'))
    generalize ((((2 * l.length + 1 : Nat) : Int))) = N at hN ⊢
    generalize sgC { fwdS l l.length with phase := 2, seq := 2 * l.length + 2 } (.slice a' l.length c') = SC at *
    clear r7 k7 k4 hend hinv hst4 K2 KR HRUN
    go_upto_region 9 with (first | fail | (with_reducible refine alloc27 ?_) | ((with_reducible refine store27 (C := SC) ?_ ?_ z4.out hz27 hsc.out hone.out ?_); rfl; rfl))
    have hqx : ∃ q : Nat, q < l.length ∧ ((z : Int) % (l.length : Int)) = q := ⟨z % l.length, Nat.mod_lt _ (by omega), (Int.natCast_emod _ _).symm⟩
    obtain ⟨q, hql, hqe⟩ := hqx
    rw [hqe]
    obtain ⟨b, o, c2, e1, x1, -, -⟩ := HS.out.kind hql
    simp only [Value.slice.injEq, true_and] at e1
    obtain ⟨rfl, rfl⟩ := e1
    have hbl : b < w.heap.size := HS.out.lt b rfl
    have x2 := (KF.out.cell (p := ⟨b, o + q * 2 + 1, none⟩) hbl id).trans x1
    clear x1 hqe q1 hN z4
    generalize (w4.alloc (.cells Z27 27)).setRow w4.heap.size SC = wF at KF x2 ⊢
    by_cases hk3 : kindAt l q = 3
    · have t3 : (kindAt l q == 3) = true := by simp [hk3]
      clear hk3
      go_wp2_with fail
      go_ret
      exact ⟨rfl, KF.out.below (Nat.le_refl _) (fun k h => h.elim)⟩
    have t3 : (kindAt l q == 3) = false := by simp [hk3]
    have HK3 := Lib.hid hk3
    clear hk3
    obtain ⟨i5, hi, hz, hsz, hby⟩ := info_parts Try.info5
    go_upto_region 12 with (first | fail | (refine wpList_make_full _ rfl (.tmp 62) (.tmp 62) 29 rfl wF.heap.size 5 i5 (.int .u8 0) 1 Try.underlying29 hi hz hsz .i64 .i64 ((q : Int) + 1) ((q : Int) + 1) (q + 1) rfl rfl (by omega) (by omega) (by rw [hby]; omega) (by unfold maxLen; omega) (Nat.le_refl _) ?_; intro w3 hown hgr; have HOWN := Lib.hid hown; have HGR := Lib.hid hgr; clear hown hgr))
    have hg0 : ∃ cur : Array Value, w3.heap[wF.heap.size]? = some (.cells cur 5 (0, 0)) ∧ cur.size = q + 1 ∧ ∀ j, j < q + 1 → cur[j]? = some (.int .u8 0) := by
      obtain ⟨_, h | ⟨g, cap, cur, e, _, h2, _, _, h5, h6⟩⟩ := HOWN.out
      · cases h.1
      · simp only [Value.slice.injEq, Option.some.injEq, Addr.mk.injEq] at e
        obtain ⟨⟨rfl, _, _⟩, _, rfl⟩ := e
        have h5' : cur.size = q + 1 := by simpa using h5
        refine ⟨cur, h2, h5', fun j hj => ?_⟩
        rw [Nat.mul_one, List.take_of_length_le (by simp [h5'])] at h6
        have h7 : cur.toList = List.replicate (q + 1) (.int .u8 0) := h6.trans (toList_madeCells_one _ _)
        rw [← Array.getElem?_toList, h7, List.getElem?_replicate, if_pos hj]
    obtain ⟨cur, hg, hcs, hall⟩ := hg0
    have hk3 : Kept (fun _ => False) wF w3 := (Kept.refl _ wF).grown HGR.out (fun k h => by cases h)
    have hex : ∃ cv, w3.cell? ⟨wF.heap.size, q, none⟩ = some cv := ⟨_, cell_of_block hg (j := q) (by omega)⟩
    obtain ⟨cv, hc⟩ := hex
    have hf := free_of_block (j := q) hg
    have hg2 := setCell_block (k := q) hg (.int .u8 1)
    have K5 := hk3.setCell (p := ⟨wF.heap.size, q, none⟩) (.inr (Nat.le_refl _)) (.int .u8 1)
    have G2 := Lib.hid hg2
    have K5' := Lib.hid K5
    have A := Lib.hid hall
    clear hg hg2 K5 hk3 hall HOWN HGR
    go_upto_region 13 with (fail)
    generalize w3.setCell ⟨wF.heap.size, q, none⟩ (.int .u8 1) = w6 at G2 K5' ⊢
    have hlr : (List.replicate q 0 ++ [1]).length = q + 1 := by simp
    have hrd : Rd w6 1 (.slice (some ⟨wF.heap.size, 0, none⟩) (List.replicate q 0 ++ [1]).length (q + 1)) (List.replicate q 0 ++ [1]).length ((List.replicate q 0 ++ [1]).map fun (n : Nat) => Value.int .u8 (n : Int)) := by
      refine ⟨by simp, _, q + 1, rfl, .inr ⟨_, rfl, fun j u hu => ?_⟩⟩
      have hj : j < q + 1 := by have := (List.getElem?_eq_some_iff.1 hu).1; simpa using this
      rw [Addr.add_none, Nat.zero_add, cell_of_row _ _ j _ _ _ G2.out, ← hu, List.getElem?_map]
      by_cases e : j = q
      · subst e
        rw [Array.getElem?_setIfInBounds_self_of_lt (by omega), List.getElem?_append_right (by simp)]
        simp
      · rw [Array.getElem?_setIfInBounds_ne (by omega), A.out j hj, List.getElem?_append_left (by simp; omega), List.getElem?_replicate, if_pos (by omega)]
        rfl
    have lt : wF.heap.size < w6.heap.size := (Array.getElem?_eq_some_iff.1 G2.out).1
    have KR := Lib.hid (KF.out.trans K5'.out)
    have HRUN := Lib.hid (f_run (.slice (some ⟨b, o, none⟩) l.length c) _ l lim (List.replicate q 0 ++ [1]) w6 (HS.out.kept KR.out) HL.out (by omega) (by omega) hrd (fun _ k e => by cases e; exact lt) (by simp; omega) (fun z hz => by
      rcases List.mem_append.1 hz with h | h
      · rw [List.eq_of_mem_replicate h]; decide
      · simp at h; omega))
    have HE := Lib.hid (ends_back (ans := List.replicate q 0 ++ [1]) HL.out (lim := lim) (by omega) hql HK3.out (fun i hi => by
      by_cases e : i < q
      · rw [List.getElem?_append_left (by simpa using e), List.getElem?_replicate, if_pos e]; rfl
      · rw [List.getElem?_eq_none (by simp; omega)]; rfl) (by rw [List.getElem?_append_right (by simp)]; simp))
    rw [hlr] at HRUN
    clear hrd lt hlr hc hf hcs G2 A K5' KF
    go_wp2_with fail
    refine HRUN.out.mono ?_
    rintro e w7 ⟨n, s, a3, c3, rfl, hend, hinv, hst4, k4⟩
    obtain ⟨rfl, rfl⟩ := hend.unique HE.out
    have z4 := Lib.hid (heap_alloc_new w7 (.cells Z27 27))
    obtain ⟨r7, k7⟩ := alloc_set w7 Z27 (sgC { bwS l q q with phase := 3, seq := 4 * q + 4 } (.slice a3 l.length c3)) 27
    have KF := Lib.hid ((KR.out.trans k4).trans k7)
    have q1 := (cell_of_row _ _ 1 _ _ _ r7).trans (show _ = some (Value.int .i64 3) from rfl)
    have hN : ((((2 * (q + 1) + 2 * q + 1 : Nat) : Int)) == 2 * ((q : Int) + 1) + 2 * (q : Int) + 1) = true := by rw [beq_iff_eq]; omega
    have hone := Lib.hid (sgC_one { bwS l q q with phase := 3, seq := 4 * q + 4 } a3 l.length c3)
    have hsc := Lib.hid (sgC_size { bwS l q q with phase := 3, seq := 4 * q + 4 } (.slice a3 l.length c3))
    generalize ((((2 * (q + 1) + 2 * q + 1 : Nat) : Int))) = N at hN ⊢
    generalize sgC { bwS l q q with phase := 3, seq := 4 * q + 4 } (.slice a3 l.length c3) = SC at *
    clear r7 k7 k4 hend hinv hst4 HE HRUN KR
    go_wp2_with (first | fail | (with_reducible refine alloc27 ?_) | ((with_reducible refine store27 (C := SC) ?_ ?_ z4.out hz27 hsc.out hone.out ?_); rfl; rfl))
    go_ret
    exact ⟨rfl, KF.out.below (Nat.le_refl _) (fun k h => h.elim)⟩

set_option maxRecDepth 100000 in
theorem lifted (os : Os) (started : os.Started) (H : Type) (enc : TypeId × Value → H) :
    ReturnsInHanded {} Try.checked os 5 .any (Rows.sagaGoodSpec.pre6 enc Try.prog Try.f5 Rows.sagaGoodRow.domain false) (Rows.sagaGoodSpec.post enc Try.prog Try.f5 false true false false) := by
  refine returnsInHanded_of_change (C := Try.checked) own started (by kernel_rfl) Try.func5
    (ChangeSpec.witness6 (enc := enc) (C := Try.checked) false ⟨#[], #[.slice none 0 0, .int .i64 0, .int .u8 0], []⟩ 8 (by kernel_rfl) (by kernel_rfl) (by kernel_rfl) (by kernel_rfl)) ?_
  intro W base args ds gs before hval0 hW hcnd _
  have hval : ∀ (j : Nat) t v, Try.f5.params[j]? = some t → args[j]? = some v → Value.okWide Try.prog W .any base t v := hval0
  have hW' := hW
  obtain ⟨p, q, hA0, hV, rfl, hfz, hnd⟩ := hW
  have hA : DataW.TrodAll enc Try.prog W 0 (fun _ => true) true Try.f5.params.toList args.toList ds p := hA0
  rw [Try.params5] at hA hval
  obtain ⟨v0, vs0, d0, ds0, p0, q0, hargs, rfl, rfl, h0, r0⟩ := trodAll_cons hA
  obtain ⟨v1, vs1, d1, ds1, p1, q1, rfl, rfl, rfl, h1, r1⟩ := trodAll_cons r0
  obtain ⟨v2, vs2, d2, ds2, p2, q2, rfl, rfl, rfl, h2, r2⟩ := trodAll_cons r1
  obtain ⟨rfl, rfl, rfl⟩ := trodAll_nil r2
  obtain rfl : args = #[v0, v1, v2] := by cases args; simp_all
  obtain ⟨rfl, rfl⟩ := trodVars_none hV
  have k0 := h0
  have lt0 : ∀ x ∈ p0, x.block < W.heap.size := by obtain ⟨m, hm⟩ := k0; exact DataW.trod_lt m _ _ _ hm
  have w0 := IsSteps.of (hval 0 22 v0 rfl rfl) h0
  obtain ⟨a1, rfl, rfl, rfl, w1⟩ := open_int Try.underlying3 (hval 1 3 v1 rfl rfl) h1
  obtain ⟨a2, rfl, rfl, rfl, w2⟩ := open_int Try.underlying5 (hval 2 5 v2 rfl rfl) h2
  clear hA0 hval0
  refine (walk W v0 w0 a1 w1 a2 w2).mono fun e W' ⟨he, bel⟩ => ?_
  subst he
  exact ⟨_, rfl, _, _, _, [], _, [], hW', trodAll_mk1 (shut_bool Try.underlying4 _), (trodAll_cons_mk (Below.trod laidOut (by kernel_rfl) (of_decide_eq_true (by kernel_rfl)) k0 bel lt0) (trodAll_cons_mk (shut_int Try.underlying3 w1) (trodAll_cons_mk (shut_int Try.underlying5 w2) trodAll_mk0))), rfl, bel.frame _, fun h => by cases h⟩

theorem over : Rows.sagaGoodRow.holds Try.pinned (OpenSpec.ofChange Rows.sagaGoodSpec) :=
  OpenClaim.holds_of_wide 5 Try.f5 rfl rfl rfl rfl rfl rfl rfl ⟨rfl, rfl, rfl, rfl, rfl⟩ rfl rfl rfl rfl rfl (by kernel_rfl) Try.func5 (by kernel_rfl)
    (of_decide_eq_true (by kernel_rfl)) (by unfold Func.isWrapper; first | (rw [if_pos (by decide +kernel)]; kernel_rfl) | (rw [if_neg (by decide +kernel)]; exact ⟨rfl, rfl⟩))
    (fun os started H enc _ => lifted os started H enc)

theorem proved : Rows.SagaGoodSaid := over
#print axioms proved
end Go.Proofs.Ytklmhegmombegaa.sagaGood

