/-
  A saga in a book stands as its own records make it: 'Rows.BookApartSaid', for every input. Conditions: none.
-/
import Derived.Test.YtklmhegmombegaaArg3
import Derived.Test.YtklmhegmombegaaBkN
import Derived.Test.YtklmhegmombegaaBkS
import Derived.Test.YtklmhegmombegaaRows
import Derived.OwnWalk
import Derived.ProofKit
import Derived.OpenShut
import Derived.ShutString
import Derived.ChangeOld
import Derived.Below
namespace Go.Proofs.Ytklmhegmombegaa.bookApart
open Go Go.ChangeShapes Go.WideShapes Go.ChangeAt Go.RowKit Plain
set_option linter.unusedVariables false
set_option linter.unusedSimpArgs false
theorem own : ownKnob Try.prog.godebug = none := by kernel_rfl
theorem laidOut : laidOutB Try.prog = true := by kernel_rfl

/-- A slice of records that came in, with its capacity. -/
def IsRecsC (w : World) (v : Value) : Prop := IsRecs w v ∧ ∃ a n c, v = .slice a n c ∧ n ≤ c
set_option maxRecDepth 100000 in
theorem IsRecsC.of {H : Type} {enc : TypeId × Value → H} {W : World} {base : Nat} {v : Value} {d : DataW H} {p : List MemPlace} (ho : Value.okWide Try.prog W .any base 49 v)
    (h : DataW.Trod enc Try.prog W 0 (fun _ => true) true 49 v d p) : IsRecsC W v := by
  refine ⟨IsRecs.of ho h, ?_⟩
  obtain ⟨a0, len, cap, rfl⟩ := okWide_slice Try.underlying49 ho
  obtain ⟨a, n, c, F, hcs, hle, hnil, hm, hF⟩ := open_elems Try.underlying49 cells41 (by decide) (Reads.of_trod h)
  have hcs' : Value.slice a0 len cap = .slice a n c := by simpa [Value.cells] using hcs
  exact ⟨a, n, c, hcs', hle⟩
theorem yields41o {ops : Array Oper} {S : World → Prop} {dst : Option Tmp} {ty : TypeId} {pos : String} {aft : Array Edge} {gd : Option (Nat × Bool)} {a : Act} {x : Operand} {g o : Nat} {C : Array Value} (hw : Region.wanted ⟨dst, .load 41 x, ty, pos, aft, gd⟩ (yielded ops a.tmps) = true) (hx : a.eval x = .pointer (some ⟨g, o, none⟩)) (hg : ∀ w, S w → w.rangeAt g o C.toList) (hC : C.size = 109) :
    YieldsIf Try.prog ops S ⟨dst, .load 41 x, ty, pos, aft, gd⟩ (.agg C) a := by
  refine .inl ⟨hw, fun w hS => ?_⟩
  have hl := run_loadAt_mid (P := Try.prog) w g o 41 C.toList _ (hg w hS) Try.underlying41 rfl (by rw [Try.isz41]; simp [hC])
  rw [Array.toArray_toList] at hl
  unfold execOp
  simp only [hx, Sem.run_bind, hl, Result.andThen_ok, Sem.run_pure]
theorem Runs.good {lim : Nat} {l : List Rx} {s : Sg} (h : Runs lim l s) : GoodS lim s := by
  induction h with
  | first k1 hm => exact GoodS.new hm
  | next hr hg ih => exact ih.go hg
/-- What Only hands back holds its records. -/
theorem OnPost.holds {rs : List (Array Value × Rx)} {n : Int} {m : Nat} {w w' : World} {v : Value} (hb : Buf w' w.heap.size 41 109 v (onlyR n (rs.take m)).length ((onlyR n (rs.take m)).flatMap frc)) (hr : ∀ p ∈ rs, RecIn w' p.1 p.2) (hl : rs.length ≤ maxLen) : HoldsRs w' v (onlyR n (rs.take m)) := by
  refine ⟨hb.rd, ?_, fun p hp => hr p ?_⟩
  · have h1 : (onlyR n (rs.take m)).length ≤ (rs.take m).length := List.length_filter_le _ _
    rw [List.length_take] at h1
    omega
  · exact List.mem_of_mem_take (List.mem_filter.1 hp).1
theorem range_at {w : World} {g o j : Nat} {C : Array Value} {v : Value} (h : w.rangeAt g o C.toList) (hc : C[j]? = some v) : w.cell? ⟨g, o + j, none⟩ = some v := h j v (by rw [Array.getElem?_toList]; exact hc)
theorem bookOf_lim (l : List Rx) (lim : Int) (h : (bookOf l lim).1.sagas ≠ []) : 1 ≤ lim ∧ lim ≤ 9 := by
  cases l with
  | nil => exact absurd rfl h
  | cons x l =>
    cases hb : bgo Bk.zero x lim with
    | none => unfold bookOf at h; rw [ofFrom_no hb] at h; exact absurd rfl h
    | some c => exact ⟨(bgo_turn hb).1, (bgo_turn hb).2.1⟩
theorem newOf_new {l : List (Int × Int)} (h : mayB l = true) : newOf l = new l := by rw [newOf, if_pos h]
set_option maxRecDepth 100000 in
set_option maxHeartbeats 8000000 in
theorem walk (w : World) (v0 : Value) (w0 : IsRecsC w v0) (a1 : Int) (w1 : (Lit.int .i64 a1).wf = true) :
    Calls Try.prog 9 #[v0, .int .i64 a1] w fun e w' => e = .returned (.bool true) ∧ Below w.heap.size w w' := by
  obtain ⟨⟨rs, hR⟩, x0, x1, x2, hx, hcap⟩ := w0
  obtain ⟨a, c, rfl⟩ := hR.form
  simp only [Value.slice.injEq] at hx
  obtain ⟨rfl, rfl, rfl⟩ := hx
  clear w1
  have HAL := Lib.hid (f_alive12 w)
  have HGR := Lib.hid (fun w' (k : Kept (fun _ => False) w w') => f_great _ rs w' (hR.kept k))
  cases hg : greatL (rs.map (·.2)) with
  | true =>
    rw [hg] at HGR
    clear hR hg
    go_enter Try.func9, Try.ntmps9
    go_wp2_with fail
    refine HAL.out.mono ?_
    rintro e w1 ⟨rfl, k1⟩
    go_wp2_with fail
    refine (HGR.out _ k1).mono ?_
    rintro e w2 ⟨rfl, k2⟩
    have KF := Lib.hid (k1.trans k2)
    go_wp2_with fail
    go_ret
    exact ⟨rfl, KF.out.below (Nat.le_refl _) (fun k h => h.elim)⟩
  | false =>
    rw [hg] at HGR
    obtain ⟨hl0, hs0⟩ := great_not hg
    rw [List.length_map] at hl0
    have hs1 : ∀ p ∈ rs, p.2.steps.length ≤ 1000000 := fun p hp => by have := hs0 p.2 (List.mem_map_of_mem hp); omega
    obtain ⟨b, n, hbn⟩ : ∃ b n, bookOf (rs.map (·.2)) a1 = (b, n) := ⟨_, _, rfl⟩
    have hle : n ≤ rs.length := by have := bookOf_le (rs.map (·.2)) a1; rw [hbn, List.length_map] at this; exact this
    have hmd : Made a1.toNat ((rs.map (·.2)).take n) b := by have := bookOf_made (rs.map (·.2)) a1; rw [hbn] at this; exact this
    have hgd : BGood a1.toNat b := by have := good_bookOf (rs.map (·.2)) a1; rw [hbn] at this; exact this
    have HOF : Hid (∀ w', Kept (fun _ => False) w w' → Calls Try.prog 27 #[.slice a rs.length c, .int .i64 a1] w' (OfPost (b, n) w')) := fun w' k => by
      have := f_bof _ rs a1 w' (hR.kept k) (by omega) hs1
      rw [hbn] at this; exact this
    have HR := Lib.hid hR
    have HLM : Hid (b.sagas ≠ [] → 1 ≤ a1 ∧ a1 ≤ 9) := fun hne => bookOf_lim (rs.map (·.2)) a1 (by rw [hbn]; exact hne)
    have hokl : ∀ s ∈ b.sagas, Okay s := by have := bookOf_okay (rs.map (·.2)) a1; rw [hbn] at this; exact this
    have HOK := Lib.hid hokl
    have HMD := Lib.hid hmd
    have HGD := Lib.hid hgd
    clear hR hg hs0 hs1 hbn hmd hgd hokl
    go_enter Try.func9, Try.ntmps9
    go_wp2_with fail
    refine HAL.out.mono ?_
    rintro e w1 ⟨rfl, k1⟩
    go_wp2_with fail
    refine (HGR.out _ k1).mono ?_
    rintro e w2 ⟨rfl, k2⟩
    have K2 := Lib.hid (k1.trans k2)
    clear k1 k2 HAL HGR
    go_wp2_with fail
    refine (HOF.out _ K2.out).mono ?_
    rintro e w3 ⟨sv, ss, rfl, hb3, hm3, ho3, k3⟩
    obtain ⟨av, cv, rfl⟩ := hb3.form
    dsimp only at *
    have hone := Lib.hid (bkC_one b.ep av ss.length cv)
    have z3 := Lib.hid (heap_alloc_new w3 (.cells Z54 54))
    obtain ⟨y3, k3'⟩ := alloc_set w3 Z54 (bkC b.ep (.slice av ss.length cv)) 54
    have K3 := Lib.hid (K2.out.trans (k3.trans k3'))
    have Y3 := Lib.hid y3
    have B3 := Lib.hid (hb3.kept k3')
    have M3 := Lib.hid hm3
    have hsz3 : w.heap.size ≤ w3.heap.size := (K2.out.trans k3).size
    have hlb : Hid (ss.length = b.sagas.length) := by show _ = _; rw [← hm3, List.length_map]
    have hls := hb3.len
    clear y3 k3 k3' hb3 hm3 ho3 K2 HOF
    go_upto_region 6 with (first | fail | (with_reducible refine alloc54 ?_) | ((with_reducible refine store54 ?_ ?_ z3.out rfl (bkC_size _ _) hone.out ?_); rfl; rfl))
    clear z3
    generalize ((w3.alloc (.cells Z54 54)).setRow w3.heap.size (bkC b.ep (.slice av ss.length cv))) = u at *
    generalize w3.heap.size = g3 at *
    have hg3 : g3 < u.heap.size := row_lt Y3.out
    go_wp2_with fail
    go_loopw [7] (fun i wr => ∃ k : Nat, k ≤ ss.length ∧ i = .int .i64 k ∧ Kept (fun _ => False) u wr) (fun i _ => ss.length - (intOf i).toNat)
    case atStart => exact ⟨0, Nat.zero_le _, rfl, Kept.refl _ _⟩
    case round =>
      obtain ⟨k, hk, rfl, K⟩ := hrel
      have KR := Lib.hid K
      have b4 := (row_cell (K.row Y3.out) (show (bkC b.ep (.slice av ss.length cv))[4]? = some (.slice av ss.length cv) from rfl))
      by_cases hlt : k < ss.length
      · obtain ⟨bs, os, cs, ev, hr⟩ := (B3.out.kept K).rd.elem (by decide) (fsg_all _) hlt
        simp only [Value.slice.injEq, true_and] at ev
        obtain ⟨rfl, rfl⟩ := ev
        have hbi : b.sagas[k]? = some ss[k].1 := by rw [← M3.out, List.getElem?_map, List.getElem?_eq_getElem hlt]; rfl
        have hrun := (HMD.out.runs k _ hbi).1
        have HLIM : Hid (1 ≤ a1 ∧ a1 ≤ 9) := HLM.out (fun h0 => by rw [h0] at hbi; cases hbi)
        have hst := (B3.out.kept K).st ss[k] (List.getElem_mem _)
        generalize ss[k] = q at hr hbi hrun hst
        obtain ⟨s, vs⟩ := q
        dsimp only at hr hbi hrun hst
        have hn0 : 0 < n := by
          rcases Nat.eq_zero_or_pos n with h0 | h0
          · subst h0; exact absurd rfl hrun.ne
          · exact h0
        obtain ⟨b1, o1, c1, e1, -⟩ := HR.out.elem (i := 0) (by omega)
        simp only [Value.slice.injEq, true_and] at e1
        obtain ⟨rfl, rfl⟩ := e1
        have HON : Hid (Calls Try.prog 36 #[.slice (some ⟨b1, o1, none⟩) n c, .int .i64 k] wr (OnPost (onlyR k (rs.take n)) wr)) := f_only _ _ _ _ ((HR.out.take hle).kept (K3.out.trans K)) (by rw [List.length_take]; omega)
        rw [← onlyR_own] at hrun
        have HRUN := Lib.hid hrun
        have hbs : bs < u.heap.size := B3.out.lt bs rfl
        have HRS := Lib.hid hr
        have HST := Lib.hid hst
        clear hr hbi hrun K hst
        go_wp2_with fail
        refine HON.out.mono ?_
        rintro e w4 ⟨vo, rfl, hbo, k4⟩
        have hos := OnPost.holds hbo (fun p hp => ((HR.out.kept (K3.out.trans (KR.out.trans k4))).rin p hp)) HR.out.len
        have hop : 0 < (onlyR k (rs.take n)).length := List.length_pos_iff.2 (fun h0 => HRUN.out.ne (by rw [h0]; rfl))
        obtain ⟨go, co, cur, rfl, hgo, -, -, -, -⟩ := hbo.pos hop
        obtain ⟨x, xs, hxs, hk1, hmay, hr1⟩ := HRUN.out.first'
        have HON2 : Hid ((onlyR k (rs.take n)).length ≤ 150) := by
          show _ ≤ _
          have h1 : (onlyR k (rs.take n)).length ≤ (rs.take n).length := List.length_filter_le _ _
          rw [List.length_take] at h1
          omega
        generalize onlyR k (rs.take n) = OS at *
        obtain ⟨bb, oo, cc, eo, hr0⟩ := hos.elem hop
        simp only [Value.slice.injEq, Option.some.injEq, Addr.mk.injEq, true_and, and_true] at eo
        obtain ⟨⟨rfl, rfl⟩, rfl⟩ := eo
        have hrin := hos.rin OS[0] (List.getElem_mem _)
        have hx0 : OS[0].2 = x := by
          have := congrArg (·[0]?) hxs
          simpa [hop] using this
        generalize OS[0] = p0 at hr0 hrin hx0
        obtain ⟨C0, x0⟩ := p0
        dsimp only at hr0 hrin hx0
        subst hx0
        rw [Nat.zero_mul, Nat.add_zero] at hr0
        obtain ⟨v42, h42, hh42⟩ := hrin.st
        have c0 : w4.cell? ⟨go, 0, none⟩ = some (.int .i64 1) := by
          have := range_at hr0 hrin.c0
          rw [hk1] at this; exact this
        have c42 : w4.cell? ⟨go, 42, none⟩ = some v42 := by
          have := range_at hr0 h42
          rw [Nat.zero_add] at this; exact this
        have tn : decide (OS.length = 0) = false := decide_eq_false (by omega)
        have tn2 : ((OS.length : Int) == 0) = false := by rw [beq_eq_false_iff_ne]; omega
        have hml := mayB_len hmay
        obtain ⟨a42, n42, rfl, -, hs42⟩ := hh42
        have hst42 := hs42 (fun h0 => by rw [h0] at hml; simp at hml)
        have HNW := f_new _ _ w4 hst42 (by omega)
        rw [newOf_new hmay] at HNW
        have HNEW := Lib.hid HNW
        have K4 := Lib.hid (KR.out.trans k4)
        have K4r := Lib.hid k4
        have HOS := Lib.hid hos
        have HXS := Lib.hid hxs
        have HMAY := Lib.hid hmay
        have HFR := Lib.hid hr1
        clear hbo HON HNW hst42 hs42 hos hxs hmay hr1 k4 hr0 hrin h42
        go_wp2_with fail
        refine HNEW.out.mono ?_
        rintro e w5 ⟨a5, c5, rfl, hst5, -, k5⟩
        have hz := Lib.hid (heap_alloc_new w5 (.cells Z27 27))
        have hone27 := Lib.hid (sgC_one (new x0.steps) a5 (new x0.steps).steps.length c5)
        have hone5 : Hid (∀ t : Sg, t.steps = x0.steps → (sgC t (.slice a5 (new x0.steps).steps.length c5)).all (·.oneCell') = true) := fun t _ => sgC_one t a5 _ c5
        obtain ⟨y5, k5'⟩ := alloc_set w5 Z27 (sgC (new x0.steps) (.slice a5 (new x0.steps).steps.length c5)) 27
        have K5 := Lib.hid (K4.out.trans k5)
        have KR5 := Lib.hid (K4r.out.trans k5)
        have HO5 := Lib.hid (HOS.out.kept k5)
        have Y5 := Lib.hid y5
        have K55 := Lib.hid k5'
        have S5 : Hid (Stp w5 (.slice a5 (new x0.steps).steps.length c5) x0.steps) := hst5
        clear y5 k5 k5' hst5 HNEW HOS K4 K4r c0 c42 tn tn2 b4
        go_upto_region 13 with (first | fail | (with_reducible refine alloc27 ?_) | ((with_reducible refine store27 (C := sgC (new x0.steps) (.slice a5 (new x0.steps).steps.length c5)) ?_ ?_ hz.out hz27 (sgC_size _ _) hone27.out ?_); rfl; rfl))
        clear hz hone27
        generalize ((w5.alloc (.cells Z27 27)).setRow w5.heap.size (sgC (new x0.steps) (.slice a5 (new x0.steps).steps.length c5))) = w6 at *
        obtain ⟨g6, hg6⟩ : ∃ g6, w5.heap.size = g6 := ⟨_, rfl⟩
        rw [hg6] at Y5 ⊢
        have HG6 : Hid (w5.heap.size ≤ g6) := by show _ ≤ _; omega
        clear hg6
        go_wp2_with fail
        go_loopw [10] (fun i2 wr => ∃ (m : Nat) (t : Sg), 1 ≤ m ∧ m ≤ OS.length ∧ i2 = .int .i64 m ∧ Hid (Runs a1.toNat ((OS.map (·.2)).take m) t) ∧ Hid (t.steps = x0.steps) ∧ Hid (wr.heap[g6]? = some (.cells (sgC t (.slice a5 (new x0.steps).steps.length c5)) 27 (0, 0))) ∧ Kept (fun _ => False) w5 wr) (fun i _ => OS.length - (intOf i).toNat)
        case atStart => exact ⟨1, new x0.steps, Nat.le_refl _, hop, rfl, (by show Runs _ _ _; rw [HXS.out]; exact HFR.out), rfl, Y5.out, K55.out⟩
        case round =>
          obtain ⟨m, t, h1m, hmO, rfl, HRT, HTS, HY, K⟩ := hrel
          have KM := Lib.hid K
          by_cases hm : m < OS.length
          · obtain ⟨s', t', y, r1, r2, r3, r4⟩ := HRUN.out.take m h1m (by rw [List.length_map]; exact hm)
            have hs' : s' = t := r1.unique HRT.out
            subst hs'
            have hy : OS[m].2 = y := by
              rw [List.getElem?_map, List.getElem?_eq_getElem hm] at r2
              exact Option.some.inj r2
            have HRA : Hid (∀ {w' : World}, Kept (fun _ => False) w5 w' → w'.rangeAt go (0 + m * 109) OS[m].1.toList) := fun kk => by
              obtain ⟨b7, o7, c7, e7, q7⟩ := (HO5.out.kept kk).elem hm
              simp only [Value.slice.injEq, Option.some.injEq, Addr.mk.injEq, true_and, and_true] at e7
              obtain ⟨⟨rfl, rfl⟩, rfl⟩ := e7
              exact q7
            have hrin := HO5.out.rin OS[m] (List.getElem_mem _)
            generalize OS[m] = p at HRA hrin hy
            obtain ⟨C1, y1⟩ := p
            dsimp only at HRA hrin hy
            subst hy
            have hgd2 : GoodS a1.toNat s' := (Runs.good HRT.out)
            have ht' : t'.steps = x0.steps := (go_steps r3).trans HTS.out
            have HGO : Hid (∀ w', Kept (fun _ => False) w5 w' → Calls Try.prog 22 #[.agg (sgC s' (.slice a5 (new x0.steps).steps.length c5)), .agg C1, .int .i64 a1] w' fun e w'' => e = .returned (.tuple #[.agg (sgC t' (.slice a5 (new x0.steps).steps.length c5)), .bool true]) ∧ Kept (fun _ => False) w' w'') := fun w' kk => by
              have h := f_goAny s' (.slice a5 (new x0.steps).steps.length c5) C1 y1.rc a1.toNat w' hrin.recish hgd2 (by rw [HTS.out]; exact S5.out.kept kk) (by have := HLIM.out; omega) (by have := HLIM.out; omega)
              have e1 : ((a1.toNat : Nat) : Int) = a1 := by have := HLIM.out; omega
              have e2 : goR s' y1.rc a1.toNat = (t', true) := by unfold goR; rw [r3]
              rw [e1, e2] at h
              exact h
            have hC1 := hrin.size
            have HT' := Lib.hid ht'
            have HR4 := Lib.hid r4
            have hrw : Hid (∀ {w' : World}, Kept (fun _ => False) wr w' → w'.heap[g6]? = some (.cells (sgC s' (.slice a5 (new x0.steps).steps.length c5)) 27 (0, 0)) ∧ Kept (fun _ => False) w5 w' ∧ w'.rangeAt go (0 + m * 109) C1.toList) := fun kk => ⟨kk.row HY.out, KM.out.trans kk, HRA.out (KM.out.trans kk)⟩
            have hg6w : g6 < wr.heap.size := row_lt HY.out
            have hone8 := Lib.hid (hone5.out t' ht')
            clear K r1 r2 r3 r4 hrin hgd2 ht' HRA
            go_upto_region 16 with (fail)
            have hd : Kept (fun _ => False) wr wr.drew := (Kept.refl _ _).drew
            have hOS : OS.length ≤ 1000000 := by have := HON2.out; omega
            refine wp_region_held_drew (S := fun w' => Kept (fun _ => False) wr w') (by kernel_rfl) hd (fun hHeld => ?_)
            refine wpAnyH_take (i := 0) (oi := ⟨some 57, _, _, _, _, _⟩) (v := .agg (sgC s' (.slice a5 (new x0.steps).steps.length c5))) rfl (by kernel_rfl) (by kernel_rfl) (by kernel_rfl) (fun _ _ _ h => h) (yields27 (g := g6) (by kernel_rfl) rfl (fun w' hS => (hrw.out hS).1) (sgC_size _ _)) (by assumption) ?_
            try simp only [Act.put, List.setIfInBounds_toArray, List.set_cons_succ, List.set_cons_zero]
            refine wpAnyH_take (i := 1) (oi := ⟨some 58, _, _, _, _, _⟩) (v := .slice (some ⟨go, 0, none⟩) OS.length co) rfl (by kernel_rfl) (by kernel_rfl) (by kernel_rfl) (fun _ _ _ h => h) (Or.inl ⟨by kernel_rfl, fun w' hS => by go_simp⟩) (by assumption) ?_
            try simp only [Act.put, List.setIfInBounds_toArray, List.set_cons_succ, List.set_cons_zero]
            refine wpAnyH_take (i := 2) (oi := ⟨some 59, _, _, _, _, _⟩) (v := .int .i64 m) rfl (by kernel_rfl) (by kernel_rfl) (by kernel_rfl) (fun _ _ _ h => h) (Or.inl ⟨by kernel_rfl, fun w' hS => by go_simp⟩) (by assumption) ?_
            try simp only [Act.put, List.setIfInBounds_toArray, List.set_cons_succ, List.set_cons_zero]
            refine wpAnyH_take (i := 3) (oi := ⟨some 60, _, _, _, _, _⟩) (v := .pointer (some ⟨go, 0 + m * 109, none⟩)) rfl (by kernel_rfl) (by kernel_rfl) (by kernel_rfl) (fun _ _ _ h => h) (Or.inl ⟨by kernel_rfl, fun w' hS => by go_simp⟩) (by assumption) ?_
            try simp only [Act.put, List.setIfInBounds_toArray, List.set_cons_succ, List.set_cons_zero]
            refine wpAnyH_take (i := 4) (oi := ⟨some 61, _, _, _, _, _⟩) (v := .agg C1) rfl (by kernel_rfl) (by kernel_rfl) (by kernel_rfl) (fun _ _ _ h => h) (yields41o (g := go) (o := 0 + m * 109) (by kernel_rfl) rfl (fun w' hS => (hrw.out hS).2.2) hC1) (by assumption) ?_
            try simp only [Act.put, List.setIfInBounds_toArray, List.set_cons_succ, List.set_cons_zero]
            refine wpAnyH_take (i := 5) (oi := ⟨some 62, _, _, _, _, _⟩) (v := .int .i64 a1) rfl (by kernel_rfl) (by kernel_rfl) (by kernel_rfl) (fun _ _ _ h => h) (Or.inl ⟨by kernel_rfl, fun w' hS => by go_simp⟩) (by assumption) ?_
            try simp only [Act.put, List.setIfInBounds_toArray, List.set_cons_succ, List.set_cons_zero]
            refine wpAnyH_ready (rs := [6, 10]) (by kernel_rfl) (by simp) ?_
            refine AllReadyH.cons (o := _) rfl (fun K hK => ?_) (AllReadyH.cons (o := _) rfl (fun K hK => ?_) AllReadyH.nil)
            · go_simp
              refine (HGO.out _ (hrw.out hd).2.1).mono ?_
              rintro e wx1 ⟨rfl, kx1⟩
              go_wp2_with fail
              have hS1 := hd.trans kx1
              refine hK.out _ _ hS1 (fun hHeld => ?_)
              clear hK K
              try simp only [Act.put, List.setIfInBounds_toArray, List.set_cons_succ, List.set_cons_zero]
              refine wpAnyH_take (i := 7) (oi := ⟨some 56, _, _, _, _, _⟩) (v := .tuple #[.agg (sgC t' (.slice a5 (new x0.steps).steps.length c5)), .bool true]) rfl (by kernel_rfl) (by kernel_rfl) (by kernel_rfl) (fun _ _ _ h => h) (Or.inl ⟨by kernel_rfl, fun w' hS => by go_simp⟩) (by assumption) ?_
              try simp only [Act.put, List.setIfInBounds_toArray, List.set_cons_succ, List.set_cons_zero]
              refine wpAnyH_take (i := 8) (oi := ⟨some 64, _, _, _, _, _⟩) (v := .agg (sgC t' (.slice a5 (new x0.steps).steps.length c5))) rfl (by kernel_rfl) (by kernel_rfl) (by kernel_rfl) (fun _ _ _ h => h) (Or.inl ⟨by kernel_rfl, fun w' hS => by go_simp⟩) (by assumption) ?_
              try simp only [Act.put, List.setIfInBounds_toArray, List.set_cons_succ, List.set_cons_zero]
              refine wpAnyH_take (i := 9) (oi := ⟨some 65, _, _, _, _, _⟩) (v := .bool true) rfl (by kernel_rfl) (by kernel_rfl) (by kernel_rfl) (fun _ _ _ h => h) (Or.inl ⟨by kernel_rfl, fun w' hS => by go_simp⟩) (by assumption) ?_
              try simp only [Act.put, List.setIfInBounds_toArray, List.set_cons_succ, List.set_cons_zero]
              refine wpAnyH_ready (rs := [10]) (by kernel_rfl) (by simp) ?_
              refine AllReadyH.cons (o := _) rfl (fun K hK => ?_) AllReadyH.nil
              refine step_alloc27 (by kernel_rfl) ?_
              obtain ⟨B8, hB8e⟩ : ∃ B8, wx1.heap.size = B8 := ⟨_, rfl⟩
              have hS2 := hS1.alloc (.cells Z27 27)
              have G8 := heap_alloc_new wx1 (.cells Z27 27)
              have hsz1 : wr.heap.size ≤ wx1.heap.size := hS1.size
              rw [hB8e] at G8 hsz1 ⊢
              clear hB8e kx1
              refine hK.out _ _ hS2 (fun hHeld => ?_)
              clear hK K
              try simp only [Act.put, List.setIfInBounds_toArray, List.set_cons_succ, List.set_cons_zero]
              refine wpAnyH_ready (rs := [11]) (by kernel_rfl) (by simp) ?_
              refine AllReadyH.cons (o := _) rfl (fun K hK => ?_) AllReadyH.nil
              refine step_store27 (g := B8) (o := 0) (C := sgC t' (.slice a5 (new x0.steps).steps.length c5)) (cur := Z27) (by kernel_rfl) rfl rfl (sgC_size _ _) hone8.out G8 (by decide) ?_
              intro wn Yn kn
              rw [puts_all (by rfl)] at Yn
              have hSn : Kept (fun _ => False) wr wn := hS2.trans' (T := fun j => j = B8) kn (fun j hj e => by omega)
              refine hK.out _ _ hSn (fun hHeld => ?_)
              clear hK K
              try simp only [Act.put, List.setIfInBounds_toArray, List.set_cons_succ, List.set_cons_zero]
              refine wpAnyH_take (i := 12) (oi := ⟨some 12, _, _, _, _, _⟩) (v := .bool true) rfl (by kernel_rfl) (by kernel_rfl) (by kernel_rfl) (fun _ _ _ h => h) (Or.inl ⟨by kernel_rfl, fun w' hS => by go_simp⟩) (by assumption) ?_
              try simp only [Act.put, List.setIfInBounds_toArray, List.set_cons_succ, List.set_cons_zero]
              refine wpAnyH_done (by kernel_rfl) ?_ _
              have Y8 := Lib.hid Yn
              have YG := Lib.hid (hrw.out hSn).1
              have KN := Lib.hid (hrw.out hSn).2.1
              clear hSn kn Yn hrw HGO
              go_wp2_with (first | fail | ((with_reducible refine load27 (C := sgC t' (.slice a5 (new x0.steps).steps.length c5)) (g := B8) (o := 0) ?_ (range_row Y8.out) (sgC_size _ _) ?_); rfl) | ((with_reducible refine store27 (C := sgC t' (.slice a5 (new x0.steps).steps.length c5)) ?_ ?_ YG.out (sgC_size _ _) (sgC_size _ _) hone8.out ?_); rfl; rfl))
              have YF := Lib.hid (setRow_heap wn g6 _ (sgC t' (.slice a5 (new x0.steps).steps.length c5)) 27 (0, 0) YG.out)
              have KF := Lib.hid (KN.out.setRow HG6.out (sgC t' (.slice a5 (new x0.steps).steps.length c5)))
              clear YG KN Y8
              go_roundw
              case rel => exact ⟨m + 1, t', by omega, by omega, by go_num, HR4.out, HT'.out, YF.out, KF.out⟩
              case measure => simp [intOf]; omega
            · refine step_alloc27 (by kernel_rfl) ?_
              obtain ⟨B8, hB8e⟩ : ∃ B8, wr.drew.heap.size = B8 := ⟨_, rfl⟩
              have hS1 := hd.alloc (.cells Z27 27)
              have G8' := heap_alloc_new wr.drew (.cells Z27 27)
              have hsz1 : wr.heap.size ≤ wr.drew.heap.size := hd.size
              rw [hB8e] at G8' hsz1 ⊢
              clear hB8e
              refine hK.out _ _ hS1 (fun hHeld => ?_)
              clear hK K
              try simp only [Act.put, List.setIfInBounds_toArray, List.set_cons_succ, List.set_cons_zero]
              refine wpAnyH_ready (rs := [6]) (by kernel_rfl) (by simp) ?_
              refine AllReadyH.cons (o := _) rfl (fun K hK => ?_) AllReadyH.nil
              go_simp
              refine (HGO.out _ (hrw.out hS1).2.1).mono ?_
              rintro e wx1 ⟨rfl, kx1⟩
              go_wp2_with fail
              have hS2 := hS1.trans kx1
              refine hK.out _ _ hS2 (fun hHeld => ?_)
              clear hK K
              try simp only [Act.put, List.setIfInBounds_toArray, List.set_cons_succ, List.set_cons_zero]
              have G8 := kx1.row G8'
              clear G8' kx1
              refine wpAnyH_take (i := 7) (oi := ⟨some 56, _, _, _, _, _⟩) (v := .tuple #[.agg (sgC t' (.slice a5 (new x0.steps).steps.length c5)), .bool true]) rfl (by kernel_rfl) (by kernel_rfl) (by kernel_rfl) (fun _ _ _ h => h) (Or.inl ⟨by kernel_rfl, fun w' hS => by go_simp⟩) (by assumption) ?_
              try simp only [Act.put, List.setIfInBounds_toArray, List.set_cons_succ, List.set_cons_zero]
              refine wpAnyH_take (i := 8) (oi := ⟨some 64, _, _, _, _, _⟩) (v := .agg (sgC t' (.slice a5 (new x0.steps).steps.length c5))) rfl (by kernel_rfl) (by kernel_rfl) (by kernel_rfl) (fun _ _ _ h => h) (Or.inl ⟨by kernel_rfl, fun w' hS => by go_simp⟩) (by assumption) ?_
              try simp only [Act.put, List.setIfInBounds_toArray, List.set_cons_succ, List.set_cons_zero]
              refine wpAnyH_take (i := 9) (oi := ⟨some 65, _, _, _, _, _⟩) (v := .bool true) rfl (by kernel_rfl) (by kernel_rfl) (by kernel_rfl) (fun _ _ _ h => h) (Or.inl ⟨by kernel_rfl, fun w' hS => by go_simp⟩) (by assumption) ?_
              try simp only [Act.put, List.setIfInBounds_toArray, List.set_cons_succ, List.set_cons_zero]
              refine wpAnyH_ready (rs := [11]) (by kernel_rfl) (by simp) ?_
              refine AllReadyH.cons (o := _) rfl (fun K hK => ?_) AllReadyH.nil
              refine step_store27 (g := B8) (o := 0) (C := sgC t' (.slice a5 (new x0.steps).steps.length c5)) (cur := Z27) (by kernel_rfl) rfl rfl (sgC_size _ _) hone8.out G8 (by decide) ?_
              intro wn Yn kn
              rw [puts_all (by rfl)] at Yn
              have hSn : Kept (fun _ => False) wr wn := hS2.trans' (T := fun j => j = B8) kn (fun j hj e => by omega)
              refine hK.out _ _ hSn (fun hHeld => ?_)
              clear hK K
              try simp only [Act.put, List.setIfInBounds_toArray, List.set_cons_succ, List.set_cons_zero]
              refine wpAnyH_take (i := 12) (oi := ⟨some 12, _, _, _, _, _⟩) (v := .bool true) rfl (by kernel_rfl) (by kernel_rfl) (by kernel_rfl) (fun _ _ _ h => h) (Or.inl ⟨by kernel_rfl, fun w' hS => by go_simp⟩) (by assumption) ?_
              try simp only [Act.put, List.setIfInBounds_toArray, List.set_cons_succ, List.set_cons_zero]
              refine wpAnyH_done (by kernel_rfl) ?_ _
              have Y8 := Lib.hid Yn
              have YG := Lib.hid (hrw.out hSn).1
              have KN := Lib.hid (hrw.out hSn).2.1
              clear hSn kn Yn hrw HGO
              go_wp2_with (first | fail | ((with_reducible refine load27 (C := sgC t' (.slice a5 (new x0.steps).steps.length c5)) (g := B8) (o := 0) ?_ (range_row Y8.out) (sgC_size _ _) ?_); rfl) | ((with_reducible refine store27 (C := sgC t' (.slice a5 (new x0.steps).steps.length c5)) ?_ ?_ YG.out (sgC_size _ _) (sgC_size _ _) hone8.out ?_); rfl; rfl))
              have YF := Lib.hid (setRow_heap wn g6 _ (sgC t' (.slice a5 (new x0.steps).steps.length c5)) 27 (0, 0) YG.out)
              have KF := Lib.hid (KN.out.setRow HG6.out (sgC t' (.slice a5 (new x0.steps).steps.length c5)))
              clear YG KN Y8
              go_roundw
              case rel => exact ⟨m + 1, t', by omega, by omega, by go_num, HR4.out, HT'.out, YF.out, KF.out⟩
              case measure => simp [intOf]; omega
          · obtain rfl : m = OS.length := by omega
            have hrt := HRT.out
            rw [List.take_of_length_le (by rw [List.length_map]; exact Nat.le_refl _)] at hrt
            have hs2 : t = s := hrt.unique HRUN.out
            subst hs2
            have hrw : Hid (∀ {w' : World}, Kept (fun _ => False) wr w' → w'.heap[g6]? = some (.cells (sgC t (.slice a5 (new x0.steps).steps.length c5)) 27 (0, 0)) ∧ w'.cell? ⟨g3, 4, none⟩ = some (.slice (some ⟨bs, os, none⟩) ss.length cv) ∧ w'.rangeAt bs (os + k * 10) (sgC t vs).toList) := fun kk => ⟨kk.row HY.out, row_cell (((K5.out.trans KM.out).trans kk).row Y3.out) (k := 4) rfl, fun j1 u1 hu => (((KR5.out.trans KM.out).trans kk).cell (p := ⟨bs, os + k * 10 + j1, none⟩) (Nat.lt_of_lt_of_le hbs KR.out.size) id).trans (HRS.out j1 u1 hu)⟩
            have hsl : t.steps.length ≤ 1000000 := by have := GoodS.len (Runs.good HRT.out); omega
            have HSM : Hid (∀ w', Kept (fun _ => False) wr w' → Calls Try.prog 38 #[.agg (sgC t (.slice a5 (new x0.steps).steps.length c5)), .agg (sgC t vs)] w' (BPost true w')) := fun w' kk => by
              have h := f_rsame t t (.slice a5 (new x0.steps).steps.length c5) vs w' (by rw [HTS.out]; exact S5.out.kept (KM.out.trans kk)) (HST.out.kept ((KR5.out.trans KM.out).trans kk)) hsl
              rw [sameB_self] at h
              exact h
            clear K hrt hsl
            go_upto_region 20 with (fail)
            have hd : Kept (fun _ => False) wr wr.drew := (Kept.refl _ _).drew
            refine wp_region_held_drew (S := fun w' => Kept (fun _ => False) wr w') (by kernel_rfl) hd (fun hHeld => ?_)
            refine wpAnyH_take (i := 0) (oi := ⟨some 69, _, _, _, _, _⟩) (v := .agg (sgC t (.slice a5 (new x0.steps).steps.length c5))) rfl (by kernel_rfl) (by kernel_rfl) (by kernel_rfl) (fun _ _ _ h => h) (yields27 (g := g6) (by kernel_rfl) rfl (fun w' hS => (hrw.out hS).1) (sgC_size _ _)) (by assumption) ?_
            try simp only [Act.put, List.setIfInBounds_toArray, List.set_cons_succ, List.set_cons_zero]
            refine wpAnyH_take (i := 1) (oi := ⟨some 70, _, _, _, _, _⟩) (v := .pointer (some ⟨g3, 4, none⟩)) rfl (by kernel_rfl) (by kernel_rfl) (by kernel_rfl) (fun _ _ _ h => h) (Or.inl ⟨by kernel_rfl, fun w' hS => by go_simp⟩) (by assumption) ?_
            try simp only [Act.put, List.setIfInBounds_toArray, List.set_cons_succ, List.set_cons_zero]
            refine wpAnyH_take (i := 2) (oi := ⟨some 71, _, _, _, _, _⟩) (v := .slice (some ⟨bs, os, none⟩) ss.length cv) rfl (by kernel_rfl) (by kernel_rfl) (by kernel_rfl) (fun _ _ _ h => h) (Or.inl ⟨by kernel_rfl, fun w' hS => by have hc := (hrw.out hS).2.1; go_simp⟩) (by assumption) ?_
            try simp only [Act.put, List.setIfInBounds_toArray, List.set_cons_succ, List.set_cons_zero]
            refine wpAnyH_take (i := 3) (oi := ⟨some 72, _, _, _, _, _⟩) (v := .int .i64 k) rfl (by kernel_rfl) (by kernel_rfl) (by kernel_rfl) (fun _ _ _ h => h) (Or.inl ⟨by kernel_rfl, fun w' hS => by go_simp⟩) (by assumption) ?_
            try simp only [Act.put, List.setIfInBounds_toArray, List.set_cons_succ, List.set_cons_zero]
            refine wpAnyH_take (i := 4) (oi := ⟨some 73, _, _, _, _, _⟩) (v := .pointer (some ⟨bs, os + k * 10, none⟩)) rfl (by kernel_rfl) (by kernel_rfl) (by kernel_rfl) (fun _ _ _ h => h) (Or.inl ⟨by kernel_rfl, fun w' hS => by go_simp⟩) (by assumption) ?_
            try simp only [Act.put, List.setIfInBounds_toArray, List.set_cons_succ, List.set_cons_zero]
            refine wpAnyH_take (i := 5) (oi := ⟨some 74, _, _, _, _, _⟩) (v := .agg (sgC t vs)) rfl (by kernel_rfl) (by kernel_rfl) (by kernel_rfl) (fun _ _ _ h => h) (yields27o (g := bs) (o := os + k * 10) (by kernel_rfl) rfl (fun w' hS => (hrw.out hS).2.2) (sgC_size _ _)) (by assumption) ?_
            try simp only [Act.put, List.setIfInBounds_toArray, List.set_cons_succ, List.set_cons_zero]
            refine wpAnyH_ready (rs := [6]) (by kernel_rfl) (by simp) ?_
            refine AllReadyH.cons (o := _) rfl (fun K hK => ?_) AllReadyH.nil
            go_simp
            refine (HSM.out _ hd).mono ?_
            rintro e wx1 ⟨rfl, kx1⟩
            go_wp2_with fail
            have hS1 := hd.trans kx1
            refine hK.out _ _ hS1 (fun hHeld => ?_)
            clear hK K
            try simp only [Act.put, List.setIfInBounds_toArray, List.set_cons_succ, List.set_cons_zero]
            refine wpAnyH_take (i := 7) (oi := ⟨some 76, _, _, _, _, _⟩) (v := .bool false) rfl (by kernel_rfl) (by kernel_rfl) (by kernel_rfl) (fun _ _ _ h => h) (Or.inl ⟨by kernel_rfl, fun w' hS => by go_simp⟩) (by assumption) ?_
            try simp only [Act.put, List.setIfInBounds_toArray, List.set_cons_succ, List.set_cons_zero]
            refine wpAnyH_done (by kernel_rfl) ?_ _
            have KF := Lib.hid ((K5.out.trans KM.out).trans hS1)
            clear hS1 kx1 hrw HSM hd
            go_wp2_with fail
            go_roundw
            case rel => exact ⟨k + 1, by omega, by go_num, KF.out⟩
            case measure => simp [intOf]; omega
      · obtain rfl : k = ss.length := by omega
        have KF := Lib.hid (K3.out.trans K)
        clear K
        go_wp2_with fail
        go_ret
        exact ⟨rfl, KF.out.below (Nat.le_refl _) (fun k h => h.elim)⟩
set_option maxRecDepth 100000 in
theorem lifted (os : Os) (started : os.Started) (H : Type) (enc : TypeId × Value → H) :
    ReturnsInHanded {} Try.checked os 9 .any (Rows.bookApartSpec.pre6 enc Try.prog Try.f9 Rows.bookApartRow.domain false) (Rows.bookApartSpec.post enc Try.prog Try.f9 false true false false) := by
  refine returnsInHanded_of_change (C := Try.checked) own started (by kernel_rfl) Try.func9
    (ChangeSpec.witness6 (enc := enc) (C := Try.checked) false ⟨#[], #[.slice none 0 0, .int .i64 0], []⟩ 8 (by kernel_rfl) (by kernel_rfl) (by kernel_rfl) (by kernel_rfl)) ?_
  intro W base args ds gs before hval0 hW hcnd _
  have hval : ∀ (j : Nat) t v, Try.f9.params[j]? = some t → args[j]? = some v → Value.okWide Try.prog W .any base t v := hval0
  have hW' := hW
  obtain ⟨p, q, hA0, hV, rfl, hfz, hnd⟩ := hW
  have hA : DataW.TrodAll enc Try.prog W 0 (fun _ => true) true Try.f9.params.toList args.toList ds p := hA0
  rw [Try.params9] at hA hval
  obtain ⟨v0, vs0, d0, ds0, p0, q0, hargs, rfl, rfl, h0, r0⟩ := trodAll_cons hA
  obtain ⟨v1, vs1, d1, ds1, p1, q1, rfl, rfl, rfl, h1, r1⟩ := trodAll_cons r0
  obtain ⟨rfl, rfl, rfl⟩ := trodAll_nil r1
  obtain rfl : args = #[v0, v1] := by cases args; simp_all
  obtain ⟨rfl, rfl⟩ := trodVars_none hV
  have k0 := h0
  have lt0 : ∀ x ∈ p0, x.block < W.heap.size := by obtain ⟨m, hm⟩ := k0; exact DataW.trod_lt m _ _ _ hm
  have w0 := IsRecsC.of (hval 0 49 v0 rfl rfl) h0
  obtain ⟨a1, rfl, rfl, rfl, w1⟩ := open_int Try.underlying3 (hval 1 3 v1 rfl rfl) h1
  clear hA0 hval0
  refine (walk W v0 w0 a1 w1).mono fun e W' ⟨he, bel⟩ => ?_
  subst he
  exact ⟨_, rfl, _, _, _, [], _, [], hW', trodAll_mk1 (shut_bool Try.underlying4 _), (trodAll_cons_mk (Below.trod laidOut (by kernel_rfl) (of_decide_eq_true (by kernel_rfl)) k0 bel lt0) (trodAll_cons_mk (shut_int Try.underlying3 w1) trodAll_mk0)), rfl, bel.frame _, fun h => by cases h⟩

theorem over : Rows.bookApartRow.holds Try.pinned (OpenSpec.ofChange Rows.bookApartSpec) :=
  OpenClaim.holds_of_wide 9 Try.f9 rfl rfl rfl rfl rfl rfl rfl ⟨rfl, rfl, rfl, rfl, rfl⟩ rfl rfl rfl rfl rfl (by kernel_rfl) Try.func9 (by kernel_rfl)
    (of_decide_eq_true (by kernel_rfl)) (by unfold Func.isWrapper; first | (rw [if_pos (by decide +kernel)]; kernel_rfl) | (rw [if_neg (by decide +kernel)]; exact ⟨rfl, rfl⟩))
    (fun os started H enc _ => lifted os started H enc)

theorem proved : Rows.BookApartSaid := over
#print axioms proved
end Go.Proofs.Ytklmhegmombegaa.bookApart
