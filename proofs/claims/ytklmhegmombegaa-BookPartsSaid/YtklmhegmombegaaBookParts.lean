/-
  Each record of a journal is one saga's, or a rotation: 'Rows.BookPartsSaid', for every input. Conditions: none.
-/
import Derived.Test.YtklmhegmombegaaArg3
import Derived.Test.YtklmhegmombegaaBkN
import Derived.Test.YtklmhegmombegaaBkQ
import Derived.Test.YtklmhegmombegaaRows
import Derived.OwnWalk
import Derived.ProofKit
import Derived.OpenShut
import Derived.ShutString
import Derived.ChangeOld
import Derived.Below
namespace Go.Proofs.Ytklmhegmombegaa.bookParts
open Go Go.ChangeShapes Go.WideShapes Go.ChangeAt Go.RowKit Plain
set_option linter.unusedVariables false
set_option linter.unusedSimpArgs false
theorem own : ownKnob Try.prog.godebug = none := by kernel_rfl
theorem laidOut : laidOutB Try.prog = true := by kernel_rfl

/-- A slice of records that came in, with its capacity. -/
def IsRecsC (w : World) (v : Value) : Prop := IsRecs w v ∧ ∃ a n c, v = .slice a n c ∧ n ≤ c
set_option maxRecDepth 100000 in
theorem IsRecsC.of {H : Type} {enc : TypeId × Value → H} {W : World} {base : Nat} {v : Value} {d : DataW H} {p : List MemPlace} (ho : Value.okWide Try.prog W .any base 49 v)
    (h : DataW.Trod enc Try.prog W 0 (fun _ => true) true 49 v d p) : IsRecsC W v := by
  refine ⟨IsRecs.of ho h, ?_⟩
  obtain ⟨a0, len, cap, rfl⟩ := okWide_slice Try.underlying49 ho
  obtain ⟨a, n, c, F, hcs, hle, hnil, hm, hF⟩ := open_elems Try.underlying49 cells41 (by decide) (Reads.of_trod h)
  have hcs' : Value.slice a0 len cap = .slice a n c := by simpa [Value.cells] using hcs
  exact ⟨a, n, c, hcs', hle⟩
theorem cell9 {w : World} {b o : Nat} {s : Sg} {v : Value} (h : w.rangeAt b o (sgC s v).toList) : w.cell? ⟨b, o + 9, none⟩ = some (.int .i64 s.seq) := h 9 _ rfl
set_option maxRecDepth 100000 in
set_option maxHeartbeats 8000000 in
theorem walk (w : World) (v0 : Value) (w0 : IsRecsC w v0) (a1 : Int) (w1 : (Lit.int .i64 a1).wf = true) :
    Calls Try.prog 12 #[v0, .int .i64 a1] w fun e w' => e = .returned (.bool true) ∧ Below w.heap.size w w' := by
  obtain ⟨⟨rs, hR⟩, x0, x1, x2, hx, hcap⟩ := w0
  obtain ⟨a, c, rfl⟩ := hR.form
  simp only [Value.slice.injEq] at hx
  obtain ⟨rfl, rfl, rfl⟩ := hx
  clear w1
  have HAL := Lib.hid (f_alive12 w)
  have HGR := Lib.hid (fun w' (k : Kept (fun _ => False) w w') => f_great _ rs w' (hR.kept k))
  cases hg : greatL (rs.map (·.2)) with
  | true =>
    rw [hg] at HGR
    clear hR hg
    go_enter Try.func12, Try.ntmps12
    go_wp2_with fail
    refine HAL.out.mono ?_
    rintro e w1 ⟨rfl, k1⟩
    go_wp2_with fail
    refine (HGR.out _ k1).mono ?_
    rintro e w2 ⟨rfl, k2⟩
    have KF := Lib.hid (k1.trans k2)
    go_wp2_with fail
    go_ret
    exact ⟨rfl, KF.out.below (Nat.le_refl _) (fun k h => h.elim)⟩
  | false =>
    rw [hg] at HGR
    obtain ⟨hl0, hs0⟩ := great_not hg
    rw [List.length_map] at hl0
    have hs1 : ∀ p ∈ rs, p.2.steps.length ≤ 1000000 := fun p hp => by have := hs0 p.2 (List.mem_map_of_mem hp); omega
    obtain ⟨b, n, hbn⟩ : ∃ b n, bookOf (rs.map (·.2)) a1 = (b, n) := ⟨_, _, rfl⟩
    have hle : n ≤ rs.length := by have := bookOf_le (rs.map (·.2)) a1; rw [hbn, List.length_map] at this; exact this
    have hmd : Made a1.toNat ((rs.map (·.2)).take n) b := by have := bookOf_made (rs.map (·.2)) a1; rw [hbn] at this; exact this
    have hgd : BGood a1.toNat b := by have := good_bookOf (rs.map (·.2)) a1; rw [hbn] at this; exact this
    have hmany : (seqs b.sagas : Int) + eps b = n := by have := hmd.many; rw [List.length_take, List.length_map] at this; omega
    have heps := epTo_le hgd 4
    rw [epTo_four] at heps
    have HOF : Hid (∀ w', Kept (fun _ => False) w w' → Calls Try.prog 27 #[.slice a rs.length c, .int .i64 a1] w' (OfPost (b, n) w')) := fun w' k => by
      have := f_bof _ rs a1 w' (hR.kept k) (by omega) hs1
      rw [hbn] at this; exact this
    have HR := Lib.hid hR
    have hokl : ∀ s ∈ b.sagas, Okay s := by have := bookOf_okay (rs.map (·.2)) a1; rw [hbn] at this; exact this
    have HOK := Lib.hid hokl
    have HMD := Lib.hid hmd
    have HGD := Lib.hid hgd
    have HMY := Lib.hid hmany
    have hsq : seqs b.sagas ≤ 150 := by omega
    clear hR hg hs0 hs1 hbn hmd hgd hmany heps hokl
    go_enter Try.func12, Try.ntmps12
    go_wp2_with fail
    refine HAL.out.mono ?_
    rintro e w1 ⟨rfl, k1⟩
    go_wp2_with fail
    refine (HGR.out _ k1).mono ?_
    rintro e w2 ⟨rfl, k2⟩
    have K2 := Lib.hid (k1.trans k2)
    clear k1 k2 HAL HGR
    go_wp2_with fail
    refine (HOF.out _ K2.out).mono ?_
    rintro e w3 ⟨sv, ss, rfl, hb3, hm3, ho3, k3⟩
    obtain ⟨av, cv, rfl⟩ := hb3.form
    dsimp only at *
    have hone := Lib.hid (bkC_one b.ep av ss.length cv)
    have z3 := Lib.hid (heap_alloc_new w3 (.cells Z54 54))
    obtain ⟨y3, k3'⟩ := alloc_set w3 Z54 (bkC b.ep (.slice av ss.length cv)) 54
    have K3 := Lib.hid (K2.out.trans (k3.trans k3'))
    have Y3 := Lib.hid y3
    have B3 := Lib.hid (hb3.kept k3')
    have M3 := Lib.hid hm3
    have hsz3 : w.heap.size ≤ w3.heap.size := (K2.out.trans k3).size
    have hlb : Hid (ss.length = b.sagas.length) := by show _ = _; rw [← hm3, List.length_map]
    have hls := hb3.len
    clear y3 k3 k3' hb3 hm3 ho3 K2 HOF
    go_upto_region 6 with (first | fail | (with_reducible refine alloc54 ?_) | ((with_reducible refine store54 ?_ ?_ z3.out rfl (bkC_size _ _) hone.out ?_); rfl; rfl))
    clear z3
    generalize ((w3.alloc (.cells Z54 54)).setRow w3.heap.size (bkC b.ep (.slice av ss.length cv))) = u at *
    generalize w3.heap.size = g3 at *
    have hg3 : g3 < u.heap.size := row_lt Y3.out
    go_wp2_with fail
    go_loopw [7, 8] (fun many i wr => ∃ k : Nat, k ≤ ss.length ∧ i = .int .i64 k ∧ many = .int .i64 ((seqs (b.sagas.take k) : Nat) : Int) ∧ Kept (fun _ => False) u wr) (fun _ i _ => ss.length - (intOf i).toNat)
    case atStart => exact ⟨0, Nat.zero_le _, rfl, by simp [seqs], Kept.refl _ _⟩
    case round =>
      obtain ⟨k, hk, rfl, rfl, K⟩ := hrel
      have KR := Lib.hid K
      have b4 := (row_cell (K.row Y3.out) (show (bkC b.ep (.slice av ss.length cv))[4]? = some (.slice av ss.length cv) from rfl))
      by_cases hlt : k < ss.length
      · obtain ⟨bs, os, cs, ev, hr⟩ := (B3.out.kept K).rd.elem (by decide) (fsg_all _) hlt
        simp only [Value.slice.injEq, true_and] at ev
        obtain ⟨rfl, rfl⟩ := ev
        have hbi : b.sagas[k]? = some ss[k].1 := by rw [← M3.out, List.getElem?_map, List.getElem?_eq_getElem hlt]; rfl
        have hrun := HMD.out.runs k _ hbi
        have hst := seqs_take hbi
        have hst2 := seqs_le (l := b.sagas) (k := k + 1)
        generalize ss[k] = q at hr hbi hrun hst
        obtain ⟨s, vs⟩ := q
        dsimp only at hr hbi hrun hst
        have c9 := cell9 hr
        have hn0 : 0 < n := by
          rcases Nat.eq_zero_or_pos n with h0 | h0
          · subst h0; exact absurd rfl hrun.1.ne
          · exact h0
        obtain ⟨b1, o1, c1, e1, -⟩ := HR.out.elem (i := 0) (by omega)
        simp only [Value.slice.injEq, true_and] at e1
        obtain ⟨rfl, rfl⟩ := e1
        have hlen : (onlyR k (rs.take n)).length = s.seq := by rw [← hrun.2, ← onlyR_own, List.length_map]
        have HON : Hid (Calls Try.prog 36 #[.slice (some ⟨b1, o1, none⟩) n c, .int .i64 k] wr (OnPost (onlyR k (rs.take n)) wr)) := f_only _ _ _ _ ((HR.out.take hle).kept (K3.out.trans K)) (by rw [List.length_take]; omega)
        have HLN := Lib.hid hlen
        generalize hS0 : seqs (b.sagas.take k) = S0 at *
        have HST := Lib.hid hst
        have hst3 : S0 + s.seq ≤ 150 := by omega
        have hbs : bs < wr.heap.size := World.block_lt_of_cell? wr _ c9
        clear hr hbi hrun K hlen hS0 hst
        go_wp2_with fail
        refine HON.out.mono ?_
        rintro e w4 ⟨vo, rfl, hbo, k4⟩
        obtain ⟨ao, co, rfl, -, -⟩ := hbo.form
        rw [HLN.out]
        have c9' := (k4.cell (p := ⟨bs, os + k * 10 + 9, none⟩) hbs id).trans c9
        have b4' := row_cell (k4.row (KR.out.row Y3.out)) (show (bkC b.ep (.slice (some ⟨bs, os, none⟩) ss.length cv))[4]? = some (.slice (some ⟨bs, os, none⟩) ss.length cv) from rfl)
        have KF := Lib.hid (KR.out.trans k4)
        have t9 : (((s.seq : Nat) : Int) != s.seq) = false := by simp
        clear c9 b4 hbo k4 HON HLN
        go_wp2_with fail
        go_roundw
        case rel => exact ⟨k + 1, by omega, by go_num, by rw [HST.out]; go_num, KF.out⟩
        case measure => simp [intOf]; omega
      · obtain rfl : k = ss.length := by omega
        have hS : seqs (b.sagas.take ss.length) = seqs b.sagas := by rw [hlb.out, List.take_length]
        rw [hS]
        have Y4 := Lib.hid (K.row Y3.out)
        have K4 := Lib.hid (K3.out.trans K)
        have B4 := Lib.hid (B3.out.kept K)
        clear K hS
        generalize wr = wo at *
        go_wp2_with fail
        go_loopw [7, 10] (fun many i wr2 => ∃ k : Nat, k ≤ 4 ∧ i = .int .i64 k ∧ many = .int .i64 ((seqs b.sagas : Nat) + epTo b k) ∧ Kept (fun _ => False) wo wr2) (fun _ i _ => 4 - (intOf i).toNat)
        case atStart => exact ⟨0, Nat.zero_le _, rfl, by simp [epTo], Kept.refl _ _⟩
        case round =>
          obtain ⟨k, hk, rfl, rfl, K⟩ := hrel
          have K5 := Lib.hid K
          have hep := epTo_le HGD.out k
          have hek := HGD.out.ep k
          by_cases hlt : k < 4
          · have ck : wr.cell? ⟨g3, k, none⟩ = some (.int .i64 (b.ep k)) := row_cell (K.row Y4.out) (by
              have : k = 0 ∨ k = 1 ∨ k = 2 ∨ k = 3 := by omega
              rcases this with rfl | rfl | rfl | rfl <;> rfl)
            have HEK : Hid (epTo b (k + 1) = epTo b k + b.ep k) := rfl
            generalize b.ep k = E at ck hek HEK
            generalize epTo b k = P at hep HEK ⊢
            clear K
            go_wp2_with fail
            go_roundw
            case rel => exact ⟨k + 1, by omega, by go_num, by rw [HEK.out]; go_num, K5.out⟩
            case measure => simp [intOf]; omega
          · obtain rfl : k = 4 := by omega
            have hfin : ((seqs b.sagas : Nat) : Int) + epTo b 4 = n := by rw [epTo_four]; exact HMY.out
            rw [hfin]
            have KU := Lib.hid (K4.out.trans K)
            have Y6 := Lib.hid (K.row Y4.out)
            have HRP := Lib.hid (fun w' (k : Kept (fun _ => False) wr w') => f_report b _ ss w' (B4.out.kept (K.trans k)) M3.out (fun p hp => HOK.out p.1 (M3.out ▸ List.mem_map_of_mem hp)))
            have hlr : Hid ((repL b.sagas).length = ss.length) := by show _ = _; rw [repL, List.length_map, hlb.out]
            clear K K5 hep hek hfin b4
            go_upto_region 18 with (fail)
            have hrw : Hid (∀ {w' : World}, Kept (fun _ => False) wr w' → w'.heap[g3]? = some (.cells (bkC b.ep (.slice av ss.length cv)) 54 (0, 0))) := fun k => k.row Y6.out
            have hd : Kept (fun _ => False) wr wr.drew := (Kept.refl _ _).drew
            refine wp_region_held_drew (S := fun w' => Kept (fun _ => False) wr w') (by kernel_rfl) hd (fun hHeld => ?_)
            refine wpAnyH_take (i := 0) (oi := ⟨some 56, _, _, _, _, _⟩) (v := .int .i64 n) rfl (by kernel_rfl) (by kernel_rfl) (by kernel_rfl) (fun _ _ _ h => h) (Or.inl ⟨by kernel_rfl, fun w' hS => by go_simp⟩) (by assumption) ?_
            try simp only [Act.put, List.setIfInBounds_toArray, List.set_cons_succ, List.set_cons_zero]
            refine wpAnyH_take (i := 1) (oi := ⟨some 57, _, _, _, _, _⟩) (v := .int .i64 n) rfl (by kernel_rfl) (by kernel_rfl) (by kernel_rfl) (fun _ _ _ h => h) (Or.inl ⟨by kernel_rfl, fun w' hS => by go_simp⟩) (by assumption) ?_
            try simp only [Act.put, List.setIfInBounds_toArray, List.set_cons_succ, List.set_cons_zero]
            refine wpAnyH_take (i := 2) (oi := ⟨some 58, _, _, _, _, _⟩) (v := .bool true) rfl (by kernel_rfl) (by kernel_rfl) (by kernel_rfl) (fun _ _ _ h => h) (Or.inl ⟨by kernel_rfl, fun w' hS => by go_simp⟩) (by assumption) ?_
            try simp only [Act.put, List.setIfInBounds_toArray, List.set_cons_succ, List.set_cons_zero]
            refine wpAnyH_take (i := 3) (oi := ⟨some 59, _, _, _, _, _⟩) (v := .bool true) rfl (by kernel_rfl) (by kernel_rfl) (by kernel_rfl) (fun _ _ _ h => h) (Or.inl ⟨by kernel_rfl, fun w' hS => by go_simp⟩) (by assumption) ?_
            try simp only [Act.put, List.setIfInBounds_toArray, List.set_cons_succ, List.set_cons_zero]
            refine wpAnyH_take (i := 4) (oi := ⟨some 60, _, _, _, _, _⟩) (v := .agg (bkC b.ep (.slice av ss.length cv))) rfl (by kernel_rfl) (by kernel_rfl) (by kernel_rfl) (fun _ _ _ h => h) (yields54 (g := g3) (by kernel_rfl) rfl (fun w' hS => hrw.out hS) (bkC_size _ _)) (by assumption) ?_
            try simp only [Act.put, List.setIfInBounds_toArray, List.set_cons_succ, List.set_cons_zero]
            refine wpAnyH_take (i := 7) (oi := ⟨some 63, _, _, _, _, _⟩) (v := .pointer (some ⟨g3, 4, none⟩)) rfl (by kernel_rfl) (by kernel_rfl) (by kernel_rfl) (fun _ _ _ h => h) (Or.inl ⟨by kernel_rfl, fun w' hS => by go_simp⟩) (by assumption) ?_
            try simp only [Act.put, List.setIfInBounds_toArray, List.set_cons_succ, List.set_cons_zero]
            refine wpAnyH_take (i := 8) (oi := ⟨some 64, _, _, _, _, _⟩) (v := .slice av ss.length cv) rfl (by kernel_rfl) (by kernel_rfl) (by kernel_rfl) (fun _ _ _ h => h) (Or.inl ⟨by kernel_rfl, fun w' hS => by have hc := row_cell (hrw.out hS) (show (bkC b.ep (.slice av ss.length cv))[4]? = some (.slice av ss.length cv) from rfl); go_simp⟩) (by assumption) ?_
            try simp only [Act.put, List.setIfInBounds_toArray, List.set_cons_succ, List.set_cons_zero]
            refine wpAnyH_take (i := 9) (oi := ⟨some 65, _, _, _, _, _⟩) (v := .int .i64 ss.length) rfl (by kernel_rfl) (by kernel_rfl) (by kernel_rfl) (fun _ _ _ h => h) (Or.inl ⟨by kernel_rfl, fun w' hS => by go_simp⟩) (by assumption) ?_
            try simp only [Act.put, List.setIfInBounds_toArray, List.set_cons_succ, List.set_cons_zero]
            refine wpAnyH_ready (rs := [5]) (by kernel_rfl) (by simp) ?_
            refine AllReadyH.cons (o := _) rfl (fun K hK => ?_) AllReadyH.nil
            go_simp
            refine (HRP.out _ hd).mono ?_
            rintro e wx1 ⟨vr, rfl, hbr, kx1⟩
            obtain ⟨ar, cr, rfl, -, -⟩ := hbr.form
            rw [hlr.out]
            clear hbr
            go_wp2_with fail
            have hS1 := hd.trans kx1
            refine hK.out _ _ hS1 (fun hHeld => ?_)
            clear hK K
            try simp only [Act.put, List.setIfInBounds_toArray, List.set_cons_succ, List.set_cons_zero]
            refine wpAnyH_take (i := 6) (oi := ⟨some 62, _, _, _, _, _⟩) (v := .int .i64 ss.length) rfl (by kernel_rfl) (by kernel_rfl) (by kernel_rfl) (fun _ _ _ h => h) (Or.inl ⟨by kernel_rfl, fun w' hS => by go_simp⟩) (by assumption) ?_
            try simp only [Act.put, List.setIfInBounds_toArray, List.set_cons_succ, List.set_cons_zero]
            refine wpAnyH_take (i := 10) (oi := ⟨some 66, _, _, _, _, _⟩) (v := .bool true) rfl (by kernel_rfl) (by kernel_rfl) (by kernel_rfl) (fun _ _ _ h => h) (Or.inl ⟨by kernel_rfl, fun w' hS => by go_simp⟩) (by assumption) ?_
            try simp only [Act.put, List.setIfInBounds_toArray, List.set_cons_succ, List.set_cons_zero]
            refine wpAnyH_take (i := 11) (oi := ⟨some 67, _, _, _, _, _⟩) (v := .bool true) rfl (by kernel_rfl) (by kernel_rfl) (by kernel_rfl) (fun _ _ _ h => h) (Or.inl ⟨by kernel_rfl, fun w' hS => by go_simp⟩) (by assumption) ?_
            try simp only [Act.put, List.setIfInBounds_toArray, List.set_cons_succ, List.set_cons_zero]
            refine wpAnyH_take (i := 12) (oi := ⟨some 4, _, _, _, _, _⟩) (v := .bool true) rfl (by kernel_rfl) (by kernel_rfl) (by kernel_rfl) (fun _ _ _ h => h) (Or.inl ⟨by kernel_rfl, fun w' hS => by go_simp⟩) (by assumption) ?_
            try simp only [Act.put, List.setIfInBounds_toArray, List.set_cons_succ, List.set_cons_zero]
            refine wpAnyH_done (by kernel_rfl) ?_ _
            have KF := Lib.hid (KU.out.trans hS1)
            clear hS1 kx1 hrw
            go_wp2_with fail
            go_ret
            exact ⟨rfl, KF.out.below (Nat.le_refl _) (fun k h => h.elim)⟩
set_option maxRecDepth 100000 in
theorem lifted (os : Os) (started : os.Started) (H : Type) (enc : TypeId × Value → H) :
    ReturnsInHanded {} Try.checked os 12 .any (Rows.bookPartsSpec.pre6 enc Try.prog Try.f12 Rows.bookPartsRow.domain false) (Rows.bookPartsSpec.post enc Try.prog Try.f12 false true false false) := by
  refine returnsInHanded_of_change (C := Try.checked) own started (by kernel_rfl) Try.func12
    (ChangeSpec.witness6 (enc := enc) (C := Try.checked) false ⟨#[], #[.slice none 0 0, .int .i64 0], []⟩ 8 (by kernel_rfl) (by kernel_rfl) (by kernel_rfl) (by kernel_rfl)) ?_
  intro W base args ds gs before hval0 hW hcnd _
  have hval : ∀ (j : Nat) t v, Try.f12.params[j]? = some t → args[j]? = some v → Value.okWide Try.prog W .any base t v := hval0
  have hW' := hW
  obtain ⟨p, q, hA0, hV, rfl, hfz, hnd⟩ := hW
  have hA : DataW.TrodAll enc Try.prog W 0 (fun _ => true) true Try.f12.params.toList args.toList ds p := hA0
  rw [Try.params12] at hA hval
  obtain ⟨v0, vs0, d0, ds0, p0, q0, hargs, rfl, rfl, h0, r0⟩ := trodAll_cons hA
  obtain ⟨v1, vs1, d1, ds1, p1, q1, rfl, rfl, rfl, h1, r1⟩ := trodAll_cons r0
  obtain ⟨rfl, rfl, rfl⟩ := trodAll_nil r1
  obtain rfl : args = #[v0, v1] := by cases args; simp_all
  obtain ⟨rfl, rfl⟩ := trodVars_none hV
  have k0 := h0
  have lt0 : ∀ x ∈ p0, x.block < W.heap.size := by obtain ⟨m, hm⟩ := k0; exact DataW.trod_lt m _ _ _ hm
  have w0 := IsRecsC.of (hval 0 49 v0 rfl rfl) h0
  obtain ⟨a1, rfl, rfl, rfl, w1⟩ := open_int Try.underlying3 (hval 1 3 v1 rfl rfl) h1
  clear hA0 hval0
  refine (walk W v0 w0 a1 w1).mono fun e W' ⟨he, bel⟩ => ?_
  subst he
  exact ⟨_, rfl, _, _, _, [], _, [], hW', trodAll_mk1 (shut_bool Try.underlying4 _), (trodAll_cons_mk (Below.trod laidOut (by kernel_rfl) (of_decide_eq_true (by kernel_rfl)) k0 bel lt0) (trodAll_cons_mk (shut_int Try.underlying3 w1) trodAll_mk0)), rfl, bel.frame _, fun h => by cases h⟩

theorem over : Rows.bookPartsRow.holds Try.pinned (OpenSpec.ofChange Rows.bookPartsSpec) :=
  OpenClaim.holds_of_wide 12 Try.f12 rfl rfl rfl rfl rfl rfl rfl ⟨rfl, rfl, rfl, rfl, rfl⟩ rfl rfl rfl rfl rfl (by kernel_rfl) Try.func12 (by kernel_rfl)
    (of_decide_eq_true (by kernel_rfl)) (by unfold Func.isWrapper; first | (rw [if_pos (by decide +kernel)]; kernel_rfl) | (rw [if_neg (by decide +kernel)]; exact ⟨rfl, rfl⟩))
    (fun os started H enc _ => lifted os started H enc)

theorem proved : Rows.BookPartsSaid := over
#print axioms proved
end Go.Proofs.Ytklmhegmombegaa.bookParts
