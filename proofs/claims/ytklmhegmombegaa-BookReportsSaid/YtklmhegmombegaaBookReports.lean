/-
  Every book's report, whether it is clean, which books are the same, and a saga's records, are the document's: 'Rows.BookReportsSaid', for every input. Conditions: none.
-/
import Derived.Test.YtklmhegmombegaaArg3
import Derived.Test.YtklmhegmombegaaBkV
import Derived.Test.YtklmhegmombegaaBkS
import Derived.Test.YtklmhegmombegaaRows
import Derived.OwnWalk
import Derived.ProofKit
import Derived.OpenShut
import Derived.ShutString
import Derived.ChangeOld
import Derived.Below
namespace Go.Proofs.Ytklmhegmombegaa.bookReports
open Go Go.ChangeShapes Go.WideShapes Go.ChangeAt Go.RowKit Plain
set_option linter.unusedVariables false
set_option linter.unusedSimpArgs false
theorem own : ownKnob Try.prog.godebug = none := by kernel_rfl
theorem laidOut : laidOutB Try.prog = true := by kernel_rfl

theorem GoodS.doneIn {lim : Nat} {s : Sg} (h : GoodS lim s) : DoneIn s := by
  obtain ⟨n, -, hi⟩ := h
  unfold DoneIn
  have h1 := hi.done
  have h2 : 2 ^ s.pos ≤ 2 ^ s.steps.length := Nat.pow_le_pow_right (by decide) hi.pos
  have h3 := Nat.two_pow_pos s.pos
  omega
theorem great_data {l : List Rx} (h : greatL l = false) : ∀ x ∈ l, x.data.length ≤ 300 := by
  intro x hx
  unfold greatL at h
  rw [Bool.or_eq_false_iff] at h
  have h2 := List.any_eq_false.1 h.2 x hx
  unfold greatB at h2
  simp only [Bool.or_eq_true, decide_eq_true_eq, not_or] at h2
  omega
/-- What Only hands back holds its records. -/
theorem only_holds {rs : List (Array Value × Rx)} {n : Int} {w w' : World} {v : Value} (hb : Buf w' w.heap.size 41 109 v (onlyR n rs).length ((onlyR n rs).flatMap frc)) (hr : ∀ p ∈ rs, RecIn w' p.1 p.2) (hl : rs.length ≤ maxLen) : HoldsRs w' v (onlyR n rs) :=
  ⟨hb.rd, Nat.le_trans (List.length_filter_le _ _) hl, fun p hp => hr p (List.mem_filter.1 hp).1⟩
theorem not_done (p q : Int) : notDone (p, q) = (!(p == 2) && !(p == 3)) := rfl
theorem any_takeN {l : List (Int × Int)} {k : Nat} (hk : k < l.length) : (l.take (k + 1)).any notDone = ((l.take k).any notDone || notDone l[k]) := by
  rw [← List.take_append_getElem hk, List.any_append]; simp
theorem repL_len (l : List Sg) : (repL l).length = l.length := by simp [repL]
set_option maxRecDepth 100000 in
set_option maxHeartbeats 8000000 in
theorem walk (w : World) (v0 : Value) (w0 : IsRecs w v0) (v1 : Value) (w1 : IsRecs w v1) (a2 : Int) (w2 : (Lit.int .i64 a2).wf = true) (a3 : Int) (w3 : (Lit.int .i64 a3).wf = true) :
    Calls Try.prog 8 #[v0, v1, .int .i64 a2, .int .i64 a3] w fun e w' => e = .returned (.bool true) ∧ Below w.heap.size w w' := by
  obtain ⟨rs, hR⟩ := w0
  obtain ⟨qs, hQ⟩ := w1
  obtain ⟨a, c, rfl⟩ := hR.form
  obtain ⟨a', c', rfl⟩ := hQ.form
  clear w2 w3
  have HAL := Lib.hid (f_alive12 w)
  have HGR := Lib.hid (fun w' (k : Kept (fun _ => False) w w') => f_great _ rs w' (hR.kept k))
  have HGQ := Lib.hid (fun w' (k : Kept (fun _ => False) w w') => f_great _ qs w' (hQ.kept k))
  cases hg : greatL (rs.map (·.2)) with
  | true =>
    rw [hg] at HGR
    clear hR hQ hg HGQ
    go_enter Try.func8, Try.ntmps8
    go_wp2_with fail
    refine HAL.out.mono ?_
    rintro e w1 ⟨rfl, k1⟩
    go_wp2_with fail
    refine (HGR.out _ k1).mono ?_
    rintro e w2 ⟨rfl, k2⟩
    have KF := Lib.hid (k1.trans k2)
    go_wp2_with fail
    go_ret
    exact ⟨rfl, KF.out.below (Nat.le_refl _) (fun k h => h.elim)⟩
  | false =>
    cases hgq : greatL (qs.map (·.2)) with
    | true =>
      rw [hg] at HGR
      rw [hgq] at HGQ
      clear hR hQ hg hgq
      go_enter Try.func8, Try.ntmps8
      go_wp2_with fail
      refine HAL.out.mono ?_
      rintro e w1 ⟨rfl, k1⟩
      go_wp2_with fail
      refine (HGR.out _ k1).mono ?_
      rintro e w2 ⟨rfl, k2⟩
      have k12 := k1.trans k2
      clear k1 k2
      go_wp2_with fail
      refine (HGQ.out _ k12).mono ?_
      rintro e w3 ⟨rfl, k3⟩
      have KF := Lib.hid (k12.trans k3)
      go_wp2_with fail
      go_ret
      exact ⟨rfl, KF.out.below (Nat.le_refl _) (fun k h => h.elim)⟩
    | false =>
      rw [hg] at HGR
      rw [hgq] at HGQ
      obtain ⟨hl0, hs0⟩ := great_not hg
      obtain ⟨hl1, hq0⟩ := great_not hgq
      have hda := great_data hg
      rw [List.length_map] at hl0 hl1
      have hs1 : ∀ p ∈ rs, p.2.steps.length ≤ 1000000 := fun p hp => by have := hs0 p.2 (List.mem_map_of_mem hp); omega
      have hd1 : ∀ p ∈ rs, p.2.data.length ≤ 1000000 := fun p hp => by have := hda p.2 (List.mem_map_of_mem hp); omega
      have hq1 : ∀ p ∈ qs, p.2.steps.length ≤ 1000000 := fun p hp => by have := hq0 p.2 (List.mem_map_of_mem hp); omega
      obtain ⟨b, n, hbn⟩ : ∃ b n, bookOf (rs.map (·.2)) a2 = (b, n) := ⟨_, _, rfl⟩
      obtain ⟨d, m, hdm⟩ : ∃ d m, bookOf (qs.map (·.2)) a2 = (d, m) := ⟨_, _, rfl⟩
      have hgb : BGood a2.toNat b := by have := good_bookOf (rs.map (·.2)) a2; rw [hbn] at this; exact this
      have hgd : BGood a2.toNat d := by have := good_bookOf (qs.map (·.2)) a2; rw [hdm] at this; exact this
      have hokb : ∀ s ∈ b.sagas, Okay s := by have := bookOf_okay (rs.map (·.2)) a2; rw [hbn] at this; exact this
      have hokd : ∀ s ∈ d.sagas, Okay s := by have := bookOf_okay (qs.map (·.2)) a2; rw [hdm] at this; exact this
      have HOB : Hid (∀ w', Kept (fun _ => False) w w' → Calls Try.prog 27 #[.slice a rs.length c, .int .i64 a2] w' (OfPost (b, n) w')) := fun w' k => by
        have := f_bof _ rs a2 w' (hR.kept k) (by omega) hs1
        rw [hbn] at this; exact this
      have HOD : Hid (∀ w', Kept (fun _ => False) w w' → Calls Try.prog 27 #[.slice a' qs.length c', .int .i64 a2] w' (OfPost (d, m) w')) := fun w' k => by
        have := f_bof _ qs a2 w' (hQ.kept k) (by omega) hq1
        rw [hdm] at this; exact this
      have HNB := Lib.hid hgb
      have HND := Lib.hid hgd
      have HKB := Lib.hid hokb
      have HKD := Lib.hid hokd
      have HON : Hid (∀ w', Kept (fun _ => False) w w' → Calls Try.prog 36 #[.slice a rs.length c, .int .i64 a3] w' (OnPost (onlyR a3 rs) w')) := fun w' k => f_only _ rs a3 w' (hR.kept k) (by omega)
      have HRN : Hid (∀ w', Kept (fun _ => False) w w' → Calls Try.prog 37 #[.slice a rs.length c, .int .i64 a3] w' (OnPost (onlyR a3 rs) w')) := fun w' k => f_ronly _ rs a3 w' (hR.kept k) (by omega)
      have HRI : Hid (∀ w', Kept (fun _ => False) w w' → ∀ p ∈ rs, RecIn w' p.1 p.2) := fun w' k p hp => (hR.kept k).rin p hp
      have HRC : Hid (∀ w' va vb, HoldsRs w' va (onlyR a3 rs) → HoldsRs w' vb (onlyR a3 rs) → Calls Try.prog 35 #[va, vb] w' (BPost true w')) := fun w' va vb h1 h2 => f_recs _ _ _ w' h1 h2 (by have := List.length_filter_le (fun p : Array Value × Rx => onlyB a3 p.2) rs; show (rs.filter _).length ≤ _; omega) (fun p hp => hs1 p (List.mem_filter.1 hp).1) (fun p hp => hd1 p (List.mem_filter.1 hp).1)
      have HRL := Lib.hid hR.len
      clear hR hQ hg hgq hs0 hq0 hda hs1 hd1 hq1 hbn hdm hgb hgd hokb hokd
      go_enter Try.func8, Try.ntmps8
      go_wp2_with fail
      refine HAL.out.mono ?_
      rintro e w1 ⟨rfl, k1⟩
      go_wp2_with fail
      refine (HGR.out _ k1).mono ?_
      rintro e w2 ⟨rfl, k2⟩
      have k12 := k1.trans k2
      clear k1 k2
      go_wp2_with fail
      refine (HGQ.out _ k12).mono ?_
      rintro e w3 ⟨rfl, k3⟩
      have K3 := Lib.hid (k12.trans k3)
      clear k12 k3 HAL HGR HGQ
      go_wp2_with fail
      refine (HOB.out _ K3.out).mono ?_
      rintro e w4 ⟨sB, ssB, rfl, hbB, hmB, -, k4⟩
      obtain ⟨aB, cB, rfl⟩ := hbB.form
      dsimp only at *
      have hone : Hid (∀ (B : Bk) (a : Option Addr) (n c : Nat), (bkC B.ep (.slice a n c)).all (·.oneCell') = true) := fun B a n c => bkC_one B.ep a n c
      have z4 := Lib.hid (heap_alloc_new w4 (.cells Z54 54))
      obtain ⟨y4, k4'⟩ := alloc_set w4 Z54 (bkC b.ep (.slice aB ssB.length cB)) 54
      have K4 := Lib.hid (K3.out.trans (k4.trans k4'))
      have Y4 := Lib.hid y4
      have B4 := Lib.hid (hbB.kept k4')
      have MB := Lib.hid hmB
      clear y4 k4 k4' hbB hmB K3 HOB
      go_upto_region 6 with (first | fail | (with_reducible refine alloc54 ?_) | ((with_reducible refine store54 ?_ ?_ z4.out rfl (bkC_size _ _) (hone.out b aB ssB.length cB) ?_); rfl; rfl))
      generalize ((w4.alloc (.cells Z54 54)).setRow w4.heap.size (bkC b.ep (.slice aB ssB.length cB))) = uB at *
      generalize w4.heap.size = gB at *
      clear z4
      go_wp2_with fail
      refine (HOD.out _ K4.out).mono ?_
      rintro e w5 ⟨sD, ssD, rfl, hbD, hmD, -, k5⟩
      obtain ⟨aD, cD, rfl⟩ := hbD.form
      dsimp only at *
      have z5 := Lib.hid (heap_alloc_new w5 (.cells Z54 54))
      obtain ⟨y5, k5'⟩ := alloc_set w5 Z54 (bkC d.ep (.slice aD ssD.length cD)) 54
      have k55 := k5.trans k5'
      have K5 := Lib.hid (K4.out.trans k55)
      have Y5 := Lib.hid y5
      have YB := Lib.hid (k55.row Y4.out)
      have B5 := Lib.hid (B4.out.kept k55)
      have D5 := Lib.hid (hbD.kept k5')
      have MD := Lib.hid hmD
      clear y5 k5 k5' k55 hbD hmD K4 Y4 B4 HOD
      go_upto_region 7 with (first | fail | (with_reducible refine alloc54 ?_) | ((with_reducible refine store54 ?_ ?_ z5.out rfl (bkC_size _ _) (hone.out d aD ssD.length cD) ?_); rfl; rfl))
      generalize ((w5.alloc (.cells Z54 54)).setRow w5.heap.size (bkC d.ep (.slice aD ssD.length cD))) = u at *
      generalize w5.heap.size = gD at *
      clear z5
      have hokB : ∀ p ∈ ssB, Okay p.1 := fun p hp => HKB.out p.1 (MB.out ▸ List.mem_map_of_mem hp)
      have hokD : ∀ p ∈ ssD, Okay p.1 := fun p hp => HKD.out p.1 (MD.out ▸ List.mem_map_of_mem hp)
      have hdiB : ∀ p ∈ ssB, DoneIn p.1 := fun p hp => GoodS.doneIn (HNB.out.sagas p.1 (MB.out ▸ List.mem_map_of_mem hp))
      have hdiD : ∀ p ∈ ssD, DoneIn p.1 := fun p hp => GoodS.doneIn (HND.out.sagas p.1 (MD.out ▸ List.mem_map_of_mem hp))
      have hslB : ∀ p ∈ ssB, p.1.steps.length ≤ 1000000 := fun p hp => by have := (hokB p hp).len; omega
      have HPB : Hid (∀ w', Kept (fun _ => False) u w' → Calls Try.prog 28 #[.agg (bkC b.ep (.slice aB ssB.length cB))] w' (RpPost (repL b.sagas) w')) := fun w' k => f_report b _ ssB w' (B5.out.kept k) MB.out hokB
      have HPD : Hid (∀ w', Kept (fun _ => False) u w' → Calls Try.prog 28 #[.agg (bkC d.ep (.slice aD ssD.length cD))] w' (RpPost (repL d.sagas) w')) := fun w' k => f_report d _ ssD w' (D5.out.kept k) MD.out hokD
      have HQB : Hid (∀ w', Kept (fun _ => False) u w' → Calls Try.prog 29 #[.agg (bkC b.ep (.slice aB ssB.length cB))] w' (RpPost (repL b.sagas) w')) := fun w' k => f_rreport b _ ssB w' (B5.out.kept k) MB.out hokB hdiB
      have HQD : Hid (∀ w', Kept (fun _ => False) u w' → Calls Try.prog 29 #[.agg (bkC d.ep (.slice aD ssD.length cD))] w' (RpPost (repL d.sagas) w')) := fun w' k => f_rreport d _ ssD w' (D5.out.kept k) MD.out hokD hdiD
      have HSB : Hid (∀ w', Kept (fun _ => False) u w' → Calls Try.prog 32 #[.agg (bkC b.ep (.slice aB ssB.length cB)), .agg (bkC d.ep (.slice aD ssD.length cD))] w' (BPost (sameBk b d) w')) := fun w' k => f_bksame b d _ _ ssB ssD w' (B5.out.kept k) (D5.out.kept k) MB.out MD.out hslB
      have HTB : Hid (∀ w', Kept (fun _ => False) u w' → Calls Try.prog 33 #[.agg (bkC b.ep (.slice aB ssB.length cB)), .agg (bkC d.ep (.slice aD ssD.length cD))] w' (BPost (sameBk b d) w')) := fun w' k => f_rbksame b d _ _ ssB ssD w' (B5.out.kept k) (D5.out.kept k) MB.out MD.out hslB
      have hlb12 : b.sagas.length ≤ 12 := by have := HNB.out.len; omega
      have hrl : (repL b.sagas).length ≤ 12 := by rw [repL_len]; exact hlb12
      generalize sameBk b d = sb at HSB HTB
      generalize repL b.sagas = lb at HPB HQB hrl
      generalize repL d.sagas = ld at HPD HQD
      clear hokB hokD hdiB hdiD hslB hlb12
      have hrw : Hid (∀ {w' : World}, Kept (fun _ => False) u w' → w'.heap[gB]? = some (.cells (bkC b.ep (.slice aB ssB.length cB)) 54 (0, 0)) ∧ w'.heap[gD]? = some (.cells (bkC d.ep (.slice aD ssD.length cD)) 54 (0, 0))) := fun k => ⟨k.row YB.out, k.row Y5.out⟩
      have hd : Kept (fun _ => False) u u.drew := (Kept.refl _ _).drew
      refine wp_region_held_drew (S := fun w' => Kept (fun _ => False) u w') (by kernel_rfl) hd (fun hHeld => ?_)
      refine wpAnyH_take (i := 0) (oi := ⟨some 37, _, _, _, _, _⟩) (v := .agg (bkC b.ep (.slice aB ssB.length cB))) rfl (by kernel_rfl) (by kernel_rfl) (by kernel_rfl) (fun _ _ _ h => h) (yields54 (g := gB) (by kernel_rfl) rfl (fun w' hS => (hrw.out hS).1) (bkC_size _ _)) (by assumption) ?_
      try simp only [Act.put, List.setIfInBounds_toArray, List.set_cons_succ, List.set_cons_zero]
      refine wpAnyH_take (i := 2) (oi := ⟨some 39, _, _, _, _, _⟩) (v := .agg (bkC b.ep (.slice aB ssB.length cB))) rfl (by kernel_rfl) (by kernel_rfl) (by kernel_rfl) (fun _ _ _ h => h) (yields54 (g := gB) (by kernel_rfl) rfl (fun w' hS => (hrw.out hS).1) (bkC_size _ _)) (by assumption) ?_
      try simp only [Act.put, List.setIfInBounds_toArray, List.set_cons_succ, List.set_cons_zero]
      refine wpAnyH_ready (rs := [1]) (by kernel_rfl) (by simp) ?_
      refine AllReadyH.cons (o := _) rfl (fun K hK => ?_) AllReadyH.nil
      go_simp
      refine (HPB.out _ hd).mono ?_
      rintro e wx1 ⟨vp, rfl, hbp, kx1⟩
      go_wp2_with fail
      have hS1 := hd.trans kx1
      refine hK.out _ _ hS1 (fun hHeld => ?_)
      clear hK K
      try simp only [Act.put, List.setIfInBounds_toArray, List.set_cons_succ, List.set_cons_zero]
      refine wpAnyH_ready (rs := [3]) (by kernel_rfl) (by simp) ?_
      refine AllReadyH.cons (o := _) rfl (fun K hK => ?_) AllReadyH.nil
      go_simp
      refine (HQB.out _ hS1).mono ?_
      rintro e wx2 ⟨vq, rfl, hbq, kx2⟩
      go_wp2_with fail
      have hS2 := hS1.trans kx2
      refine hK.out _ _ hS2 (fun hHeld => ?_)
      clear hK K
      try simp only [Act.put, List.setIfInBounds_toArray, List.set_cons_succ, List.set_cons_zero]
      refine wpAnyH_take (i := 4) (oi := ⟨some 13, _, _, _, _, _⟩) (v := vp) rfl (by kernel_rfl) (by kernel_rfl) (by kernel_rfl) (fun _ _ _ h => h) (Or.inl ⟨by kernel_rfl, fun w' hS => by go_simp⟩) (by assumption) ?_
      try simp only [Act.put, List.setIfInBounds_toArray, List.set_cons_succ, List.set_cons_zero]
      refine wpAnyH_take (i := 5) (oi := ⟨some 14, _, _, _, _, _⟩) (v := vq) rfl (by kernel_rfl) (by kernel_rfl) (by kernel_rfl) (fun _ _ _ h => h) (Or.inl ⟨by kernel_rfl, fun w' hS => by go_simp⟩) (by assumption) ?_
      try simp only [Act.put, List.setIfInBounds_toArray, List.set_cons_succ, List.set_cons_zero]
      refine wpAnyH_done (by kernel_rfl) ?_ _
      have P2 : Stp wx2 vp lb := ⟨(hbp.kept kx2 (fun _ _ h => h)).rd, fun k e => Nat.lt_of_lt_of_le (hbp.lt k e).2 kx2.size⟩
      have Q2 : Stp wx2 vq lb := ⟨hbq.rd, fun k e => (hbq.lt k e).2⟩
      have KU := Lib.hid hS2
      obtain ⟨ap, cp, rfl⟩ := P2.form
      obtain ⟨aq, cq, rfl⟩ := Q2.form
      have HP2 := Lib.hid P2
      have HQ2 := Lib.hid Q2
      clear P2 Q2 hbp hbq kx1 kx2 hS1 hS2 hd
      go_wp2_with fail
      go_loopw [15, 16] (fun cl i wr => ∃ k : Nat, k ≤ lb.length ∧ i = .int .i64 k ∧ cl = .bool (!(lb.take k).any notDone) ∧ Kept (fun _ => False) wx2 wr) (fun _ i _ => lb.length - (intOf i).toNat)
      case atStart => exact ⟨0, Nat.zero_le _, rfl, rfl, Kept.refl _ _⟩
      case round =>
        obtain ⟨k, hk, rfl, rfl, K⟩ := hrel
        have KR := Lib.hid K
        by_cases hlt : k < lb.length
        · obtain ⟨b1, o1, c1, e1, -, x0, -⟩ := (HQ2.out.kept K).kind hlt
          simp only [Value.slice.injEq, true_and] at e1
          obtain ⟨rfl, rfl⟩ := e1
          have HN : Hid ((lb.take (k + 1)).any notDone = ((lb.take k).any notDone || (!(lb[k].1 == 2) && !(lb[k].1 == 3)))) := any_takeN hlt
          generalize lb[k] = q at x0 HN
          obtain ⟨p, q⟩ := q
          dsimp only at x0 HN
          clear K
          cases hcl : (lb.take k).any notDone with
          | true =>
            have E : Hid ((lb.take (k + 1)).any notDone = true) := by show _ = _; rw [HN.out, hcl]; rfl
            clear hcl
            go_wp2_with fail
            go_roundw
            case rel => exact ⟨k + 1, by omega, by go_num, by rw [E.out]; rfl, KR.out⟩
            case measure => simp [intOf]; omega
          | false =>
            by_cases h2 : p = 2
            · have t1 : (p == 2) = true := by rw [beq_iff_eq]; exact h2
              have E : Hid ((lb.take (k + 1)).any notDone = false) := by show _ = _; rw [HN.out, hcl, t1]; rfl
              clear hcl h2
              go_wp2_with fail
              go_roundw
              case rel => exact ⟨k + 1, by omega, by go_num, by rw [E.out]; rfl, KR.out⟩
              case measure => simp [intOf]; omega
            have t1 : (p == 2) = false := by rw [beq_eq_false_iff_ne]; exact h2
            by_cases h3 : p = 3
            · have t2 : (p == 3) = true := by rw [beq_iff_eq]; exact h3
              have E : Hid ((lb.take (k + 1)).any notDone = false) := by show _ = _; rw [HN.out, hcl, t1, t2]; rfl
              clear hcl h2 h3
              go_wp2_with fail
              go_roundw
              case rel => exact ⟨k + 1, by omega, by go_num, by rw [E.out]; rfl, KR.out⟩
              case measure => simp [intOf]; omega
            have t2 : (p == 3) = false := by rw [beq_eq_false_iff_ne]; exact h3
            have E : Hid ((lb.take (k + 1)).any notDone = true) := by show _ = _; rw [HN.out, hcl, t1, t2]; rfl
            clear hcl h2 h3
            go_wp2_with fail
            go_roundw
            case rel => exact ⟨k + 1, by omega, by go_num, by rw [E.out]; rfl, KR.out⟩
            case measure => simp [intOf]; omega
        · obtain rfl : k = lb.length := by omega
          have hcl : (!(lb.take lb.length).any notDone) = cleanB lb := by rw [List.take_length]; rfl
          rw [hcl]
          clear hcl K
          have hdd : decide (lb = lb) = true := by simp
          have HL1 : Hid (∀ w', Kept (fun _ => False) wr w' → Calls Try.prog 30 #[.slice ap lb.length cp, .slice aq lb.length cq] w' (BPost true w')) := fun w' k => by
            have h := f_rlines _ _ lb lb w' (HP2.out.kept (KR.out.trans k)) (HQ2.out.kept (KR.out.trans k)) (by omega)
            rwa [hdd] at h
          have HCL : Hid (∀ w', Kept (fun _ => False) wr w' → Calls Try.prog 31 #[.slice ap lb.length cp] w' (BPost (cleanB lb) w')) := fun w' k => f_clean _ lb w' (HP2.out.kept (KR.out.trans k)) (by omega)
          have HL2 : Hid (∀ w' v, Kept (fun _ => False) wr w' → Stp w' v ld → Calls Try.prog 34 #[.slice ap lb.length cp, v] w' (BPost (decide (lb = ld)) w')) := fun w' v k hv => f_lines _ _ lb ld w' (HP2.out.kept (KR.out.trans k)) hv (by omega)
          have HL3 : Hid (∀ w' v, Kept (fun _ => False) wr w' → Stp w' v ld → Calls Try.prog 30 #[.slice aq lb.length cq, v] w' (BPost (decide (lb = ld)) w')) := fun w' v k hv => f_rlines _ _ lb ld w' (HQ2.out.kept (KR.out.trans k)) hv (by omega)
          have KU2 := Lib.hid (KU.out.trans KR.out)
          have KW2 := Lib.hid (K5.out.trans KU2.out)
          generalize cleanB lb = cl at HCL ⊢
          generalize decide (lb = ld) = de at HL2 HL3
          have tc : (cl == cl) = true := by simp
          have ts : (sb == sb) = true := by simp
          have te : (de == de) = true := by simp
          clear hdd
          go_upto_region 13 with (fail)
          have hd : Kept (fun _ => False) wr wr.drew := (Kept.refl _ _).drew
          refine wp_region_held_drew (S := fun w' => Kept (fun _ => False) wr w') (by kernel_rfl) hd (fun hHeld => ?_)
          refine wpAnyH_take (i := 0) (oi := ⟨some 64, _, _, _, _, _⟩) (v := .slice ap lb.length cp) rfl (by kernel_rfl) (by kernel_rfl) (by kernel_rfl) (fun _ _ _ h => h) (Or.inl ⟨by kernel_rfl, fun w' hS => by go_simp⟩) (by assumption) ?_
          try simp only [Act.put, List.setIfInBounds_toArray, List.set_cons_succ, List.set_cons_zero]
          refine wpAnyH_take (i := 1) (oi := ⟨some 65, _, _, _, _, _⟩) (v := .slice aq lb.length cq) rfl (by kernel_rfl) (by kernel_rfl) (by kernel_rfl) (fun _ _ _ h => h) (Or.inl ⟨by kernel_rfl, fun w' hS => by go_simp⟩) (by assumption) ?_
          try simp only [Act.put, List.setIfInBounds_toArray, List.set_cons_succ, List.set_cons_zero]
          refine wpAnyH_ready (rs := [2]) (by kernel_rfl) (by simp) ?_
          refine AllReadyH.cons (o := _) rfl (fun K hK => ?_) AllReadyH.nil
          go_simp
          refine (HL1.out _ hd).mono ?_
          rintro e wx3 ⟨rfl, kx3⟩
          go_wp2_with fail
          have hS3 := hd.trans kx3
          refine hK.out _ _ hS3 (fun hHeld => ?_)
          clear hK K
          try simp only [Act.put, List.setIfInBounds_toArray, List.set_cons_succ, List.set_cons_zero]
          refine wpAnyH_take (i := 3) (oi := ⟨some 67, _, _, _, _, _⟩) (v := .bool true) rfl (by kernel_rfl) (by kernel_rfl) (by kernel_rfl) (fun _ _ _ h => h) (Or.inl ⟨by kernel_rfl, fun w' hS => by go_simp⟩) (by assumption) ?_
          try simp only [Act.put, List.setIfInBounds_toArray, List.set_cons_succ, List.set_cons_zero]
          refine wpAnyH_take (i := 4) (oi := ⟨some 68, _, _, _, _, _⟩) (v := .slice ap lb.length cp) rfl (by kernel_rfl) (by kernel_rfl) (by kernel_rfl) (fun _ _ _ h => h) (Or.inl ⟨by kernel_rfl, fun w' hS => by go_simp⟩) (by assumption) ?_
          try simp only [Act.put, List.setIfInBounds_toArray, List.set_cons_succ, List.set_cons_zero]
          refine wpAnyH_take (i := 6) (oi := ⟨some 70, _, _, _, _, _⟩) (v := .bool cl) rfl (by kernel_rfl) (by kernel_rfl) (by kernel_rfl) (fun _ _ _ h => h) (Or.inl ⟨by kernel_rfl, fun w' hS => by go_simp⟩) (by assumption) ?_
          try simp only [Act.put, List.setIfInBounds_toArray, List.set_cons_succ, List.set_cons_zero]
          refine wpAnyH_ready (rs := [5]) (by kernel_rfl) (by simp) ?_
          refine AllReadyH.cons (o := _) rfl (fun K hK => ?_) AllReadyH.nil
          go_simp
          refine (HCL.out _ hS3).mono ?_
          rintro e wx4 ⟨rfl, kx4⟩
          go_wp2_with fail
          have hS4 := hS3.trans kx4
          refine hK.out _ _ hS4 (fun hHeld => ?_)
          clear hK K
          try simp only [Act.put, List.setIfInBounds_toArray, List.set_cons_succ, List.set_cons_zero]
          refine wpAnyH_take (i := 7) (oi := ⟨some 71, _, _, _, _, _⟩) (v := .bool true) rfl (by kernel_rfl) (by kernel_rfl) (by kernel_rfl) (fun _ _ _ h => h) (Or.inl ⟨by kernel_rfl, fun w' hS => by go_simp⟩) (by assumption) ?_
          try simp only [Act.put, List.setIfInBounds_toArray, List.set_cons_succ, List.set_cons_zero]
          refine wpAnyH_take (i := 8) (oi := ⟨some 72, _, _, _, _, _⟩) (v := .bool true) rfl (by kernel_rfl) (by kernel_rfl) (by kernel_rfl) (fun _ _ _ h => h) (Or.inl ⟨by kernel_rfl, fun w' hS => by go_simp⟩) (by assumption) ?_
          try simp only [Act.put, List.setIfInBounds_toArray, List.set_cons_succ, List.set_cons_zero]
          refine wpAnyH_take (i := 9) (oi := ⟨some 73, _, _, _, _, _⟩) (v := .bool true) rfl (by kernel_rfl) (by kernel_rfl) (by kernel_rfl) (fun _ _ _ h => h) (Or.inl ⟨by kernel_rfl, fun w' hS => by go_simp⟩) (by assumption) ?_
          try simp only [Act.put, List.setIfInBounds_toArray, List.set_cons_succ, List.set_cons_zero]
          refine wpAnyH_take (i := 10) (oi := ⟨some 74, _, _, _, _, _⟩) (v := .agg (bkC b.ep (.slice aB ssB.length cB))) rfl (by kernel_rfl) (by kernel_rfl) (by kernel_rfl) (fun _ _ _ h => h) (yields54 (g := gB) (by kernel_rfl) rfl (fun w' hS => (hrw.out (KU2.out.trans hS)).1) (bkC_size _ _)) (by assumption) ?_
          try simp only [Act.put, List.setIfInBounds_toArray, List.set_cons_succ, List.set_cons_zero]
          refine wpAnyH_take (i := 11) (oi := ⟨some 75, _, _, _, _, _⟩) (v := .agg (bkC d.ep (.slice aD ssD.length cD))) rfl (by kernel_rfl) (by kernel_rfl) (by kernel_rfl) (fun _ _ _ h => h) (yields54 (g := gD) (by kernel_rfl) rfl (fun w' hS => (hrw.out (KU2.out.trans hS)).2) (bkC_size _ _)) (by assumption) ?_
          try simp only [Act.put, List.setIfInBounds_toArray, List.set_cons_succ, List.set_cons_zero]
          refine wpAnyH_take (i := 13) (oi := ⟨some 77, _, _, _, _, _⟩) (v := .agg (bkC b.ep (.slice aB ssB.length cB))) rfl (by kernel_rfl) (by kernel_rfl) (by kernel_rfl) (fun _ _ _ h => h) (yields54 (g := gB) (by kernel_rfl) rfl (fun w' hS => (hrw.out (KU2.out.trans hS)).1) (bkC_size _ _)) (by assumption) ?_
          try simp only [Act.put, List.setIfInBounds_toArray, List.set_cons_succ, List.set_cons_zero]
          refine wpAnyH_take (i := 14) (oi := ⟨some 78, _, _, _, _, _⟩) (v := .agg (bkC d.ep (.slice aD ssD.length cD))) rfl (by kernel_rfl) (by kernel_rfl) (by kernel_rfl) (fun _ _ _ h => h) (yields54 (g := gD) (by kernel_rfl) rfl (fun w' hS => (hrw.out (KU2.out.trans hS)).2) (bkC_size _ _)) (by assumption) ?_
          try simp only [Act.put, List.setIfInBounds_toArray, List.set_cons_succ, List.set_cons_zero]
          refine wpAnyH_ready (rs := [12]) (by kernel_rfl) (by simp) ?_
          refine AllReadyH.cons (o := _) rfl (fun K hK => ?_) AllReadyH.nil
          go_simp
          refine (HSB.out _ (KU2.out.trans hS4)).mono ?_
          rintro e wx5 ⟨rfl, kx5⟩
          go_wp2_with fail
          have hS5 := hS4.trans kx5
          refine hK.out _ _ hS5 (fun hHeld => ?_)
          clear hK K
          try simp only [Act.put, List.setIfInBounds_toArray, List.set_cons_succ, List.set_cons_zero]
          refine wpAnyH_ready (rs := [15]) (by kernel_rfl) (by simp) ?_
          refine AllReadyH.cons (o := _) rfl (fun K hK => ?_) AllReadyH.nil
          go_simp
          refine (HTB.out _ (KU2.out.trans hS5)).mono ?_
          rintro e wx6 ⟨rfl, kx6⟩
          go_wp2_with fail
          have hS6 := hS5.trans kx6
          refine hK.out _ _ hS6 (fun hHeld => ?_)
          clear hK K
          try simp only [Act.put, List.setIfInBounds_toArray, List.set_cons_succ, List.set_cons_zero]
          refine wpAnyH_take (i := 16) (oi := ⟨some 80, _, _, _, _, _⟩) (v := .bool true) rfl (by kernel_rfl) (by kernel_rfl) (by kernel_rfl) (fun _ _ _ h => h) (Or.inl ⟨by kernel_rfl, fun w' hS => by go_simp⟩) (by assumption) ?_
          try simp only [Act.put, List.setIfInBounds_toArray, List.set_cons_succ, List.set_cons_zero]
          refine wpAnyH_take (i := 17) (oi := ⟨some 81, _, _, _, _, _⟩) (v := .bool true) rfl (by kernel_rfl) (by kernel_rfl) (by kernel_rfl) (fun _ _ _ h => h) (Or.inl ⟨by kernel_rfl, fun w' hS => by go_simp⟩) (by assumption) ?_
          try simp only [Act.put, List.setIfInBounds_toArray, List.set_cons_succ, List.set_cons_zero]
          refine wpAnyH_take (i := 18) (oi := ⟨some 82, _, _, _, _, _⟩) (v := .bool true) rfl (by kernel_rfl) (by kernel_rfl) (by kernel_rfl) (fun _ _ _ h => h) (Or.inl ⟨by kernel_rfl, fun w' hS => by go_simp⟩) (by assumption) ?_
          try simp only [Act.put, List.setIfInBounds_toArray, List.set_cons_succ, List.set_cons_zero]
          refine wpAnyH_take (i := 19) (oi := ⟨some 83, _, _, _, _, _⟩) (v := .slice ap lb.length cp) rfl (by kernel_rfl) (by kernel_rfl) (by kernel_rfl) (fun _ _ _ h => h) (Or.inl ⟨by kernel_rfl, fun w' hS => by go_simp⟩) (by assumption) ?_
          try simp only [Act.put, List.setIfInBounds_toArray, List.set_cons_succ, List.set_cons_zero]
          refine wpAnyH_take (i := 20) (oi := ⟨some 84, _, _, _, _, _⟩) (v := .agg (bkC d.ep (.slice aD ssD.length cD))) rfl (by kernel_rfl) (by kernel_rfl) (by kernel_rfl) (fun _ _ _ h => h) (yields54 (g := gD) (by kernel_rfl) rfl (fun w' hS => (hrw.out (KU2.out.trans hS)).2) (bkC_size _ _)) (by assumption) ?_
          try simp only [Act.put, List.setIfInBounds_toArray, List.set_cons_succ, List.set_cons_zero]
          refine wpAnyH_take (i := 23) (oi := ⟨some 87, _, _, _, _, _⟩) (v := .slice aq lb.length cq) rfl (by kernel_rfl) (by kernel_rfl) (by kernel_rfl) (fun _ _ _ h => h) (Or.inl ⟨by kernel_rfl, fun w' hS => by go_simp⟩) (by assumption) ?_
          try simp only [Act.put, List.setIfInBounds_toArray, List.set_cons_succ, List.set_cons_zero]
          refine wpAnyH_take (i := 24) (oi := ⟨some 88, _, _, _, _, _⟩) (v := .agg (bkC d.ep (.slice aD ssD.length cD))) rfl (by kernel_rfl) (by kernel_rfl) (by kernel_rfl) (fun _ _ _ h => h) (yields54 (g := gD) (by kernel_rfl) rfl (fun w' hS => (hrw.out (KU2.out.trans hS)).2) (bkC_size _ _)) (by assumption) ?_
          try simp only [Act.put, List.setIfInBounds_toArray, List.set_cons_succ, List.set_cons_zero]
          refine wpAnyH_ready (rs := [21]) (by kernel_rfl) (by simp) ?_
          refine AllReadyH.cons (o := _) rfl (fun K hK => ?_) AllReadyH.nil
          go_simp
          refine (HPD.out _ (KU2.out.trans hS6)).mono ?_
          rintro e wx7 ⟨vx, rfl, hbx, kx7⟩
          go_wp2_with fail
          have hS7 := hS6.trans kx7
          have SX : Stp wx7 vx ld := ⟨hbx.rd, fun k e => (hbx.lt k e).2⟩
          clear hbx
          refine hK.out _ _ hS7 (fun hHeld => ?_)
          clear hK K
          try simp only [Act.put, List.setIfInBounds_toArray, List.set_cons_succ, List.set_cons_zero]
          refine wpAnyH_ready (rs := [22]) (by kernel_rfl) (by simp) ?_
          refine AllReadyH.cons (o := _) rfl (fun K hK => ?_) AllReadyH.nil
          go_simp
          refine (HL2.out _ _ hS7 SX).mono ?_
          rintro e wx8 ⟨rfl, kx8⟩
          go_wp2_with fail
          have hS8 := hS7.trans kx8
          clear SX
          refine hK.out _ _ hS8 (fun hHeld => ?_)
          clear hK K
          try simp only [Act.put, List.setIfInBounds_toArray, List.set_cons_succ, List.set_cons_zero]
          refine wpAnyH_ready (rs := [25]) (by kernel_rfl) (by simp) ?_
          refine AllReadyH.cons (o := _) rfl (fun K hK => ?_) AllReadyH.nil
          go_simp
          refine (HQD.out _ (KU2.out.trans hS8)).mono ?_
          rintro e wx9 ⟨vy, rfl, hby, kx9⟩
          go_wp2_with fail
          have hS9 := hS8.trans kx9
          have SY : Stp wx9 vy ld := ⟨hby.rd, fun k e => (hby.lt k e).2⟩
          clear hby
          refine hK.out _ _ hS9 (fun hHeld => ?_)
          clear hK K
          try simp only [Act.put, List.setIfInBounds_toArray, List.set_cons_succ, List.set_cons_zero]
          refine wpAnyH_ready (rs := [26]) (by kernel_rfl) (by simp) ?_
          refine AllReadyH.cons (o := _) rfl (fun K hK => ?_) AllReadyH.nil
          go_simp
          refine (HL3.out _ _ hS9 SY).mono ?_
          rintro e wx10 ⟨rfl, kx10⟩
          go_wp2_with fail
          have hS10 := hS9.trans kx10
          clear SY
          refine hK.out _ _ hS10 (fun hHeld => ?_)
          clear hK K
          try simp only [Act.put, List.setIfInBounds_toArray, List.set_cons_succ, List.set_cons_zero]
          refine wpAnyH_take (i := 27) (oi := ⟨some 91, _, _, _, _, _⟩) (v := .bool true) rfl (by kernel_rfl) (by kernel_rfl) (by kernel_rfl) (fun _ _ _ h => h) (Or.inl ⟨by kernel_rfl, fun w' hS => by go_simp⟩) (by assumption) ?_
          try simp only [Act.put, List.setIfInBounds_toArray, List.set_cons_succ, List.set_cons_zero]
          refine wpAnyH_take (i := 28) (oi := ⟨some 92, _, _, _, _, _⟩) (v := .bool true) rfl (by kernel_rfl) (by kernel_rfl) (by kernel_rfl) (fun _ _ _ h => h) (Or.inl ⟨by kernel_rfl, fun w' hS => by go_simp⟩) (by assumption) ?_
          try simp only [Act.put, List.setIfInBounds_toArray, List.set_cons_succ, List.set_cons_zero]
          refine wpAnyH_take (i := 29) (oi := ⟨some 93, _, _, _, _, _⟩) (v := .bool true) rfl (by kernel_rfl) (by kernel_rfl) (by kernel_rfl) (fun _ _ _ h => h) (Or.inl ⟨by kernel_rfl, fun w' hS => by go_simp⟩) (by assumption) ?_
          try simp only [Act.put, List.setIfInBounds_toArray, List.set_cons_succ, List.set_cons_zero]
          refine wpAnyH_take (i := 30) (oi := ⟨some 94, _, _, _, _, _⟩) (v := .slice a rs.length c) rfl (by kernel_rfl) (by kernel_rfl) (by kernel_rfl) (fun _ _ _ h => h) (Or.inl ⟨by kernel_rfl, fun w' hS => by go_simp⟩) (by assumption) ?_
          try simp only [Act.put, List.setIfInBounds_toArray, List.set_cons_succ, List.set_cons_zero]
          refine wpAnyH_take (i := 31) (oi := ⟨some 95, _, _, _, _, _⟩) (v := .int .i64 a3) rfl (by kernel_rfl) (by kernel_rfl) (by kernel_rfl) (fun _ _ _ h => h) (Or.inl ⟨by kernel_rfl, fun w' hS => by go_simp⟩) (by assumption) ?_
          try simp only [Act.put, List.setIfInBounds_toArray, List.set_cons_succ, List.set_cons_zero]
          refine wpAnyH_take (i := 33) (oi := ⟨some 97, _, _, _, _, _⟩) (v := .slice a rs.length c) rfl (by kernel_rfl) (by kernel_rfl) (by kernel_rfl) (fun _ _ _ h => h) (Or.inl ⟨by kernel_rfl, fun w' hS => by go_simp⟩) (by assumption) ?_
          try simp only [Act.put, List.setIfInBounds_toArray, List.set_cons_succ, List.set_cons_zero]
          refine wpAnyH_take (i := 34) (oi := ⟨some 98, _, _, _, _, _⟩) (v := .int .i64 a3) rfl (by kernel_rfl) (by kernel_rfl) (by kernel_rfl) (fun _ _ _ h => h) (Or.inl ⟨by kernel_rfl, fun w' hS => by go_simp⟩) (by assumption) ?_
          try simp only [Act.put, List.setIfInBounds_toArray, List.set_cons_succ, List.set_cons_zero]
          refine wpAnyH_ready (rs := [32]) (by kernel_rfl) (by simp) ?_
          refine AllReadyH.cons (o := _) rfl (fun K hK => ?_) AllReadyH.nil
          go_simp
          refine (HON.out _ (KW2.out.trans hS10)).mono ?_
          rintro e wx11 ⟨vr, rfl, hbr, kx11⟩
          go_wp2_with fail
          have hS11 := hS10.trans kx11
          have R1 := only_holds hbr (HRI.out _ (KW2.out.trans hS11)) HRL.out
          clear hbr
          refine hK.out _ _ hS11 (fun hHeld => ?_)
          clear hK K
          try simp only [Act.put, List.setIfInBounds_toArray, List.set_cons_succ, List.set_cons_zero]
          refine wpAnyH_ready (rs := [35]) (by kernel_rfl) (by simp) ?_
          refine AllReadyH.cons (o := _) rfl (fun K hK => ?_) AllReadyH.nil
          go_simp
          refine (HRN.out _ (KW2.out.trans hS11)).mono ?_
          rintro e wx12 ⟨vs, rfl, hbs, kx12⟩
          go_wp2_with fail
          have hS12 := hS11.trans kx12
          have R2 := only_holds hbs (HRI.out _ (KW2.out.trans hS12)) HRL.out
          have R3 := R1.kept kx12
          clear hbs R1
          refine hK.out _ _ hS12 (fun hHeld => ?_)
          clear hK K
          try simp only [Act.put, List.setIfInBounds_toArray, List.set_cons_succ, List.set_cons_zero]
          refine wpAnyH_ready (rs := [36]) (by kernel_rfl) (by simp) ?_
          refine AllReadyH.cons (o := _) rfl (fun K hK => ?_) AllReadyH.nil
          go_simp
          refine (HRC.out _ _ _ R3 R2).mono ?_
          rintro e wx13 ⟨rfl, kx13⟩
          go_wp2_with fail
          have hS13 := hS12.trans kx13
          clear R2 R3
          refine hK.out _ _ hS13 (fun hHeld => ?_)
          clear hK K
          try simp only [Act.put, List.setIfInBounds_toArray, List.set_cons_succ, List.set_cons_zero]
          refine wpAnyH_take (i := 37) (oi := ⟨some 101, _, _, _, _, _⟩) (v := .bool true) rfl (by kernel_rfl) (by kernel_rfl) (by kernel_rfl) (fun _ _ _ h => h) (Or.inl ⟨by kernel_rfl, fun w' hS => by go_simp⟩) (by assumption) ?_
          try simp only [Act.put, List.setIfInBounds_toArray, List.set_cons_succ, List.set_cons_zero]
          refine wpAnyH_take (i := 38) (oi := ⟨some 8, _, _, _, _, _⟩) (v := .bool true) rfl (by kernel_rfl) (by kernel_rfl) (by kernel_rfl) (fun _ _ _ h => h) (Or.inl ⟨by kernel_rfl, fun w' hS => by go_simp⟩) (by assumption) ?_
          try simp only [Act.put, List.setIfInBounds_toArray, List.set_cons_succ, List.set_cons_zero]
          refine wpAnyH_done (by kernel_rfl) ?_ _
          have KF := Lib.hid (KW2.out.trans hS13)
          clear kx3 kx4 kx5 kx6 kx7 kx8 kx9 kx10 kx11 kx12 kx13 hS3 hS4 hS5 hS6 hS7 hS8 hS9 hS10 hS11 hS12 hS13 hd
          go_wp2_with fail
          go_ret
          exact ⟨rfl, KF.out.below (Nat.le_refl _) (fun k h => h.elim)⟩
set_option maxRecDepth 100000 in
theorem lifted (os : Os) (started : os.Started) (H : Type) (enc : TypeId × Value → H) :
    ReturnsInHanded {} Try.checked os 8 .any (Rows.bookReportsSpec.pre6 enc Try.prog Try.f8 Rows.bookReportsRow.domain false) (Rows.bookReportsSpec.post enc Try.prog Try.f8 false true false false) := by
  refine returnsInHanded_of_change (C := Try.checked) own started (by kernel_rfl) Try.func8
    (ChangeSpec.witness6 (enc := enc) (C := Try.checked) false ⟨#[], #[.slice none 0 0, .slice none 0 0, .int .i64 0, .int .i64 0], []⟩ 8 (by kernel_rfl) (by kernel_rfl) (by kernel_rfl) (by kernel_rfl)) ?_
  intro W base args ds gs before hval0 hW hcnd _
  have hval : ∀ (j : Nat) t v, Try.f8.params[j]? = some t → args[j]? = some v → Value.okWide Try.prog W .any base t v := hval0
  have hW' := hW
  obtain ⟨p, q, hA0, hV, rfl, hfz, hnd⟩ := hW
  have hA : DataW.TrodAll enc Try.prog W 0 (fun _ => true) true Try.f8.params.toList args.toList ds p := hA0
  rw [Try.params8] at hA hval
  obtain ⟨v0, vs0, d0, ds0, p0, q0, hargs, rfl, rfl, h0, r0⟩ := trodAll_cons hA
  obtain ⟨v1, vs1, d1, ds1, p1, q1, rfl, rfl, rfl, h1, r1⟩ := trodAll_cons r0
  obtain ⟨v2, vs2, d2, ds2, p2, q2, rfl, rfl, rfl, h2, r2⟩ := trodAll_cons r1
  obtain ⟨v3, vs3, d3, ds3, p3, q3, rfl, rfl, rfl, h3, r3⟩ := trodAll_cons r2
  obtain ⟨rfl, rfl, rfl⟩ := trodAll_nil r3
  obtain rfl : args = #[v0, v1, v2, v3] := by cases args; simp_all
  obtain ⟨rfl, rfl⟩ := trodVars_none hV
  have k0 := h0
  have lt0 : ∀ x ∈ p0, x.block < W.heap.size := by obtain ⟨m, hm⟩ := k0; exact DataW.trod_lt m _ _ _ hm
  have w0 := IsRecs.of (hval 0 49 v0 rfl rfl) h0
  have k1 := h1
  have lt1 : ∀ x ∈ p1, x.block < W.heap.size := by obtain ⟨m, hm⟩ := k1; exact DataW.trod_lt m _ _ _ hm
  have w1 := IsRecs.of (hval 1 49 v1 rfl rfl) h1
  obtain ⟨a2, rfl, rfl, rfl, w2⟩ := open_int Try.underlying3 (hval 2 3 v2 rfl rfl) h2
  obtain ⟨a3, rfl, rfl, rfl, w3⟩ := open_int Try.underlying3 (hval 3 3 v3 rfl rfl) h3
  clear hA0 hval0
  refine (walk W v0 w0 v1 w1 a2 w2 a3 w3).mono fun e W' ⟨he, bel⟩ => ?_
  subst he
  exact ⟨_, rfl, _, _, _, [], _, [], hW', trodAll_mk1 (shut_bool Try.underlying4 _), (trodAll_cons_mk (Below.trod laidOut (by kernel_rfl) (of_decide_eq_true (by kernel_rfl)) k0 bel lt0) (trodAll_cons_mk (Below.trod laidOut (by kernel_rfl) (of_decide_eq_true (by kernel_rfl)) k1 bel lt1) (trodAll_cons_mk (shut_int Try.underlying3 w2) (trodAll_cons_mk (shut_int Try.underlying3 w3) trodAll_mk0)))), rfl, bel.frame _, fun h => by cases h⟩

theorem over : Rows.bookReportsRow.holds Try.pinned (OpenSpec.ofChange Rows.bookReportsSpec) :=
  OpenClaim.holds_of_wide 8 Try.f8 rfl rfl rfl rfl rfl rfl rfl ⟨rfl, rfl, rfl, rfl, rfl⟩ rfl rfl rfl rfl rfl (by kernel_rfl) Try.func8 (by kernel_rfl)
    (of_decide_eq_true (by kernel_rfl)) (by unfold Func.isWrapper; first | (rw [if_pos (by decide +kernel)]; kernel_rfl) | (rw [if_neg (by decide +kernel)]; exact ⟨rfl, rfl⟩))
    (fun os started H enc _ => lifted os started H enc)

theorem proved : Rows.BookReportsSaid := over
#print axioms proved
end Go.Proofs.Ytklmhegmombegaa.bookReports
