/-
  The contract of the reference's Sign (28). Conditions: as each theorem says.
-/
import Derived.Test.YtklmhegmombegaaDoorRsI
import Derived.Test.YtklmhegmombegaaDoorSignA
set_option linter.unusedVariables false
set_option linter.unusedSimpArgs false
set_option maxRecDepth 100000
namespace Go.Proofs.YtklmhegmombegaaDoor
open Go Go.RowKit Plain
open Go.Proofs.YtklmhegmombegaaDoor.Re (wi wi_true wi_false)
theorem kSigns_eq (k : Ky) (wit n : Int) : kSigns k wit n = (kMay k && (!decide (wit < 0) && (!decide ((k.wits.length : Int) ≤ wit) && (!decide (n < 0) && !decide (400 < n))))) := by
  simp only [kSigns, wi, Bool.and_assoc, ← decide_not]
  congr 2
  · exact decide_eq_decide.2 (by omega)
  · congr 1
    · exact decide_eq_decide.2 (by omega)
    · congr 1
      · exact decide_eq_decide.2 (by omega)
      · exact decide_eq_decide.2 (by omega)
set_option maxHeartbeats 8000000 in
theorem f_rsign (pv wv sv : Value) (k : Ky) (wit n : Int) (C : Array Value) (root : List Nat) (w : World) (hL : Laid w) (h : KyIn w pv wv k) (hp : PtIn C n root sv) (hw : W64 wit) :
    Calls Tryd.prog 28 #[.agg #[pv, wv, .int .i64 k.need], .int .i64 wit, .agg C] w (RPost (.agg (ints .u8 (kSign k wit n root))) w) := by
  obtain ⟨i5, h5i, hsz, hby, hz⟩ := info5'
  have k1 := (((Kept.refl (fun _ => False) w).alloc (.cells #[pv, wv, .int .i64 k.need] 24)).alloc (.cells C 40)).alloc (.cells Z26 26)
  obtain ⟨g1, g2, g3⟩ := heap_alloc3 w (.cells #[pv, wv, .int .i64 k.need] 24) (.cells C 40) (.cells Z26 26)
  have HIn := Lib.hid (h.kept k1)
  have HL := Lib.hid (hL.kept k1)
  have HP := Lib.hid hp
  have HPZ := Lib.hid hp.size
  have HM := Lib.hid (f_rmay pv wv k _ (h.kept k1))
  obtain ⟨wa, wcp, rfl⟩ := h.wits.form
  have G1 := Lib.hid g1
  have G2 := Lib.hid g2
  have G3 := Lib.hid g3
  have K1 := Lib.hid k1
  have hzo : Hid (Z26.all (·.oneCell') = true) := by show _ = _; rw [z26_ints]; exact ints_one _ _
  have hl3 := h.wits.len
  clear h k1 hL hp g1 g2 g3
  have hse := kSigns_eq k wit n
  cases hs : kSigns k wit n with
  | false =>
    have E : Hid (ints .u8 (kSign k wit n root) = Z26) := by show _ = _; rw [kSign, if_neg (by rw [hs]; decide), z26_ints]
    rw [E.out]
    rw [hs] at hse
    clear hs E
    cases hm : kMay k with
    | false =>
      rw [hm] at HM
      clear hm hse
      go_enter Tryd.func28, Tryd.ntmps28
      go_upto_region 1 with (first | fail | (with_reducible refine alloc26 ?_))
      generalize ((w.alloc (.cells #[pv, .slice wa k.wits.length wcp, .int .i64 k.need] 24)).alloc (.cells C 40)).alloc (.cells Z26 26) = w1 at *
      have c0 := row_cell (k := 0) G1.out rfl
      have c1 := row_cell (k := 1) G1.out rfl
      have c2 := row_cell (k := 2) G1.out rfl
      go_wp2_with fail
      refine HM.out.mono ?_
      rintro e w2 ⟨rfl, k2⟩
      have G1z := Lib.hid (k2.row G1.out)
      have G2z := Lib.hid (k2.row G2.out)
      have G3z := Lib.hid (k2.row G3.out)
      have K2 := Lib.hid (K1.out.trans k2)
      have HI2 := Lib.hid (HIn.out.kept k2)
      have HL2 := Lib.hid (HL.out.kept k2)
      clear k2 c0 c1 c2 G1 G2 G3 K1 HIn HL HM
      have c1 := row_cell (k := 1) G1z.out rfl
      have d0 := row_cell G2z.out HP.out.c0
      go_wp2_with (first | fail | (with_reducible refine build26 ?_) | ((with_reducible refine store26 (C := Z26) ?_ ?_ G3z.out Z26_size Z26_size hzo.out ?_); rfl; rfl))
      exact bodyPost_ret (results_26 rfl _ _ _ (setRow_heap _ _ _ _ _ _ G3z.out) Z26_size rfl) rfl (RPost.mk rfl (K2.out.setRow (by omega) _))
    | true =>
      rw [hm] at HM hse
      clear hm
      cases d1 : decide (wit < 0) with
      | true =>
        clear hse
        go_enter Tryd.func28, Tryd.ntmps28
        go_upto_region 1 with (first | fail | (with_reducible refine alloc26 ?_))
        generalize ((w.alloc (.cells #[pv, .slice wa k.wits.length wcp, .int .i64 k.need] 24)).alloc (.cells C 40)).alloc (.cells Z26 26) = w1 at *
        have c0 := row_cell (k := 0) G1.out rfl
        have c1 := row_cell (k := 1) G1.out rfl
        have c2 := row_cell (k := 2) G1.out rfl
        go_wp2_with fail
        refine HM.out.mono ?_
        rintro e w2 ⟨rfl, k2⟩
        have G1z := Lib.hid (k2.row G1.out)
        have G2z := Lib.hid (k2.row G2.out)
        have G3z := Lib.hid (k2.row G3.out)
        have K2 := Lib.hid (K1.out.trans k2)
        have HI2 := Lib.hid (HIn.out.kept k2)
        have HL2 := Lib.hid (HL.out.kept k2)
        clear k2 c0 c1 c2 G1 G2 G3 K1 HIn HL HM
        have c1 := row_cell (k := 1) G1z.out rfl
        have d0 := row_cell G2z.out HP.out.c0
        go_wp2_with (first | fail | (with_reducible refine build26 ?_) | ((with_reducible refine store26 (C := Z26) ?_ ?_ G3z.out Z26_size Z26_size hzo.out ?_); rfl; rfl))
        exact bodyPost_ret (results_26 rfl _ _ _ (setRow_heap _ _ _ _ _ _ G3z.out) Z26_size rfl) rfl (RPost.mk rfl (K2.out.setRow (by omega) _))
      | false =>
        cases d2 : decide ((k.wits.length : Int) ≤ wit) with
        | true =>
          clear hse
          go_enter Tryd.func28, Tryd.ntmps28
          go_upto_region 1 with (first | fail | (with_reducible refine alloc26 ?_))
          generalize ((w.alloc (.cells #[pv, .slice wa k.wits.length wcp, .int .i64 k.need] 24)).alloc (.cells C 40)).alloc (.cells Z26 26) = w1 at *
          have c0 := row_cell (k := 0) G1.out rfl
          have c1 := row_cell (k := 1) G1.out rfl
          have c2 := row_cell (k := 2) G1.out rfl
          go_wp2_with fail
          refine HM.out.mono ?_
          rintro e w2 ⟨rfl, k2⟩
          have G1z := Lib.hid (k2.row G1.out)
          have G2z := Lib.hid (k2.row G2.out)
          have G3z := Lib.hid (k2.row G3.out)
          have K2 := Lib.hid (K1.out.trans k2)
          have HI2 := Lib.hid (HIn.out.kept k2)
          have HL2 := Lib.hid (HL.out.kept k2)
          clear k2 c0 c1 c2 G1 G2 G3 K1 HIn HL HM
          have c1 := row_cell (k := 1) G1z.out rfl
          have d0 := row_cell G2z.out HP.out.c0
          go_wp2_with (first | fail | (with_reducible refine build26 ?_) | ((with_reducible refine store26 (C := Z26) ?_ ?_ G3z.out Z26_size Z26_size hzo.out ?_); rfl; rfl))
          exact bodyPost_ret (results_26 rfl _ _ _ (setRow_heap _ _ _ _ _ _ G3z.out) Z26_size rfl) rfl (RPost.mk rfl (K2.out.setRow (by omega) _))
        | false =>
          cases d3 : decide (n < 0) with
          | true =>
            clear hse
            go_enter Tryd.func28, Tryd.ntmps28
            go_upto_region 1 with (first | fail | (with_reducible refine alloc26 ?_))
            generalize ((w.alloc (.cells #[pv, .slice wa k.wits.length wcp, .int .i64 k.need] 24)).alloc (.cells C 40)).alloc (.cells Z26 26) = w1 at *
            have c0 := row_cell (k := 0) G1.out rfl
            have c1 := row_cell (k := 1) G1.out rfl
            have c2 := row_cell (k := 2) G1.out rfl
            go_wp2_with fail
            refine HM.out.mono ?_
            rintro e w2 ⟨rfl, k2⟩
            have G1z := Lib.hid (k2.row G1.out)
            have G2z := Lib.hid (k2.row G2.out)
            have G3z := Lib.hid (k2.row G3.out)
            have K2 := Lib.hid (K1.out.trans k2)
            have HI2 := Lib.hid (HIn.out.kept k2)
            have HL2 := Lib.hid (HL.out.kept k2)
            clear k2 c0 c1 c2 G1 G2 G3 K1 HIn HL HM
            have c1 := row_cell (k := 1) G1z.out rfl
            have d0 := row_cell G2z.out HP.out.c0
            go_wp2_with (first | fail | (with_reducible refine build26 ?_) | ((with_reducible refine store26 (C := Z26) ?_ ?_ G3z.out Z26_size Z26_size hzo.out ?_); rfl; rfl))
            exact bodyPost_ret (results_26 rfl _ _ _ (setRow_heap _ _ _ _ _ _ G3z.out) Z26_size rfl) rfl (RPost.mk rfl (K2.out.setRow (by omega) _))
          | false =>
            have d4 : decide (400 < n) = true := by rw [d1, d2, d3] at hse; simpa using hse
            clear hse
            go_enter Tryd.func28, Tryd.ntmps28
            go_upto_region 1 with (first | fail | (with_reducible refine alloc26 ?_))
            generalize ((w.alloc (.cells #[pv, .slice wa k.wits.length wcp, .int .i64 k.need] 24)).alloc (.cells C 40)).alloc (.cells Z26 26) = w1 at *
            have c0 := row_cell (k := 0) G1.out rfl
            have c1 := row_cell (k := 1) G1.out rfl
            have c2 := row_cell (k := 2) G1.out rfl
            go_wp2_with fail
            refine HM.out.mono ?_
            rintro e w2 ⟨rfl, k2⟩
            have G1z := Lib.hid (k2.row G1.out)
            have G2z := Lib.hid (k2.row G2.out)
            have G3z := Lib.hid (k2.row G3.out)
            have K2 := Lib.hid (K1.out.trans k2)
            have HI2 := Lib.hid (HIn.out.kept k2)
            have HL2 := Lib.hid (HL.out.kept k2)
            clear k2 c0 c1 c2 G1 G2 G3 K1 HIn HL HM
            have c1 := row_cell (k := 1) G1z.out rfl
            have d0 := row_cell G2z.out HP.out.c0
            go_wp2_with (first | fail | (with_reducible refine build26 ?_) | ((with_reducible refine store26 (C := Z26) ?_ ?_ G3z.out Z26_size Z26_size hzo.out ?_); rfl; rfl))
            exact bodyPost_ret (results_26 rfl _ _ _ (setRow_heap _ _ _ _ _ _ G3z.out) Z26_size rfl) rfl (RPost.mk rfl (K2.out.setRow (by omega) _))
  | true =>
    clear hse
    obtain ⟨hm, hw0, hw1, hn0, hn1⟩ := kSigns_iff hs
    obtain ⟨i, rfl⟩ : ∃ i : Nat, wit = i := ⟨wit.toNat, by omega⟩
    have hi : i < k.wits.length := by omega
    have E : Hid (kSign k i n root = tagOf k.wits[i] (3 :: ptText n root)) := by
      show _ = _
      rw [kSign, if_pos hs, Int.toNat_natCast, List.getD_eq_getElem?_getD, List.getElem?_eq_getElem hi]; rfl
    rw [hm] at HM
    rw [E.out]
    obtain ⟨m, rfl⟩ : ∃ m : Nat, n = m := ⟨n.toNat, by omega⟩
    have hm400 : m ≤ 400 := by omega
    have d1 : decide ((i : Int) < 0) = false := decide_eq_false (by omega)
    have d2 : decide ((k.wits.length : Int) ≤ (i : Int)) = false := decide_eq_false (by omega)
    have d3 : decide ((m : Int) < 0) = false := decide_eq_false (by omega)
    have d4 : decide (400 < (m : Int)) = false := decide_eq_false (by omega)
    have hroot := Lib.hid (show root.length = 32 ∧ All8 root from ⟨HP.out.rl, HP.out.r8⟩)
    have htx : ptText (m : Int) root = macOf 6 [numB m, root] := by rw [ptText, Int.toNat_natCast]
    have HTX := Lib.hid htx
    have htz := Lib.hid (show (ptText m root).length = 32 from sha_len _)
    have ht8 := Lib.hid (show All8 (ptText m root) from sha_all _)
    have hts := Lib.hid (show (ints .u8 (ptText m root)).size = 32 by rw [ints_size]; exact sha_len _)
    have hto := Lib.hid (ints_one .u8 (ptText m root))
    generalize htxe : ptText (m : Int) root = tx at *
    clear hs hm E hn0 hn1 htx
    go_enter Tryd.func28, Tryd.ntmps28
    go_upto_region 1 with (first | fail | (with_reducible refine alloc26 ?_))
    generalize ((w.alloc (.cells #[pv, .slice wa k.wits.length wcp, .int .i64 k.need] 24)).alloc (.cells C 40)).alloc (.cells Z26 26) = w1 at *
    have c0 := row_cell (k := 0) G1.out rfl
    have c1 := row_cell (k := 1) G1.out rfl
    have c2 := row_cell (k := 2) G1.out rfl
    go_wp2_with fail
    refine HM.out.mono ?_
    rintro e w2 ⟨rfl, k2⟩
    have G1z := Lib.hid (k2.row G1.out)
    have G2z := Lib.hid (k2.row G2.out)
    have G3z := Lib.hid (k2.row G3.out)
    have K2 := Lib.hid (K1.out.trans k2)
    have HI2 := Lib.hid (HIn.out.kept k2)
    have HL2 := Lib.hid (HL.out.kept k2)
    clear k2 c0 c1 c2 G1 G2 G3 K1 HIn HL HM
    have c1 := row_cell (k := 1) G1z.out rfl
    have d0 := row_cell G2z.out HP.out.c0
    go_upto_region 3 with (fail)
    clear c1 d0 d1 d2 d3 d4
    go_cut [7] (fun s7 wx => ∃ g7 : Nat, s7 = .pointer (some ⟨g7, 0, none⟩) ∧ Hid (wx.heap[g7]? = some (.cells (ints .u8 tx) 26 (0, 0))) ∧ Hid (wx.heap[w.heap.size]? = some (.cells #[pv, .slice wa k.wits.length wcp, .int .i64 k.need] 24 (0, 0))) ∧ Hid (wx.heap[w.heap.size + 1 + 1]? = some (.cells Z26 26 (0, 0))) ∧ Hid (KyIn wx pv (.slice wa k.wits.length wcp) k) ∧ Hid (Laid wx) ∧ Hid (Kept (fun _ => False) w wx))
    case first =>
      have k2d := (Kept.refl (fun _ => False) w2).drew
      have GA3 := Lib.hid (k2d.row G1z.out)
      have GC3 := Lib.hid (k2d.row G3z.out)
      have K3 := Lib.hid (K2.out.trans k2d)
      have HI3 := Lib.hid (HI2.out.kept k2d)
      have HL3 := Lib.hid (HL2.out.kept k2d)
      have GB3 := Lib.hid (k2d.row G2z.out)
      clear G1z G2z G3z K2 HI2 HL2
      refine wp_region_held_drew (S := fun w' => Kept (fun _ => False) w2.drew w') (by kernel_rfl) (Kept.refl _ _) (fun hHeld => ?_)
      generalize w2.drew = w3 at *
      have hS3 := Kept.refl (fun _ => False) w3
      clear k2d
      refine wpAnyH_take (i := 0) (oi := ⟨some 33, _, _, _, _, _⟩) (v := .pointer (some ⟨w.heap.size + 1, 0, none⟩)) rfl (by kernel_rfl) (by kernel_rfl) (by kernel_rfl) (fun _ _ _ h => h) (Or.inl ⟨by kernel_rfl, fun w' hS => by go_simp⟩) (by assumption) ?_
      try simp only [Act.put, List.setIfInBounds_toArray, List.set_cons_succ, List.set_cons_zero]
      refine wpAnyH_take (i := 1) (oi := ⟨some 34, _, _, _, _, _⟩) (v := .int .i64 m) rfl (by kernel_rfl) (by kernel_rfl) (by kernel_rfl) (fun _ _ _ h => h) (Or.inl ⟨by kernel_rfl, fun w' hS => by have c := row_cell (hS.row GB3.out) HP.out.c0; go_simp⟩) (by assumption) ?_
      try simp only [Act.put, List.setIfInBounds_toArray, List.set_cons_succ, List.set_cons_zero]
      refine wpAnyH_take (i := 3) (oi := ⟨some 36, _, _, _, _, _⟩) (v := .pointer (some ⟨w.heap.size + 1, 1, none⟩)) rfl (by kernel_rfl) (by kernel_rfl) (by kernel_rfl) (fun _ _ _ h => h) (Or.inl ⟨by kernel_rfl, fun w' hS => by go_simp⟩) (by assumption) ?_
      try simp only [Act.put, List.setIfInBounds_toArray, List.set_cons_succ, List.set_cons_zero]
      refine wpAnyH_take (i := 4) (oi := ⟨some 37, _, _, _, _, _⟩) (v := .slice (some ⟨w.heap.size + 1, 1, none⟩) 32 32) rfl (by kernel_rfl) (by kernel_rfl) (by kernel_rfl) (fun _ _ _ h => h) (Or.inl ⟨by kernel_rfl, fun w' hS => by go_simp⟩) (by assumption) ?_
      try simp only [Act.put, List.setIfInBounds_toArray, List.set_cons_succ, List.set_cons_zero]
      refine wpAnyH_ready (rs := [2, 7]) (by kernel_rfl) (by simp) ?_
      refine AllReadyH.cons (o := _) rfl (fun K hK => ?_) (AllReadyH.cons (o := _) rfl (fun K hK => ?_) (AllReadyH.nil))
      · skip
        go_simp
        refine (f_rnum m w3 (by omega)).mono ?_
        rintro e w4 ⟨v2, rfl, hb2, k2⟩
        have HB4 := Lib.hid (Buf.bytes hb2 (numB_all (n := m) (by omega)))
        obtain ⟨a2, c2, rfl, -, -⟩ := hb2.form
        have hS4 := hS3.trans k2
        clear hb2 k2 hS3
        go_wp2_with fail
        refine hK.out _ _ hS4 (fun hHeld => ?_)
        clear hK K
        try simp only [Act.put, List.setIfInBounds_toArray, List.set_cons_succ, List.set_cons_zero]
        refine wpAnyH_ready (rs := [5, 7]) (by kernel_rfl) (by simp) ?_
        refine AllReadyH.cons (o := _) rfl (fun K hK => ?_) (AllReadyH.cons (o := _) rfl (fun K hK => ?_) (AllReadyH.nil))
        · skip
          have k5 := (Kept.refl (fun _ => False) w4).alloc (.cells #[.slice a2 (numB m).length c2, .slice (some ⟨w.heap.size + 1, 1, none⟩) 32 32] 28)
          have HRT : HBytes w4 (.slice (some ⟨w.heap.size + 1, 1, none⟩) 32 32) root := by
            have h := HBytes.part (hS4.row GB3.out) HP.out.rt HP.out.r8 (by rw [HP.out.rl]; decide) 32
            rwa [HP.out.rl] at h
          have HP5 : Hid (HParts (w4.alloc (.cells #[.slice a2 (numB m).length c2, .slice (some ⟨w.heap.size + 1, 1, none⟩) 32 32] 28)) (.slice (some ⟨w4.heap.size, 0, none⟩) 2 2) [(.slice a2 (numB m).length c2, numB m), (.slice (some ⟨w.heap.size + 1, 1, none⟩) 32 32, root)]) :=
            HParts.of_block (ps := [(.slice a2 (numB m).length c2, numB m), (.slice (some ⟨w.heap.size + 1, 1, none⟩) 32 32, root)]) (heap_alloc_new w4 _) rfl (by simp) (fun p hp => by
              rcases List.mem_cons.1 hp with rfl | hp
              · exact HB4.out.kept k5
              · obtain rfl := List.mem_singleton.1 hp
                exact HRT.kept k5) (by simp; decide) 2
          clear HRT HB4
          go_simp
          generalize w4.heap.size = g5 at *
          generalize w4.alloc (.cells #[.slice a2 (numB m).length c2, .slice (some ⟨w.heap.size + 1, 1, none⟩) 32 32] 28) = w5 at *
          have hS5 := hS4.trans k5
          clear k5 hS4
          refine hK.out _ _ hS5 (fun hHeld => ?_)
          clear hK K
          try simp only [Act.put, List.setIfInBounds_toArray, List.set_cons_succ, List.set_cons_zero]
          refine wpAnyH_ready (rs := [6, 7]) (by kernel_rfl) (by simp) ?_
          refine AllReadyH.cons (o := _) rfl (fun K hK => ?_) (AllReadyH.cons (o := _) rfl (fun K hK => ?_) (AllReadyH.nil))
          · skip
            have HF := f_rof 6 _ _ w5 (HL3.out.kept hS5) (by decide) HP5.out (by simp) (by
              have := numB_len m
              simp only [List.flatMap_cons, List.flatMap_nil, List.length_append, lenB_len, hroot.out.1, List.length_nil]; omega)
            rw [show List.map (fun x : Value × List Nat => x.2) [((.slice a2 (numB m).length c2), numB m), (.slice (some ⟨w.heap.size + 1, 1, none⟩) 32 32, root)] = [numB m, root] from rfl, ← HTX.out] at HF
            have HFH := Lib.hid HF
            clear HF
            go_simp
            refine HFH.out.mono ?_
            rintro e w6 ⟨rfl, k6⟩
            clear HP5 HFH
            have hS6 := hS5.trans k6
            clear k6 hS5
            go_wp2_with fail
            refine hK.out _ _ hS6 (fun hHeld => ?_)
            clear hK K
            try simp only [Act.put, List.setIfInBounds_toArray, List.set_cons_succ, List.set_cons_zero]
            refine wpAnyH_ready (rs := [7]) (by kernel_rfl) (by simp) ?_
            refine AllReadyH.cons (o := _) rfl (fun K hK => ?_) AllReadyH.nil
            refine step_alloc26 (by kernel_rfl) ?_
            have k7 := (Kept.refl (fun _ => False) w6).alloc (.cells Z26 26)
            have zz := heap_alloc_new w6 (.cells Z26 26)
            have hgs0 := hS6.size
            generalize hg7 : w6.heap.size = g7 at zz hgs0 ⊢
            have hgs : w3.heap.size ≤ g7 := by first | exact hgs0 | exact Nat.le_of_eq hg7
            clear hgs0 hg7
            generalize w6.alloc (.cells Z26 26) = w7 at *
            have hS7 := hS6.trans k7
            have Z7 := Lib.hid zz
            have HGS := Lib.hid hgs
            clear k7 zz hgs hS6
            refine hK.out _ _ hS7 (fun hHeld => ?_)
            clear hK K
            try simp only [Act.put, List.setIfInBounds_toArray, List.set_cons_succ, List.set_cons_zero]
            refine wpAnyH_ready (rs := [8]) (by kernel_rfl) (by simp) ?_
            refine AllReadyH.cons (o := _) rfl (fun K hK => ?_) AllReadyH.nil
            refine step_store26 (C := ints .u8 tx) (g := g7) (o := 0) (by kernel_rfl) rfl rfl hts.out hto.out Z7.out (by rw [Z26_size]; decide) ?_
            intro wn Yn kn
            rw [puts_all (by rw [Z26_size, hts.out])] at Yn
            have HYN := Lib.hid Yn
            have hSN : Kept (fun _ => False) w3 wn := hS7.trans' kn (fun i hi e => by have := HGS.out; omega)
            clear Yn kn hS7
            refine hK.out _ _ hSN (fun hHeld => ?_)
            clear hK K
            try simp only [Act.put, List.setIfInBounds_toArray, List.set_cons_succ, List.set_cons_zero]
            refine wpAnyH_done (by kernel_rfl) ?_ _
            have HSN := Lib.hid hSN
            clear hSN
            go_wp2_with fail
            go_meet
            exact ⟨g7, rfl, HYN, HSN.out.row GA3.out, HSN.out.row GC3.out, HI3.out.kept HSN.out, HL3.out.kept HSN.out, K3.out.trans HSN.out⟩
          · skip
            refine step_alloc26 (by kernel_rfl) ?_
            have k7 := (Kept.refl (fun _ => False) w5).alloc (.cells Z26 26)
            have zz := heap_alloc_new w5 (.cells Z26 26)
            have hgs0 := hS5.size
            generalize hg7 : w5.heap.size = g7 at zz hgs0 ⊢
            have hgs : w3.heap.size ≤ g7 := by first | exact hgs0 | exact Nat.le_of_eq hg7
            clear hgs0 hg7
            generalize w5.alloc (.cells Z26 26) = w6 at *
            have hS6 := hS5.trans k7
            have HP6 := Lib.hid (HP5.out.kept k7)
            clear HP5
            have Z6 := Lib.hid zz
            have HGS := Lib.hid hgs
            clear k7 zz hgs hS5
            refine hK.out _ _ hS6 (fun hHeld => ?_)
            clear hK K
            try simp only [Act.put, List.setIfInBounds_toArray, List.set_cons_succ, List.set_cons_zero]
            refine wpAnyH_ready (rs := [6]) (by kernel_rfl) (by simp) ?_
            refine AllReadyH.cons (o := _) rfl (fun K hK => ?_) AllReadyH.nil
            have HF := f_rof 6 _ _ w6 (HL3.out.kept hS6) (by decide) HP6.out (by simp) (by
              have := numB_len m
              simp only [List.flatMap_cons, List.flatMap_nil, List.length_append, lenB_len, hroot.out.1, List.length_nil]; omega)
            rw [show List.map (fun x : Value × List Nat => x.2) [((.slice a2 (numB m).length c2), numB m), (.slice (some ⟨w.heap.size + 1, 1, none⟩) 32 32, root)] = [numB m, root] from rfl, ← HTX.out] at HF
            have HFH := Lib.hid HF
            clear HF
            go_simp
            refine HFH.out.mono ?_
            rintro e w7 ⟨rfl, k6⟩
            clear HP6 HFH
            have hS7 := hS6.trans k6
            have Z7 := Lib.hid (k6.row Z6.out)
            clear Z6
            clear k6 hS6
            go_wp2_with fail
            refine hK.out _ _ hS7 (fun hHeld => ?_)
            clear hK K
            try simp only [Act.put, List.setIfInBounds_toArray, List.set_cons_succ, List.set_cons_zero]
            refine wpAnyH_ready (rs := [8]) (by kernel_rfl) (by simp) ?_
            refine AllReadyH.cons (o := _) rfl (fun K hK => ?_) AllReadyH.nil
            refine step_store26 (C := ints .u8 tx) (g := g7) (o := 0) (by kernel_rfl) rfl rfl hts.out hto.out Z7.out (by rw [Z26_size]; decide) ?_
            intro wn Yn kn
            rw [puts_all (by rw [Z26_size, hts.out])] at Yn
            have HYN := Lib.hid Yn
            have hSN : Kept (fun _ => False) w3 wn := hS7.trans' kn (fun i hi e => by have := HGS.out; omega)
            clear Yn kn hS7
            refine hK.out _ _ hSN (fun hHeld => ?_)
            clear hK K
            try simp only [Act.put, List.setIfInBounds_toArray, List.set_cons_succ, List.set_cons_zero]
            refine wpAnyH_done (by kernel_rfl) ?_ _
            have HSN := Lib.hid hSN
            clear hSN
            go_wp2_with fail
            go_meet
            exact ⟨g7, rfl, HYN, HSN.out.row GA3.out, HSN.out.row GC3.out, HI3.out.kept HSN.out, HL3.out.kept HSN.out, K3.out.trans HSN.out⟩
        · skip
          refine step_alloc26 (by kernel_rfl) ?_
          have k7 := (Kept.refl (fun _ => False) w4).alloc (.cells Z26 26)
          have zz := heap_alloc_new w4 (.cells Z26 26)
          have hgs0 := hS4.size
          generalize hg7 : w4.heap.size = g7 at zz hgs0 ⊢
          have hgs : w3.heap.size ≤ g7 := by first | exact hgs0 | exact Nat.le_of_eq hg7
          clear hgs0 hg7
          generalize w4.alloc (.cells Z26 26) = w5 at *
          have hS5 := hS4.trans k7
          have HB5 := Lib.hid (HB4.out.kept k7)
          clear HB4
          have Z5 := Lib.hid zz
          have HGS := Lib.hid hgs
          clear k7 zz hgs hS4
          refine hK.out _ _ hS5 (fun hHeld => ?_)
          clear hK K
          try simp only [Act.put, List.setIfInBounds_toArray, List.set_cons_succ, List.set_cons_zero]
          refine wpAnyH_ready (rs := [5]) (by kernel_rfl) (by simp) ?_
          refine AllReadyH.cons (o := _) rfl (fun K hK => ?_) AllReadyH.nil
          have k5 := (Kept.refl (fun _ => False) w5).alloc (.cells #[.slice a2 (numB m).length c2, .slice (some ⟨w.heap.size + 1, 1, none⟩) 32 32] 28)
          have HRT : HBytes w5 (.slice (some ⟨w.heap.size + 1, 1, none⟩) 32 32) root := by
            have h := HBytes.part (hS5.row GB3.out) HP.out.rt HP.out.r8 (by rw [HP.out.rl]; decide) 32
            rwa [HP.out.rl] at h
          have HP6 : Hid (HParts (w5.alloc (.cells #[.slice a2 (numB m).length c2, .slice (some ⟨w.heap.size + 1, 1, none⟩) 32 32] 28)) (.slice (some ⟨w5.heap.size, 0, none⟩) 2 2) [(.slice a2 (numB m).length c2, numB m), (.slice (some ⟨w.heap.size + 1, 1, none⟩) 32 32, root)]) :=
            HParts.of_block (ps := [(.slice a2 (numB m).length c2, numB m), (.slice (some ⟨w.heap.size + 1, 1, none⟩) 32 32, root)]) (heap_alloc_new w5 _) rfl (by simp) (fun p hp => by
              rcases List.mem_cons.1 hp with rfl | hp
              · exact HB5.out.kept k5
              · obtain rfl := List.mem_singleton.1 hp
                exact HRT.kept k5) (by simp; decide) 2
          clear HRT HB5
          go_simp
          generalize w5.heap.size = g5 at *
          generalize w5.alloc (.cells #[.slice a2 (numB m).length c2, .slice (some ⟨w.heap.size + 1, 1, none⟩) 32 32] 28) = w6 at *
          have hS6 := hS5.trans k5
          have Z6 := Lib.hid (k5.row Z5.out)
          clear Z5
          clear k5 hS5
          refine hK.out _ _ hS6 (fun hHeld => ?_)
          clear hK K
          try simp only [Act.put, List.setIfInBounds_toArray, List.set_cons_succ, List.set_cons_zero]
          refine wpAnyH_ready (rs := [6]) (by kernel_rfl) (by simp) ?_
          refine AllReadyH.cons (o := _) rfl (fun K hK => ?_) AllReadyH.nil
          have HF := f_rof 6 _ _ w6 (HL3.out.kept hS6) (by decide) HP6.out (by simp) (by
            have := numB_len m
            simp only [List.flatMap_cons, List.flatMap_nil, List.length_append, lenB_len, hroot.out.1, List.length_nil]; omega)
          rw [show List.map (fun x : Value × List Nat => x.2) [((.slice a2 (numB m).length c2), numB m), (.slice (some ⟨w.heap.size + 1, 1, none⟩) 32 32, root)] = [numB m, root] from rfl, ← HTX.out] at HF
          have HFH := Lib.hid HF
          clear HF
          go_simp
          refine HFH.out.mono ?_
          rintro e w7 ⟨rfl, k6⟩
          clear HP6 HFH
          have hS7 := hS6.trans k6
          have Z7 := Lib.hid (k6.row Z6.out)
          clear Z6
          clear k6 hS6
          go_wp2_with fail
          refine hK.out _ _ hS7 (fun hHeld => ?_)
          clear hK K
          try simp only [Act.put, List.setIfInBounds_toArray, List.set_cons_succ, List.set_cons_zero]
          refine wpAnyH_ready (rs := [8]) (by kernel_rfl) (by simp) ?_
          refine AllReadyH.cons (o := _) rfl (fun K hK => ?_) AllReadyH.nil
          refine step_store26 (C := ints .u8 tx) (g := g7) (o := 0) (by kernel_rfl) rfl rfl hts.out hto.out Z7.out (by rw [Z26_size]; decide) ?_
          intro wn Yn kn
          rw [puts_all (by rw [Z26_size, hts.out])] at Yn
          have HYN := Lib.hid Yn
          have hSN : Kept (fun _ => False) w3 wn := hS7.trans' kn (fun i hi e => by have := HGS.out; omega)
          clear Yn kn hS7
          refine hK.out _ _ hSN (fun hHeld => ?_)
          clear hK K
          try simp only [Act.put, List.setIfInBounds_toArray, List.set_cons_succ, List.set_cons_zero]
          refine wpAnyH_done (by kernel_rfl) ?_ _
          have HSN := Lib.hid hSN
          clear hSN
          go_wp2_with fail
          go_meet
          exact ⟨g7, rfl, HYN, HSN.out.row GA3.out, HSN.out.row GC3.out, HI3.out.kept HSN.out, HL3.out.kept HSN.out, K3.out.trans HSN.out⟩
      · skip
        refine step_alloc26 (by kernel_rfl) ?_
        have k7 := (Kept.refl (fun _ => False) w3).alloc (.cells Z26 26)
        have zz := heap_alloc_new w3 (.cells Z26 26)
        have hgs0 := hS3.size
        generalize hg7 : w3.heap.size = g7 at zz hgs0 ⊢
        have hgs : w3.heap.size ≤ g7 := by first | exact hgs0 | exact Nat.le_of_eq hg7
        clear hgs0 hg7
        generalize w3.alloc (.cells Z26 26) = w4 at *
        have hS4 := hS3.trans k7
        have Z4 := Lib.hid zz
        have HGS := Lib.hid hgs
        clear k7 zz hgs hS3
        refine hK.out _ _ hS4 (fun hHeld => ?_)
        clear hK K
        try simp only [Act.put, List.setIfInBounds_toArray, List.set_cons_succ, List.set_cons_zero]
        refine wpAnyH_ready (rs := [2]) (by kernel_rfl) (by simp) ?_
        refine AllReadyH.cons (o := _) rfl (fun K hK => ?_) AllReadyH.nil
        go_simp
        refine (f_rnum m w4 (by omega)).mono ?_
        rintro e w5 ⟨v2, rfl, hb2, k2⟩
        have HB5 := Lib.hid (Buf.bytes hb2 (numB_all (n := m) (by omega)))
        obtain ⟨a2, c2, rfl, -, -⟩ := hb2.form
        have hS5 := hS4.trans k2
        have Z5 := Lib.hid (k2.row Z4.out)
        clear Z4
        clear hb2 k2 hS4
        go_wp2_with fail
        refine hK.out _ _ hS5 (fun hHeld => ?_)
        clear hK K
        try simp only [Act.put, List.setIfInBounds_toArray, List.set_cons_succ, List.set_cons_zero]
        refine wpAnyH_ready (rs := [5]) (by kernel_rfl) (by simp) ?_
        refine AllReadyH.cons (o := _) rfl (fun K hK => ?_) AllReadyH.nil
        have k5 := (Kept.refl (fun _ => False) w5).alloc (.cells #[.slice a2 (numB m).length c2, .slice (some ⟨w.heap.size + 1, 1, none⟩) 32 32] 28)
        have HRT : HBytes w5 (.slice (some ⟨w.heap.size + 1, 1, none⟩) 32 32) root := by
          have h := HBytes.part (hS5.row GB3.out) HP.out.rt HP.out.r8 (by rw [HP.out.rl]; decide) 32
          rwa [HP.out.rl] at h
        have HP6 : Hid (HParts (w5.alloc (.cells #[.slice a2 (numB m).length c2, .slice (some ⟨w.heap.size + 1, 1, none⟩) 32 32] 28)) (.slice (some ⟨w5.heap.size, 0, none⟩) 2 2) [(.slice a2 (numB m).length c2, numB m), (.slice (some ⟨w.heap.size + 1, 1, none⟩) 32 32, root)]) :=
          HParts.of_block (ps := [(.slice a2 (numB m).length c2, numB m), (.slice (some ⟨w.heap.size + 1, 1, none⟩) 32 32, root)]) (heap_alloc_new w5 _) rfl (by simp) (fun p hp => by
            rcases List.mem_cons.1 hp with rfl | hp
            · exact HB5.out.kept k5
            · obtain rfl := List.mem_singleton.1 hp
              exact HRT.kept k5) (by simp; decide) 2
        clear HRT HB5
        go_simp
        generalize w5.heap.size = g5 at *
        generalize w5.alloc (.cells #[.slice a2 (numB m).length c2, .slice (some ⟨w.heap.size + 1, 1, none⟩) 32 32] 28) = w6 at *
        have hS6 := hS5.trans k5
        have Z6 := Lib.hid (k5.row Z5.out)
        clear Z5
        clear k5 hS5
        refine hK.out _ _ hS6 (fun hHeld => ?_)
        clear hK K
        try simp only [Act.put, List.setIfInBounds_toArray, List.set_cons_succ, List.set_cons_zero]
        refine wpAnyH_ready (rs := [6]) (by kernel_rfl) (by simp) ?_
        refine AllReadyH.cons (o := _) rfl (fun K hK => ?_) AllReadyH.nil
        have HF := f_rof 6 _ _ w6 (HL3.out.kept hS6) (by decide) HP6.out (by simp) (by
          have := numB_len m
          simp only [List.flatMap_cons, List.flatMap_nil, List.length_append, lenB_len, hroot.out.1, List.length_nil]; omega)
        rw [show List.map (fun x : Value × List Nat => x.2) [((.slice a2 (numB m).length c2), numB m), (.slice (some ⟨w.heap.size + 1, 1, none⟩) 32 32, root)] = [numB m, root] from rfl, ← HTX.out] at HF
        have HFH := Lib.hid HF
        clear HF
        go_simp
        refine HFH.out.mono ?_
        rintro e w7 ⟨rfl, k6⟩
        clear HP6 HFH
        have hS7 := hS6.trans k6
        have Z7 := Lib.hid (k6.row Z6.out)
        clear Z6
        clear k6 hS6
        go_wp2_with fail
        refine hK.out _ _ hS7 (fun hHeld => ?_)
        clear hK K
        try simp only [Act.put, List.setIfInBounds_toArray, List.set_cons_succ, List.set_cons_zero]
        refine wpAnyH_ready (rs := [8]) (by kernel_rfl) (by simp) ?_
        refine AllReadyH.cons (o := _) rfl (fun K hK => ?_) AllReadyH.nil
        refine step_store26 (C := ints .u8 tx) (g := g7) (o := 0) (by kernel_rfl) rfl rfl hts.out hto.out Z7.out (by rw [Z26_size]; decide) ?_
        intro wn Yn kn
        rw [puts_all (by rw [Z26_size, hts.out])] at Yn
        have HYN := Lib.hid Yn
        have hSN : Kept (fun _ => False) w3 wn := hS7.trans' kn (fun i hi e => by have := HGS.out; omega)
        clear Yn kn hS7
        refine hK.out _ _ hSN (fun hHeld => ?_)
        clear hK K
        try simp only [Act.put, List.setIfInBounds_toArray, List.set_cons_succ, List.set_cons_zero]
        refine wpAnyH_done (by kernel_rfl) ?_ _
        have HSN := Lib.hid hSN
        clear hSN
        go_wp2_with fail
        go_meet
        exact ⟨g7, rfl, HYN, HSN.out.row GA3.out, HSN.out.row GC3.out, HI3.out.kept HSN.out, HL3.out.kept HSN.out, K3.out.trans HSN.out⟩
    case rest =>
      obtain ⟨g7, rfl, Y5, GA5, GC5, HI5, HL5, K5⟩ := hcut
      go_upto_region 4 with (fail)
      have k6d := (Kept.refl (fun _ => False) wc).drew
      have Y6 := Lib.hid (k6d.row Y5.out)
      have GA6 := Lib.hid (k6d.row GA5.out)
      have GC6 := Lib.hid (k6d.row GC5.out)
      have HI6 := Lib.hid (HI5.out.kept k6d)
      have HL6 := Lib.hid (HL5.out.kept k6d)
      have K6 := Lib.hid (K5.out.trans k6d)
      refine wp_region_held_drew (S := fun w' => Kept (fun j => j = w.heap.size + 1 + 1) wc.drew w') (by kernel_rfl) (Kept.refl _ _) (fun hHeld => ?_)
      clear k6d Y5 GA5 GC5 HI5 HL5 K5
      generalize wc.drew = w6 at *
      have hS6 := Kept.refl (fun _ => False) w6
      have hSM := Kept.refl (fun j => j = w.heap.size + 1 + 1) w6
      obtain ⟨b, oo, cc, ev, hbl, hr⟩ := HI6.out.wits.at hi
      simp only [Value.slice.injEq, true_and] at ev
      obtain ⟨rfl, rfl⟩ := ev
      have HKB : Hid (HBytes w6 (.slice (some ⟨b, oo + i * 32, none⟩) 32 32) k.wits[i]) := by
        have h2 := HI6.out.wits.each _ (List.getElem_mem hi)
        have h := HBytes.range hr hbl h2.2 (by rw [h2.1]; decide) 32
        rwa [h2.1] at h
      have HKL := Lib.hid (HI6.out.wits.each _ (List.getElem_mem hi)).1
      have hil : (i : Int) < (k.wits.length : Int) := by omega
      clear hr
      refine wpAnyH_take (i := 0) (oi := ⟨some 40, _, _, _, _, _⟩) (v := .pointer (some ⟨w.heap.size, 1, none⟩)) rfl (by kernel_rfl) (by kernel_rfl) (by kernel_rfl) (fun _ _ _ h => h) (Or.inl ⟨by kernel_rfl, fun w' hS => by go_simp⟩) (by assumption) ?_
      try simp only [Act.put, List.setIfInBounds_toArray, List.set_cons_succ, List.set_cons_zero]
      refine wpAnyH_take (i := 1) (oi := ⟨some 41, _, _, _, _, _⟩) (v := .slice (some ⟨b, oo, none⟩) k.wits.length wcp) rfl (by kernel_rfl) (by kernel_rfl) (by kernel_rfl) (fun _ _ _ h => h) (Or.inl ⟨by kernel_rfl, fun w' hS => by have c := row_cell (k := 1) (hS.rowS (by omega) GA6.out) rfl; go_simp⟩) (by assumption) ?_
      try simp only [Act.put, List.setIfInBounds_toArray, List.set_cons_succ, List.set_cons_zero]
      refine wpAnyH_take (i := 2) (oi := ⟨some 42, _, _, _, _, _⟩) (v := .int .i64 i) rfl (by kernel_rfl) (by kernel_rfl) (by kernel_rfl) (fun _ _ _ h => h) (Or.inl ⟨by kernel_rfl, fun w' hS => by go_simp⟩) (by assumption) ?_
      try simp only [Act.put, List.setIfInBounds_toArray, List.set_cons_succ, List.set_cons_zero]
      refine wpAnyH_take (i := 3) (oi := ⟨some 43, _, _, _, _, _⟩) (v := .pointer (some ⟨b, oo + i * 32, none⟩)) rfl (by kernel_rfl) (by kernel_rfl) (by kernel_rfl) (fun _ _ _ h => h) (Or.inl ⟨by kernel_rfl, fun w' hS => by go_simp⟩) (by assumption) ?_
      try simp only [Act.put, List.setIfInBounds_toArray, List.set_cons_succ, List.set_cons_zero]
      refine wpAnyH_take (i := 4) (oi := ⟨some 44, _, _, _, _, _⟩) (v := .slice (some ⟨b, oo + i * 32, none⟩) 32 32) rfl (by kernel_rfl) (by kernel_rfl) (by kernel_rfl) (fun _ _ _ h => h) (Or.inl ⟨by kernel_rfl, fun w' hS => by go_simp⟩) (by assumption) ?_
      try simp only [Act.put, List.setIfInBounds_toArray, List.set_cons_succ, List.set_cons_zero]
      refine wpAnyH_take (i := 6) (oi := ⟨some 46, _, _, _, _, _⟩) (v := .slice (some ⟨g7, 0, none⟩) 32 32) rfl (by kernel_rfl) (by kernel_rfl) (by kernel_rfl) (fun _ _ _ h => h) (Or.inl ⟨by kernel_rfl, fun w' hS => by go_simp⟩) (by assumption) ?_
      try simp only [Act.put, List.setIfInBounds_toArray, List.set_cons_succ, List.set_cons_zero]
      refine wpAnyH_ready (rs := [5]) (by kernel_rfl) (by simp) ?_
      refine AllReadyH.cons (o := _) rfl (fun K hK => ?_) AllReadyH.nil
      have k8 := (Kept.refl (fun _ => False) w6).alloc (.cells #[.int .u8 3] 5)
      have HB8 := Lib.hid (Buf.byte w6 3 (Nat.le_refl _))
      have HX8 : Hid (HBytes (w6.alloc (.cells #[.int .u8 3] 5)) (.slice (some ⟨g7, 0, none⟩) 32 32) tx) := by
        have h := HBytes.hash (k8.row Y6.out) ht8.out (by rw [htz.out]; decide) 32
        rwa [htz.out] at h
      have HS8 := Lib.hid (HX8.out.srcN htz.out)
      have hS8 := hS6.trans k8
      have HZ8 : Hid (w6.heap.size ≤ (w6.alloc (.cells #[.int .u8 3] 5)).heap.size) := k8.size
      clear k8 HX8 Y6
      go_simp
      refine hK.out _ _ (hS8.mono (fun _ _ h => h.elim)) (fun hHeld => ?_)
      clear hK K
      try simp only [Act.put, List.setIfInBounds_toArray, List.set_cons_succ, List.set_cons_zero]
      refine wpAnyH_ready (rs := [7]) (by kernel_rfl) (by simp) ?_
      refine AllReadyH.cons (o := _) rfl (fun K hK => ?_) AllReadyH.nil
      refine step_append_buf _ rfl (.tmp 45) (.tmp 46) 28 28 rfl w6.heap.size 5 i5 (.int .u8 0) 1 1 Tryd.underlying28 h5i hz hsz hby rfl (by decide) _ 1 (bys [3]) rfl HB8.out (.slice (some ⟨g7, 0, none⟩) 32 32) 32 (bys tx) rfl HS8.out (by decide) (by decide) HZ8.out ?_
      intro v9 w9 hb9 hg9 ho9 hn9
      have hS9 : Kept (fun _ => False) w6 w9 := hS8.grown hg9 (fun j hj => .inr (HB8.out.lt j hj).1)
      have HX9 : Hid (HBytes w9 v9 ([3] ++ tx)) := hb9.bytes2 rfl htz.out (by intro x hx; obtain rfl := List.mem_singleton.1 hx; decide) ht8.out
      have HG := Lib.hid (f_rtag _ _ k.wits[i] _ w9 (HL6.out.kept hS9) (HKB.out.kept hS9) (by rw [HKL.out]; decide) (by rw [HKL.out]; decide) HX9.out (by rw [List.length_append, htz.out]; decide))
      rw [List.singleton_append] at HG
      clear hb9 hg9 ho9 hn9 HX9 HS8 HZ8 hS8 HB8
      refine hK.out _ _ (hS9.mono (fun _ _ h => h.elim)) (fun hHeld => ?_)
      clear hK K
      try simp only [Act.put, List.setIfInBounds_toArray, List.set_cons_succ, List.set_cons_zero]
      refine wpAnyH_ready (rs := [8]) (by kernel_rfl) (by simp) ?_
      refine AllReadyH.cons (o := _) rfl (fun K hK => ?_) AllReadyH.nil
      go_simp
      refine HG.out.mono ?_
      rintro e w10 ⟨rfl, k10⟩
      have hS10 := hS9.trans k10
      have hmz := Lib.hid (show (ints .u8 (tagOf k.wits[i] (3 :: tx))).size = 32 by rw [ints_size]; exact sha_len _)
      have hmo := Lib.hid (ints_one .u8 (tagOf k.wits[i] (3 :: tx)))
      generalize hTG : ints .u8 (tagOf k.wits[i] (3 :: tx)) = TG at *
      clear k10 HG hS9
      go_wp2_with fail
      refine hK.out _ _ (hS10.mono (fun _ _ h => h.elim)) (fun hHeld => ?_)
      clear hK K
      try simp only [Act.put, List.setIfInBounds_toArray, List.set_cons_succ, List.set_cons_zero]
      refine wpAnyH_ready (rs := [9]) (by kernel_rfl) (by simp) ?_
      refine AllReadyH.cons (o := _) rfl (fun K hK => ?_) AllReadyH.nil
      refine step_store26 (C := TG) (g := w.heap.size + 1 + 1) (o := 0) (by kernel_rfl) rfl rfl hmz.out hmo.out (hS10.row GC6.out) (by rw [Z26_size]; decide) ?_
      intro wn Yn kn
      rw [puts_all (by rw [Z26_size, hmz.out])] at Yn
      have KWn : Kept (fun _ => False) w wn := (K6.out.trans hS10).trans' kn (fun i hi e => by omega)
      have HYN := Lib.hid Yn
      have HKN := Lib.hid KWn
      have hSX : Kept (fun j => j = w.heap.size + 1 + 1) w6 wn := (hS10.mono (fun _ _ h => h.elim)).trans kn
      clear Yn KWn
      refine hK.out _ _ hSX (fun hHeld => ?_)
      clear hK K
      try simp only [Act.put, List.setIfInBounds_toArray, List.set_cons_succ, List.set_cons_zero]
      refine wpAnyH_done (by kernel_rfl) ?_ _
      go_wp2_with fail
      exact bodyPost_ret (results_26 rfl _ _ _ HYN.out hmz.out rfl) rfl (RPost.mk (congrArg Value.agg hTG.symm) HKN.out)
end Go.Proofs.YtklmhegmombegaaDoor
