/-
  The walk of PartReceipts (11). Conditions: as each theorem says.
-/
import Derived.Test.YtklmhegmombegaaDoorPaQ
set_option linter.unusedVariables false
set_option linter.unusedSimpArgs false
set_option maxRecDepth 100000
namespace Go.Proofs.YtklmhegmombegaaDoor
open Go Go.RowKit Plain
theorem f_its_nil (c : Cl) (w : World) : Calls Tryd.prog 66 #[.pointer none, .agg (clC c)] w (BPost false w) := by
  have k1 := Lib.hid ((Kept.refl (fun _ => False) w).alloc (.cells (clC c) 59))
  go_enter Tryd.func66, Tryd.ntmps66
  go_upto_region 1 with (fail)
  generalize w.alloc (.cells (clC c) 59) = w1 at *
  go_quiet (fail)
  go_wp2_with fail
  go_ret
  exact BPost.mk rfl (k1.out.drewN _)
set_option maxHeartbeats 4000000 in
theorem f_take_nil (c : Cl) (refuse : Bool) (w : World) (hc : c.tag.length = 32) : Calls Tryd.prog 36 #[.pointer none, .agg (clC c), .bool refuse] w (RPost (.tuple #[.agg (clC zCl), .bool false]) w) := by
  have k1 := (((Kept.refl (fun _ => False) w).alloc (.cells #[.pointer none] 55)).alloc (.cells (clC c) 59)).alloc (.cells Z59 59)
  obtain ⟨gb, gc, gz⟩ := heap_alloc3 w (.cells #[.pointer none] 55) (.cells (clC c) 59) (.cells Z59 59)
  have GC := Lib.hid gc
  have GZ := Lib.hid gz
  have K1 := Lib.hid k1
  have HC := Lib.hid (clC_size hc)
  have HI := Lib.hid (f_its_nil c (((w.alloc (.cells #[.pointer none] 55)).alloc (.cells (clC c) 59)).alloc (.cells Z59 59)))
  have cb := row_cell (k := 0) gb (v := .pointer none) rfl
  clear k1 gb gc gz hc
  go_enter_defers Tryd.func36, Tryd.ntmps36
  go_upto_region 1 with (first | fail | (with_reducible refine alloc59 ?_))
  generalize (((w.alloc (.cells #[.pointer none] 55)).alloc (.cells (clC c) 59)).alloc (.cells Z59 59)) = w1 at *
  go_wp2_with (first | fail | ((with_reducible refine load59 (C := clC c) (g := w.heap.size + 1) (o := 0) ?_ (range_row GC.out) HC.out ?_); rfl))
  refine HI.out.mono ?_
  rintro e w2 ⟨rfl, k2⟩
  have GZ2 := Lib.hid (k2.row GZ.out)
  have K2 := Lib.hid (K1.out.trans k2)
  clear k2
  go_wp2_with (first | fail | (with_reducible refine build59 ?_) | ((with_reducible refine store59 (C := Z59) ?_ ?_ GZ2.out Z59_size Z59_size Z59_one ?_); rfl; rfl))
  exact ⟨_, results_59 rfl _ _ _ (setRow_heap _ _ _ _ _ _ GZ2.out) Z59_size rfl rfl, RPost.mk rfl (K2.out.setRow (by omega) _)⟩
/-- What a new participant answers, if there is one. -/
def newTake (k : Ky) (n : Int) (c : Cl) (refuse : Bool) : Cl × Bool := if kKnown k n 0 = true then ((pTake k n 0 [] c refuse).1, (pTake k n 0 [] c refuse).2.1) else (zCl, false)
theorem newTake_len (k : Ky) (n : Int) (c : Cl) (refuse : Bool) : (newTake k n c refuse).1.tag.length = 32 := by
  unfold newTake
  split
  · exact take_len _ _ _ _ _ _
  · rfl
/-- An answer of a new participant is one that holds. -/
theorem newTake_ok {k : Ky} {n : Int} {c : Cl} {refuse : Bool} (h : (newTake k n c refuse).2 = true) : ∃ gd, kKnown k n 0 = true ∧ pIts n c = true ∧ (newTake k n c refuse).1 = tagged k (outC c gd 0) := by
  unfold newTake at h ⊢
  split at h
  · rename_i hk
    rw [if_pos hk]
    cases hi : pIts n c with
    | false => rw [take_no k hi] at h; cases h
    | true => exact ⟨(pSays [] c refuse).1, hk, rfl, by unfold pTake; rw [if_pos hi]⟩
  · cases h
set_option maxHeartbeats 4000000 in
theorem long11 (pa wa : Option Addr) (np pc nw wc : Nat) (nd n seq : Int) (c : Cl) (rf : Bool) (w : World) (hL : Laid w) (h : fewB np nw 0 = false) : Calls Tryd.prog 11 #[.agg #[.slice pa np pc, .slice wa nw wc, .int .i64 nd], .int .i64 n, .agg (clC c), .int .i64 seq, .bool rf] w (BPost true w) := by
  have k1 := ((Kept.refl (fun _ => False) w).alloc (.cells #[.slice pa np pc, .slice wa nw wc, .int .i64 nd] 24)).alloc (.cells (clC c) 59)
  have G1 := Lib.hid (heap_alloc2_old w (.cells #[.slice pa np pc, .slice wa nw wc, .int .i64 nd] 24) (.cells (clC c) 59))
  have K1 := Lib.hid k1
  have HA := Lib.hid (f_palive _ (hL.kept k1))
  have HH := Lib.hid h
  clear k1 hL h
  go_enter Tryd.func11, Tryd.ntmps11
  go_upto_region 1 with (fail)
  generalize (w.alloc (.cells #[.slice pa np pc, .slice wa nw wc, .int .i64 nd] 24)).alloc (.cells (clC c) 59) = w1 at *
  go_wp2_with fail
  refine HA.out.mono ?_
  rintro e w2 ⟨rfl, k2⟩
  have K2 := Lib.hid (K1.out.trans k2)
  have G2 := k2.row G1.out
  have c0 := row_cell (k := 0) G2 (v := .slice pa np pc) rfl
  have c1 := row_cell (k := 1) G2 (v := .slice wa nw wc) rfl
  have c2 := row_cell (k := 2) G2 (v := .int .i64 nd) rfl
  have HF := f_pfew pa wa none np pc nw wc 0 0 nd w2
  rw [HH.out] at HF
  have HFH := Lib.hid HF
  clear k2 G2 G1 K1 HA HF
  go_wp2_with fail
  refine HFH.out.mono ?_
  rintro e w3 ⟨rfl, k3⟩
  clear c0 c1 c2
  go_wp2_with fail
  go_ret
  exact BPost.mk rfl (K2.out.trans k3)
set_option maxHeartbeats 16000000 in
theorem c_receipts (pv wv : Value) (k : Ky) (n seq : Int) (c : Cl) (rf : Bool) (w : World) (hL : Laid w) (hk : KyIn w pv wv k) (hfw : fewB k.parts.length k.wits.length 0 = true) (hc : ClFit c) :
    Calls Tryd.prog 11 #[.agg #[pv, wv, .int .i64 k.need], .int .i64 n, .agg (clC c), .int .i64 seq, .bool rf] w (BPost true w) := by
  obtain ⟨pa, pc, rfl⟩ := hk.parts.form
  obtain ⟨wa, wcp, rfl⟩ := hk.wits.form
  have k1 := ((Kept.refl (fun _ => False) w).alloc (.cells #[.slice pa k.parts.length pc, .slice wa k.wits.length wcp, .int .i64 k.need] 24)).alloc (.cells (clC c) 59)
  have G1 := Lib.hid (heap_alloc2_old w (.cells #[.slice pa k.parts.length pc, .slice wa k.wits.length wcp, .int .i64 k.need] 24) (.cells (clC c) 59))
  have X1 := Lib.hid (heap_alloc2_new w (.cells #[.slice pa k.parts.length pc, .slice wa k.wits.length wcp, .int .i64 k.need] 24) (.cells (clC c) 59))
  have K1 := Lib.hid k1
  have HA := Lib.hid (f_palive _ (hL.kept k1))
  have HK1 := Lib.hid (hk.kept k1)
  have HL1 := Lib.hid (hL.kept k1)
  have HFW := Lib.hid hfw
  have HC := Lib.hid hc
  clear k1 hL hk hfw hc
  go_enter Tryd.func11, Tryd.ntmps11
  go_upto_region 1 with (fail)
  generalize (w.alloc (.cells #[.slice pa k.parts.length pc, .slice wa k.wits.length wcp, .int .i64 k.need] 24)).alloc (.cells (clC c) 59) = w1 at *
  go_wp2_with fail
  refine HA.out.mono ?_
  rintro e w2 ⟨rfl, k2⟩
  have K2 := Lib.hid (K1.out.trans k2)
  have G2 := Lib.hid (k2.row G1.out)
  have X2 := Lib.hid (k2.row X1.out)
  have HK2 := Lib.hid (HK1.out.kept k2)
  have HL2 := Lib.hid (HL1.out.kept k2)
  have c0 := row_cell (k := 0) G2.out (v := .slice pa k.parts.length pc) rfl
  have c1 := row_cell (k := 1) G2.out (v := .slice wa k.wits.length wcp) rfl
  have c2 := row_cell (k := 2) G2.out (v := .int .i64 k.need) rfl
  have HF := f_pfew pa wa none k.parts.length pc k.wits.length wcp 0 0 k.need w2
  rw [HFW.out] at HF
  have HFH := Lib.hid HF
  clear HF k2 G1 X1 K1 HA HK1 HL1
  go_wp2_with fail
  refine HFH.out.mono ?_
  rintro e w3 ⟨rfl, k3⟩
  clear c0 c1 c2 HFH
  go_upto_region 5 with (fail)
  have k3d := k3.drew
  have K3 := Lib.hid (K2.out.trans k3d)
  have G3 := Lib.hid (k3d.row G2.out)
  have X3 := Lib.hid (k3d.row X2.out)
  have HK3 := Lib.hid (HK2.out.kept k3d)
  have HL3 := Lib.hid (HL2.out.kept k3d)
  clear k3 k3d K2 G2 X2 HK2 HL2
  refine wp_region_held_drew (S := fun w' => Kept (fun _ => False) w3.drew w') (by kernel_rfl) (Kept.refl _ _) (fun hHeld => ?_)
  generalize w3.drew = w4 at *
  have hS4 : Kept (fun _ => False) w4 w4 := Kept.refl _ _
  obtain ⟨CC, hCC⟩ : ∃ CC, CC = clC c := ⟨_, rfl⟩
  have hzc : Hid (CC.size = 41) := by show _ = _; rw [hCC]; exact clC_size HC.out.tagl
  have HR1 := fun wq => f_preceipt c seq wq HC.out.tagl
  have HR2 := fun wq => f_rpreceipt c seq wq HC.out.tagl
  have HR3 := fun wq => recC_in wq HC.out.tagl seq
  have hst0 : (tRec c seq).steps = [] ∧ (tRec c seq).data = [] := by unfold tRec; split <;> exact ⟨rfl, rfl⟩
  rw [← hCC] at HR1 HR2 X3
  have HCC := Lib.hid hCC
  generalize recC c seq = CR at *
  have HR1H := Lib.hid HR1
  have HR2H := Lib.hid HR2
  have HSM := Lib.hid (fun wq => Re.f_rrec CR CR (tRec c seq) wq (HR3 wq) (HR3 wq) hst0.1 hst0.2)
  clear hCC HR1 HR2 HR3 hst0
  refine wpAnyH_take (i := 0) (oi := ⟨some 18, _, _, _, _, _⟩) (v := .agg CC) rfl (by kernel_rfl) (by kernel_rfl) (by kernel_rfl) (fun _ _ _ h => h) (yields59 (C := CC) (g := w.heap.size + 1) (o := 0) (by kernel_rfl) rfl (fun w' hS => range_row (hS.row X3.out)) hzc.out) (by assumption) ?_
  try simp only [Act.put, List.setIfInBounds_toArray, List.set_cons_succ, List.set_cons_zero]
  refine wpAnyH_take (i := 1) (oi := ⟨some 19, _, _, _, _, _⟩) (v := .int .i64 seq) rfl (by kernel_rfl) (by kernel_rfl) (by kernel_rfl) (fun _ _ _ h => h) (Or.inl ⟨by kernel_rfl, fun w' hS => by go_simp⟩) (by assumption) ?_
  try simp only [Act.put, List.setIfInBounds_toArray, List.set_cons_succ, List.set_cons_zero]
  refine wpAnyH_take (i := 3) (oi := ⟨some 21, _, _, _, _, _⟩) (v := .agg CC) rfl (by kernel_rfl) (by kernel_rfl) (by kernel_rfl) (fun _ _ _ h => h) (yields59 (C := CC) (g := w.heap.size + 1) (o := 0) (by kernel_rfl) rfl (fun w' hS => range_row (hS.row X3.out)) hzc.out) (by assumption) ?_
  try simp only [Act.put, List.setIfInBounds_toArray, List.set_cons_succ, List.set_cons_zero]
  refine wpAnyH_take (i := 4) (oi := ⟨some 22, _, _, _, _, _⟩) (v := .int .i64 seq) rfl (by kernel_rfl) (by kernel_rfl) (by kernel_rfl) (fun _ _ _ h => h) (Or.inl ⟨by kernel_rfl, fun w' hS => by go_simp⟩) (by assumption) ?_
  try simp only [Act.put, List.setIfInBounds_toArray, List.set_cons_succ, List.set_cons_zero]
  refine wpAnyH_ready (rs := [2]) (by kernel_rfl) (by simp) ?_
  refine AllReadyH.cons (o := ⟨some 20, _, _, _, _, _⟩) rfl (fun K hK => ?_) AllReadyH.nil
  go_simp
  refine (HR1H.out w4).mono ?_
  rintro e w5 ⟨rfl, kk⟩
  have hS5 := hS4.trans kk
  clear kk
  go_wp2_with fail
  refine hK.out _ _ hS5 (fun hHeld => ?_)
  clear hK K
  try simp only [Act.put, List.setIfInBounds_toArray, List.set_cons_succ, List.set_cons_zero]
  refine wpAnyH_ready (rs := [5]) (by kernel_rfl) (by simp) ?_
  refine AllReadyH.cons (o := ⟨some 23, _, _, _, _, _⟩) rfl (fun K hK => ?_) AllReadyH.nil
  go_simp
  refine (HR2H.out w5).mono ?_
  rintro e w6 ⟨rfl, kk⟩
  have hS6 := hS5.trans kk
  clear kk
  go_wp2_with fail
  refine hK.out _ _ hS6 (fun hHeld => ?_)
  clear hK K
  try simp only [Act.put, List.setIfInBounds_toArray, List.set_cons_succ, List.set_cons_zero]
  refine wpAnyH_ready (rs := [6]) (by kernel_rfl) (by simp) ?_
  refine AllReadyH.cons (o := ⟨some 24, _, _, _, _, _⟩) rfl (fun K hK => ?_) AllReadyH.nil
  go_simp
  refine (HSM.out w6).mono ?_
  rintro e w7 ⟨rfl, kk⟩
  have hS7 := hS6.trans kk
  clear kk
  go_wp2_with fail
  refine hK.out _ _ hS7 (fun hHeld => ?_)
  clear hK K
  try simp only [Act.put, List.setIfInBounds_toArray, List.set_cons_succ, List.set_cons_zero]
  refine wpAnyH_take (i := 7) (oi := ⟨some 25, _, _, _, _, _⟩) (v := .bool false) rfl (by kernel_rfl) (by kernel_rfl) (by kernel_rfl) (fun _ _ _ h => h) (Or.inl ⟨by kernel_rfl, fun w' hS => by go_simp⟩) (by assumption) ?_
  try simp only [Act.put, List.setIfInBounds_toArray, List.set_cons_succ, List.set_cons_zero]
  refine wpAnyH_done (by kernel_rfl) ?_ _
  have K7 := Lib.hid (K3.out.trans hS7.drew)
  have G7 := Lib.hid (hS7.drew.row G3.out)
  have X7 := Lib.hid (hS7.drew.row X3.out)
  have HK7 := Lib.hid (HK3.out.kept hS7.drew)
  have HL7 := Lib.hid (HL3.out.kept hS7.drew)
  clear hHeld hS4 hS5 hS6 hS7 K3 G3 X3 HK3 HL3 HR1H HR2H HSM
  go_upto_region 7 with (fail)
  obtain ⟨Y, hY⟩ : ∃ Y, Y = newTake k n c rf := ⟨_, rfl⟩
  obtain ⟨C1, hC1⟩ : ∃ C1, C1 = clC Y.1 := ⟨_, rfl⟩
  have hYl : Y.1.tag.length = 32 := by rw [hY]; exact newTake_len _ _ _ _
  have hz1 : Hid (C1.size = 41) := by show _ = _; rw [hC1]; exact clC_size hYl
  have ho1 : Hid (C1.all (·.oneCell') = true) := by show _ = _; rw [hC1]; exact clC_one _
  have HY := Lib.hid hY
  have HC1 := Lib.hid hC1
  have HYL := Lib.hid hYl
  clear hY hC1 hYl
  go_cut [11, 12] (fun s11 s12 wx => ∃ B : Nat, s11 = .pointer (some ⟨B, 0, none⟩) ∧ s12 = .bool Y.2 ∧ Hid (wx.heap[B]? = some (.cells C1 59 (0, 0))) ∧ Hid (Kept (fun _ => False) w7.drew wx))
  case first =>
    refine wp_region_held_drew (S := fun w' => Kept (fun _ => False) w7.drew w') (by kernel_rfl) (Kept.refl _ _) (fun hHeld => ?_)
    generalize w7.drew = w8 at *
    have hT0 : Kept (fun _ => False) w8 w8 := Kept.refl _ _
    have HTK := fun (wq : World) (g r : Nat) (hp : Pa w8 wq g r (.slice pa k.parts.length pc) (.slice wa k.wits.length wcp) (.slice none 0 0) k n 0 []) => f_take w8 g r (.slice pa k.parts.length pc) (.slice wa k.wits.length wcp) (.slice none 0 0) k n 0 [] c rf wq hp HC.out.tagl (by simp)
    have HTN := fun (wq : World) => f_take_nil c rf wq HC.out.tagl
    rw [← HCC.out] at HTK HTN
    have HTKH := Lib.hid HTK
    have HTNH := Lib.hid HTN
    have hzz := Lib.hid (show 0 + 41 ≤ Z59.size by rw [Z59_size]; decide)
    clear HTK HTN
    cases hkn : kKnown k n 0 with
    | false =>
      have HKN := Lib.hid hkn
      have HY1 : Hid (zCl = Y.1) := by show _ = _; rw [HY.out, newTake, if_neg (by rw [hkn]; decide)]
      have HY2 : Hid (false = Y.2) := by show _ = _; rw [HY.out, newTake, if_neg (by rw [hkn]; decide)]
      clear hkn
      refine wpAnyH_take (i := 0) (oi := ⟨some 27, _, _, _, _, _⟩) (v := .agg #[.slice pa k.parts.length pc, .slice wa k.wits.length wcp, .int .i64 k.need]) rfl (by kernel_rfl) (by kernel_rfl) (by kernel_rfl) (fun _ _ _ h => h) (Or.inl ⟨by kernel_rfl, fun w' hS => by have c0 := row_cell (k := 0) (hS.row G7.out) (v := .slice pa k.parts.length pc) (rfl); have c1 := row_cell (k := 1) (hS.row G7.out) (v := .slice wa k.wits.length wcp) (rfl); have c2 := row_cell (k := 2) (hS.row G7.out) (v := .int .i64 k.need) (rfl); go_simp⟩) (by assumption) ?_
      try simp only [Act.put, List.setIfInBounds_toArray, List.set_cons_succ, List.set_cons_zero]
      refine wpAnyH_take (i := 1) (oi := ⟨some 28, _, _, _, _, _⟩) (v := .int .i64 n) rfl (by kernel_rfl) (by kernel_rfl) (by kernel_rfl) (fun _ _ _ h => h) (Or.inl ⟨by kernel_rfl, fun w' hS => by go_simp⟩) (by assumption) ?_
      try simp only [Act.put, List.setIfInBounds_toArray, List.set_cons_succ, List.set_cons_zero]
      refine wpAnyH_take (i := 3) (oi := ⟨some 30, _, _, _, _, _⟩) (v := .agg CC) rfl (by kernel_rfl) (by kernel_rfl) (by kernel_rfl) (fun _ _ _ h => h) (yields59 (C := CC) (g := w.heap.size + 1) (o := 0) (by kernel_rfl) rfl (fun w' hS => range_row (hS.row X7.out)) hzc.out) (by assumption) ?_
      try simp only [Act.put, List.setIfInBounds_toArray, List.set_cons_succ, List.set_cons_zero]
      refine wpAnyH_take (i := 4) (oi := ⟨some 31, _, _, _, _, _⟩) (v := .bool rf) rfl (by kernel_rfl) (by kernel_rfl) (by kernel_rfl) (fun _ _ _ h => h) (Or.inl ⟨by kernel_rfl, fun w' hS => by go_simp⟩) (by assumption) ?_
      try simp only [Act.put, List.setIfInBounds_toArray, List.set_cons_succ, List.set_cons_zero]
      refine wpAnyH_ready (rs := [2, 9]) (by kernel_rfl) (by simp) ?_
      refine AllReadyH.cons (o := ⟨some 29, _, _, _, _, _⟩) rfl (fun K hK => ?_) ?_
      · skip
        have HN := Lib.hid (f_new_no (.slice pa k.parts.length pc) (.slice wa k.wits.length wcp) k n w8 (HK7.out.kept hT0) HKN.out)
        go_simp
        refine HN.out.mono ?_
        rintro e wn1 ⟨rfl, kn⟩
        have hT1 : Kept (fun _ => False) w8 wn1 := hT0.trans kn
        clear HN
        go_wp2_with fail
        refine hK.out _ _ hT1 (fun hHeld => ?_)
        clear hK K
        try simp only [Act.put, List.setIfInBounds_toArray, List.set_cons_succ, List.set_cons_zero]
        refine wpAnyH_ready (rs := [5, 9]) (by kernel_rfl) (by simp) ?_
        refine AllReadyH.cons (o := ⟨some 32, _, _, _, _, _⟩) rfl (fun K hK => ?_) ?_
        · skip
          have HQ := HTNH.out wn1
          rw [HY1.out, HY2.out, ← HC1.out] at HQ
          have HQH := Lib.hid HQ
          clear HQ
          go_simp
          refine HQH.out.mono ?_
          rintro e wt2 ⟨rfl, kt⟩
          have hT2 : Kept (fun _ => False) w8 wt2 := hT1.trans kt
          clear HQH
          go_wp2_with fail
          refine hK.out _ _ hT2 (fun hHeld => ?_)
          clear hK K
          try simp only [Act.put, List.setIfInBounds_toArray, List.set_cons_succ, List.set_cons_zero]
          refine wpAnyH_take (i := 6) (oi := ⟨some 26, _, _, _, _, _⟩) (v := .tuple #[.agg C1, .bool Y.2]) rfl (by kernel_rfl) (by kernel_rfl) (by kernel_rfl) (fun _ _ _ h => h) (Or.inl ⟨by kernel_rfl, fun w' hS => by go_simp⟩) (by assumption) ?_
          try simp only [Act.put, List.setIfInBounds_toArray, List.set_cons_succ, List.set_cons_zero]
          refine wpAnyH_take (i := 7) (oi := ⟨some 33, _, _, _, _, _⟩) (v := .agg C1) rfl (by kernel_rfl) (by kernel_rfl) (by kernel_rfl) (fun _ _ _ h => h) (Or.inl ⟨by kernel_rfl, fun w' hS => by go_simp⟩) (by assumption) ?_
          try simp only [Act.put, List.setIfInBounds_toArray, List.set_cons_succ, List.set_cons_zero]
          refine wpAnyH_take (i := 8) (oi := ⟨some 34, _, _, _, _, _⟩) (v := .bool Y.2) rfl (by kernel_rfl) (by kernel_rfl) (by kernel_rfl) (fun _ _ _ h => h) (Or.inl ⟨by kernel_rfl, fun w' hS => by go_simp⟩) (by assumption) ?_
          try simp only [Act.put, List.setIfInBounds_toArray, List.set_cons_succ, List.set_cons_zero]
          refine wpAnyH_ready (rs := [9]) (by kernel_rfl) (by simp) ?_
          refine AllReadyH.cons (o := ⟨some 11, _, _, _, _, _⟩) rfl (fun K hK => ?_) AllReadyH.nil
          have ka3 := (Kept.refl (fun _ => False) wt2).alloc (.cells Z59 59)
          have zA3 := Lib.hid (heap_alloc_new wt2 (.cells Z59 59))
          have hT3 : Kept (fun _ => False) w8 (wt2.alloc (.cells Z59 59)) := hT2.trans ka3
          have hB3 := Lib.hid (hT2.size)
          refine step_alloc59 (by kernel_rfl) ?_
          refine hK.out _ _ hT3 (fun hHeld => ?_)
          clear hK K
          try simp only [Act.put, List.setIfInBounds_toArray, List.set_cons_succ, List.set_cons_zero]
          generalize hwA3 : wt2.alloc (.cells Z59 59) = wA3 at *
          generalize wt2.heap.size = BA at *
          refine wpAnyH_ready (rs := [10]) (by kernel_rfl) (by simp) ?_
          refine AllReadyH.cons (o := ⟨none, _, _, _, _, _⟩) rfl (fun K hK => ?_) AllReadyH.nil
          refine step_store59 (C := C1) (g := BA) (o := 0) (by kernel_rfl) rfl rfl hz1.out ho1.out zA3.out hzz.out ?_
          intro wz gz kz
          rw [puts_all (Z59_size.trans hz1.out.symm)] at gz
          have hTz : Kept (fun _ => False) w8 wz := hT3.trans' kz (fun i hi e => by have e' : i = BA := e; have := hB3.out; omega)
          refine hK.out _ _ hTz (fun hHeld => ?_)
          clear hK K
          try simp only [Act.put, List.setIfInBounds_toArray, List.set_cons_succ, List.set_cons_zero]
          refine wpAnyH_take (i := 11) (oi := ⟨some 12, _, _, _, _, _⟩) (v := .bool Y.2) rfl (by kernel_rfl) (by kernel_rfl) (by kernel_rfl) (fun _ _ _ h => h) (Or.inl ⟨by kernel_rfl, fun w' hS => by go_simp⟩) (by assumption) ?_
          try simp only [Act.put, List.setIfInBounds_toArray, List.set_cons_succ, List.set_cons_zero]
          refine wpAnyH_done (by kernel_rfl) ?_ _
          have GZf := Lib.hid gz
          have KZf := Lib.hid hTz
          clear gz kz hTz hHeld
          go_wp2_with fail
          go_meet
          exact ⟨BA, rfl, rfl, GZf, KZf⟩
        · refine AllReadyH.cons (o := ⟨some 11, _, _, _, _, _⟩) rfl (fun K hK => ?_) AllReadyH.nil
          have ka4 := (Kept.refl (fun _ => False) wn1).alloc (.cells Z59 59)
          have zA4 := Lib.hid (heap_alloc_new wn1 (.cells Z59 59))
          have hT4 : Kept (fun _ => False) w8 (wn1.alloc (.cells Z59 59)) := hT1.trans ka4
          have hB4 := Lib.hid (hT1.size)
          refine step_alloc59 (by kernel_rfl) ?_
          refine hK.out _ _ hT4 (fun hHeld => ?_)
          clear hK K
          try simp only [Act.put, List.setIfInBounds_toArray, List.set_cons_succ, List.set_cons_zero]
          generalize hwA4 : wn1.alloc (.cells Z59 59) = wA4 at *
          generalize wn1.heap.size = BA at *
          refine wpAnyH_ready (rs := [5]) (by kernel_rfl) (by simp) ?_
          refine AllReadyH.cons (o := ⟨some 32, _, _, _, _, _⟩) rfl (fun K hK => ?_) AllReadyH.nil
          have HQ := HTNH.out wA4
          rw [HY1.out, HY2.out, ← HC1.out] at HQ
          have HQH := Lib.hid HQ
          clear HQ
          go_simp
          refine HQH.out.mono ?_
          rintro e wt5 ⟨rfl, kt⟩
          have hT5 : Kept (fun _ => False) w8 wt5 := hT4.trans kt
          have zA5 := Lib.hid (kt.row zA4.out)
          clear HQH
          go_wp2_with fail
          refine hK.out _ _ hT5 (fun hHeld => ?_)
          clear hK K
          try simp only [Act.put, List.setIfInBounds_toArray, List.set_cons_succ, List.set_cons_zero]
          refine wpAnyH_take (i := 6) (oi := ⟨some 26, _, _, _, _, _⟩) (v := .tuple #[.agg C1, .bool Y.2]) rfl (by kernel_rfl) (by kernel_rfl) (by kernel_rfl) (fun _ _ _ h => h) (Or.inl ⟨by kernel_rfl, fun w' hS => by go_simp⟩) (by assumption) ?_
          try simp only [Act.put, List.setIfInBounds_toArray, List.set_cons_succ, List.set_cons_zero]
          refine wpAnyH_take (i := 7) (oi := ⟨some 33, _, _, _, _, _⟩) (v := .agg C1) rfl (by kernel_rfl) (by kernel_rfl) (by kernel_rfl) (fun _ _ _ h => h) (Or.inl ⟨by kernel_rfl, fun w' hS => by go_simp⟩) (by assumption) ?_
          try simp only [Act.put, List.setIfInBounds_toArray, List.set_cons_succ, List.set_cons_zero]
          refine wpAnyH_take (i := 8) (oi := ⟨some 34, _, _, _, _, _⟩) (v := .bool Y.2) rfl (by kernel_rfl) (by kernel_rfl) (by kernel_rfl) (fun _ _ _ h => h) (Or.inl ⟨by kernel_rfl, fun w' hS => by go_simp⟩) (by assumption) ?_
          try simp only [Act.put, List.setIfInBounds_toArray, List.set_cons_succ, List.set_cons_zero]
          refine wpAnyH_ready (rs := [10]) (by kernel_rfl) (by simp) ?_
          refine AllReadyH.cons (o := ⟨none, _, _, _, _, _⟩) rfl (fun K hK => ?_) AllReadyH.nil
          refine step_store59 (C := C1) (g := BA) (o := 0) (by kernel_rfl) rfl rfl hz1.out ho1.out zA5.out hzz.out ?_
          intro wz gz kz
          rw [puts_all (Z59_size.trans hz1.out.symm)] at gz
          have hTz : Kept (fun _ => False) w8 wz := hT5.trans' kz (fun i hi e => by have e' : i = BA := e; have := hB4.out; omega)
          refine hK.out _ _ hTz (fun hHeld => ?_)
          clear hK K
          try simp only [Act.put, List.setIfInBounds_toArray, List.set_cons_succ, List.set_cons_zero]
          refine wpAnyH_take (i := 11) (oi := ⟨some 12, _, _, _, _, _⟩) (v := .bool Y.2) rfl (by kernel_rfl) (by kernel_rfl) (by kernel_rfl) (fun _ _ _ h => h) (Or.inl ⟨by kernel_rfl, fun w' hS => by go_simp⟩) (by assumption) ?_
          try simp only [Act.put, List.setIfInBounds_toArray, List.set_cons_succ, List.set_cons_zero]
          refine wpAnyH_done (by kernel_rfl) ?_ _
          have GZf := Lib.hid gz
          have KZf := Lib.hid hTz
          clear gz kz hTz hHeld
          go_wp2_with fail
          go_meet
          exact ⟨BA, rfl, rfl, GZf, KZf⟩
      · refine AllReadyH.cons (o := ⟨some 11, _, _, _, _, _⟩) rfl (fun K hK => ?_) AllReadyH.nil
        have ka6 := (Kept.refl (fun _ => False) w8).alloc (.cells Z59 59)
        have zA6 := Lib.hid (heap_alloc_new w8 (.cells Z59 59))
        have hT6 : Kept (fun _ => False) w8 (w8.alloc (.cells Z59 59)) := hT0.trans ka6
        have hB6 := Lib.hid (hT0.size)
        refine step_alloc59 (by kernel_rfl) ?_
        refine hK.out _ _ hT6 (fun hHeld => ?_)
        clear hK K
        try simp only [Act.put, List.setIfInBounds_toArray, List.set_cons_succ, List.set_cons_zero]
        generalize hwA6 : w8.alloc (.cells Z59 59) = wA6 at *
        refine wpAnyH_ready (rs := [2]) (by kernel_rfl) (by simp) ?_
        refine AllReadyH.cons (o := ⟨some 29, _, _, _, _, _⟩) rfl (fun K hK => ?_) AllReadyH.nil
        have HN := Lib.hid (f_new_no (.slice pa k.parts.length pc) (.slice wa k.wits.length wcp) k n wA6 (HK7.out.kept hT6) HKN.out)
        go_simp
        refine HN.out.mono ?_
        rintro e wn7 ⟨rfl, kn⟩
        have hT7 : Kept (fun _ => False) w8 wn7 := hT6.trans kn
        have zA7 := Lib.hid (kn.row zA6.out)
        clear HN
        go_wp2_with fail
        refine hK.out _ _ hT7 (fun hHeld => ?_)
        clear hK K
        try simp only [Act.put, List.setIfInBounds_toArray, List.set_cons_succ, List.set_cons_zero]
        refine wpAnyH_ready (rs := [5]) (by kernel_rfl) (by simp) ?_
        refine AllReadyH.cons (o := ⟨some 32, _, _, _, _, _⟩) rfl (fun K hK => ?_) AllReadyH.nil
        have HQ := HTNH.out wn7
        rw [HY1.out, HY2.out, ← HC1.out] at HQ
        have HQH := Lib.hid HQ
        clear HQ
        go_simp
        refine HQH.out.mono ?_
        rintro e wt8 ⟨rfl, kt⟩
        have hT8 : Kept (fun _ => False) w8 wt8 := hT7.trans kt
        have zA8 := Lib.hid (kt.row zA7.out)
        clear HQH
        go_wp2_with fail
        refine hK.out _ _ hT8 (fun hHeld => ?_)
        clear hK K
        try simp only [Act.put, List.setIfInBounds_toArray, List.set_cons_succ, List.set_cons_zero]
        refine wpAnyH_take (i := 6) (oi := ⟨some 26, _, _, _, _, _⟩) (v := .tuple #[.agg C1, .bool Y.2]) rfl (by kernel_rfl) (by kernel_rfl) (by kernel_rfl) (fun _ _ _ h => h) (Or.inl ⟨by kernel_rfl, fun w' hS => by go_simp⟩) (by assumption) ?_
        try simp only [Act.put, List.setIfInBounds_toArray, List.set_cons_succ, List.set_cons_zero]
        refine wpAnyH_take (i := 7) (oi := ⟨some 33, _, _, _, _, _⟩) (v := .agg C1) rfl (by kernel_rfl) (by kernel_rfl) (by kernel_rfl) (fun _ _ _ h => h) (Or.inl ⟨by kernel_rfl, fun w' hS => by go_simp⟩) (by assumption) ?_
        try simp only [Act.put, List.setIfInBounds_toArray, List.set_cons_succ, List.set_cons_zero]
        refine wpAnyH_take (i := 8) (oi := ⟨some 34, _, _, _, _, _⟩) (v := .bool Y.2) rfl (by kernel_rfl) (by kernel_rfl) (by kernel_rfl) (fun _ _ _ h => h) (Or.inl ⟨by kernel_rfl, fun w' hS => by go_simp⟩) (by assumption) ?_
        try simp only [Act.put, List.setIfInBounds_toArray, List.set_cons_succ, List.set_cons_zero]
        refine wpAnyH_ready (rs := [10]) (by kernel_rfl) (by simp) ?_
        refine AllReadyH.cons (o := ⟨none, _, _, _, _, _⟩) rfl (fun K hK => ?_) AllReadyH.nil
        refine step_store59 (C := C1) (g := w8.heap.size) (o := 0) (by kernel_rfl) rfl rfl hz1.out ho1.out zA8.out hzz.out ?_
        intro wz gz kz
        rw [puts_all (Z59_size.trans hz1.out.symm)] at gz
        have hTz : Kept (fun _ => False) w8 wz := hT8.trans' kz (fun i hi e => by have e' : i = w8.heap.size := e; have := Nat.le_refl w8.heap.size; omega)
        refine hK.out _ _ hTz (fun hHeld => ?_)
        clear hK K
        try simp only [Act.put, List.setIfInBounds_toArray, List.set_cons_succ, List.set_cons_zero]
        refine wpAnyH_take (i := 11) (oi := ⟨some 12, _, _, _, _, _⟩) (v := .bool Y.2) rfl (by kernel_rfl) (by kernel_rfl) (by kernel_rfl) (fun _ _ _ h => h) (Or.inl ⟨by kernel_rfl, fun w' hS => by go_simp⟩) (by assumption) ?_
        try simp only [Act.put, List.setIfInBounds_toArray, List.set_cons_succ, List.set_cons_zero]
        refine wpAnyH_done (by kernel_rfl) ?_ _
        have GZf := Lib.hid gz
        have KZf := Lib.hid hTz
        clear gz kz hTz hHeld
        go_wp2_with fail
        go_meet
        exact ⟨w8.heap.size, rfl, rfl, GZf, KZf⟩
    | true =>
      have HKN := Lib.hid hkn
      have HY1 : Hid ((pTake k n 0 [] c rf).1 = Y.1) := by show _ = _; rw [HY.out, newTake, if_pos hkn]
      have HY2 : Hid ((pTake k n 0 [] c rf).2.1 = Y.2) := by show _ = _; rw [HY.out, newTake, if_pos hkn]
      clear hkn
      refine wpAnyH_take (i := 0) (oi := ⟨some 27, _, _, _, _, _⟩) (v := .agg #[.slice pa k.parts.length pc, .slice wa k.wits.length wcp, .int .i64 k.need]) rfl (by kernel_rfl) (by kernel_rfl) (by kernel_rfl) (fun _ _ _ h => h) (Or.inl ⟨by kernel_rfl, fun w' hS => by have c0 := row_cell (k := 0) (hS.row G7.out) (v := .slice pa k.parts.length pc) (rfl); have c1 := row_cell (k := 1) (hS.row G7.out) (v := .slice wa k.wits.length wcp) (rfl); have c2 := row_cell (k := 2) (hS.row G7.out) (v := .int .i64 k.need) (rfl); go_simp⟩) (by assumption) ?_
      try simp only [Act.put, List.setIfInBounds_toArray, List.set_cons_succ, List.set_cons_zero]
      refine wpAnyH_take (i := 1) (oi := ⟨some 28, _, _, _, _, _⟩) (v := .int .i64 n) rfl (by kernel_rfl) (by kernel_rfl) (by kernel_rfl) (fun _ _ _ h => h) (Or.inl ⟨by kernel_rfl, fun w' hS => by go_simp⟩) (by assumption) ?_
      try simp only [Act.put, List.setIfInBounds_toArray, List.set_cons_succ, List.set_cons_zero]
      refine wpAnyH_take (i := 3) (oi := ⟨some 30, _, _, _, _, _⟩) (v := .agg CC) rfl (by kernel_rfl) (by kernel_rfl) (by kernel_rfl) (fun _ _ _ h => h) (yields59 (C := CC) (g := w.heap.size + 1) (o := 0) (by kernel_rfl) rfl (fun w' hS => range_row (hS.row X7.out)) hzc.out) (by assumption) ?_
      try simp only [Act.put, List.setIfInBounds_toArray, List.set_cons_succ, List.set_cons_zero]
      refine wpAnyH_take (i := 4) (oi := ⟨some 31, _, _, _, _, _⟩) (v := .bool rf) rfl (by kernel_rfl) (by kernel_rfl) (by kernel_rfl) (fun _ _ _ h => h) (Or.inl ⟨by kernel_rfl, fun w' hS => by go_simp⟩) (by assumption) ?_
      try simp only [Act.put, List.setIfInBounds_toArray, List.set_cons_succ, List.set_cons_zero]
      refine wpAnyH_ready (rs := [2, 9]) (by kernel_rfl) (by simp) ?_
      refine AllReadyH.cons (o := ⟨some 29, _, _, _, _, _⟩) rfl (fun K hK => ?_) ?_
      · skip
        have HN := Lib.hid (f_new_yes (.slice pa k.parts.length pc) (.slice wa k.wits.length wcp) k n w8 (HL7.out.kept hT0) (HK7.out.kept hT0) HKN.out)
        go_simp
        refine HN.out.mono ?_
        rintro e wn9 ⟨g, r, rfl, hpn, kn, hgn⟩
        have HPn9 := Lib.hid (hpn.base (hT0.mono fun _ _ e => e.elim) HK7.out HL7.out)
        have hT9 : Kept (fun _ => False) w8 wn9 := hT0.trans kn
        clear HN hpn hgn
        go_wp2_with fail
        refine hK.out _ _ hT9 (fun hHeld => ?_)
        clear hK K
        try simp only [Act.put, List.setIfInBounds_toArray, List.set_cons_succ, List.set_cons_zero]
        refine wpAnyH_ready (rs := [5, 9]) (by kernel_rfl) (by simp) ?_
        refine AllReadyH.cons (o := ⟨some 32, _, _, _, _, _⟩) rfl (fun K hK => ?_) ?_
        · skip
          have HQ := HTKH.out wn9 g r HPn9.out
          unfold takeV at HQ
          rw [HY1.out, HY2.out, ← HC1.out] at HQ
          have HQH := Lib.hid HQ
          clear HQ
          go_simp
          refine HQH.out.mono ?_
          rintro e wt10 ⟨rfl, svt, hpt, kt, hot⟩
          have hT10 : Kept (fun _ => False) w8 wt10 := hT9.trans' kt (fun i hi e => absurd hi (Nat.not_lt.2 (HPn9.out.loS i e)))
          clear HQH hpt hot
          go_wp2_with fail
          refine hK.out _ _ hT10 (fun hHeld => ?_)
          clear hK K
          try simp only [Act.put, List.setIfInBounds_toArray, List.set_cons_succ, List.set_cons_zero]
          refine wpAnyH_take (i := 6) (oi := ⟨some 26, _, _, _, _, _⟩) (v := .tuple #[.agg C1, .bool Y.2]) rfl (by kernel_rfl) (by kernel_rfl) (by kernel_rfl) (fun _ _ _ h => h) (Or.inl ⟨by kernel_rfl, fun w' hS => by go_simp⟩) (by assumption) ?_
          try simp only [Act.put, List.setIfInBounds_toArray, List.set_cons_succ, List.set_cons_zero]
          refine wpAnyH_take (i := 7) (oi := ⟨some 33, _, _, _, _, _⟩) (v := .agg C1) rfl (by kernel_rfl) (by kernel_rfl) (by kernel_rfl) (fun _ _ _ h => h) (Or.inl ⟨by kernel_rfl, fun w' hS => by go_simp⟩) (by assumption) ?_
          try simp only [Act.put, List.setIfInBounds_toArray, List.set_cons_succ, List.set_cons_zero]
          refine wpAnyH_take (i := 8) (oi := ⟨some 34, _, _, _, _, _⟩) (v := .bool Y.2) rfl (by kernel_rfl) (by kernel_rfl) (by kernel_rfl) (fun _ _ _ h => h) (Or.inl ⟨by kernel_rfl, fun w' hS => by go_simp⟩) (by assumption) ?_
          try simp only [Act.put, List.setIfInBounds_toArray, List.set_cons_succ, List.set_cons_zero]
          refine wpAnyH_ready (rs := [9]) (by kernel_rfl) (by simp) ?_
          refine AllReadyH.cons (o := ⟨some 11, _, _, _, _, _⟩) rfl (fun K hK => ?_) AllReadyH.nil
          have ka11 := (Kept.refl (fun _ => False) wt10).alloc (.cells Z59 59)
          have zA11 := Lib.hid (heap_alloc_new wt10 (.cells Z59 59))
          have hT11 : Kept (fun _ => False) w8 (wt10.alloc (.cells Z59 59)) := hT10.trans ka11
          have hB11 := Lib.hid (hT10.size)
          refine step_alloc59 (by kernel_rfl) ?_
          refine hK.out _ _ hT11 (fun hHeld => ?_)
          clear hK K
          try simp only [Act.put, List.setIfInBounds_toArray, List.set_cons_succ, List.set_cons_zero]
          generalize hwA11 : wt10.alloc (.cells Z59 59) = wA11 at *
          generalize wt10.heap.size = BA at *
          refine wpAnyH_ready (rs := [10]) (by kernel_rfl) (by simp) ?_
          refine AllReadyH.cons (o := ⟨none, _, _, _, _, _⟩) rfl (fun K hK => ?_) AllReadyH.nil
          refine step_store59 (C := C1) (g := BA) (o := 0) (by kernel_rfl) rfl rfl hz1.out ho1.out zA11.out hzz.out ?_
          intro wz gz kz
          rw [puts_all (Z59_size.trans hz1.out.symm)] at gz
          have hTz : Kept (fun _ => False) w8 wz := hT11.trans' kz (fun i hi e => by have e' : i = BA := e; have := hB11.out; omega)
          refine hK.out _ _ hTz (fun hHeld => ?_)
          clear hK K
          try simp only [Act.put, List.setIfInBounds_toArray, List.set_cons_succ, List.set_cons_zero]
          refine wpAnyH_take (i := 11) (oi := ⟨some 12, _, _, _, _, _⟩) (v := .bool Y.2) rfl (by kernel_rfl) (by kernel_rfl) (by kernel_rfl) (fun _ _ _ h => h) (Or.inl ⟨by kernel_rfl, fun w' hS => by go_simp⟩) (by assumption) ?_
          try simp only [Act.put, List.setIfInBounds_toArray, List.set_cons_succ, List.set_cons_zero]
          refine wpAnyH_done (by kernel_rfl) ?_ _
          have GZf := Lib.hid gz
          have KZf := Lib.hid hTz
          clear gz kz hTz hHeld
          go_wp2_with fail
          go_meet
          exact ⟨BA, rfl, rfl, GZf, KZf⟩
        · refine AllReadyH.cons (o := ⟨some 11, _, _, _, _, _⟩) rfl (fun K hK => ?_) AllReadyH.nil
          have ka12 := (Kept.refl (fun _ => False) wn9).alloc (.cells Z59 59)
          have zA12 := Lib.hid (heap_alloc_new wn9 (.cells Z59 59))
          have hT12 : Kept (fun _ => False) w8 (wn9.alloc (.cells Z59 59)) := hT9.trans ka12
          have hB12 := Lib.hid (hT9.size)
          refine step_alloc59 (by kernel_rfl) ?_
          refine hK.out _ _ hT12 (fun hHeld => ?_)
          clear hK K
          try simp only [Act.put, List.setIfInBounds_toArray, List.set_cons_succ, List.set_cons_zero]
          have HPn12 := Lib.hid (HPn9.out.same ka12)
          generalize hwA12 : wn9.alloc (.cells Z59 59) = wA12 at *
          generalize wn9.heap.size = BA at *
          refine wpAnyH_ready (rs := [5]) (by kernel_rfl) (by simp) ?_
          refine AllReadyH.cons (o := ⟨some 32, _, _, _, _, _⟩) rfl (fun K hK => ?_) AllReadyH.nil
          have HQ := HTKH.out wA12 g r HPn12.out
          unfold takeV at HQ
          rw [HY1.out, HY2.out, ← HC1.out] at HQ
          have HQH := Lib.hid HQ
          clear HQ
          go_simp
          refine HQH.out.mono ?_
          rintro e wt13 ⟨rfl, svt, hpt, kt, hot⟩
          have hT13 : Kept (fun _ => False) w8 wt13 := hT12.trans' kt (fun i hi e => absurd hi (Nat.not_lt.2 (HPn12.out.loS i e)))
          have zA13 := Lib.hid (kt.rowS (HPn12.out.other zA12.out (by decide) (by decide)) zA12.out)
          clear HQH hpt hot
          go_wp2_with fail
          refine hK.out _ _ hT13 (fun hHeld => ?_)
          clear hK K
          try simp only [Act.put, List.setIfInBounds_toArray, List.set_cons_succ, List.set_cons_zero]
          refine wpAnyH_take (i := 6) (oi := ⟨some 26, _, _, _, _, _⟩) (v := .tuple #[.agg C1, .bool Y.2]) rfl (by kernel_rfl) (by kernel_rfl) (by kernel_rfl) (fun _ _ _ h => h) (Or.inl ⟨by kernel_rfl, fun w' hS => by go_simp⟩) (by assumption) ?_
          try simp only [Act.put, List.setIfInBounds_toArray, List.set_cons_succ, List.set_cons_zero]
          refine wpAnyH_take (i := 7) (oi := ⟨some 33, _, _, _, _, _⟩) (v := .agg C1) rfl (by kernel_rfl) (by kernel_rfl) (by kernel_rfl) (fun _ _ _ h => h) (Or.inl ⟨by kernel_rfl, fun w' hS => by go_simp⟩) (by assumption) ?_
          try simp only [Act.put, List.setIfInBounds_toArray, List.set_cons_succ, List.set_cons_zero]
          refine wpAnyH_take (i := 8) (oi := ⟨some 34, _, _, _, _, _⟩) (v := .bool Y.2) rfl (by kernel_rfl) (by kernel_rfl) (by kernel_rfl) (fun _ _ _ h => h) (Or.inl ⟨by kernel_rfl, fun w' hS => by go_simp⟩) (by assumption) ?_
          try simp only [Act.put, List.setIfInBounds_toArray, List.set_cons_succ, List.set_cons_zero]
          refine wpAnyH_ready (rs := [10]) (by kernel_rfl) (by simp) ?_
          refine AllReadyH.cons (o := ⟨none, _, _, _, _, _⟩) rfl (fun K hK => ?_) AllReadyH.nil
          refine step_store59 (C := C1) (g := BA) (o := 0) (by kernel_rfl) rfl rfl hz1.out ho1.out zA13.out hzz.out ?_
          intro wz gz kz
          rw [puts_all (Z59_size.trans hz1.out.symm)] at gz
          have hTz : Kept (fun _ => False) w8 wz := hT13.trans' kz (fun i hi e => by have e' : i = BA := e; have := hB12.out; omega)
          refine hK.out _ _ hTz (fun hHeld => ?_)
          clear hK K
          try simp only [Act.put, List.setIfInBounds_toArray, List.set_cons_succ, List.set_cons_zero]
          refine wpAnyH_take (i := 11) (oi := ⟨some 12, _, _, _, _, _⟩) (v := .bool Y.2) rfl (by kernel_rfl) (by kernel_rfl) (by kernel_rfl) (fun _ _ _ h => h) (Or.inl ⟨by kernel_rfl, fun w' hS => by go_simp⟩) (by assumption) ?_
          try simp only [Act.put, List.setIfInBounds_toArray, List.set_cons_succ, List.set_cons_zero]
          refine wpAnyH_done (by kernel_rfl) ?_ _
          have GZf := Lib.hid gz
          have KZf := Lib.hid hTz
          clear gz kz hTz hHeld
          go_wp2_with fail
          go_meet
          exact ⟨BA, rfl, rfl, GZf, KZf⟩
      · refine AllReadyH.cons (o := ⟨some 11, _, _, _, _, _⟩) rfl (fun K hK => ?_) AllReadyH.nil
        have ka14 := (Kept.refl (fun _ => False) w8).alloc (.cells Z59 59)
        have zA14 := Lib.hid (heap_alloc_new w8 (.cells Z59 59))
        have hT14 : Kept (fun _ => False) w8 (w8.alloc (.cells Z59 59)) := hT0.trans ka14
        have hB14 := Lib.hid (hT0.size)
        refine step_alloc59 (by kernel_rfl) ?_
        refine hK.out _ _ hT14 (fun hHeld => ?_)
        clear hK K
        try simp only [Act.put, List.setIfInBounds_toArray, List.set_cons_succ, List.set_cons_zero]
        generalize hwA14 : w8.alloc (.cells Z59 59) = wA14 at *
        refine wpAnyH_ready (rs := [2]) (by kernel_rfl) (by simp) ?_
        refine AllReadyH.cons (o := ⟨some 29, _, _, _, _, _⟩) rfl (fun K hK => ?_) AllReadyH.nil
        have HN := Lib.hid (f_new_yes (.slice pa k.parts.length pc) (.slice wa k.wits.length wcp) k n wA14 (HL7.out.kept hT14) (HK7.out.kept hT14) HKN.out)
        go_simp
        refine HN.out.mono ?_
        rintro e wn15 ⟨g, r, rfl, hpn, kn, hgn⟩
        have HPn15 := Lib.hid (hpn.base (hT14.mono fun _ _ e => e.elim) HK7.out HL7.out)
        have hT15 : Kept (fun _ => False) w8 wn15 := hT14.trans kn
        have zA15 := Lib.hid (kn.row zA14.out)
        clear HN hpn hgn
        go_wp2_with fail
        refine hK.out _ _ hT15 (fun hHeld => ?_)
        clear hK K
        try simp only [Act.put, List.setIfInBounds_toArray, List.set_cons_succ, List.set_cons_zero]
        refine wpAnyH_ready (rs := [5]) (by kernel_rfl) (by simp) ?_
        refine AllReadyH.cons (o := ⟨some 32, _, _, _, _, _⟩) rfl (fun K hK => ?_) AllReadyH.nil
        have HQ := HTKH.out wn15 g r HPn15.out
        unfold takeV at HQ
        rw [HY1.out, HY2.out, ← HC1.out] at HQ
        have HQH := Lib.hid HQ
        clear HQ
        go_simp
        refine HQH.out.mono ?_
        rintro e wt16 ⟨rfl, svt, hpt, kt, hot⟩
        have hT16 : Kept (fun _ => False) w8 wt16 := hT15.trans' kt (fun i hi e => absurd hi (Nat.not_lt.2 (HPn15.out.loS i e)))
        have zA16 := Lib.hid (kt.rowS (HPn15.out.other zA15.out (by decide) (by decide)) zA15.out)
        clear HQH hpt hot
        go_wp2_with fail
        refine hK.out _ _ hT16 (fun hHeld => ?_)
        clear hK K
        try simp only [Act.put, List.setIfInBounds_toArray, List.set_cons_succ, List.set_cons_zero]
        refine wpAnyH_take (i := 6) (oi := ⟨some 26, _, _, _, _, _⟩) (v := .tuple #[.agg C1, .bool Y.2]) rfl (by kernel_rfl) (by kernel_rfl) (by kernel_rfl) (fun _ _ _ h => h) (Or.inl ⟨by kernel_rfl, fun w' hS => by go_simp⟩) (by assumption) ?_
        try simp only [Act.put, List.setIfInBounds_toArray, List.set_cons_succ, List.set_cons_zero]
        refine wpAnyH_take (i := 7) (oi := ⟨some 33, _, _, _, _, _⟩) (v := .agg C1) rfl (by kernel_rfl) (by kernel_rfl) (by kernel_rfl) (fun _ _ _ h => h) (Or.inl ⟨by kernel_rfl, fun w' hS => by go_simp⟩) (by assumption) ?_
        try simp only [Act.put, List.setIfInBounds_toArray, List.set_cons_succ, List.set_cons_zero]
        refine wpAnyH_take (i := 8) (oi := ⟨some 34, _, _, _, _, _⟩) (v := .bool Y.2) rfl (by kernel_rfl) (by kernel_rfl) (by kernel_rfl) (fun _ _ _ h => h) (Or.inl ⟨by kernel_rfl, fun w' hS => by go_simp⟩) (by assumption) ?_
        try simp only [Act.put, List.setIfInBounds_toArray, List.set_cons_succ, List.set_cons_zero]
        refine wpAnyH_ready (rs := [10]) (by kernel_rfl) (by simp) ?_
        refine AllReadyH.cons (o := ⟨none, _, _, _, _, _⟩) rfl (fun K hK => ?_) AllReadyH.nil
        refine step_store59 (C := C1) (g := w8.heap.size) (o := 0) (by kernel_rfl) rfl rfl hz1.out ho1.out zA16.out hzz.out ?_
        intro wz gz kz
        rw [puts_all (Z59_size.trans hz1.out.symm)] at gz
        have hTz : Kept (fun _ => False) w8 wz := hT16.trans' kz (fun i hi e => by have e' : i = w8.heap.size := e; have := Nat.le_refl w8.heap.size; omega)
        refine hK.out _ _ hTz (fun hHeld => ?_)
        clear hK K
        try simp only [Act.put, List.setIfInBounds_toArray, List.set_cons_succ, List.set_cons_zero]
        refine wpAnyH_take (i := 11) (oi := ⟨some 12, _, _, _, _, _⟩) (v := .bool Y.2) rfl (by kernel_rfl) (by kernel_rfl) (by kernel_rfl) (fun _ _ _ h => h) (Or.inl ⟨by kernel_rfl, fun w' hS => by go_simp⟩) (by assumption) ?_
        try simp only [Act.put, List.setIfInBounds_toArray, List.set_cons_succ, List.set_cons_zero]
        refine wpAnyH_done (by kernel_rfl) ?_ _
        have GZf := Lib.hid gz
        have KZf := Lib.hid hTz
        clear gz kz hTz hHeld
        go_wp2_with fail
        go_meet
        exact ⟨w8.heap.size, rfl, rfl, GZf, KZf⟩
  case rest =>
    obtain ⟨B, rfl, rfl, YB, KX⟩ := hcut
    have K8 := Lib.hid (K7.out.trans KX.out)
    have GX := Lib.hid (KX.out.row G7.out)
    cases hok : Y.2 with
    | false =>
      go_upto_region 8 with (fail)
      go_quiet (fail)
      go_wp2_with fail
      go_ret
      exact BPost.mk rfl (K8.out.drewN _)
    | true =>
      obtain ⟨gd, hkn, hi, hy1⟩ := newTake_ok (k := k) (n := n) (c := c) (refuse := rf) (by rw [← HY.out]; exact hok)
      rw [← HY.out] at hy1
      have HKN := Lib.hid hkn
      have HI := Lib.hid hi
      have HY1 := Lib.hid hy1
      clear hkn hi hy1
      by_cases h1 : seq < 1
      · have d1 : decide (seq < 1) = true := decide_eq_true h1
        clear h1
        go_upto_region 8 with (fail)
        go_quiet (fail)
        go_wp2_with fail
        go_ret
        exact BPost.mk rfl (K8.out.drewN _)
      · have d1 : decide (seq < 1) = false := decide_eq_false h1
        by_cases h2 : 400 < seq
        · have d2 : decide (400 < seq) = true := decide_eq_true h2
          clear h1 h2
          go_upto_region 8 with (fail)
          go_quiet (fail)
          go_wp2_with fail
          go_ret
          exact BPost.mk rfl (K8.out.drewN _)
        · have d2 : decide (400 < seq) = false := decide_eq_false h2
          have HSQ : Hid (1 ≤ seq ∧ seq ≤ 400) := ⟨by omega, by omega⟩
          clear h1 h2
          go_upto_region 8 with (fail)
          have kd := (Kept.refl (fun _ => False) wc).drew
          have GXd := Lib.hid (kd.row GX.out)
          have YBd := Lib.hid (kd.row YB.out)
          have K9 := Lib.hid (K8.out.trans kd)
          have HKX := Lib.hid (HK7.out.kept (KX.out.trans kd))
          have HLX := Lib.hid (HL7.out.kept (KX.out.trans kd))
          refine wp_region_held_drew (S := fun w' => Kept (fun _ => False) wc.drew w') (by kernel_rfl) (Kept.refl _ _) (fun hHeld => ?_)
          clear kd K8 GX YB KX
          generalize wc.drew = wd at *
          have hU0 : Kept (fun _ => False) wd wd := Kept.refl _ _
          refine wpAnyH_take (i := 0) (oi := ⟨some 35, _, _, _, _, _⟩) (v := .bool true) rfl (by kernel_rfl) (by kernel_rfl) (by kernel_rfl) (fun _ _ _ h => h) (Or.inl ⟨by kernel_rfl, fun w' hS => by go_simp⟩) (by assumption) ?_
          try simp only [Act.put, List.setIfInBounds_toArray, List.set_cons_succ, List.set_cons_zero]
          refine wpAnyH_take (i := 1) (oi := ⟨some 36, _, _, _, _, _⟩) (v := .bool false) rfl (by kernel_rfl) (by kernel_rfl) (by kernel_rfl) (fun _ _ _ h => h) (Or.inl ⟨by kernel_rfl, fun w' hS => by go_simp⟩) (by assumption) ?_
          try simp only [Act.put, List.setIfInBounds_toArray, List.set_cons_succ, List.set_cons_zero]
          refine wpAnyH_take (i := 2) (oi := ⟨some 37, _, _, _, _, _⟩) (v := .bool false) rfl (by kernel_rfl) (by kernel_rfl) (by kernel_rfl) (fun _ _ _ h => h) (Or.inl ⟨by kernel_rfl, fun w' hS => by go_simp⟩) (by assumption) ?_
          try simp only [Act.put, List.setIfInBounds_toArray, List.set_cons_succ, List.set_cons_zero]
          refine wpAnyH_take (i := 3) (oi := ⟨some 38, _, _, _, _, _⟩) (v := .int .i64 seq) rfl (by kernel_rfl) (by kernel_rfl) (by kernel_rfl) (fun _ _ _ h => h) (Or.inl ⟨by kernel_rfl, fun w' hS => by go_simp⟩) (by assumption) ?_
          try simp only [Act.put, List.setIfInBounds_toArray, List.set_cons_succ, List.set_cons_zero]
          refine wpAnyH_take (i := 4) (oi := ⟨some 39, _, _, _, _, _⟩) (v := .bool false) rfl (by kernel_rfl) (by kernel_rfl) (by kernel_rfl) (fun _ _ _ h => h) (Or.inl ⟨by kernel_rfl, fun w' hS => by have t0 := d1; go_simp⟩) (by assumption) ?_
          try simp only [Act.put, List.setIfInBounds_toArray, List.set_cons_succ, List.set_cons_zero]
          refine wpAnyH_take (i := 5) (oi := ⟨some 40, _, _, _, _, _⟩) (v := .bool false) rfl (by kernel_rfl) (by kernel_rfl) (by kernel_rfl) (fun _ _ _ h => h) (Or.inl ⟨by kernel_rfl, fun w' hS => by go_simp⟩) (by assumption) ?_
          try simp only [Act.put, List.setIfInBounds_toArray, List.set_cons_succ, List.set_cons_zero]
          refine wpAnyH_take (i := 6) (oi := ⟨some 41, _, _, _, _, _⟩) (v := .bool false) rfl (by kernel_rfl) (by kernel_rfl) (by kernel_rfl) (fun _ _ _ h => h) (Or.inl ⟨by kernel_rfl, fun w' hS => by go_simp⟩) (by assumption) ?_
          try simp only [Act.put, List.setIfInBounds_toArray, List.set_cons_succ, List.set_cons_zero]
          refine wpAnyH_take (i := 7) (oi := ⟨some 42, _, _, _, _, _⟩) (v := .int .i64 seq) rfl (by kernel_rfl) (by kernel_rfl) (by kernel_rfl) (fun _ _ _ h => h) (Or.inl ⟨by kernel_rfl, fun w' hS => by go_simp⟩) (by assumption) ?_
          try simp only [Act.put, List.setIfInBounds_toArray, List.set_cons_succ, List.set_cons_zero]
          refine wpAnyH_take (i := 8) (oi := ⟨some 43, _, _, _, _, _⟩) (v := .bool false) rfl (by kernel_rfl) (by kernel_rfl) (by kernel_rfl) (fun _ _ _ h => h) (Or.inl ⟨by kernel_rfl, fun w' hS => by have t0 := d2; go_simp⟩) (by assumption) ?_
          try simp only [Act.put, List.setIfInBounds_toArray, List.set_cons_succ, List.set_cons_zero]
          refine wpAnyH_take (i := 9) (oi := ⟨some 44, _, _, _, _, _⟩) (v := .bool false) rfl (by kernel_rfl) (by kernel_rfl) (by kernel_rfl) (fun _ _ _ h => h) (Or.inl ⟨by kernel_rfl, fun w' hS => by go_simp⟩) (by assumption) ?_
          try simp only [Act.put, List.setIfInBounds_toArray, List.set_cons_succ, List.set_cons_zero]
          refine wpAnyH_take (i := 10) (oi := ⟨some 45, _, _, _, _, _⟩) (v := .bool false) rfl (by kernel_rfl) (by kernel_rfl) (by kernel_rfl) (fun _ _ _ h => h) (Or.inl ⟨by kernel_rfl, fun w' hS => by go_simp⟩) (by assumption) ?_
          try simp only [Act.put, List.setIfInBounds_toArray, List.set_cons_succ, List.set_cons_zero]
          refine wpAnyH_take (i := 11) (oi := ⟨some 46, _, _, _, _, _⟩) (v := .agg #[.slice pa k.parts.length pc, .slice wa k.wits.length wcp, .int .i64 k.need]) rfl (by kernel_rfl) (by kernel_rfl) (by kernel_rfl) (fun _ _ _ h => h) (Or.inl ⟨by kernel_rfl, fun w' hS => by have c0 := row_cell (k := 0) (hS.row GXd.out) (v := .slice pa k.parts.length pc) (rfl); have c1 := row_cell (k := 1) (hS.row GXd.out) (v := .slice wa k.wits.length wcp) (rfl); have c2 := row_cell (k := 2) (hS.row GXd.out) (v := .int .i64 k.need) (rfl); go_simp⟩) (by assumption) ?_
          try simp only [Act.put, List.setIfInBounds_toArray, List.set_cons_succ, List.set_cons_zero]
          refine wpAnyH_take (i := 12) (oi := ⟨some 47, _, _, _, _, _⟩) (v := .agg C1) rfl (by kernel_rfl) (by kernel_rfl) (by kernel_rfl) (fun _ _ _ h => h) (yields59 (C := C1) (g := B) (o := 0) (by kernel_rfl) rfl (fun w' hS => range_row (hS.row YBd.out)) hz1.out) (by assumption) ?_
          try simp only [Act.put, List.setIfInBounds_toArray, List.set_cons_succ, List.set_cons_zero]
          refine wpAnyH_take (i := 13) (oi := ⟨some 48, _, _, _, _, _⟩) (v := .int .i64 seq) rfl (by kernel_rfl) (by kernel_rfl) (by kernel_rfl) (fun _ _ _ h => h) (Or.inl ⟨by kernel_rfl, fun w' hS => by go_simp⟩) (by assumption) ?_
          try simp only [Act.put, List.setIfInBounds_toArray, List.set_cons_succ, List.set_cons_zero]
          refine wpAnyH_ready (rs := [14]) (by kernel_rfl) (by simp) ?_
          refine AllReadyH.cons (o := ⟨some 49, _, _, _, _, _⟩) rfl (fun K hK => ?_) AllReadyH.nil
          have HP := f_preceipt Y.1 seq wd HYL.out
          rw [← HC1.out] at HP
          have HPH := Lib.hid HP
          clear HP
          go_simp
          refine HPH.out.mono ?_
          rintro e we ⟨rfl, kk⟩
          have hU1 : Kept (fun _ => False) wd we := kk
          have HRe := Lib.hid (recC_in we HYL.out seq)
          have HHO : Hid (kHolds k (tRec Y.1 seq) Y.1.tag = true) := by show _ = _; rw [HY1.out]; exact holds_out HI.out HKN.out HSQ.out.1 HSQ.out.2
          have HFL : Hid ((tRec Y.1 seq).saga = c.saga ∧ (tRec Y.1 seq).step = c.step ∧ (tRec Y.1 seq).steps = [] ∧ (tRec Y.1 seq).tag = Y.1.tag.map fun (n : Nat) => (n : Int)) := by show _ ∧ _; rw [HY1.out]; exact ⟨rfl, rfl, rfl, rfl⟩
          have HT8 : Hid (All8 Y.1.tag) := by show All8 _; rw [HY1.out]; exact kRec_all k _
          generalize recC Y.1 seq = CR at *
          clear HPH kk
          go_wp2_with fail
          refine hK.out _ _ hU1 (fun hHeld => ?_)
          clear hK K
          try simp only [Act.put, List.setIfInBounds_toArray, List.set_cons_succ, List.set_cons_zero]
          refine wpAnyH_ready (rs := [15]) (by kernel_rfl) (by simp) ?_
          refine AllReadyH.cons (o := ⟨some 50, _, _, _, _, _⟩) rfl (fun K hK => ?_) AllReadyH.nil
          have HP := f_holds (.slice pa k.parts.length pc) (.slice wa k.wits.length wcp) k CR (tRec Y.1 seq) Y.1.tag we (HLX.out.kept hU1) (HKX.out.kept hU1) HRe.out (by rw [HFL.out.1]; exact (its_fit HI.out).1) (by rw [HFL.out.2.1]; exact (its_fit HI.out).2) (by rw [HFL.out.2.2.1]; exact Nat.zero_le _) HFL.out.2.2.2 HT8.out
          rw [HHO.out] at HP
          have HPH := Lib.hid HP
          clear HP
          go_simp
          refine HPH.out.mono ?_
          rintro e wf ⟨rfl, kk⟩
          have hU2 : Kept (fun _ => False) wd wf := hU1.trans kk
          clear HPH kk
          go_wp2_with fail
          refine hK.out _ _ hU2 (fun hHeld => ?_)
          clear hK K
          try simp only [Act.put, List.setIfInBounds_toArray, List.set_cons_succ, List.set_cons_zero]
          refine wpAnyH_take (i := 16) (oi := ⟨some 51, _, _, _, _, _⟩) (v := .bool true) rfl (by kernel_rfl) (by kernel_rfl) (by kernel_rfl) (fun _ _ _ h => h) (Or.inl ⟨by kernel_rfl, fun w' hS => by go_simp⟩) (by assumption) ?_
          try simp only [Act.put, List.setIfInBounds_toArray, List.set_cons_succ, List.set_cons_zero]
          refine wpAnyH_take (i := 17) (oi := ⟨some 10, _, _, _, _, _⟩) (v := .bool true) rfl (by kernel_rfl) (by kernel_rfl) (by kernel_rfl) (fun _ _ _ h => h) (Or.inl ⟨by kernel_rfl, fun w' hS => by go_simp⟩) (by assumption) ?_
          try simp only [Act.put, List.setIfInBounds_toArray, List.set_cons_succ, List.set_cons_zero]
          refine wpAnyH_done (by kernel_rfl) ?_ _
          go_wp2_with fail
          go_ret
          exact BPost.mk rfl (K9.out.trans hU2)
end Go.Proofs.YtklmhegmombegaaDoor
