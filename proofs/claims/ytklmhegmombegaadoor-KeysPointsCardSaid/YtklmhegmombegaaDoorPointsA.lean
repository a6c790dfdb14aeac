/-
  The walk of KeysPoints (4). Conditions: as each theorem says.
-/
import Derived.Test.YtklmhegmombegaaDoorRsK
import Derived.Test.YtklmhegmombegaaDoorLongA
set_option linter.unusedVariables false
set_option linter.unusedSimpArgs false
set_option maxRecDepth 100000
namespace Go.Proofs.YtklmhegmombegaaDoor
open Go Go.RowKit Plain
set_option maxHeartbeats 8000000 in
theorem c_points (pv wv sv : Value) (k : Ky) (wit m : Int) (C : Array Value) (root : List Nat) (sigs : List (Int × List Nat)) (w : World) (hL : Laid w) (hk : KyIn w pv wv k) (hp : PtIn C m root sv) (hs : HSigs w sv sigs) (hw : W64 wit) (hl1 : k.parts.length ≤ 20) (hl2 : k.wits.length ≤ 20) (hl3 : sigs.length ≤ 30) :
    Calls Tryd.prog 4 #[.agg #[pv, wv, .int .i64 k.need], .int .i64 wit, .agg C] w (BPost true w) := by
  have k1 := ((Kept.refl (fun _ => False) w).alloc (.cells #[pv, wv, .int .i64 k.need] 24)).alloc (.cells C 40)
  have G1 := Lib.hid (heap_alloc2_old w (.cells #[pv, wv, .int .i64 k.need] 24) (.cells C 40))
  have G2 := Lib.hid (heap_alloc2_new w (.cells #[pv, wv, .int .i64 k.need] 24) (.cells C 40))
  have HK1 := Lib.hid (hk.kept k1)
  have HL1 := Lib.hid (hL.kept k1)
  have HS1 := Lib.hid (hs.kept k1)
  have HP := Lib.hid hp
  have HPZ := Lib.hid hp.size
  have K1 := Lib.hid k1
  have HA := Lib.hid (f_alive _ (hL.kept k1))
  obtain ⟨pa, pc, rfl⟩ := hk.parts.form
  obtain ⟨wa, wcp, rfl⟩ := hk.wits.form
  obtain ⟨sa, sc, rfl⟩ := hs.form
  have t1 : decide ((20 : Int) < (k.parts.length : Int)) = false := decide_eq_false (by omega)
  have t2 : decide ((20 : Int) < (k.wits.length : Int)) = false := decide_eq_false (by omega)
  have t3 : decide ((30 : Int) < (sigs.length : Int)) = false := decide_eq_false (by omega)
  have u1 : decide (20 < k.parts.length) = false := decide_eq_false (by omega)
  have u2 : decide (20 < k.wits.length) = false := decide_eq_false (by omega)
  have u3 : decide (30 < sigs.length) = false := decide_eq_false (by omega)
  clear k1 hL hk hl1 hl2 hl3 hs hp
  go_enter Tryd.func4, Tryd.ntmps4
  go_upto_region 1 with (fail)
  generalize ((w.alloc (.cells #[.slice pa k.parts.length pc, .slice wa k.wits.length wcp, .int .i64 k.need] 24)).alloc (.cells C 40)) = w1 at *
  go_wp2_with fail
  refine HA.out.mono ?_
  rintro e w2 ⟨rfl, k2⟩
  have K2 := Lib.hid (K1.out.trans k2)
  have G12 := Lib.hid (k2.row G1.out)
  have G22 := Lib.hid (k2.row G2.out)
  have HK2 := Lib.hid (HK1.out.kept k2)
  have HL2 := Lib.hid (HL1.out.kept k2)
  have HS2 := Lib.hid (HS1.out.kept k2)
  have c0 := row_cell (k := 0) G12.out rfl
  have c1 := row_cell (k := 1) G12.out rfl
  have d33 := row_cell G22.out HP.out.c33
  clear k2 G1 G2 K1 HA HK1 HL1 HS1
  go_upto_region 5 with (fail)
  clear c0 c1 d33 t1 t2 t3 u1 u2 u3
  have k2d := (Kept.refl (fun _ => False) w2).drew
  refine wp_region_held_drew (S := fun w' => Kept (fun _ => False) w2.drew w') (by kernel_rfl) (Kept.refl _ _) (fun hHeld => ?_)
  have G13 := Lib.hid (k2d.row G12.out)
  have G23 := Lib.hid (k2d.row G22.out)
  have HK3 := Lib.hid (HK2.out.kept k2d)
  have HL3 := Lib.hid (HL2.out.kept k2d)
  have HS3 := Lib.hid (HS2.out.kept k2d)
  have K3 := Lib.hid (K2.out.trans k2d)
  clear k2d G12 G22 HK2 HL2 HS2 K2
  generalize w2.drew = w3 at *
  have hS3 := Kept.refl (fun _ => False) w3
  refine wpAnyH_take (i := 0) (oi := ⟨some 25, _, _, _, _, _⟩) (v := .agg #[.slice pa k.parts.length pc, .slice wa k.wits.length wcp, .int .i64 k.need]) rfl (by kernel_rfl) (by kernel_rfl) (by kernel_rfl) (fun _ _ _ h => h) (Or.inl ⟨by kernel_rfl, fun w' hS => by have c0 := row_cell (k := 0) (hS.row G13.out) rfl; have c1 := row_cell (k := 1) (hS.row G13.out) rfl; have c2 := row_cell (k := 2) (hS.row G13.out) rfl; go_simp⟩) (by assumption) ?_
  try simp only [Act.put, List.setIfInBounds_toArray, List.set_cons_succ, List.set_cons_zero]
  refine wpAnyH_take (i := 1) (oi := ⟨some 26, _, _, _, _, _⟩) (v := .int .i64 wit) rfl (by kernel_rfl) (by kernel_rfl) (by kernel_rfl) (fun _ _ _ h => h) (Or.inl ⟨by kernel_rfl, fun w' hS => by go_simp⟩) (by assumption) ?_
  try simp only [Act.put, List.setIfInBounds_toArray, List.set_cons_succ, List.set_cons_zero]
  refine wpAnyH_take (i := 2) (oi := ⟨some 27, _, _, _, _, _⟩) (v := .agg C) rfl (by kernel_rfl) (by kernel_rfl) (by kernel_rfl) (fun _ _ _ h => h) (yields40 (C := C) (g := w.heap.size + 1) (o := 0) (by kernel_rfl) rfl (fun w' hS => range_row (hS.row G23.out)) HPZ.out) (by assumption) ?_
  try simp only [Act.put, List.setIfInBounds_toArray, List.set_cons_succ, List.set_cons_zero]
  refine wpAnyH_take (i := 4) (oi := ⟨some 29, _, _, _, _, _⟩) (v := .agg #[.slice pa k.parts.length pc, .slice wa k.wits.length wcp, .int .i64 k.need]) rfl (by kernel_rfl) (by kernel_rfl) (by kernel_rfl) (fun _ _ _ h => h) (Or.inl ⟨by kernel_rfl, fun w' hS => by have c0 := row_cell (k := 0) (hS.row G13.out) rfl; have c1 := row_cell (k := 1) (hS.row G13.out) rfl; have c2 := row_cell (k := 2) (hS.row G13.out) rfl; go_simp⟩) (by assumption) ?_
  try simp only [Act.put, List.setIfInBounds_toArray, List.set_cons_succ, List.set_cons_zero]
  refine wpAnyH_take (i := 5) (oi := ⟨some 30, _, _, _, _, _⟩) (v := .int .i64 wit) rfl (by kernel_rfl) (by kernel_rfl) (by kernel_rfl) (fun _ _ _ h => h) (Or.inl ⟨by kernel_rfl, fun w' hS => by go_simp⟩) (by assumption) ?_
  try simp only [Act.put, List.setIfInBounds_toArray, List.set_cons_succ, List.set_cons_zero]
  refine wpAnyH_take (i := 6) (oi := ⟨some 31, _, _, _, _, _⟩) (v := .agg C) rfl (by kernel_rfl) (by kernel_rfl) (by kernel_rfl) (fun _ _ _ h => h) (yields40 (C := C) (g := w.heap.size + 1) (o := 0) (by kernel_rfl) rfl (fun w' hS => range_row (hS.row G23.out)) HPZ.out) (by assumption) ?_
  try simp only [Act.put, List.setIfInBounds_toArray, List.set_cons_succ, List.set_cons_zero]
  refine wpAnyH_ready (rs := [3]) (by kernel_rfl) (by simp) ?_
  refine AllReadyH.cons (o := _) rfl (fun K hK => ?_) AllReadyH.nil
  have HF := Lib.hid (f_sign (.slice pa k.parts.length pc) (.slice wa k.wits.length wcp) (.slice sa sigs.length sc) k wit m C root w3 (HL3.out.kept hS3) (HK3.out.kept hS3) HP.out hw)
  go_simp
  refine HF.out.mono ?_
  rintro e w4 ⟨rfl, kk⟩
  have hS4 := hS3.trans kk
  clear kk HF
  go_wp2_with fail
  refine hK.out _ _ hS4 (fun hHeld => ?_)
  clear hK K
  try simp only [Act.put, List.setIfInBounds_toArray, List.set_cons_succ, List.set_cons_zero]
  refine wpAnyH_ready (rs := [7]) (by kernel_rfl) (by simp) ?_
  refine AllReadyH.cons (o := _) rfl (fun K hK => ?_) AllReadyH.nil
  have HF := Lib.hid (f_rsign (.slice pa k.parts.length pc) (.slice wa k.wits.length wcp) (.slice sa sigs.length sc) k wit m C root w4 (HL3.out.kept hS4) (HK3.out.kept hS4) HP.out hw)
  go_simp
  refine HF.out.mono ?_
  rintro e w5 ⟨rfl, kk⟩
  have hS5 := hS4.trans kk
  clear kk HF
  go_wp2_with fail
  refine hK.out _ _ hS5 (fun hHeld => ?_)
  clear hK K
  try simp only [Act.put, List.setIfInBounds_toArray, List.set_cons_succ, List.set_cons_zero]
  refine wpAnyH_take (i := 8) (oi := ⟨some 33, _, _, _, _, _⟩) (v := .bool true) rfl (by kernel_rfl) (by kernel_rfl) (by kernel_rfl) (fun _ _ _ h => h) (yieldsEq26 (l := kSign k wit m root) (m := kSign k wit m root) (decide_eq_true rfl) (kSign_len _ _ _ _) (kSign_len _ _ _ _) (by kernel_rfl) rfl rfl) (by assumption) ?_
  try simp only [Act.put, List.setIfInBounds_toArray, List.set_cons_succ, List.set_cons_zero]
  refine wpAnyH_take (i := 9) (oi := ⟨some 34, _, _, _, _, _⟩) (v := .bool true) rfl (by kernel_rfl) (by kernel_rfl) (by kernel_rfl) (fun _ _ _ h => h) (Or.inl ⟨by kernel_rfl, fun w' hS => by go_simp⟩) (by assumption) ?_
  try simp only [Act.put, List.setIfInBounds_toArray, List.set_cons_succ, List.set_cons_zero]
  refine wpAnyH_take (i := 10) (oi := ⟨some 35, _, _, _, _, _⟩) (v := .agg #[.slice pa k.parts.length pc, .slice wa k.wits.length wcp, .int .i64 k.need]) rfl (by kernel_rfl) (by kernel_rfl) (by kernel_rfl) (fun _ _ _ h => h) (Or.inl ⟨by kernel_rfl, fun w' hS => by have c0 := row_cell (k := 0) (hS.row G13.out) rfl; have c1 := row_cell (k := 1) (hS.row G13.out) rfl; have c2 := row_cell (k := 2) (hS.row G13.out) rfl; go_simp⟩) (by assumption) ?_
  try simp only [Act.put, List.setIfInBounds_toArray, List.set_cons_succ, List.set_cons_zero]
  refine wpAnyH_take (i := 11) (oi := ⟨some 36, _, _, _, _, _⟩) (v := .agg C) rfl (by kernel_rfl) (by kernel_rfl) (by kernel_rfl) (fun _ _ _ h => h) (yields40 (C := C) (g := w.heap.size + 1) (o := 0) (by kernel_rfl) rfl (fun w' hS => range_row (hS.row G23.out)) HPZ.out) (by assumption) ?_
  try simp only [Act.put, List.setIfInBounds_toArray, List.set_cons_succ, List.set_cons_zero]
  refine wpAnyH_take (i := 13) (oi := ⟨some 38, _, _, _, _, _⟩) (v := .agg #[.slice pa k.parts.length pc, .slice wa k.wits.length wcp, .int .i64 k.need]) rfl (by kernel_rfl) (by kernel_rfl) (by kernel_rfl) (fun _ _ _ h => h) (Or.inl ⟨by kernel_rfl, fun w' hS => by have c0 := row_cell (k := 0) (hS.row G13.out) rfl; have c1 := row_cell (k := 1) (hS.row G13.out) rfl; have c2 := row_cell (k := 2) (hS.row G13.out) rfl; go_simp⟩) (by assumption) ?_
  try simp only [Act.put, List.setIfInBounds_toArray, List.set_cons_succ, List.set_cons_zero]
  refine wpAnyH_take (i := 14) (oi := ⟨some 39, _, _, _, _, _⟩) (v := .agg C) rfl (by kernel_rfl) (by kernel_rfl) (by kernel_rfl) (fun _ _ _ h => h) (yields40 (C := C) (g := w.heap.size + 1) (o := 0) (by kernel_rfl) rfl (fun w' hS => range_row (hS.row G23.out)) HPZ.out) (by assumption) ?_
  try simp only [Act.put, List.setIfInBounds_toArray, List.set_cons_succ, List.set_cons_zero]
  refine wpAnyH_ready (rs := [12]) (by kernel_rfl) (by simp) ?_
  refine AllReadyH.cons (o := _) rfl (fun K hK => ?_) AllReadyH.nil
  have HF := Lib.hid (f_check (.slice pa k.parts.length pc) (.slice wa k.wits.length wcp) (.slice sa sigs.length sc) k m C root sigs w5 (HL3.out.kept hS5) (HK3.out.kept hS5) HP.out (HS3.out.kept hS5))
  go_simp
  refine HF.out.mono ?_
  rintro e w6 ⟨rfl, kk⟩
  have hS6 := hS5.trans kk
  clear kk HF
  go_wp2_with fail
  refine hK.out _ _ hS6 (fun hHeld => ?_)
  clear hK K
  try simp only [Act.put, List.setIfInBounds_toArray, List.set_cons_succ, List.set_cons_zero]
  refine wpAnyH_ready (rs := [15]) (by kernel_rfl) (by simp) ?_
  refine AllReadyH.cons (o := _) rfl (fun K hK => ?_) AllReadyH.nil
  have HF := Lib.hid (f_rcheck (.slice pa k.parts.length pc) (.slice wa k.wits.length wcp) (.slice sa sigs.length sc) k m C root sigs w6 (HL3.out.kept hS6) (HK3.out.kept hS6) HP.out (HS3.out.kept hS6))
  go_simp
  refine HF.out.mono ?_
  rintro e w7 ⟨rfl, kk⟩
  have hS7 := hS6.trans kk
  clear kk HF
  go_wp2_with fail
  refine hK.out _ _ hS7 (fun hHeld => ?_)
  clear hK K
  try simp only [Act.put, List.setIfInBounds_toArray, List.set_cons_succ, List.set_cons_zero]
  refine wpAnyH_take (i := 16) (oi := ⟨some 41, _, _, _, _, _⟩) (v := .bool true) rfl (by kernel_rfl) (by kernel_rfl) (by kernel_rfl) (fun _ _ _ h => h) (Or.inl ⟨by kernel_rfl, fun w' hS => by go_simp⟩) (by assumption) ?_
  try simp only [Act.put, List.setIfInBounds_toArray, List.set_cons_succ, List.set_cons_zero]
  refine wpAnyH_take (i := 17) (oi := ⟨some 42, _, _, _, _, _⟩) (v := .bool true) rfl (by kernel_rfl) (by kernel_rfl) (by kernel_rfl) (fun _ _ _ h => h) (Or.inl ⟨by kernel_rfl, fun w' hS => by go_simp⟩) (by assumption) ?_
  try simp only [Act.put, List.setIfInBounds_toArray, List.set_cons_succ, List.set_cons_zero]
  refine wpAnyH_take (i := 18) (oi := ⟨some 6, _, _, _, _, _⟩) (v := .bool true) rfl (by kernel_rfl) (by kernel_rfl) (by kernel_rfl) (fun _ _ _ h => h) (Or.inl ⟨by kernel_rfl, fun w' hS => by go_simp⟩) (by assumption) ?_
  try simp only [Act.put, List.setIfInBounds_toArray, List.set_cons_succ, List.set_cons_zero]
  refine wpAnyH_done (by kernel_rfl) ?_ _
  go_wp2_with fail
  go_ret
  exact BPost.mk rfl (K3.out.trans hS7)
end Go.Proofs.YtklmhegmombegaaDoor
