/-
  The walk of PartApart (14). Conditions: as each theorem says.
-/
import Derived.Test.YtklmhegmombegaaDoorPaN
set_option linter.unusedVariables false
set_option linter.unusedSimpArgs false
set_option maxRecDepth 100000
namespace Go.Proofs.YtklmhegmombegaaDoor
open Go Go.RowKit Plain
theorem Kept.keepC {w w' : World} (k : Kept (fun _ => False) w w') {p : Addr} {v : Value} (h : w.cell? p = some v) : w'.cell? p = some v := (k.cell (World.block_lt_of_cell? w _ h) id).trans h
theorem Kept.keepR {w w' : World} (k : Kept (fun _ => False) w w') {b o : Nat} {cs : List Value} (h : w.rangeAt b o cs) : w'.rangeAt b o cs := fun j v hv => k.keepC (h j v hv)
set_option maxHeartbeats 4000000 in
theorem long14 (pa wa la : Option Addr) (np pc nw wc ln lc : Nat) (nd n : Int) (c : Cl) (w : World) (hL : Laid w) (h : fewB np nw ln = false) : Calls Tryd.prog 14 #[.agg #[.slice pa np pc, .slice wa nw wc, .int .i64 nd], .int .i64 n, .slice la ln lc, .agg (clC c)] w (BPost true w) := by
  have k1 := ((Kept.refl (fun _ => False) w).alloc (.cells #[.slice pa np pc, .slice wa nw wc, .int .i64 nd] 24)).alloc (.cells (clC c) 59)
  have G1 := Lib.hid (heap_alloc2_old w (.cells #[.slice pa np pc, .slice wa nw wc, .int .i64 nd] 24) (.cells (clC c) 59))
  have K1 := Lib.hid k1
  have HA := Lib.hid (f_palive _ (hL.kept k1))
  have HH := Lib.hid h
  clear k1 hL h
  go_enter Tryd.func14, Tryd.ntmps14
  go_upto_region 1 with (fail)
  generalize (w.alloc (.cells #[.slice pa np pc, .slice wa nw wc, .int .i64 nd] 24)).alloc (.cells (clC c) 59) = w1 at *
  go_wp2_with fail
  refine HA.out.mono ?_
  rintro e w2 ⟨rfl, k2⟩
  have K2 := Lib.hid (K1.out.trans k2)
  have G2 := k2.row G1.out
  have c0 := row_cell (k := 0) G2 (v := .slice pa np pc) rfl
  have c1 := row_cell (k := 1) G2 (v := .slice wa nw wc) rfl
  have c2 := row_cell (k := 2) G2 (v := .int .i64 nd) rfl
  have HF := f_pfew pa wa la np pc nw wc ln lc nd w2
  rw [HH.out] at HF
  have HFH := Lib.hid HF
  clear k2 G2 G1 K1 HA HF
  go_wp2_with fail
  refine HFH.out.mono ?_
  rintro e w3 ⟨rfl, k3⟩
  clear c0 c1 c2
  go_wp2_with fail
  go_ret
  exact BPost.mk rfl (K2.out.trans k3)
set_option maxHeartbeats 16000000 in
theorem c_apart13 (pv wv : Value) (k : Ky) (n : Int) (la : Option Addr) (ln lc : Nat) (Kd : Nat → Int) (q : Nat → Cl) (R : Nat → Bool) (c : Cl) (w : World) (hL : Laid w) (hk : KyIn w pv wv k) (hfw : fewB k.parts.length k.wits.length ln = true) (hc : ClFit c)
    (hq : ln = 0 ∨ ∃ b o, la = some ⟨b, o, none⟩ ∧ ∀ i, i < ln → w.cell? ⟨b, o + i * 43, none⟩ = some (.int .i64 (Kd i)) ∧ ClFit (q i) ∧ w.rangeAt b (o + i * 43 + 1) (clC (q i)).toList ∧ w.cell? ⟨b, o + i * 43 + 42, none⟩ = some (.bool (R i))) :
    Calls Tryd.prog 14 #[.agg #[pv, wv, .int .i64 k.need], .int .i64 n, .slice la ln lc, .agg (clC c)] w (BPost true w) := by
  obtain ⟨pa, pc, rfl⟩ := hk.parts.form
  obtain ⟨wa, wcp, rfl⟩ := hk.wits.form
  have k1 := ((Kept.refl (fun _ => False) w).alloc (.cells #[.slice pa k.parts.length pc, .slice wa k.wits.length wcp, .int .i64 k.need] 24)).alloc (.cells (clC c) 59)
  have G1 := Lib.hid (heap_alloc2_old w (.cells #[.slice pa k.parts.length pc, .slice wa k.wits.length wcp, .int .i64 k.need] 24) (.cells (clC c) 59))
  have X1 := Lib.hid (heap_alloc2_new w (.cells #[.slice pa k.parts.length pc, .slice wa k.wits.length wcp, .int .i64 k.need] 24) (.cells (clC c) 59))
  have K1 := Lib.hid k1
  have HA := Lib.hid (f_palive _ (hL.kept k1))
  have HK1 := Lib.hid (hk.kept k1)
  have HL1 := Lib.hid (hL.kept k1)
  have HQ := Lib.hid hq
  have HFW := Lib.hid hfw
  have HC := Lib.hid hc
  have HLN : Hid (ln ≤ 60) := by
    show _ ≤ _
    simp only [fewB, Bool.and_eq_true, decide_eq_true_eq] at hfw
    exact hfw.2.2
  clear k1 hL hk hq hfw hc
  go_enter Tryd.func14, Tryd.ntmps14
  go_upto_region 1 with (fail)
  generalize (w.alloc (.cells #[.slice pa k.parts.length pc, .slice wa k.wits.length wcp, .int .i64 k.need] 24)).alloc (.cells (clC c) 59) = w1 at *
  go_wp2_with fail
  refine HA.out.mono ?_
  rintro e w2 ⟨rfl, k2⟩
  have K2 := Lib.hid (K1.out.trans k2)
  have G2 := Lib.hid (k2.row G1.out)
  have X2 := Lib.hid (k2.row X1.out)
  have HK2 := Lib.hid (HK1.out.kept k2)
  have HL2 := Lib.hid (HL1.out.kept k2)
  have c0 := row_cell (k := 0) G2.out (v := .slice pa k.parts.length pc) rfl
  have c1 := row_cell (k := 1) G2.out (v := .slice wa k.wits.length wcp) rfl
  have c2 := row_cell (k := 2) G2.out (v := .int .i64 k.need) rfl
  have HF := f_pfew pa wa la k.parts.length pc k.wits.length wcp ln lc k.need w2
  rw [HFW.out] at HF
  have HFH := Lib.hid HF
  clear HF k2 G1 X1 K1 HA HK1 HL1
  go_wp2_with fail
  refine HFH.out.mono ?_
  rintro e w3 ⟨rfl, k3⟩
  have K3 := Lib.hid (K2.out.trans k3)
  have G3 := Lib.hid (k3.row G2.out)
  have X3 := Lib.hid (k3.row X2.out)
  have HK3 := Lib.hid (HK2.out.kept k3)
  have HL3 := Lib.hid (HL2.out.kept k3)
  clear k3 c0 c1 c2 K2 G2 X2 HK2 HL2 HFH
  have c0 := row_cell (k := 0) G3.out (v := .slice pa k.parts.length pc) rfl
  have c1 := row_cell (k := 1) G3.out (v := .slice wa k.wits.length wcp) rfl
  have c2 := row_cell (k := 2) G3.out (v := .int .i64 k.need) rfl
  have HR := f_rknown (.slice pa k.parts.length pc) (.slice wa k.wits.length wcp) k n 0 w3 HK3.out
  cases hkn : kKnown k n 0 with
  | false =>
    rw [hkn] at HR
    have HRH := Lib.hid HR
    clear HR hkn
    go_wp2_with fail
    refine HRH.out.mono ?_
    rintro e w4 ⟨rfl, k4⟩
    clear c0 c1 c2
    go_wp2_with fail
    go_ret
    exact BPost.mk rfl (K3.out.trans k4)
  | true =>
    rw [hkn] at HR
    have HRH := Lib.hid HR
    have HKN := Lib.hid hkn
    clear HR hkn
    go_wp2_with fail
    refine HRH.out.mono ?_
    rintro e w4 ⟨rfl, k4⟩
    clear c0 c1 c2
    go_upto_region 5 with (fail)
    have k4d := k4.drew
    have K4 := Lib.hid (K3.out.trans k4d)
    have G4 := Lib.hid (k4d.row G3.out)
    have X4 := Lib.hid (k4d.row X3.out)
    have HK4 := Lib.hid (HK3.out.kept k4d)
    have HL4 := Lib.hid (HL3.out.kept k4d)
    clear k4 k4d K3 G3 X3 HK3 HL3 HRH
    refine wp_region_held_drew (S := fun w' => Kept (fun _ => False) w4.drew w') (by kernel_rfl) (Kept.refl _ _) (fun hHeld => ?_)
    generalize w4.drew = w5 at *
    have hS5 : Kept (fun _ => False) w5 w5 := Kept.refl _ _
    refine wpAnyH_take (i := 0) (oi := ⟨some 28, _, _, _, _, _⟩) (v := .agg #[.slice pa k.parts.length pc, .slice wa k.wits.length wcp, .int .i64 k.need]) rfl (by kernel_rfl) (by kernel_rfl) (by kernel_rfl) (fun _ _ _ h => h) (Or.inl ⟨by kernel_rfl, fun w' hS => by have c0 := row_cell (k := 0) (hS.row G4.out) (v := .slice pa k.parts.length pc) (rfl); have c1 := row_cell (k := 1) (hS.row G4.out) (v := .slice wa k.wits.length wcp) (rfl); have c2 := row_cell (k := 2) (hS.row G4.out) (v := .int .i64 k.need) (rfl); go_simp⟩) (by assumption) ?_
    try simp only [Act.put, List.setIfInBounds_toArray, List.set_cons_succ, List.set_cons_zero]
    refine wpAnyH_take (i := 1) (oi := ⟨some 29, _, _, _, _, _⟩) (v := .int .i64 n) rfl (by kernel_rfl) (by kernel_rfl) (by kernel_rfl) (fun _ _ _ h => h) (Or.inl ⟨by kernel_rfl, fun w' hS => by go_simp⟩) (by assumption) ?_
    try simp only [Act.put, List.setIfInBounds_toArray, List.set_cons_succ, List.set_cons_zero]
    refine wpAnyH_take (i := 3) (oi := ⟨some 31, _, _, _, _, _⟩) (v := .agg #[.slice pa k.parts.length pc, .slice wa k.wits.length wcp, .int .i64 k.need]) rfl (by kernel_rfl) (by kernel_rfl) (by kernel_rfl) (fun _ _ _ h => h) (Or.inl ⟨by kernel_rfl, fun w' hS => by have c0 := row_cell (k := 0) (hS.row G4.out) (v := .slice pa k.parts.length pc) (rfl); have c1 := row_cell (k := 1) (hS.row G4.out) (v := .slice wa k.wits.length wcp) (rfl); have c2 := row_cell (k := 2) (hS.row G4.out) (v := .int .i64 k.need) (rfl); go_simp⟩) (by assumption) ?_
    try simp only [Act.put, List.setIfInBounds_toArray, List.set_cons_succ, List.set_cons_zero]
    refine wpAnyH_take (i := 4) (oi := ⟨some 32, _, _, _, _, _⟩) (v := .int .i64 n) rfl (by kernel_rfl) (by kernel_rfl) (by kernel_rfl) (fun _ _ _ h => h) (Or.inl ⟨by kernel_rfl, fun w' hS => by go_simp⟩) (by assumption) ?_
    try simp only [Act.put, List.setIfInBounds_toArray, List.set_cons_succ, List.set_cons_zero]
    refine wpAnyH_ready (rs := [2]) (by kernel_rfl) (by simp) ?_
    refine AllReadyH.cons (o := ⟨some 30, _, _, _, _, _⟩) rfl (fun K hK => ?_) AllReadyH.nil
    have HN := Lib.hid (f_new_yes (.slice pa k.parts.length pc) (.slice wa k.wits.length wcp) k n w5 HL4.out HK4.out HKN.out)
    go_simp
    refine HN.out.mono ?_
    rintro e w6 ⟨ga, ra, rfl, hpa, k6, hga⟩
    have HPA := Lib.hid hpa
    have hS6 := k6
    clear hpa HN
    go_wp2_with fail
    refine hK.out _ _ hS6 (fun hHeld => ?_)
    clear hK K
    try simp only [Act.put, List.setIfInBounds_toArray, List.set_cons_succ, List.set_cons_zero]
    refine wpAnyH_ready (rs := [5]) (by kernel_rfl) (by simp) ?_
    refine AllReadyH.cons (o := ⟨some 33, _, _, _, _, _⟩) rfl (fun K hK => ?_) AllReadyH.nil
    have HN := Lib.hid (f_new_yes (.slice pa k.parts.length pc) (.slice wa k.wits.length wcp) k n w6 (HL4.out.kept hS6) (HK4.out.kept hS6) HKN.out)
    go_simp
    refine HN.out.mono ?_
    rintro e w7 ⟨gb, rb, rfl, hpb, k7, hgb⟩
    have hS7 := hS6.trans k7
    have HT : Hid (Two w5 w7 ga ra gb rb (.slice pa k.parts.length pc) (.slice wa k.wits.length wcp) (.slice none 0 0) (.slice none 0 0) k n [] []) :=
      ⟨HPA.out.same k7, hpb.base (hS6.mono fun _ _ e => e.elim) HK4.out HL4.out, by have := HPA.out.ltg; omega, by have := HPA.out.ltr; have := hpb.lo.2; omega, fun i hi => by simp [Value.ownBlock] at hi⟩
    have HX7 := Lib.hid (hS7.row X4.out)
    clear hpb HN HPA
    go_wp2_with fail
    refine hK.out _ _ hS7 (fun hHeld => ?_)
    clear hK K
    try simp only [Act.put, List.setIfInBounds_toArray, List.set_cons_succ, List.set_cons_zero]
    refine wpAnyH_take (i := 6) (oi := ⟨some 9, _, _, _, _, _⟩) (v := .pointer (some ⟨ga, 0, none⟩)) rfl (by kernel_rfl) (by kernel_rfl) (by kernel_rfl) (fun _ _ _ h => h) (Or.inl ⟨by kernel_rfl, fun w' hS => by go_simp⟩) (by assumption) ?_
    try simp only [Act.put, List.setIfInBounds_toArray, List.set_cons_succ, List.set_cons_zero]
    refine wpAnyH_take (i := 7) (oi := ⟨some 10, _, _, _, _, _⟩) (v := .pointer (some ⟨gb, 0, none⟩)) rfl (by kernel_rfl) (by kernel_rfl) (by kernel_rfl) (fun _ _ _ h => h) (Or.inl ⟨by kernel_rfl, fun w' hS => by go_simp⟩) (by assumption) ?_
    try simp only [Act.put, List.setIfInBounds_toArray, List.set_cons_succ, List.set_cons_zero]
    refine wpAnyH_done (by kernel_rfl) ?_ _
    have HSZ : Hid (w.heap.size ≤ w5.heap.size) := K4.out.size
    have HX5 : Hid (w.heap.size + 1 < w5.heap.size) := row_lt X4.out
    clear hS5 hS6 hS7 k6 k7 hga hgb hHeld G4 HK4 HL4 HX7
    go_wp2_with fail
    go_loopw [11] (fun i wr => ∃ j : Nat, j ≤ ln ∧ i = .int .i64 j ∧ Hid (∃ sa sb ea eb, Two w5 wr ga ra gb rb (.slice pa k.parts.length pc) (.slice wa k.wits.length wcp) sa sb k n ea eb ∧ ea.length ≤ j ∧ eb.length ≤ j ∧ Alike c.saga ea eb)) (fun i _ => ln - (intOf i).toNat)
    case atStart => exact ⟨0, Nat.zero_le _, rfl, _, _, [], [], HT.out, Nat.le_refl _, Nat.le_refl _, fun _ _ => rfl⟩
    case round =>
      obtain ⟨j, hj, rfl, HX⟩ := hrel
      have hln60 := HLN.out
      obtain ⟨sa, sb, ea, eb, htw, hle1, hle2, hal⟩ := HX.out
      have HT1 := Lib.hid htw
      have HLE := Lib.hid (And.intro hle1 hle2)
      have HAL := Lib.hid hal
      have HXr := Lib.hid ((htw.a.kept.block _ HX5.out (Nat.not_le.2 HX5.out)).trans X4.out)
      clear htw hle1 hle2 hal HX HT
      by_cases hlt : j < ln
      · obtain ⟨b, o, rfl, hx⟩ : ∃ b o, la = some ⟨b, o, none⟩ ∧ ∀ i, i < ln → w.cell? ⟨b, o + i * 43, none⟩ = some (.int .i64 (Kd i)) ∧ ClFit (q i) ∧ w.rangeAt b (o + i * 43 + 1) (clC (q i)).toList ∧ w.cell? ⟨b, o + i * 43 + 42, none⟩ = some (.bool (R i)) := by
          rcases HQ.out with h | h
          · omega
          · exact h
        obtain ⟨_, hfit, hrg, hrf⟩ := hx j hlt
        have hkr : Kept (fun i => w.heap.size ≤ i) w wr := (K4.out.mono (fun _ _ e => e.elim)).trans (HT1.out.a.kept.mono (fun i _ e => Nat.le_trans HSZ.out e))
        have hold : ∀ {p : Addr} {v : Value}, w.cell? p = some v → wr.cell? p = some v := fun {p v} h => (hkr.cell (World.block_lt_of_cell? w _ h) (Nat.not_le.2 (World.block_lt_of_cell? w _ h))).trans h
        have HOLD := Lib.hid (fun (w' : World) (k : Kept (fun i => w5.heap.size ≤ i) wr w') (p : Addr) (v : Value) (h : w.cell? p = some v) => (k.cell (p := p) (World.block_lt_of_cell? wr _ (hold h)) (Nat.not_le.2 (Nat.lt_of_lt_of_le (World.block_lt_of_cell? w _ h) HSZ.out))).trans (hold h))
        have HRG := Lib.hid hrg
        have HRF := Lib.hid hrf
        have HFT := Lib.hid hfit
        obtain ⟨C0, hC0⟩ : ∃ C0, C0 = clC (q j) := ⟨_, rfl⟩
        have HC0 := Lib.hid hC0
        rw [← hC0] at HRG
        have hz0 : Hid (C0.size = 41) := by show _ = _; rw [hC0]; exact clC_size hfit.tagl
        have hv0 : Hid (C0[0]? = some (.int .i64 (q j).saga)) := by show _ = _; rw [hC0]; simp [clC]
        have HF := f_take w5 ga ra (.slice pa k.parts.length pc) (.slice wa k.wits.length wcp) sa k n 0 ea (q j) (R j) wr.drew (HT1.out.a.same (Kept.refl (fun _ => False) wr).drew) hfit.tagl (by have := HLE.out.1; omega)
        rw [← hC0] at HF
        have HFH := Lib.hid HF
        clear hx hkr hrg hrf hfit hold hC0 HF
        go_upto_region 9 with (fail)
        refine wp_region_last_drew (S := fun w' => Kept (fun _ => False) wr.drew w') 11 (by kernel_rfl) (Kept.refl _ _) (fun hHeld => ?_)
        have HRGd : Hid (wr.drew.rangeAt b (o + j * 43 + 1) C0.toList) := fun jj v hv => HOLD.out wr.drew (Kept.refl _ wr).drew _ _ (HRG.out jj v hv)
        have HRFd : Hid (wr.drew.cell? ⟨b, o + j * 43 + 42, none⟩ = some (.bool (R j))) := HOLD.out wr.drew (Kept.refl _ wr).drew _ _ HRF.out
        have hSr : Kept (fun _ => False) wr.drew wr.drew := Kept.refl _ _
        refine wpAnyL_take (i := 0) (oi := ⟨some 40, _, _, _, _, _⟩) (v := .pointer (some ⟨ga, 0, none⟩)) [11] rfl (by kernel_rfl) (by kernel_rfl) (by kernel_rfl) (by kernel_rfl) (fun _ _ _ h => h) (Or.inl ⟨by kernel_rfl, fun w' hS => by go_simp⟩) (by assumption) ?_
        try simp only [Act.put, List.setIfInBounds_toArray, List.set_cons_succ, List.set_cons_zero]
        refine wpAnyL_take (i := 1) (oi := ⟨some 41, _, _, _, _, _⟩) (v := .slice (some ⟨b, o, none⟩) ln lc) [3, 4, 5, 11] rfl (by kernel_rfl) (by kernel_rfl) (by kernel_rfl) (by kernel_rfl) (fun _ _ _ h => h) (Or.inl ⟨by kernel_rfl, fun w' hS => by go_simp⟩) (by assumption) ?_
        try simp only [Act.put, List.setIfInBounds_toArray, List.set_cons_succ, List.set_cons_zero]
        refine wpAnyL_take (i := 2) (oi := ⟨some 42, _, _, _, _, _⟩) (v := .int .i64 j) [3, 4, 5, 11] rfl (by kernel_rfl) (by kernel_rfl) (by kernel_rfl) (by kernel_rfl) (fun _ _ _ h => h) (Or.inl ⟨by kernel_rfl, fun w' hS => by go_simp⟩) (by assumption) ?_
        try simp only [Act.put, List.setIfInBounds_toArray, List.set_cons_succ, List.set_cons_zero]
        refine wpAnyL_take (i := 3) (oi := ⟨some 43, _, _, _, _, _⟩) (v := .pointer (some ⟨b, o + j * 43, none⟩)) [4, 5, 11] rfl (by kernel_rfl) (by kernel_rfl) (by kernel_rfl) (by kernel_rfl) (fun _ _ _ h => h) (Or.inl ⟨by kernel_rfl, fun w' hS => by go_simp⟩) (by assumption) ?_
        try simp only [Act.put, List.setIfInBounds_toArray, List.set_cons_succ, List.set_cons_zero]
        refine wpAnyL_take (i := 4) (oi := ⟨some 44, _, _, _, _, _⟩) (v := .pointer (some ⟨b, o + j * 43 + 1, none⟩)) [5, 11] rfl (by kernel_rfl) (by kernel_rfl) (by kernel_rfl) (by kernel_rfl) (fun _ _ _ h => h) (Or.inl ⟨by kernel_rfl, fun w' hS => by go_simp⟩) (by assumption) ?_
        try simp only [Act.put, List.setIfInBounds_toArray, List.set_cons_succ, List.set_cons_zero]
        refine wpAnyL_take (i := 5) (oi := ⟨some 45, _, _, _, _, _⟩) (v := .agg C0) [11] rfl (by kernel_rfl) (by kernel_rfl) (by kernel_rfl) (by kernel_rfl) (fun _ _ _ h => h) (yields59 (C := C0) (g := b) (o := o + j * 43 + 1) (by kernel_rfl) rfl (fun w' hS => hS.keepR HRGd.out) hz0.out) (by assumption) ?_
        try simp only [Act.put, List.setIfInBounds_toArray, List.set_cons_succ, List.set_cons_zero]
        refine wpAnyL_take (i := 6) (oi := ⟨some 46, _, _, _, _, _⟩) (v := .slice (some ⟨b, o, none⟩) ln lc) [8, 9, 10, 11] rfl (by kernel_rfl) (by kernel_rfl) (by kernel_rfl) (by kernel_rfl) (fun _ _ _ h => h) (Or.inl ⟨by kernel_rfl, fun w' hS => by go_simp⟩) (by assumption) ?_
        try simp only [Act.put, List.setIfInBounds_toArray, List.set_cons_succ, List.set_cons_zero]
        refine wpAnyL_take (i := 7) (oi := ⟨some 47, _, _, _, _, _⟩) (v := .int .i64 j) [8, 9, 10, 11] rfl (by kernel_rfl) (by kernel_rfl) (by kernel_rfl) (by kernel_rfl) (fun _ _ _ h => h) (Or.inl ⟨by kernel_rfl, fun w' hS => by go_simp⟩) (by assumption) ?_
        try simp only [Act.put, List.setIfInBounds_toArray, List.set_cons_succ, List.set_cons_zero]
        refine wpAnyL_take (i := 8) (oi := ⟨some 48, _, _, _, _, _⟩) (v := .pointer (some ⟨b, o + j * 43, none⟩)) [9, 10, 11] rfl (by kernel_rfl) (by kernel_rfl) (by kernel_rfl) (by kernel_rfl) (fun _ _ _ h => h) (Or.inl ⟨by kernel_rfl, fun w' hS => by go_simp⟩) (by assumption) ?_
        try simp only [Act.put, List.setIfInBounds_toArray, List.set_cons_succ, List.set_cons_zero]
        refine wpAnyL_take (i := 9) (oi := ⟨some 49, _, _, _, _, _⟩) (v := .pointer (some ⟨b, o + j * 43 + 42, none⟩)) [10, 11] rfl (by kernel_rfl) (by kernel_rfl) (by kernel_rfl) (by kernel_rfl) (fun _ _ _ h => h) (Or.inl ⟨by kernel_rfl, fun w' hS => by go_simp⟩) (by assumption) ?_
        try simp only [Act.put, List.setIfInBounds_toArray, List.set_cons_succ, List.set_cons_zero]
        refine wpAnyL_take (i := 10) (oi := ⟨some 50, _, _, _, _, _⟩) (v := .bool (R j)) [11] rfl (by kernel_rfl) (by kernel_rfl) (by kernel_rfl) (by kernel_rfl) (fun _ _ _ h => h) (Or.inl ⟨by kernel_rfl, fun w' hS => by have c := hS.keepC HRFd.out; go_simp⟩) (by assumption) ?_
        try simp only [Act.put, List.setIfInBounds_toArray, List.set_cons_succ, List.set_cons_zero]
        refine wpAnyL_ready (rs := [11]) (by kernel_rfl) (by simp) ?_
        refine AllReadyL.ends (o := ⟨some 51, _, _, _, _, _⟩) rfl (fun K hK => ?_)
        go_simp
        refine HFH.out.mono ?_
        rintro e wra ⟨rfl, sa1, hpa1, ka, hoa⟩
        have HT2 := Lib.hid ((HT1.out.same (Kept.refl (fun _ => False) wr).drew).movA hpa1 ka hoa)
        have KR1 := Lib.hid ((Kept.refl (fun i => w5.heap.size ≤ i) wr).drew.trans (ka.mono fun i _ h => HT1.out.a.loS i h))
        have HXa := Lib.hid ((hpa1.kept.block _ HX5.out (Nat.not_le.2 HX5.out)).trans X4.out)
        clear hpa1 ka hoa HFH HT1 HXr
        unfold takeV
        go_wp2_with fail
        refine hK.out _ _ ?_
        clear hK K
        try simp only [Act.put, List.setIfInBounds_toArray, List.set_cons_succ, List.set_cons_zero]
        refine wpAnyL_done (by kernel_rfl) ?_ _
        clear hSr hHeld HRGd HRFd
        have hgr1 := take_grow k n 0 ea (q j) (R j)
        have HGR1 := Lib.hid hgr1
        clear hgr1
        generalize hX1 : pTake k n 0 ea (q j) (R j) = X1 at *
        have HX1 := Lib.hid hX1
        clear hX1
        go_upto_region 10 with (fail)
        refine wp_region_held_drew (S := fun w' => Kept (fun _ => False) wra.drew w') (by kernel_rfl) (Kept.refl _ _) (fun hHeld => ?_)
        have HRGd : Hid (wra.drew.rangeAt b (o + j * 43 + 1) C0.toList) := fun jj v hv => HOLD.out wra.drew KR1.out.drew _ _ (HRG.out jj v hv)
        have hsg : wra.drew.cell? ⟨b, o + j * 43 + 1, none⟩ = some (.int .i64 (q j).saga) := by
          have := HRGd.out 0 _ (by simpa using hv0.out)
          simpa using this
        have HSG := Lib.hid hsg
        have HXd : Hid (wra.drew.heap[w.heap.size + 1]? = some (.cells (clC c) 59 (0, 0))) := HXa.out
        have hSr : Kept (fun _ => False) wra.drew wra.drew := Kept.refl _ _
        clear hsg
        cases hsgb : ((q j).saga == c.saga) with
        | false =>
          refine wpAnyH_take (i := 0) (oi := ⟨some 52, _, _, _, _, _⟩) (v := .slice (some ⟨b, o, none⟩) ln lc) rfl (by kernel_rfl) (by kernel_rfl) (by kernel_rfl) (fun _ _ _ h => h) (Or.inl ⟨by kernel_rfl, fun w' hS => by go_simp⟩) (by assumption) ?_
          try simp only [Act.put, List.setIfInBounds_toArray, List.set_cons_succ, List.set_cons_zero]
          refine wpAnyH_take (i := 1) (oi := ⟨some 53, _, _, _, _, _⟩) (v := .int .i64 j) rfl (by kernel_rfl) (by kernel_rfl) (by kernel_rfl) (fun _ _ _ h => h) (Or.inl ⟨by kernel_rfl, fun w' hS => by go_simp⟩) (by assumption) ?_
          try simp only [Act.put, List.setIfInBounds_toArray, List.set_cons_succ, List.set_cons_zero]
          refine wpAnyH_take (i := 2) (oi := ⟨some 54, _, _, _, _, _⟩) (v := .pointer (some ⟨b, o + j * 43, none⟩)) rfl (by kernel_rfl) (by kernel_rfl) (by kernel_rfl) (fun _ _ _ h => h) (Or.inl ⟨by kernel_rfl, fun w' hS => by go_simp⟩) (by assumption) ?_
          try simp only [Act.put, List.setIfInBounds_toArray, List.set_cons_succ, List.set_cons_zero]
          refine wpAnyH_take (i := 3) (oi := ⟨some 55, _, _, _, _, _⟩) (v := .pointer (some ⟨b, o + j * 43 + 1, none⟩)) rfl (by kernel_rfl) (by kernel_rfl) (by kernel_rfl) (fun _ _ _ h => h) (Or.inl ⟨by kernel_rfl, fun w' hS => by go_simp⟩) (by assumption) ?_
          try simp only [Act.put, List.setIfInBounds_toArray, List.set_cons_succ, List.set_cons_zero]
          refine wpAnyH_take (i := 4) (oi := ⟨some 56, _, _, _, _, _⟩) (v := .pointer (some ⟨b, o + j * 43 + 1, none⟩)) rfl (by kernel_rfl) (by kernel_rfl) (by kernel_rfl) (fun _ _ _ h => h) (Or.inl ⟨by kernel_rfl, fun w' hS => by go_simp⟩) (by assumption) ?_
          try simp only [Act.put, List.setIfInBounds_toArray, List.set_cons_succ, List.set_cons_zero]
          refine wpAnyH_take (i := 5) (oi := ⟨some 57, _, _, _, _, _⟩) (v := .int .i64 ((q j).saga)) rfl (by kernel_rfl) (by kernel_rfl) (by kernel_rfl) (fun _ _ _ h => h) (Or.inl ⟨by kernel_rfl, fun w' hS => by have c := hS.keepC HSG.out; go_simp⟩) (by assumption) ?_
          try simp only [Act.put, List.setIfInBounds_toArray, List.set_cons_succ, List.set_cons_zero]
          refine wpAnyH_take (i := 6) (oi := ⟨some 58, _, _, _, _, _⟩) (v := .pointer (some ⟨w.heap.size + 1, 0, none⟩)) rfl (by kernel_rfl) (by kernel_rfl) (by kernel_rfl) (fun _ _ _ h => h) (Or.inl ⟨by kernel_rfl, fun w' hS => by go_simp⟩) (by assumption) ?_
          try simp only [Act.put, List.setIfInBounds_toArray, List.set_cons_succ, List.set_cons_zero]
          refine wpAnyH_take (i := 7) (oi := ⟨some 59, _, _, _, _, _⟩) (v := .int .i64 c.saga) rfl (by kernel_rfl) (by kernel_rfl) (by kernel_rfl) (fun _ _ _ h => h) (Or.inl ⟨by kernel_rfl, fun w' hS => by have c := row_cell (k := 0) (hS.row HXd.out) (v := .int .i64 c.saga) (by simp [clC]); go_simp⟩) (by assumption) ?_
          try simp only [Act.put, List.setIfInBounds_toArray, List.set_cons_succ, List.set_cons_zero]
          refine wpAnyH_take (i := 8) (oi := ⟨some 60, _, _, _, _, _⟩) (v := .bool false) rfl (by kernel_rfl) (by kernel_rfl) (by kernel_rfl) (fun _ _ _ h => h) (Or.inl ⟨by kernel_rfl, fun w' hS => by have t0 := hsgb; go_simp⟩) (by assumption) ?_
          try simp only [Act.put, List.setIfInBounds_toArray, List.set_cons_succ, List.set_cons_zero]
          refine wpAnyH_done (by kernel_rfl) ?_ _
          have hne : (q j).saga ≠ c.saga := by simpa using hsgb
          have HNE := Lib.hid hne
          clear hsgb hne hSr hHeld HRGd HSG
          have HT3 := Lib.hid (HT2.out.same (Kept.refl (fun _ => False) wra).drew)
          go_wp2_with fail
          go_roundw
          case rel => exact ⟨j + 1, by omega, by go_num, sa1, sb, X1.2.2, eb, HT3.out, by have := HGR1.out; have := HLE.out.1; omega, by have := HLE.out.2; omega, fun t bb => by rw [← HX1.out, take_other HNE.out]; exact HAL.out t bb⟩
          case measure => simp [intOf]; omega
        | true =>
          refine wpAnyH_take (i := 0) (oi := ⟨some 52, _, _, _, _, _⟩) (v := .slice (some ⟨b, o, none⟩) ln lc) rfl (by kernel_rfl) (by kernel_rfl) (by kernel_rfl) (fun _ _ _ h => h) (Or.inl ⟨by kernel_rfl, fun w' hS => by go_simp⟩) (by assumption) ?_
          try simp only [Act.put, List.setIfInBounds_toArray, List.set_cons_succ, List.set_cons_zero]
          refine wpAnyH_take (i := 1) (oi := ⟨some 53, _, _, _, _, _⟩) (v := .int .i64 j) rfl (by kernel_rfl) (by kernel_rfl) (by kernel_rfl) (fun _ _ _ h => h) (Or.inl ⟨by kernel_rfl, fun w' hS => by go_simp⟩) (by assumption) ?_
          try simp only [Act.put, List.setIfInBounds_toArray, List.set_cons_succ, List.set_cons_zero]
          refine wpAnyH_take (i := 2) (oi := ⟨some 54, _, _, _, _, _⟩) (v := .pointer (some ⟨b, o + j * 43, none⟩)) rfl (by kernel_rfl) (by kernel_rfl) (by kernel_rfl) (fun _ _ _ h => h) (Or.inl ⟨by kernel_rfl, fun w' hS => by go_simp⟩) (by assumption) ?_
          try simp only [Act.put, List.setIfInBounds_toArray, List.set_cons_succ, List.set_cons_zero]
          refine wpAnyH_take (i := 3) (oi := ⟨some 55, _, _, _, _, _⟩) (v := .pointer (some ⟨b, o + j * 43 + 1, none⟩)) rfl (by kernel_rfl) (by kernel_rfl) (by kernel_rfl) (fun _ _ _ h => h) (Or.inl ⟨by kernel_rfl, fun w' hS => by go_simp⟩) (by assumption) ?_
          try simp only [Act.put, List.setIfInBounds_toArray, List.set_cons_succ, List.set_cons_zero]
          refine wpAnyH_take (i := 4) (oi := ⟨some 56, _, _, _, _, _⟩) (v := .pointer (some ⟨b, o + j * 43 + 1, none⟩)) rfl (by kernel_rfl) (by kernel_rfl) (by kernel_rfl) (fun _ _ _ h => h) (Or.inl ⟨by kernel_rfl, fun w' hS => by go_simp⟩) (by assumption) ?_
          try simp only [Act.put, List.setIfInBounds_toArray, List.set_cons_succ, List.set_cons_zero]
          refine wpAnyH_take (i := 5) (oi := ⟨some 57, _, _, _, _, _⟩) (v := .int .i64 ((q j).saga)) rfl (by kernel_rfl) (by kernel_rfl) (by kernel_rfl) (fun _ _ _ h => h) (Or.inl ⟨by kernel_rfl, fun w' hS => by have c := hS.keepC HSG.out; go_simp⟩) (by assumption) ?_
          try simp only [Act.put, List.setIfInBounds_toArray, List.set_cons_succ, List.set_cons_zero]
          refine wpAnyH_take (i := 6) (oi := ⟨some 58, _, _, _, _, _⟩) (v := .pointer (some ⟨w.heap.size + 1, 0, none⟩)) rfl (by kernel_rfl) (by kernel_rfl) (by kernel_rfl) (fun _ _ _ h => h) (Or.inl ⟨by kernel_rfl, fun w' hS => by go_simp⟩) (by assumption) ?_
          try simp only [Act.put, List.setIfInBounds_toArray, List.set_cons_succ, List.set_cons_zero]
          refine wpAnyH_take (i := 7) (oi := ⟨some 59, _, _, _, _, _⟩) (v := .int .i64 c.saga) rfl (by kernel_rfl) (by kernel_rfl) (by kernel_rfl) (fun _ _ _ h => h) (Or.inl ⟨by kernel_rfl, fun w' hS => by have c := row_cell (k := 0) (hS.row HXd.out) (v := .int .i64 c.saga) (by simp [clC]); go_simp⟩) (by assumption) ?_
          try simp only [Act.put, List.setIfInBounds_toArray, List.set_cons_succ, List.set_cons_zero]
          refine wpAnyH_take (i := 8) (oi := ⟨some 60, _, _, _, _, _⟩) (v := .bool true) rfl (by kernel_rfl) (by kernel_rfl) (by kernel_rfl) (fun _ _ _ h => h) (Or.inl ⟨by kernel_rfl, fun w' hS => by have t0 := hsgb; go_simp⟩) (by assumption) ?_
          try simp only [Act.put, List.setIfInBounds_toArray, List.set_cons_succ, List.set_cons_zero]
          refine wpAnyH_done (by kernel_rfl) ?_ _
          have heq : (q j).saga = c.saga := by simpa using hsgb
          have HEQ := Lib.hid heq
          clear hsgb heq hSr hHeld HSG
          have HF := f_take w5 gb rb (.slice pa k.parts.length pc) (.slice wa k.wits.length wcp) sb k n 0 eb (q j) (R j) wra.drew.drew ((HT2.out.b.same (Kept.refl (fun _ => False) wra).drew).same (Kept.refl (fun _ => False) wra.drew).drew) HFT.out.tagl (by have := HLE.out.2; omega)
          rw [← HC0.out] at HF
          have HFH := Lib.hid HF
          clear HF
          go_upto_region 11 with (fail)
          refine wp_region_last_drew (S := fun w' => Kept (fun _ => False) wra.drew.drew w') 11 (by kernel_rfl) (Kept.refl _ _) (fun hHeld => ?_)
          have HRGe : Hid (wra.drew.drew.rangeAt b (o + j * 43 + 1) C0.toList) := fun jj v hv => HOLD.out wra.drew.drew KR1.out.drew.drew _ _ (HRG.out jj v hv)
          have HRFe : Hid (wra.drew.drew.cell? ⟨b, o + j * 43 + 42, none⟩ = some (.bool (R j))) := HOLD.out wra.drew.drew KR1.out.drew.drew _ _ HRF.out
          have hSr : Kept (fun _ => False) wra.drew.drew wra.drew.drew := Kept.refl _ _
          refine wpAnyL_take (i := 0) (oi := ⟨some 61, _, _, _, _, _⟩) (v := .pointer (some ⟨gb, 0, none⟩)) [11] rfl (by kernel_rfl) (by kernel_rfl) (by kernel_rfl) (by kernel_rfl) (fun _ _ _ h => h) (Or.inl ⟨by kernel_rfl, fun w' hS => by go_simp⟩) (by assumption) ?_
          try simp only [Act.put, List.setIfInBounds_toArray, List.set_cons_succ, List.set_cons_zero]
          refine wpAnyL_take (i := 1) (oi := ⟨some 62, _, _, _, _, _⟩) (v := .slice (some ⟨b, o, none⟩) ln lc) [3, 4, 5, 11] rfl (by kernel_rfl) (by kernel_rfl) (by kernel_rfl) (by kernel_rfl) (fun _ _ _ h => h) (Or.inl ⟨by kernel_rfl, fun w' hS => by go_simp⟩) (by assumption) ?_
          try simp only [Act.put, List.setIfInBounds_toArray, List.set_cons_succ, List.set_cons_zero]
          refine wpAnyL_take (i := 2) (oi := ⟨some 63, _, _, _, _, _⟩) (v := .int .i64 j) [3, 4, 5, 11] rfl (by kernel_rfl) (by kernel_rfl) (by kernel_rfl) (by kernel_rfl) (fun _ _ _ h => h) (Or.inl ⟨by kernel_rfl, fun w' hS => by go_simp⟩) (by assumption) ?_
          try simp only [Act.put, List.setIfInBounds_toArray, List.set_cons_succ, List.set_cons_zero]
          refine wpAnyL_take (i := 3) (oi := ⟨some 64, _, _, _, _, _⟩) (v := .pointer (some ⟨b, o + j * 43, none⟩)) [4, 5, 11] rfl (by kernel_rfl) (by kernel_rfl) (by kernel_rfl) (by kernel_rfl) (fun _ _ _ h => h) (Or.inl ⟨by kernel_rfl, fun w' hS => by go_simp⟩) (by assumption) ?_
          try simp only [Act.put, List.setIfInBounds_toArray, List.set_cons_succ, List.set_cons_zero]
          refine wpAnyL_take (i := 4) (oi := ⟨some 65, _, _, _, _, _⟩) (v := .pointer (some ⟨b, o + j * 43 + 1, none⟩)) [5, 11] rfl (by kernel_rfl) (by kernel_rfl) (by kernel_rfl) (by kernel_rfl) (fun _ _ _ h => h) (Or.inl ⟨by kernel_rfl, fun w' hS => by go_simp⟩) (by assumption) ?_
          try simp only [Act.put, List.setIfInBounds_toArray, List.set_cons_succ, List.set_cons_zero]
          refine wpAnyL_take (i := 5) (oi := ⟨some 66, _, _, _, _, _⟩) (v := .agg C0) [11] rfl (by kernel_rfl) (by kernel_rfl) (by kernel_rfl) (by kernel_rfl) (fun _ _ _ h => h) (yields59 (C := C0) (g := b) (o := o + j * 43 + 1) (by kernel_rfl) rfl (fun w' hS => hS.keepR HRGe.out) hz0.out) (by assumption) ?_
          try simp only [Act.put, List.setIfInBounds_toArray, List.set_cons_succ, List.set_cons_zero]
          refine wpAnyL_take (i := 6) (oi := ⟨some 67, _, _, _, _, _⟩) (v := .slice (some ⟨b, o, none⟩) ln lc) [8, 9, 10, 11] rfl (by kernel_rfl) (by kernel_rfl) (by kernel_rfl) (by kernel_rfl) (fun _ _ _ h => h) (Or.inl ⟨by kernel_rfl, fun w' hS => by go_simp⟩) (by assumption) ?_
          try simp only [Act.put, List.setIfInBounds_toArray, List.set_cons_succ, List.set_cons_zero]
          refine wpAnyL_take (i := 7) (oi := ⟨some 68, _, _, _, _, _⟩) (v := .int .i64 j) [8, 9, 10, 11] rfl (by kernel_rfl) (by kernel_rfl) (by kernel_rfl) (by kernel_rfl) (fun _ _ _ h => h) (Or.inl ⟨by kernel_rfl, fun w' hS => by go_simp⟩) (by assumption) ?_
          try simp only [Act.put, List.setIfInBounds_toArray, List.set_cons_succ, List.set_cons_zero]
          refine wpAnyL_take (i := 8) (oi := ⟨some 69, _, _, _, _, _⟩) (v := .pointer (some ⟨b, o + j * 43, none⟩)) [9, 10, 11] rfl (by kernel_rfl) (by kernel_rfl) (by kernel_rfl) (by kernel_rfl) (fun _ _ _ h => h) (Or.inl ⟨by kernel_rfl, fun w' hS => by go_simp⟩) (by assumption) ?_
          try simp only [Act.put, List.setIfInBounds_toArray, List.set_cons_succ, List.set_cons_zero]
          refine wpAnyL_take (i := 9) (oi := ⟨some 70, _, _, _, _, _⟩) (v := .pointer (some ⟨b, o + j * 43 + 42, none⟩)) [10, 11] rfl (by kernel_rfl) (by kernel_rfl) (by kernel_rfl) (by kernel_rfl) (fun _ _ _ h => h) (Or.inl ⟨by kernel_rfl, fun w' hS => by go_simp⟩) (by assumption) ?_
          try simp only [Act.put, List.setIfInBounds_toArray, List.set_cons_succ, List.set_cons_zero]
          refine wpAnyL_take (i := 10) (oi := ⟨some 71, _, _, _, _, _⟩) (v := .bool (R j)) [11] rfl (by kernel_rfl) (by kernel_rfl) (by kernel_rfl) (by kernel_rfl) (fun _ _ _ h => h) (Or.inl ⟨by kernel_rfl, fun w' hS => by have c := hS.keepC HRFe.out; go_simp⟩) (by assumption) ?_
          try simp only [Act.put, List.setIfInBounds_toArray, List.set_cons_succ, List.set_cons_zero]
          refine wpAnyL_ready (rs := [11]) (by kernel_rfl) (by simp) ?_
          refine AllReadyL.ends (o := ⟨some 72, _, _, _, _, _⟩) rfl (fun K hK => ?_)
          go_simp
          refine HFH.out.mono ?_
          rintro e wrb ⟨rfl, sb1, hpb1, kb, hob⟩
          have HT3 := Lib.hid (((HT2.out.same (Kept.refl (fun _ => False) wra).drew).same (Kept.refl (fun _ => False) wra.drew).drew).movB hpb1 kb hob)
          clear hpb1 kb hob HFH
          unfold takeV
          go_wp2_with fail
          refine hK.out _ _ ?_
          clear hK K
          try simp only [Act.put, List.setIfInBounds_toArray, List.set_cons_succ, List.set_cons_zero]
          refine wpAnyL_done (by kernel_rfl) ?_ _
          clear hSr hHeld HRGe HRFe
          have hgr2 := take_grow k n 0 eb (q j) (R j)
          have HGR2 := Lib.hid hgr2
          have hta := take_alike (k := k) (n := n) (ep := 0) (rf := R j) (c := q j) (l := ea) (m := eb) (by rw [HEQ.out]; exact HAL.out)
          rw [HX1.out, HEQ.out] at hta
          have HTA := Lib.hid hta.2.2
          clear hgr2 hta
          go_wp2_with fail
          go_roundw
          case rel => exact ⟨j + 1, by omega, by go_num, sa1, sb1, X1.2.2, _, HT3.out, by have := HGR1.out; have := HLE.out.1; omega, by have := HGR2.out; have := HLE.out.2; omega, HTA.out⟩
          case measure => simp [intOf]; omega
      · have hta := take_alike (k := k) (n := n) (ep := 0) (rf := false) (c := c) HAL.out
        have HFA := f_take w5 ga ra (.slice pa k.parts.length pc) (.slice wa k.wits.length wcp) sa k n 0 ea c false wr HT1.out.a HC.out.tagl (by have := HLE.out.1; omega)
        have HFB := fun (wz : World) (sz : Value) (ez : List En) (hz : Two w5 wz ga ra gb rb (.slice pa k.parts.length pc) (.slice wa k.wits.length wcp) sz sb k n ez eb) => f_take w5 gb rb (.slice pa k.parts.length pc) (.slice wa k.wits.length wcp) sb k n 0 eb c false wz hz.b HC.out.tagl (by have := HLE.out.2; omega)
        unfold takeV at HFA HFB
        rw [← hta.1, ← hta.2.1] at HFB
        have hfit : ClFit (pTake k n 0 ea c false).1 := take_fit HC.out ⟨by decide, by decide⟩
        have hes := eq59_self hfit
        obtain ⟨C1, hC1⟩ : ∃ C1, C1 = clC (pTake k n 0 ea c false).1 := ⟨_, rfl⟩
        obtain ⟨b1, hb1⟩ : ∃ b1, b1 = (pTake k n 0 ea c false).2.1 := ⟨_, rfl⟩
        obtain ⟨CC, hCC⟩ : ∃ CC, CC = clC c := ⟨_, rfl⟩
        have hz1 : Hid (C1.size = 41) := by show _ = _; rw [hC1]; exact clC_size hfit.tagl
        have ho1 : Hid (C1.all (·.oneCell') = true) := by show _ = _; rw [hC1]; exact clC_one _
        have hzc : Hid (CC.size = 41) := by show _ = _; rw [hCC]; exact clC_size HC.out.tagl
        rw [← hCC] at HFA HXr
        rw [← hC1, ← hb1] at HFA HFB
        rw [← hC1] at hes
        have HFAH := Lib.hid HFA
        have HFBH := Lib.hid HFB
        have HES := Lib.hid hes
        have HCC := Lib.hid hCC
        clear hta HFA HFB hfit hes hC1 hb1 hCC
        generalize pTake k n 0 ea c false = X at *
        go_wp2_with (first | fail | ((with_reducible refine load59 (C := CC) (g := w.heap.size + 1) (o := 0) ?_ (range_row HXr.out) hzc.out ?_); rfl))
        refine HFAH.out.mono ?_
        rintro e w8 ⟨rfl, sa8, hp8, k8, ho8⟩
        have HT8 := Lib.hid (HT1.out.movA hp8 k8 ho8)
        have HX8 := Lib.hid ((k8.block _ (row_lt HXr.out) (fun h => Nat.not_le.2 HX5.out (HT1.out.a.loS _ h))).trans HXr.out)
        clear hp8 k8 ho8 HFAH HT1 HXr
        obtain ⟨y8, kk8⟩ := alloc_set w8 Z59 C1 59
        have Y8 := Lib.hid y8
        have z8 := Lib.hid (heap_alloc_new w8 (.cells Z59 59))
        have HT9 := Lib.hid (HT8.out.same kk8)
        have HX9 := Lib.hid (kk8.row HX8.out)
        go_upto_region 13 with (first | fail | (with_reducible refine alloc59 ?_) | ((with_reducible refine store59 (C := C1) ?_ ?_ z8.out Z59_size hz1.out ho1.out ?_); rfl; rfl))
        generalize (w8.alloc (.cells Z59 59)).setRow w8.heap.size C1 = w9 at *
        generalize w8.heap.size = B8 at *
        clear y8 kk8 z8 HT8 HX8
        have HFB9 := HFBH.out w9 sa8 _ HT9.out
        rw [← HCC.out] at HFB9
        have HFB9H := Lib.hid HFB9
        clear HFB9 HFBH
        go_wp2_with (first | fail | ((with_reducible refine load59 (C := CC) (g := w.heap.size + 1) (o := 0) ?_ (range_row HX9.out) hzc.out ?_); rfl))
        refine HFB9H.out.mono ?_
        rintro e wx ⟨rfl, sbx, hpx, kx, hox⟩
        have HTx := Lib.hid (HT9.out.movB hpx kx hox)
        have Yx := Lib.hid (kx.rowS (HT9.out.b.other Y8.out (by decide) (by decide)) Y8.out)
        clear hpx kx hox HFB9H HT9 HX9 Y8
        obtain ⟨yy, kky⟩ := alloc_set wx Z59 C1 59
        have Yy := Lib.hid yy
        have zy := Lib.hid (heap_alloc_new wx (.cells Z59 59))
        have Yz := Lib.hid (kky.row Yx.out)
        have HTz := Lib.hid (HTx.out.same kky)
        go_upto_region 14 with (first | fail | (with_reducible refine alloc59 ?_) | ((with_reducible refine store59 (C := C1) ?_ ?_ zy.out Z59_size hz1.out ho1.out ?_); rfl; rfl))
        generalize (wx.alloc (.cells Z59 59)).setRow wx.heap.size C1 = wy at *
        generalize wx.heap.size = By at *
        clear yy kky zy HTx Yx
        have hes := HES.out
        have hgd := fun (w : World) (x y : Operand) (xs ys : Array Value) => run_eqGuard_agg (P := Tryd.prog) w .eql 59 x y xs ys (by kernel_rfl)
        have hK : Hid (Kept (fun _ => False) w wy) := K4.out.trans' HTz.out.a.kept (fun i hi e => by have := HSZ.out; omega)
        cases b1
        all_goals
          go_wp2_with (first | fail | ((with_reducible refine load59 (C := C1) (g := B8) (o := 0) ?_ (range_row Yz.out) hz1.out ?_); rfl) | ((with_reducible refine load59 (C := C1) (g := By) (o := 0) ?_ (range_row Yy.out) hz1.out ?_); rfl))
          go_ret
          exact BPost.mk rfl hK.out
end Go.Proofs.YtklmhegmombegaaDoor
