/-
  The walk of PartOnce (12). Conditions: as each theorem says.
-/
import Derived.Test.YtklmhegmombegaaDoorPaS
import Derived.Deep.DeepCutAuto
import Derived.Deep.LoopGhost
set_option linter.unusedVariables false
set_option linter.unusedSimpArgs false
set_option maxRecDepth 100000
namespace Go.Proofs.YtklmhegmombegaaDoor
open Go Go.RowKit Plain
set_option maxHeartbeats 4000000 in
theorem long12 (pa wa la : Option Addr) (np pc nw wc ln lc : Nat) (nd n : Int) (w : World) (hL : Laid w) (h : fewB np nw ln = false) : Calls Tryd.prog 12 #[.agg #[.slice pa np pc, .slice wa nw wc, .int .i64 nd], .int .i64 n, .slice la ln lc] w (BPost true w) := by
  have k1 := (Kept.refl (fun _ => False) w).alloc (.cells #[.slice pa np pc, .slice wa nw wc, .int .i64 nd] 24)
  have G1 := Lib.hid (heap_alloc_new w (.cells #[.slice pa np pc, .slice wa nw wc, .int .i64 nd] 24))
  have K1 := Lib.hid k1
  have HA := Lib.hid (f_palive _ (hL.kept k1))
  have HH := Lib.hid h
  clear k1 hL h
  go_enter Tryd.func12, Tryd.ntmps12
  go_upto_region 1 with (fail)
  generalize w.alloc (.cells #[.slice pa np pc, .slice wa nw wc, .int .i64 nd] 24) = w1 at *
  go_wp2_with fail
  refine HA.out.mono ?_
  rintro e w2 ⟨rfl, k2⟩
  have K2 := Lib.hid (K1.out.trans k2)
  have G2 := k2.row G1.out
  have c0 := row_cell (k := 0) G2 (v := .slice pa np pc) rfl
  have c1 := row_cell (k := 1) G2 (v := .slice wa nw wc) rfl
  have c2 := row_cell (k := 2) G2 (v := .int .i64 nd) rfl
  have HF := f_pfew pa wa la np pc nw wc ln lc nd w2
  rw [HH.out] at HF
  have HFH := Lib.hid HF
  clear k2 G2 G1 K1 HA HF
  go_wp2_with fail
  refine HFH.out.mono ?_
  rintro e w3 ⟨rfl, k3⟩
  clear c0 c1 c2
  go_wp2_with fail
  go_ret
  exact BPost.mk rfl (K2.out.trans k3)
set_option maxHeartbeats 32000000 in
theorem c_once (pv wv : Value) (k : Ky) (n : Int) (la : Option Addr) (ln lc : Nat) (Kd : Nat → Int) (q : Nat → Cl) (R : Nat → Bool) (w : World) (hL : Laid w) (hk : KyIn w pv wv k) (hfw : fewB k.parts.length k.wits.length ln = true)
    (hq : ln = 0 ∨ ∃ b o, la = some ⟨b, o, none⟩ ∧ ∀ i, i < ln → w.cell? ⟨b, o + i * 43, none⟩ = some (.int .i64 (Kd i)) ∧ ClFit (q i) ∧ w.rangeAt b (o + i * 43 + 1) (clC (q i)).toList ∧ w.cell? ⟨b, o + i * 43 + 42, none⟩ = some (.bool (R i))) :
    Calls Tryd.prog 12 #[.agg #[pv, wv, .int .i64 k.need], .int .i64 n, .slice la ln lc] w (BPost true w) := by
  obtain ⟨pa, pc, rfl⟩ := hk.parts.form
  obtain ⟨wa, wcp, rfl⟩ := hk.wits.form
  have k1 := (Kept.refl (fun _ => False) w).alloc (.cells #[.slice pa k.parts.length pc, .slice wa k.wits.length wcp, .int .i64 k.need] 24)
  have G1 := Lib.hid (heap_alloc_new w (.cells #[.slice pa k.parts.length pc, .slice wa k.wits.length wcp, .int .i64 k.need] 24))
  have K1 := Lib.hid k1
  have HA := Lib.hid (f_palive _ (hL.kept k1))
  have HK1 := Lib.hid (hk.kept k1)
  have HL1 := Lib.hid (hL.kept k1)
  have HKw := Lib.hid hk
  have HLw := Lib.hid hL
  have HQ := Lib.hid hq
  have HFW := Lib.hid hfw
  have HLN : Hid (ln ≤ 60) := by
    show _ ≤ _
    simp only [fewB, Bool.and_eq_true, decide_eq_true_eq] at hfw
    exact hfw.2.2
  clear k1 hL hk hq hfw
  go_enter Tryd.func12, Tryd.ntmps12
  go_upto_region 1 with (fail)
  generalize w.alloc (.cells #[.slice pa k.parts.length pc, .slice wa k.wits.length wcp, .int .i64 k.need] 24) = w1 at *
  go_wp2_with fail
  refine HA.out.mono ?_
  rintro e w2 ⟨rfl, k2⟩
  have K2 := Lib.hid (K1.out.trans k2)
  have G2 := Lib.hid (k2.row G1.out)
  have HK2 := Lib.hid (HK1.out.kept k2)
  have HL2 := Lib.hid (HL1.out.kept k2)
  have c0 := row_cell (k := 0) G2.out (v := .slice pa k.parts.length pc) rfl
  have c1 := row_cell (k := 1) G2.out (v := .slice wa k.wits.length wcp) rfl
  have c2 := row_cell (k := 2) G2.out (v := .int .i64 k.need) rfl
  have HF := f_pfew pa wa la k.parts.length pc k.wits.length wcp ln lc k.need w2
  rw [HFW.out] at HF
  have HFH := Lib.hid HF
  clear HF k2 G1 K1 HA HK1 HL1
  go_wp2_with fail
  refine HFH.out.mono ?_
  rintro e w3 ⟨rfl, k3⟩
  have K3 := Lib.hid (K2.out.trans k3)
  have G3 := Lib.hid (k3.row G2.out)
  have HK3 := Lib.hid (HK2.out.kept k3)
  have HL3 := Lib.hid (HL2.out.kept k3)
  clear k3 c0 c1 c2 K2 G2 HK2 HL2 HFH
  have c0 := row_cell (k := 0) G3.out (v := .slice pa k.parts.length pc) rfl
  have c1 := row_cell (k := 1) G3.out (v := .slice wa k.wits.length wcp) rfl
  have c2 := row_cell (k := 2) G3.out (v := .int .i64 k.need) rfl
  have HR := f_rknown (.slice pa k.parts.length pc) (.slice wa k.wits.length wcp) k n 0 w3 HK3.out
  cases hkn : kKnown k n 0 with
  | false =>
    rw [hkn] at HR
    have HRH := Lib.hid HR
    clear HR hkn
    go_wp2_with fail
    refine HRH.out.mono ?_
    rintro e w4 ⟨rfl, k4⟩
    clear c0 c1 c2
    go_wp2_with fail
    go_ret
    exact BPost.mk rfl (K3.out.trans k4)
  | true =>
    rw [hkn] at HR
    have HRH := Lib.hid HR
    have HKN := Lib.hid hkn
    clear HR hkn
    go_wp2_with fail
    refine HRH.out.mono ?_
    rintro e w4 ⟨rfl, k4⟩
    have K4 := Lib.hid (K3.out.trans k4)
    have G4 := Lib.hid (k4.row G3.out)
    have HN := Lib.hid (f_new_yes (.slice pa k.parts.length pc) (.slice wa k.wits.length wcp) k n w4 (HL3.out.kept k4) (HK3.out.kept k4) HKN.out)
    clear k4 c0 c1 c2 K3 G3 HK3 HL3 HRH
    have c0 := row_cell (k := 0) G4.out (v := .slice pa k.parts.length pc) rfl
    have c1 := row_cell (k := 1) G4.out (v := .slice wa k.wits.length wcp) rfl
    have c2 := row_cell (k := 2) G4.out (v := .int .i64 k.need) rfl
    go_wp2_with fail
    refine HN.out.mono ?_
    rintro e w5 ⟨g, r, rfl, hp5, k5, hg⟩
    have HP5 := Lib.hid (hp5.base (K4.out.mono fun _ _ e => e.elim) HKw.out HLw.out)
    clear c0 c1 c2 hp5 k5 hg HN G4 K4
    go_wp2_with fail
    go_loopg [8] ln (fun gk s8 wr => ∃ j : Nat, j ≤ ln ∧ gk = ln - j ∧ s8 = .int .i64 j ∧ Hid (∃ sv l, Pa w wr g r (.slice pa k.parts.length pc) (.slice wa k.wits.length wcp) sv k n 0 l ∧ l.length ≤ 2 * j))
    case atStart => exact ⟨0, Nat.zero_le _, rfl, rfl, _, [], HP5.out, Nat.le_refl _⟩
    case round =>
      obtain ⟨j, hj, hgk, rfl, HX⟩ := hrel
      have HGK := Lib.hid hgk
      have hln60 := HLN.out
      obtain ⟨sv, l, hp, hll⟩ := HX.out
      have HPr := Lib.hid hp
      have HLL := Lib.hid hll
      have hl120 : l.length ≤ 120 := by omega
      clear HX hp hll HP5 hgk
      by_cases hlt : j < ln
      · obtain ⟨b, o, rfl, hx⟩ : ∃ b o, la = some ⟨b, o, none⟩ ∧ ∀ i, i < ln → w.cell? ⟨b, o + i * 43, none⟩ = some (.int .i64 (Kd i)) ∧ ClFit (q i) ∧ w.rangeAt b (o + i * 43 + 1) (clC (q i)).toList ∧ w.cell? ⟨b, o + i * 43 + 42, none⟩ = some (.bool (R i)) := by
          rcases HQ.out with h | h
          · omega
          · exact h
        obtain ⟨_, hfit, hrg, hrf⟩ := hx j hlt
        have HRG := Lib.hid hrg
        have HRF := Lib.hid hrf
        have HFT := Lib.hid hfit
        have HE := Lib.hid (f_entries w g r _ _ sv k n 0 l wr HPr.out (by omega))
        clear hx hfit hrg hrf
        go_wp2_with fail
        refine HE.out.mono ?_
        rintro e w6 ⟨v, rfl, hb, k6⟩
        obtain ⟨aw, cw, rfl, _⟩ := hb.form
        have HW6 := Lib.hid hb
        have HP6 := Lib.hid (HPr.out.same k6)
        have HSZ6 : Hid (∀ i, PaS g r sv i → i < wr.heap.size) := fun i hi => HPr.out.ltS hi
        clear hb k6 HE
        go_upto_region 10 with (fail)
        obtain ⟨C0, hC0⟩ : ∃ C0, C0 = clC (q j) := ⟨_, rfl⟩
        have HTK := fun (wq : World) (s1 : Value) (l1 : List En) (rf : Bool) (hp : Pa w wq g r (.slice pa k.parts.length pc) (.slice wa k.wits.length wcp) s1 k n 0 l1) (hl : l1.length ≤ 1000) => f_take w g r (.slice pa k.parts.length pc) (.slice wa k.wits.length wcp) s1 k n 0 l1 (q j) rf wq hp HFT.out.tagl hl
        rw [← hC0] at HTK HRG
        have hz0 : Hid (C0.size = 41) := by show _ = _; rw [hC0]; exact clC_size HFT.out.tagl
        obtain ⟨X, hX⟩ : ∃ X, X = pTake k n 0 l (q j) (R j) := ⟨_, rfl⟩
        obtain ⟨xc, xb, xl⟩ := X
        obtain ⟨C1, hC1⟩ : ∃ C1, C1 = clC xc := ⟨_, rfl⟩
        have hXl : xc.tag.length = 32 := by have := take_len k n 0 l (q j) (R j); rw [← hX] at this; exact this
        have hz1 : Hid (C1.size = 41) := by show _ = _; rw [hC1]; exact clC_size hXl
        have ho1 : Hid (C1.all (·.oneCell') = true) := by show _ = _; rw [hC1]; exact clC_one _
        have HTKH := Lib.hid HTK
        have HXX := Lib.hid hX
        have HC1 := Lib.hid hC1
        clear hC0 HTK hX hC1 hXl
        go_cut [10, 11] (fun s10 s11 wx => ∃ B : Nat, s10 = .pointer (some ⟨B, 0, none⟩) ∧ s11 = .bool xb ∧ Hid (wx.heap[B]? = some (.cells C1 59 (0, 0))) ∧ Hid (∃ sx, Pa w wx g r (.slice pa k.parts.length pc) (.slice wa k.wits.length wcp) sx k n 0 xl) ∧ Hid (Buf wx wr.heap.size 76 4 (.slice aw l.length cw) l.length (ensC l)))
        case first =>
          have kd := (Kept.refl (fun _ => False) w6).drew
          have HPd := Lib.hid (HP6.out.same kd)
          have HWd := Lib.hid (HW6.out.kept kd (fun _ _ e => e))
          refine wp_region_held_drew (S := fun w' => Kept (fun i => w.heap.size ≤ i) w w') (by kernel_rfl) HPd.out.kept (fun hHeld => ?_)
          clear kd HP6 HW6
          generalize w6.drew = wd at *
          have hzz := Lib.hid (show 0 + 41 ≤ Z59.size by rw [Z59_size]; decide)
          have hSd := HPd.out.kept
          refine wpAnyH_take (i := 0) (oi := ⟨some 43, _, _, _, _, _⟩) (v := .pointer (some ⟨g, 0, none⟩)) rfl (by kernel_rfl) (by kernel_rfl) (by kernel_rfl) (fun _ _ _ h => h) (Or.inl ⟨by kernel_rfl, fun w' hS => by go_simp⟩) (by assumption) ?_
          try simp only [Act.put, List.setIfInBounds_toArray, List.set_cons_succ, List.set_cons_zero]
          refine wpAnyH_take (i := 1) (oi := ⟨some 44, _, _, _, _, _⟩) (v := .slice (some ⟨b, o, none⟩) ln lc) rfl (by kernel_rfl) (by kernel_rfl) (by kernel_rfl) (fun _ _ _ h => h) (Or.inl ⟨by kernel_rfl, fun w' hS => by go_simp⟩) (by assumption) ?_
          try simp only [Act.put, List.setIfInBounds_toArray, List.set_cons_succ, List.set_cons_zero]
          refine wpAnyH_take (i := 2) (oi := ⟨some 45, _, _, _, _, _⟩) (v := .int .i64 j) rfl (by kernel_rfl) (by kernel_rfl) (by kernel_rfl) (fun _ _ _ h => h) (Or.inl ⟨by kernel_rfl, fun w' hS => by go_simp⟩) (by assumption) ?_
          try simp only [Act.put, List.setIfInBounds_toArray, List.set_cons_succ, List.set_cons_zero]
          refine wpAnyH_take (i := 3) (oi := ⟨some 46, _, _, _, _, _⟩) (v := .pointer (some ⟨b, o + j * 43, none⟩)) rfl (by kernel_rfl) (by kernel_rfl) (by kernel_rfl) (fun _ _ _ h => h) (Or.inl ⟨by kernel_rfl, fun w' hS => by go_simp⟩) (by assumption) ?_
          try simp only [Act.put, List.setIfInBounds_toArray, List.set_cons_succ, List.set_cons_zero]
          refine wpAnyH_take (i := 4) (oi := ⟨some 47, _, _, _, _, _⟩) (v := .pointer (some ⟨b, o + j * 43 + 1, none⟩)) rfl (by kernel_rfl) (by kernel_rfl) (by kernel_rfl) (fun _ _ _ h => h) (Or.inl ⟨by kernel_rfl, fun w' hS => by go_simp⟩) (by assumption) ?_
          try simp only [Act.put, List.setIfInBounds_toArray, List.set_cons_succ, List.set_cons_zero]
          refine wpAnyH_take (i := 5) (oi := ⟨some 48, _, _, _, _, _⟩) (v := .agg C0) rfl (by kernel_rfl) (by kernel_rfl) (by kernel_rfl) (fun _ _ _ h => h) (yields59 (C := C0) (g := b) (o := o + j * 43 + 1) (by kernel_rfl) rfl (fun w' hS => hS.oldR HRG.out) hz0.out) (by assumption) ?_
          try simp only [Act.put, List.setIfInBounds_toArray, List.set_cons_succ, List.set_cons_zero]
          refine wpAnyH_take (i := 6) (oi := ⟨some 49, _, _, _, _, _⟩) (v := .slice (some ⟨b, o, none⟩) ln lc) rfl (by kernel_rfl) (by kernel_rfl) (by kernel_rfl) (fun _ _ _ h => h) (Or.inl ⟨by kernel_rfl, fun w' hS => by go_simp⟩) (by assumption) ?_
          try simp only [Act.put, List.setIfInBounds_toArray, List.set_cons_succ, List.set_cons_zero]
          refine wpAnyH_take (i := 7) (oi := ⟨some 50, _, _, _, _, _⟩) (v := .int .i64 j) rfl (by kernel_rfl) (by kernel_rfl) (by kernel_rfl) (fun _ _ _ h => h) (Or.inl ⟨by kernel_rfl, fun w' hS => by go_simp⟩) (by assumption) ?_
          try simp only [Act.put, List.setIfInBounds_toArray, List.set_cons_succ, List.set_cons_zero]
          refine wpAnyH_take (i := 8) (oi := ⟨some 51, _, _, _, _, _⟩) (v := .pointer (some ⟨b, o + j * 43, none⟩)) rfl (by kernel_rfl) (by kernel_rfl) (by kernel_rfl) (fun _ _ _ h => h) (Or.inl ⟨by kernel_rfl, fun w' hS => by go_simp⟩) (by assumption) ?_
          try simp only [Act.put, List.setIfInBounds_toArray, List.set_cons_succ, List.set_cons_zero]
          refine wpAnyH_take (i := 9) (oi := ⟨some 52, _, _, _, _, _⟩) (v := .pointer (some ⟨b, o + j * 43 + 42, none⟩)) rfl (by kernel_rfl) (by kernel_rfl) (by kernel_rfl) (fun _ _ _ h => h) (Or.inl ⟨by kernel_rfl, fun w' hS => by go_simp⟩) (by assumption) ?_
          try simp only [Act.put, List.setIfInBounds_toArray, List.set_cons_succ, List.set_cons_zero]
          refine wpAnyH_take (i := 10) (oi := ⟨some 53, _, _, _, _, _⟩) (v := .bool (R j)) rfl (by kernel_rfl) (by kernel_rfl) (by kernel_rfl) (fun _ _ _ h => h) (Or.inl ⟨by kernel_rfl, fun w' hS => by have c := hS.oldC HRF.out; go_simp⟩) (by assumption) ?_
          try simp only [Act.put, List.setIfInBounds_toArray, List.set_cons_succ, List.set_cons_zero]
          refine wpAnyH_ready (rs := [11, 15]) (by kernel_rfl) (by simp) ?_
          refine AllReadyH.cons (o := ⟨some 54, _, _, _, _, _⟩) rfl (fun K hK => ?_) ?_
          · skip
            as_aux_lemma =>
              have HQ0 := HTKH.out wd _ _ (R j) HPd.out (by omega)
              unfold takeV at HQ0
              rw [← HXX.out] at HQ0
              dsimp only at HQ0
              rw [← HC1.out] at HQ0
              have HQH := Lib.hid HQ0
              clear HQ0
              go_simp
              refine HQH.out.mono ?_
              rintro e wt ⟨rfl, svt, hpt, kt, hot⟩
              have HPt := Lib.hid hpt
              have hSt := hpt.kept
              have HWdt := Lib.hid (HWd.out.kept kt (fun i hi hp => by have := (HWd.out.lt i hi).1; have := HSZ6.out i hp; omega))
              clear HQH kt hot hpt
              go_wp2_with fail
              refine hK.out _ _ hSt (fun hHeld => ?_)
              clear hK K
              try simp only [Act.put, List.setIfInBounds_toArray, List.set_cons_succ, List.set_cons_zero]
              refine wpAnyH_take (i := 12) (oi := ⟨some 42, _, _, _, _, _⟩) (v := .tuple #[.agg C1, .bool xb]) rfl (by kernel_rfl) (by kernel_rfl) (by kernel_rfl) (fun _ _ _ h => h) (Or.inl ⟨by kernel_rfl, fun w' hS => by go_simp⟩) (by assumption) ?_
              try simp only [Act.put, List.setIfInBounds_toArray, List.set_cons_succ, List.set_cons_zero]
              refine wpAnyH_take (i := 13) (oi := ⟨some 55, _, _, _, _, _⟩) (v := .agg C1) rfl (by kernel_rfl) (by kernel_rfl) (by kernel_rfl) (fun _ _ _ h => h) (Or.inl ⟨by kernel_rfl, fun w' hS => by go_simp⟩) (by assumption) ?_
              try simp only [Act.put, List.setIfInBounds_toArray, List.set_cons_succ, List.set_cons_zero]
              refine wpAnyH_take (i := 14) (oi := ⟨some 56, _, _, _, _, _⟩) (v := .bool xb) rfl (by kernel_rfl) (by kernel_rfl) (by kernel_rfl) (fun _ _ _ h => h) (Or.inl ⟨by kernel_rfl, fun w' hS => by go_simp⟩) (by assumption) ?_
              try simp only [Act.put, List.setIfInBounds_toArray, List.set_cons_succ, List.set_cons_zero]
              refine wpAnyH_ready (rs := [15]) (by kernel_rfl) (by simp) ?_
              refine AllReadyH.cons (o := ⟨some 10, _, _, _, _, _⟩) rfl (fun K hK => ?_) AllReadyH.nil
              have ka := (Kept.refl (fun _ => False) wt).alloc (.cells Z59 59)
              have zA := Lib.hid (heap_alloc_new wt (.cells Z59 59))
              have HPa := Lib.hid (HPt.out.same ka)
              have hSa := HPa.out.kept
              have HBA : Hid (w.heap.size ≤ wt.heap.size) := HPt.out.kept.size
              have HWdta := Lib.hid (HWdt.out.kept ka (fun _ _ e => e))
              have HWdtlt : Hid (∀ i, Value.ownBlock (.slice aw l.length cw) = some i → i < wt.heap.size) := fun i hi => (HWdt.out.lt i hi).2
              clear ka
              refine step_alloc59 (by kernel_rfl) ?_
              refine hK.out _ _ hSa (fun hHeld => ?_)
              clear hK K
              try simp only [Act.put, List.setIfInBounds_toArray, List.set_cons_succ, List.set_cons_zero]
              generalize hwA : wt.alloc (.cells Z59 59) = wA at *
              generalize wt.heap.size = BA at *
              refine wpAnyH_ready (rs := [16]) (by kernel_rfl) (by simp) ?_
              refine AllReadyH.cons (o := ⟨none, _, _, _, _, _⟩) rfl (fun K hK => ?_) AllReadyH.nil
              refine step_store59 (C := C1) (g := BA) (o := 0) (by kernel_rfl) rfl rfl hz1.out ho1.out zA.out hzz.out ?_
              intro wz gz kz
              rw [puts_all (Z59_size.trans hz1.out.symm)] at gz
              have YZ := Lib.hid gz
              have HPz := Lib.hid (HPa.out.next kz (fun i hi e => HPa.out.other zA.out (by decide) (by decide) (by have e' : i = BA := e; rw [← e']; exact hi)) (fun i _ e => by have e' : i = BA := e; have := HBA.out; omega))
              have HWdz := Lib.hid (HWdta.out.kept kz (fun i hi e => by have e' : i = BA := e; have := HWdtlt.out i hi; omega))
              have hSz := HPz.out.kept
              clear gz kz
              refine hK.out _ _ hSz (fun hHeld => ?_)
              clear hK K
              try simp only [Act.put, List.setIfInBounds_toArray, List.set_cons_succ, List.set_cons_zero]
              refine wpAnyH_take (i := 17) (oi := ⟨some 11, _, _, _, _, _⟩) (v := .bool xb) rfl (by kernel_rfl) (by kernel_rfl) (by kernel_rfl) (fun _ _ _ h => h) (Or.inl ⟨by kernel_rfl, fun w' hS => by go_simp⟩) (by assumption) ?_
              try simp only [Act.put, List.setIfInBounds_toArray, List.set_cons_succ, List.set_cons_zero]
              refine wpAnyH_done (by kernel_rfl) ?_ _
              go_wp2_with fail
              go_meet
              exact ⟨BA, rfl, rfl, YZ, ⟨_, HPz.out⟩, HWdz⟩
          · refine AllReadyH.cons (o := ⟨some 10, _, _, _, _, _⟩) rfl (fun K hK => ?_) AllReadyH.nil
            as_aux_lemma =>
              have ka := (Kept.refl (fun _ => False) wd).alloc (.cells Z59 59)
              have zA := Lib.hid (heap_alloc_new wd (.cells Z59 59))
              have HPa := Lib.hid (HPd.out.same ka)
              have hSa := HPa.out.kept
              have HBA : Hid (w.heap.size ≤ wd.heap.size) := HPd.out.kept.size
              have HWda := Lib.hid (HWd.out.kept ka (fun _ _ e => e))
              have HWdlt : Hid (∀ i, Value.ownBlock (.slice aw l.length cw) = some i → i < wd.heap.size) := fun i hi => (HWd.out.lt i hi).2
              clear ka
              refine step_alloc59 (by kernel_rfl) ?_
              refine hK.out _ _ hSa (fun hHeld => ?_)
              clear hK K
              try simp only [Act.put, List.setIfInBounds_toArray, List.set_cons_succ, List.set_cons_zero]
              generalize hwA : wd.alloc (.cells Z59 59) = wA at *
              generalize wd.heap.size = BA at *
              refine wpAnyH_ready (rs := [11]) (by kernel_rfl) (by simp) ?_
              refine AllReadyH.cons (o := ⟨some 54, _, _, _, _, _⟩) rfl (fun K hK => ?_) AllReadyH.nil
              have HQ0 := HTKH.out wA _ _ (R j) HPa.out (by omega)
              unfold takeV at HQ0
              rw [← HXX.out] at HQ0
              dsimp only at HQ0
              rw [← HC1.out] at HQ0
              have HQH := Lib.hid HQ0
              clear HQ0
              go_simp
              refine HQH.out.mono ?_
              rintro e wt ⟨rfl, svt, hpt, kt, hot⟩
              have HPt := Lib.hid hpt
              have hSt := hpt.kept
              have HWdat := Lib.hid (HWda.out.kept kt (fun i hi hp => by have := (HWda.out.lt i hi).1; have := HSZ6.out i hp; omega))
              have zB := Lib.hid (kt.rowS (HPa.out.other zA.out (by decide) (by decide)) zA.out)
              clear HQH kt hot hpt
              go_wp2_with fail
              refine hK.out _ _ hSt (fun hHeld => ?_)
              clear hK K
              try simp only [Act.put, List.setIfInBounds_toArray, List.set_cons_succ, List.set_cons_zero]
              refine wpAnyH_take (i := 12) (oi := ⟨some 42, _, _, _, _, _⟩) (v := .tuple #[.agg C1, .bool xb]) rfl (by kernel_rfl) (by kernel_rfl) (by kernel_rfl) (fun _ _ _ h => h) (Or.inl ⟨by kernel_rfl, fun w' hS => by go_simp⟩) (by assumption) ?_
              try simp only [Act.put, List.setIfInBounds_toArray, List.set_cons_succ, List.set_cons_zero]
              refine wpAnyH_take (i := 13) (oi := ⟨some 55, _, _, _, _, _⟩) (v := .agg C1) rfl (by kernel_rfl) (by kernel_rfl) (by kernel_rfl) (fun _ _ _ h => h) (Or.inl ⟨by kernel_rfl, fun w' hS => by go_simp⟩) (by assumption) ?_
              try simp only [Act.put, List.setIfInBounds_toArray, List.set_cons_succ, List.set_cons_zero]
              refine wpAnyH_take (i := 14) (oi := ⟨some 56, _, _, _, _, _⟩) (v := .bool xb) rfl (by kernel_rfl) (by kernel_rfl) (by kernel_rfl) (fun _ _ _ h => h) (Or.inl ⟨by kernel_rfl, fun w' hS => by go_simp⟩) (by assumption) ?_
              try simp only [Act.put, List.setIfInBounds_toArray, List.set_cons_succ, List.set_cons_zero]
              refine wpAnyH_ready (rs := [16]) (by kernel_rfl) (by simp) ?_
              refine AllReadyH.cons (o := ⟨none, _, _, _, _, _⟩) rfl (fun K hK => ?_) AllReadyH.nil
              refine step_store59 (C := C1) (g := BA) (o := 0) (by kernel_rfl) rfl rfl hz1.out ho1.out zB.out hzz.out ?_
              intro wz gz kz
              rw [puts_all (Z59_size.trans hz1.out.symm)] at gz
              have YZ := Lib.hid gz
              have HPz := Lib.hid (HPt.out.next kz (fun i hi e => HPt.out.other zB.out (by decide) (by decide) (by have e' : i = BA := e; rw [← e']; exact hi)) (fun i _ e => by have e' : i = BA := e; have := HBA.out; omega))
              have HWdz := Lib.hid (HWdat.out.kept kz (fun i hi e => by have e' : i = BA := e; have := HWdlt.out i hi; omega))
              have hSz := HPz.out.kept
              clear gz kz
              refine hK.out _ _ hSz (fun hHeld => ?_)
              clear hK K
              try simp only [Act.put, List.setIfInBounds_toArray, List.set_cons_succ, List.set_cons_zero]
              refine wpAnyH_take (i := 17) (oi := ⟨some 11, _, _, _, _, _⟩) (v := .bool xb) rfl (by kernel_rfl) (by kernel_rfl) (by kernel_rfl) (fun _ _ _ h => h) (Or.inl ⟨by kernel_rfl, fun w' hS => by go_simp⟩) (by assumption) ?_
              try simp only [Act.put, List.setIfInBounds_toArray, List.set_cons_succ, List.set_cons_zero]
              refine wpAnyH_done (by kernel_rfl) ?_ _
              go_wp2_with fail
              go_meet
              exact ⟨BA, rfl, rfl, YZ, ⟨_, HPz.out⟩, HWdz⟩
        case rest =>
          obtain ⟨B1, rfl, rfl, YB, HPX, HWX⟩ := hcut
          obtain ⟨sx, hpx⟩ := HPX.out
          have HW0 := Lib.hid (HWX.out.mono (Nat.zero_le wr.heap.size))
          have hgrow := take_grow k n 0 l (q j) (R j)
          rw [← HXX.out] at hgrow
          dsimp only at hgrow
          have HNW := Lib.hid (f_entries w g r _ _ sx k n 0 xl wc hpx (by omega))
          have HPx := Lib.hid hpx
          have HGR := Lib.hid hgrow
          have hnd := HPr.out.nodup
          have HND := Lib.hid hnd
          clear HP6 HW6 HPX HWX HSZ6 hpx hgrow hnd
          go_wp2_with fail
          refine HNW.out.mono ?_
          rintro e w7 ⟨v, rfl, hb7, k7⟩
          obtain ⟨an, cn, rfl, _⟩ := hb7.form
          have HN7 := Lib.hid (hb7.mono (Nat.zero_le wc.heap.size))
          have HW7 := Lib.hid (HW0.out.kept k7 (fun _ _ e => e))
          have HP7 := Lib.hid (HPx.out.same k7)
          have YB7 := Lib.hid (k7.row YB.out)
          clear hb7 k7 HNW HPx HW0 YB HPr
          cases hi : pIts n (q j) with
          | false =>
            have hx := HXX.out
            rw [take_no k hi] at hx
            simp only [Prod.mk.injEq] at hx
            obtain ⟨_, rfl, rfl⟩ := hx
            clear hi HXX
            go_wp2_with fail
            have hgk := HGK.out
            go_roundg (ln - (j + 1))
            case measure => omega
            case rel => exact ⟨j + 1, by omega, rfl, by go_num, _, _, HP7.out, by have := HLL.out; omega⟩
          | true =>
            have hx := HXX.out
            rw [take_yes k hi] at hx
            simp only [Prod.mk.injEq] at hx
            obtain ⟨hxc, rfl, hxl⟩ := hx
            obtain ⟨gg, hgg⟩ : ∃ gg, gg = (pSays l (q j) (R j)).1 := ⟨_, rfl⟩
            rw [← hgg] at hxc
            have hv0 : Hid (C1[0]? = some (.int .i64 (q j).saga)) := by show _ = _; rw [HC1.out, hxc]; simp [clC, tagged, outC]
            have hv1 : Hid (C1[1]? = some (.int .i64 (q j).step)) := by show _ = _; rw [HC1.out, hxc]; simp [clC, tagged, outC]
            have hv3 : Hid (C1[3]? = some (.bool (q j).back)) := by show _ = _; rw [HC1.out, hxc]; simp [clC, tagged, outC]
            have hv7 : Hid (C1[7]? = some (.bool gg)) := by show _ = _; rw [HC1.out, hxc]; simp [clC, tagged, outC]
            have HI := Lib.hid hi
            have HXL := Lib.hid hxl
            have HGG := Lib.hid hgg
            have HPRE := Lib.hid (fun (m : Nat) (h : m < l.length) => (show xl[m]? = some l[m] by rw [hxl]; exact says_pre l (q j) (R j) h))
            have HWY := Lib.hid (says_ways l (q j) (R j) HND.out)
            have HMT := Lib.hid (fun (m : Nat) (h : m < l.length) (hk : ((l[m].saga == (q j).saga) && ((l[m].step == (q j).step) && (l[m].back == (q j).back))) = true) => (says_match (rf := R j) HND.out h hk).symm.trans hgg.symm)
            obtain ⟨cs, hcs⟩ : ∃ cs, cs = (q j).saga := ⟨_, rfl⟩
            obtain ⟨ct, hct⟩ : ∃ ct, ct = (q j).step := ⟨_, rfl⟩
            obtain ⟨cb, hcb⟩ : ∃ cb, cb = (q j).back := ⟨_, rfl⟩
            rw [← hcs] at hv0 HMT HWY
            rw [← hct] at hv1 HMT HWY
            rw [← hcb] at hv3 HMT HWY
            clear hxc hxl hgg hi hcs hct hcb HXX
            go_wp2_with fail
            have hgk := HGK.out
            go_loopg [13, 14, 15] l.length (fun gm s13 s14 s15 wy => ∃ m : Nat, m ≤ l.length ∧ gm = l.length - m ∧ s15 = .int .i64 m ∧ s13 = .bool (hadM l cs ct cb m) ∧ s14 = .bool (undM l cs ct m) ∧ Hid (Kept (fun _ => False) w7 wy))
            case atStart => exact ⟨0, Nat.zero_le _, rfl, rfl, rfl, rfl, Kept.refl _ _⟩
            case round =>
              obtain ⟨m, hm, hgm, rfl, rfl, rfl, HKY⟩ := hrel
              have HGM := Lib.hid hgm
              clear hgm
              by_cases hml : m < l.length
              · obtain ⟨gw, _, _, ew, _, _, _, _, _⟩ := HW7.out.pos (by omega)
                simp only [Value.slice.injEq] at ew
                obtain ⟨rfl, _, rfl⟩ := ew
                have hmx : m < xl.length := by
                  have := HPRE.out m hml
                  exact (List.getElem?_eq_some_iff.1 this).1
                have hxe : xl[m] = l[m] := by
                  have := HPRE.out m hml
                  rw [List.getElem?_eq_getElem hmx] at this
                  exact Option.some.inj this
                obtain ⟨gn, _, _, en, _, _, _, _, _⟩ := HN7.out.pos (by omega)
                simp only [Value.slice.injEq] at en
                obtain ⟨rfl, _, rfl⟩ := en
                have hcw := fun (jj : Nat) (v : Value) (hv : (enC l[m])[jj]? = some v) => HKY.out.keepC (en_cell HW7.out rfl hml hv)
                have hcn := fun (jj : Nat) (v : Value) (hv : (enC xl[m])[jj]? = some v) => HKY.out.keepC (en_cell HN7.out rfl hmx hv)
                rw [hxe] at hcn
                have hh1 := hadM_succ hml cs ct cb
                have hu1 := undM_succ hml cs ct
                have hmt := HMT.out m hml
                have YBm := Lib.hid (HKY.out.row YB7.out)
                generalize hadM l cs ct cb m = hb at *
                generalize undM l cs ct m = ub at *
                generalize l[m] = e at hcw hcn hh1 hu1 hmt
                have W0 : Hid (wr.cell? ⟨gw, m * 4, none⟩ = some (.int .i64 e.saga)) := hcw 0 (.int .i64 e.saga) rfl
                have W1 := Lib.hid (hcw 1 (.int .i64 e.step) rfl)
                have W2 := Lib.hid (hcw 2 (.bool e.back) rfl)
                have W3 := Lib.hid (hcw 3 (.bool e.good) rfl)
                have N0 : Hid (wr.cell? ⟨gn, m * 4, none⟩ = some (.int .i64 e.saga)) := hcn 0 (.int .i64 e.saga) rfl
                have N1 := Lib.hid (hcn 1 (.int .i64 e.step) rfl)
                have N2 := Lib.hid (hcn 2 (.bool e.back) rfl)
                have N3 := Lib.hid (hcn 3 (.bool e.good) rfl)
                have HH := Lib.hid hh1
                have HU := Lib.hid hu1
                have HMTm := Lib.hid hmt
                have hmxi := hmx
                clear hcw hcn hh1 hu1 hmt hxe
                go_upto_region 19 with (fail)
                refine wp_region_held_drew (S := fun w' => Kept (fun _ => False) wr.drew w') (by kernel_rfl) (Kept.refl _ _) (fun hHeld => ?_)
                have hSy : Kept (fun _ => False) wr.drew wr.drew := Kept.refl _ _
                have hrd := (Kept.refl (fun _ => False) wr).drew
                have HRD := Lib.hid hrd
                clear hrd
                refine wpAnyH_take (i := 0) (oi := ⟨some 72, _, _, _, _, _⟩) (v := .slice (some ⟨gw, 0, none⟩) l.length cw) rfl (by kernel_rfl) (by kernel_rfl) (by kernel_rfl) (fun _ _ _ h => h) (Or.inl ⟨by kernel_rfl, fun w' hS => by go_simp⟩) (by assumption) ?_
                try simp only [Act.put, List.setIfInBounds_toArray, List.set_cons_succ, List.set_cons_zero]
                refine wpAnyH_take (i := 1) (oi := ⟨some 73, _, _, _, _, _⟩) (v := .int .i64 m) rfl (by kernel_rfl) (by kernel_rfl) (by kernel_rfl) (fun _ _ _ h => h) (Or.inl ⟨by kernel_rfl, fun w' hS => by go_simp⟩) (by assumption) ?_
                try simp only [Act.put, List.setIfInBounds_toArray, List.set_cons_succ, List.set_cons_zero]
                refine wpAnyH_take (i := 2) (oi := ⟨some 74, _, _, _, _, _⟩) (v := .pointer (some ⟨gw, m * 4, none⟩)) rfl (by kernel_rfl) (by kernel_rfl) (by kernel_rfl) (fun _ _ _ h => h) (Or.inl ⟨by kernel_rfl, fun w' hS => by go_simp⟩) (by assumption) ?_
                try simp only [Act.put, List.setIfInBounds_toArray, List.set_cons_succ, List.set_cons_zero]
                refine wpAnyH_take (i := 3) (oi := ⟨some 75, _, _, _, _, _⟩) (v := .agg #[.int .i64 e.saga, .int .i64 e.step, .bool e.back, .bool e.good]) rfl (by kernel_rfl) (by kernel_rfl) (by kernel_rfl) (fun _ _ _ h => h) (Or.inl ⟨by kernel_rfl, fun w' hS => by have c0 := hS.keepC (HRD.out.keepC W0.out); have c1 := hS.keepC (HRD.out.keepC W1.out); have c2 := hS.keepC (HRD.out.keepC W2.out); have c3 := hS.keepC (HRD.out.keepC W3.out); go_simp⟩) (by assumption) ?_
                try simp only [Act.put, List.setIfInBounds_toArray, List.set_cons_succ, List.set_cons_zero]
                refine wpAnyH_take (i := 4) (oi := ⟨some 76, _, _, _, _, _⟩) (v := .slice (some ⟨gn, 0, none⟩) xl.length cn) rfl (by kernel_rfl) (by kernel_rfl) (by kernel_rfl) (fun _ _ _ h => h) (Or.inl ⟨by kernel_rfl, fun w' hS => by go_simp⟩) (by assumption) ?_
                try simp only [Act.put, List.setIfInBounds_toArray, List.set_cons_succ, List.set_cons_zero]
                refine wpAnyH_take (i := 5) (oi := ⟨some 77, _, _, _, _, _⟩) (v := .int .i64 m) rfl (by kernel_rfl) (by kernel_rfl) (by kernel_rfl) (fun _ _ _ h => h) (Or.inl ⟨by kernel_rfl, fun w' hS => by go_simp⟩) (by assumption) ?_
                try simp only [Act.put, List.setIfInBounds_toArray, List.set_cons_succ, List.set_cons_zero]
                refine wpAnyH_take (i := 6) (oi := ⟨some 78, _, _, _, _, _⟩) (v := .pointer (some ⟨gn, m * 4, none⟩)) rfl (by kernel_rfl) (by kernel_rfl) (by kernel_rfl) (fun _ _ _ h => h) (Or.inl ⟨by kernel_rfl, fun w' hS => by go_simp⟩) (by assumption) ?_
                try simp only [Act.put, List.setIfInBounds_toArray, List.set_cons_succ, List.set_cons_zero]
                refine wpAnyH_take (i := 7) (oi := ⟨some 79, _, _, _, _, _⟩) (v := .agg #[.int .i64 e.saga, .int .i64 e.step, .bool e.back, .bool e.good]) rfl (by kernel_rfl) (by kernel_rfl) (by kernel_rfl) (fun _ _ _ h => h) (Or.inl ⟨by kernel_rfl, fun w' hS => by have c0 := hS.keepC (HRD.out.keepC N0.out); have c1 := hS.keepC (HRD.out.keepC N1.out); have c2 := hS.keepC (HRD.out.keepC N2.out); have c3 := hS.keepC (HRD.out.keepC N3.out); go_simp⟩) (by assumption) ?_
                try simp only [Act.put, List.setIfInBounds_toArray, List.set_cons_succ, List.set_cons_zero]
                refine wpAnyH_take (i := 8) (oi := ⟨some 80, _, _, _, _, _⟩) (v := .bool false) rfl (by kernel_rfl) (by kernel_rfl) (by kernel_rfl) (fun _ _ _ h => h) (yieldsNe76 e (by kernel_rfl) rfl rfl) (by assumption) ?_
                try simp only [Act.put, List.setIfInBounds_toArray, List.set_cons_succ, List.set_cons_zero]
                refine wpAnyH_done (by kernel_rfl) ?_ _
                clear hHeld hSy
                go_upto_region 21 with (fail)
                cases h1 : (e.saga == cs) with
                | false =>
                  have H1 := Lib.hid h1
                  rw [h1] at HH HU
                  clear h1
                  refine wp_region_held_drew (S := fun w' => Kept (fun _ => False) wr.drew.drew w') (by kernel_rfl) (Kept.refl _ _) (fun hHeld => ?_)
                  have hSy : Kept (fun _ => False) wr.drew.drew wr.drew.drew := Kept.refl _ _
                  refine wpAnyH_take (i := 0) (oi := ⟨some 81, _, _, _, _, _⟩) (v := .slice (some ⟨gw, 0, none⟩) l.length cw) rfl (by kernel_rfl) (by kernel_rfl) (by kernel_rfl) (fun _ _ _ h => h) (Or.inl ⟨by kernel_rfl, fun w' hS => by go_simp⟩) (by assumption) ?_
                  try simp only [Act.put, List.setIfInBounds_toArray, List.set_cons_succ, List.set_cons_zero]
                  refine wpAnyH_take (i := 1) (oi := ⟨some 82, _, _, _, _, _⟩) (v := .int .i64 m) rfl (by kernel_rfl) (by kernel_rfl) (by kernel_rfl) (fun _ _ _ h => h) (Or.inl ⟨by kernel_rfl, fun w' hS => by go_simp⟩) (by assumption) ?_
                  try simp only [Act.put, List.setIfInBounds_toArray, List.set_cons_succ, List.set_cons_zero]
                  refine wpAnyH_take (i := 2) (oi := ⟨some 83, _, _, _, _, _⟩) (v := .pointer (some ⟨gw, m * 4, none⟩)) rfl (by kernel_rfl) (by kernel_rfl) (by kernel_rfl) (fun _ _ _ h => h) (Or.inl ⟨by kernel_rfl, fun w' hS => by go_simp⟩) (by assumption) ?_
                  try simp only [Act.put, List.setIfInBounds_toArray, List.set_cons_succ, List.set_cons_zero]
                  refine wpAnyH_take (i := 3) (oi := ⟨some 84, _, _, _, _, _⟩) (v := .pointer (some ⟨gw, m * 4, none⟩)) rfl (by kernel_rfl) (by kernel_rfl) (by kernel_rfl) (fun _ _ _ h => h) (Or.inl ⟨by kernel_rfl, fun w' hS => by go_simp⟩) (by assumption) ?_
                  try simp only [Act.put, List.setIfInBounds_toArray, List.set_cons_succ, List.set_cons_zero]
                  refine wpAnyH_take (i := 4) (oi := ⟨some 85, _, _, _, _, _⟩) (v := .int .i64 e.saga) rfl (by kernel_rfl) (by kernel_rfl) (by kernel_rfl) (fun _ _ _ h => h) (Or.inl ⟨by kernel_rfl, fun w' hS => by have c := hS.keepC (HRD.out.drew.keepC W0.out); go_simp⟩) (by assumption) ?_
                  try simp only [Act.put, List.setIfInBounds_toArray, List.set_cons_succ, List.set_cons_zero]
                  refine wpAnyH_take (i := 5) (oi := ⟨some 86, _, _, _, _, _⟩) (v := .pointer (some ⟨B1, 0, none⟩)) rfl (by kernel_rfl) (by kernel_rfl) (by kernel_rfl) (fun _ _ _ h => h) (Or.inl ⟨by kernel_rfl, fun w' hS => by go_simp⟩) (by assumption) ?_
                  try simp only [Act.put, List.setIfInBounds_toArray, List.set_cons_succ, List.set_cons_zero]
                  refine wpAnyH_take (i := 6) (oi := ⟨some 87, _, _, _, _, _⟩) (v := .int .i64 cs) rfl (by kernel_rfl) (by kernel_rfl) (by kernel_rfl) (fun _ _ _ h => h) (Or.inl ⟨by kernel_rfl, fun w' hS => by have c := row_cell (k := 0) (hS.row (HRD.out.drew.row YBm.out)) (v := .int .i64 cs) (hv0.out); go_simp⟩) (by assumption) ?_
                  try simp only [Act.put, List.setIfInBounds_toArray, List.set_cons_succ, List.set_cons_zero]
                  refine wpAnyH_take (i := 7) (oi := ⟨some 88, _, _, _, _, _⟩) (v := .bool false) rfl (by kernel_rfl) (by kernel_rfl) (by kernel_rfl) (fun _ _ _ h => h) (Or.inl ⟨by kernel_rfl, fun w' hS => by have t0 := H1.out; go_simp⟩) (by assumption) ?_
                  try simp only [Act.put, List.setIfInBounds_toArray, List.set_cons_succ, List.set_cons_zero]
                  refine wpAnyH_take (i := 8) (oi := ⟨some 89, _, _, _, _, _⟩) (v := .bool false) rfl (by kernel_rfl) (by kernel_rfl) (by kernel_rfl) (fun _ _ _ h => h) (Or.inl ⟨by kernel_rfl, fun w' hS => by go_simp⟩) (by assumption) ?_
                  try simp only [Act.put, List.setIfInBounds_toArray, List.set_cons_succ, List.set_cons_zero]
                  refine wpAnyH_take (i := 9) (oi := ⟨some 90, _, _, _, _, _⟩) (v := undef) rfl (by kernel_rfl) (by kernel_rfl) (by kernel_rfl) (fun _ _ _ h => h) (Or.inr ⟨by kernel_rfl, rfl⟩) (by assumption) ?_
                  try simp only [Act.put, List.setIfInBounds_toArray, List.set_cons_succ, List.set_cons_zero]
                  refine wpAnyH_take (i := 10) (oi := ⟨some 91, _, _, _, _, _⟩) (v := undef) rfl (by kernel_rfl) (by kernel_rfl) (by kernel_rfl) (fun _ _ _ h => h) (Or.inr ⟨by kernel_rfl, rfl⟩) (by assumption) ?_
                  try simp only [Act.put, List.setIfInBounds_toArray, List.set_cons_succ, List.set_cons_zero]
                  refine wpAnyH_take (i := 11) (oi := ⟨some 92, _, _, _, _, _⟩) (v := undef) rfl (by kernel_rfl) (by kernel_rfl) (by kernel_rfl) (fun _ _ _ h => h) (Or.inr ⟨by kernel_rfl, rfl⟩) (by assumption) ?_
                  try simp only [Act.put, List.setIfInBounds_toArray, List.set_cons_succ, List.set_cons_zero]
                  refine wpAnyH_take (i := 12) (oi := ⟨some 93, _, _, _, _, _⟩) (v := undef) rfl (by kernel_rfl) (by kernel_rfl) (by kernel_rfl) (fun _ _ _ h => h) (Or.inr ⟨by kernel_rfl, rfl⟩) (by assumption) ?_
                  try simp only [Act.put, List.setIfInBounds_toArray, List.set_cons_succ, List.set_cons_zero]
                  refine wpAnyH_take (i := 13) (oi := ⟨some 94, _, _, _, _, _⟩) (v := undef) rfl (by kernel_rfl) (by kernel_rfl) (by kernel_rfl) (fun _ _ _ h => h) (Or.inr ⟨by kernel_rfl, rfl⟩) (by assumption) ?_
                  try simp only [Act.put, List.setIfInBounds_toArray, List.set_cons_succ, List.set_cons_zero]
                  refine wpAnyH_take (i := 14) (oi := ⟨some 95, _, _, _, _, _⟩) (v := undef) rfl (by kernel_rfl) (by kernel_rfl) (by kernel_rfl) (fun _ _ _ h => h) (Or.inr ⟨by kernel_rfl, rfl⟩) (by assumption) ?_
                  try simp only [Act.put, List.setIfInBounds_toArray, List.set_cons_succ, List.set_cons_zero]
                  refine wpAnyH_take (i := 15) (oi := ⟨some 96, _, _, _, _, _⟩) (v := undef) rfl (by kernel_rfl) (by kernel_rfl) (by kernel_rfl) (fun _ _ _ h => h) (Or.inr ⟨by kernel_rfl, rfl⟩) (by assumption) ?_
                  try simp only [Act.put, List.setIfInBounds_toArray, List.set_cons_succ, List.set_cons_zero]
                  refine wpAnyH_take (i := 16) (oi := ⟨some 97, _, _, _, _, _⟩) (v := undef) rfl (by kernel_rfl) (by kernel_rfl) (by kernel_rfl) (fun _ _ _ h => h) (Or.inr ⟨by kernel_rfl, rfl⟩) (by assumption) ?_
                  try simp only [Act.put, List.setIfInBounds_toArray, List.set_cons_succ, List.set_cons_zero]
                  refine wpAnyH_take (i := 17) (oi := ⟨some 98, _, _, _, _, _⟩) (v := .bool false) rfl (by kernel_rfl) (by kernel_rfl) (by kernel_rfl) (fun _ _ _ h => h) (Or.inl ⟨by kernel_rfl, fun w' hS => by go_simp⟩) (by assumption) ?_
                  try simp only [Act.put, List.setIfInBounds_toArray, List.set_cons_succ, List.set_cons_zero]
                  refine wpAnyH_take (i := 18) (oi := ⟨some 16, _, _, _, _, _⟩) (v := .bool false) rfl (by kernel_rfl) (by kernel_rfl) (by kernel_rfl) (fun _ _ _ h => h) (Or.inl ⟨by kernel_rfl, fun w' hS => by go_simp⟩) (by assumption) ?_
                  try simp only [Act.put, List.setIfInBounds_toArray, List.set_cons_succ, List.set_cons_zero]
                  refine wpAnyH_done (by kernel_rfl) ?_ _
                  clear hHeld hSy
                  go_upto_region 22 with (fail)
                  refine wp_region_held_drew (S := fun w' => Kept (fun _ => False) wr.drew.drew.drew w') (by kernel_rfl) (Kept.refl _ _) (fun hHeld => ?_)
                  have hSy : Kept (fun _ => False) wr.drew.drew.drew wr.drew.drew.drew := Kept.refl _ _
                  refine wpAnyH_take (i := 0) (oi := ⟨some 99, _, _, _, _, _⟩) (v := .bool false) rfl (by kernel_rfl) (by kernel_rfl) (by kernel_rfl) (fun _ _ _ h => h) (Or.inl ⟨by kernel_rfl, fun w' hS => by go_simp⟩) (by assumption) ?_
                  try simp only [Act.put, List.setIfInBounds_toArray, List.set_cons_succ, List.set_cons_zero]
                  refine wpAnyH_take (i := 1) (oi := ⟨some 100, _, _, _, _, _⟩) (v := .bool false) rfl (by kernel_rfl) (by kernel_rfl) (by kernel_rfl) (fun _ _ _ h => h) (Or.inl ⟨by kernel_rfl, fun w' hS => by go_simp⟩) (by assumption) ?_
                  try simp only [Act.put, List.setIfInBounds_toArray, List.set_cons_succ, List.set_cons_zero]
                  refine wpAnyH_take (i := 2) (oi := ⟨some 101, _, _, _, _, _⟩) (v := undef) rfl (by kernel_rfl) (by kernel_rfl) (by kernel_rfl) (fun _ _ _ h => h) (Or.inr ⟨by kernel_rfl, rfl⟩) (by assumption) ?_
                  try simp only [Act.put, List.setIfInBounds_toArray, List.set_cons_succ, List.set_cons_zero]
                  refine wpAnyH_take (i := 3) (oi := ⟨some 102, _, _, _, _, _⟩) (v := undef) rfl (by kernel_rfl) (by kernel_rfl) (by kernel_rfl) (fun _ _ _ h => h) (Or.inr ⟨by kernel_rfl, rfl⟩) (by assumption) ?_
                  try simp only [Act.put, List.setIfInBounds_toArray, List.set_cons_succ, List.set_cons_zero]
                  refine wpAnyH_take (i := 4) (oi := ⟨some 103, _, _, _, _, _⟩) (v := undef) rfl (by kernel_rfl) (by kernel_rfl) (by kernel_rfl) (fun _ _ _ h => h) (Or.inr ⟨by kernel_rfl, rfl⟩) (by assumption) ?_
                  try simp only [Act.put, List.setIfInBounds_toArray, List.set_cons_succ, List.set_cons_zero]
                  refine wpAnyH_take (i := 5) (oi := ⟨some 104, _, _, _, _, _⟩) (v := undef) rfl (by kernel_rfl) (by kernel_rfl) (by kernel_rfl) (fun _ _ _ h => h) (Or.inr ⟨by kernel_rfl, rfl⟩) (by assumption) ?_
                  try simp only [Act.put, List.setIfInBounds_toArray, List.set_cons_succ, List.set_cons_zero]
                  refine wpAnyH_take (i := 6) (oi := ⟨some 105, _, _, _, _, _⟩) (v := undef) rfl (by kernel_rfl) (by kernel_rfl) (by kernel_rfl) (fun _ _ _ h => h) (Or.inr ⟨by kernel_rfl, rfl⟩) (by assumption) ?_
                  try simp only [Act.put, List.setIfInBounds_toArray, List.set_cons_succ, List.set_cons_zero]
                  refine wpAnyH_take (i := 7) (oi := ⟨some 106, _, _, _, _, _⟩) (v := undef) rfl (by kernel_rfl) (by kernel_rfl) (by kernel_rfl) (fun _ _ _ h => h) (Or.inr ⟨by kernel_rfl, rfl⟩) (by assumption) ?_
                  try simp only [Act.put, List.setIfInBounds_toArray, List.set_cons_succ, List.set_cons_zero]
                  refine wpAnyH_take (i := 8) (oi := ⟨some 107, _, _, _, _, _⟩) (v := undef) rfl (by kernel_rfl) (by kernel_rfl) (by kernel_rfl) (fun _ _ _ h => h) (Or.inr ⟨by kernel_rfl, rfl⟩) (by assumption) ?_
                  try simp only [Act.put, List.setIfInBounds_toArray, List.set_cons_succ, List.set_cons_zero]
                  refine wpAnyH_take (i := 9) (oi := ⟨some 108, _, _, _, _, _⟩) (v := undef) rfl (by kernel_rfl) (by kernel_rfl) (by kernel_rfl) (fun _ _ _ h => h) (Or.inr ⟨by kernel_rfl, rfl⟩) (by assumption) ?_
                  try simp only [Act.put, List.setIfInBounds_toArray, List.set_cons_succ, List.set_cons_zero]
                  refine wpAnyH_take (i := 10) (oi := ⟨some 109, _, _, _, _, _⟩) (v := .bool false) rfl (by kernel_rfl) (by kernel_rfl) (by kernel_rfl) (fun _ _ _ h => h) (Or.inl ⟨by kernel_rfl, fun w' hS => by go_simp⟩) (by assumption) ?_
                  try simp only [Act.put, List.setIfInBounds_toArray, List.set_cons_succ, List.set_cons_zero]
                  refine wpAnyH_done (by kernel_rfl) ?_ _
                  clear hHeld hSy
                  cases ub
                  case false =>
                    have KY := Lib.hid (HKY.out.trans (HRD.out.drew.drew))
                    go_wp2_with fail
                    have hgm := HGM.out
                    go_roundg (l.length - (m + 1))
                    case measure => omega
                    case rel => exact ⟨m + 1, by omega, rfl, by go_num, (show Value.bool hb = _ by rw [HH.out]; first | rfl | simp), (show Value.bool false = _ by rw [HU.out]; first | rfl | simp), KY.out⟩
                  case true =>
                    have KY := Lib.hid (HKY.out.trans (HRD.out.drew.drew))
                    go_wp2_with fail
                    have hgm := HGM.out
                    go_roundg (l.length - (m + 1))
                    case measure => omega
                    case rel => exact ⟨m + 1, by omega, rfl, by go_num, (show Value.bool hb = _ by rw [HH.out]; first | rfl | simp), (show Value.bool true = _ by rw [HU.out]; first | rfl | simp), KY.out⟩
                | true =>
                  have H1 := Lib.hid h1
                  rw [h1] at HH HU
                  cases h2 : (e.step == ct) with
                  | false =>
                    have H2 := Lib.hid h2
                    rw [h2] at HH HU
                    clear h1 h2
                    refine wp_region_held_drew (S := fun w' => Kept (fun _ => False) wr.drew.drew w') (by kernel_rfl) (Kept.refl _ _) (fun hHeld => ?_)
                    have hSy : Kept (fun _ => False) wr.drew.drew wr.drew.drew := Kept.refl _ _
                    refine wpAnyH_take (i := 0) (oi := ⟨some 81, _, _, _, _, _⟩) (v := .slice (some ⟨gw, 0, none⟩) l.length cw) rfl (by kernel_rfl) (by kernel_rfl) (by kernel_rfl) (fun _ _ _ h => h) (Or.inl ⟨by kernel_rfl, fun w' hS => by go_simp⟩) (by assumption) ?_
                    try simp only [Act.put, List.setIfInBounds_toArray, List.set_cons_succ, List.set_cons_zero]
                    refine wpAnyH_take (i := 1) (oi := ⟨some 82, _, _, _, _, _⟩) (v := .int .i64 m) rfl (by kernel_rfl) (by kernel_rfl) (by kernel_rfl) (fun _ _ _ h => h) (Or.inl ⟨by kernel_rfl, fun w' hS => by go_simp⟩) (by assumption) ?_
                    try simp only [Act.put, List.setIfInBounds_toArray, List.set_cons_succ, List.set_cons_zero]
                    refine wpAnyH_take (i := 2) (oi := ⟨some 83, _, _, _, _, _⟩) (v := .pointer (some ⟨gw, m * 4, none⟩)) rfl (by kernel_rfl) (by kernel_rfl) (by kernel_rfl) (fun _ _ _ h => h) (Or.inl ⟨by kernel_rfl, fun w' hS => by go_simp⟩) (by assumption) ?_
                    try simp only [Act.put, List.setIfInBounds_toArray, List.set_cons_succ, List.set_cons_zero]
                    refine wpAnyH_take (i := 3) (oi := ⟨some 84, _, _, _, _, _⟩) (v := .pointer (some ⟨gw, m * 4, none⟩)) rfl (by kernel_rfl) (by kernel_rfl) (by kernel_rfl) (fun _ _ _ h => h) (Or.inl ⟨by kernel_rfl, fun w' hS => by go_simp⟩) (by assumption) ?_
                    try simp only [Act.put, List.setIfInBounds_toArray, List.set_cons_succ, List.set_cons_zero]
                    refine wpAnyH_take (i := 4) (oi := ⟨some 85, _, _, _, _, _⟩) (v := .int .i64 e.saga) rfl (by kernel_rfl) (by kernel_rfl) (by kernel_rfl) (fun _ _ _ h => h) (Or.inl ⟨by kernel_rfl, fun w' hS => by have c := hS.keepC (HRD.out.drew.keepC W0.out); go_simp⟩) (by assumption) ?_
                    try simp only [Act.put, List.setIfInBounds_toArray, List.set_cons_succ, List.set_cons_zero]
                    refine wpAnyH_take (i := 5) (oi := ⟨some 86, _, _, _, _, _⟩) (v := .pointer (some ⟨B1, 0, none⟩)) rfl (by kernel_rfl) (by kernel_rfl) (by kernel_rfl) (fun _ _ _ h => h) (Or.inl ⟨by kernel_rfl, fun w' hS => by go_simp⟩) (by assumption) ?_
                    try simp only [Act.put, List.setIfInBounds_toArray, List.set_cons_succ, List.set_cons_zero]
                    refine wpAnyH_take (i := 6) (oi := ⟨some 87, _, _, _, _, _⟩) (v := .int .i64 cs) rfl (by kernel_rfl) (by kernel_rfl) (by kernel_rfl) (fun _ _ _ h => h) (Or.inl ⟨by kernel_rfl, fun w' hS => by have c := row_cell (k := 0) (hS.row (HRD.out.drew.row YBm.out)) (v := .int .i64 cs) (hv0.out); go_simp⟩) (by assumption) ?_
                    try simp only [Act.put, List.setIfInBounds_toArray, List.set_cons_succ, List.set_cons_zero]
                    refine wpAnyH_take (i := 7) (oi := ⟨some 88, _, _, _, _, _⟩) (v := .bool true) rfl (by kernel_rfl) (by kernel_rfl) (by kernel_rfl) (fun _ _ _ h => h) (Or.inl ⟨by kernel_rfl, fun w' hS => by have t0 := H1.out; go_simp⟩) (by assumption) ?_
                    try simp only [Act.put, List.setIfInBounds_toArray, List.set_cons_succ, List.set_cons_zero]
                    refine wpAnyH_take (i := 8) (oi := ⟨some 89, _, _, _, _, _⟩) (v := .bool true) rfl (by kernel_rfl) (by kernel_rfl) (by kernel_rfl) (fun _ _ _ h => h) (Or.inl ⟨by kernel_rfl, fun w' hS => by go_simp⟩) (by assumption) ?_
                    try simp only [Act.put, List.setIfInBounds_toArray, List.set_cons_succ, List.set_cons_zero]
                    refine wpAnyH_take (i := 9) (oi := ⟨some 90, _, _, _, _, _⟩) (v := .slice (some ⟨gw, 0, none⟩) l.length cw) rfl (by kernel_rfl) (by kernel_rfl) (by kernel_rfl) (fun _ _ _ h => h) (Or.inl ⟨by kernel_rfl, fun w' hS => by go_simp⟩) (by assumption) ?_
                    try simp only [Act.put, List.setIfInBounds_toArray, List.set_cons_succ, List.set_cons_zero]
                    refine wpAnyH_take (i := 10) (oi := ⟨some 91, _, _, _, _, _⟩) (v := .int .i64 m) rfl (by kernel_rfl) (by kernel_rfl) (by kernel_rfl) (fun _ _ _ h => h) (Or.inl ⟨by kernel_rfl, fun w' hS => by go_simp⟩) (by assumption) ?_
                    try simp only [Act.put, List.setIfInBounds_toArray, List.set_cons_succ, List.set_cons_zero]
                    refine wpAnyH_take (i := 11) (oi := ⟨some 92, _, _, _, _, _⟩) (v := .pointer (some ⟨gw, m * 4, none⟩)) rfl (by kernel_rfl) (by kernel_rfl) (by kernel_rfl) (fun _ _ _ h => h) (Or.inl ⟨by kernel_rfl, fun w' hS => by go_simp⟩) (by assumption) ?_
                    try simp only [Act.put, List.setIfInBounds_toArray, List.set_cons_succ, List.set_cons_zero]
                    refine wpAnyH_take (i := 12) (oi := ⟨some 93, _, _, _, _, _⟩) (v := .pointer (some ⟨gw, m * 4 + 1, none⟩)) rfl (by kernel_rfl) (by kernel_rfl) (by kernel_rfl) (fun _ _ _ h => h) (Or.inl ⟨by kernel_rfl, fun w' hS => by go_simp⟩) (by assumption) ?_
                    try simp only [Act.put, List.setIfInBounds_toArray, List.set_cons_succ, List.set_cons_zero]
                    refine wpAnyH_take (i := 13) (oi := ⟨some 94, _, _, _, _, _⟩) (v := .int .i64 e.step) rfl (by kernel_rfl) (by kernel_rfl) (by kernel_rfl) (fun _ _ _ h => h) (Or.inl ⟨by kernel_rfl, fun w' hS => by have c := hS.keepC (HRD.out.drew.keepC W1.out); go_simp⟩) (by assumption) ?_
                    try simp only [Act.put, List.setIfInBounds_toArray, List.set_cons_succ, List.set_cons_zero]
                    refine wpAnyH_take (i := 14) (oi := ⟨some 95, _, _, _, _, _⟩) (v := .pointer (some ⟨B1, 1, none⟩)) rfl (by kernel_rfl) (by kernel_rfl) (by kernel_rfl) (fun _ _ _ h => h) (Or.inl ⟨by kernel_rfl, fun w' hS => by go_simp⟩) (by assumption) ?_
                    try simp only [Act.put, List.setIfInBounds_toArray, List.set_cons_succ, List.set_cons_zero]
                    refine wpAnyH_take (i := 15) (oi := ⟨some 96, _, _, _, _, _⟩) (v := .int .i64 ct) rfl (by kernel_rfl) (by kernel_rfl) (by kernel_rfl) (fun _ _ _ h => h) (Or.inl ⟨by kernel_rfl, fun w' hS => by have c := row_cell (k := 1) (hS.row (HRD.out.drew.row YBm.out)) (v := .int .i64 ct) (hv1.out); go_simp⟩) (by assumption) ?_
                    try simp only [Act.put, List.setIfInBounds_toArray, List.set_cons_succ, List.set_cons_zero]
                    refine wpAnyH_take (i := 16) (oi := ⟨some 97, _, _, _, _, _⟩) (v := .bool false) rfl (by kernel_rfl) (by kernel_rfl) (by kernel_rfl) (fun _ _ _ h => h) (Or.inl ⟨by kernel_rfl, fun w' hS => by have t0 := H2.out; go_simp⟩) (by assumption) ?_
                    try simp only [Act.put, List.setIfInBounds_toArray, List.set_cons_succ, List.set_cons_zero]
                    refine wpAnyH_take (i := 17) (oi := ⟨some 98, _, _, _, _, _⟩) (v := .bool false) rfl (by kernel_rfl) (by kernel_rfl) (by kernel_rfl) (fun _ _ _ h => h) (Or.inl ⟨by kernel_rfl, fun w' hS => by go_simp⟩) (by assumption) ?_
                    try simp only [Act.put, List.setIfInBounds_toArray, List.set_cons_succ, List.set_cons_zero]
                    refine wpAnyH_take (i := 18) (oi := ⟨some 16, _, _, _, _, _⟩) (v := .bool false) rfl (by kernel_rfl) (by kernel_rfl) (by kernel_rfl) (fun _ _ _ h => h) (Or.inl ⟨by kernel_rfl, fun w' hS => by go_simp⟩) (by assumption) ?_
                    try simp only [Act.put, List.setIfInBounds_toArray, List.set_cons_succ, List.set_cons_zero]
                    refine wpAnyH_done (by kernel_rfl) ?_ _
                    clear hHeld hSy
                    go_upto_region 22 with (fail)
                    refine wp_region_held_drew (S := fun w' => Kept (fun _ => False) wr.drew.drew.drew w') (by kernel_rfl) (Kept.refl _ _) (fun hHeld => ?_)
                    have hSy : Kept (fun _ => False) wr.drew.drew.drew wr.drew.drew.drew := Kept.refl _ _
                    refine wpAnyH_take (i := 0) (oi := ⟨some 99, _, _, _, _, _⟩) (v := .bool false) rfl (by kernel_rfl) (by kernel_rfl) (by kernel_rfl) (fun _ _ _ h => h) (Or.inl ⟨by kernel_rfl, fun w' hS => by go_simp⟩) (by assumption) ?_
                    try simp only [Act.put, List.setIfInBounds_toArray, List.set_cons_succ, List.set_cons_zero]
                    refine wpAnyH_take (i := 1) (oi := ⟨some 100, _, _, _, _, _⟩) (v := .bool false) rfl (by kernel_rfl) (by kernel_rfl) (by kernel_rfl) (fun _ _ _ h => h) (Or.inl ⟨by kernel_rfl, fun w' hS => by go_simp⟩) (by assumption) ?_
                    try simp only [Act.put, List.setIfInBounds_toArray, List.set_cons_succ, List.set_cons_zero]
                    refine wpAnyH_take (i := 2) (oi := ⟨some 101, _, _, _, _, _⟩) (v := undef) rfl (by kernel_rfl) (by kernel_rfl) (by kernel_rfl) (fun _ _ _ h => h) (Or.inr ⟨by kernel_rfl, rfl⟩) (by assumption) ?_
                    try simp only [Act.put, List.setIfInBounds_toArray, List.set_cons_succ, List.set_cons_zero]
                    refine wpAnyH_take (i := 3) (oi := ⟨some 102, _, _, _, _, _⟩) (v := undef) rfl (by kernel_rfl) (by kernel_rfl) (by kernel_rfl) (fun _ _ _ h => h) (Or.inr ⟨by kernel_rfl, rfl⟩) (by assumption) ?_
                    try simp only [Act.put, List.setIfInBounds_toArray, List.set_cons_succ, List.set_cons_zero]
                    refine wpAnyH_take (i := 4) (oi := ⟨some 103, _, _, _, _, _⟩) (v := undef) rfl (by kernel_rfl) (by kernel_rfl) (by kernel_rfl) (fun _ _ _ h => h) (Or.inr ⟨by kernel_rfl, rfl⟩) (by assumption) ?_
                    try simp only [Act.put, List.setIfInBounds_toArray, List.set_cons_succ, List.set_cons_zero]
                    refine wpAnyH_take (i := 5) (oi := ⟨some 104, _, _, _, _, _⟩) (v := undef) rfl (by kernel_rfl) (by kernel_rfl) (by kernel_rfl) (fun _ _ _ h => h) (Or.inr ⟨by kernel_rfl, rfl⟩) (by assumption) ?_
                    try simp only [Act.put, List.setIfInBounds_toArray, List.set_cons_succ, List.set_cons_zero]
                    refine wpAnyH_take (i := 6) (oi := ⟨some 105, _, _, _, _, _⟩) (v := undef) rfl (by kernel_rfl) (by kernel_rfl) (by kernel_rfl) (fun _ _ _ h => h) (Or.inr ⟨by kernel_rfl, rfl⟩) (by assumption) ?_
                    try simp only [Act.put, List.setIfInBounds_toArray, List.set_cons_succ, List.set_cons_zero]
                    refine wpAnyH_take (i := 7) (oi := ⟨some 106, _, _, _, _, _⟩) (v := undef) rfl (by kernel_rfl) (by kernel_rfl) (by kernel_rfl) (fun _ _ _ h => h) (Or.inr ⟨by kernel_rfl, rfl⟩) (by assumption) ?_
                    try simp only [Act.put, List.setIfInBounds_toArray, List.set_cons_succ, List.set_cons_zero]
                    refine wpAnyH_take (i := 8) (oi := ⟨some 107, _, _, _, _, _⟩) (v := undef) rfl (by kernel_rfl) (by kernel_rfl) (by kernel_rfl) (fun _ _ _ h => h) (Or.inr ⟨by kernel_rfl, rfl⟩) (by assumption) ?_
                    try simp only [Act.put, List.setIfInBounds_toArray, List.set_cons_succ, List.set_cons_zero]
                    refine wpAnyH_take (i := 9) (oi := ⟨some 108, _, _, _, _, _⟩) (v := undef) rfl (by kernel_rfl) (by kernel_rfl) (by kernel_rfl) (fun _ _ _ h => h) (Or.inr ⟨by kernel_rfl, rfl⟩) (by assumption) ?_
                    try simp only [Act.put, List.setIfInBounds_toArray, List.set_cons_succ, List.set_cons_zero]
                    refine wpAnyH_take (i := 10) (oi := ⟨some 109, _, _, _, _, _⟩) (v := .bool false) rfl (by kernel_rfl) (by kernel_rfl) (by kernel_rfl) (fun _ _ _ h => h) (Or.inl ⟨by kernel_rfl, fun w' hS => by go_simp⟩) (by assumption) ?_
                    try simp only [Act.put, List.setIfInBounds_toArray, List.set_cons_succ, List.set_cons_zero]
                    refine wpAnyH_done (by kernel_rfl) ?_ _
                    clear hHeld hSy
                    cases ub
                    case false =>
                      have KY := Lib.hid (HKY.out.trans (HRD.out.drew.drew))
                      go_wp2_with fail
                      have hgm := HGM.out
                      go_roundg (l.length - (m + 1))
                      case measure => omega
                      case rel => exact ⟨m + 1, by omega, rfl, by go_num, (show Value.bool hb = _ by rw [HH.out]; first | rfl | simp), (show Value.bool false = _ by rw [HU.out]; first | rfl | simp), KY.out⟩
                    case true =>
                      have KY := Lib.hid (HKY.out.trans (HRD.out.drew.drew))
                      go_wp2_with fail
                      have hgm := HGM.out
                      go_roundg (l.length - (m + 1))
                      case measure => omega
                      case rel => exact ⟨m + 1, by omega, rfl, by go_num, (show Value.bool hb = _ by rw [HH.out]; first | rfl | simp), (show Value.bool true = _ by rw [HU.out]; first | rfl | simp), KY.out⟩
                  | true =>
                    have H2 := Lib.hid h2
                    rw [h2] at HH HU
                    cases h3 : (e.back == cb) with
                    | false =>
                      have H3 := Lib.hid h3
                      rw [h3] at HH
                      clear h1 h2 h3
                      refine wp_region_held_drew (S := fun w' => Kept (fun _ => False) wr.drew.drew w') (by kernel_rfl) (Kept.refl _ _) (fun hHeld => ?_)
                      have hSy : Kept (fun _ => False) wr.drew.drew wr.drew.drew := Kept.refl _ _
                      refine wpAnyH_take (i := 0) (oi := ⟨some 81, _, _, _, _, _⟩) (v := .slice (some ⟨gw, 0, none⟩) l.length cw) rfl (by kernel_rfl) (by kernel_rfl) (by kernel_rfl) (fun _ _ _ h => h) (Or.inl ⟨by kernel_rfl, fun w' hS => by go_simp⟩) (by assumption) ?_
                      try simp only [Act.put, List.setIfInBounds_toArray, List.set_cons_succ, List.set_cons_zero]
                      refine wpAnyH_take (i := 1) (oi := ⟨some 82, _, _, _, _, _⟩) (v := .int .i64 m) rfl (by kernel_rfl) (by kernel_rfl) (by kernel_rfl) (fun _ _ _ h => h) (Or.inl ⟨by kernel_rfl, fun w' hS => by go_simp⟩) (by assumption) ?_
                      try simp only [Act.put, List.setIfInBounds_toArray, List.set_cons_succ, List.set_cons_zero]
                      refine wpAnyH_take (i := 2) (oi := ⟨some 83, _, _, _, _, _⟩) (v := .pointer (some ⟨gw, m * 4, none⟩)) rfl (by kernel_rfl) (by kernel_rfl) (by kernel_rfl) (fun _ _ _ h => h) (Or.inl ⟨by kernel_rfl, fun w' hS => by go_simp⟩) (by assumption) ?_
                      try simp only [Act.put, List.setIfInBounds_toArray, List.set_cons_succ, List.set_cons_zero]
                      refine wpAnyH_take (i := 3) (oi := ⟨some 84, _, _, _, _, _⟩) (v := .pointer (some ⟨gw, m * 4, none⟩)) rfl (by kernel_rfl) (by kernel_rfl) (by kernel_rfl) (fun _ _ _ h => h) (Or.inl ⟨by kernel_rfl, fun w' hS => by go_simp⟩) (by assumption) ?_
                      try simp only [Act.put, List.setIfInBounds_toArray, List.set_cons_succ, List.set_cons_zero]
                      refine wpAnyH_take (i := 4) (oi := ⟨some 85, _, _, _, _, _⟩) (v := .int .i64 e.saga) rfl (by kernel_rfl) (by kernel_rfl) (by kernel_rfl) (fun _ _ _ h => h) (Or.inl ⟨by kernel_rfl, fun w' hS => by have c := hS.keepC (HRD.out.drew.keepC W0.out); go_simp⟩) (by assumption) ?_
                      try simp only [Act.put, List.setIfInBounds_toArray, List.set_cons_succ, List.set_cons_zero]
                      refine wpAnyH_take (i := 5) (oi := ⟨some 86, _, _, _, _, _⟩) (v := .pointer (some ⟨B1, 0, none⟩)) rfl (by kernel_rfl) (by kernel_rfl) (by kernel_rfl) (fun _ _ _ h => h) (Or.inl ⟨by kernel_rfl, fun w' hS => by go_simp⟩) (by assumption) ?_
                      try simp only [Act.put, List.setIfInBounds_toArray, List.set_cons_succ, List.set_cons_zero]
                      refine wpAnyH_take (i := 6) (oi := ⟨some 87, _, _, _, _, _⟩) (v := .int .i64 cs) rfl (by kernel_rfl) (by kernel_rfl) (by kernel_rfl) (fun _ _ _ h => h) (Or.inl ⟨by kernel_rfl, fun w' hS => by have c := row_cell (k := 0) (hS.row (HRD.out.drew.row YBm.out)) (v := .int .i64 cs) (hv0.out); go_simp⟩) (by assumption) ?_
                      try simp only [Act.put, List.setIfInBounds_toArray, List.set_cons_succ, List.set_cons_zero]
                      refine wpAnyH_take (i := 7) (oi := ⟨some 88, _, _, _, _, _⟩) (v := .bool true) rfl (by kernel_rfl) (by kernel_rfl) (by kernel_rfl) (fun _ _ _ h => h) (Or.inl ⟨by kernel_rfl, fun w' hS => by have t0 := H1.out; go_simp⟩) (by assumption) ?_
                      try simp only [Act.put, List.setIfInBounds_toArray, List.set_cons_succ, List.set_cons_zero]
                      refine wpAnyH_take (i := 8) (oi := ⟨some 89, _, _, _, _, _⟩) (v := .bool true) rfl (by kernel_rfl) (by kernel_rfl) (by kernel_rfl) (fun _ _ _ h => h) (Or.inl ⟨by kernel_rfl, fun w' hS => by go_simp⟩) (by assumption) ?_
                      try simp only [Act.put, List.setIfInBounds_toArray, List.set_cons_succ, List.set_cons_zero]
                      refine wpAnyH_take (i := 9) (oi := ⟨some 90, _, _, _, _, _⟩) (v := .slice (some ⟨gw, 0, none⟩) l.length cw) rfl (by kernel_rfl) (by kernel_rfl) (by kernel_rfl) (fun _ _ _ h => h) (Or.inl ⟨by kernel_rfl, fun w' hS => by go_simp⟩) (by assumption) ?_
                      try simp only [Act.put, List.setIfInBounds_toArray, List.set_cons_succ, List.set_cons_zero]
                      refine wpAnyH_take (i := 10) (oi := ⟨some 91, _, _, _, _, _⟩) (v := .int .i64 m) rfl (by kernel_rfl) (by kernel_rfl) (by kernel_rfl) (fun _ _ _ h => h) (Or.inl ⟨by kernel_rfl, fun w' hS => by go_simp⟩) (by assumption) ?_
                      try simp only [Act.put, List.setIfInBounds_toArray, List.set_cons_succ, List.set_cons_zero]
                      refine wpAnyH_take (i := 11) (oi := ⟨some 92, _, _, _, _, _⟩) (v := .pointer (some ⟨gw, m * 4, none⟩)) rfl (by kernel_rfl) (by kernel_rfl) (by kernel_rfl) (fun _ _ _ h => h) (Or.inl ⟨by kernel_rfl, fun w' hS => by go_simp⟩) (by assumption) ?_
                      try simp only [Act.put, List.setIfInBounds_toArray, List.set_cons_succ, List.set_cons_zero]
                      refine wpAnyH_take (i := 12) (oi := ⟨some 93, _, _, _, _, _⟩) (v := .pointer (some ⟨gw, m * 4 + 1, none⟩)) rfl (by kernel_rfl) (by kernel_rfl) (by kernel_rfl) (fun _ _ _ h => h) (Or.inl ⟨by kernel_rfl, fun w' hS => by go_simp⟩) (by assumption) ?_
                      try simp only [Act.put, List.setIfInBounds_toArray, List.set_cons_succ, List.set_cons_zero]
                      refine wpAnyH_take (i := 13) (oi := ⟨some 94, _, _, _, _, _⟩) (v := .int .i64 e.step) rfl (by kernel_rfl) (by kernel_rfl) (by kernel_rfl) (fun _ _ _ h => h) (Or.inl ⟨by kernel_rfl, fun w' hS => by have c := hS.keepC (HRD.out.drew.keepC W1.out); go_simp⟩) (by assumption) ?_
                      try simp only [Act.put, List.setIfInBounds_toArray, List.set_cons_succ, List.set_cons_zero]
                      refine wpAnyH_take (i := 14) (oi := ⟨some 95, _, _, _, _, _⟩) (v := .pointer (some ⟨B1, 1, none⟩)) rfl (by kernel_rfl) (by kernel_rfl) (by kernel_rfl) (fun _ _ _ h => h) (Or.inl ⟨by kernel_rfl, fun w' hS => by go_simp⟩) (by assumption) ?_
                      try simp only [Act.put, List.setIfInBounds_toArray, List.set_cons_succ, List.set_cons_zero]
                      refine wpAnyH_take (i := 15) (oi := ⟨some 96, _, _, _, _, _⟩) (v := .int .i64 ct) rfl (by kernel_rfl) (by kernel_rfl) (by kernel_rfl) (fun _ _ _ h => h) (Or.inl ⟨by kernel_rfl, fun w' hS => by have c := row_cell (k := 1) (hS.row (HRD.out.drew.row YBm.out)) (v := .int .i64 ct) (hv1.out); go_simp⟩) (by assumption) ?_
                      try simp only [Act.put, List.setIfInBounds_toArray, List.set_cons_succ, List.set_cons_zero]
                      refine wpAnyH_take (i := 16) (oi := ⟨some 97, _, _, _, _, _⟩) (v := .bool true) rfl (by kernel_rfl) (by kernel_rfl) (by kernel_rfl) (fun _ _ _ h => h) (Or.inl ⟨by kernel_rfl, fun w' hS => by have t0 := H2.out; go_simp⟩) (by assumption) ?_
                      try simp only [Act.put, List.setIfInBounds_toArray, List.set_cons_succ, List.set_cons_zero]
                      refine wpAnyH_take (i := 17) (oi := ⟨some 98, _, _, _, _, _⟩) (v := .bool true) rfl (by kernel_rfl) (by kernel_rfl) (by kernel_rfl) (fun _ _ _ h => h) (Or.inl ⟨by kernel_rfl, fun w' hS => by go_simp⟩) (by assumption) ?_
                      try simp only [Act.put, List.setIfInBounds_toArray, List.set_cons_succ, List.set_cons_zero]
                      refine wpAnyH_take (i := 18) (oi := ⟨some 16, _, _, _, _, _⟩) (v := .bool true) rfl (by kernel_rfl) (by kernel_rfl) (by kernel_rfl) (fun _ _ _ h => h) (Or.inl ⟨by kernel_rfl, fun w' hS => by go_simp⟩) (by assumption) ?_
                      try simp only [Act.put, List.setIfInBounds_toArray, List.set_cons_succ, List.set_cons_zero]
                      refine wpAnyH_done (by kernel_rfl) ?_ _
                      clear hHeld hSy
                      go_upto_region 22 with (fail)
                      refine wp_region_held_drew (S := fun w' => Kept (fun _ => False) wr.drew.drew.drew w') (by kernel_rfl) (Kept.refl _ _) (fun hHeld => ?_)
                      have hSy : Kept (fun _ => False) wr.drew.drew.drew wr.drew.drew.drew := Kept.refl _ _
                      refine wpAnyH_take (i := 0) (oi := ⟨some 99, _, _, _, _, _⟩) (v := .bool true) rfl (by kernel_rfl) (by kernel_rfl) (by kernel_rfl) (fun _ _ _ h => h) (Or.inl ⟨by kernel_rfl, fun w' hS => by go_simp⟩) (by assumption) ?_
                      try simp only [Act.put, List.setIfInBounds_toArray, List.set_cons_succ, List.set_cons_zero]
                      refine wpAnyH_take (i := 1) (oi := ⟨some 100, _, _, _, _, _⟩) (v := .bool true) rfl (by kernel_rfl) (by kernel_rfl) (by kernel_rfl) (fun _ _ _ h => h) (Or.inl ⟨by kernel_rfl, fun w' hS => by go_simp⟩) (by assumption) ?_
                      try simp only [Act.put, List.setIfInBounds_toArray, List.set_cons_succ, List.set_cons_zero]
                      refine wpAnyH_take (i := 2) (oi := ⟨some 101, _, _, _, _, _⟩) (v := .slice (some ⟨gw, 0, none⟩) l.length cw) rfl (by kernel_rfl) (by kernel_rfl) (by kernel_rfl) (fun _ _ _ h => h) (Or.inl ⟨by kernel_rfl, fun w' hS => by go_simp⟩) (by assumption) ?_
                      try simp only [Act.put, List.setIfInBounds_toArray, List.set_cons_succ, List.set_cons_zero]
                      refine wpAnyH_take (i := 3) (oi := ⟨some 102, _, _, _, _, _⟩) (v := .int .i64 m) rfl (by kernel_rfl) (by kernel_rfl) (by kernel_rfl) (fun _ _ _ h => h) (Or.inl ⟨by kernel_rfl, fun w' hS => by go_simp⟩) (by assumption) ?_
                      try simp only [Act.put, List.setIfInBounds_toArray, List.set_cons_succ, List.set_cons_zero]
                      refine wpAnyH_take (i := 4) (oi := ⟨some 103, _, _, _, _, _⟩) (v := .pointer (some ⟨gw, m * 4, none⟩)) rfl (by kernel_rfl) (by kernel_rfl) (by kernel_rfl) (fun _ _ _ h => h) (Or.inl ⟨by kernel_rfl, fun w' hS => by go_simp⟩) (by assumption) ?_
                      try simp only [Act.put, List.setIfInBounds_toArray, List.set_cons_succ, List.set_cons_zero]
                      refine wpAnyH_take (i := 5) (oi := ⟨some 104, _, _, _, _, _⟩) (v := .pointer (some ⟨gw, m * 4 + 2, none⟩)) rfl (by kernel_rfl) (by kernel_rfl) (by kernel_rfl) (fun _ _ _ h => h) (Or.inl ⟨by kernel_rfl, fun w' hS => by go_simp⟩) (by assumption) ?_
                      try simp only [Act.put, List.setIfInBounds_toArray, List.set_cons_succ, List.set_cons_zero]
                      refine wpAnyH_take (i := 6) (oi := ⟨some 105, _, _, _, _, _⟩) (v := .bool e.back) rfl (by kernel_rfl) (by kernel_rfl) (by kernel_rfl) (fun _ _ _ h => h) (Or.inl ⟨by kernel_rfl, fun w' hS => by have c := hS.keepC (HRD.out.drew.drew.keepC W2.out); go_simp⟩) (by assumption) ?_
                      try simp only [Act.put, List.setIfInBounds_toArray, List.set_cons_succ, List.set_cons_zero]
                      refine wpAnyH_take (i := 7) (oi := ⟨some 106, _, _, _, _, _⟩) (v := .pointer (some ⟨B1, 3, none⟩)) rfl (by kernel_rfl) (by kernel_rfl) (by kernel_rfl) (fun _ _ _ h => h) (Or.inl ⟨by kernel_rfl, fun w' hS => by go_simp⟩) (by assumption) ?_
                      try simp only [Act.put, List.setIfInBounds_toArray, List.set_cons_succ, List.set_cons_zero]
                      refine wpAnyH_take (i := 8) (oi := ⟨some 107, _, _, _, _, _⟩) (v := .bool cb) rfl (by kernel_rfl) (by kernel_rfl) (by kernel_rfl) (fun _ _ _ h => h) (Or.inl ⟨by kernel_rfl, fun w' hS => by have c := row_cell (k := 3) (hS.row (HRD.out.drew.drew.row YBm.out)) (v := .bool cb) (hv3.out); go_simp⟩) (by assumption) ?_
                      try simp only [Act.put, List.setIfInBounds_toArray, List.set_cons_succ, List.set_cons_zero]
                      refine wpAnyH_take (i := 9) (oi := ⟨some 108, _, _, _, _, _⟩) (v := .bool false) rfl (by kernel_rfl) (by kernel_rfl) (by kernel_rfl) (fun _ _ _ h => h) (Or.inl ⟨by kernel_rfl, fun w' hS => by have t0 := H3.out; go_simp⟩) (by assumption) ?_
                      try simp only [Act.put, List.setIfInBounds_toArray, List.set_cons_succ, List.set_cons_zero]
                      refine wpAnyH_take (i := 10) (oi := ⟨some 109, _, _, _, _, _⟩) (v := .bool false) rfl (by kernel_rfl) (by kernel_rfl) (by kernel_rfl) (fun _ _ _ h => h) (Or.inl ⟨by kernel_rfl, fun w' hS => by go_simp⟩) (by assumption) ?_
                      try simp only [Act.put, List.setIfInBounds_toArray, List.set_cons_succ, List.set_cons_zero]
                      refine wpAnyH_done (by kernel_rfl) ?_ _
                      clear hHeld hSy
                      cases ub
                      case true =>
                        have KY := Lib.hid (HKY.out.trans (HRD.out.drew.drew))
                        go_wp2_with fail
                        have hgm := HGM.out
                        go_roundg (l.length - (m + 1))
                        case measure => omega
                        case rel => exact ⟨m + 1, by omega, rfl, by go_num, (show Value.bool hb = _ by rw [HH.out]; first | rfl | simp), (show Value.bool true = _ by rw [HU.out]; first | rfl | simp), KY.out⟩
                      case false =>
                        have c2 := (HRD.out.drew.drew).keepC W2.out
                        have c3 := (HRD.out.drew.drew).keepC W3.out
                        cases hbk : e.back with
                        | false =>
                          rw [hbk] at c2 HU
                          try rw [hbk] at HH
                          have KY := Lib.hid (HKY.out.trans (HRD.out.drew.drew))
                          go_wp2_with fail
                          have hgm := HGM.out
                          go_roundg (l.length - (m + 1))
                          case measure => omega
                          case rel => exact ⟨m + 1, by omega, rfl, by go_num, (show Value.bool hb = _ by rw [HH.out]; first | rfl | simp), (show Value.bool false = _ by rw [HU.out]; first | rfl | simp), KY.out⟩
                        | true =>
                          rw [hbk] at c2 HU
                          try rw [hbk] at HH
                          cases hgd : e.good with
                          | false =>
                            rw [hgd] at c3 HU
                            have KY := Lib.hid (HKY.out.trans (HRD.out.drew.drew))
                            go_wp2_with fail
                            have hgm := HGM.out
                            go_roundg (l.length - (m + 1))
                            case measure => omega
                            case rel => exact ⟨m + 1, by omega, rfl, by go_num, (show Value.bool hb = _ by rw [HH.out]; first | rfl | simp), (show Value.bool false = _ by rw [HU.out]; first | rfl | simp), KY.out⟩
                          | true =>
                            rw [hgd] at c3 HU
                            have KY := Lib.hid (HKY.out.trans (HRD.out.drew.drew))
                            go_wp2_with fail
                            have hgm := HGM.out
                            go_roundg (l.length - (m + 1))
                            case measure => omega
                            case rel => exact ⟨m + 1, by omega, rfl, by go_num, (show Value.bool hb = _ by rw [HH.out]; first | rfl | simp), (show Value.bool true = _ by rw [HU.out]; first | rfl | simp), KY.out⟩
                    | true =>
                      have H3 := Lib.hid h3
                      have hgd0 : e.good = gg := HMTm.out (by rw [h1, h2, h3]; rfl)
                      have H4 := Lib.hid hgd0
                      rw [h3] at HH
                      clear h1 h2 h3 hgd0
                      refine wp_region_held_drew (S := fun w' => Kept (fun _ => False) wr.drew.drew w') (by kernel_rfl) (Kept.refl _ _) (fun hHeld => ?_)
                      have hSy : Kept (fun _ => False) wr.drew.drew wr.drew.drew := Kept.refl _ _
                      refine wpAnyH_take (i := 0) (oi := ⟨some 81, _, _, _, _, _⟩) (v := .slice (some ⟨gw, 0, none⟩) l.length cw) rfl (by kernel_rfl) (by kernel_rfl) (by kernel_rfl) (fun _ _ _ h => h) (Or.inl ⟨by kernel_rfl, fun w' hS => by go_simp⟩) (by assumption) ?_
                      try simp only [Act.put, List.setIfInBounds_toArray, List.set_cons_succ, List.set_cons_zero]
                      refine wpAnyH_take (i := 1) (oi := ⟨some 82, _, _, _, _, _⟩) (v := .int .i64 m) rfl (by kernel_rfl) (by kernel_rfl) (by kernel_rfl) (fun _ _ _ h => h) (Or.inl ⟨by kernel_rfl, fun w' hS => by go_simp⟩) (by assumption) ?_
                      try simp only [Act.put, List.setIfInBounds_toArray, List.set_cons_succ, List.set_cons_zero]
                      refine wpAnyH_take (i := 2) (oi := ⟨some 83, _, _, _, _, _⟩) (v := .pointer (some ⟨gw, m * 4, none⟩)) rfl (by kernel_rfl) (by kernel_rfl) (by kernel_rfl) (fun _ _ _ h => h) (Or.inl ⟨by kernel_rfl, fun w' hS => by go_simp⟩) (by assumption) ?_
                      try simp only [Act.put, List.setIfInBounds_toArray, List.set_cons_succ, List.set_cons_zero]
                      refine wpAnyH_take (i := 3) (oi := ⟨some 84, _, _, _, _, _⟩) (v := .pointer (some ⟨gw, m * 4, none⟩)) rfl (by kernel_rfl) (by kernel_rfl) (by kernel_rfl) (fun _ _ _ h => h) (Or.inl ⟨by kernel_rfl, fun w' hS => by go_simp⟩) (by assumption) ?_
                      try simp only [Act.put, List.setIfInBounds_toArray, List.set_cons_succ, List.set_cons_zero]
                      refine wpAnyH_take (i := 4) (oi := ⟨some 85, _, _, _, _, _⟩) (v := .int .i64 e.saga) rfl (by kernel_rfl) (by kernel_rfl) (by kernel_rfl) (fun _ _ _ h => h) (Or.inl ⟨by kernel_rfl, fun w' hS => by have c := hS.keepC (HRD.out.drew.keepC W0.out); go_simp⟩) (by assumption) ?_
                      try simp only [Act.put, List.setIfInBounds_toArray, List.set_cons_succ, List.set_cons_zero]
                      refine wpAnyH_take (i := 5) (oi := ⟨some 86, _, _, _, _, _⟩) (v := .pointer (some ⟨B1, 0, none⟩)) rfl (by kernel_rfl) (by kernel_rfl) (by kernel_rfl) (fun _ _ _ h => h) (Or.inl ⟨by kernel_rfl, fun w' hS => by go_simp⟩) (by assumption) ?_
                      try simp only [Act.put, List.setIfInBounds_toArray, List.set_cons_succ, List.set_cons_zero]
                      refine wpAnyH_take (i := 6) (oi := ⟨some 87, _, _, _, _, _⟩) (v := .int .i64 cs) rfl (by kernel_rfl) (by kernel_rfl) (by kernel_rfl) (fun _ _ _ h => h) (Or.inl ⟨by kernel_rfl, fun w' hS => by have c := row_cell (k := 0) (hS.row (HRD.out.drew.row YBm.out)) (v := .int .i64 cs) (hv0.out); go_simp⟩) (by assumption) ?_
                      try simp only [Act.put, List.setIfInBounds_toArray, List.set_cons_succ, List.set_cons_zero]
                      refine wpAnyH_take (i := 7) (oi := ⟨some 88, _, _, _, _, _⟩) (v := .bool true) rfl (by kernel_rfl) (by kernel_rfl) (by kernel_rfl) (fun _ _ _ h => h) (Or.inl ⟨by kernel_rfl, fun w' hS => by have t0 := H1.out; go_simp⟩) (by assumption) ?_
                      try simp only [Act.put, List.setIfInBounds_toArray, List.set_cons_succ, List.set_cons_zero]
                      refine wpAnyH_take (i := 8) (oi := ⟨some 89, _, _, _, _, _⟩) (v := .bool true) rfl (by kernel_rfl) (by kernel_rfl) (by kernel_rfl) (fun _ _ _ h => h) (Or.inl ⟨by kernel_rfl, fun w' hS => by go_simp⟩) (by assumption) ?_
                      try simp only [Act.put, List.setIfInBounds_toArray, List.set_cons_succ, List.set_cons_zero]
                      refine wpAnyH_take (i := 9) (oi := ⟨some 90, _, _, _, _, _⟩) (v := .slice (some ⟨gw, 0, none⟩) l.length cw) rfl (by kernel_rfl) (by kernel_rfl) (by kernel_rfl) (fun _ _ _ h => h) (Or.inl ⟨by kernel_rfl, fun w' hS => by go_simp⟩) (by assumption) ?_
                      try simp only [Act.put, List.setIfInBounds_toArray, List.set_cons_succ, List.set_cons_zero]
                      refine wpAnyH_take (i := 10) (oi := ⟨some 91, _, _, _, _, _⟩) (v := .int .i64 m) rfl (by kernel_rfl) (by kernel_rfl) (by kernel_rfl) (fun _ _ _ h => h) (Or.inl ⟨by kernel_rfl, fun w' hS => by go_simp⟩) (by assumption) ?_
                      try simp only [Act.put, List.setIfInBounds_toArray, List.set_cons_succ, List.set_cons_zero]
                      refine wpAnyH_take (i := 11) (oi := ⟨some 92, _, _, _, _, _⟩) (v := .pointer (some ⟨gw, m * 4, none⟩)) rfl (by kernel_rfl) (by kernel_rfl) (by kernel_rfl) (fun _ _ _ h => h) (Or.inl ⟨by kernel_rfl, fun w' hS => by go_simp⟩) (by assumption) ?_
                      try simp only [Act.put, List.setIfInBounds_toArray, List.set_cons_succ, List.set_cons_zero]
                      refine wpAnyH_take (i := 12) (oi := ⟨some 93, _, _, _, _, _⟩) (v := .pointer (some ⟨gw, m * 4 + 1, none⟩)) rfl (by kernel_rfl) (by kernel_rfl) (by kernel_rfl) (fun _ _ _ h => h) (Or.inl ⟨by kernel_rfl, fun w' hS => by go_simp⟩) (by assumption) ?_
                      try simp only [Act.put, List.setIfInBounds_toArray, List.set_cons_succ, List.set_cons_zero]
                      refine wpAnyH_take (i := 13) (oi := ⟨some 94, _, _, _, _, _⟩) (v := .int .i64 e.step) rfl (by kernel_rfl) (by kernel_rfl) (by kernel_rfl) (fun _ _ _ h => h) (Or.inl ⟨by kernel_rfl, fun w' hS => by have c := hS.keepC (HRD.out.drew.keepC W1.out); go_simp⟩) (by assumption) ?_
                      try simp only [Act.put, List.setIfInBounds_toArray, List.set_cons_succ, List.set_cons_zero]
                      refine wpAnyH_take (i := 14) (oi := ⟨some 95, _, _, _, _, _⟩) (v := .pointer (some ⟨B1, 1, none⟩)) rfl (by kernel_rfl) (by kernel_rfl) (by kernel_rfl) (fun _ _ _ h => h) (Or.inl ⟨by kernel_rfl, fun w' hS => by go_simp⟩) (by assumption) ?_
                      try simp only [Act.put, List.setIfInBounds_toArray, List.set_cons_succ, List.set_cons_zero]
                      refine wpAnyH_take (i := 15) (oi := ⟨some 96, _, _, _, _, _⟩) (v := .int .i64 ct) rfl (by kernel_rfl) (by kernel_rfl) (by kernel_rfl) (fun _ _ _ h => h) (Or.inl ⟨by kernel_rfl, fun w' hS => by have c := row_cell (k := 1) (hS.row (HRD.out.drew.row YBm.out)) (v := .int .i64 ct) (hv1.out); go_simp⟩) (by assumption) ?_
                      try simp only [Act.put, List.setIfInBounds_toArray, List.set_cons_succ, List.set_cons_zero]
                      refine wpAnyH_take (i := 16) (oi := ⟨some 97, _, _, _, _, _⟩) (v := .bool true) rfl (by kernel_rfl) (by kernel_rfl) (by kernel_rfl) (fun _ _ _ h => h) (Or.inl ⟨by kernel_rfl, fun w' hS => by have t0 := H2.out; go_simp⟩) (by assumption) ?_
                      try simp only [Act.put, List.setIfInBounds_toArray, List.set_cons_succ, List.set_cons_zero]
                      refine wpAnyH_take (i := 17) (oi := ⟨some 98, _, _, _, _, _⟩) (v := .bool true) rfl (by kernel_rfl) (by kernel_rfl) (by kernel_rfl) (fun _ _ _ h => h) (Or.inl ⟨by kernel_rfl, fun w' hS => by go_simp⟩) (by assumption) ?_
                      try simp only [Act.put, List.setIfInBounds_toArray, List.set_cons_succ, List.set_cons_zero]
                      refine wpAnyH_take (i := 18) (oi := ⟨some 16, _, _, _, _, _⟩) (v := .bool true) rfl (by kernel_rfl) (by kernel_rfl) (by kernel_rfl) (fun _ _ _ h => h) (Or.inl ⟨by kernel_rfl, fun w' hS => by go_simp⟩) (by assumption) ?_
                      try simp only [Act.put, List.setIfInBounds_toArray, List.set_cons_succ, List.set_cons_zero]
                      refine wpAnyH_done (by kernel_rfl) ?_ _
                      clear hHeld hSy
                      go_upto_region 22 with (fail)
                      refine wp_region_held_drew (S := fun w' => Kept (fun _ => False) wr.drew.drew.drew w') (by kernel_rfl) (Kept.refl _ _) (fun hHeld => ?_)
                      have hSy : Kept (fun _ => False) wr.drew.drew.drew wr.drew.drew.drew := Kept.refl _ _
                      refine wpAnyH_take (i := 0) (oi := ⟨some 99, _, _, _, _, _⟩) (v := .bool true) rfl (by kernel_rfl) (by kernel_rfl) (by kernel_rfl) (fun _ _ _ h => h) (Or.inl ⟨by kernel_rfl, fun w' hS => by go_simp⟩) (by assumption) ?_
                      try simp only [Act.put, List.setIfInBounds_toArray, List.set_cons_succ, List.set_cons_zero]
                      refine wpAnyH_take (i := 1) (oi := ⟨some 100, _, _, _, _, _⟩) (v := .bool true) rfl (by kernel_rfl) (by kernel_rfl) (by kernel_rfl) (fun _ _ _ h => h) (Or.inl ⟨by kernel_rfl, fun w' hS => by go_simp⟩) (by assumption) ?_
                      try simp only [Act.put, List.setIfInBounds_toArray, List.set_cons_succ, List.set_cons_zero]
                      refine wpAnyH_take (i := 2) (oi := ⟨some 101, _, _, _, _, _⟩) (v := .slice (some ⟨gw, 0, none⟩) l.length cw) rfl (by kernel_rfl) (by kernel_rfl) (by kernel_rfl) (fun _ _ _ h => h) (Or.inl ⟨by kernel_rfl, fun w' hS => by go_simp⟩) (by assumption) ?_
                      try simp only [Act.put, List.setIfInBounds_toArray, List.set_cons_succ, List.set_cons_zero]
                      refine wpAnyH_take (i := 3) (oi := ⟨some 102, _, _, _, _, _⟩) (v := .int .i64 m) rfl (by kernel_rfl) (by kernel_rfl) (by kernel_rfl) (fun _ _ _ h => h) (Or.inl ⟨by kernel_rfl, fun w' hS => by go_simp⟩) (by assumption) ?_
                      try simp only [Act.put, List.setIfInBounds_toArray, List.set_cons_succ, List.set_cons_zero]
                      refine wpAnyH_take (i := 4) (oi := ⟨some 103, _, _, _, _, _⟩) (v := .pointer (some ⟨gw, m * 4, none⟩)) rfl (by kernel_rfl) (by kernel_rfl) (by kernel_rfl) (fun _ _ _ h => h) (Or.inl ⟨by kernel_rfl, fun w' hS => by go_simp⟩) (by assumption) ?_
                      try simp only [Act.put, List.setIfInBounds_toArray, List.set_cons_succ, List.set_cons_zero]
                      refine wpAnyH_take (i := 5) (oi := ⟨some 104, _, _, _, _, _⟩) (v := .pointer (some ⟨gw, m * 4 + 2, none⟩)) rfl (by kernel_rfl) (by kernel_rfl) (by kernel_rfl) (fun _ _ _ h => h) (Or.inl ⟨by kernel_rfl, fun w' hS => by go_simp⟩) (by assumption) ?_
                      try simp only [Act.put, List.setIfInBounds_toArray, List.set_cons_succ, List.set_cons_zero]
                      refine wpAnyH_take (i := 6) (oi := ⟨some 105, _, _, _, _, _⟩) (v := .bool e.back) rfl (by kernel_rfl) (by kernel_rfl) (by kernel_rfl) (fun _ _ _ h => h) (Or.inl ⟨by kernel_rfl, fun w' hS => by have c := hS.keepC (HRD.out.drew.drew.keepC W2.out); go_simp⟩) (by assumption) ?_
                      try simp only [Act.put, List.setIfInBounds_toArray, List.set_cons_succ, List.set_cons_zero]
                      refine wpAnyH_take (i := 7) (oi := ⟨some 106, _, _, _, _, _⟩) (v := .pointer (some ⟨B1, 3, none⟩)) rfl (by kernel_rfl) (by kernel_rfl) (by kernel_rfl) (fun _ _ _ h => h) (Or.inl ⟨by kernel_rfl, fun w' hS => by go_simp⟩) (by assumption) ?_
                      try simp only [Act.put, List.setIfInBounds_toArray, List.set_cons_succ, List.set_cons_zero]
                      refine wpAnyH_take (i := 8) (oi := ⟨some 107, _, _, _, _, _⟩) (v := .bool cb) rfl (by kernel_rfl) (by kernel_rfl) (by kernel_rfl) (fun _ _ _ h => h) (Or.inl ⟨by kernel_rfl, fun w' hS => by have c := row_cell (k := 3) (hS.row (HRD.out.drew.drew.row YBm.out)) (v := .bool cb) (hv3.out); go_simp⟩) (by assumption) ?_
                      try simp only [Act.put, List.setIfInBounds_toArray, List.set_cons_succ, List.set_cons_zero]
                      refine wpAnyH_take (i := 9) (oi := ⟨some 108, _, _, _, _, _⟩) (v := .bool true) rfl (by kernel_rfl) (by kernel_rfl) (by kernel_rfl) (fun _ _ _ h => h) (Or.inl ⟨by kernel_rfl, fun w' hS => by have t0 := H3.out; go_simp⟩) (by assumption) ?_
                      try simp only [Act.put, List.setIfInBounds_toArray, List.set_cons_succ, List.set_cons_zero]
                      refine wpAnyH_take (i := 10) (oi := ⟨some 109, _, _, _, _, _⟩) (v := .bool true) rfl (by kernel_rfl) (by kernel_rfl) (by kernel_rfl) (fun _ _ _ h => h) (Or.inl ⟨by kernel_rfl, fun w' hS => by go_simp⟩) (by assumption) ?_
                      try simp only [Act.put, List.setIfInBounds_toArray, List.set_cons_succ, List.set_cons_zero]
                      refine wpAnyH_done (by kernel_rfl) ?_ _
                      clear hHeld hSy
                      go_upto_region 24 with (fail)
                      refine wp_region_held_drew (S := fun w' => Kept (fun _ => False) wr.drew.drew.drew.drew w') (by kernel_rfl) (Kept.refl _ _) (fun hHeld => ?_)
                      have hSy : Kept (fun _ => False) wr.drew.drew.drew.drew wr.drew.drew.drew.drew := Kept.refl _ _
                      refine wpAnyH_take (i := 0) (oi := ⟨some 110, _, _, _, _, _⟩) (v := .slice (some ⟨gw, 0, none⟩) l.length cw) rfl (by kernel_rfl) (by kernel_rfl) (by kernel_rfl) (fun _ _ _ h => h) (Or.inl ⟨by kernel_rfl, fun w' hS => by go_simp⟩) (by assumption) ?_
                      try simp only [Act.put, List.setIfInBounds_toArray, List.set_cons_succ, List.set_cons_zero]
                      refine wpAnyH_take (i := 1) (oi := ⟨some 111, _, _, _, _, _⟩) (v := .int .i64 m) rfl (by kernel_rfl) (by kernel_rfl) (by kernel_rfl) (fun _ _ _ h => h) (Or.inl ⟨by kernel_rfl, fun w' hS => by go_simp⟩) (by assumption) ?_
                      try simp only [Act.put, List.setIfInBounds_toArray, List.set_cons_succ, List.set_cons_zero]
                      refine wpAnyH_take (i := 2) (oi := ⟨some 112, _, _, _, _, _⟩) (v := .pointer (some ⟨gw, m * 4, none⟩)) rfl (by kernel_rfl) (by kernel_rfl) (by kernel_rfl) (fun _ _ _ h => h) (Or.inl ⟨by kernel_rfl, fun w' hS => by go_simp⟩) (by assumption) ?_
                      try simp only [Act.put, List.setIfInBounds_toArray, List.set_cons_succ, List.set_cons_zero]
                      refine wpAnyH_take (i := 3) (oi := ⟨some 113, _, _, _, _, _⟩) (v := .pointer (some ⟨gw, m * 4 + 3, none⟩)) rfl (by kernel_rfl) (by kernel_rfl) (by kernel_rfl) (fun _ _ _ h => h) (Or.inl ⟨by kernel_rfl, fun w' hS => by go_simp⟩) (by assumption) ?_
                      try simp only [Act.put, List.setIfInBounds_toArray, List.set_cons_succ, List.set_cons_zero]
                      refine wpAnyH_take (i := 4) (oi := ⟨some 114, _, _, _, _, _⟩) (v := .bool e.good) rfl (by kernel_rfl) (by kernel_rfl) (by kernel_rfl) (fun _ _ _ h => h) (Or.inl ⟨by kernel_rfl, fun w' hS => by have c := hS.keepC (HRD.out.drew.drew.drew.keepC W3.out); go_simp⟩) (by assumption) ?_
                      try simp only [Act.put, List.setIfInBounds_toArray, List.set_cons_succ, List.set_cons_zero]
                      refine wpAnyH_take (i := 5) (oi := ⟨some 115, _, _, _, _, _⟩) (v := .pointer (some ⟨B1, 7, none⟩)) rfl (by kernel_rfl) (by kernel_rfl) (by kernel_rfl) (fun _ _ _ h => h) (Or.inl ⟨by kernel_rfl, fun w' hS => by go_simp⟩) (by assumption) ?_
                      try simp only [Act.put, List.setIfInBounds_toArray, List.set_cons_succ, List.set_cons_zero]
                      refine wpAnyH_take (i := 6) (oi := ⟨some 116, _, _, _, _, _⟩) (v := .bool gg) rfl (by kernel_rfl) (by kernel_rfl) (by kernel_rfl) (fun _ _ _ h => h) (Or.inl ⟨by kernel_rfl, fun w' hS => by have c := row_cell (k := 7) (hS.row (HRD.out.drew.drew.drew.row YBm.out)) (v := .bool gg) (hv7.out); go_simp⟩) (by assumption) ?_
                      try simp only [Act.put, List.setIfInBounds_toArray, List.set_cons_succ, List.set_cons_zero]
                      refine wpAnyH_take (i := 7) (oi := ⟨some 117, _, _, _, _, _⟩) (v := .bool false) rfl (by kernel_rfl) (by kernel_rfl) (by kernel_rfl) (fun _ _ _ h => h) (Or.inl ⟨by kernel_rfl, fun w' hS => by have t0 := H4.out; go_simp⟩) (by assumption) ?_
                      try simp only [Act.put, List.setIfInBounds_toArray, List.set_cons_succ, List.set_cons_zero]
                      refine wpAnyH_done (by kernel_rfl) ?_ _
                      clear hHeld hSy
                      cases ub
                      case true =>
                        have KY := Lib.hid (HKY.out.trans (HRD.out.drew.drew.drew))
                        go_wp2_with fail
                        have hgm := HGM.out
                        go_roundg (l.length - (m + 1))
                        case measure => omega
                        case rel => exact ⟨m + 1, by omega, rfl, by go_num, (show Value.bool true = _ by rw [HH.out]; first | rfl | simp), (show Value.bool true = _ by rw [HU.out]; first | rfl | simp), KY.out⟩
                      case false =>
                        have c2 := (HRD.out.drew.drew.drew).keepC W2.out
                        have c3 := (HRD.out.drew.drew.drew).keepC W3.out
                        cases hbk : e.back with
                        | false =>
                          rw [hbk] at c2 HU
                          try rw [hbk] at HH
                          have KY := Lib.hid (HKY.out.trans (HRD.out.drew.drew.drew))
                          go_wp2_with fail
                          have hgm := HGM.out
                          go_roundg (l.length - (m + 1))
                          case measure => omega
                          case rel => exact ⟨m + 1, by omega, rfl, by go_num, (show Value.bool true = _ by rw [HH.out]; first | rfl | simp), (show Value.bool false = _ by rw [HU.out]; first | rfl | simp), KY.out⟩
                        | true =>
                          rw [hbk] at c2 HU
                          try rw [hbk] at HH
                          cases hgd : e.good with
                          | false =>
                            rw [hgd] at c3 HU
                            have KY := Lib.hid (HKY.out.trans (HRD.out.drew.drew.drew))
                            go_wp2_with fail
                            have hgm := HGM.out
                            go_roundg (l.length - (m + 1))
                            case measure => omega
                            case rel => exact ⟨m + 1, by omega, rfl, by go_num, (show Value.bool true = _ by rw [HH.out]; first | rfl | simp), (show Value.bool false = _ by rw [HU.out]; first | rfl | simp), KY.out⟩
                          | true =>
                            rw [hgd] at c3 HU
                            have KY := Lib.hid (HKY.out.trans (HRD.out.drew.drew.drew))
                            go_wp2_with fail
                            have hgm := HGM.out
                            go_roundg (l.length - (m + 1))
                            case measure => omega
                            case rel => exact ⟨m + 1, by omega, rfl, by go_num, (show Value.bool true = _ by rw [HH.out]; first | rfl | simp), (show Value.bool true = _ by rw [HU.out]; first | rfl | simp), KY.out⟩
              · obtain rfl : m = l.length := by omega
                have HPm := Lib.hid (HP7.out.same HKY.out)
                have YBm := Lib.hid (HKY.out.row YB7.out)
                have hwy := HWY.out
                rw [← hadM_all, ← HXL.out, ← HGG.out] at hwy
                have hxm := HGR.out
                have hag := fun (rg : Bool) (h : gg = true) => (says_again (l := l) (c := q j) (rf := R j) (rg := rg) (by rw [← HGG.out]; exact h))
                rw [← HXL.out] at hag
                have HAG := Lib.hid hag
                have hlens : (hadM l cs ct cb l.length = true ∧ xl.length ≤ l.length ∧ l.length ≤ xl.length) ∨ (hadM l cs ct cb l.length = false ∧ gg = false ∧ l.length ≤ xl.length ∧ xl.length ≤ l.length + 1) ∨ (hadM l cs ct cb l.length = false ∧ gg = true ∧ xl.length ≤ l.length + 1 ∧ l.length + 1 ≤ xl.length ∧ (cb = false → undM l cs ct l.length = false)) := by
                  rcases hwy with ⟨h1, h2⟩ | ⟨h1, h2, h3⟩ | ⟨h1, h2, ⟨e, h3⟩, h4⟩
                  · exact .inl ⟨h1, by rw [h2]; exact Nat.le_refl _, by rw [h2]; exact Nat.le_refl _⟩
                  · refine .inr (.inl ⟨h1, h2, ?_⟩)
                    rcases h3 with h3 | ⟨e, h3⟩ <;> rw [h3] <;> simp
                  · exact .inr (.inr ⟨h1, h2, by rw [h3]; simp, by rw [h3]; simp, h4⟩)
                generalize hadM l cs ct cb l.length = hb at *
                generalize undM l cs ct l.length = ub at *
                have HLENS := Lib.hid hlens
                clear hwy hag hlens HWY HMT HPRE HN7 HW7 HP7 YB7 HGM hm
                go_upto_region 27 with (fail)
                go_cut [183] (fun s183 wx => s183 = .bool false ∧ Hid (Kept (fun _ => False) wr wx))
                case first =>
                  have hK : Hid (Kept (fun _ => False) wr wr) := Kept.refl _ _
                  have fw : Hid (IntKind.i64.wrap (((l.length : Nat) : Int) + 1) = ((l.length : Nat) : Int) + 1) := by
                    show _ = _
                    exact IntWalk.i64_in _ (by omega)
                  have f1 : Hid (decide (((l.length : Nat) : Int) + 1 < ((xl.length : Nat) : Int)) = false) := decide_eq_false (by omega)
                  rcases HLENS.out with ⟨rfl, h1, h2⟩ | ⟨rfl, rfl, h1, h2⟩ | ⟨rfl, rfl, h1, h2, h3⟩
                  · have f2 : Hid ((((xl.length : Nat) : Int) != ((l.length : Nat) : Int)) = false) := by
                      show _ = _
                      have : xl.length = l.length := by omega
                      rw [this]; simp
                    clear h1 h2
                    cases gg with
                    | false =>
                      cases cb with
                      | false =>
                        cases ub with
                        | false =>
                          as_aux_lemma =>
                            have c3 := row_cell (k := 3) YBm.out hv3.out
                            have c7 := row_cell (k := 7) YBm.out hv7.out
                            have e1 := f1.out
                            have e2 := f2.out
                            have ew := fw.out
                            clear HLENS HAG HXL
                            go_wp2_with fail
                            go_meet
                            refine ⟨?_, hK⟩
                            first | rfl | (simp; done) | (refine congrArg Value.bool ?_; simp; omega)
                        | true =>
                          as_aux_lemma =>
                            have c3 := row_cell (k := 3) YBm.out hv3.out
                            have c7 := row_cell (k := 7) YBm.out hv7.out
                            have e1 := f1.out
                            have e2 := f2.out
                            have ew := fw.out
                            clear HLENS HAG HXL
                            go_wp2_with fail
                            go_meet
                            refine ⟨?_, hK⟩
                            first | rfl | (simp; done) | (refine congrArg Value.bool ?_; simp; omega)
                      | true =>
                        cases ub with
                        | false =>
                          as_aux_lemma =>
                            have c3 := row_cell (k := 3) YBm.out hv3.out
                            have c7 := row_cell (k := 7) YBm.out hv7.out
                            have e1 := f1.out
                            have e2 := f2.out
                            have ew := fw.out
                            clear HLENS HAG HXL
                            go_wp2_with fail
                            go_meet
                            refine ⟨?_, hK⟩
                            first | rfl | (simp; done) | (refine congrArg Value.bool ?_; simp; omega)
                        | true =>
                          as_aux_lemma =>
                            have c3 := row_cell (k := 3) YBm.out hv3.out
                            have c7 := row_cell (k := 7) YBm.out hv7.out
                            have e1 := f1.out
                            have e2 := f2.out
                            have ew := fw.out
                            clear HLENS HAG HXL
                            go_wp2_with fail
                            go_meet
                            refine ⟨?_, hK⟩
                            first | rfl | (simp; done) | (refine congrArg Value.bool ?_; simp; omega)
                    | true =>
                      cases cb with
                      | false =>
                        cases ub with
                        | false =>
                          as_aux_lemma =>
                            have c3 := row_cell (k := 3) YBm.out hv3.out
                            have c7 := row_cell (k := 7) YBm.out hv7.out
                            have e1 := f1.out
                            have e2 := f2.out
                            have ew := fw.out
                            clear HLENS HAG HXL
                            go_wp2_with fail
                            go_meet
                            refine ⟨?_, hK⟩
                            first | rfl | (simp; done) | (refine congrArg Value.bool ?_; simp; omega)
                        | true =>
                          as_aux_lemma =>
                            have c3 := row_cell (k := 3) YBm.out hv3.out
                            have c7 := row_cell (k := 7) YBm.out hv7.out
                            have e1 := f1.out
                            have e2 := f2.out
                            have ew := fw.out
                            clear HLENS HAG HXL
                            go_wp2_with fail
                            go_meet
                            refine ⟨?_, hK⟩
                            first | rfl | (simp; done) | (refine congrArg Value.bool ?_; simp; omega)
                      | true =>
                        cases ub with
                        | false =>
                          as_aux_lemma =>
                            have c3 := row_cell (k := 3) YBm.out hv3.out
                            have c7 := row_cell (k := 7) YBm.out hv7.out
                            have e1 := f1.out
                            have e2 := f2.out
                            have ew := fw.out
                            clear HLENS HAG HXL
                            go_wp2_with fail
                            go_meet
                            refine ⟨?_, hK⟩
                            first | rfl | (simp; done) | (refine congrArg Value.bool ?_; simp; omega)
                        | true =>
                          as_aux_lemma =>
                            have c3 := row_cell (k := 3) YBm.out hv3.out
                            have c7 := row_cell (k := 7) YBm.out hv7.out
                            have e1 := f1.out
                            have e2 := f2.out
                            have ew := fw.out
                            clear HLENS HAG HXL
                            go_wp2_with fail
                            go_meet
                            refine ⟨?_, hK⟩
                            first | rfl | (simp; done) | (refine congrArg Value.bool ?_; simp; omega)
                  · clear h1 h2
                    cases cb with
                    | false =>
                      cases ub with
                      | false =>
                        as_aux_lemma =>
                          have c3 := row_cell (k := 3) YBm.out hv3.out
                          have c7 := row_cell (k := 7) YBm.out hv7.out
                          have e1 := f1.out
                          have e2 := f1.out
                          have ew := fw.out
                          clear HLENS HAG HXL
                          go_wp2_with fail
                          go_meet
                          refine ⟨?_, hK⟩
                          first | rfl | (simp; done) | (refine congrArg Value.bool ?_; simp; omega)
                      | true =>
                        as_aux_lemma =>
                          have c3 := row_cell (k := 3) YBm.out hv3.out
                          have c7 := row_cell (k := 7) YBm.out hv7.out
                          have e1 := f1.out
                          have e2 := f1.out
                          have ew := fw.out
                          clear HLENS HAG HXL
                          go_wp2_with fail
                          go_meet
                          refine ⟨?_, hK⟩
                          first | rfl | (simp; done) | (refine congrArg Value.bool ?_; simp; omega)
                    | true =>
                      cases ub with
                      | false =>
                        as_aux_lemma =>
                          have c3 := row_cell (k := 3) YBm.out hv3.out
                          have c7 := row_cell (k := 7) YBm.out hv7.out
                          have e1 := f1.out
                          have e2 := f1.out
                          have ew := fw.out
                          clear HLENS HAG HXL
                          go_wp2_with fail
                          go_meet
                          refine ⟨?_, hK⟩
                          first | rfl | (simp; done) | (refine congrArg Value.bool ?_; simp; omega)
                      | true =>
                        as_aux_lemma =>
                          have c3 := row_cell (k := 3) YBm.out hv3.out
                          have c7 := row_cell (k := 7) YBm.out hv7.out
                          have e1 := f1.out
                          have e2 := f1.out
                          have ew := fw.out
                          clear HLENS HAG HXL
                          go_wp2_with fail
                          go_meet
                          refine ⟨?_, hK⟩
                          first | rfl | (simp; done) | (refine congrArg Value.bool ?_; simp; omega)
                  · have f3 : Hid ((((xl.length : Nat) : Int) != ((l.length : Nat) : Int) + 1) = false) := by
                      show _ = _
                      have : xl.length = l.length + 1 := by omega
                      rw [this]; simp
                    clear h1 h2
                    cases cb with
                    | false =>
                      obtain rfl := h3 rfl
                      as_aux_lemma =>
                        have c3 := row_cell (k := 3) YBm.out hv3.out
                        have c7 := row_cell (k := 7) YBm.out hv7.out
                        have e1 := f1.out
                        have e2 := f3.out
                        have ew := fw.out
                        clear HLENS HAG HXL
                        go_wp2_with fail
                        go_meet
                        refine ⟨?_, hK⟩
                        first | rfl | (simp; done) | (refine congrArg Value.bool ?_; simp; omega)
                    | true =>
                      clear h3
                      cases ub with
                      | false =>
                        as_aux_lemma =>
                          have c3 := row_cell (k := 3) YBm.out hv3.out
                          have c7 := row_cell (k := 7) YBm.out hv7.out
                          have e1 := f1.out
                          have e2 := f3.out
                          have ew := fw.out
                          clear HLENS HAG HXL
                          go_wp2_with fail
                          go_meet
                          refine ⟨?_, hK⟩
                          first | rfl | (simp; done) | (refine congrArg Value.bool ?_; simp; omega)
                      | true =>
                        as_aux_lemma =>
                          have c3 := row_cell (k := 3) YBm.out hv3.out
                          have c7 := row_cell (k := 7) YBm.out hv7.out
                          have e1 := f1.out
                          have e2 := f3.out
                          have ew := fw.out
                          clear HLENS HAG HXL
                          go_wp2_with fail
                          go_meet
                          refine ⟨?_, hK⟩
                          first | rfl | (simp; done) | (refine congrArg Value.bool ?_; simp; omega)
                case rest =>
                  obtain ⟨rfl, KX⟩ := hcut
                  have HPn := Lib.hid (HPm.out.same KX.out)
                  have YBn := Lib.hid (KX.out.row YBm.out)
                  clear HPm YBm KX HLENS HKY
                  go_upto_region 29 with (fail)
                  obtain ⟨g2, hg2⟩ : ∃ g2, g2 = (pSays xl (q j) (!(R j))).1 := ⟨_, rfl⟩
                  obtain ⟨C2, hC2⟩ : ∃ C2, C2 = clC (tagged k (outC (q j) g2 0)) := ⟨_, rfl⟩
                  have hz2 : Hid (C2.size = 41) := by show _ = _; rw [hC2]; exact clC_size (tagged_len _ _)
                  have ho2 : Hid (C2.all (·.oneCell') = true) := by show _ = _; rw [hC2]; exact clC_one _
                  have hw7 : Hid (C2[7]? = some (.bool g2)) := by show _ = _; rw [hC2]; simp [clC, tagged, outC]
                  have hgt := HAG.out (!(R j))
                  rw [← hg2] at hgt
                  have HGT := Lib.hid hgt
                  have HG2 := Lib.hid hg2
                  have HC2 := Lib.hid hC2
                  have hsl := says_len xl (q j) (!(R j))
                  have HSL := Lib.hid hsl
                  have hx121 : xl.length ≤ 121 := by omega
                  clear hg2 hC2 hgt hsl HAG
                  have kd := (Kept.refl (fun _ => False) wc).drew
                  have HPd := Lib.hid (HPn.out.same kd)
                  have YBd := Lib.hid (kd.row YBn.out)
                  refine wp_region_held_drew (S := fun w' => Kept (fun i => w.heap.size ≤ i) w w') (by kernel_rfl) HPd.out.kept (fun hHeld => ?_)
                  clear kd HPn YBn
                  generalize wc.drew = wd at *
                  have hzz := Lib.hid (show 0 + 41 ≤ Z59.size by rw [Z59_size]; decide)
                  have hSd := HPd.out.kept
                  refine wpAnyH_take (i := 0) (oi := ⟨some 185, _, _, _, _, _⟩) (v := .pointer (some ⟨g, 0, none⟩)) rfl (by kernel_rfl) (by kernel_rfl) (by kernel_rfl) (fun _ _ _ h => h) (Or.inl ⟨by kernel_rfl, fun w' hS => by go_simp⟩) (by assumption) ?_
                  try simp only [Act.put, List.setIfInBounds_toArray, List.set_cons_succ, List.set_cons_zero]
                  refine wpAnyH_take (i := 1) (oi := ⟨some 186, _, _, _, _, _⟩) (v := .slice (some ⟨b, o, none⟩) ln lc) rfl (by kernel_rfl) (by kernel_rfl) (by kernel_rfl) (fun _ _ _ h => h) (Or.inl ⟨by kernel_rfl, fun w' hS => by go_simp⟩) (by assumption) ?_
                  try simp only [Act.put, List.setIfInBounds_toArray, List.set_cons_succ, List.set_cons_zero]
                  refine wpAnyH_take (i := 2) (oi := ⟨some 187, _, _, _, _, _⟩) (v := .int .i64 j) rfl (by kernel_rfl) (by kernel_rfl) (by kernel_rfl) (fun _ _ _ h => h) (Or.inl ⟨by kernel_rfl, fun w' hS => by go_simp⟩) (by assumption) ?_
                  try simp only [Act.put, List.setIfInBounds_toArray, List.set_cons_succ, List.set_cons_zero]
                  refine wpAnyH_take (i := 3) (oi := ⟨some 188, _, _, _, _, _⟩) (v := .pointer (some ⟨b, o + j * 43, none⟩)) rfl (by kernel_rfl) (by kernel_rfl) (by kernel_rfl) (fun _ _ _ h => h) (Or.inl ⟨by kernel_rfl, fun w' hS => by go_simp⟩) (by assumption) ?_
                  try simp only [Act.put, List.setIfInBounds_toArray, List.set_cons_succ, List.set_cons_zero]
                  refine wpAnyH_take (i := 4) (oi := ⟨some 189, _, _, _, _, _⟩) (v := .pointer (some ⟨b, o + j * 43 + 1, none⟩)) rfl (by kernel_rfl) (by kernel_rfl) (by kernel_rfl) (fun _ _ _ h => h) (Or.inl ⟨by kernel_rfl, fun w' hS => by go_simp⟩) (by assumption) ?_
                  try simp only [Act.put, List.setIfInBounds_toArray, List.set_cons_succ, List.set_cons_zero]
                  refine wpAnyH_take (i := 5) (oi := ⟨some 190, _, _, _, _, _⟩) (v := .agg C0) rfl (by kernel_rfl) (by kernel_rfl) (by kernel_rfl) (fun _ _ _ h => h) (yields59 (C := C0) (g := b) (o := o + j * 43 + 1) (by kernel_rfl) rfl (fun w' hS => hS.oldR HRG.out) hz0.out) (by assumption) ?_
                  try simp only [Act.put, List.setIfInBounds_toArray, List.set_cons_succ, List.set_cons_zero]
                  refine wpAnyH_take (i := 6) (oi := ⟨some 191, _, _, _, _, _⟩) (v := .slice (some ⟨b, o, none⟩) ln lc) rfl (by kernel_rfl) (by kernel_rfl) (by kernel_rfl) (fun _ _ _ h => h) (Or.inl ⟨by kernel_rfl, fun w' hS => by go_simp⟩) (by assumption) ?_
                  try simp only [Act.put, List.setIfInBounds_toArray, List.set_cons_succ, List.set_cons_zero]
                  refine wpAnyH_take (i := 7) (oi := ⟨some 192, _, _, _, _, _⟩) (v := .int .i64 j) rfl (by kernel_rfl) (by kernel_rfl) (by kernel_rfl) (fun _ _ _ h => h) (Or.inl ⟨by kernel_rfl, fun w' hS => by go_simp⟩) (by assumption) ?_
                  try simp only [Act.put, List.setIfInBounds_toArray, List.set_cons_succ, List.set_cons_zero]
                  refine wpAnyH_take (i := 8) (oi := ⟨some 193, _, _, _, _, _⟩) (v := .pointer (some ⟨b, o + j * 43, none⟩)) rfl (by kernel_rfl) (by kernel_rfl) (by kernel_rfl) (fun _ _ _ h => h) (Or.inl ⟨by kernel_rfl, fun w' hS => by go_simp⟩) (by assumption) ?_
                  try simp only [Act.put, List.setIfInBounds_toArray, List.set_cons_succ, List.set_cons_zero]
                  refine wpAnyH_take (i := 9) (oi := ⟨some 194, _, _, _, _, _⟩) (v := .pointer (some ⟨b, o + j * 43 + 42, none⟩)) rfl (by kernel_rfl) (by kernel_rfl) (by kernel_rfl) (fun _ _ _ h => h) (Or.inl ⟨by kernel_rfl, fun w' hS => by go_simp⟩) (by assumption) ?_
                  try simp only [Act.put, List.setIfInBounds_toArray, List.set_cons_succ, List.set_cons_zero]
                  refine wpAnyH_take (i := 10) (oi := ⟨some 195, _, _, _, _, _⟩) (v := .bool (R j)) rfl (by kernel_rfl) (by kernel_rfl) (by kernel_rfl) (fun _ _ _ h => h) (Or.inl ⟨by kernel_rfl, fun w' hS => by have c := hS.oldC HRF.out; go_simp⟩) (by assumption) ?_
                  try simp only [Act.put, List.setIfInBounds_toArray, List.set_cons_succ, List.set_cons_zero]
                  refine wpAnyH_take (i := 11) (oi := ⟨some 196, _, _, _, _, _⟩) (v := .bool (!(R j))) rfl (by kernel_rfl) (by kernel_rfl) (by kernel_rfl) (fun _ _ _ h => h) (Or.inl ⟨by kernel_rfl, fun w' hS => by go_simp⟩) (by assumption) ?_
                  try simp only [Act.put, List.setIfInBounds_toArray, List.set_cons_succ, List.set_cons_zero]
                  refine wpAnyH_ready (rs := [12, 16]) (by kernel_rfl) (by simp) ?_
                  refine AllReadyH.cons (o := ⟨some 197, _, _, _, _, _⟩) rfl (fun K hK => ?_) ?_
                  · skip
                    as_aux_lemma =>
                      have HQ0 := HTKH.out wd _ _ (!(R j)) HPd.out (by omega)
                      unfold takeV at HQ0
                      rw [take_yes k HI.out] at HQ0
                      dsimp only at HQ0
                      rw [← HG2.out, ← HC2.out] at HQ0
                      have HQH := Lib.hid HQ0
                      clear HQ0
                      go_simp
                      refine HQH.out.mono ?_
                      rintro e wt ⟨rfl, svt, hpt, kt, hot⟩
                      have HPt := Lib.hid hpt
                      have hSt := hpt.kept
                      have YBdt := Lib.hid (kt.rowS (HPd.out.other YBd.out (by decide) (by decide)) YBd.out)
                      clear HQH kt hot hpt
                      go_wp2_with fail
                      refine hK.out _ _ hSt (fun hHeld => ?_)
                      clear hK K
                      try simp only [Act.put, List.setIfInBounds_toArray, List.set_cons_succ, List.set_cons_zero]
                      refine wpAnyH_take (i := 13) (oi := ⟨some 184, _, _, _, _, _⟩) (v := .tuple #[.agg C2, .bool true]) rfl (by kernel_rfl) (by kernel_rfl) (by kernel_rfl) (fun _ _ _ h => h) (Or.inl ⟨by kernel_rfl, fun w' hS => by go_simp⟩) (by assumption) ?_
                      try simp only [Act.put, List.setIfInBounds_toArray, List.set_cons_succ, List.set_cons_zero]
                      refine wpAnyH_take (i := 14) (oi := ⟨some 198, _, _, _, _, _⟩) (v := .agg C2) rfl (by kernel_rfl) (by kernel_rfl) (by kernel_rfl) (fun _ _ _ h => h) (Or.inl ⟨by kernel_rfl, fun w' hS => by go_simp⟩) (by assumption) ?_
                      try simp only [Act.put, List.setIfInBounds_toArray, List.set_cons_succ, List.set_cons_zero]
                      refine wpAnyH_take (i := 15) (oi := ⟨some 199, _, _, _, _, _⟩) (v := .bool true) rfl (by kernel_rfl) (by kernel_rfl) (by kernel_rfl) (fun _ _ _ h => h) (Or.inl ⟨by kernel_rfl, fun w' hS => by go_simp⟩) (by assumption) ?_
                      try simp only [Act.put, List.setIfInBounds_toArray, List.set_cons_succ, List.set_cons_zero]
                      refine wpAnyH_ready (rs := [16]) (by kernel_rfl) (by simp) ?_
                      refine AllReadyH.cons (o := ⟨some 17, _, _, _, _, _⟩) rfl (fun K hK => ?_) AllReadyH.nil
                      have ka := (Kept.refl (fun _ => False) wt).alloc (.cells Z59 59)
                      have zA := Lib.hid (heap_alloc_new wt (.cells Z59 59))
                      have HPa := Lib.hid (HPt.out.same ka)
                      have hSa := HPa.out.kept
                      have HBA : Hid (w.heap.size ≤ wt.heap.size) := HPt.out.kept.size
                      have YBdta := Lib.hid (ka.row YBdt.out)
                      have YBdlt := Lib.hid (row_lt YBdt.out)
                      clear ka
                      refine step_alloc59 (by kernel_rfl) ?_
                      refine hK.out _ _ hSa (fun hHeld => ?_)
                      clear hK K
                      try simp only [Act.put, List.setIfInBounds_toArray, List.set_cons_succ, List.set_cons_zero]
                      generalize hwA : wt.alloc (.cells Z59 59) = wA at *
                      generalize wt.heap.size = BA at *
                      refine wpAnyH_ready (rs := [17]) (by kernel_rfl) (by simp) ?_
                      refine AllReadyH.cons (o := ⟨none, _, _, _, _, _⟩) rfl (fun K hK => ?_) AllReadyH.nil
                      refine step_store59 (C := C2) (g := BA) (o := 0) (by kernel_rfl) rfl rfl hz2.out ho2.out zA.out hzz.out ?_
                      intro wz gz kz
                      rw [puts_all (Z59_size.trans hz2.out.symm)] at gz
                      have YZ := Lib.hid gz
                      have HPz := Lib.hid (HPa.out.next kz (fun i hi e => HPa.out.other zA.out (by decide) (by decide) (by have e' : i = BA := e; rw [← e']; exact hi)) (fun i _ e => by have e' : i = BA := e; have := HBA.out; omega))
                      have YBdz := Lib.hid (kz.rowS (by have := YBdlt.out; omega) YBdta.out)
                      have hSz := HPz.out.kept
                      clear gz kz
                      refine hK.out _ _ hSz (fun hHeld => ?_)
                      clear hK K
                      try simp only [Act.put, List.setIfInBounds_toArray, List.set_cons_succ, List.set_cons_zero]
                      refine wpAnyH_take (i := 18) (oi := ⟨some 18, _, _, _, _, _⟩) (v := .bool true) rfl (by kernel_rfl) (by kernel_rfl) (by kernel_rfl) (fun _ _ _ h => h) (Or.inl ⟨by kernel_rfl, fun w' hS => by go_simp⟩) (by assumption) ?_
                      try simp only [Act.put, List.setIfInBounds_toArray, List.set_cons_succ, List.set_cons_zero]
                      refine wpAnyH_done (by kernel_rfl) ?_ _
                      have d7 := row_cell (k := 7) YBdz.out hv7.out
                      have d9 := row_cell (k := 7) YZ.out hw7.out
                      clear hHeld hSz
                      have hgk := HGK.out
                      cases hgv : gg with
                      | false =>
                        rw [hgv] at d7
                        clear hgv
                        go_wp2_with fail
                        go_roundg (ln - (j + 1))
                        case measure => omega
                        case rel => exact ⟨j + 1, by omega, rfl, by go_num, _, _, HPz.out, by have := HSL.out; have := HLL.out; omega⟩
                      | true =>
                        rw [hgv] at d7
                        have hg2t := HGT.out hgv
                        rw [hg2t] at d9
                        clear hgv hg2t
                        go_wp2_with fail
                        go_roundg (ln - (j + 1))
                        case measure => omega
                        case rel => exact ⟨j + 1, by omega, rfl, by go_num, _, _, HPz.out, by have := HSL.out; have := HLL.out; omega⟩
                  · refine AllReadyH.cons (o := ⟨some 17, _, _, _, _, _⟩) rfl (fun K hK => ?_) AllReadyH.nil
                    as_aux_lemma =>
                      have ka := (Kept.refl (fun _ => False) wd).alloc (.cells Z59 59)
                      have zA := Lib.hid (heap_alloc_new wd (.cells Z59 59))
                      have HPa := Lib.hid (HPd.out.same ka)
                      have hSa := HPa.out.kept
                      have HBA : Hid (w.heap.size ≤ wd.heap.size) := HPd.out.kept.size
                      have YBda := Lib.hid (ka.row YBd.out)
                      have YBdlt := Lib.hid (row_lt YBd.out)
                      clear ka
                      refine step_alloc59 (by kernel_rfl) ?_
                      refine hK.out _ _ hSa (fun hHeld => ?_)
                      clear hK K
                      try simp only [Act.put, List.setIfInBounds_toArray, List.set_cons_succ, List.set_cons_zero]
                      generalize hwA : wd.alloc (.cells Z59 59) = wA at *
                      generalize wd.heap.size = BA at *
                      refine wpAnyH_ready (rs := [12]) (by kernel_rfl) (by simp) ?_
                      refine AllReadyH.cons (o := ⟨some 197, _, _, _, _, _⟩) rfl (fun K hK => ?_) AllReadyH.nil
                      have HQ0 := HTKH.out wA _ _ (!(R j)) HPa.out (by omega)
                      unfold takeV at HQ0
                      rw [take_yes k HI.out] at HQ0
                      dsimp only at HQ0
                      rw [← HG2.out, ← HC2.out] at HQ0
                      have HQH := Lib.hid HQ0
                      clear HQ0
                      go_simp
                      refine HQH.out.mono ?_
                      rintro e wt ⟨rfl, svt, hpt, kt, hot⟩
                      have HPt := Lib.hid hpt
                      have hSt := hpt.kept
                      have YBdat := Lib.hid (kt.rowS (HPa.out.other YBda.out (by decide) (by decide)) YBda.out)
                      have zB := Lib.hid (kt.rowS (HPa.out.other zA.out (by decide) (by decide)) zA.out)
                      clear HQH kt hot hpt
                      go_wp2_with fail
                      refine hK.out _ _ hSt (fun hHeld => ?_)
                      clear hK K
                      try simp only [Act.put, List.setIfInBounds_toArray, List.set_cons_succ, List.set_cons_zero]
                      refine wpAnyH_take (i := 13) (oi := ⟨some 184, _, _, _, _, _⟩) (v := .tuple #[.agg C2, .bool true]) rfl (by kernel_rfl) (by kernel_rfl) (by kernel_rfl) (fun _ _ _ h => h) (Or.inl ⟨by kernel_rfl, fun w' hS => by go_simp⟩) (by assumption) ?_
                      try simp only [Act.put, List.setIfInBounds_toArray, List.set_cons_succ, List.set_cons_zero]
                      refine wpAnyH_take (i := 14) (oi := ⟨some 198, _, _, _, _, _⟩) (v := .agg C2) rfl (by kernel_rfl) (by kernel_rfl) (by kernel_rfl) (fun _ _ _ h => h) (Or.inl ⟨by kernel_rfl, fun w' hS => by go_simp⟩) (by assumption) ?_
                      try simp only [Act.put, List.setIfInBounds_toArray, List.set_cons_succ, List.set_cons_zero]
                      refine wpAnyH_take (i := 15) (oi := ⟨some 199, _, _, _, _, _⟩) (v := .bool true) rfl (by kernel_rfl) (by kernel_rfl) (by kernel_rfl) (fun _ _ _ h => h) (Or.inl ⟨by kernel_rfl, fun w' hS => by go_simp⟩) (by assumption) ?_
                      try simp only [Act.put, List.setIfInBounds_toArray, List.set_cons_succ, List.set_cons_zero]
                      refine wpAnyH_ready (rs := [17]) (by kernel_rfl) (by simp) ?_
                      refine AllReadyH.cons (o := ⟨none, _, _, _, _, _⟩) rfl (fun K hK => ?_) AllReadyH.nil
                      refine step_store59 (C := C2) (g := BA) (o := 0) (by kernel_rfl) rfl rfl hz2.out ho2.out zB.out hzz.out ?_
                      intro wz gz kz
                      rw [puts_all (Z59_size.trans hz2.out.symm)] at gz
                      have YZ := Lib.hid gz
                      have HPz := Lib.hid (HPt.out.next kz (fun i hi e => HPt.out.other zB.out (by decide) (by decide) (by have e' : i = BA := e; rw [← e']; exact hi)) (fun i _ e => by have e' : i = BA := e; have := HBA.out; omega))
                      have YBdz := Lib.hid (kz.rowS (by have := YBdlt.out; omega) YBdat.out)
                      have hSz := HPz.out.kept
                      clear gz kz
                      refine hK.out _ _ hSz (fun hHeld => ?_)
                      clear hK K
                      try simp only [Act.put, List.setIfInBounds_toArray, List.set_cons_succ, List.set_cons_zero]
                      refine wpAnyH_take (i := 18) (oi := ⟨some 18, _, _, _, _, _⟩) (v := .bool true) rfl (by kernel_rfl) (by kernel_rfl) (by kernel_rfl) (fun _ _ _ h => h) (Or.inl ⟨by kernel_rfl, fun w' hS => by go_simp⟩) (by assumption) ?_
                      try simp only [Act.put, List.setIfInBounds_toArray, List.set_cons_succ, List.set_cons_zero]
                      refine wpAnyH_done (by kernel_rfl) ?_ _
                      have d7 := row_cell (k := 7) YBdz.out hv7.out
                      have d9 := row_cell (k := 7) YZ.out hw7.out
                      clear hHeld hSz
                      have hgk := HGK.out
                      cases hgv : gg with
                      | false =>
                        rw [hgv] at d7
                        clear hgv
                        go_wp2_with fail
                        go_roundg (ln - (j + 1))
                        case measure => omega
                        case rel => exact ⟨j + 1, by omega, rfl, by go_num, _, _, HPz.out, by have := HSL.out; have := HLL.out; omega⟩
                      | true =>
                        rw [hgv] at d7
                        have hg2t := HGT.out hgv
                        rw [hg2t] at d9
                        clear hgv hg2t
                        go_wp2_with fail
                        go_roundg (ln - (j + 1))
                        case measure => omega
                        case rel => exact ⟨j + 1, by omega, rfl, by go_num, _, _, HPz.out, by have := HSL.out; have := HLL.out; omega⟩
      · go_wp2_with fail
        go_ret
        exact BPost.mk rfl (HPr.out.kept.mono (fun i hi e => by omega))
end Go.Proofs.YtklmhegmombegaaDoor
