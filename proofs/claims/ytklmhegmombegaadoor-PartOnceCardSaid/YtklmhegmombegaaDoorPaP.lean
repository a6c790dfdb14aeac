/-
  The walk of PartAgain (13). Conditions: as each theorem says.
-/
import Derived.Test.YtklmhegmombegaaDoorPaO
set_option linter.unusedVariables false
set_option linter.unusedSimpArgs false
set_option maxRecDepth 100000
namespace Go.Proofs.YtklmhegmombegaaDoor
open Go Go.RowKit Plain
theorem step_alloc59 {ops : Array Oper} {dst : Option Tmp} {ty : TypeId} {pos : String} {aft : Array Edge} {gd : Option (Nat × Bool)} {a : Act} {w : World} {Q : Exit → Act → World → Prop} {K : Act → World → Prop} {E : Prop} (hw : Region.wanted ⟨dst, .alloc 59, ty, pos, aft, gd⟩ (yielded ops a.tmps) = true) (h : K (a.put dst (.pointer (some ⟨w.heap.size, 0, none⟩))) (w.alloc (.cells Z59 59))) :
    if Region.wanted ⟨dst, .alloc 59, ty, pos, aft, gd⟩ (yielded ops a.tmps) = true then Oper.wp Tryd.prog ⟨dst, .alloc 59, ty, pos, aft, gd⟩ a w K Q else E := by
  rw [if_pos hw]
  go_simp
  exact h
theorem clC_try (c : Cl) (t : Int) : (clC c).setIfInBounds 2 (.int .i64 t) = clC { c with try_ := t } := by
  apply Array.ext'
  simp [clC]
theorem known_ep {k : Ky} {n ep : Int} (h : kKnown k n 0 = true) (h0 : 0 ≤ ep) (h4 : ep ≤ 400) : kKnown k n ep = true := by
  simp only [kKnown, Bool.and_eq_true] at h ⊢
  exact ⟨h.1, h.2.1, Re.wi_true h0 h4⟩
/-- A first call goes well. -/
theorem take_first (k : Ky) {n : Int} {c : Cl} (hi : pIts n c = true) : pTake k n 0 [] c false = (tagged k (outC c true 0), true, [⟨c.saga, c.step, c.back, true⟩]) := by
  have hs : pSays [] c false = (true, [⟨c.saga, c.step, c.back, true⟩]) := by
    simp [pSays, pGood, pUndone, pNotes, hadE]
  unfold pTake
  rw [if_pos hi, hs]
theorem take_no (k : Ky) {n ep : Int} {l : List En} {c : Cl} {rf : Bool} (hi : pIts n c = false) : pTake k n ep l c rf = (zCl, false, l) := by
  unfold pTake
  rw [if_neg (by rw [hi]; decide)]
theorem its_try {n t : Int} {c : Cl} (hi : pIts n c = true) (h1 : 1 ≤ t) (h9 : t ≤ 9) : pIts n { c with try_ := t } = true := by
  simp only [pIts, Bool.and_eq_true] at hi ⊢
  exact ⟨hi.1, hi.2.1, hi.2.2.1, hi.2.2.2.1, hi.2.2.2.2.1, Re.wi_true h1 h9⟩
/-- The same call again. -/
theorem take_again (k : Ky) {n ep t : Int} {c : Cl} (rf : Bool) (hi : pIts n c = true) (h1 : 1 ≤ t) (h9 : t ≤ 9) : pTake k n ep [⟨c.saga, c.step, c.back, true⟩] { c with try_ := t } rf = (tagged k (outC { c with try_ := t } true ep), true, [⟨c.saga, c.step, c.back, true⟩]) := by
  have hs : pSays [⟨c.saga, c.step, c.back, true⟩] { c with try_ := t } rf = (true, [⟨c.saga, c.step, c.back, true⟩]) := by
    simp [pSays, hadE, En.key]
  unfold pTake
  rw [if_pos (its_try hi h1 h9), hs]
set_option maxHeartbeats 4000000 in
theorem long13 (pa wa la : Option Addr) (np pc nw wc ln lc : Nat) (nd n : Int) (c : Cl) (w : World) (hL : Laid w) (h : fewB np nw 0 = false ∨ 20 < ln) : Calls Tryd.prog 13 #[.agg #[.slice pa np pc, .slice wa nw wc, .int .i64 nd], .int .i64 n, .agg (clC c), .slice la ln lc] w (BPost true w) := by
  have k1 := ((Kept.refl (fun _ => False) w).alloc (.cells #[.slice pa np pc, .slice wa nw wc, .int .i64 nd] 24)).alloc (.cells (clC c) 59)
  have G1 := Lib.hid (heap_alloc2_old w (.cells #[.slice pa np pc, .slice wa nw wc, .int .i64 nd] 24) (.cells (clC c) 59))
  have K1 := Lib.hid k1
  have HA := Lib.hid (f_palive _ (hL.kept k1))
  have HH := Lib.hid h
  clear k1 hL h
  go_enter Tryd.func13, Tryd.ntmps13
  go_upto_region 1 with (fail)
  generalize (w.alloc (.cells #[.slice pa np pc, .slice wa nw wc, .int .i64 nd] 24)).alloc (.cells (clC c) 59) = w1 at *
  go_wp2_with fail
  refine HA.out.mono ?_
  rintro e w2 ⟨rfl, k2⟩
  have K2 := Lib.hid (K1.out.trans k2)
  have G2 := k2.row G1.out
  have c0 := row_cell (k := 0) G2 (v := .slice pa np pc) rfl
  have c1 := row_cell (k := 1) G2 (v := .slice wa nw wc) rfl
  have c2 := row_cell (k := 2) G2 (v := .int .i64 nd) rfl
  have HF := Lib.hid (f_pfew pa wa none np pc nw wc 0 0 nd w2)
  clear k2 G2 G1 K1 HA
  cases hf : fewB np nw 0 with
  | false =>
    rw [hf] at HF
    clear hf
    go_wp2_with fail
    refine HF.out.mono ?_
    rintro e w3 ⟨rfl, k3⟩
    clear c0 c1 c2
    go_wp2_with fail
    go_ret
    exact BPost.mk rfl (K2.out.trans k3)
  | true =>
    rw [hf] at HF
    have h60 : 20 < ln := by rcases HH.out with h | h; rw [hf] at h; cases h; exact h
    have t1 : decide ((20 : Int) < (ln : Int)) = true := decide_eq_true (by omega)
    have t2 : decide (20 < ln) = true := decide_eq_true h60
    clear hf h60
    go_wp2_with fail
    refine HF.out.mono ?_
    rintro e w3 ⟨rfl, k3⟩
    clear c0 c1 c2
    go_wp2_with fail
    go_ret
    exact BPost.mk rfl (K2.out.trans k3)
set_option maxHeartbeats 16000000 in
theorem c_again (pv wv : Value) (k : Ky) (n : Int) (c : Cl) (la : Option Addr) (lc : Nat) (zs : List Int) (w : World) (hL : Laid w) (hk : KyIn w pv wv k) (hfw : fewB k.parts.length k.wits.length 0 = true) (hln : zs.length ≤ 20) (hc : ClFit c)
    (hq : Rd w 1 (.slice la zs.length lc) zs.length (zs.map (Value.int .u8))) (hz : ∀ z ∈ zs, 0 ≤ z ∧ z ≤ 255) :
    Calls Tryd.prog 13 #[.agg #[pv, wv, .int .i64 k.need], .int .i64 n, .agg (clC c), .slice la zs.length lc] w (BPost true w) := by
  obtain ⟨pa, pc, rfl⟩ := hk.parts.form
  obtain ⟨wa, wcp, rfl⟩ := hk.wits.form
  have k1 := ((Kept.refl (fun _ => False) w).alloc (.cells #[.slice pa k.parts.length pc, .slice wa k.wits.length wcp, .int .i64 k.need] 24)).alloc (.cells (clC c) 59)
  have G1 := Lib.hid (heap_alloc2_old w (.cells #[.slice pa k.parts.length pc, .slice wa k.wits.length wcp, .int .i64 k.need] 24) (.cells (clC c) 59))
  have X1 := Lib.hid (heap_alloc2_new w (.cells #[.slice pa k.parts.length pc, .slice wa k.wits.length wcp, .int .i64 k.need] 24) (.cells (clC c) 59))
  have K1 := Lib.hid k1
  have HA := Lib.hid (f_palive _ (hL.kept k1))
  have HK1 := Lib.hid (hk.kept k1)
  have HL1 := Lib.hid (hL.kept k1)
  have HKw := Lib.hid hk
  have HLw := Lib.hid hL
  have HQ := Lib.hid hq
  have HZ := Lib.hid hz
  have HFW := Lib.hid hfw
  have HC := Lib.hid hc
  have HLN := Lib.hid hln
  have t1 : decide ((20 : Int) < (zs.length : Int)) = false := decide_eq_false (by omega)
  have t2 : decide (20 < zs.length) = false := decide_eq_false (by omega)
  clear k1 hL hk hq hfw hc hz hln
  go_enter Tryd.func13, Tryd.ntmps13
  go_upto_region 1 with (fail)
  generalize (w.alloc (.cells #[.slice pa k.parts.length pc, .slice wa k.wits.length wcp, .int .i64 k.need] 24)).alloc (.cells (clC c) 59) = w1 at *
  go_wp2_with fail
  refine HA.out.mono ?_
  rintro e w2 ⟨rfl, k2⟩
  have K2 := Lib.hid (K1.out.trans k2)
  have G2 := Lib.hid (k2.row G1.out)
  have X2 := Lib.hid (k2.row X1.out)
  have HK2 := Lib.hid (HK1.out.kept k2)
  have HL2 := Lib.hid (HL1.out.kept k2)
  have c0 := row_cell (k := 0) G2.out (v := .slice pa k.parts.length pc) rfl
  have c1 := row_cell (k := 1) G2.out (v := .slice wa k.wits.length wcp) rfl
  have c2 := row_cell (k := 2) G2.out (v := .int .i64 k.need) rfl
  have HF := f_pfew pa wa none k.parts.length pc k.wits.length wcp 0 0 k.need w2
  rw [HFW.out] at HF
  have HFH := Lib.hid HF
  clear HF k2 G1 X1 K1 HA HK1 HL1
  go_wp2_with fail
  refine HFH.out.mono ?_
  rintro e w3 ⟨rfl, k3⟩
  have K3 := Lib.hid (K2.out.trans k3)
  have G3 := Lib.hid (k3.row G2.out)
  have X3 := Lib.hid (k3.row X2.out)
  have HK3 := Lib.hid (HK2.out.kept k3)
  have HL3 := Lib.hid (HL2.out.kept k3)
  clear k3 c0 c1 c2 K2 G2 X2 HK2 HL2 HFH
  have c0 := row_cell (k := 0) G3.out (v := .slice pa k.parts.length pc) rfl
  have c1 := row_cell (k := 1) G3.out (v := .slice wa k.wits.length wcp) rfl
  have c2 := row_cell (k := 2) G3.out (v := .int .i64 k.need) rfl
  have HR := f_rknown (.slice pa k.parts.length pc) (.slice wa k.wits.length wcp) k n 0 w3 HK3.out
  cases hkn : kKnown k n 0 with
  | false =>
    rw [hkn] at HR
    have HRH := Lib.hid HR
    clear HR hkn
    go_wp2_with fail
    refine HRH.out.mono ?_
    rintro e w4 ⟨rfl, k4⟩
    clear c0 c1 c2
    go_wp2_with fail
    go_ret
    exact BPost.mk rfl (K3.out.trans k4)
  | true =>
    rw [hkn] at HR
    have HRH := Lib.hid HR
    have HKN := Lib.hid hkn
    clear HR hkn
    go_wp2_with fail
    refine HRH.out.mono ?_
    rintro e w4 ⟨rfl, k4⟩
    have K4 := Lib.hid (K3.out.trans k4)
    have G4 := Lib.hid (k4.row G3.out)
    have X4 := Lib.hid (k4.row X3.out)
    have HN := Lib.hid (f_new_yes (.slice pa k.parts.length pc) (.slice wa k.wits.length wcp) k n w4 (HL3.out.kept k4) (HK3.out.kept k4) HKN.out)
    clear k4 c0 c1 c2 K3 G3 X3 HK3 HL3 HRH t1 t2
    have c0 := row_cell (k := 0) G4.out (v := .slice pa k.parts.length pc) rfl
    have c1 := row_cell (k := 1) G4.out (v := .slice wa k.wits.length wcp) rfl
    have c2 := row_cell (k := 2) G4.out (v := .int .i64 k.need) rfl
    go_wp2_with fail
    refine HN.out.mono ?_
    rintro e w5 ⟨g, r, rfl, hp5, k5, hg⟩
    have HP5 := Lib.hid (hp5.base (K4.out.mono fun _ _ e => e.elim) HKw.out HLw.out)
    have X5 := Lib.hid (k5.row X4.out)
    have G5 := Lib.hid (k5.row G4.out)
    clear c0 c1 c2 hp5 k5 hg HN G4 X4 K4
    have HF := f_take w g r (.slice pa k.parts.length pc) (.slice wa k.wits.length wcp) (.slice none 0 0) k n 0 [] c false w5 HP5.out HC.out.tagl (by simp)
    unfold takeV at HF
    obtain ⟨CC, hCC⟩ : ∃ CC, CC = clC c := ⟨_, rfl⟩
    have hzc : Hid (CC.size = 41) := by show _ = _; rw [hCC]; exact clC_size HC.out.tagl
    rw [← hCC] at HF X5
    have HCC := Lib.hid hCC
    clear hCC
    cases hi : pIts n c with
    | false =>
      rw [take_no k hi] at HF
      dsimp only at HF
      obtain ⟨C1, hC1⟩ : ∃ C1, C1 = clC zCl := ⟨_, rfl⟩
      rw [← hC1] at HF
      have hz1 : Hid (C1.size = 41) := by show _ = _; rw [hC1]; rfl
      have ho1 : Hid (C1.all (·.oneCell') = true) := by show _ = _; rw [hC1]; exact clC_one _
      have HFH := Lib.hid HF
      clear HF hC1 hi
      go_wp2_with (first | fail | ((with_reducible refine load59 (C := CC) (g := w.heap.size + 1) (o := 0) ?_ (range_row X5.out) hzc.out ?_); rfl))
      refine HFH.out.mono ?_
      rintro e w6 ⟨rfl, sv6, hp6, k6, ho6⟩
      have HP6 := Lib.hid hp6
      clear hp6 k6 ho6 HFH HP5 X5 G5
      obtain ⟨y6, kk6⟩ := alloc_set w6 Z59 C1 59
      have z6 := Lib.hid (heap_alloc_new w6 (.cells Z59 59))
      have HP7 := Lib.hid (HP6.out.same kk6)
      go_upto_region 7 with (first | fail | (with_reducible refine alloc59 ?_) | ((with_reducible refine store59 (C := C1) ?_ ?_ z6.out Z59_size hz1.out ho1.out ?_); rfl; rfl))
      generalize (w6.alloc (.cells Z59 59)).setRow w6.heap.size C1 = w7 at *
      clear y6 kk6 z6 HP6
      have HE := Lib.hid (f_entries w g r _ _ sv6 k n 0 [] w7 HP7.out (by simp))
      go_wp2_with fail
      refine HE.out.mono ?_
      rintro e w8 ⟨v, rfl, hb, k8⟩
      obtain ⟨ae, ce, rfl, _⟩ := hb.form
      have K8 := Lib.hid (show Kept (fun _ => False) w w8 from (HP7.out.kept.trans' (Kept.refl (fun _ => False) w7) (fun _ _ e => e.elim) |>.trans' k8 (fun _ _ e => e.elim)).mono (fun i hi e => by omega))
      clear hb k8 HE HP7
      go_wp2_with fail
      go_ret
      exact BPost.mk rfl K8.out
    | true =>
      rw [take_first k hi] at HF
      dsimp only at HF
      obtain ⟨C1, hC1⟩ : ∃ C1, C1 = clC (tagged k (outC c true 0)) := ⟨_, rfl⟩
      rw [← hC1] at HF
      have hz1 : Hid (C1.size = 41) := by show _ = _; rw [hC1]; exact clC_size (tagged_len _ _)
      have ho1 : Hid (C1.all (·.oneCell') = true) := by show _ = _; rw [hC1]; exact clC_one _
      have hv7 : Hid (C1[7]? = some (.bool true)) := by show _ = _; rw [hC1]; simp [clC, tagged, outC]
      have HFH := Lib.hid HF
      have HI := Lib.hid hi
      clear HF hC1 hi
      go_wp2_with (first | fail | ((with_reducible refine load59 (C := CC) (g := w.heap.size + 1) (o := 0) ?_ (range_row X5.out) hzc.out ?_); rfl))
      refine HFH.out.mono ?_
      rintro e w6 ⟨rfl, sv6, hp6, k6, ho6⟩
      have HP6 := Lib.hid hp6
      have X6 := Lib.hid (k6.rowS (HP5.out.other X5.out (by decide) (by decide)) X5.out)
      have G6 := Lib.hid (k6.rowS (HP5.out.other G5.out (by decide) (by decide)) G5.out)
      clear hp6 k6 ho6 HFH HP5 X5 G5
      obtain ⟨y6, kk6⟩ := alloc_set w6 Z59 C1 59
      have z6 := Lib.hid (heap_alloc_new w6 (.cells Z59 59))
      have Y6 := Lib.hid y6
      have HP7 := Lib.hid (HP6.out.same kk6)
      have X7 := Lib.hid (kk6.row X6.out)
      have G7 := Lib.hid (kk6.row G6.out)
      go_upto_region 7 with (first | fail | (with_reducible refine alloc59 ?_) | ((with_reducible refine store59 (C := C1) ?_ ?_ z6.out Z59_size hz1.out ho1.out ?_); rfl; rfl))
      generalize (w6.alloc (.cells Z59 59)).setRow w6.heap.size C1 = w7 at *
      generalize w6.heap.size = B6 at *
      clear y6 kk6 z6 HP6 X6 G6
      have d7 := row_cell (k := 7) Y6.out hv7.out
      have HE := Lib.hid (f_entries w g r _ _ sv6 k n 0 [⟨c.saga, c.step, c.back, true⟩] w7 HP7.out (by simp))
      go_wp2_with fail
      refine HE.out.mono ?_
      rintro e w8 ⟨v, rfl, hb, k8⟩
      obtain ⟨ae, ce, rfl, _⟩ := hb.form
      have HP8 := Lib.hid (HP7.out.same k8)
      have X8 := Lib.hid (k8.row X7.out)
      have G8 := Lib.hid (k8.row G7.out)
      clear hb k8 HE HP7 X7 G7 d7 Y6
      go_wp2_with fail
      rw [HCC.out] at X8
      go_loopw [12] (fun i wr => ∃ j : Nat, j ≤ zs.length ∧ i = .int .i64 j ∧ Hid (∃ sv ep t, Pa w wr g r (.slice pa k.parts.length pc) (.slice wa k.wits.length wcp) sv k n ep [⟨c.saga, c.step, c.back, true⟩] ∧ 0 ≤ ep ∧ ep ≤ j ∧ wr.heap[w.heap.size + 1]? = some (.cells (clC { c with try_ := t }) 59 (0, 0)) ∧ wr.heap[w.heap.size]? = some (.cells #[.slice pa k.parts.length pc, .slice wa k.wits.length wcp, .int .i64 k.need] 24 (0, 0)))) (fun i _ => zs.length - (intOf i).toNat)
      case atStart => exact ⟨0, Nat.zero_le _, rfl, _, 0, c.try_, HP8.out, Int.le_refl _, Int.le_refl _, X8.out, G8.out⟩
      case round =>
        obtain ⟨j, hj, rfl, HX⟩ := hrel
        have hln20 := HLN.out
        obtain ⟨sv, ep, t, hp, he0, hej, hx, hg⟩ := HX.out
        have HPr := Lib.hid hp
        have HEP := Lib.hid (And.intro he0 hej)
        have XR := Lib.hid hx
        have GR := Lib.hid hg
        clear HX hp he0 hej hx hg HP8 X8 G8
        by_cases hlt : j < zs.length
        · obtain ⟨b, o, c', ev, hcl⟩ := HQ.out.addr (by omega)
          simp only [Value.slice.injEq, true_and] at ev
          obtain ⟨rfl, rfl⟩ := ev
          have hzj := HZ.out _ (List.getElem_mem hlt)
          have hcj := hcl j (.int .u8 zs[j]) (by simp [hlt])
          have HOLD := Lib.hid (fun (w' : World) (kk : Kept (fun i => w.heap.size ≤ i) w w') => (kk.cell (World.block_lt_of_cell? w _ hcj) (Nat.not_le.2 (World.block_lt_of_cell? w _ hcj))).trans hcj)
          generalize zs[j] = z at *
          obtain ⟨hz0, hz255⟩ := hzj
          have e1 := HOLD.out wr HPr.out.kept
          clear hcl hcj
          cases hm4 : (z % 4 == 0)
          case false =>
            have hBAlo : Hid (w.heap.size + 1 < wr.heap.size) := row_lt XR.out
            have HEP1 : Hid (0 ≤ ep ∧ ep ≤ j + 1) := ⟨HEP.out.1, by have := HEP.out.2; omega⟩
            go_upto_region 16 with (fail)
            have e1 := HOLD.out wr HPr.out.kept
            have x2 := row_cell (k := 2) XR.out (v := .int .i64 t) (by simp [clC])
            have f2 := free_of_block (j := 2) XR.out
            go_upto_region 17 with (fail)
            have ks := (Kept.refl (fun i => i = w.heap.size + 1) wr).setCell (p := ⟨w.heap.size + 1, 2, none⟩) (.inl rfl) (.int .i64 (1 + z % 9))
            have HPs := Lib.hid (HPr.out.next ks (fun i hi e => HPr.out.other XR.out (by decide) (by decide) (by have e' : i = w.heap.size + 1 := e; rw [← e']; exact hi)) (fun i _ e => by have e' : i = w.heap.size + 1 := e; omega))
            have XS : Hid ((wr.setCell ⟨w.heap.size + 1, 2, none⟩ (.int .i64 (1 + z % 9))).heap[w.heap.size + 1]? = some (.cells (clC { c with try_ := 1 + z % 9 }) 59 (0, 0))) := by
              have h := setCell_block (k := 2) XR.out (.int .i64 (1 + z % 9))
              rw [clC_try] at h
              exact h
            have GS := Lib.hid (ks.rowS (by omega) GR.out)
            clear e1 x2 f2 ks
            generalize wr.setCell ⟨w.heap.size + 1, 2, none⟩ (.int .i64 (1 + z % 9)) = ws at *
            obtain ⟨t2, ht2⟩ : ∃ t2, t2 = 1 + z % 9 := ⟨_, rfl⟩
            have hb2 : 1 ≤ t2 ∧ t2 ≤ 9 := by omega
            rw [← ht2] at XS ⊢
            have HB2 := Lib.hid hb2
            have hm2 : IntKind.u8.wrap (z.tmod 2) = z % 2 := by
              rw [Int.tmod_eq_emod_of_nonneg hz0]
              exact IntWalk.u8_in _ (by omega)
            obtain ⟨b2, hbb⟩ : ∃ b2, (z % 2 == 0) = b2 := ⟨_, rfl⟩
            have HF := fun (wq : World) (hp : Pa w wq g r (.slice pa k.parts.length pc) (.slice wa k.wits.length wcp) sv k n ep [⟨c.saga, c.step, c.back, true⟩]) => f_take w g r (.slice pa k.parts.length pc) (.slice wa k.wits.length wcp) sv k n ep [⟨c.saga, c.step, c.back, true⟩] { c with try_ := t2 } b2 wq hp HC.out.tagl (by simp)
            unfold takeV at HF
            rw [take_again k b2 HI.out hb2.1 hb2.2] at HF
            dsimp only at HF
            obtain ⟨ct, hct⟩ : ∃ ct, ct = tagged k (outC { c with try_ := t2 } true ep) := ⟨_, rfl⟩
            rw [← hct] at HF
            obtain ⟨CT, hCT⟩ : ∃ CT, CT = clC { c with try_ := t2 } := ⟨_, rfl⟩
            obtain ⟨C2, hC2⟩ : ∃ C2, C2 = clC ct := ⟨_, rfl⟩
            rw [← hCT, ← hC2] at HF
            have hzt : Hid (CT.size = 41) := by show _ = _; rw [hCT]; exact clC_size HC.out.tagl
            have hctl : Hid (ct.tag.length = 32) := by show _ = _; rw [hct]; exact tagged_len _ _
            have hz2 : Hid (C2.size = 41) := by show _ = _; rw [hC2]; exact clC_size hctl.out
            have ho2 : Hid (C2.all (·.oneCell') = true) := by show _ = _; rw [hC2]; exact clC_one _
            have hv2 : Hid (C2[2]? = some (.int .i64 t2)) := by show _ = _; rw [hC2, hct]; simp [clC, tagged, outC]
            have hv7 : Hid (C2[7]? = some (.bool true)) := by show _ = _; rw [hC2, hct]; simp [clC, tagged, outC]
            have hv8 : Hid (C2[8]? = some (.int .i64 (ep))) := by show _ = _; rw [hC2, hct]; simp [clC, tagged, outC]
            have hcta : Hid (ct.answer = true) := by show _ = _; rw [hct]; rfl
            have hct8 : Hid (All8 ct.tag) := by show All8 _; rw [hct]; exact kRec_all k _
            have hcts : Hid (ct.saga = c.saga ∧ ct.step = c.step) := by show _ ∧ _; rw [hct]; exact ⟨rfl, rfl⟩
            have HHO : Hid (kHolds k (tRec ct 1) ct.tag = true) := by show _ = _; rw [hct]; exact holds_out (its_try HI.out hb2.1 hb2.2) (known_ep HKN.out (by have := HEP1.out.1; omega) (by have := HEP1.out.2; omega)) (by decide) (by decide)
            have HCT := Lib.hid hCT
            have HC2 := Lib.hid hC2
            have HFH := Lib.hid HF
            have HFF := Lib.hid (its_fit HI.out)
            clear hb2 HF hct hCT hC2
            have kd := (Kept.refl (fun _ => False) ws).drew
            have HPd := Lib.hid (HPs.out.same kd)
            have XD := Lib.hid (kd.row XS.out)
            have GD := Lib.hid (kd.row GS.out)
            have e2 := HOLD.out _ HPd.out.kept
            rw [← HCT.out] at XD
            have hSd : ws.drew.heap[w.heap.size + 1]? = some (.cells CT 59 (0, 0)) ∧ ws.drew.cell? ⟨b, o + j, none⟩ = some (.int .u8 z) := ⟨XD.out, e2⟩
            refine wp_region_held_drew (S := fun w' => w'.heap[w.heap.size + 1]? = some (.cells CT 59 (0, 0)) ∧ w'.cell? ⟨b, o + j, none⟩ = some (.int .u8 z)) (by kernel_rfl) hSd (fun hHeld => ?_)
            clear kd e2 HPs XS GS
            generalize ws.drew = wd at *
            refine wpAnyH_take (i := 0) (oi := ⟨some 78, _, _, _, _, _⟩) (v := .pointer (some ⟨g, 0, none⟩)) rfl (by kernel_rfl) (by kernel_rfl) (by kernel_rfl) (fun _ _ _ h => h) (Or.inl ⟨by kernel_rfl, fun w' hS => by go_simp⟩) (by assumption) ?_
            try simp only [Act.put, List.setIfInBounds_toArray, List.set_cons_succ, List.set_cons_zero]
            refine wpAnyH_take (i := 1) (oi := ⟨some 79, _, _, _, _, _⟩) (v := .agg CT) rfl (by kernel_rfl) (by kernel_rfl) (by kernel_rfl) (fun _ _ _ h => h) (yields59 (C := CT) (g := w.heap.size + 1) (o := 0) (by kernel_rfl) rfl (fun w' hS => range_row hS.1) hzt.out) (by assumption) ?_
            try simp only [Act.put, List.setIfInBounds_toArray, List.set_cons_succ, List.set_cons_zero]
            refine wpAnyH_take (i := 2) (oi := ⟨some 80, _, _, _, _, _⟩) (v := .slice (some ⟨b, o, none⟩) zs.length lc) rfl (by kernel_rfl) (by kernel_rfl) (by kernel_rfl) (fun _ _ _ h => h) (Or.inl ⟨by kernel_rfl, fun w' hS => by go_simp⟩) (by assumption) ?_
            try simp only [Act.put, List.setIfInBounds_toArray, List.set_cons_succ, List.set_cons_zero]
            refine wpAnyH_take (i := 3) (oi := ⟨some 81, _, _, _, _, _⟩) (v := .int .i64 j) rfl (by kernel_rfl) (by kernel_rfl) (by kernel_rfl) (fun _ _ _ h => h) (Or.inl ⟨by kernel_rfl, fun w' hS => by go_simp⟩) (by assumption) ?_
            try simp only [Act.put, List.setIfInBounds_toArray, List.set_cons_succ, List.set_cons_zero]
            refine wpAnyH_take (i := 4) (oi := ⟨some 82, _, _, _, _, _⟩) (v := .pointer (some ⟨b, o + j, none⟩)) rfl (by kernel_rfl) (by kernel_rfl) (by kernel_rfl) (fun _ _ _ h => h) (Or.inl ⟨by kernel_rfl, fun w' hS => by go_simp⟩) (by assumption) ?_
            try simp only [Act.put, List.setIfInBounds_toArray, List.set_cons_succ, List.set_cons_zero]
            refine wpAnyH_take (i := 5) (oi := ⟨some 83, _, _, _, _, _⟩) (v := .int .u8 z) rfl (by kernel_rfl) (by kernel_rfl) (by kernel_rfl) (fun _ _ _ h => h) (Or.inl ⟨by kernel_rfl, fun w' hS => by have c := hS.2; go_simp⟩) (by assumption) ?_
            try simp only [Act.put, List.setIfInBounds_toArray, List.set_cons_succ, List.set_cons_zero]
            refine wpAnyH_take (i := 6) (oi := ⟨some 84, _, _, _, _, _⟩) (v := .int .u8 (z % 2)) rfl (by kernel_rfl) (by kernel_rfl) (by kernel_rfl) (fun _ _ _ h => h) (Or.inl ⟨by kernel_rfl, fun w' hS => by have t0 := Int.tmod_eq_emod_of_nonneg (b := 2) hz0; go_simp⟩) (by assumption) ?_
            try simp only [Act.put, List.setIfInBounds_toArray, List.set_cons_succ, List.set_cons_zero]
            refine wpAnyH_take (i := 7) (oi := ⟨some 85, _, _, _, _, _⟩) (v := .bool b2) rfl (by kernel_rfl) (by kernel_rfl) (by kernel_rfl) (fun _ _ _ h => h) (Or.inl ⟨by kernel_rfl, fun w' hS => by have t0 := hbb; go_simp⟩) (by assumption) ?_
            try simp only [Act.put, List.setIfInBounds_toArray, List.set_cons_succ, List.set_cons_zero]
            refine wpAnyH_ready (rs := [8, 12]) (by kernel_rfl) (by simp) ?_
            refine AllReadyH.cons (o := ⟨some 86, _, _, _, _, _⟩) rfl (fun K hK => ?_) ?_
            · skip
              go_simp
              refine (HFH.out wd HPd.out).mono ?_
              rintro e wt ⟨rfl, svt, hpt, kt, hot⟩
              have HPt := Lib.hid hpt
              have hSt : wt.heap[w.heap.size + 1]? = some (.cells CT 59 (0, 0)) ∧ wt.cell? ⟨b, o + j, none⟩ = some (.int .u8 z) := ⟨kt.rowS (HPd.out.other hSd.1 (by decide) (by decide)) hSd.1, HOLD.out wt hpt.kept⟩
              have GT := Lib.hid (kt.rowS (HPd.out.other GD.out (by decide) (by decide)) GD.out)
              go_wp2_with fail
              refine hK.out _ _ hSt (fun hHeld => ?_)
              clear hK K
              try simp only [Act.put, List.setIfInBounds_toArray, List.set_cons_succ, List.set_cons_zero]
              refine wpAnyH_take (i := 9) (oi := ⟨some 77, _, _, _, _, _⟩) (v := .tuple #[.agg C2, .bool true]) rfl (by kernel_rfl) (by kernel_rfl) (by kernel_rfl) (fun _ _ _ h => h) (Or.inl ⟨by kernel_rfl, fun w' hS => by go_simp⟩) (by assumption) ?_
              try simp only [Act.put, List.setIfInBounds_toArray, List.set_cons_succ, List.set_cons_zero]
              refine wpAnyH_take (i := 10) (oi := ⟨some 87, _, _, _, _, _⟩) (v := .agg C2) rfl (by kernel_rfl) (by kernel_rfl) (by kernel_rfl) (fun _ _ _ h => h) (Or.inl ⟨by kernel_rfl, fun w' hS => by go_simp⟩) (by assumption) ?_
              try simp only [Act.put, List.setIfInBounds_toArray, List.set_cons_succ, List.set_cons_zero]
              refine wpAnyH_take (i := 11) (oi := ⟨some 88, _, _, _, _, _⟩) (v := .bool true) rfl (by kernel_rfl) (by kernel_rfl) (by kernel_rfl) (fun _ _ _ h => h) (Or.inl ⟨by kernel_rfl, fun w' hS => by go_simp⟩) (by assumption) ?_
              try simp only [Act.put, List.setIfInBounds_toArray, List.set_cons_succ, List.set_cons_zero]
              refine wpAnyH_ready (rs := [12]) (by kernel_rfl) (by simp) ?_
              refine AllReadyH.cons (o := ⟨some 13, _, _, _, _, _⟩) rfl (fun K hK => ?_) AllReadyH.nil
              have ka := (Kept.refl (fun _ => False) wt).alloc (.cells Z59 59)
              have zA := Lib.hid (heap_alloc_new wt (.cells Z59 59))
              have hSa : (wt.alloc (.cells Z59 59)).heap[w.heap.size + 1]? = some (.cells CT 59 (0, 0)) ∧ (wt.alloc (.cells Z59 59)).cell? ⟨b, o + j, none⟩ = some (.int .u8 z) := ⟨ka.row hSt.1, ka.keepC hSt.2⟩
              refine step_alloc59 (by kernel_rfl) ?_
              refine hK.out _ _ hSa (fun hHeld => ?_)
              clear hK K
              try simp only [Act.put, List.setIfInBounds_toArray, List.set_cons_succ, List.set_cons_zero]
              refine wpAnyH_ready (rs := [13]) (by kernel_rfl) (by simp) ?_
              refine AllReadyH.cons (o := ⟨none, _, _, _, _, _⟩) rfl (fun K hK => ?_) AllReadyH.nil
              have GA := Lib.hid (ka.row GT.out)
              have HPa := Lib.hid (HPt.out.same ka)
              have HBA := Lib.hid (row_lt hSt.1)
              generalize hwA : wt.alloc (.cells Z59 59) = wA at *
              generalize wt.heap.size = BA at *
              have hzz := Lib.hid (show 0 + 41 ≤ Z59.size by rw [Z59_size]; decide)
              refine step_store59 (C := C2) (g := BA) (o := 0) (by kernel_rfl) rfl rfl hz2.out ho2.out zA.out hzz.out ?_
              intro wz gz kz
              rw [puts_all (Z59_size.trans hz2.out.symm)] at gz
              have YZ := Lib.hid gz
              have HPz := Lib.hid (HPa.out.next kz (fun i hi e => HPa.out.other zA.out (by decide) (by decide) (by have e' : i = BA := e; rw [← e']; exact hi)) (fun i hi e => by have e' : i = BA := e; have := HBA.out; omega))
              have GZ := Lib.hid (kz.rowS (by have := HBA.out; omega) GA.out)
              have XZ := Lib.hid (kz.rowS (by have := HBA.out; omega) hSa.1)
              have hSz : wz.heap[w.heap.size + 1]? = some (.cells CT 59 (0, 0)) ∧ wz.cell? ⟨b, o + j, none⟩ = some (.int .u8 z) := ⟨XZ.out, HOLD.out wz HPz.out.kept⟩
              clear gz kz HPa zA GA hzz
              refine hK.out _ _ hSz (fun hHeld => ?_)
              clear hK K
              try simp only [Act.put, List.setIfInBounds_toArray, List.set_cons_succ, List.set_cons_zero]
              refine wpAnyH_take (i := 14) (oi := ⟨some 14, _, _, _, _, _⟩) (v := .bool true) rfl (by kernel_rfl) (by kernel_rfl) (by kernel_rfl) (fun _ _ _ h => h) (Or.inl ⟨by kernel_rfl, fun w' hS => by go_simp⟩) (by assumption) ?_
              try simp only [Act.put, List.setIfInBounds_toArray, List.set_cons_succ, List.set_cons_zero]
              refine wpAnyH_done (by kernel_rfl) ?_ _
              clear hHeld hSz hwA
              go_upto_region 18 with (fail)
              have kd := (Kept.refl (fun _ => False) wz).drew
              have HPy := Lib.hid (HPz.out.same kd)
              have YY := Lib.hid (kd.row YZ.out)
              have GY := Lib.hid (kd.row GZ.out)
              have XY := Lib.hid (kd.row XZ.out)
              clear kd HPz YZ GZ XZ
              refine wp_region_held_drew (S := fun w' => Kept (fun _ => False) wz.drew w') (by kernel_rfl) (Kept.refl _ _) (fun hHeld => ?_)
              generalize wz.drew = wy at *
              have hSy : Kept (fun _ => False) wy wy := Kept.refl _ _
              have hvt : Hid (CT[2]? = some (.int .i64 t2)) := by show _ = _; rw [HCT.out]; simp [clC]
              refine wpAnyH_take (i := 0) (oi := ⟨some 89, _, _, _, _, _⟩) (v := .bool true) rfl (by kernel_rfl) (by kernel_rfl) (by kernel_rfl) (fun _ _ _ h => h) (Or.inl ⟨by kernel_rfl, fun w' hS => by go_simp⟩) (by assumption) ?_
              try simp only [Act.put, List.setIfInBounds_toArray, List.set_cons_succ, List.set_cons_zero]
              refine wpAnyH_take (i := 1) (oi := ⟨some 90, _, _, _, _, _⟩) (v := .bool false) rfl (by kernel_rfl) (by kernel_rfl) (by kernel_rfl) (fun _ _ _ h => h) (Or.inl ⟨by kernel_rfl, fun w' hS => by go_simp⟩) (by assumption) ?_
              try simp only [Act.put, List.setIfInBounds_toArray, List.set_cons_succ, List.set_cons_zero]
              refine wpAnyH_take (i := 2) (oi := ⟨some 91, _, _, _, _, _⟩) (v := .bool false) rfl (by kernel_rfl) (by kernel_rfl) (by kernel_rfl) (fun _ _ _ h => h) (Or.inl ⟨by kernel_rfl, fun w' hS => by go_simp⟩) (by assumption) ?_
              try simp only [Act.put, List.setIfInBounds_toArray, List.set_cons_succ, List.set_cons_zero]
              refine wpAnyH_take (i := 3) (oi := ⟨some 92, _, _, _, _, _⟩) (v := .pointer (some ⟨BA, 7, none⟩)) rfl (by kernel_rfl) (by kernel_rfl) (by kernel_rfl) (fun _ _ _ h => h) (Or.inl ⟨by kernel_rfl, fun w' hS => by go_simp⟩) (by assumption) ?_
              try simp only [Act.put, List.setIfInBounds_toArray, List.set_cons_succ, List.set_cons_zero]
              refine wpAnyH_take (i := 4) (oi := ⟨some 93, _, _, _, _, _⟩) (v := .bool true) rfl (by kernel_rfl) (by kernel_rfl) (by kernel_rfl) (fun _ _ _ h => h) (Or.inl ⟨by kernel_rfl, fun w' hS => by have c := row_cell (k := 7) (hS.row YY.out) (v := .bool true) (hv7.out); go_simp⟩) (by assumption) ?_
              try simp only [Act.put, List.setIfInBounds_toArray, List.set_cons_succ, List.set_cons_zero]
              refine wpAnyH_take (i := 5) (oi := ⟨some 94, _, _, _, _, _⟩) (v := .bool false) rfl (by kernel_rfl) (by kernel_rfl) (by kernel_rfl) (fun _ _ _ h => h) (Or.inl ⟨by kernel_rfl, fun w' hS => by go_simp⟩) (by assumption) ?_
              try simp only [Act.put, List.setIfInBounds_toArray, List.set_cons_succ, List.set_cons_zero]
              refine wpAnyH_take (i := 6) (oi := ⟨some 95, _, _, _, _, _⟩) (v := .bool false) rfl (by kernel_rfl) (by kernel_rfl) (by kernel_rfl) (fun _ _ _ h => h) (Or.inl ⟨by kernel_rfl, fun w' hS => by go_simp⟩) (by assumption) ?_
              try simp only [Act.put, List.setIfInBounds_toArray, List.set_cons_succ, List.set_cons_zero]
              refine wpAnyH_take (i := 7) (oi := ⟨some 96, _, _, _, _, _⟩) (v := .bool false) rfl (by kernel_rfl) (by kernel_rfl) (by kernel_rfl) (fun _ _ _ h => h) (Or.inl ⟨by kernel_rfl, fun w' hS => by go_simp⟩) (by assumption) ?_
              try simp only [Act.put, List.setIfInBounds_toArray, List.set_cons_succ, List.set_cons_zero]
              refine wpAnyH_take (i := 8) (oi := ⟨some 97, _, _, _, _, _⟩) (v := .pointer (some ⟨BA, 2, none⟩)) rfl (by kernel_rfl) (by kernel_rfl) (by kernel_rfl) (fun _ _ _ h => h) (Or.inl ⟨by kernel_rfl, fun w' hS => by go_simp⟩) (by assumption) ?_
              try simp only [Act.put, List.setIfInBounds_toArray, List.set_cons_succ, List.set_cons_zero]
              refine wpAnyH_take (i := 9) (oi := ⟨some 98, _, _, _, _, _⟩) (v := .int .i64 t2) rfl (by kernel_rfl) (by kernel_rfl) (by kernel_rfl) (fun _ _ _ h => h) (Or.inl ⟨by kernel_rfl, fun w' hS => by have c := row_cell (k := 2) (hS.row YY.out) (v := .int .i64 t2) (hv2.out); go_simp⟩) (by assumption) ?_
              try simp only [Act.put, List.setIfInBounds_toArray, List.set_cons_succ, List.set_cons_zero]
              refine wpAnyH_take (i := 10) (oi := ⟨some 99, _, _, _, _, _⟩) (v := .pointer (some ⟨w.heap.size + 1, 2, none⟩)) rfl (by kernel_rfl) (by kernel_rfl) (by kernel_rfl) (fun _ _ _ h => h) (Or.inl ⟨by kernel_rfl, fun w' hS => by go_simp⟩) (by assumption) ?_
              try simp only [Act.put, List.setIfInBounds_toArray, List.set_cons_succ, List.set_cons_zero]
              refine wpAnyH_take (i := 11) (oi := ⟨some 100, _, _, _, _, _⟩) (v := .int .i64 t2) rfl (by kernel_rfl) (by kernel_rfl) (by kernel_rfl) (fun _ _ _ h => h) (Or.inl ⟨by kernel_rfl, fun w' hS => by have c := row_cell (k := 2) (hS.row XY.out) (v := .int .i64 t2) (hvt.out); go_simp⟩) (by assumption) ?_
              try simp only [Act.put, List.setIfInBounds_toArray, List.set_cons_succ, List.set_cons_zero]
              refine wpAnyH_take (i := 12) (oi := ⟨some 101, _, _, _, _, _⟩) (v := .bool false) rfl (by kernel_rfl) (by kernel_rfl) (by kernel_rfl) (fun _ _ _ h => h) (Or.inl ⟨by kernel_rfl, fun w' hS => by go_simp⟩) (by assumption) ?_
              try simp only [Act.put, List.setIfInBounds_toArray, List.set_cons_succ, List.set_cons_zero]
              refine wpAnyH_take (i := 13) (oi := ⟨some 102, _, _, _, _, _⟩) (v := .bool false) rfl (by kernel_rfl) (by kernel_rfl) (by kernel_rfl) (fun _ _ _ h => h) (Or.inl ⟨by kernel_rfl, fun w' hS => by go_simp⟩) (by assumption) ?_
              try simp only [Act.put, List.setIfInBounds_toArray, List.set_cons_succ, List.set_cons_zero]
              refine wpAnyH_take (i := 14) (oi := ⟨some 103, _, _, _, _, _⟩) (v := .bool false) rfl (by kernel_rfl) (by kernel_rfl) (by kernel_rfl) (fun _ _ _ h => h) (Or.inl ⟨by kernel_rfl, fun w' hS => by go_simp⟩) (by assumption) ?_
              try simp only [Act.put, List.setIfInBounds_toArray, List.set_cons_succ, List.set_cons_zero]
              refine wpAnyH_take (i := 15) (oi := ⟨some 104, _, _, _, _, _⟩) (v := .pointer (some ⟨BA, 8, none⟩)) rfl (by kernel_rfl) (by kernel_rfl) (by kernel_rfl) (fun _ _ _ h => h) (Or.inl ⟨by kernel_rfl, fun w' hS => by go_simp⟩) (by assumption) ?_
              try simp only [Act.put, List.setIfInBounds_toArray, List.set_cons_succ, List.set_cons_zero]
              refine wpAnyH_take (i := 16) (oi := ⟨some 105, _, _, _, _, _⟩) (v := .int .i64 ep) rfl (by kernel_rfl) (by kernel_rfl) (by kernel_rfl) (fun _ _ _ h => h) (Or.inl ⟨by kernel_rfl, fun w' hS => by have c := row_cell (k := 8) (hS.row YY.out) (v := .int .i64 ep) (hv8.out); go_simp⟩) (by assumption) ?_
              try simp only [Act.put, List.setIfInBounds_toArray, List.set_cons_succ, List.set_cons_zero]
              refine wpAnyH_take (i := 17) (oi := ⟨some 106, _, _, _, _, _⟩) (v := .pointer (some ⟨g, 0, none⟩)) rfl (by kernel_rfl) (by kernel_rfl) (by kernel_rfl) (fun _ _ _ h => h) (Or.inl ⟨by kernel_rfl, fun w' hS => by go_simp⟩) (by assumption) ?_
              try simp only [Act.put, List.setIfInBounds_toArray, List.set_cons_succ, List.set_cons_zero]
              refine wpAnyH_ready (rs := [18]) (by kernel_rfl) (by simp) ?_
              refine AllReadyH.cons (o := ⟨some 107, _, _, _, _, _⟩) rfl (fun K hK => ?_) AllReadyH.nil
              have HFp := Lib.hid (f_pepoch w g r _ _ _ k n _ _ wy HPy.out)
              go_simp
              refine HFp.out.mono ?_
              rintro e wh ⟨rfl, rfl⟩
              clear HFp
              go_wp2_with fail
              refine hK.out _ _ hSy (fun hHeld => ?_)
              clear hK K
              try simp only [Act.put, List.setIfInBounds_toArray, List.set_cons_succ, List.set_cons_zero]
              refine wpAnyH_take (i := 19) (oi := ⟨some 108, _, _, _, _, _⟩) (v := .bool false) rfl (by kernel_rfl) (by kernel_rfl) (by kernel_rfl) (fun _ _ _ h => h) (Or.inl ⟨by kernel_rfl, fun w' hS => by go_simp⟩) (by assumption) ?_
              try simp only [Act.put, List.setIfInBounds_toArray, List.set_cons_succ, List.set_cons_zero]
              refine wpAnyH_take (i := 20) (oi := ⟨some 109, _, _, _, _, _⟩) (v := .bool false) rfl (by kernel_rfl) (by kernel_rfl) (by kernel_rfl) (fun _ _ _ h => h) (Or.inl ⟨by kernel_rfl, fun w' hS => by go_simp⟩) (by assumption) ?_
              try simp only [Act.put, List.setIfInBounds_toArray, List.set_cons_succ, List.set_cons_zero]
              refine wpAnyH_take (i := 21) (oi := ⟨some 110, _, _, _, _, _⟩) (v := .bool false) rfl (by kernel_rfl) (by kernel_rfl) (by kernel_rfl) (fun _ _ _ h => h) (Or.inl ⟨by kernel_rfl, fun w' hS => by go_simp⟩) (by assumption) ?_
              try simp only [Act.put, List.setIfInBounds_toArray, List.set_cons_succ, List.set_cons_zero]
              refine wpAnyH_take (i := 22) (oi := ⟨some 111, _, _, _, _, _⟩) (v := .pointer (some ⟨g, 0, none⟩)) rfl (by kernel_rfl) (by kernel_rfl) (by kernel_rfl) (fun _ _ _ h => h) (Or.inl ⟨by kernel_rfl, fun w' hS => by go_simp⟩) (by assumption) ?_
              try simp only [Act.put, List.setIfInBounds_toArray, List.set_cons_succ, List.set_cons_zero]
              refine wpAnyH_ready (rs := [23]) (by kernel_rfl) (by simp) ?_
              refine AllReadyH.cons (o := ⟨some 112, _, _, _, _, _⟩) rfl (fun K hK => ?_) AllReadyH.nil
              have HFp := Lib.hid (f_entries w g r _ _ _ k n _ _ wh HPy.out (by simp))
              go_simp
              refine HFp.out.mono ?_
              rintro e wi ⟨v, rfl, hb, ki⟩
              obtain ⟨ae2, ce2, rfl, _⟩ := hb.form
              have hSi : Kept (fun _ => False) wh wi := ki
              have HPi := Lib.hid (HPy.out.same ki)
              clear HFp hb ki
              simp only [List.length_cons, List.length_nil, Nat.zero_add]
              go_wp2_with fail
              refine hK.out _ _ hSi (fun hHeld => ?_)
              clear hK K
              try simp only [Act.put, List.setIfInBounds_toArray, List.set_cons_succ, List.set_cons_zero]
              refine wpAnyH_take (i := 24) (oi := ⟨some 113, _, _, _, _, _⟩) (v := .int .i64 1) rfl (by kernel_rfl) (by kernel_rfl) (by kernel_rfl) (fun _ _ _ h => h) (Or.inl ⟨by kernel_rfl, fun w' hS => by go_simp⟩) (by assumption) ?_
              try simp only [Act.put, List.setIfInBounds_toArray, List.set_cons_succ, List.set_cons_zero]
              refine wpAnyH_take (i := 25) (oi := ⟨some 114, _, _, _, _, _⟩) (v := .bool false) rfl (by kernel_rfl) (by kernel_rfl) (by kernel_rfl) (fun _ _ _ h => h) (Or.inl ⟨by kernel_rfl, fun w' hS => by go_simp⟩) (by assumption) ?_
              try simp only [Act.put, List.setIfInBounds_toArray, List.set_cons_succ, List.set_cons_zero]
              refine wpAnyH_take (i := 26) (oi := ⟨some 115, _, _, _, _, _⟩) (v := .bool false) rfl (by kernel_rfl) (by kernel_rfl) (by kernel_rfl) (fun _ _ _ h => h) (Or.inl ⟨by kernel_rfl, fun w' hS => by go_simp⟩) (by assumption) ?_
              try simp only [Act.put, List.setIfInBounds_toArray, List.set_cons_succ, List.set_cons_zero]
              refine wpAnyH_take (i := 27) (oi := ⟨some 116, _, _, _, _, _⟩) (v := .bool false) rfl (by kernel_rfl) (by kernel_rfl) (by kernel_rfl) (fun _ _ _ h => h) (Or.inl ⟨by kernel_rfl, fun w' hS => by go_simp⟩) (by assumption) ?_
              try simp only [Act.put, List.setIfInBounds_toArray, List.set_cons_succ, List.set_cons_zero]
              refine wpAnyH_take (i := 28) (oi := ⟨some 117, _, _, _, _, _⟩) (v := .agg #[.slice pa k.parts.length pc, .slice wa k.wits.length wcp, .int .i64 k.need]) rfl (by kernel_rfl) (by kernel_rfl) (by kernel_rfl) (fun _ _ _ h => h) (Or.inl ⟨by kernel_rfl, fun w' hS => by have c0 := row_cell (k := 0) (hS.row GY.out) (v := .slice pa k.parts.length pc) (rfl); have c1 := row_cell (k := 1) (hS.row GY.out) (v := .slice wa k.wits.length wcp) (rfl); have c2 := row_cell (k := 2) (hS.row GY.out) (v := .int .i64 k.need) (rfl); go_simp⟩) (by assumption) ?_
              try simp only [Act.put, List.setIfInBounds_toArray, List.set_cons_succ, List.set_cons_zero]
              refine wpAnyH_take (i := 29) (oi := ⟨some 118, _, _, _, _, _⟩) (v := .agg C2) rfl (by kernel_rfl) (by kernel_rfl) (by kernel_rfl) (fun _ _ _ h => h) (yields59 (C := C2) (g := BA) (o := 0) (by kernel_rfl) rfl (fun w' hS => range_row (hS.row YY.out)) hz2.out) (by assumption) ?_
              try simp only [Act.put, List.setIfInBounds_toArray, List.set_cons_succ, List.set_cons_zero]
              refine wpAnyH_ready (rs := [30]) (by kernel_rfl) (by simp) ?_
              refine AllReadyH.cons (o := ⟨some 119, _, _, _, _, _⟩) rfl (fun K hK => ?_) AllReadyH.nil
              have HFp := f_preceipt ct 1 wi hctl.out
              rw [← HC2.out] at HFp
              have HFq := Lib.hid HFp
              clear HFp
              go_simp
              refine HFq.out.mono ?_
              rintro e wk ⟨rfl, kk⟩
              have hSk : Kept (fun _ => False) wh wk := hSi.trans kk
              have HPk := Lib.hid (HPi.out.same kk)
              have HRk := Lib.hid (recC_in wk hctl.out 1)
              generalize recC ct 1 = CR at *
              clear HFq kk
              go_wp2_with fail
              refine hK.out _ _ hSk (fun hHeld => ?_)
              clear hK K
              try simp only [Act.put, List.setIfInBounds_toArray, List.set_cons_succ, List.set_cons_zero]
              refine wpAnyH_ready (rs := [31]) (by kernel_rfl) (by simp) ?_
              refine AllReadyH.cons (o := ⟨some 120, _, _, _, _, _⟩) rfl (fun K hK => ?_) AllReadyH.nil
              have hx6 : (tRec ct 1).saga = c.saga ∧ (tRec ct 1).step = c.step := by simp only [tRec, hcta.out, if_true]; exact hcts.out
              have HFp := f_holds (.slice pa k.parts.length pc) (.slice wa k.wits.length wcp) k CR (tRec ct 1) ct.tag wk HPk.out.laidNow HPk.out.keysNow HRk.out (by rw [hx6.1]; exact HFF.out.1) (by rw [hx6.2]; exact HFF.out.2) (by simp only [tRec, hcta.out, if_true]; exact Nat.zero_le _) (by simp only [tRec, hcta.out, if_true]) hct8.out
              rw [HHO.out] at HFp
              have HFq := Lib.hid HFp
              clear HFp hx6
              go_simp
              refine HFq.out.mono ?_
              rintro e wl ⟨rfl, kk⟩
              have hSl : Kept (fun _ => False) wh wl := hSk.trans kk
              have HPl := Lib.hid (HPk.out.same kk)
              have XL := Lib.hid (hSl.row XY.out)
              have GL := Lib.hid (hSl.row GY.out)
              clear HFq kk HRk
              go_wp2_with fail
              refine hK.out _ _ hSl (fun hHeld => ?_)
              clear hK K
              try simp only [Act.put, List.setIfInBounds_toArray, List.set_cons_succ, List.set_cons_zero]
              refine wpAnyH_take (i := 32) (oi := ⟨some 121, _, _, _, _, _⟩) (v := .bool false) rfl (by kernel_rfl) (by kernel_rfl) (by kernel_rfl) (fun _ _ _ h => h) (Or.inl ⟨by kernel_rfl, fun w' hS => by go_simp⟩) (by assumption) ?_
              try simp only [Act.put, List.setIfInBounds_toArray, List.set_cons_succ, List.set_cons_zero]
              refine wpAnyH_take (i := 33) (oi := ⟨some 122, _, _, _, _, _⟩) (v := .bool false) rfl (by kernel_rfl) (by kernel_rfl) (by kernel_rfl) (fun _ _ _ h => h) (Or.inl ⟨by kernel_rfl, fun w' hS => by go_simp⟩) (by assumption) ?_
              try simp only [Act.put, List.setIfInBounds_toArray, List.set_cons_succ, List.set_cons_zero]
              refine wpAnyH_done (by kernel_rfl) ?_ _
              clear hHeld hSl hSk hSi hSy hvt
              rw [HCT.out] at XL
              go_wp2_with fail
              go_roundw
              case rel => exact ⟨j + 1, by omega, by go_num, svt, ep, t2, HPl.out, by have := HEP1.out.1; omega, by have := HEP1.out.2; omega, XL.out, GL.out⟩
              case measure => simp [intOf]; omega
            · refine AllReadyH.cons (o := ⟨some 13, _, _, _, _, _⟩) rfl (fun K hK => ?_) AllReadyH.nil
              have ka := (Kept.refl (fun _ => False) wd).alloc (.cells Z59 59)
              have zA := Lib.hid (heap_alloc_new wd (.cells Z59 59))
              have hSa : (wd.alloc (.cells Z59 59)).heap[w.heap.size + 1]? = some (.cells CT 59 (0, 0)) ∧ (wd.alloc (.cells Z59 59)).cell? ⟨b, o + j, none⟩ = some (.int .u8 z) := ⟨ka.row hSd.1, ka.keepC hSd.2⟩
              refine step_alloc59 (by kernel_rfl) ?_
              refine hK.out _ _ hSa (fun hHeld => ?_)
              clear hK K
              try simp only [Act.put, List.setIfInBounds_toArray, List.set_cons_succ, List.set_cons_zero]
              have HPa0 := Lib.hid (HPd.out.same ka)
              have GA0 := Lib.hid (ka.row GD.out)
              have HBA := Lib.hid (row_lt XD.out)
              generalize hwA : wd.alloc (.cells Z59 59) = wA0 at *
              generalize wd.heap.size = BA at *
              refine wpAnyH_ready (rs := [8]) (by kernel_rfl) (by simp) ?_
              refine AllReadyH.cons (o := ⟨some 86, _, _, _, _, _⟩) rfl (fun K hK => ?_) AllReadyH.nil
              go_simp
              refine (HFH.out wA0 HPa0.out).mono ?_
              rintro e wt ⟨rfl, svt, hpt, kt, hot⟩
              have HPt := Lib.hid hpt
              have hSt : wt.heap[w.heap.size + 1]? = some (.cells CT 59 (0, 0)) ∧ wt.cell? ⟨b, o + j, none⟩ = some (.int .u8 z) := ⟨kt.rowS (HPa0.out.other hSa.1 (by decide) (by decide)) hSa.1, HOLD.out wt hpt.kept⟩
              have GA := Lib.hid (kt.rowS (HPa0.out.other GA0.out (by decide) (by decide)) GA0.out)
              have zA' := Lib.hid (kt.rowS (HPa0.out.other zA.out (by decide) (by decide)) zA.out)
              clear zA
              have zA := zA'
              have HPa := HPt
              go_wp2_with fail
              refine hK.out _ _ hSt (fun hHeld => ?_)
              clear hK K
              try simp only [Act.put, List.setIfInBounds_toArray, List.set_cons_succ, List.set_cons_zero]
              refine wpAnyH_take (i := 9) (oi := ⟨some 77, _, _, _, _, _⟩) (v := .tuple #[.agg C2, .bool true]) rfl (by kernel_rfl) (by kernel_rfl) (by kernel_rfl) (fun _ _ _ h => h) (Or.inl ⟨by kernel_rfl, fun w' hS => by go_simp⟩) (by assumption) ?_
              try simp only [Act.put, List.setIfInBounds_toArray, List.set_cons_succ, List.set_cons_zero]
              refine wpAnyH_take (i := 10) (oi := ⟨some 87, _, _, _, _, _⟩) (v := .agg C2) rfl (by kernel_rfl) (by kernel_rfl) (by kernel_rfl) (fun _ _ _ h => h) (Or.inl ⟨by kernel_rfl, fun w' hS => by go_simp⟩) (by assumption) ?_
              try simp only [Act.put, List.setIfInBounds_toArray, List.set_cons_succ, List.set_cons_zero]
              refine wpAnyH_take (i := 11) (oi := ⟨some 88, _, _, _, _, _⟩) (v := .bool true) rfl (by kernel_rfl) (by kernel_rfl) (by kernel_rfl) (fun _ _ _ h => h) (Or.inl ⟨by kernel_rfl, fun w' hS => by go_simp⟩) (by assumption) ?_
              try simp only [Act.put, List.setIfInBounds_toArray, List.set_cons_succ, List.set_cons_zero]
              refine wpAnyH_ready (rs := [13]) (by kernel_rfl) (by simp) ?_
              refine AllReadyH.cons (o := ⟨none, _, _, _, _, _⟩) rfl (fun K hK => ?_) AllReadyH.nil
              have hzz := Lib.hid (show 0 + 41 ≤ Z59.size by rw [Z59_size]; decide)
              refine step_store59 (C := C2) (g := BA) (o := 0) (by kernel_rfl) rfl rfl hz2.out ho2.out zA.out hzz.out ?_
              intro wz gz kz
              rw [puts_all (Z59_size.trans hz2.out.symm)] at gz
              have YZ := Lib.hid gz
              have HPz := Lib.hid (HPa.out.next kz (fun i hi e => HPa.out.other zA.out (by decide) (by decide) (by have e' : i = BA := e; rw [← e']; exact hi)) (fun i hi e => by have e' : i = BA := e; have := HBA.out; omega))
              have GZ := Lib.hid (kz.rowS (by have := HBA.out; omega) GA.out)
              have XZ := Lib.hid (kz.rowS (by have := HBA.out; omega) hSt.1)
              have hSz : wz.heap[w.heap.size + 1]? = some (.cells CT 59 (0, 0)) ∧ wz.cell? ⟨b, o + j, none⟩ = some (.int .u8 z) := ⟨XZ.out, HOLD.out wz HPz.out.kept⟩
              clear gz kz HPa zA GA hzz
              refine hK.out _ _ hSz (fun hHeld => ?_)
              clear hK K
              try simp only [Act.put, List.setIfInBounds_toArray, List.set_cons_succ, List.set_cons_zero]
              refine wpAnyH_take (i := 14) (oi := ⟨some 14, _, _, _, _, _⟩) (v := .bool true) rfl (by kernel_rfl) (by kernel_rfl) (by kernel_rfl) (fun _ _ _ h => h) (Or.inl ⟨by kernel_rfl, fun w' hS => by go_simp⟩) (by assumption) ?_
              try simp only [Act.put, List.setIfInBounds_toArray, List.set_cons_succ, List.set_cons_zero]
              refine wpAnyH_done (by kernel_rfl) ?_ _
              clear hHeld hSz hwA
              go_upto_region 18 with (fail)
              have kd := (Kept.refl (fun _ => False) wz).drew
              have HPy := Lib.hid (HPz.out.same kd)
              have YY := Lib.hid (kd.row YZ.out)
              have GY := Lib.hid (kd.row GZ.out)
              have XY := Lib.hid (kd.row XZ.out)
              clear kd HPz YZ GZ XZ
              refine wp_region_held_drew (S := fun w' => Kept (fun _ => False) wz.drew w') (by kernel_rfl) (Kept.refl _ _) (fun hHeld => ?_)
              generalize wz.drew = wy at *
              have hSy : Kept (fun _ => False) wy wy := Kept.refl _ _
              have hvt : Hid (CT[2]? = some (.int .i64 t2)) := by show _ = _; rw [HCT.out]; simp [clC]
              refine wpAnyH_take (i := 0) (oi := ⟨some 89, _, _, _, _, _⟩) (v := .bool true) rfl (by kernel_rfl) (by kernel_rfl) (by kernel_rfl) (fun _ _ _ h => h) (Or.inl ⟨by kernel_rfl, fun w' hS => by go_simp⟩) (by assumption) ?_
              try simp only [Act.put, List.setIfInBounds_toArray, List.set_cons_succ, List.set_cons_zero]
              refine wpAnyH_take (i := 1) (oi := ⟨some 90, _, _, _, _, _⟩) (v := .bool false) rfl (by kernel_rfl) (by kernel_rfl) (by kernel_rfl) (fun _ _ _ h => h) (Or.inl ⟨by kernel_rfl, fun w' hS => by go_simp⟩) (by assumption) ?_
              try simp only [Act.put, List.setIfInBounds_toArray, List.set_cons_succ, List.set_cons_zero]
              refine wpAnyH_take (i := 2) (oi := ⟨some 91, _, _, _, _, _⟩) (v := .bool false) rfl (by kernel_rfl) (by kernel_rfl) (by kernel_rfl) (fun _ _ _ h => h) (Or.inl ⟨by kernel_rfl, fun w' hS => by go_simp⟩) (by assumption) ?_
              try simp only [Act.put, List.setIfInBounds_toArray, List.set_cons_succ, List.set_cons_zero]
              refine wpAnyH_take (i := 3) (oi := ⟨some 92, _, _, _, _, _⟩) (v := .pointer (some ⟨BA, 7, none⟩)) rfl (by kernel_rfl) (by kernel_rfl) (by kernel_rfl) (fun _ _ _ h => h) (Or.inl ⟨by kernel_rfl, fun w' hS => by go_simp⟩) (by assumption) ?_
              try simp only [Act.put, List.setIfInBounds_toArray, List.set_cons_succ, List.set_cons_zero]
              refine wpAnyH_take (i := 4) (oi := ⟨some 93, _, _, _, _, _⟩) (v := .bool true) rfl (by kernel_rfl) (by kernel_rfl) (by kernel_rfl) (fun _ _ _ h => h) (Or.inl ⟨by kernel_rfl, fun w' hS => by have c := row_cell (k := 7) (hS.row YY.out) (v := .bool true) (hv7.out); go_simp⟩) (by assumption) ?_
              try simp only [Act.put, List.setIfInBounds_toArray, List.set_cons_succ, List.set_cons_zero]
              refine wpAnyH_take (i := 5) (oi := ⟨some 94, _, _, _, _, _⟩) (v := .bool false) rfl (by kernel_rfl) (by kernel_rfl) (by kernel_rfl) (fun _ _ _ h => h) (Or.inl ⟨by kernel_rfl, fun w' hS => by go_simp⟩) (by assumption) ?_
              try simp only [Act.put, List.setIfInBounds_toArray, List.set_cons_succ, List.set_cons_zero]
              refine wpAnyH_take (i := 6) (oi := ⟨some 95, _, _, _, _, _⟩) (v := .bool false) rfl (by kernel_rfl) (by kernel_rfl) (by kernel_rfl) (fun _ _ _ h => h) (Or.inl ⟨by kernel_rfl, fun w' hS => by go_simp⟩) (by assumption) ?_
              try simp only [Act.put, List.setIfInBounds_toArray, List.set_cons_succ, List.set_cons_zero]
              refine wpAnyH_take (i := 7) (oi := ⟨some 96, _, _, _, _, _⟩) (v := .bool false) rfl (by kernel_rfl) (by kernel_rfl) (by kernel_rfl) (fun _ _ _ h => h) (Or.inl ⟨by kernel_rfl, fun w' hS => by go_simp⟩) (by assumption) ?_
              try simp only [Act.put, List.setIfInBounds_toArray, List.set_cons_succ, List.set_cons_zero]
              refine wpAnyH_take (i := 8) (oi := ⟨some 97, _, _, _, _, _⟩) (v := .pointer (some ⟨BA, 2, none⟩)) rfl (by kernel_rfl) (by kernel_rfl) (by kernel_rfl) (fun _ _ _ h => h) (Or.inl ⟨by kernel_rfl, fun w' hS => by go_simp⟩) (by assumption) ?_
              try simp only [Act.put, List.setIfInBounds_toArray, List.set_cons_succ, List.set_cons_zero]
              refine wpAnyH_take (i := 9) (oi := ⟨some 98, _, _, _, _, _⟩) (v := .int .i64 t2) rfl (by kernel_rfl) (by kernel_rfl) (by kernel_rfl) (fun _ _ _ h => h) (Or.inl ⟨by kernel_rfl, fun w' hS => by have c := row_cell (k := 2) (hS.row YY.out) (v := .int .i64 t2) (hv2.out); go_simp⟩) (by assumption) ?_
              try simp only [Act.put, List.setIfInBounds_toArray, List.set_cons_succ, List.set_cons_zero]
              refine wpAnyH_take (i := 10) (oi := ⟨some 99, _, _, _, _, _⟩) (v := .pointer (some ⟨w.heap.size + 1, 2, none⟩)) rfl (by kernel_rfl) (by kernel_rfl) (by kernel_rfl) (fun _ _ _ h => h) (Or.inl ⟨by kernel_rfl, fun w' hS => by go_simp⟩) (by assumption) ?_
              try simp only [Act.put, List.setIfInBounds_toArray, List.set_cons_succ, List.set_cons_zero]
              refine wpAnyH_take (i := 11) (oi := ⟨some 100, _, _, _, _, _⟩) (v := .int .i64 t2) rfl (by kernel_rfl) (by kernel_rfl) (by kernel_rfl) (fun _ _ _ h => h) (Or.inl ⟨by kernel_rfl, fun w' hS => by have c := row_cell (k := 2) (hS.row XY.out) (v := .int .i64 t2) (hvt.out); go_simp⟩) (by assumption) ?_
              try simp only [Act.put, List.setIfInBounds_toArray, List.set_cons_succ, List.set_cons_zero]
              refine wpAnyH_take (i := 12) (oi := ⟨some 101, _, _, _, _, _⟩) (v := .bool false) rfl (by kernel_rfl) (by kernel_rfl) (by kernel_rfl) (fun _ _ _ h => h) (Or.inl ⟨by kernel_rfl, fun w' hS => by go_simp⟩) (by assumption) ?_
              try simp only [Act.put, List.setIfInBounds_toArray, List.set_cons_succ, List.set_cons_zero]
              refine wpAnyH_take (i := 13) (oi := ⟨some 102, _, _, _, _, _⟩) (v := .bool false) rfl (by kernel_rfl) (by kernel_rfl) (by kernel_rfl) (fun _ _ _ h => h) (Or.inl ⟨by kernel_rfl, fun w' hS => by go_simp⟩) (by assumption) ?_
              try simp only [Act.put, List.setIfInBounds_toArray, List.set_cons_succ, List.set_cons_zero]
              refine wpAnyH_take (i := 14) (oi := ⟨some 103, _, _, _, _, _⟩) (v := .bool false) rfl (by kernel_rfl) (by kernel_rfl) (by kernel_rfl) (fun _ _ _ h => h) (Or.inl ⟨by kernel_rfl, fun w' hS => by go_simp⟩) (by assumption) ?_
              try simp only [Act.put, List.setIfInBounds_toArray, List.set_cons_succ, List.set_cons_zero]
              refine wpAnyH_take (i := 15) (oi := ⟨some 104, _, _, _, _, _⟩) (v := .pointer (some ⟨BA, 8, none⟩)) rfl (by kernel_rfl) (by kernel_rfl) (by kernel_rfl) (fun _ _ _ h => h) (Or.inl ⟨by kernel_rfl, fun w' hS => by go_simp⟩) (by assumption) ?_
              try simp only [Act.put, List.setIfInBounds_toArray, List.set_cons_succ, List.set_cons_zero]
              refine wpAnyH_take (i := 16) (oi := ⟨some 105, _, _, _, _, _⟩) (v := .int .i64 ep) rfl (by kernel_rfl) (by kernel_rfl) (by kernel_rfl) (fun _ _ _ h => h) (Or.inl ⟨by kernel_rfl, fun w' hS => by have c := row_cell (k := 8) (hS.row YY.out) (v := .int .i64 ep) (hv8.out); go_simp⟩) (by assumption) ?_
              try simp only [Act.put, List.setIfInBounds_toArray, List.set_cons_succ, List.set_cons_zero]
              refine wpAnyH_take (i := 17) (oi := ⟨some 106, _, _, _, _, _⟩) (v := .pointer (some ⟨g, 0, none⟩)) rfl (by kernel_rfl) (by kernel_rfl) (by kernel_rfl) (fun _ _ _ h => h) (Or.inl ⟨by kernel_rfl, fun w' hS => by go_simp⟩) (by assumption) ?_
              try simp only [Act.put, List.setIfInBounds_toArray, List.set_cons_succ, List.set_cons_zero]
              refine wpAnyH_ready (rs := [18]) (by kernel_rfl) (by simp) ?_
              refine AllReadyH.cons (o := ⟨some 107, _, _, _, _, _⟩) rfl (fun K hK => ?_) AllReadyH.nil
              have HFp := Lib.hid (f_pepoch w g r _ _ _ k n _ _ wy HPy.out)
              go_simp
              refine HFp.out.mono ?_
              rintro e wh ⟨rfl, rfl⟩
              clear HFp
              go_wp2_with fail
              refine hK.out _ _ hSy (fun hHeld => ?_)
              clear hK K
              try simp only [Act.put, List.setIfInBounds_toArray, List.set_cons_succ, List.set_cons_zero]
              refine wpAnyH_take (i := 19) (oi := ⟨some 108, _, _, _, _, _⟩) (v := .bool false) rfl (by kernel_rfl) (by kernel_rfl) (by kernel_rfl) (fun _ _ _ h => h) (Or.inl ⟨by kernel_rfl, fun w' hS => by go_simp⟩) (by assumption) ?_
              try simp only [Act.put, List.setIfInBounds_toArray, List.set_cons_succ, List.set_cons_zero]
              refine wpAnyH_take (i := 20) (oi := ⟨some 109, _, _, _, _, _⟩) (v := .bool false) rfl (by kernel_rfl) (by kernel_rfl) (by kernel_rfl) (fun _ _ _ h => h) (Or.inl ⟨by kernel_rfl, fun w' hS => by go_simp⟩) (by assumption) ?_
              try simp only [Act.put, List.setIfInBounds_toArray, List.set_cons_succ, List.set_cons_zero]
              refine wpAnyH_take (i := 21) (oi := ⟨some 110, _, _, _, _, _⟩) (v := .bool false) rfl (by kernel_rfl) (by kernel_rfl) (by kernel_rfl) (fun _ _ _ h => h) (Or.inl ⟨by kernel_rfl, fun w' hS => by go_simp⟩) (by assumption) ?_
              try simp only [Act.put, List.setIfInBounds_toArray, List.set_cons_succ, List.set_cons_zero]
              refine wpAnyH_take (i := 22) (oi := ⟨some 111, _, _, _, _, _⟩) (v := .pointer (some ⟨g, 0, none⟩)) rfl (by kernel_rfl) (by kernel_rfl) (by kernel_rfl) (fun _ _ _ h => h) (Or.inl ⟨by kernel_rfl, fun w' hS => by go_simp⟩) (by assumption) ?_
              try simp only [Act.put, List.setIfInBounds_toArray, List.set_cons_succ, List.set_cons_zero]
              refine wpAnyH_ready (rs := [23]) (by kernel_rfl) (by simp) ?_
              refine AllReadyH.cons (o := ⟨some 112, _, _, _, _, _⟩) rfl (fun K hK => ?_) AllReadyH.nil
              have HFp := Lib.hid (f_entries w g r _ _ _ k n _ _ wh HPy.out (by simp))
              go_simp
              refine HFp.out.mono ?_
              rintro e wi ⟨v, rfl, hb, ki⟩
              obtain ⟨ae2, ce2, rfl, _⟩ := hb.form
              have hSi : Kept (fun _ => False) wh wi := ki
              have HPi := Lib.hid (HPy.out.same ki)
              clear HFp hb ki
              simp only [List.length_cons, List.length_nil, Nat.zero_add]
              go_wp2_with fail
              refine hK.out _ _ hSi (fun hHeld => ?_)
              clear hK K
              try simp only [Act.put, List.setIfInBounds_toArray, List.set_cons_succ, List.set_cons_zero]
              refine wpAnyH_take (i := 24) (oi := ⟨some 113, _, _, _, _, _⟩) (v := .int .i64 1) rfl (by kernel_rfl) (by kernel_rfl) (by kernel_rfl) (fun _ _ _ h => h) (Or.inl ⟨by kernel_rfl, fun w' hS => by go_simp⟩) (by assumption) ?_
              try simp only [Act.put, List.setIfInBounds_toArray, List.set_cons_succ, List.set_cons_zero]
              refine wpAnyH_take (i := 25) (oi := ⟨some 114, _, _, _, _, _⟩) (v := .bool false) rfl (by kernel_rfl) (by kernel_rfl) (by kernel_rfl) (fun _ _ _ h => h) (Or.inl ⟨by kernel_rfl, fun w' hS => by go_simp⟩) (by assumption) ?_
              try simp only [Act.put, List.setIfInBounds_toArray, List.set_cons_succ, List.set_cons_zero]
              refine wpAnyH_take (i := 26) (oi := ⟨some 115, _, _, _, _, _⟩) (v := .bool false) rfl (by kernel_rfl) (by kernel_rfl) (by kernel_rfl) (fun _ _ _ h => h) (Or.inl ⟨by kernel_rfl, fun w' hS => by go_simp⟩) (by assumption) ?_
              try simp only [Act.put, List.setIfInBounds_toArray, List.set_cons_succ, List.set_cons_zero]
              refine wpAnyH_take (i := 27) (oi := ⟨some 116, _, _, _, _, _⟩) (v := .bool false) rfl (by kernel_rfl) (by kernel_rfl) (by kernel_rfl) (fun _ _ _ h => h) (Or.inl ⟨by kernel_rfl, fun w' hS => by go_simp⟩) (by assumption) ?_
              try simp only [Act.put, List.setIfInBounds_toArray, List.set_cons_succ, List.set_cons_zero]
              refine wpAnyH_take (i := 28) (oi := ⟨some 117, _, _, _, _, _⟩) (v := .agg #[.slice pa k.parts.length pc, .slice wa k.wits.length wcp, .int .i64 k.need]) rfl (by kernel_rfl) (by kernel_rfl) (by kernel_rfl) (fun _ _ _ h => h) (Or.inl ⟨by kernel_rfl, fun w' hS => by have c0 := row_cell (k := 0) (hS.row GY.out) (v := .slice pa k.parts.length pc) (rfl); have c1 := row_cell (k := 1) (hS.row GY.out) (v := .slice wa k.wits.length wcp) (rfl); have c2 := row_cell (k := 2) (hS.row GY.out) (v := .int .i64 k.need) (rfl); go_simp⟩) (by assumption) ?_
              try simp only [Act.put, List.setIfInBounds_toArray, List.set_cons_succ, List.set_cons_zero]
              refine wpAnyH_take (i := 29) (oi := ⟨some 118, _, _, _, _, _⟩) (v := .agg C2) rfl (by kernel_rfl) (by kernel_rfl) (by kernel_rfl) (fun _ _ _ h => h) (yields59 (C := C2) (g := BA) (o := 0) (by kernel_rfl) rfl (fun w' hS => range_row (hS.row YY.out)) hz2.out) (by assumption) ?_
              try simp only [Act.put, List.setIfInBounds_toArray, List.set_cons_succ, List.set_cons_zero]
              refine wpAnyH_ready (rs := [30]) (by kernel_rfl) (by simp) ?_
              refine AllReadyH.cons (o := ⟨some 119, _, _, _, _, _⟩) rfl (fun K hK => ?_) AllReadyH.nil
              have HFp := f_preceipt ct 1 wi hctl.out
              rw [← HC2.out] at HFp
              have HFq := Lib.hid HFp
              clear HFp
              go_simp
              refine HFq.out.mono ?_
              rintro e wk ⟨rfl, kk⟩
              have hSk : Kept (fun _ => False) wh wk := hSi.trans kk
              have HPk := Lib.hid (HPi.out.same kk)
              have HRk := Lib.hid (recC_in wk hctl.out 1)
              generalize recC ct 1 = CR at *
              clear HFq kk
              go_wp2_with fail
              refine hK.out _ _ hSk (fun hHeld => ?_)
              clear hK K
              try simp only [Act.put, List.setIfInBounds_toArray, List.set_cons_succ, List.set_cons_zero]
              refine wpAnyH_ready (rs := [31]) (by kernel_rfl) (by simp) ?_
              refine AllReadyH.cons (o := ⟨some 120, _, _, _, _, _⟩) rfl (fun K hK => ?_) AllReadyH.nil
              have hx6 : (tRec ct 1).saga = c.saga ∧ (tRec ct 1).step = c.step := by simp only [tRec, hcta.out, if_true]; exact hcts.out
              have HFp := f_holds (.slice pa k.parts.length pc) (.slice wa k.wits.length wcp) k CR (tRec ct 1) ct.tag wk HPk.out.laidNow HPk.out.keysNow HRk.out (by rw [hx6.1]; exact HFF.out.1) (by rw [hx6.2]; exact HFF.out.2) (by simp only [tRec, hcta.out, if_true]; exact Nat.zero_le _) (by simp only [tRec, hcta.out, if_true]) hct8.out
              rw [HHO.out] at HFp
              have HFq := Lib.hid HFp
              clear HFp hx6
              go_simp
              refine HFq.out.mono ?_
              rintro e wl ⟨rfl, kk⟩
              have hSl : Kept (fun _ => False) wh wl := hSk.trans kk
              have HPl := Lib.hid (HPk.out.same kk)
              have XL := Lib.hid (hSl.row XY.out)
              have GL := Lib.hid (hSl.row GY.out)
              clear HFq kk HRk
              go_wp2_with fail
              refine hK.out _ _ hSl (fun hHeld => ?_)
              clear hK K
              try simp only [Act.put, List.setIfInBounds_toArray, List.set_cons_succ, List.set_cons_zero]
              refine wpAnyH_take (i := 32) (oi := ⟨some 121, _, _, _, _, _⟩) (v := .bool false) rfl (by kernel_rfl) (by kernel_rfl) (by kernel_rfl) (fun _ _ _ h => h) (Or.inl ⟨by kernel_rfl, fun w' hS => by go_simp⟩) (by assumption) ?_
              try simp only [Act.put, List.setIfInBounds_toArray, List.set_cons_succ, List.set_cons_zero]
              refine wpAnyH_take (i := 33) (oi := ⟨some 122, _, _, _, _, _⟩) (v := .bool false) rfl (by kernel_rfl) (by kernel_rfl) (by kernel_rfl) (fun _ _ _ h => h) (Or.inl ⟨by kernel_rfl, fun w' hS => by go_simp⟩) (by assumption) ?_
              try simp only [Act.put, List.setIfInBounds_toArray, List.set_cons_succ, List.set_cons_zero]
              refine wpAnyH_done (by kernel_rfl) ?_ _
              clear hHeld hSl hSk hSi hSy hvt
              rw [HCT.out] at XL
              go_wp2_with fail
              go_roundw
              case rel => exact ⟨j + 1, by omega, by go_num, svt, ep, t2, HPl.out, by have := HEP1.out.1; omega, by have := HEP1.out.2; omega, XL.out, GL.out⟩
              case measure => simp [intOf]; omega
          case true =>
            have hBAlo : Hid (w.heap.size + 1 < wr.heap.size) := row_lt XR.out
            have HEP1 : Hid (0 ≤ ep + 1 ∧ ep + 1 ≤ j + 1) := ⟨by have := HEP.out.1; omega, by have := HEP.out.2; omega⟩
            have h400 : ep < 400 := by have := HEP.out.2; omega
            have HFr := f_prot w g r (.slice pa k.parts.length pc) (.slice wa k.wits.length wcp) sv k n ep [⟨c.saga, c.step, c.back, true⟩] wr HPr.out HEP.out.1
            rw [if_pos h400, decide_eq_true h400] at HFr
            have HFrH := Lib.hid HFr
            clear HFr h400
            go_wp2_with fail
            refine HFrH.out.mono ?_
            rintro e wq ⟨rfl, hpq, kq⟩
            have HPq := Lib.hid hpq
            have XQ := Lib.hid (kq.rowS (by intro e; exact HPr.out.other XR.out (by decide) (by decide) (.inl e)) XR.out)
            have GQ := Lib.hid (kq.rowS (by intro e; exact HPr.out.other GR.out (by decide) (by decide) (.inl e)) GR.out)
            clear e1 hpq kq HFrH
            go_upto_region 16 with (fail)
            have e1 := HOLD.out wq HPq.out.kept
            have x2 := row_cell (k := 2) XQ.out (v := .int .i64 t) (by simp [clC])
            have f2 := free_of_block (j := 2) XQ.out
            go_upto_region 17 with (fail)
            have ks := (Kept.refl (fun i => i = w.heap.size + 1) wq).setCell (p := ⟨w.heap.size + 1, 2, none⟩) (.inl rfl) (.int .i64 (1 + z % 9))
            have HPs := Lib.hid (HPq.out.next ks (fun i hi e => HPq.out.other XQ.out (by decide) (by decide) (by have e' : i = w.heap.size + 1 := e; rw [← e']; exact hi)) (fun i _ e => by have e' : i = w.heap.size + 1 := e; omega))
            have XS : Hid ((wq.setCell ⟨w.heap.size + 1, 2, none⟩ (.int .i64 (1 + z % 9))).heap[w.heap.size + 1]? = some (.cells (clC { c with try_ := 1 + z % 9 }) 59 (0, 0))) := by
              have h := setCell_block (k := 2) XQ.out (.int .i64 (1 + z % 9))
              rw [clC_try] at h
              exact h
            have GS := Lib.hid (ks.rowS (by omega) GQ.out)
            clear e1 x2 f2 ks
            generalize wq.setCell ⟨w.heap.size + 1, 2, none⟩ (.int .i64 (1 + z % 9)) = ws at *
            obtain ⟨t2, ht2⟩ : ∃ t2, t2 = 1 + z % 9 := ⟨_, rfl⟩
            have hb2 : 1 ≤ t2 ∧ t2 ≤ 9 := by omega
            rw [← ht2] at XS ⊢
            have HB2 := Lib.hid hb2
            have hm2 : IntKind.u8.wrap (z.tmod 2) = z % 2 := by
              rw [Int.tmod_eq_emod_of_nonneg hz0]
              exact IntWalk.u8_in _ (by omega)
            obtain ⟨b2, hbb⟩ : ∃ b2, (z % 2 == 0) = b2 := ⟨_, rfl⟩
            have HF := fun (wq : World) (hp : Pa w wq g r (.slice pa k.parts.length pc) (.slice wa k.wits.length wcp) sv k n (ep + 1) [⟨c.saga, c.step, c.back, true⟩]) => f_take w g r (.slice pa k.parts.length pc) (.slice wa k.wits.length wcp) sv k n (ep + 1) [⟨c.saga, c.step, c.back, true⟩] { c with try_ := t2 } b2 wq hp HC.out.tagl (by simp)
            unfold takeV at HF
            rw [take_again k b2 HI.out hb2.1 hb2.2] at HF
            dsimp only at HF
            obtain ⟨ct, hct⟩ : ∃ ct, ct = tagged k (outC { c with try_ := t2 } true (ep + 1)) := ⟨_, rfl⟩
            rw [← hct] at HF
            obtain ⟨CT, hCT⟩ : ∃ CT, CT = clC { c with try_ := t2 } := ⟨_, rfl⟩
            obtain ⟨C2, hC2⟩ : ∃ C2, C2 = clC ct := ⟨_, rfl⟩
            rw [← hCT, ← hC2] at HF
            have hzt : Hid (CT.size = 41) := by show _ = _; rw [hCT]; exact clC_size HC.out.tagl
            have hctl : Hid (ct.tag.length = 32) := by show _ = _; rw [hct]; exact tagged_len _ _
            have hz2 : Hid (C2.size = 41) := by show _ = _; rw [hC2]; exact clC_size hctl.out
            have ho2 : Hid (C2.all (·.oneCell') = true) := by show _ = _; rw [hC2]; exact clC_one _
            have hv2 : Hid (C2[2]? = some (.int .i64 t2)) := by show _ = _; rw [hC2, hct]; simp [clC, tagged, outC]
            have hv7 : Hid (C2[7]? = some (.bool true)) := by show _ = _; rw [hC2, hct]; simp [clC, tagged, outC]
            have hv8 : Hid (C2[8]? = some (.int .i64 ((ep + 1)))) := by show _ = _; rw [hC2, hct]; simp [clC, tagged, outC]
            have hcta : Hid (ct.answer = true) := by show _ = _; rw [hct]; rfl
            have hct8 : Hid (All8 ct.tag) := by show All8 _; rw [hct]; exact kRec_all k _
            have hcts : Hid (ct.saga = c.saga ∧ ct.step = c.step) := by show _ ∧ _; rw [hct]; exact ⟨rfl, rfl⟩
            have HHO : Hid (kHolds k (tRec ct 1) ct.tag = true) := by show _ = _; rw [hct]; exact holds_out (its_try HI.out hb2.1 hb2.2) (known_ep HKN.out (by have := HEP1.out.1; omega) (by have := HEP1.out.2; omega)) (by decide) (by decide)
            have HCT := Lib.hid hCT
            have HC2 := Lib.hid hC2
            have HFH := Lib.hid HF
            have HFF := Lib.hid (its_fit HI.out)
            clear hb2 HF hct hCT hC2
            have kd := (Kept.refl (fun _ => False) ws).drew
            have HPd := Lib.hid (HPs.out.same kd)
            have XD := Lib.hid (kd.row XS.out)
            have GD := Lib.hid (kd.row GS.out)
            have e2 := HOLD.out _ HPd.out.kept
            rw [← HCT.out] at XD
            have hSd : ws.drew.heap[w.heap.size + 1]? = some (.cells CT 59 (0, 0)) ∧ ws.drew.cell? ⟨b, o + j, none⟩ = some (.int .u8 z) := ⟨XD.out, e2⟩
            refine wp_region_held_drew (S := fun w' => w'.heap[w.heap.size + 1]? = some (.cells CT 59 (0, 0)) ∧ w'.cell? ⟨b, o + j, none⟩ = some (.int .u8 z)) (by kernel_rfl) hSd (fun hHeld => ?_)
            clear kd e2 HPs XS GS
            generalize ws.drew = wd at *
            refine wpAnyH_take (i := 0) (oi := ⟨some 78, _, _, _, _, _⟩) (v := .pointer (some ⟨g, 0, none⟩)) rfl (by kernel_rfl) (by kernel_rfl) (by kernel_rfl) (fun _ _ _ h => h) (Or.inl ⟨by kernel_rfl, fun w' hS => by go_simp⟩) (by assumption) ?_
            try simp only [Act.put, List.setIfInBounds_toArray, List.set_cons_succ, List.set_cons_zero]
            refine wpAnyH_take (i := 1) (oi := ⟨some 79, _, _, _, _, _⟩) (v := .agg CT) rfl (by kernel_rfl) (by kernel_rfl) (by kernel_rfl) (fun _ _ _ h => h) (yields59 (C := CT) (g := w.heap.size + 1) (o := 0) (by kernel_rfl) rfl (fun w' hS => range_row hS.1) hzt.out) (by assumption) ?_
            try simp only [Act.put, List.setIfInBounds_toArray, List.set_cons_succ, List.set_cons_zero]
            refine wpAnyH_take (i := 2) (oi := ⟨some 80, _, _, _, _, _⟩) (v := .slice (some ⟨b, o, none⟩) zs.length lc) rfl (by kernel_rfl) (by kernel_rfl) (by kernel_rfl) (fun _ _ _ h => h) (Or.inl ⟨by kernel_rfl, fun w' hS => by go_simp⟩) (by assumption) ?_
            try simp only [Act.put, List.setIfInBounds_toArray, List.set_cons_succ, List.set_cons_zero]
            refine wpAnyH_take (i := 3) (oi := ⟨some 81, _, _, _, _, _⟩) (v := .int .i64 j) rfl (by kernel_rfl) (by kernel_rfl) (by kernel_rfl) (fun _ _ _ h => h) (Or.inl ⟨by kernel_rfl, fun w' hS => by go_simp⟩) (by assumption) ?_
            try simp only [Act.put, List.setIfInBounds_toArray, List.set_cons_succ, List.set_cons_zero]
            refine wpAnyH_take (i := 4) (oi := ⟨some 82, _, _, _, _, _⟩) (v := .pointer (some ⟨b, o + j, none⟩)) rfl (by kernel_rfl) (by kernel_rfl) (by kernel_rfl) (fun _ _ _ h => h) (Or.inl ⟨by kernel_rfl, fun w' hS => by go_simp⟩) (by assumption) ?_
            try simp only [Act.put, List.setIfInBounds_toArray, List.set_cons_succ, List.set_cons_zero]
            refine wpAnyH_take (i := 5) (oi := ⟨some 83, _, _, _, _, _⟩) (v := .int .u8 z) rfl (by kernel_rfl) (by kernel_rfl) (by kernel_rfl) (fun _ _ _ h => h) (Or.inl ⟨by kernel_rfl, fun w' hS => by have c := hS.2; go_simp⟩) (by assumption) ?_
            try simp only [Act.put, List.setIfInBounds_toArray, List.set_cons_succ, List.set_cons_zero]
            refine wpAnyH_take (i := 6) (oi := ⟨some 84, _, _, _, _, _⟩) (v := .int .u8 (z % 2)) rfl (by kernel_rfl) (by kernel_rfl) (by kernel_rfl) (fun _ _ _ h => h) (Or.inl ⟨by kernel_rfl, fun w' hS => by have t0 := Int.tmod_eq_emod_of_nonneg (b := 2) hz0; go_simp⟩) (by assumption) ?_
            try simp only [Act.put, List.setIfInBounds_toArray, List.set_cons_succ, List.set_cons_zero]
            refine wpAnyH_take (i := 7) (oi := ⟨some 85, _, _, _, _, _⟩) (v := .bool b2) rfl (by kernel_rfl) (by kernel_rfl) (by kernel_rfl) (fun _ _ _ h => h) (Or.inl ⟨by kernel_rfl, fun w' hS => by have t0 := hbb; go_simp⟩) (by assumption) ?_
            try simp only [Act.put, List.setIfInBounds_toArray, List.set_cons_succ, List.set_cons_zero]
            refine wpAnyH_ready (rs := [8, 12]) (by kernel_rfl) (by simp) ?_
            refine AllReadyH.cons (o := ⟨some 86, _, _, _, _, _⟩) rfl (fun K hK => ?_) ?_
            · skip
              go_simp
              refine (HFH.out wd HPd.out).mono ?_
              rintro e wt ⟨rfl, svt, hpt, kt, hot⟩
              have HPt := Lib.hid hpt
              have hSt : wt.heap[w.heap.size + 1]? = some (.cells CT 59 (0, 0)) ∧ wt.cell? ⟨b, o + j, none⟩ = some (.int .u8 z) := ⟨kt.rowS (HPd.out.other hSd.1 (by decide) (by decide)) hSd.1, HOLD.out wt hpt.kept⟩
              have GT := Lib.hid (kt.rowS (HPd.out.other GD.out (by decide) (by decide)) GD.out)
              go_wp2_with fail
              refine hK.out _ _ hSt (fun hHeld => ?_)
              clear hK K
              try simp only [Act.put, List.setIfInBounds_toArray, List.set_cons_succ, List.set_cons_zero]
              refine wpAnyH_take (i := 9) (oi := ⟨some 77, _, _, _, _, _⟩) (v := .tuple #[.agg C2, .bool true]) rfl (by kernel_rfl) (by kernel_rfl) (by kernel_rfl) (fun _ _ _ h => h) (Or.inl ⟨by kernel_rfl, fun w' hS => by go_simp⟩) (by assumption) ?_
              try simp only [Act.put, List.setIfInBounds_toArray, List.set_cons_succ, List.set_cons_zero]
              refine wpAnyH_take (i := 10) (oi := ⟨some 87, _, _, _, _, _⟩) (v := .agg C2) rfl (by kernel_rfl) (by kernel_rfl) (by kernel_rfl) (fun _ _ _ h => h) (Or.inl ⟨by kernel_rfl, fun w' hS => by go_simp⟩) (by assumption) ?_
              try simp only [Act.put, List.setIfInBounds_toArray, List.set_cons_succ, List.set_cons_zero]
              refine wpAnyH_take (i := 11) (oi := ⟨some 88, _, _, _, _, _⟩) (v := .bool true) rfl (by kernel_rfl) (by kernel_rfl) (by kernel_rfl) (fun _ _ _ h => h) (Or.inl ⟨by kernel_rfl, fun w' hS => by go_simp⟩) (by assumption) ?_
              try simp only [Act.put, List.setIfInBounds_toArray, List.set_cons_succ, List.set_cons_zero]
              refine wpAnyH_ready (rs := [12]) (by kernel_rfl) (by simp) ?_
              refine AllReadyH.cons (o := ⟨some 13, _, _, _, _, _⟩) rfl (fun K hK => ?_) AllReadyH.nil
              have ka := (Kept.refl (fun _ => False) wt).alloc (.cells Z59 59)
              have zA := Lib.hid (heap_alloc_new wt (.cells Z59 59))
              have hSa : (wt.alloc (.cells Z59 59)).heap[w.heap.size + 1]? = some (.cells CT 59 (0, 0)) ∧ (wt.alloc (.cells Z59 59)).cell? ⟨b, o + j, none⟩ = some (.int .u8 z) := ⟨ka.row hSt.1, ka.keepC hSt.2⟩
              refine step_alloc59 (by kernel_rfl) ?_
              refine hK.out _ _ hSa (fun hHeld => ?_)
              clear hK K
              try simp only [Act.put, List.setIfInBounds_toArray, List.set_cons_succ, List.set_cons_zero]
              refine wpAnyH_ready (rs := [13]) (by kernel_rfl) (by simp) ?_
              refine AllReadyH.cons (o := ⟨none, _, _, _, _, _⟩) rfl (fun K hK => ?_) AllReadyH.nil
              have GA := Lib.hid (ka.row GT.out)
              have HPa := Lib.hid (HPt.out.same ka)
              have HBA := Lib.hid (row_lt hSt.1)
              generalize hwA : wt.alloc (.cells Z59 59) = wA at *
              generalize wt.heap.size = BA at *
              have hzz := Lib.hid (show 0 + 41 ≤ Z59.size by rw [Z59_size]; decide)
              refine step_store59 (C := C2) (g := BA) (o := 0) (by kernel_rfl) rfl rfl hz2.out ho2.out zA.out hzz.out ?_
              intro wz gz kz
              rw [puts_all (Z59_size.trans hz2.out.symm)] at gz
              have YZ := Lib.hid gz
              have HPz := Lib.hid (HPa.out.next kz (fun i hi e => HPa.out.other zA.out (by decide) (by decide) (by have e' : i = BA := e; rw [← e']; exact hi)) (fun i hi e => by have e' : i = BA := e; have := HBA.out; omega))
              have GZ := Lib.hid (kz.rowS (by have := HBA.out; omega) GA.out)
              have XZ := Lib.hid (kz.rowS (by have := HBA.out; omega) hSa.1)
              have hSz : wz.heap[w.heap.size + 1]? = some (.cells CT 59 (0, 0)) ∧ wz.cell? ⟨b, o + j, none⟩ = some (.int .u8 z) := ⟨XZ.out, HOLD.out wz HPz.out.kept⟩
              clear gz kz HPa zA GA hzz
              refine hK.out _ _ hSz (fun hHeld => ?_)
              clear hK K
              try simp only [Act.put, List.setIfInBounds_toArray, List.set_cons_succ, List.set_cons_zero]
              refine wpAnyH_take (i := 14) (oi := ⟨some 14, _, _, _, _, _⟩) (v := .bool true) rfl (by kernel_rfl) (by kernel_rfl) (by kernel_rfl) (fun _ _ _ h => h) (Or.inl ⟨by kernel_rfl, fun w' hS => by go_simp⟩) (by assumption) ?_
              try simp only [Act.put, List.setIfInBounds_toArray, List.set_cons_succ, List.set_cons_zero]
              refine wpAnyH_done (by kernel_rfl) ?_ _
              clear hHeld hSz hwA
              go_upto_region 18 with (fail)
              have kd := (Kept.refl (fun _ => False) wz).drew
              have HPy := Lib.hid (HPz.out.same kd)
              have YY := Lib.hid (kd.row YZ.out)
              have GY := Lib.hid (kd.row GZ.out)
              have XY := Lib.hid (kd.row XZ.out)
              clear kd HPz YZ GZ XZ
              refine wp_region_held_drew (S := fun w' => Kept (fun _ => False) wz.drew w') (by kernel_rfl) (Kept.refl _ _) (fun hHeld => ?_)
              generalize wz.drew = wy at *
              have hSy : Kept (fun _ => False) wy wy := Kept.refl _ _
              have hvt : Hid (CT[2]? = some (.int .i64 t2)) := by show _ = _; rw [HCT.out]; simp [clC]
              refine wpAnyH_take (i := 0) (oi := ⟨some 89, _, _, _, _, _⟩) (v := .bool true) rfl (by kernel_rfl) (by kernel_rfl) (by kernel_rfl) (fun _ _ _ h => h) (Or.inl ⟨by kernel_rfl, fun w' hS => by go_simp⟩) (by assumption) ?_
              try simp only [Act.put, List.setIfInBounds_toArray, List.set_cons_succ, List.set_cons_zero]
              refine wpAnyH_take (i := 1) (oi := ⟨some 90, _, _, _, _, _⟩) (v := .bool false) rfl (by kernel_rfl) (by kernel_rfl) (by kernel_rfl) (fun _ _ _ h => h) (Or.inl ⟨by kernel_rfl, fun w' hS => by go_simp⟩) (by assumption) ?_
              try simp only [Act.put, List.setIfInBounds_toArray, List.set_cons_succ, List.set_cons_zero]
              refine wpAnyH_take (i := 2) (oi := ⟨some 91, _, _, _, _, _⟩) (v := .bool false) rfl (by kernel_rfl) (by kernel_rfl) (by kernel_rfl) (fun _ _ _ h => h) (Or.inl ⟨by kernel_rfl, fun w' hS => by go_simp⟩) (by assumption) ?_
              try simp only [Act.put, List.setIfInBounds_toArray, List.set_cons_succ, List.set_cons_zero]
              refine wpAnyH_take (i := 3) (oi := ⟨some 92, _, _, _, _, _⟩) (v := .pointer (some ⟨BA, 7, none⟩)) rfl (by kernel_rfl) (by kernel_rfl) (by kernel_rfl) (fun _ _ _ h => h) (Or.inl ⟨by kernel_rfl, fun w' hS => by go_simp⟩) (by assumption) ?_
              try simp only [Act.put, List.setIfInBounds_toArray, List.set_cons_succ, List.set_cons_zero]
              refine wpAnyH_take (i := 4) (oi := ⟨some 93, _, _, _, _, _⟩) (v := .bool true) rfl (by kernel_rfl) (by kernel_rfl) (by kernel_rfl) (fun _ _ _ h => h) (Or.inl ⟨by kernel_rfl, fun w' hS => by have c := row_cell (k := 7) (hS.row YY.out) (v := .bool true) (hv7.out); go_simp⟩) (by assumption) ?_
              try simp only [Act.put, List.setIfInBounds_toArray, List.set_cons_succ, List.set_cons_zero]
              refine wpAnyH_take (i := 5) (oi := ⟨some 94, _, _, _, _, _⟩) (v := .bool false) rfl (by kernel_rfl) (by kernel_rfl) (by kernel_rfl) (fun _ _ _ h => h) (Or.inl ⟨by kernel_rfl, fun w' hS => by go_simp⟩) (by assumption) ?_
              try simp only [Act.put, List.setIfInBounds_toArray, List.set_cons_succ, List.set_cons_zero]
              refine wpAnyH_take (i := 6) (oi := ⟨some 95, _, _, _, _, _⟩) (v := .bool false) rfl (by kernel_rfl) (by kernel_rfl) (by kernel_rfl) (fun _ _ _ h => h) (Or.inl ⟨by kernel_rfl, fun w' hS => by go_simp⟩) (by assumption) ?_
              try simp only [Act.put, List.setIfInBounds_toArray, List.set_cons_succ, List.set_cons_zero]
              refine wpAnyH_take (i := 7) (oi := ⟨some 96, _, _, _, _, _⟩) (v := .bool false) rfl (by kernel_rfl) (by kernel_rfl) (by kernel_rfl) (fun _ _ _ h => h) (Or.inl ⟨by kernel_rfl, fun w' hS => by go_simp⟩) (by assumption) ?_
              try simp only [Act.put, List.setIfInBounds_toArray, List.set_cons_succ, List.set_cons_zero]
              refine wpAnyH_take (i := 8) (oi := ⟨some 97, _, _, _, _, _⟩) (v := .pointer (some ⟨BA, 2, none⟩)) rfl (by kernel_rfl) (by kernel_rfl) (by kernel_rfl) (fun _ _ _ h => h) (Or.inl ⟨by kernel_rfl, fun w' hS => by go_simp⟩) (by assumption) ?_
              try simp only [Act.put, List.setIfInBounds_toArray, List.set_cons_succ, List.set_cons_zero]
              refine wpAnyH_take (i := 9) (oi := ⟨some 98, _, _, _, _, _⟩) (v := .int .i64 t2) rfl (by kernel_rfl) (by kernel_rfl) (by kernel_rfl) (fun _ _ _ h => h) (Or.inl ⟨by kernel_rfl, fun w' hS => by have c := row_cell (k := 2) (hS.row YY.out) (v := .int .i64 t2) (hv2.out); go_simp⟩) (by assumption) ?_
              try simp only [Act.put, List.setIfInBounds_toArray, List.set_cons_succ, List.set_cons_zero]
              refine wpAnyH_take (i := 10) (oi := ⟨some 99, _, _, _, _, _⟩) (v := .pointer (some ⟨w.heap.size + 1, 2, none⟩)) rfl (by kernel_rfl) (by kernel_rfl) (by kernel_rfl) (fun _ _ _ h => h) (Or.inl ⟨by kernel_rfl, fun w' hS => by go_simp⟩) (by assumption) ?_
              try simp only [Act.put, List.setIfInBounds_toArray, List.set_cons_succ, List.set_cons_zero]
              refine wpAnyH_take (i := 11) (oi := ⟨some 100, _, _, _, _, _⟩) (v := .int .i64 t2) rfl (by kernel_rfl) (by kernel_rfl) (by kernel_rfl) (fun _ _ _ h => h) (Or.inl ⟨by kernel_rfl, fun w' hS => by have c := row_cell (k := 2) (hS.row XY.out) (v := .int .i64 t2) (hvt.out); go_simp⟩) (by assumption) ?_
              try simp only [Act.put, List.setIfInBounds_toArray, List.set_cons_succ, List.set_cons_zero]
              refine wpAnyH_take (i := 12) (oi := ⟨some 101, _, _, _, _, _⟩) (v := .bool false) rfl (by kernel_rfl) (by kernel_rfl) (by kernel_rfl) (fun _ _ _ h => h) (Or.inl ⟨by kernel_rfl, fun w' hS => by go_simp⟩) (by assumption) ?_
              try simp only [Act.put, List.setIfInBounds_toArray, List.set_cons_succ, List.set_cons_zero]
              refine wpAnyH_take (i := 13) (oi := ⟨some 102, _, _, _, _, _⟩) (v := .bool false) rfl (by kernel_rfl) (by kernel_rfl) (by kernel_rfl) (fun _ _ _ h => h) (Or.inl ⟨by kernel_rfl, fun w' hS => by go_simp⟩) (by assumption) ?_
              try simp only [Act.put, List.setIfInBounds_toArray, List.set_cons_succ, List.set_cons_zero]
              refine wpAnyH_take (i := 14) (oi := ⟨some 103, _, _, _, _, _⟩) (v := .bool false) rfl (by kernel_rfl) (by kernel_rfl) (by kernel_rfl) (fun _ _ _ h => h) (Or.inl ⟨by kernel_rfl, fun w' hS => by go_simp⟩) (by assumption) ?_
              try simp only [Act.put, List.setIfInBounds_toArray, List.set_cons_succ, List.set_cons_zero]
              refine wpAnyH_take (i := 15) (oi := ⟨some 104, _, _, _, _, _⟩) (v := .pointer (some ⟨BA, 8, none⟩)) rfl (by kernel_rfl) (by kernel_rfl) (by kernel_rfl) (fun _ _ _ h => h) (Or.inl ⟨by kernel_rfl, fun w' hS => by go_simp⟩) (by assumption) ?_
              try simp only [Act.put, List.setIfInBounds_toArray, List.set_cons_succ, List.set_cons_zero]
              refine wpAnyH_take (i := 16) (oi := ⟨some 105, _, _, _, _, _⟩) (v := .int .i64 (ep + 1)) rfl (by kernel_rfl) (by kernel_rfl) (by kernel_rfl) (fun _ _ _ h => h) (Or.inl ⟨by kernel_rfl, fun w' hS => by have c := row_cell (k := 8) (hS.row YY.out) (v := .int .i64 (ep + 1)) (hv8.out); go_simp⟩) (by assumption) ?_
              try simp only [Act.put, List.setIfInBounds_toArray, List.set_cons_succ, List.set_cons_zero]
              refine wpAnyH_take (i := 17) (oi := ⟨some 106, _, _, _, _, _⟩) (v := .pointer (some ⟨g, 0, none⟩)) rfl (by kernel_rfl) (by kernel_rfl) (by kernel_rfl) (fun _ _ _ h => h) (Or.inl ⟨by kernel_rfl, fun w' hS => by go_simp⟩) (by assumption) ?_
              try simp only [Act.put, List.setIfInBounds_toArray, List.set_cons_succ, List.set_cons_zero]
              refine wpAnyH_ready (rs := [18]) (by kernel_rfl) (by simp) ?_
              refine AllReadyH.cons (o := ⟨some 107, _, _, _, _, _⟩) rfl (fun K hK => ?_) AllReadyH.nil
              have HFp := Lib.hid (f_pepoch w g r _ _ _ k n _ _ wy HPy.out)
              go_simp
              refine HFp.out.mono ?_
              rintro e wh ⟨rfl, rfl⟩
              clear HFp
              go_wp2_with fail
              refine hK.out _ _ hSy (fun hHeld => ?_)
              clear hK K
              try simp only [Act.put, List.setIfInBounds_toArray, List.set_cons_succ, List.set_cons_zero]
              refine wpAnyH_take (i := 19) (oi := ⟨some 108, _, _, _, _, _⟩) (v := .bool false) rfl (by kernel_rfl) (by kernel_rfl) (by kernel_rfl) (fun _ _ _ h => h) (Or.inl ⟨by kernel_rfl, fun w' hS => by go_simp⟩) (by assumption) ?_
              try simp only [Act.put, List.setIfInBounds_toArray, List.set_cons_succ, List.set_cons_zero]
              refine wpAnyH_take (i := 20) (oi := ⟨some 109, _, _, _, _, _⟩) (v := .bool false) rfl (by kernel_rfl) (by kernel_rfl) (by kernel_rfl) (fun _ _ _ h => h) (Or.inl ⟨by kernel_rfl, fun w' hS => by go_simp⟩) (by assumption) ?_
              try simp only [Act.put, List.setIfInBounds_toArray, List.set_cons_succ, List.set_cons_zero]
              refine wpAnyH_take (i := 21) (oi := ⟨some 110, _, _, _, _, _⟩) (v := .bool false) rfl (by kernel_rfl) (by kernel_rfl) (by kernel_rfl) (fun _ _ _ h => h) (Or.inl ⟨by kernel_rfl, fun w' hS => by go_simp⟩) (by assumption) ?_
              try simp only [Act.put, List.setIfInBounds_toArray, List.set_cons_succ, List.set_cons_zero]
              refine wpAnyH_take (i := 22) (oi := ⟨some 111, _, _, _, _, _⟩) (v := .pointer (some ⟨g, 0, none⟩)) rfl (by kernel_rfl) (by kernel_rfl) (by kernel_rfl) (fun _ _ _ h => h) (Or.inl ⟨by kernel_rfl, fun w' hS => by go_simp⟩) (by assumption) ?_
              try simp only [Act.put, List.setIfInBounds_toArray, List.set_cons_succ, List.set_cons_zero]
              refine wpAnyH_ready (rs := [23]) (by kernel_rfl) (by simp) ?_
              refine AllReadyH.cons (o := ⟨some 112, _, _, _, _, _⟩) rfl (fun K hK => ?_) AllReadyH.nil
              have HFp := Lib.hid (f_entries w g r _ _ _ k n _ _ wh HPy.out (by simp))
              go_simp
              refine HFp.out.mono ?_
              rintro e wi ⟨v, rfl, hb, ki⟩
              obtain ⟨ae2, ce2, rfl, _⟩ := hb.form
              have hSi : Kept (fun _ => False) wh wi := ki
              have HPi := Lib.hid (HPy.out.same ki)
              clear HFp hb ki
              simp only [List.length_cons, List.length_nil, Nat.zero_add]
              go_wp2_with fail
              refine hK.out _ _ hSi (fun hHeld => ?_)
              clear hK K
              try simp only [Act.put, List.setIfInBounds_toArray, List.set_cons_succ, List.set_cons_zero]
              refine wpAnyH_take (i := 24) (oi := ⟨some 113, _, _, _, _, _⟩) (v := .int .i64 1) rfl (by kernel_rfl) (by kernel_rfl) (by kernel_rfl) (fun _ _ _ h => h) (Or.inl ⟨by kernel_rfl, fun w' hS => by go_simp⟩) (by assumption) ?_
              try simp only [Act.put, List.setIfInBounds_toArray, List.set_cons_succ, List.set_cons_zero]
              refine wpAnyH_take (i := 25) (oi := ⟨some 114, _, _, _, _, _⟩) (v := .bool false) rfl (by kernel_rfl) (by kernel_rfl) (by kernel_rfl) (fun _ _ _ h => h) (Or.inl ⟨by kernel_rfl, fun w' hS => by go_simp⟩) (by assumption) ?_
              try simp only [Act.put, List.setIfInBounds_toArray, List.set_cons_succ, List.set_cons_zero]
              refine wpAnyH_take (i := 26) (oi := ⟨some 115, _, _, _, _, _⟩) (v := .bool false) rfl (by kernel_rfl) (by kernel_rfl) (by kernel_rfl) (fun _ _ _ h => h) (Or.inl ⟨by kernel_rfl, fun w' hS => by go_simp⟩) (by assumption) ?_
              try simp only [Act.put, List.setIfInBounds_toArray, List.set_cons_succ, List.set_cons_zero]
              refine wpAnyH_take (i := 27) (oi := ⟨some 116, _, _, _, _, _⟩) (v := .bool false) rfl (by kernel_rfl) (by kernel_rfl) (by kernel_rfl) (fun _ _ _ h => h) (Or.inl ⟨by kernel_rfl, fun w' hS => by go_simp⟩) (by assumption) ?_
              try simp only [Act.put, List.setIfInBounds_toArray, List.set_cons_succ, List.set_cons_zero]
              refine wpAnyH_take (i := 28) (oi := ⟨some 117, _, _, _, _, _⟩) (v := .agg #[.slice pa k.parts.length pc, .slice wa k.wits.length wcp, .int .i64 k.need]) rfl (by kernel_rfl) (by kernel_rfl) (by kernel_rfl) (fun _ _ _ h => h) (Or.inl ⟨by kernel_rfl, fun w' hS => by have c0 := row_cell (k := 0) (hS.row GY.out) (v := .slice pa k.parts.length pc) (rfl); have c1 := row_cell (k := 1) (hS.row GY.out) (v := .slice wa k.wits.length wcp) (rfl); have c2 := row_cell (k := 2) (hS.row GY.out) (v := .int .i64 k.need) (rfl); go_simp⟩) (by assumption) ?_
              try simp only [Act.put, List.setIfInBounds_toArray, List.set_cons_succ, List.set_cons_zero]
              refine wpAnyH_take (i := 29) (oi := ⟨some 118, _, _, _, _, _⟩) (v := .agg C2) rfl (by kernel_rfl) (by kernel_rfl) (by kernel_rfl) (fun _ _ _ h => h) (yields59 (C := C2) (g := BA) (o := 0) (by kernel_rfl) rfl (fun w' hS => range_row (hS.row YY.out)) hz2.out) (by assumption) ?_
              try simp only [Act.put, List.setIfInBounds_toArray, List.set_cons_succ, List.set_cons_zero]
              refine wpAnyH_ready (rs := [30]) (by kernel_rfl) (by simp) ?_
              refine AllReadyH.cons (o := ⟨some 119, _, _, _, _, _⟩) rfl (fun K hK => ?_) AllReadyH.nil
              have HFp := f_preceipt ct 1 wi hctl.out
              rw [← HC2.out] at HFp
              have HFq := Lib.hid HFp
              clear HFp
              go_simp
              refine HFq.out.mono ?_
              rintro e wk ⟨rfl, kk⟩
              have hSk : Kept (fun _ => False) wh wk := hSi.trans kk
              have HPk := Lib.hid (HPi.out.same kk)
              have HRk := Lib.hid (recC_in wk hctl.out 1)
              generalize recC ct 1 = CR at *
              clear HFq kk
              go_wp2_with fail
              refine hK.out _ _ hSk (fun hHeld => ?_)
              clear hK K
              try simp only [Act.put, List.setIfInBounds_toArray, List.set_cons_succ, List.set_cons_zero]
              refine wpAnyH_ready (rs := [31]) (by kernel_rfl) (by simp) ?_
              refine AllReadyH.cons (o := ⟨some 120, _, _, _, _, _⟩) rfl (fun K hK => ?_) AllReadyH.nil
              have hx6 : (tRec ct 1).saga = c.saga ∧ (tRec ct 1).step = c.step := by simp only [tRec, hcta.out, if_true]; exact hcts.out
              have HFp := f_holds (.slice pa k.parts.length pc) (.slice wa k.wits.length wcp) k CR (tRec ct 1) ct.tag wk HPk.out.laidNow HPk.out.keysNow HRk.out (by rw [hx6.1]; exact HFF.out.1) (by rw [hx6.2]; exact HFF.out.2) (by simp only [tRec, hcta.out, if_true]; exact Nat.zero_le _) (by simp only [tRec, hcta.out, if_true]) hct8.out
              rw [HHO.out] at HFp
              have HFq := Lib.hid HFp
              clear HFp hx6
              go_simp
              refine HFq.out.mono ?_
              rintro e wl ⟨rfl, kk⟩
              have hSl : Kept (fun _ => False) wh wl := hSk.trans kk
              have HPl := Lib.hid (HPk.out.same kk)
              have XL := Lib.hid (hSl.row XY.out)
              have GL := Lib.hid (hSl.row GY.out)
              clear HFq kk HRk
              go_wp2_with fail
              refine hK.out _ _ hSl (fun hHeld => ?_)
              clear hK K
              try simp only [Act.put, List.setIfInBounds_toArray, List.set_cons_succ, List.set_cons_zero]
              refine wpAnyH_take (i := 32) (oi := ⟨some 121, _, _, _, _, _⟩) (v := .bool false) rfl (by kernel_rfl) (by kernel_rfl) (by kernel_rfl) (fun _ _ _ h => h) (Or.inl ⟨by kernel_rfl, fun w' hS => by go_simp⟩) (by assumption) ?_
              try simp only [Act.put, List.setIfInBounds_toArray, List.set_cons_succ, List.set_cons_zero]
              refine wpAnyH_take (i := 33) (oi := ⟨some 122, _, _, _, _, _⟩) (v := .bool false) rfl (by kernel_rfl) (by kernel_rfl) (by kernel_rfl) (fun _ _ _ h => h) (Or.inl ⟨by kernel_rfl, fun w' hS => by go_simp⟩) (by assumption) ?_
              try simp only [Act.put, List.setIfInBounds_toArray, List.set_cons_succ, List.set_cons_zero]
              refine wpAnyH_done (by kernel_rfl) ?_ _
              clear hHeld hSl hSk hSi hSy hvt
              rw [HCT.out] at XL
              go_wp2_with fail
              go_roundw
              case rel => exact ⟨j + 1, by omega, by go_num, svt, (ep + 1), t2, HPl.out, by have := HEP1.out.1; omega, by have := HEP1.out.2; omega, XL.out, GL.out⟩
              case measure => simp [intOf]; omega
            · refine AllReadyH.cons (o := ⟨some 13, _, _, _, _, _⟩) rfl (fun K hK => ?_) AllReadyH.nil
              have ka := (Kept.refl (fun _ => False) wd).alloc (.cells Z59 59)
              have zA := Lib.hid (heap_alloc_new wd (.cells Z59 59))
              have hSa : (wd.alloc (.cells Z59 59)).heap[w.heap.size + 1]? = some (.cells CT 59 (0, 0)) ∧ (wd.alloc (.cells Z59 59)).cell? ⟨b, o + j, none⟩ = some (.int .u8 z) := ⟨ka.row hSd.1, ka.keepC hSd.2⟩
              refine step_alloc59 (by kernel_rfl) ?_
              refine hK.out _ _ hSa (fun hHeld => ?_)
              clear hK K
              try simp only [Act.put, List.setIfInBounds_toArray, List.set_cons_succ, List.set_cons_zero]
              have HPa0 := Lib.hid (HPd.out.same ka)
              have GA0 := Lib.hid (ka.row GD.out)
              have HBA := Lib.hid (row_lt XD.out)
              generalize hwA : wd.alloc (.cells Z59 59) = wA0 at *
              generalize wd.heap.size = BA at *
              refine wpAnyH_ready (rs := [8]) (by kernel_rfl) (by simp) ?_
              refine AllReadyH.cons (o := ⟨some 86, _, _, _, _, _⟩) rfl (fun K hK => ?_) AllReadyH.nil
              go_simp
              refine (HFH.out wA0 HPa0.out).mono ?_
              rintro e wt ⟨rfl, svt, hpt, kt, hot⟩
              have HPt := Lib.hid hpt
              have hSt : wt.heap[w.heap.size + 1]? = some (.cells CT 59 (0, 0)) ∧ wt.cell? ⟨b, o + j, none⟩ = some (.int .u8 z) := ⟨kt.rowS (HPa0.out.other hSa.1 (by decide) (by decide)) hSa.1, HOLD.out wt hpt.kept⟩
              have GA := Lib.hid (kt.rowS (HPa0.out.other GA0.out (by decide) (by decide)) GA0.out)
              have zA' := Lib.hid (kt.rowS (HPa0.out.other zA.out (by decide) (by decide)) zA.out)
              clear zA
              have zA := zA'
              have HPa := HPt
              go_wp2_with fail
              refine hK.out _ _ hSt (fun hHeld => ?_)
              clear hK K
              try simp only [Act.put, List.setIfInBounds_toArray, List.set_cons_succ, List.set_cons_zero]
              refine wpAnyH_take (i := 9) (oi := ⟨some 77, _, _, _, _, _⟩) (v := .tuple #[.agg C2, .bool true]) rfl (by kernel_rfl) (by kernel_rfl) (by kernel_rfl) (fun _ _ _ h => h) (Or.inl ⟨by kernel_rfl, fun w' hS => by go_simp⟩) (by assumption) ?_
              try simp only [Act.put, List.setIfInBounds_toArray, List.set_cons_succ, List.set_cons_zero]
              refine wpAnyH_take (i := 10) (oi := ⟨some 87, _, _, _, _, _⟩) (v := .agg C2) rfl (by kernel_rfl) (by kernel_rfl) (by kernel_rfl) (fun _ _ _ h => h) (Or.inl ⟨by kernel_rfl, fun w' hS => by go_simp⟩) (by assumption) ?_
              try simp only [Act.put, List.setIfInBounds_toArray, List.set_cons_succ, List.set_cons_zero]
              refine wpAnyH_take (i := 11) (oi := ⟨some 88, _, _, _, _, _⟩) (v := .bool true) rfl (by kernel_rfl) (by kernel_rfl) (by kernel_rfl) (fun _ _ _ h => h) (Or.inl ⟨by kernel_rfl, fun w' hS => by go_simp⟩) (by assumption) ?_
              try simp only [Act.put, List.setIfInBounds_toArray, List.set_cons_succ, List.set_cons_zero]
              refine wpAnyH_ready (rs := [13]) (by kernel_rfl) (by simp) ?_
              refine AllReadyH.cons (o := ⟨none, _, _, _, _, _⟩) rfl (fun K hK => ?_) AllReadyH.nil
              have hzz := Lib.hid (show 0 + 41 ≤ Z59.size by rw [Z59_size]; decide)
              refine step_store59 (C := C2) (g := BA) (o := 0) (by kernel_rfl) rfl rfl hz2.out ho2.out zA.out hzz.out ?_
              intro wz gz kz
              rw [puts_all (Z59_size.trans hz2.out.symm)] at gz
              have YZ := Lib.hid gz
              have HPz := Lib.hid (HPa.out.next kz (fun i hi e => HPa.out.other zA.out (by decide) (by decide) (by have e' : i = BA := e; rw [← e']; exact hi)) (fun i hi e => by have e' : i = BA := e; have := HBA.out; omega))
              have GZ := Lib.hid (kz.rowS (by have := HBA.out; omega) GA.out)
              have XZ := Lib.hid (kz.rowS (by have := HBA.out; omega) hSt.1)
              have hSz : wz.heap[w.heap.size + 1]? = some (.cells CT 59 (0, 0)) ∧ wz.cell? ⟨b, o + j, none⟩ = some (.int .u8 z) := ⟨XZ.out, HOLD.out wz HPz.out.kept⟩
              clear gz kz HPa zA GA hzz
              refine hK.out _ _ hSz (fun hHeld => ?_)
              clear hK K
              try simp only [Act.put, List.setIfInBounds_toArray, List.set_cons_succ, List.set_cons_zero]
              refine wpAnyH_take (i := 14) (oi := ⟨some 14, _, _, _, _, _⟩) (v := .bool true) rfl (by kernel_rfl) (by kernel_rfl) (by kernel_rfl) (fun _ _ _ h => h) (Or.inl ⟨by kernel_rfl, fun w' hS => by go_simp⟩) (by assumption) ?_
              try simp only [Act.put, List.setIfInBounds_toArray, List.set_cons_succ, List.set_cons_zero]
              refine wpAnyH_done (by kernel_rfl) ?_ _
              clear hHeld hSz hwA
              go_upto_region 18 with (fail)
              have kd := (Kept.refl (fun _ => False) wz).drew
              have HPy := Lib.hid (HPz.out.same kd)
              have YY := Lib.hid (kd.row YZ.out)
              have GY := Lib.hid (kd.row GZ.out)
              have XY := Lib.hid (kd.row XZ.out)
              clear kd HPz YZ GZ XZ
              refine wp_region_held_drew (S := fun w' => Kept (fun _ => False) wz.drew w') (by kernel_rfl) (Kept.refl _ _) (fun hHeld => ?_)
              generalize wz.drew = wy at *
              have hSy : Kept (fun _ => False) wy wy := Kept.refl _ _
              have hvt : Hid (CT[2]? = some (.int .i64 t2)) := by show _ = _; rw [HCT.out]; simp [clC]
              refine wpAnyH_take (i := 0) (oi := ⟨some 89, _, _, _, _, _⟩) (v := .bool true) rfl (by kernel_rfl) (by kernel_rfl) (by kernel_rfl) (fun _ _ _ h => h) (Or.inl ⟨by kernel_rfl, fun w' hS => by go_simp⟩) (by assumption) ?_
              try simp only [Act.put, List.setIfInBounds_toArray, List.set_cons_succ, List.set_cons_zero]
              refine wpAnyH_take (i := 1) (oi := ⟨some 90, _, _, _, _, _⟩) (v := .bool false) rfl (by kernel_rfl) (by kernel_rfl) (by kernel_rfl) (fun _ _ _ h => h) (Or.inl ⟨by kernel_rfl, fun w' hS => by go_simp⟩) (by assumption) ?_
              try simp only [Act.put, List.setIfInBounds_toArray, List.set_cons_succ, List.set_cons_zero]
              refine wpAnyH_take (i := 2) (oi := ⟨some 91, _, _, _, _, _⟩) (v := .bool false) rfl (by kernel_rfl) (by kernel_rfl) (by kernel_rfl) (fun _ _ _ h => h) (Or.inl ⟨by kernel_rfl, fun w' hS => by go_simp⟩) (by assumption) ?_
              try simp only [Act.put, List.setIfInBounds_toArray, List.set_cons_succ, List.set_cons_zero]
              refine wpAnyH_take (i := 3) (oi := ⟨some 92, _, _, _, _, _⟩) (v := .pointer (some ⟨BA, 7, none⟩)) rfl (by kernel_rfl) (by kernel_rfl) (by kernel_rfl) (fun _ _ _ h => h) (Or.inl ⟨by kernel_rfl, fun w' hS => by go_simp⟩) (by assumption) ?_
              try simp only [Act.put, List.setIfInBounds_toArray, List.set_cons_succ, List.set_cons_zero]
              refine wpAnyH_take (i := 4) (oi := ⟨some 93, _, _, _, _, _⟩) (v := .bool true) rfl (by kernel_rfl) (by kernel_rfl) (by kernel_rfl) (fun _ _ _ h => h) (Or.inl ⟨by kernel_rfl, fun w' hS => by have c := row_cell (k := 7) (hS.row YY.out) (v := .bool true) (hv7.out); go_simp⟩) (by assumption) ?_
              try simp only [Act.put, List.setIfInBounds_toArray, List.set_cons_succ, List.set_cons_zero]
              refine wpAnyH_take (i := 5) (oi := ⟨some 94, _, _, _, _, _⟩) (v := .bool false) rfl (by kernel_rfl) (by kernel_rfl) (by kernel_rfl) (fun _ _ _ h => h) (Or.inl ⟨by kernel_rfl, fun w' hS => by go_simp⟩) (by assumption) ?_
              try simp only [Act.put, List.setIfInBounds_toArray, List.set_cons_succ, List.set_cons_zero]
              refine wpAnyH_take (i := 6) (oi := ⟨some 95, _, _, _, _, _⟩) (v := .bool false) rfl (by kernel_rfl) (by kernel_rfl) (by kernel_rfl) (fun _ _ _ h => h) (Or.inl ⟨by kernel_rfl, fun w' hS => by go_simp⟩) (by assumption) ?_
              try simp only [Act.put, List.setIfInBounds_toArray, List.set_cons_succ, List.set_cons_zero]
              refine wpAnyH_take (i := 7) (oi := ⟨some 96, _, _, _, _, _⟩) (v := .bool false) rfl (by kernel_rfl) (by kernel_rfl) (by kernel_rfl) (fun _ _ _ h => h) (Or.inl ⟨by kernel_rfl, fun w' hS => by go_simp⟩) (by assumption) ?_
              try simp only [Act.put, List.setIfInBounds_toArray, List.set_cons_succ, List.set_cons_zero]
              refine wpAnyH_take (i := 8) (oi := ⟨some 97, _, _, _, _, _⟩) (v := .pointer (some ⟨BA, 2, none⟩)) rfl (by kernel_rfl) (by kernel_rfl) (by kernel_rfl) (fun _ _ _ h => h) (Or.inl ⟨by kernel_rfl, fun w' hS => by go_simp⟩) (by assumption) ?_
              try simp only [Act.put, List.setIfInBounds_toArray, List.set_cons_succ, List.set_cons_zero]
              refine wpAnyH_take (i := 9) (oi := ⟨some 98, _, _, _, _, _⟩) (v := .int .i64 t2) rfl (by kernel_rfl) (by kernel_rfl) (by kernel_rfl) (fun _ _ _ h => h) (Or.inl ⟨by kernel_rfl, fun w' hS => by have c := row_cell (k := 2) (hS.row YY.out) (v := .int .i64 t2) (hv2.out); go_simp⟩) (by assumption) ?_
              try simp only [Act.put, List.setIfInBounds_toArray, List.set_cons_succ, List.set_cons_zero]
              refine wpAnyH_take (i := 10) (oi := ⟨some 99, _, _, _, _, _⟩) (v := .pointer (some ⟨w.heap.size + 1, 2, none⟩)) rfl (by kernel_rfl) (by kernel_rfl) (by kernel_rfl) (fun _ _ _ h => h) (Or.inl ⟨by kernel_rfl, fun w' hS => by go_simp⟩) (by assumption) ?_
              try simp only [Act.put, List.setIfInBounds_toArray, List.set_cons_succ, List.set_cons_zero]
              refine wpAnyH_take (i := 11) (oi := ⟨some 100, _, _, _, _, _⟩) (v := .int .i64 t2) rfl (by kernel_rfl) (by kernel_rfl) (by kernel_rfl) (fun _ _ _ h => h) (Or.inl ⟨by kernel_rfl, fun w' hS => by have c := row_cell (k := 2) (hS.row XY.out) (v := .int .i64 t2) (hvt.out); go_simp⟩) (by assumption) ?_
              try simp only [Act.put, List.setIfInBounds_toArray, List.set_cons_succ, List.set_cons_zero]
              refine wpAnyH_take (i := 12) (oi := ⟨some 101, _, _, _, _, _⟩) (v := .bool false) rfl (by kernel_rfl) (by kernel_rfl) (by kernel_rfl) (fun _ _ _ h => h) (Or.inl ⟨by kernel_rfl, fun w' hS => by go_simp⟩) (by assumption) ?_
              try simp only [Act.put, List.setIfInBounds_toArray, List.set_cons_succ, List.set_cons_zero]
              refine wpAnyH_take (i := 13) (oi := ⟨some 102, _, _, _, _, _⟩) (v := .bool false) rfl (by kernel_rfl) (by kernel_rfl) (by kernel_rfl) (fun _ _ _ h => h) (Or.inl ⟨by kernel_rfl, fun w' hS => by go_simp⟩) (by assumption) ?_
              try simp only [Act.put, List.setIfInBounds_toArray, List.set_cons_succ, List.set_cons_zero]
              refine wpAnyH_take (i := 14) (oi := ⟨some 103, _, _, _, _, _⟩) (v := .bool false) rfl (by kernel_rfl) (by kernel_rfl) (by kernel_rfl) (fun _ _ _ h => h) (Or.inl ⟨by kernel_rfl, fun w' hS => by go_simp⟩) (by assumption) ?_
              try simp only [Act.put, List.setIfInBounds_toArray, List.set_cons_succ, List.set_cons_zero]
              refine wpAnyH_take (i := 15) (oi := ⟨some 104, _, _, _, _, _⟩) (v := .pointer (some ⟨BA, 8, none⟩)) rfl (by kernel_rfl) (by kernel_rfl) (by kernel_rfl) (fun _ _ _ h => h) (Or.inl ⟨by kernel_rfl, fun w' hS => by go_simp⟩) (by assumption) ?_
              try simp only [Act.put, List.setIfInBounds_toArray, List.set_cons_succ, List.set_cons_zero]
              refine wpAnyH_take (i := 16) (oi := ⟨some 105, _, _, _, _, _⟩) (v := .int .i64 (ep + 1)) rfl (by kernel_rfl) (by kernel_rfl) (by kernel_rfl) (fun _ _ _ h => h) (Or.inl ⟨by kernel_rfl, fun w' hS => by have c := row_cell (k := 8) (hS.row YY.out) (v := .int .i64 (ep + 1)) (hv8.out); go_simp⟩) (by assumption) ?_
              try simp only [Act.put, List.setIfInBounds_toArray, List.set_cons_succ, List.set_cons_zero]
              refine wpAnyH_take (i := 17) (oi := ⟨some 106, _, _, _, _, _⟩) (v := .pointer (some ⟨g, 0, none⟩)) rfl (by kernel_rfl) (by kernel_rfl) (by kernel_rfl) (fun _ _ _ h => h) (Or.inl ⟨by kernel_rfl, fun w' hS => by go_simp⟩) (by assumption) ?_
              try simp only [Act.put, List.setIfInBounds_toArray, List.set_cons_succ, List.set_cons_zero]
              refine wpAnyH_ready (rs := [18]) (by kernel_rfl) (by simp) ?_
              refine AllReadyH.cons (o := ⟨some 107, _, _, _, _, _⟩) rfl (fun K hK => ?_) AllReadyH.nil
              have HFp := Lib.hid (f_pepoch w g r _ _ _ k n _ _ wy HPy.out)
              go_simp
              refine HFp.out.mono ?_
              rintro e wh ⟨rfl, rfl⟩
              clear HFp
              go_wp2_with fail
              refine hK.out _ _ hSy (fun hHeld => ?_)
              clear hK K
              try simp only [Act.put, List.setIfInBounds_toArray, List.set_cons_succ, List.set_cons_zero]
              refine wpAnyH_take (i := 19) (oi := ⟨some 108, _, _, _, _, _⟩) (v := .bool false) rfl (by kernel_rfl) (by kernel_rfl) (by kernel_rfl) (fun _ _ _ h => h) (Or.inl ⟨by kernel_rfl, fun w' hS => by go_simp⟩) (by assumption) ?_
              try simp only [Act.put, List.setIfInBounds_toArray, List.set_cons_succ, List.set_cons_zero]
              refine wpAnyH_take (i := 20) (oi := ⟨some 109, _, _, _, _, _⟩) (v := .bool false) rfl (by kernel_rfl) (by kernel_rfl) (by kernel_rfl) (fun _ _ _ h => h) (Or.inl ⟨by kernel_rfl, fun w' hS => by go_simp⟩) (by assumption) ?_
              try simp only [Act.put, List.setIfInBounds_toArray, List.set_cons_succ, List.set_cons_zero]
              refine wpAnyH_take (i := 21) (oi := ⟨some 110, _, _, _, _, _⟩) (v := .bool false) rfl (by kernel_rfl) (by kernel_rfl) (by kernel_rfl) (fun _ _ _ h => h) (Or.inl ⟨by kernel_rfl, fun w' hS => by go_simp⟩) (by assumption) ?_
              try simp only [Act.put, List.setIfInBounds_toArray, List.set_cons_succ, List.set_cons_zero]
              refine wpAnyH_take (i := 22) (oi := ⟨some 111, _, _, _, _, _⟩) (v := .pointer (some ⟨g, 0, none⟩)) rfl (by kernel_rfl) (by kernel_rfl) (by kernel_rfl) (fun _ _ _ h => h) (Or.inl ⟨by kernel_rfl, fun w' hS => by go_simp⟩) (by assumption) ?_
              try simp only [Act.put, List.setIfInBounds_toArray, List.set_cons_succ, List.set_cons_zero]
              refine wpAnyH_ready (rs := [23]) (by kernel_rfl) (by simp) ?_
              refine AllReadyH.cons (o := ⟨some 112, _, _, _, _, _⟩) rfl (fun K hK => ?_) AllReadyH.nil
              have HFp := Lib.hid (f_entries w g r _ _ _ k n _ _ wh HPy.out (by simp))
              go_simp
              refine HFp.out.mono ?_
              rintro e wi ⟨v, rfl, hb, ki⟩
              obtain ⟨ae2, ce2, rfl, _⟩ := hb.form
              have hSi : Kept (fun _ => False) wh wi := ki
              have HPi := Lib.hid (HPy.out.same ki)
              clear HFp hb ki
              simp only [List.length_cons, List.length_nil, Nat.zero_add]
              go_wp2_with fail
              refine hK.out _ _ hSi (fun hHeld => ?_)
              clear hK K
              try simp only [Act.put, List.setIfInBounds_toArray, List.set_cons_succ, List.set_cons_zero]
              refine wpAnyH_take (i := 24) (oi := ⟨some 113, _, _, _, _, _⟩) (v := .int .i64 1) rfl (by kernel_rfl) (by kernel_rfl) (by kernel_rfl) (fun _ _ _ h => h) (Or.inl ⟨by kernel_rfl, fun w' hS => by go_simp⟩) (by assumption) ?_
              try simp only [Act.put, List.setIfInBounds_toArray, List.set_cons_succ, List.set_cons_zero]
              refine wpAnyH_take (i := 25) (oi := ⟨some 114, _, _, _, _, _⟩) (v := .bool false) rfl (by kernel_rfl) (by kernel_rfl) (by kernel_rfl) (fun _ _ _ h => h) (Or.inl ⟨by kernel_rfl, fun w' hS => by go_simp⟩) (by assumption) ?_
              try simp only [Act.put, List.setIfInBounds_toArray, List.set_cons_succ, List.set_cons_zero]
              refine wpAnyH_take (i := 26) (oi := ⟨some 115, _, _, _, _, _⟩) (v := .bool false) rfl (by kernel_rfl) (by kernel_rfl) (by kernel_rfl) (fun _ _ _ h => h) (Or.inl ⟨by kernel_rfl, fun w' hS => by go_simp⟩) (by assumption) ?_
              try simp only [Act.put, List.setIfInBounds_toArray, List.set_cons_succ, List.set_cons_zero]
              refine wpAnyH_take (i := 27) (oi := ⟨some 116, _, _, _, _, _⟩) (v := .bool false) rfl (by kernel_rfl) (by kernel_rfl) (by kernel_rfl) (fun _ _ _ h => h) (Or.inl ⟨by kernel_rfl, fun w' hS => by go_simp⟩) (by assumption) ?_
              try simp only [Act.put, List.setIfInBounds_toArray, List.set_cons_succ, List.set_cons_zero]
              refine wpAnyH_take (i := 28) (oi := ⟨some 117, _, _, _, _, _⟩) (v := .agg #[.slice pa k.parts.length pc, .slice wa k.wits.length wcp, .int .i64 k.need]) rfl (by kernel_rfl) (by kernel_rfl) (by kernel_rfl) (fun _ _ _ h => h) (Or.inl ⟨by kernel_rfl, fun w' hS => by have c0 := row_cell (k := 0) (hS.row GY.out) (v := .slice pa k.parts.length pc) (rfl); have c1 := row_cell (k := 1) (hS.row GY.out) (v := .slice wa k.wits.length wcp) (rfl); have c2 := row_cell (k := 2) (hS.row GY.out) (v := .int .i64 k.need) (rfl); go_simp⟩) (by assumption) ?_
              try simp only [Act.put, List.setIfInBounds_toArray, List.set_cons_succ, List.set_cons_zero]
              refine wpAnyH_take (i := 29) (oi := ⟨some 118, _, _, _, _, _⟩) (v := .agg C2) rfl (by kernel_rfl) (by kernel_rfl) (by kernel_rfl) (fun _ _ _ h => h) (yields59 (C := C2) (g := BA) (o := 0) (by kernel_rfl) rfl (fun w' hS => range_row (hS.row YY.out)) hz2.out) (by assumption) ?_
              try simp only [Act.put, List.setIfInBounds_toArray, List.set_cons_succ, List.set_cons_zero]
              refine wpAnyH_ready (rs := [30]) (by kernel_rfl) (by simp) ?_
              refine AllReadyH.cons (o := ⟨some 119, _, _, _, _, _⟩) rfl (fun K hK => ?_) AllReadyH.nil
              have HFp := f_preceipt ct 1 wi hctl.out
              rw [← HC2.out] at HFp
              have HFq := Lib.hid HFp
              clear HFp
              go_simp
              refine HFq.out.mono ?_
              rintro e wk ⟨rfl, kk⟩
              have hSk : Kept (fun _ => False) wh wk := hSi.trans kk
              have HPk := Lib.hid (HPi.out.same kk)
              have HRk := Lib.hid (recC_in wk hctl.out 1)
              generalize recC ct 1 = CR at *
              clear HFq kk
              go_wp2_with fail
              refine hK.out _ _ hSk (fun hHeld => ?_)
              clear hK K
              try simp only [Act.put, List.setIfInBounds_toArray, List.set_cons_succ, List.set_cons_zero]
              refine wpAnyH_ready (rs := [31]) (by kernel_rfl) (by simp) ?_
              refine AllReadyH.cons (o := ⟨some 120, _, _, _, _, _⟩) rfl (fun K hK => ?_) AllReadyH.nil
              have hx6 : (tRec ct 1).saga = c.saga ∧ (tRec ct 1).step = c.step := by simp only [tRec, hcta.out, if_true]; exact hcts.out
              have HFp := f_holds (.slice pa k.parts.length pc) (.slice wa k.wits.length wcp) k CR (tRec ct 1) ct.tag wk HPk.out.laidNow HPk.out.keysNow HRk.out (by rw [hx6.1]; exact HFF.out.1) (by rw [hx6.2]; exact HFF.out.2) (by simp only [tRec, hcta.out, if_true]; exact Nat.zero_le _) (by simp only [tRec, hcta.out, if_true]) hct8.out
              rw [HHO.out] at HFp
              have HFq := Lib.hid HFp
              clear HFp hx6
              go_simp
              refine HFq.out.mono ?_
              rintro e wl ⟨rfl, kk⟩
              have hSl : Kept (fun _ => False) wh wl := hSk.trans kk
              have HPl := Lib.hid (HPk.out.same kk)
              have XL := Lib.hid (hSl.row XY.out)
              have GL := Lib.hid (hSl.row GY.out)
              clear HFq kk HRk
              go_wp2_with fail
              refine hK.out _ _ hSl (fun hHeld => ?_)
              clear hK K
              try simp only [Act.put, List.setIfInBounds_toArray, List.set_cons_succ, List.set_cons_zero]
              refine wpAnyH_take (i := 32) (oi := ⟨some 121, _, _, _, _, _⟩) (v := .bool false) rfl (by kernel_rfl) (by kernel_rfl) (by kernel_rfl) (fun _ _ _ h => h) (Or.inl ⟨by kernel_rfl, fun w' hS => by go_simp⟩) (by assumption) ?_
              try simp only [Act.put, List.setIfInBounds_toArray, List.set_cons_succ, List.set_cons_zero]
              refine wpAnyH_take (i := 33) (oi := ⟨some 122, _, _, _, _, _⟩) (v := .bool false) rfl (by kernel_rfl) (by kernel_rfl) (by kernel_rfl) (fun _ _ _ h => h) (Or.inl ⟨by kernel_rfl, fun w' hS => by go_simp⟩) (by assumption) ?_
              try simp only [Act.put, List.setIfInBounds_toArray, List.set_cons_succ, List.set_cons_zero]
              refine wpAnyH_done (by kernel_rfl) ?_ _
              clear hHeld hSl hSk hSi hSy hvt
              rw [HCT.out] at XL
              go_wp2_with fail
              go_roundw
              case rel => exact ⟨j + 1, by omega, by go_num, svt, (ep + 1), t2, HPl.out, by have := HEP1.out.1; omega, by have := HEP1.out.2; omega, XL.out, GL.out⟩
              case measure => simp [intOf]; omega
        · go_wp2_with fail
          go_ret
          exact BPost.mk rfl (HPr.out.kept.mono (fun i hi e => by omega))
end Go.Proofs.YtklmhegmombegaaDoor
