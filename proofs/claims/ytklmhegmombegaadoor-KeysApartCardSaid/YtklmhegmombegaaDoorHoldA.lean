/-
  The walk of KeysHold. Conditions: as each theorem says.
-/
import Derived.Test.YtklmhegmombegaaDoorRrA
import Derived.Test.YtklmhegmombegaaDoorLayA
set_option linter.unusedVariables false
set_option linter.unusedSimpArgs false
set_option maxRecDepth 100000
namespace Go.Proofs.YtklmhegmombegaaDoor
open Go Go.RowKit Plain
open Go.Proofs.YtklmhegmombegaaDoor.Re (RecIn hbs)
open Go.Proofs.YtklmhegmombegaaDoor.Re.Plain (Rx rightB)

theorem RecIn_tagged {w : World} {C : Array Value} {x : Rx} (h : RecIn w C x) {T : List Nat} (hT : T.length = 32) : RecIn w (puts C 10 (ints .u8 T).toList) { x with tag := T.map fun (n : Nat) => (n : Int) } := by
  have := h.set_tag (l := T.map fun (n : Nat) => (n : Int)) (by simp [hT])
  rw [puts_re] at this
  have e : (ints .u8 T).toList = hbs (T.map fun (n : Nat) => (n : Int)) := by rw [← hbs_nat]
  rw [e]
  exact this
namespace Plain
/-- Records that differ in what a tag does not say. -/
theorem kRec_congr (k : Ky) {x y : Rx} (h1 : y.kind = x.kind) (h2 : y.part = x.part) (h3 : y.epoch = x.epoch) (h4 : y.saga = x.saga) (h5 : y.step = x.step) (h6 : y.bk = x.bk) (h7 : y.good = x.good) : kRec k y = kRec k x := by
  unfold kRec
  rw [h1, h2, h3, h4, h5, h6, h7]
theorem known_of (k : Ky) {x : Rx} (hm : kMay k = true) (h3 : x.kind = 3) (hr : rightB x = true) (hp : ¬ (k.parts.length : Int) ≤ x.part) : kKnown k x.part x.epoch = true := by
  rw [Re.Plain.right3 h3] at hr
  simp only [Bool.and_eq_true] at hr
  obtain ⟨_, _, _, _, _, hpt, hep, _⟩ := hr
  have e1 := wi_le hpt
  simp only [kKnown, hm, hep, Bool.true_and, Bool.and_true]
  exact Re.wi_true e1.1 (by omega)
/-- A receipt that was tagged holds, whatever its try. -/
theorem holds_tagged (k : Ky) {x : Rx} (n : Int) (hm : kMay k = true) (h3 : x.kind = 3) (hr : rightB x = true) (hp : ¬ (k.parts.length : Int) ≤ x.part) (hn : Re.wi n 1 9 = true) :
    kHolds k { x with tag := (kRec k x).map (fun (m : Nat) => (m : Int)), tr := n } (kRec k x) = true := by
  have hkn := known_of k hm h3 hr hp
  have hc : kRec k { x with tag := (kRec k x).map (fun (m : Nat) => (m : Int)), tr := n } = kRec k x := kRec_congr k rfl rfl rfl rfl rfl rfl rfl
  unfold kHolds
  rw [hc]
  have hr' : rightB { x with tag := (kRec k x).map (fun (m : Nat) => (m : Int)), tr := n } = true := by
    rw [Re.Plain.right3 h3] at hr
    rw [Re.Plain.right3 (show ({ x with tag := (kRec k x).map (fun (m : Nat) => (m : Int)), tr := n } : Rx).kind = 3 from h3)]
    simp only [Bool.and_eq_true] at hr ⊢
    obtain ⟨a, b, c, _, d⟩ := hr
    exact ⟨a, b, c, hn, d⟩
  rw [hr']
  simp [h3, hkn]
theorem tr_of (k : Ky) {x : Rx} (h3 : x.kind = 3) (hr : rightB x = true) : Re.wi x.tr 1 9 = true := by
  rw [Re.Plain.right3 h3] at hr
  simp only [Bool.and_eq_true] at hr
  exact hr.2.2.2.1
end Plain

set_option maxHeartbeats 8000000 in
theorem c_hold (pv wv : Value) (k : Ky) (C : Array Value) (x : Rx) (t : Int) (w : World) (hL : Laid w) (hk : KyIn w pv wv k) (hx : RecIn w C x) (hsg : W64 x.saga) (hst : W64 x.step) (ht : 0 ≤ t ∧ t ≤ 255) (hl1 : k.parts.length ≤ 20) (hl2 : k.wits.length ≤ 20) :
    Calls Tryd.prog 5 #[.agg #[pv, wv, .int .i64 k.need], .agg C, .int .u8 t] w (BPost true w) := by
  have k1 := ((Kept.refl (fun _ => False) w).alloc (.cells #[pv, wv, .int .i64 k.need] 24)).alloc (.cells C 30)
  have G1 := Lib.hid (heap_alloc2_old w (.cells #[pv, wv, .int .i64 k.need] 24) (.cells C 30))
  have G2 := Lib.hid (heap_alloc2_new w (.cells #[pv, wv, .int .i64 k.need] 24) (.cells C 30))
  have HK0 := Lib.hid hk
  have HL0 := Lib.hid hL
  have HX0 := Lib.hid hx
  have K1 := Lib.hid k1
  have HA := Lib.hid (f_alive _ (hL.kept k1))
  have HSG := Lib.hid hsg
  have HST := Lib.hid hst
  have HT := Lib.hid ht
  obtain ⟨pa, pc, rfl⟩ := hk.parts.form
  obtain ⟨wa, wcp, rfl⟩ := hk.wits.form
  have hz := Lib.hid hx.size
  have t1 : decide ((20 : Int) < (k.parts.length : Int)) = false := decide_eq_false (by omega)
  have t2 : decide ((20 : Int) < (k.wits.length : Int)) = false := decide_eq_false (by omega)
  have u1 : decide (20 < k.parts.length) = false := decide_eq_false (by omega)
  have u2 : decide (20 < k.wits.length) = false := decide_eq_false (by omega)
  have HN1 := Lib.hid hl1
  clear k1 hL hk hl1 hl2 hsg hst ht
  have h0 := Lib.hid hx.c0
  have h8 := Lib.hid hx.c8
  clear hx
  go_enter Tryd.func5, Tryd.ntmps5
  go_upto_region 1 with (fail)
  generalize ((w.alloc (.cells #[.slice pa k.parts.length pc, .slice wa k.wits.length wcp, .int .i64 k.need] 24)).alloc (.cells C 30)) = w1 at *
  go_wp2_with fail
  refine HA.out.mono ?_
  rintro e w2 ⟨rfl, k2⟩
  have G1_2 := Lib.hid (k2.row G1.out)
  have G2_2 := Lib.hid (k2.row G2.out)
  have K_2 := Lib.hid (K1.out.trans k2)
  clear k2 G1 G2 K1 HA
  have c0 := row_cell (k := 0) G1_2.out rfl
  have c1 := row_cell (k := 1) G1_2.out rfl
  have c2 := row_cell (k := 2) G1_2.out rfl
  have d0 := row_cell G2_2.out h0.out
  have d8 := row_cell G2_2.out h8.out
  have HG := Lib.hid (f_great C x w2 (HX0.out.kept K_2.out))
  cases hgr : greatX x with
  | true =>
    rw [hgr] at HG
    clear hgr
    go_wp2_with (first | fail | ((with_reducible refine load30g (dst := some 21) (C := C) (g := w.heap.size + 1) (o := 0) (by kernel_rfl) ?_ (range_row G2_2.out) hz.out ?_); rfl))
    refine HG.out.mono ?_
    rintro e w3 ⟨rfl, k3⟩
    go_wp2_with fail
    go_ret
    exact BPost.mk rfl (K_2.out.trans k3)
  | false =>
    rw [hgr] at HG
    have HGR := Lib.hid hgr
    clear hgr
    go_wp2_with (first | fail | ((with_reducible refine load30g (dst := some 21) (C := C) (g := w.heap.size + 1) (o := 0) (by kernel_rfl) ?_ (range_row G2_2.out) hz.out ?_); rfl))
    refine HG.out.mono ?_
    rintro e w3 ⟨rfl, k3⟩
    clear HG
    have G1_3 := Lib.hid (k3.row G1_2.out)
    have G2_3 := Lib.hid (k3.row G2_2.out)
    have K_3 := Lib.hid (K_2.out.trans k3)
    clear k3 G1_2 G2_2 K_2 c0 c1 c2 d0 d8
    have c0 := row_cell (k := 0) G1_3.out rfl
    have c1 := row_cell (k := 1) G1_3.out rfl
    have c2 := row_cell (k := 2) G1_3.out rfl
    have d0 := row_cell G2_3.out h0.out
    have d8 := row_cell G2_3.out h8.out
    have HM := Lib.hid (f_may _ _ k w3 (HK0.out.kept K_3.out))
    cases hm : kMay k with
    | false =>
      rw [hm] at HM
      clear hm
      go_wp2_with fail
      refine HM.out.mono ?_
      rintro e w4 ⟨rfl, k4⟩
      go_wp2_with fail
      go_ret
      exact BPost.mk rfl (K_3.out.trans k4)
    | true =>
      rw [hm] at HM
      have HMM := Lib.hid hm
      clear hm
      go_wp2_with fail
      refine HM.out.mono ?_
      rintro e w4 ⟨rfl, k4⟩
      clear HM
      have G1_4 := Lib.hid (k4.row G1_3.out)
      have G2_4 := Lib.hid (k4.row G2_3.out)
      have K_4 := Lib.hid (K_3.out.trans k4)
      clear k4 G1_3 G2_3 K_3 c0 c1 c2 d0 d8
      have c0 := row_cell (k := 0) G1_4.out rfl
      have c1 := row_cell (k := 1) G1_4.out rfl
      have c2 := row_cell (k := 2) G1_4.out rfl
      have d0 := row_cell G2_4.out h0.out
      have d8 := row_cell G2_4.out h8.out
      by_cases hk3 : x.kind = 3
      case neg =>
        have t3 : (x.kind != 3) = true := by simpa using hk3
        have t4 : ¬ x.kind = 3 := hk3
        go_wp2_with fail
        go_ret
        exact BPost.mk rfl K_4.out
      rw [hk3] at d0
      have HK3 := Lib.hid hk3
      have HR := Lib.hid (Re.f_rr3 C x w4 (HX0.out.kept K_4.out) hk3)
      clear hk3
      cases hr : rightB x with
      | false =>
        rw [hr] at HR
        clear hr
        go_wp2_with (first | fail | ((with_reducible refine load30g (dst := some 35) (C := C) (g := w.heap.size + 1) (o := 0) (by kernel_rfl) ?_ (range_row G2_4.out) hz.out ?_); rfl))
        refine HR.out.mono ?_
        rintro e w5 ⟨rfl, k5⟩
        go_wp2_with fail
        go_ret
        exact BPost.mk rfl (K_4.out.trans k5)
      | true =>
        rw [hr] at HR
        have HRR := Lib.hid hr
        clear hr
        go_wp2_with (first | fail | ((with_reducible refine load30g (dst := some 35) (C := C) (g := w.heap.size + 1) (o := 0) (by kernel_rfl) ?_ (range_row G2_4.out) hz.out ?_); rfl))
        refine HR.out.mono ?_
        rintro e w5 ⟨rfl, k5⟩
        clear HR
        have G1_5 := Lib.hid (k5.row G1_4.out)
        have G2_5 := Lib.hid (k5.row G2_4.out)
        have K_5 := Lib.hid (K_4.out.trans k5)
        clear k5 G1_4 G2_4 K_4 c0 c1 c2 d0 d8
        have c0 := row_cell (k := 0) G1_5.out rfl
        have c1 := row_cell (k := 1) G1_5.out rfl
        have c2 := row_cell (k := 2) G1_5.out rfl
        have d0 := row_cell G2_5.out h0.out
        have d8 := row_cell G2_5.out h8.out
        by_cases hp : (k.parts.length : Int) ≤ x.part
        · go_wp2_with fail
          go_ret
          exact BPost.mk rfl K_5.out
        have p1 : decide ((k.parts.length : Int) ≤ x.part) = false := decide_eq_false hp
        have HP := Lib.hid hp
        clear hp
        go_upto_region 5 with fail
        clear p1
        have HF := Lib.hid (f_receipt (.slice pa k.parts.length pc) (.slice wa k.wits.length wcp) k C x w5 (HL0.out.kept K_5.out) (HK0.out.kept K_5.out) (HX0.out.kept K_5.out) HSG.out HST.out)
        have hkl := Lib.hid (kRec_len k x)
        have hka := Lib.hid (kRec_all k x)
        have hks : Hid ((ints .u8 (kRec k x)).size = 32) := by show _ = _; rw [ints_size]; exact hkl.out
        have hko := Lib.hid (ints_one .u8 (kRec k x))
        go_wp2_with (first | fail | ((with_reducible refine load30g (dst := some 48) (C := C) (g := w.heap.size + 1) (o := 0) (by kernel_rfl) ?_ (range_row G2_5.out) hz.out ?_); rfl))
        refine HF.out.mono ?_
        rintro e w6 ⟨rfl, k6⟩
        clear HF
        have G1_6 := Lib.hid (k6.row G1_5.out)
        have G2_6 := Lib.hid (k6.row G2_5.out)
        have K_6 := Lib.hid (K_5.out.trans k6)
        clear k6 G1_5 G2_5 K_5 c0 c1 c2 d0 d8
        have ho : Hid (10 + 32 ≤ C.size) := by show _ ≤ _; rw [hz.out]; decide
        go_upto_region 6 with (first | fail | ((with_reducible refine put26 (C := ints .u8 (kRec k x)) (g := w.heap.size + 1) (o := 10) ?_ ?_ hks.out hko.out G2_6.out ho.out ?_); rfl; rfl; intro w7 g7 k7))
        have G2_7 := Lib.hid g7
        have G1_7 := Lib.hid (k7.rowS (by omega) G1_6.out)
        have K_7 := Lib.hid (K_6.out.trans' k7 (fun i hi e => by omega))
        clear g7 k7 G1_6 G2_6 K_6 ho hks hko
        have HD := Lib.hid (RecIn_tagged (HX0.out.kept K_7.out) hkl.out)
        generalize hDg : puts C 10 (ints .u8 (kRec k x)).toList = D at *
        clear hDg
        have hdz := Lib.hid HD.out.size
        have hdo := Lib.hid HD.out.one
        have HT1 : Hid (Re.wi x.tr 1 9 = true) := tr_of k HK3.out HRR.out
        have hB := K_7.out.size
        obtain ⟨yr, kr⟩ := alloc_set w7 Z30 D 30
        have zr := Lib.hid (heap_alloc_new w7 (.cells Z30 30))
        have Y8 := Lib.hid yr
        have G1_8 := Lib.hid (kr.row G1_7.out)
        have G2_8 := Lib.hid (kr.row G2_7.out)
        have K_8 := Lib.hid (K_7.out.trans kr)
        have KD_8 := Lib.hid kr
        have hBw : w7.heap.size ≤ w7.heap.size := Nat.le_refl _
        have hBg := row_lt G2_7.out
        go_upto_region 7 with (first | fail | ((with_reducible refine load30g (dst := some 51) (C := D) (g := w.heap.size + 1) (o := 0) (by kernel_rfl) ?_ (range_row G2_7.out) hdz.out ?_); rfl) | (with_reducible refine alloc30 ?_) | ((with_reducible refine store30 (C := D) ?_ ?_ zr.out Z30_size hdz.out hdo.out ?_); rfl; rfl))
        generalize (w7.alloc (.cells Z30 30)).setRow w7.heap.size D = w8 at *
        generalize hBe : w7.heap.size = B at hB hBg Y8 ⊢
        rw [hBe] at hBw
        have hBw : w7.heap.size ≤ B := Nat.le_of_eq hBe
        clear zr yr kr hBe G1_7 G2_7 K_7
        have ev : wrap64 (1 + (wrap64 t).tmod 9) = 1 + t % 9 := by
          have := HT.out
          rw [IntWalk.wrap64_in t (by omega), Int.tmod_eq_emod_of_nonneg (by omega)]
          exact IntWalk.wrap64_in _ (by omega)
        have hv : Hid (Re.wi (1 + t % 9) 1 9 = true) := Re.wi_true (by omega) (by omega)
        have c4 := row_cell Y8.out HD.out.c4
        have f4 := free_of_block (j := 4) Y8.out
        go_upto_region 8 with fail
        rw [ev]
        clear ev c4 f4
        have kq : Kept (fun i => i = B) w8 (w8.setCell ⟨B, 4, none⟩ (.int .i64 (1 + t % 9))) := (Kept.refl (fun i => i = B) w8).setCell (p := ⟨B, 4, none⟩) (.inl rfl) _
        have G1_9 := Lib.hid (kq.rowS (by omega) G1_8.out)
        have G2_9 := Lib.hid (kq.rowS (by omega) G2_8.out)
        have Y9 := Lib.hid (setCell_block (k := 4) Y8.out (.int .i64 (1 + t % 9)))
        have K_9 := Lib.hid (K_8.out.setCell (p := ⟨B, 4, none⟩) (.inr hB) (.int .i64 (1 + t % 9)))
        have KD_9 := Lib.hid (KD_8.out.setCell (p := ⟨B, 4, none⟩) (.inr hBw) (.int .i64 (1 + t % 9)))
        generalize w8.setCell ⟨B, 4, none⟩ (.int .i64 (1 + t % 9)) = w9 at *
        have hez : Hid ((D.setIfInBounds 4 (.int .i64 (1 + t % 9))).size = 109) := by show _ = _; rw [Array.size_setIfInBounds]; exact hdz.out
        clear G1_8 G2_8 Y8 K_8 KD_8 kq
        have hsl : Hid (x.steps.length ≤ 1000000) := by
          show _ ≤ _
          have := HGR.out
          simp only [greatX, Bool.or_eq_false_iff, decide_eq_false_iff_not] at this
          omega
        have hh1 : Hid (kHolds k { x with tag := (kRec k x).map (fun (m : Nat) => (m : Int)) } (kRec k x) = true) := holds_tagged k x.tr HMM.out HK3.out HRR.out (by have := HP.out; omega) HT1.out
        have hh2 : Hid (kHolds k { x with tag := (kRec k x).map (fun (m : Nat) => (m : Int)), tr := 1 + t % 9 } (kRec k x) = true) := holds_tagged k (1 + t % 9) HMM.out HK3.out HRR.out (by have := HP.out; omega) hv.out
        have H1 := f_holds (.slice pa k.parts.length pc) (.slice wa k.wits.length wcp) k D { x with tag := (kRec k x).map (fun (m : Nat) => (m : Int)) } (kRec k x) w9 (HL0.out.kept K_9.out) (HK0.out.kept K_9.out) (HD.out.kept KD_9.out) HSG.out HST.out hsl.out rfl hka.out
        rw [hh1.out] at H1
        have HH1 := Lib.hid H1
        clear H1
        have c0 := row_cell (k := 0) G1_9.out rfl
        have c1 := row_cell (k := 1) G1_9.out rfl
        have c2 := row_cell (k := 2) G1_9.out rfl
        go_wp2_with (first | fail | ((with_reducible refine load30g (dst := some 58) (C := D) (g := w.heap.size + 1) (o := 0) (by kernel_rfl) ?_ (range_row G2_9.out) hdz.out ?_); rfl))
        refine HH1.out.mono ?_
        rintro e w10 ⟨rfl, ka⟩
        clear HH1 c0 c1 c2
        have K_a := Lib.hid (K_9.out.trans ka)
        have KD_a := Lib.hid (KD_9.out.trans ka)
        have G1_a := Lib.hid (ka.row G1_9.out)
        have Y_a := Lib.hid (ka.row Y9.out)
        have H2 := f_holds (.slice pa k.parts.length pc) (.slice wa k.wits.length wcp) k (D.setIfInBounds 4 (.int .i64 (1 + t % 9))) { x with tag := (kRec k x).map (fun (m : Nat) => (m : Int)), tr := 1 + t % 9 } (kRec k x) w10 (HL0.out.kept K_a.out) (HK0.out.kept K_a.out) ((HD.out.kept KD_a.out).set_tr _) HSG.out HST.out hsl.out rfl hka.out
        rw [hh2.out] at H2
        have HH2 := Lib.hid H2
        clear H2 ka G2_9
        have c0 := row_cell (k := 0) G1_a.out rfl
        have c1 := row_cell (k := 1) G1_a.out rfl
        have c2 := row_cell (k := 2) G1_a.out rfl
        go_wp2_with (first | fail | ((with_reducible refine load30g (dst := some 62) (C := D.setIfInBounds 4 (.int .i64 (1 + t % 9))) (g := B) (o := 0) (by kernel_rfl) ?_ (range_row Y_a.out) hez.out ?_); rfl))
        refine HH2.out.mono ?_
        rintro e wb ⟨rfl, kb⟩
        go_wp2_with fail
        go_ret
        exact BPost.mk rfl (K_a.out.trans kb)

end Go.Proofs.YtklmhegmombegaaDoor
