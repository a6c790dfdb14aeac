/-
  The walk of KeysApart. Conditions: as each theorem says.
-/
import Derived.Test.YtklmhegmombegaaDoorHoldA
import Derived.Test.YtklmhegmombegaaDoorLayA
set_option linter.unusedVariables false
set_option linter.unusedSimpArgs false
set_option maxRecDepth 100000
namespace Go.Proofs.YtklmhegmombegaaDoor
open Go Go.RowKit Plain
open Go.Proofs.YtklmhegmombegaaDoor.Re (RecIn hbs)
open Go.Proofs.YtklmhegmombegaaDoor.Re.Plain (Rx rightB)

namespace Plain
def apartLaw (k : Ky) (y : Rx) (T : List Nat) : Prop := kHolds k y T = (decide (y.part < (k.parts.length : Int)) && decide (kRec k y = T))
theorem ranges3 {x : Rx} (h3 : x.kind = 3) (hr : rightB x = true) : 0 ≤ x.saga ∧ x.saga ≤ 11 ∧ 0 ≤ x.step ∧ x.step ≤ 5 ∧ 0 ≤ x.part ∧ x.part ≤ 3 ∧ 0 ≤ x.epoch ∧ x.epoch ≤ 400 := by
  rw [Re.Plain.right3 h3] at hr
  simp only [Bool.and_eq_true] at hr
  obtain ⟨a, _, b, _, _, c, d, _⟩ := hr
  have := wi_le a; have := wi_le b; have := wi_le c; have := wi_le d
  omega
theorem apart_of (k : Ky) {y : Rx} (T : List Nat) (hm : kMay k = true) (h3 : y.kind = 3) (hr : rightB y = true) : apartLaw k y T := by
  have hb := ranges3 h3 hr
  unfold apartLaw kHolds
  rw [hr]
  have hkn : kKnown k y.part y.epoch = decide (y.part < (k.parts.length : Int)) := by
    simp only [kKnown, hm, Bool.true_and]
    rw [Re.wi_true hb.2.2.2.2.2.2.1 hb.2.2.2.2.2.2.2, Bool.and_true]
    simp only [Re.wi]
    rw [Bool.eq_iff_iff]
    simp
    omega
  rw [hkn]
  simp [h3]
theorem apart_good (k : Ky) {x : Rx} (hm : kMay k = true) (h3 : x.kind = 3) (hr : rightB x = true) (hp : ¬ (k.parts.length : Int) ≤ x.part) : apartLaw k { x with tag := (kRec k x).map (fun (m : Nat) => (m : Int)), good := (!x.good) } (kRec k x) := by
  refine apart_of k _ hm h3 ?_
  rw [Re.Plain.right3 h3] at hr
  refine (Re.Plain.right3 (x := { x with tag := (kRec k x).map (fun (m : Nat) => (m : Int)), good := (!x.good) }) h3).trans ?_
  simpa using hr
theorem apart_bk (k : Ky) {x : Rx} (hm : kMay k = true) (h3 : x.kind = 3) (hr : rightB x = true) (hp : ¬ (k.parts.length : Int) ≤ x.part) : apartLaw k { x with tag := (kRec k x).map (fun (m : Nat) => (m : Int)), bk := (!x.bk) } (kRec k x) := by
  refine apart_of k _ hm h3 ?_
  rw [Re.Plain.right3 h3] at hr
  refine (Re.Plain.right3 (x := { x with tag := (kRec k x).map (fun (m : Nat) => (m : Int)), bk := (!x.bk) }) h3).trans ?_
  simpa using hr
theorem apart_saga (k : Ky) {x : Rx} (hm : kMay k = true) (h3 : x.kind = 3) (hr : rightB x = true) (hp : ¬ (k.parts.length : Int) ≤ x.part) : apartLaw k { x with tag := (kRec k x).map (fun (m : Nat) => (m : Int)), saga := ((x.saga + 1) % 12) } (kRec k x) := by
  refine apart_of k _ hm h3 ?_
  rw [Re.Plain.right3 h3] at hr
  refine (Re.Plain.right3 (x := { x with tag := (kRec k x).map (fun (m : Nat) => (m : Int)), saga := ((x.saga + 1) % 12) }) h3).trans ?_
  simp only [Bool.and_eq_true] at hr ⊢
  exact ⟨Re.wi_true (by omega) (by omega), hr.2⟩
theorem apart_step (k : Ky) {x : Rx} (hm : kMay k = true) (h3 : x.kind = 3) (hr : rightB x = true) (hp : ¬ (k.parts.length : Int) ≤ x.part) : apartLaw k { x with tag := (kRec k x).map (fun (m : Nat) => (m : Int)), step := ((x.step + 1) % 6) } (kRec k x) := by
  refine apart_of k _ hm h3 ?_
  rw [Re.Plain.right3 h3] at hr
  refine (Re.Plain.right3 (x := { x with tag := (kRec k x).map (fun (m : Nat) => (m : Int)), step := ((x.step + 1) % 6) }) h3).trans ?_
  simp only [Bool.and_eq_true] at hr ⊢
  exact ⟨hr.1, hr.2.1, Re.wi_true (by omega) (by omega), hr.2.2.2⟩
theorem apart_part (k : Ky) {x : Rx} (hm : kMay k = true) (h3 : x.kind = 3) (hr : rightB x = true) (hp : ¬ (k.parts.length : Int) ≤ x.part) : apartLaw k { x with tag := (kRec k x).map (fun (m : Nat) => (m : Int)), part := ((x.part + 1) % 4) } (kRec k x) := by
  refine apart_of k _ hm h3 ?_
  rw [Re.Plain.right3 h3] at hr
  refine (Re.Plain.right3 (x := { x with tag := (kRec k x).map (fun (m : Nat) => (m : Int)), part := ((x.part + 1) % 4) }) h3).trans ?_
  simp only [Bool.and_eq_true] at hr ⊢
  exact ⟨hr.1, hr.2.1, hr.2.2.1, hr.2.2.2.1, hr.2.2.2.2.1, Re.wi_true (by omega) (by omega), hr.2.2.2.2.2.2⟩
end Plain
theorem hold_is {b c : Bool} {w : World} {F : Nat} {vs : Array Value} (h : b = c) (k : Calls Tryd.prog F vs w (BPost b w)) : Calls Tryd.prog F vs w (BPost c w) := h ▸ k
theorem range_tag {w : World} {g : Nat} {C : Array Value} {t : TypeId} {T : List Nat} (hg : w.heap[g]? = some (.cells C t (0, 0))) (h : Re.At C 10 (hbs (T.map fun (n : Nat) => (n : Int)))) : w.rangeAt g 10 (ints .u8 T).toList := by
  rw [← hbs_nat]
  exact Re.range_at hg h

set_option maxHeartbeats 8000000 in
theorem c_apart (pv wv : Value) (k : Ky) (C : Array Value) (x : Rx) (t : Int) (w : World) (hL : Laid w) (hk : KyIn w pv wv k) (hx : RecIn w C x) (hsg : W64 x.saga) (hst : W64 x.step) (ht : 0 ≤ t ∧ t ≤ 255) (hl1 : k.parts.length ≤ 20) (hl2 : k.wits.length ≤ 20) :
    Calls Tryd.prog 7 #[.agg #[pv, wv, .int .i64 k.need], .agg C, .int .u8 t] w (BPost true w) := by
  have k1 := ((Kept.refl (fun _ => False) w).alloc (.cells #[pv, wv, .int .i64 k.need] 24)).alloc (.cells C 30)
  have G1 := Lib.hid (heap_alloc2_old w (.cells #[pv, wv, .int .i64 k.need] 24) (.cells C 30))
  have G2 := Lib.hid (heap_alloc2_new w (.cells #[pv, wv, .int .i64 k.need] 24) (.cells C 30))
  have HK0 := Lib.hid hk
  have HL0 := Lib.hid hL
  have HX0 := Lib.hid hx
  have K1 := Lib.hid k1
  have HA := Lib.hid (f_alive _ (hL.kept k1))
  have HSG := Lib.hid hsg
  have HST := Lib.hid hst
  have HT := Lib.hid ht
  obtain ⟨pa, pc, rfl⟩ := hk.parts.form
  obtain ⟨wa, wcp, rfl⟩ := hk.wits.form
  have hz := Lib.hid hx.size
  have t1 : decide ((20 : Int) < (k.parts.length : Int)) = false := decide_eq_false (by omega)
  have t2 : decide ((20 : Int) < (k.wits.length : Int)) = false := decide_eq_false (by omega)
  have u1 : decide (20 < k.parts.length) = false := decide_eq_false (by omega)
  have u2 : decide (20 < k.wits.length) = false := decide_eq_false (by omega)
  have HN1 := Lib.hid hl1
  clear k1 hL hk hl1 hl2 hsg hst ht
  have h0 := Lib.hid hx.c0
  have h8 := Lib.hid hx.c8
  clear hx
  go_enter Tryd.func7, Tryd.ntmps7
  go_upto_region 1 with (fail)
  generalize ((w.alloc (.cells #[.slice pa k.parts.length pc, .slice wa k.wits.length wcp, .int .i64 k.need] 24)).alloc (.cells C 30)) = w1 at *
  go_wp2_with fail
  refine HA.out.mono ?_
  rintro e w2 ⟨rfl, k2⟩
  have G1_2 := Lib.hid (k2.row G1.out)
  have G2_2 := Lib.hid (k2.row G2.out)
  have K_2 := Lib.hid (K1.out.trans k2)
  clear k2 G1 G2 K1 HA
  have c0 := row_cell (k := 0) G1_2.out rfl
  have c1 := row_cell (k := 1) G1_2.out rfl
  have c2 := row_cell (k := 2) G1_2.out rfl
  have d0 := row_cell G2_2.out h0.out
  have d8 := row_cell G2_2.out h8.out
  have HG := Lib.hid (f_great C x w2 (HX0.out.kept K_2.out))
  cases hgr : greatX x with
  | true =>
    rw [hgr] at HG
    clear hgr
    go_wp2_with (first | fail | ((with_reducible refine load30g (dst := some 21) (C := C) (g := w.heap.size + 1) (o := 0) (by kernel_rfl) ?_ (range_row G2_2.out) hz.out ?_); rfl))
    refine HG.out.mono ?_
    rintro e w3 ⟨rfl, k3⟩
    go_wp2_with fail
    go_ret
    exact BPost.mk rfl (K_2.out.trans k3)
  | false =>
    rw [hgr] at HG
    have HGR := Lib.hid hgr
    clear hgr
    go_wp2_with (first | fail | ((with_reducible refine load30g (dst := some 21) (C := C) (g := w.heap.size + 1) (o := 0) (by kernel_rfl) ?_ (range_row G2_2.out) hz.out ?_); rfl))
    refine HG.out.mono ?_
    rintro e w3 ⟨rfl, k3⟩
    clear HG
    have G1_3 := Lib.hid (k3.row G1_2.out)
    have G2_3 := Lib.hid (k3.row G2_2.out)
    have K_3 := Lib.hid (K_2.out.trans k3)
    clear k3 G1_2 G2_2 K_2 c0 c1 c2 d0 d8
    have c0 := row_cell (k := 0) G1_3.out rfl
    have c1 := row_cell (k := 1) G1_3.out rfl
    have c2 := row_cell (k := 2) G1_3.out rfl
    have d0 := row_cell G2_3.out h0.out
    have d8 := row_cell G2_3.out h8.out
    have HM := Lib.hid (f_may _ _ k w3 (HK0.out.kept K_3.out))
    cases hm : kMay k with
    | false =>
      rw [hm] at HM
      clear hm
      go_wp2_with fail
      refine HM.out.mono ?_
      rintro e w4 ⟨rfl, k4⟩
      go_wp2_with fail
      go_ret
      exact BPost.mk rfl (K_3.out.trans k4)
    | true =>
      rw [hm] at HM
      have HMM := Lib.hid hm
      clear hm
      go_wp2_with fail
      refine HM.out.mono ?_
      rintro e w4 ⟨rfl, k4⟩
      clear HM
      have G1_4 := Lib.hid (k4.row G1_3.out)
      have G2_4 := Lib.hid (k4.row G2_3.out)
      have K_4 := Lib.hid (K_3.out.trans k4)
      clear k4 G1_3 G2_3 K_3 c0 c1 c2 d0 d8
      have c0 := row_cell (k := 0) G1_4.out rfl
      have c1 := row_cell (k := 1) G1_4.out rfl
      have c2 := row_cell (k := 2) G1_4.out rfl
      have d0 := row_cell G2_4.out h0.out
      have d8 := row_cell G2_4.out h8.out
      by_cases hk3 : x.kind = 3
      case neg =>
        have t3 : (x.kind != 3) = true := by simpa using hk3
        have t4 : ¬ x.kind = 3 := hk3
        go_wp2_with fail
        go_ret
        exact BPost.mk rfl K_4.out
      rw [hk3] at d0
      have HK3 := Lib.hid hk3
      have HR := Lib.hid (Re.f_rr3 C x w4 (HX0.out.kept K_4.out) hk3)
      clear hk3
      cases hr : rightB x with
      | false =>
        rw [hr] at HR
        clear hr
        go_wp2_with (first | fail | ((with_reducible refine load30g (dst := some 35) (C := C) (g := w.heap.size + 1) (o := 0) (by kernel_rfl) ?_ (range_row G2_4.out) hz.out ?_); rfl))
        refine HR.out.mono ?_
        rintro e w5 ⟨rfl, k5⟩
        go_wp2_with fail
        go_ret
        exact BPost.mk rfl (K_4.out.trans k5)
      | true =>
        rw [hr] at HR
        have HRR := Lib.hid hr
        clear hr
        go_wp2_with (first | fail | ((with_reducible refine load30g (dst := some 35) (C := C) (g := w.heap.size + 1) (o := 0) (by kernel_rfl) ?_ (range_row G2_4.out) hz.out ?_); rfl))
        refine HR.out.mono ?_
        rintro e w5 ⟨rfl, k5⟩
        clear HR
        have G1_5 := Lib.hid (k5.row G1_4.out)
        have G2_5 := Lib.hid (k5.row G2_4.out)
        have K_5 := Lib.hid (K_4.out.trans k5)
        clear k5 G1_4 G2_4 K_4 c0 c1 c2 d0 d8
        have c0 := row_cell (k := 0) G1_5.out rfl
        have c1 := row_cell (k := 1) G1_5.out rfl
        have c2 := row_cell (k := 2) G1_5.out rfl
        have d0 := row_cell G2_5.out h0.out
        have d8 := row_cell G2_5.out h8.out
        by_cases hp : (k.parts.length : Int) ≤ x.part
        · go_wp2_with fail
          go_ret
          exact BPost.mk rfl K_5.out
        have p1 : decide ((k.parts.length : Int) ≤ x.part) = false := decide_eq_false hp
        have HP := Lib.hid hp
        clear hp
        go_upto_region 5 with fail
        clear p1
        have HF := Lib.hid (f_receipt (.slice pa k.parts.length pc) (.slice wa k.wits.length wcp) k C x w5 (HL0.out.kept K_5.out) (HK0.out.kept K_5.out) (HX0.out.kept K_5.out) HSG.out HST.out)
        have hkl := Lib.hid (kRec_len k x)
        have hka := Lib.hid (kRec_all k x)
        have hks : Hid ((ints .u8 (kRec k x)).size = 32) := by show _ = _; rw [ints_size]; exact hkl.out
        have hko := Lib.hid (ints_one .u8 (kRec k x))
        go_wp2_with (first | fail | ((with_reducible refine load30g (dst := some 48) (C := C) (g := w.heap.size + 1) (o := 0) (by kernel_rfl) ?_ (range_row G2_5.out) hz.out ?_); rfl))
        refine HF.out.mono ?_
        rintro e w6 ⟨rfl, k6⟩
        clear HF
        have G1_6 := Lib.hid (k6.row G1_5.out)
        have G2_6 := Lib.hid (k6.row G2_5.out)
        have K_6 := Lib.hid (K_5.out.trans k6)
        clear k6 G1_5 G2_5 K_5 c0 c1 c2 d0 d8
        have ho : Hid (10 + 32 ≤ C.size) := by show _ ≤ _; rw [hz.out]; decide
        go_upto_region 6 with (first | fail | ((with_reducible refine put26 (C := ints .u8 (kRec k x)) (g := w.heap.size + 1) (o := 10) ?_ ?_ hks.out hko.out G2_6.out ho.out ?_); rfl; rfl; intro w7 g7 k7))
        have G2_7 := Lib.hid g7
        have G1_7 := Lib.hid (k7.rowS (by omega) G1_6.out)
        have K_7 := Lib.hid (K_6.out.trans' k7 (fun i hi e => by omega))
        clear g7 k7 G1_6 G2_6 K_6 ho hks hko
        have HD := Lib.hid (RecIn_tagged (HX0.out.kept K_7.out) hkl.out)
        generalize hDg : puts C 10 (ints .u8 (kRec k x)).toList = D at *
        clear hDg
        have hdz := Lib.hid HD.out.size
        have hdo := Lib.hid HD.out.one
        have HT1 : Hid (Re.wi x.tr 1 9 = true) := tr_of k HK3.out HRR.out
        have hB := K_7.out.size
        obtain ⟨yr, kr⟩ := alloc_set w7 Z30 D 30
        have zr := Lib.hid (heap_alloc_new w7 (.cells Z30 30))
        have Y8 := Lib.hid yr
        have G1_8 := Lib.hid (kr.row G1_7.out)
        have G2_8 := Lib.hid (kr.row G2_7.out)
        have K_8 := Lib.hid (K_7.out.trans kr)
        have KD_8 := Lib.hid kr
        have hBw : w7.heap.size ≤ w7.heap.size := Nat.le_refl _
        have hBg := row_lt G2_7.out
        go_upto_region 7 with (first | fail | ((with_reducible refine load30g (dst := some 51) (C := D) (g := w.heap.size + 1) (o := 0) (by kernel_rfl) ?_ (range_row G2_7.out) hdz.out ?_); rfl) | (with_reducible refine alloc30 ?_) | ((with_reducible refine store30 (C := D) ?_ ?_ zr.out Z30_size hdz.out hdo.out ?_); rfl; rfl))
        generalize (w7.alloc (.cells Z30 30)).setRow w7.heap.size D = w8 at *
        generalize hBe : w7.heap.size = B at hB hBg Y8 ⊢
        rw [hBe] at hBw
        have hBw : w7.heap.size ≤ B := Nat.le_of_eq hBe
        clear zr yr kr hBe G1_7 G2_7 K_7
        have htm : t.tmod 5 = t % 5 := by have := HT.out; exact Int.tmod_eq_emod_of_nonneg (by omega)
        have hsl : Hid (x.steps.length ≤ 1000000) := by
          show _ ≤ _
          have := HGR.out
          simp only [greatX, Bool.or_eq_false_iff, decide_eq_false_iff_not] at this
          omega
        have HRG := Lib.hid (ranges3 HK3.out HRR.out)
        have HKN : Hid (x.tag = x.tag) := rfl
        have HT32 := Lib.hid (kRec_len k x)
        have htc : t % 5 = 0 ∨ t % 5 = 1 ∨ t % 5 = 2 ∨ t % 5 = 3 ∨ t % 5 = 4 := by omega
        rcases htc with hc | hc | hc | hc | hc
        · rw [hc] at htm
          clear hc
          have cc := row_cell Y8.out HD.out.c6
          have ff := free_of_block (j := 6) Y8.out
          go_upto_region 17 with fail
          clear cc ff htm
          have kq : Kept (fun i => i = B) w8 (w8.setCell ⟨B, 6, none⟩ (.bool (!x.good))) := (Kept.refl (fun i => i = B) w8).setCell (p := ⟨B, 6, none⟩) (.inl rfl) _
          have G1_9 := Lib.hid (kq.rowS (by omega) G1_8.out)
          have G2_9 := Lib.hid (kq.rowS (by omega) G2_8.out)
          have Y9 := Lib.hid (setCell_block (k := 6) Y8.out (.bool (!x.good)))
          have K_9 := Lib.hid (K_8.out.setCell (p := ⟨B, 6, none⟩) (.inr hB) (.bool (!x.good)))
          have KD_9 := Lib.hid (KD_8.out.setCell (p := ⟨B, 6, none⟩) (.inr hBw) (.bool (!x.good)))
          generalize w8.setCell ⟨B, 6, none⟩ (.bool (!x.good)) = w9 at *
          have HE := Lib.hid ((HD.out.kept KD_9.out).set_good (!x.good))
          have HEe : Hid (apartLaw k { x with tag := (kRec k x).map (fun (m : Nat) => (m : Int)), good := (!x.good) } (kRec k x)) := apart_good k HMM.out HK3.out HRR.out (by have := HP.out; omega)
          have hpw : W64 ((fun y : Rx => y.saga) { x with tag := (kRec k x).map (fun (m : Nat) => (m : Int)), good := (!x.good) }) ∧ W64 ((fun y : Rx => y.step) { x with tag := (kRec k x).map (fun (m : Nat) => (m : Int)), good := (!x.good) }) := by
            have hb := HRG.out
            have h1 := HSG.out
            have h2 := HST.out
            unfold W64 at *
            dsimp only
            constructor <;> omega
          have HPW := Lib.hid hpw
          generalize hEE : D.setIfInBounds 6 (.bool (!x.good)) = E at *
          have HY : Hid (∃ y : Rx, y = { x with tag := (kRec k x).map (fun (m : Nat) => (m : Int)), good := (!x.good) }) := ⟨_, rfl⟩
          obtain ⟨y, hy⟩ := HY.out
          rw [← hy] at HE HEe HPW
          have hyt : Hid (y.tag = (kRec k x).map (fun (m : Nat) => (m : Int)) ∧ y.steps.length ≤ 1000000) := by subst hy; exact ⟨rfl, hsl.out⟩
          clear hy HY hpw hEE G1_8 G2_8 Y8 K_8 KD_8 kq
          have hez := Lib.hid HE.out.size
          have HO := Lib.hid (HE.out.c8)
          generalize hpp : y.part = pt at HO
          have ey := Lib.hid hpp
          clear hpp
          have hyl := Lib.hid (kRec_len k y)
          have hkz : Hid ((ints .u8 (kRec k x)).size = 32) := by show _ = _; rw [ints_size]; exact hkl.out
          have HTG := Lib.hid HD.out.tag
          have HA := HEe.out
          unfold apartLaw at HA
          rw [ey.out] at HA
          by_cases hlt : pt < (k.parts.length : Int)
          · have t9 : decide (pt < (k.parts.length : Int)) = true := decide_eq_true hlt
            rw [t9] at HA
            cases hb2 : decide (kRec k y = kRec k x) with
            | false =>
              rw [hb2] at HA
              have HF0 := Lib.hid (show kHolds k y (kRec k x) = false from HA)
              clear HA
              have HB2 := Lib.hid hb2
              clear hb2
              refine wp_region_held_drew (S := fun w' => Kept (fun _ => False) w9 w') (by kernel_rfl) ((Kept.refl (fun _ => False) w9).drew) (fun hHeld => ?_)
              have HF1 := Lib.hid (fun (w' : World) (hS : Kept (fun _ => False) w9 w') => f_holds (.slice pa k.parts.length pc) (.slice wa k.wits.length wcp) k E y (kRec k x) w' (HL0.out.kept (K_9.out.trans hS)) (HK0.out.kept (K_9.out.trans hS)) (HE.out.kept hS) HPW.out.1 HPW.out.2 hyt.out.2 hyt.out.1 hka.out)
              have HF2 := Lib.hid (fun (w' : World) (hS : Kept (fun _ => False) w9 w') => f_receipt (.slice pa k.parts.length pc) (.slice wa k.wits.length wcp) k E y w' (HL0.out.kept (K_9.out.trans hS)) (HK0.out.kept (K_9.out.trans hS)) (HE.out.kept hS) HPW.out.1 HPW.out.2)
              refine wpAnyH_take (i := 0) (oi := ⟨some 85, _, _, _, _, _⟩) (v := .agg #[.slice pa k.parts.length pc, .slice wa k.wits.length wcp, .int .i64 k.need]) rfl (by kernel_rfl) (by kernel_rfl) (by kernel_rfl) (fun _ _ _ h => h) (Or.inl ⟨by kernel_rfl, fun w' hS => by have c0 := row_cell (k := 0) (hS.row G1_9.out) rfl; have c1 := row_cell (k := 1) (hS.row G1_9.out) rfl; have c2 := row_cell (k := 2) (hS.row G1_9.out) rfl; go_simp⟩) (by assumption) ?_
              try simp only [Act.put, List.setIfInBounds_toArray, List.set_cons_succ, List.set_cons_zero]
              refine wpAnyH_take (i := 1) (oi := ⟨some 86, _, _, _, _, _⟩) (v := .agg E) rfl (by kernel_rfl) (by kernel_rfl) (by kernel_rfl) (fun _ _ _ h => h) (yields30 (g := B) (o := 0) (C := E) (by kernel_rfl) rfl (fun w' hS => range_row (hS.row Y9.out)) hez.out) (by assumption) ?_
              try simp only [Act.put, List.setIfInBounds_toArray, List.set_cons_succ, List.set_cons_zero]
              refine wpAnyH_take (i := 3) (oi := ⟨some 88, _, _, _, _, _⟩) (v := .pointer (some ⟨B, 8, none⟩)) rfl (by kernel_rfl) (by kernel_rfl) (by kernel_rfl) (fun _ _ _ h => h) (Or.inl ⟨by kernel_rfl, fun w' hS => by go_simp⟩) (by assumption) ?_
              try simp only [Act.put, List.setIfInBounds_toArray, List.set_cons_succ, List.set_cons_zero]
              refine wpAnyH_take (i := 4) (oi := ⟨some 89, _, _, _, _, _⟩) (v := .int .i64 pt) rfl (by kernel_rfl) (by kernel_rfl) (by kernel_rfl) (fun _ _ _ h => h) (Or.inl ⟨by kernel_rfl, fun w' hS => by have c8 := row_cell (hS.row Y9.out) HO.out; go_simp⟩) (by assumption) ?_
              try simp only [Act.put, List.setIfInBounds_toArray, List.set_cons_succ, List.set_cons_zero]
              refine wpAnyH_take (i := 5) (oi := ⟨some 90, _, _, _, _, _⟩) (v := .pointer (some ⟨w.heap.size, 0, none⟩)) rfl (by kernel_rfl) (by kernel_rfl) (by kernel_rfl) (fun _ _ _ h => h) (Or.inl ⟨by kernel_rfl, fun w' hS => by go_simp⟩) (by assumption) ?_
              try simp only [Act.put, List.setIfInBounds_toArray, List.set_cons_succ, List.set_cons_zero]
              refine wpAnyH_take (i := 6) (oi := ⟨some 91, _, _, _, _, _⟩) (v := .slice pa k.parts.length pc) rfl (by kernel_rfl) (by kernel_rfl) (by kernel_rfl) (fun _ _ _ h => h) (Or.inl ⟨by kernel_rfl, fun w' hS => by have c0 := row_cell (k := 0) (hS.row G1_9.out) rfl; go_simp⟩) (by assumption) ?_
              try simp only [Act.put, List.setIfInBounds_toArray, List.set_cons_succ, List.set_cons_zero]
              refine wpAnyH_take (i := 7) (oi := ⟨some 92, _, _, _, _, _⟩) (v := .int .i64 (k.parts.length : Int)) rfl (by kernel_rfl) (by kernel_rfl) (by kernel_rfl) (fun _ _ _ h => h) (Or.inl ⟨by kernel_rfl, fun w' hS => by go_simp⟩) (by assumption) ?_
              try simp only [Act.put, List.setIfInBounds_toArray, List.set_cons_succ, List.set_cons_zero]
              refine wpAnyH_take (i := 8) (oi := ⟨some 93, _, _, _, _, _⟩) (v := .bool true) rfl (by kernel_rfl) (by kernel_rfl) (by kernel_rfl) (fun _ _ _ h => h) (Or.inl ⟨by kernel_rfl, fun w' hS => by go_simp⟩) (by assumption) ?_
              try simp only [Act.put, List.setIfInBounds_toArray, List.set_cons_succ, List.set_cons_zero]
              refine wpAnyH_ready (rs := [2]) (by kernel_rfl) (by simp) ?_
              refine AllReadyH.cons (o := _) rfl (fun K hK => ?_) AllReadyH.nil
              go_simp
              refine (hold_is HF0.out (HF1.out _ (by assumption))).mono ?_
              rintro e wx1 ⟨rfl, kx1⟩
              have hS1 : Kept (fun _ => False) w9 wx1 := Kept.trans (by assumption) kx1
              clear kx1 hHeld
              go_wp2_with fail
              refine hK.out _ _ hS1 (fun hHeld => ?_)
              clear hK K
              try simp only [Act.put, List.setIfInBounds_toArray, List.set_cons_succ, List.set_cons_zero]
              refine wpAnyH_take (i := 9) (oi := ⟨some 94, _, _, _, _, _⟩) (v := .bool true) rfl (by kernel_rfl) (by kernel_rfl) (by kernel_rfl) (fun _ _ _ h => h) (Or.inl ⟨by kernel_rfl, fun w' hS => by go_simp⟩) (by assumption) ?_
              try simp only [Act.put, List.setIfInBounds_toArray, List.set_cons_succ, List.set_cons_zero]
              refine wpAnyH_take (i := 10) (oi := ⟨some 95, _, _, _, _, _⟩) (v := .agg #[.slice pa k.parts.length pc, .slice wa k.wits.length wcp, .int .i64 k.need]) rfl (by kernel_rfl) (by kernel_rfl) (by kernel_rfl) (fun _ _ _ h => h) (Or.inl ⟨by kernel_rfl, fun w' hS => by have c0 := row_cell (k := 0) (hS.row G1_9.out) rfl; have c1 := row_cell (k := 1) (hS.row G1_9.out) rfl; have c2 := row_cell (k := 2) (hS.row G1_9.out) rfl; go_simp⟩) (by assumption) ?_
              try simp only [Act.put, List.setIfInBounds_toArray, List.set_cons_succ, List.set_cons_zero]
              refine wpAnyH_take (i := 11) (oi := ⟨some 96, _, _, _, _, _⟩) (v := .agg E) rfl (by kernel_rfl) (by kernel_rfl) (by kernel_rfl) (fun _ _ _ h => h) (yields30 (g := B) (o := 0) (C := E) (by kernel_rfl) rfl (fun w' hS => range_row (hS.row Y9.out)) hez.out) (by assumption) ?_
              try simp only [Act.put, List.setIfInBounds_toArray, List.set_cons_succ, List.set_cons_zero]
              refine wpAnyH_take (i := 13) (oi := ⟨some 98, _, _, _, _, _⟩) (v := .pointer (some ⟨(w.heap.size + 1), 10, none⟩)) rfl (by kernel_rfl) (by kernel_rfl) (by kernel_rfl) (fun _ _ _ h => h) (Or.inl ⟨by kernel_rfl, fun w' hS => by go_simp⟩) (by assumption) ?_
              try simp only [Act.put, List.setIfInBounds_toArray, List.set_cons_succ, List.set_cons_zero]
              refine wpAnyH_take (i := 14) (oi := ⟨some 99, _, _, _, _, _⟩) (v := .agg (ints .u8 (kRec k x))) rfl (by kernel_rfl) (by kernel_rfl) (by kernel_rfl) (fun _ _ _ h => h) (yields26 (g := w.heap.size + 1) (o := 10) (C := ints .u8 (kRec k x)) (by kernel_rfl) rfl (fun w' hS => range_tag (hS.row G2_9.out) HTG.out) hkz.out) (by assumption) ?_
              try simp only [Act.put, List.setIfInBounds_toArray, List.set_cons_succ, List.set_cons_zero]
              refine wpAnyH_ready (rs := [12]) (by kernel_rfl) (by simp) ?_
              refine AllReadyH.cons (o := _) rfl (fun K hK => ?_) AllReadyH.nil
              go_simp
              refine (HF2.out _ (by assumption)).mono ?_
              rintro e wx2 ⟨rfl, kx2⟩
              have hS2 : Kept (fun _ => False) w9 wx2 := Kept.trans (by assumption) kx2
              clear kx2 hHeld
              go_wp2_with fail
              refine hK.out _ _ hS2 (fun hHeld => ?_)
              clear hK K
              try simp only [Act.put, List.setIfInBounds_toArray, List.set_cons_succ, List.set_cons_zero]
              refine wpAnyH_take (i := 15) (oi := ⟨some 100, _, _, _, _, _⟩) (v := .bool false) rfl (by kernel_rfl) (by kernel_rfl) (by kernel_rfl) (fun _ _ _ h => h) (yieldsEq26 (l := kRec k y) (m := kRec k x) HB2.out hyl.out hkl.out (by kernel_rfl) rfl rfl) (by assumption) ?_
              try simp only [Act.put, List.setIfInBounds_toArray, List.set_cons_succ, List.set_cons_zero]
              refine wpAnyH_take (i := 16) (oi := ⟨some 101, _, _, _, _, _⟩) (v := .bool false) rfl (by kernel_rfl) (by kernel_rfl) (by kernel_rfl) (fun _ _ _ h => h) (Or.inl ⟨by kernel_rfl, fun w' hS => by go_simp⟩) (by assumption) ?_
              try simp only [Act.put, List.setIfInBounds_toArray, List.set_cons_succ, List.set_cons_zero]
              refine wpAnyH_take (i := 17) (oi := ⟨some 102, _, _, _, _, _⟩) (v := .bool true) rfl (by kernel_rfl) (by kernel_rfl) (by kernel_rfl) (fun _ _ _ h => h) (Or.inl ⟨by kernel_rfl, fun w' hS => by go_simp⟩) (by assumption) ?_
              try simp only [Act.put, List.setIfInBounds_toArray, List.set_cons_succ, List.set_cons_zero]
              refine wpAnyH_take (i := 18) (oi := ⟨some 6, _, _, _, _, _⟩) (v := .bool true) rfl (by kernel_rfl) (by kernel_rfl) (by kernel_rfl) (fun _ _ _ h => h) (Or.inl ⟨by kernel_rfl, fun w' hS => by go_simp⟩) (by assumption) ?_
              try simp only [Act.put, List.setIfInBounds_toArray, List.set_cons_succ, List.set_cons_zero]
              refine wpAnyH_done (by kernel_rfl) ?_ _
              have KF := Lib.hid (K_9.out.trans hS2)
              go_wp2_with fail
              go_ret
              exact BPost.mk rfl KF.out
            | true =>
              rw [hb2] at HA
              have HF0 := Lib.hid (show kHolds k y (kRec k x) = true from HA)
              clear HA
              have HB2 := Lib.hid hb2
              clear hb2
              refine wp_region_held_drew (S := fun w' => Kept (fun _ => False) w9 w') (by kernel_rfl) ((Kept.refl (fun _ => False) w9).drew) (fun hHeld => ?_)
              have HF1 := Lib.hid (fun (w' : World) (hS : Kept (fun _ => False) w9 w') => f_holds (.slice pa k.parts.length pc) (.slice wa k.wits.length wcp) k E y (kRec k x) w' (HL0.out.kept (K_9.out.trans hS)) (HK0.out.kept (K_9.out.trans hS)) (HE.out.kept hS) HPW.out.1 HPW.out.2 hyt.out.2 hyt.out.1 hka.out)
              have HF2 := Lib.hid (fun (w' : World) (hS : Kept (fun _ => False) w9 w') => f_receipt (.slice pa k.parts.length pc) (.slice wa k.wits.length wcp) k E y w' (HL0.out.kept (K_9.out.trans hS)) (HK0.out.kept (K_9.out.trans hS)) (HE.out.kept hS) HPW.out.1 HPW.out.2)
              refine wpAnyH_take (i := 0) (oi := ⟨some 85, _, _, _, _, _⟩) (v := .agg #[.slice pa k.parts.length pc, .slice wa k.wits.length wcp, .int .i64 k.need]) rfl (by kernel_rfl) (by kernel_rfl) (by kernel_rfl) (fun _ _ _ h => h) (Or.inl ⟨by kernel_rfl, fun w' hS => by have c0 := row_cell (k := 0) (hS.row G1_9.out) rfl; have c1 := row_cell (k := 1) (hS.row G1_9.out) rfl; have c2 := row_cell (k := 2) (hS.row G1_9.out) rfl; go_simp⟩) (by assumption) ?_
              try simp only [Act.put, List.setIfInBounds_toArray, List.set_cons_succ, List.set_cons_zero]
              refine wpAnyH_take (i := 1) (oi := ⟨some 86, _, _, _, _, _⟩) (v := .agg E) rfl (by kernel_rfl) (by kernel_rfl) (by kernel_rfl) (fun _ _ _ h => h) (yields30 (g := B) (o := 0) (C := E) (by kernel_rfl) rfl (fun w' hS => range_row (hS.row Y9.out)) hez.out) (by assumption) ?_
              try simp only [Act.put, List.setIfInBounds_toArray, List.set_cons_succ, List.set_cons_zero]
              refine wpAnyH_take (i := 3) (oi := ⟨some 88, _, _, _, _, _⟩) (v := .pointer (some ⟨B, 8, none⟩)) rfl (by kernel_rfl) (by kernel_rfl) (by kernel_rfl) (fun _ _ _ h => h) (Or.inl ⟨by kernel_rfl, fun w' hS => by go_simp⟩) (by assumption) ?_
              try simp only [Act.put, List.setIfInBounds_toArray, List.set_cons_succ, List.set_cons_zero]
              refine wpAnyH_take (i := 4) (oi := ⟨some 89, _, _, _, _, _⟩) (v := .int .i64 pt) rfl (by kernel_rfl) (by kernel_rfl) (by kernel_rfl) (fun _ _ _ h => h) (Or.inl ⟨by kernel_rfl, fun w' hS => by have c8 := row_cell (hS.row Y9.out) HO.out; go_simp⟩) (by assumption) ?_
              try simp only [Act.put, List.setIfInBounds_toArray, List.set_cons_succ, List.set_cons_zero]
              refine wpAnyH_take (i := 5) (oi := ⟨some 90, _, _, _, _, _⟩) (v := .pointer (some ⟨w.heap.size, 0, none⟩)) rfl (by kernel_rfl) (by kernel_rfl) (by kernel_rfl) (fun _ _ _ h => h) (Or.inl ⟨by kernel_rfl, fun w' hS => by go_simp⟩) (by assumption) ?_
              try simp only [Act.put, List.setIfInBounds_toArray, List.set_cons_succ, List.set_cons_zero]
              refine wpAnyH_take (i := 6) (oi := ⟨some 91, _, _, _, _, _⟩) (v := .slice pa k.parts.length pc) rfl (by kernel_rfl) (by kernel_rfl) (by kernel_rfl) (fun _ _ _ h => h) (Or.inl ⟨by kernel_rfl, fun w' hS => by have c0 := row_cell (k := 0) (hS.row G1_9.out) rfl; go_simp⟩) (by assumption) ?_
              try simp only [Act.put, List.setIfInBounds_toArray, List.set_cons_succ, List.set_cons_zero]
              refine wpAnyH_take (i := 7) (oi := ⟨some 92, _, _, _, _, _⟩) (v := .int .i64 (k.parts.length : Int)) rfl (by kernel_rfl) (by kernel_rfl) (by kernel_rfl) (fun _ _ _ h => h) (Or.inl ⟨by kernel_rfl, fun w' hS => by go_simp⟩) (by assumption) ?_
              try simp only [Act.put, List.setIfInBounds_toArray, List.set_cons_succ, List.set_cons_zero]
              refine wpAnyH_take (i := 8) (oi := ⟨some 93, _, _, _, _, _⟩) (v := .bool true) rfl (by kernel_rfl) (by kernel_rfl) (by kernel_rfl) (fun _ _ _ h => h) (Or.inl ⟨by kernel_rfl, fun w' hS => by go_simp⟩) (by assumption) ?_
              try simp only [Act.put, List.setIfInBounds_toArray, List.set_cons_succ, List.set_cons_zero]
              refine wpAnyH_ready (rs := [2]) (by kernel_rfl) (by simp) ?_
              refine AllReadyH.cons (o := _) rfl (fun K hK => ?_) AllReadyH.nil
              go_simp
              refine (hold_is HF0.out (HF1.out _ (by assumption))).mono ?_
              rintro e wx1 ⟨rfl, kx1⟩
              have hS1 : Kept (fun _ => False) w9 wx1 := Kept.trans (by assumption) kx1
              clear kx1 hHeld
              go_wp2_with fail
              refine hK.out _ _ hS1 (fun hHeld => ?_)
              clear hK K
              try simp only [Act.put, List.setIfInBounds_toArray, List.set_cons_succ, List.set_cons_zero]
              refine wpAnyH_take (i := 9) (oi := ⟨some 94, _, _, _, _, _⟩) (v := .bool true) rfl (by kernel_rfl) (by kernel_rfl) (by kernel_rfl) (fun _ _ _ h => h) (Or.inl ⟨by kernel_rfl, fun w' hS => by go_simp⟩) (by assumption) ?_
              try simp only [Act.put, List.setIfInBounds_toArray, List.set_cons_succ, List.set_cons_zero]
              refine wpAnyH_take (i := 10) (oi := ⟨some 95, _, _, _, _, _⟩) (v := .agg #[.slice pa k.parts.length pc, .slice wa k.wits.length wcp, .int .i64 k.need]) rfl (by kernel_rfl) (by kernel_rfl) (by kernel_rfl) (fun _ _ _ h => h) (Or.inl ⟨by kernel_rfl, fun w' hS => by have c0 := row_cell (k := 0) (hS.row G1_9.out) rfl; have c1 := row_cell (k := 1) (hS.row G1_9.out) rfl; have c2 := row_cell (k := 2) (hS.row G1_9.out) rfl; go_simp⟩) (by assumption) ?_
              try simp only [Act.put, List.setIfInBounds_toArray, List.set_cons_succ, List.set_cons_zero]
              refine wpAnyH_take (i := 11) (oi := ⟨some 96, _, _, _, _, _⟩) (v := .agg E) rfl (by kernel_rfl) (by kernel_rfl) (by kernel_rfl) (fun _ _ _ h => h) (yields30 (g := B) (o := 0) (C := E) (by kernel_rfl) rfl (fun w' hS => range_row (hS.row Y9.out)) hez.out) (by assumption) ?_
              try simp only [Act.put, List.setIfInBounds_toArray, List.set_cons_succ, List.set_cons_zero]
              refine wpAnyH_take (i := 13) (oi := ⟨some 98, _, _, _, _, _⟩) (v := .pointer (some ⟨(w.heap.size + 1), 10, none⟩)) rfl (by kernel_rfl) (by kernel_rfl) (by kernel_rfl) (fun _ _ _ h => h) (Or.inl ⟨by kernel_rfl, fun w' hS => by go_simp⟩) (by assumption) ?_
              try simp only [Act.put, List.setIfInBounds_toArray, List.set_cons_succ, List.set_cons_zero]
              refine wpAnyH_take (i := 14) (oi := ⟨some 99, _, _, _, _, _⟩) (v := .agg (ints .u8 (kRec k x))) rfl (by kernel_rfl) (by kernel_rfl) (by kernel_rfl) (fun _ _ _ h => h) (yields26 (g := w.heap.size + 1) (o := 10) (C := ints .u8 (kRec k x)) (by kernel_rfl) rfl (fun w' hS => range_tag (hS.row G2_9.out) HTG.out) hkz.out) (by assumption) ?_
              try simp only [Act.put, List.setIfInBounds_toArray, List.set_cons_succ, List.set_cons_zero]
              refine wpAnyH_ready (rs := [12]) (by kernel_rfl) (by simp) ?_
              refine AllReadyH.cons (o := _) rfl (fun K hK => ?_) AllReadyH.nil
              go_simp
              refine (HF2.out _ (by assumption)).mono ?_
              rintro e wx2 ⟨rfl, kx2⟩
              have hS2 : Kept (fun _ => False) w9 wx2 := Kept.trans (by assumption) kx2
              clear kx2 hHeld
              go_wp2_with fail
              refine hK.out _ _ hS2 (fun hHeld => ?_)
              clear hK K
              try simp only [Act.put, List.setIfInBounds_toArray, List.set_cons_succ, List.set_cons_zero]
              refine wpAnyH_take (i := 15) (oi := ⟨some 100, _, _, _, _, _⟩) (v := .bool true) rfl (by kernel_rfl) (by kernel_rfl) (by kernel_rfl) (fun _ _ _ h => h) (yieldsEq26 (l := kRec k y) (m := kRec k x) HB2.out hyl.out hkl.out (by kernel_rfl) rfl rfl) (by assumption) ?_
              try simp only [Act.put, List.setIfInBounds_toArray, List.set_cons_succ, List.set_cons_zero]
              refine wpAnyH_take (i := 16) (oi := ⟨some 101, _, _, _, _, _⟩) (v := .bool true) rfl (by kernel_rfl) (by kernel_rfl) (by kernel_rfl) (fun _ _ _ h => h) (Or.inl ⟨by kernel_rfl, fun w' hS => by go_simp⟩) (by assumption) ?_
              try simp only [Act.put, List.setIfInBounds_toArray, List.set_cons_succ, List.set_cons_zero]
              refine wpAnyH_take (i := 17) (oi := ⟨some 102, _, _, _, _, _⟩) (v := .bool true) rfl (by kernel_rfl) (by kernel_rfl) (by kernel_rfl) (fun _ _ _ h => h) (Or.inl ⟨by kernel_rfl, fun w' hS => by go_simp⟩) (by assumption) ?_
              try simp only [Act.put, List.setIfInBounds_toArray, List.set_cons_succ, List.set_cons_zero]
              refine wpAnyH_take (i := 18) (oi := ⟨some 6, _, _, _, _, _⟩) (v := .bool true) rfl (by kernel_rfl) (by kernel_rfl) (by kernel_rfl) (fun _ _ _ h => h) (Or.inl ⟨by kernel_rfl, fun w' hS => by go_simp⟩) (by assumption) ?_
              try simp only [Act.put, List.setIfInBounds_toArray, List.set_cons_succ, List.set_cons_zero]
              refine wpAnyH_done (by kernel_rfl) ?_ _
              have KF := Lib.hid (K_9.out.trans hS2)
              go_wp2_with fail
              go_ret
              exact BPost.mk rfl KF.out
          · have t9 : decide (pt < (k.parts.length : Int)) = false := decide_eq_false hlt
            rw [t9] at HA
            have HF0 := Lib.hid (show kHolds k y (kRec k x) = false from HA)
            clear HA
            clear hlt
            refine wp_region_held_drew (S := fun w' => Kept (fun _ => False) w9 w') (by kernel_rfl) ((Kept.refl (fun _ => False) w9).drew) (fun hHeld => ?_)
            have HF1 := Lib.hid (fun (w' : World) (hS : Kept (fun _ => False) w9 w') => f_holds (.slice pa k.parts.length pc) (.slice wa k.wits.length wcp) k E y (kRec k x) w' (HL0.out.kept (K_9.out.trans hS)) (HK0.out.kept (K_9.out.trans hS)) (HE.out.kept hS) HPW.out.1 HPW.out.2 hyt.out.2 hyt.out.1 hka.out)
            have HF2 := Lib.hid (fun (w' : World) (hS : Kept (fun _ => False) w9 w') => f_receipt (.slice pa k.parts.length pc) (.slice wa k.wits.length wcp) k E y w' (HL0.out.kept (K_9.out.trans hS)) (HK0.out.kept (K_9.out.trans hS)) (HE.out.kept hS) HPW.out.1 HPW.out.2)
            refine wpAnyH_take (i := 0) (oi := ⟨some 85, _, _, _, _, _⟩) (v := .agg #[.slice pa k.parts.length pc, .slice wa k.wits.length wcp, .int .i64 k.need]) rfl (by kernel_rfl) (by kernel_rfl) (by kernel_rfl) (fun _ _ _ h => h) (Or.inl ⟨by kernel_rfl, fun w' hS => by have c0 := row_cell (k := 0) (hS.row G1_9.out) rfl; have c1 := row_cell (k := 1) (hS.row G1_9.out) rfl; have c2 := row_cell (k := 2) (hS.row G1_9.out) rfl; go_simp⟩) (by assumption) ?_
            try simp only [Act.put, List.setIfInBounds_toArray, List.set_cons_succ, List.set_cons_zero]
            refine wpAnyH_take (i := 1) (oi := ⟨some 86, _, _, _, _, _⟩) (v := .agg E) rfl (by kernel_rfl) (by kernel_rfl) (by kernel_rfl) (fun _ _ _ h => h) (yields30 (g := B) (o := 0) (C := E) (by kernel_rfl) rfl (fun w' hS => range_row (hS.row Y9.out)) hez.out) (by assumption) ?_
            try simp only [Act.put, List.setIfInBounds_toArray, List.set_cons_succ, List.set_cons_zero]
            refine wpAnyH_take (i := 3) (oi := ⟨some 88, _, _, _, _, _⟩) (v := .pointer (some ⟨B, 8, none⟩)) rfl (by kernel_rfl) (by kernel_rfl) (by kernel_rfl) (fun _ _ _ h => h) (Or.inl ⟨by kernel_rfl, fun w' hS => by go_simp⟩) (by assumption) ?_
            try simp only [Act.put, List.setIfInBounds_toArray, List.set_cons_succ, List.set_cons_zero]
            refine wpAnyH_take (i := 4) (oi := ⟨some 89, _, _, _, _, _⟩) (v := .int .i64 pt) rfl (by kernel_rfl) (by kernel_rfl) (by kernel_rfl) (fun _ _ _ h => h) (Or.inl ⟨by kernel_rfl, fun w' hS => by have c8 := row_cell (hS.row Y9.out) HO.out; go_simp⟩) (by assumption) ?_
            try simp only [Act.put, List.setIfInBounds_toArray, List.set_cons_succ, List.set_cons_zero]
            refine wpAnyH_take (i := 5) (oi := ⟨some 90, _, _, _, _, _⟩) (v := .pointer (some ⟨w.heap.size, 0, none⟩)) rfl (by kernel_rfl) (by kernel_rfl) (by kernel_rfl) (fun _ _ _ h => h) (Or.inl ⟨by kernel_rfl, fun w' hS => by go_simp⟩) (by assumption) ?_
            try simp only [Act.put, List.setIfInBounds_toArray, List.set_cons_succ, List.set_cons_zero]
            refine wpAnyH_take (i := 6) (oi := ⟨some 91, _, _, _, _, _⟩) (v := .slice pa k.parts.length pc) rfl (by kernel_rfl) (by kernel_rfl) (by kernel_rfl) (fun _ _ _ h => h) (Or.inl ⟨by kernel_rfl, fun w' hS => by have c0 := row_cell (k := 0) (hS.row G1_9.out) rfl; go_simp⟩) (by assumption) ?_
            try simp only [Act.put, List.setIfInBounds_toArray, List.set_cons_succ, List.set_cons_zero]
            refine wpAnyH_take (i := 7) (oi := ⟨some 92, _, _, _, _, _⟩) (v := .int .i64 (k.parts.length : Int)) rfl (by kernel_rfl) (by kernel_rfl) (by kernel_rfl) (fun _ _ _ h => h) (Or.inl ⟨by kernel_rfl, fun w' hS => by go_simp⟩) (by assumption) ?_
            try simp only [Act.put, List.setIfInBounds_toArray, List.set_cons_succ, List.set_cons_zero]
            refine wpAnyH_take (i := 8) (oi := ⟨some 93, _, _, _, _, _⟩) (v := .bool false) rfl (by kernel_rfl) (by kernel_rfl) (by kernel_rfl) (fun _ _ _ h => h) (Or.inl ⟨by kernel_rfl, fun w' hS => by go_simp⟩) (by assumption) ?_
            try simp only [Act.put, List.setIfInBounds_toArray, List.set_cons_succ, List.set_cons_zero]
            refine wpAnyH_ready (rs := [2]) (by kernel_rfl) (by simp) ?_
            refine AllReadyH.cons (o := _) rfl (fun K hK => ?_) AllReadyH.nil
            go_simp
            refine (hold_is HF0.out (HF1.out _ (by assumption))).mono ?_
            rintro e wx1 ⟨rfl, kx1⟩
            have hS1 : Kept (fun _ => False) w9 wx1 := Kept.trans (by assumption) kx1
            clear kx1 hHeld
            go_wp2_with fail
            refine hK.out _ _ hS1 (fun hHeld => ?_)
            clear hK K
            try simp only [Act.put, List.setIfInBounds_toArray, List.set_cons_succ, List.set_cons_zero]
            refine wpAnyH_take (i := 9) (oi := ⟨some 94, _, _, _, _, _⟩) (v := .bool false) rfl (by kernel_rfl) (by kernel_rfl) (by kernel_rfl) (fun _ _ _ h => h) (Or.inl ⟨by kernel_rfl, fun w' hS => by go_simp⟩) (by assumption) ?_
            try simp only [Act.put, List.setIfInBounds_toArray, List.set_cons_succ, List.set_cons_zero]
            refine wpAnyH_take (i := 10) (oi := ⟨some 95, _, _, _, _, _⟩) (v := undef) rfl (by kernel_rfl) (by kernel_rfl) (by kernel_rfl) (fun _ _ _ h => h) (Or.inr ⟨by kernel_rfl, rfl⟩) (by assumption) ?_
            try simp only [Act.put, List.setIfInBounds_toArray, List.set_cons_succ, List.set_cons_zero]
            refine wpAnyH_take (i := 11) (oi := ⟨some 96, _, _, _, _, _⟩) (v := undef) rfl (by kernel_rfl) (by kernel_rfl) (by kernel_rfl) (fun _ _ _ h => h) (Or.inr ⟨by kernel_rfl, rfl⟩) (by assumption) ?_
            try simp only [Act.put, List.setIfInBounds_toArray, List.set_cons_succ, List.set_cons_zero]
            refine wpAnyH_take (i := 12) (oi := ⟨some 97, _, _, _, _, _⟩) (v := undef) rfl (by kernel_rfl) (by kernel_rfl) (by kernel_rfl) (fun _ _ _ h => h) (Or.inr ⟨by kernel_rfl, rfl⟩) (by assumption) ?_
            try simp only [Act.put, List.setIfInBounds_toArray, List.set_cons_succ, List.set_cons_zero]
            refine wpAnyH_take (i := 13) (oi := ⟨some 98, _, _, _, _, _⟩) (v := undef) rfl (by kernel_rfl) (by kernel_rfl) (by kernel_rfl) (fun _ _ _ h => h) (Or.inr ⟨by kernel_rfl, rfl⟩) (by assumption) ?_
            try simp only [Act.put, List.setIfInBounds_toArray, List.set_cons_succ, List.set_cons_zero]
            refine wpAnyH_take (i := 14) (oi := ⟨some 99, _, _, _, _, _⟩) (v := undef) rfl (by kernel_rfl) (by kernel_rfl) (by kernel_rfl) (fun _ _ _ h => h) (Or.inr ⟨by kernel_rfl, rfl⟩) (by assumption) ?_
            try simp only [Act.put, List.setIfInBounds_toArray, List.set_cons_succ, List.set_cons_zero]
            refine wpAnyH_take (i := 15) (oi := ⟨some 100, _, _, _, _, _⟩) (v := undef) rfl (by kernel_rfl) (by kernel_rfl) (by kernel_rfl) (fun _ _ _ h => h) (Or.inr ⟨by kernel_rfl, rfl⟩) (by assumption) ?_
            try simp only [Act.put, List.setIfInBounds_toArray, List.set_cons_succ, List.set_cons_zero]
            refine wpAnyH_take (i := 16) (oi := ⟨some 101, _, _, _, _, _⟩) (v := .bool false) rfl (by kernel_rfl) (by kernel_rfl) (by kernel_rfl) (fun _ _ _ h => h) (Or.inl ⟨by kernel_rfl, fun w' hS => by go_simp⟩) (by assumption) ?_
            try simp only [Act.put, List.setIfInBounds_toArray, List.set_cons_succ, List.set_cons_zero]
            refine wpAnyH_take (i := 17) (oi := ⟨some 102, _, _, _, _, _⟩) (v := .bool true) rfl (by kernel_rfl) (by kernel_rfl) (by kernel_rfl) (fun _ _ _ h => h) (Or.inl ⟨by kernel_rfl, fun w' hS => by go_simp⟩) (by assumption) ?_
            try simp only [Act.put, List.setIfInBounds_toArray, List.set_cons_succ, List.set_cons_zero]
            refine wpAnyH_take (i := 18) (oi := ⟨some 6, _, _, _, _, _⟩) (v := .bool true) rfl (by kernel_rfl) (by kernel_rfl) (by kernel_rfl) (fun _ _ _ h => h) (Or.inl ⟨by kernel_rfl, fun w' hS => by go_simp⟩) (by assumption) ?_
            try simp only [Act.put, List.setIfInBounds_toArray, List.set_cons_succ, List.set_cons_zero]
            refine wpAnyH_done (by kernel_rfl) ?_ _
            have KF := Lib.hid (K_9.out.trans hS1)
            go_wp2_with fail
            go_ret
            exact BPost.mk rfl KF.out
        · rw [hc] at htm
          clear hc
          have cc := row_cell Y8.out HD.out.c5
          have ff := free_of_block (j := 5) Y8.out
          go_upto_region 17 with fail
          clear cc ff htm
          have kq : Kept (fun i => i = B) w8 (w8.setCell ⟨B, 5, none⟩ (.bool (!x.bk))) := (Kept.refl (fun i => i = B) w8).setCell (p := ⟨B, 5, none⟩) (.inl rfl) _
          have G1_9 := Lib.hid (kq.rowS (by omega) G1_8.out)
          have G2_9 := Lib.hid (kq.rowS (by omega) G2_8.out)
          have Y9 := Lib.hid (setCell_block (k := 5) Y8.out (.bool (!x.bk)))
          have K_9 := Lib.hid (K_8.out.setCell (p := ⟨B, 5, none⟩) (.inr hB) (.bool (!x.bk)))
          have KD_9 := Lib.hid (KD_8.out.setCell (p := ⟨B, 5, none⟩) (.inr hBw) (.bool (!x.bk)))
          generalize w8.setCell ⟨B, 5, none⟩ (.bool (!x.bk)) = w9 at *
          have HE := Lib.hid ((HD.out.kept KD_9.out).set_bk (!x.bk))
          have HEe : Hid (apartLaw k { x with tag := (kRec k x).map (fun (m : Nat) => (m : Int)), bk := (!x.bk) } (kRec k x)) := apart_bk k HMM.out HK3.out HRR.out (by have := HP.out; omega)
          have hpw : W64 ((fun y : Rx => y.saga) { x with tag := (kRec k x).map (fun (m : Nat) => (m : Int)), bk := (!x.bk) }) ∧ W64 ((fun y : Rx => y.step) { x with tag := (kRec k x).map (fun (m : Nat) => (m : Int)), bk := (!x.bk) }) := by
            have hb := HRG.out
            have h1 := HSG.out
            have h2 := HST.out
            unfold W64 at *
            dsimp only
            constructor <;> omega
          have HPW := Lib.hid hpw
          generalize hEE : D.setIfInBounds 5 (.bool (!x.bk)) = E at *
          have HY : Hid (∃ y : Rx, y = { x with tag := (kRec k x).map (fun (m : Nat) => (m : Int)), bk := (!x.bk) }) := ⟨_, rfl⟩
          obtain ⟨y, hy⟩ := HY.out
          rw [← hy] at HE HEe HPW
          have hyt : Hid (y.tag = (kRec k x).map (fun (m : Nat) => (m : Int)) ∧ y.steps.length ≤ 1000000) := by subst hy; exact ⟨rfl, hsl.out⟩
          clear hy HY hpw hEE G1_8 G2_8 Y8 K_8 KD_8 kq
          have hez := Lib.hid HE.out.size
          have HO := Lib.hid (HE.out.c8)
          generalize hpp : y.part = pt at HO
          have ey := Lib.hid hpp
          clear hpp
          have hyl := Lib.hid (kRec_len k y)
          have hkz : Hid ((ints .u8 (kRec k x)).size = 32) := by show _ = _; rw [ints_size]; exact hkl.out
          have HTG := Lib.hid HD.out.tag
          have HA := HEe.out
          unfold apartLaw at HA
          rw [ey.out] at HA
          by_cases hlt : pt < (k.parts.length : Int)
          · have t9 : decide (pt < (k.parts.length : Int)) = true := decide_eq_true hlt
            rw [t9] at HA
            cases hb2 : decide (kRec k y = kRec k x) with
            | false =>
              rw [hb2] at HA
              have HF0 := Lib.hid (show kHolds k y (kRec k x) = false from HA)
              clear HA
              have HB2 := Lib.hid hb2
              clear hb2
              refine wp_region_held_drew (S := fun w' => Kept (fun _ => False) w9 w') (by kernel_rfl) ((Kept.refl (fun _ => False) w9).drew) (fun hHeld => ?_)
              have HF1 := Lib.hid (fun (w' : World) (hS : Kept (fun _ => False) w9 w') => f_holds (.slice pa k.parts.length pc) (.slice wa k.wits.length wcp) k E y (kRec k x) w' (HL0.out.kept (K_9.out.trans hS)) (HK0.out.kept (K_9.out.trans hS)) (HE.out.kept hS) HPW.out.1 HPW.out.2 hyt.out.2 hyt.out.1 hka.out)
              have HF2 := Lib.hid (fun (w' : World) (hS : Kept (fun _ => False) w9 w') => f_receipt (.slice pa k.parts.length pc) (.slice wa k.wits.length wcp) k E y w' (HL0.out.kept (K_9.out.trans hS)) (HK0.out.kept (K_9.out.trans hS)) (HE.out.kept hS) HPW.out.1 HPW.out.2)
              refine wpAnyH_take (i := 0) (oi := ⟨some 85, _, _, _, _, _⟩) (v := .agg #[.slice pa k.parts.length pc, .slice wa k.wits.length wcp, .int .i64 k.need]) rfl (by kernel_rfl) (by kernel_rfl) (by kernel_rfl) (fun _ _ _ h => h) (Or.inl ⟨by kernel_rfl, fun w' hS => by have c0 := row_cell (k := 0) (hS.row G1_9.out) rfl; have c1 := row_cell (k := 1) (hS.row G1_9.out) rfl; have c2 := row_cell (k := 2) (hS.row G1_9.out) rfl; go_simp⟩) (by assumption) ?_
              try simp only [Act.put, List.setIfInBounds_toArray, List.set_cons_succ, List.set_cons_zero]
              refine wpAnyH_take (i := 1) (oi := ⟨some 86, _, _, _, _, _⟩) (v := .agg E) rfl (by kernel_rfl) (by kernel_rfl) (by kernel_rfl) (fun _ _ _ h => h) (yields30 (g := B) (o := 0) (C := E) (by kernel_rfl) rfl (fun w' hS => range_row (hS.row Y9.out)) hez.out) (by assumption) ?_
              try simp only [Act.put, List.setIfInBounds_toArray, List.set_cons_succ, List.set_cons_zero]
              refine wpAnyH_take (i := 3) (oi := ⟨some 88, _, _, _, _, _⟩) (v := .pointer (some ⟨B, 8, none⟩)) rfl (by kernel_rfl) (by kernel_rfl) (by kernel_rfl) (fun _ _ _ h => h) (Or.inl ⟨by kernel_rfl, fun w' hS => by go_simp⟩) (by assumption) ?_
              try simp only [Act.put, List.setIfInBounds_toArray, List.set_cons_succ, List.set_cons_zero]
              refine wpAnyH_take (i := 4) (oi := ⟨some 89, _, _, _, _, _⟩) (v := .int .i64 pt) rfl (by kernel_rfl) (by kernel_rfl) (by kernel_rfl) (fun _ _ _ h => h) (Or.inl ⟨by kernel_rfl, fun w' hS => by have c8 := row_cell (hS.row Y9.out) HO.out; go_simp⟩) (by assumption) ?_
              try simp only [Act.put, List.setIfInBounds_toArray, List.set_cons_succ, List.set_cons_zero]
              refine wpAnyH_take (i := 5) (oi := ⟨some 90, _, _, _, _, _⟩) (v := .pointer (some ⟨w.heap.size, 0, none⟩)) rfl (by kernel_rfl) (by kernel_rfl) (by kernel_rfl) (fun _ _ _ h => h) (Or.inl ⟨by kernel_rfl, fun w' hS => by go_simp⟩) (by assumption) ?_
              try simp only [Act.put, List.setIfInBounds_toArray, List.set_cons_succ, List.set_cons_zero]
              refine wpAnyH_take (i := 6) (oi := ⟨some 91, _, _, _, _, _⟩) (v := .slice pa k.parts.length pc) rfl (by kernel_rfl) (by kernel_rfl) (by kernel_rfl) (fun _ _ _ h => h) (Or.inl ⟨by kernel_rfl, fun w' hS => by have c0 := row_cell (k := 0) (hS.row G1_9.out) rfl; go_simp⟩) (by assumption) ?_
              try simp only [Act.put, List.setIfInBounds_toArray, List.set_cons_succ, List.set_cons_zero]
              refine wpAnyH_take (i := 7) (oi := ⟨some 92, _, _, _, _, _⟩) (v := .int .i64 (k.parts.length : Int)) rfl (by kernel_rfl) (by kernel_rfl) (by kernel_rfl) (fun _ _ _ h => h) (Or.inl ⟨by kernel_rfl, fun w' hS => by go_simp⟩) (by assumption) ?_
              try simp only [Act.put, List.setIfInBounds_toArray, List.set_cons_succ, List.set_cons_zero]
              refine wpAnyH_take (i := 8) (oi := ⟨some 93, _, _, _, _, _⟩) (v := .bool true) rfl (by kernel_rfl) (by kernel_rfl) (by kernel_rfl) (fun _ _ _ h => h) (Or.inl ⟨by kernel_rfl, fun w' hS => by go_simp⟩) (by assumption) ?_
              try simp only [Act.put, List.setIfInBounds_toArray, List.set_cons_succ, List.set_cons_zero]
              refine wpAnyH_ready (rs := [2]) (by kernel_rfl) (by simp) ?_
              refine AllReadyH.cons (o := _) rfl (fun K hK => ?_) AllReadyH.nil
              go_simp
              refine (hold_is HF0.out (HF1.out _ (by assumption))).mono ?_
              rintro e wx1 ⟨rfl, kx1⟩
              have hS1 : Kept (fun _ => False) w9 wx1 := Kept.trans (by assumption) kx1
              clear kx1 hHeld
              go_wp2_with fail
              refine hK.out _ _ hS1 (fun hHeld => ?_)
              clear hK K
              try simp only [Act.put, List.setIfInBounds_toArray, List.set_cons_succ, List.set_cons_zero]
              refine wpAnyH_take (i := 9) (oi := ⟨some 94, _, _, _, _, _⟩) (v := .bool true) rfl (by kernel_rfl) (by kernel_rfl) (by kernel_rfl) (fun _ _ _ h => h) (Or.inl ⟨by kernel_rfl, fun w' hS => by go_simp⟩) (by assumption) ?_
              try simp only [Act.put, List.setIfInBounds_toArray, List.set_cons_succ, List.set_cons_zero]
              refine wpAnyH_take (i := 10) (oi := ⟨some 95, _, _, _, _, _⟩) (v := .agg #[.slice pa k.parts.length pc, .slice wa k.wits.length wcp, .int .i64 k.need]) rfl (by kernel_rfl) (by kernel_rfl) (by kernel_rfl) (fun _ _ _ h => h) (Or.inl ⟨by kernel_rfl, fun w' hS => by have c0 := row_cell (k := 0) (hS.row G1_9.out) rfl; have c1 := row_cell (k := 1) (hS.row G1_9.out) rfl; have c2 := row_cell (k := 2) (hS.row G1_9.out) rfl; go_simp⟩) (by assumption) ?_
              try simp only [Act.put, List.setIfInBounds_toArray, List.set_cons_succ, List.set_cons_zero]
              refine wpAnyH_take (i := 11) (oi := ⟨some 96, _, _, _, _, _⟩) (v := .agg E) rfl (by kernel_rfl) (by kernel_rfl) (by kernel_rfl) (fun _ _ _ h => h) (yields30 (g := B) (o := 0) (C := E) (by kernel_rfl) rfl (fun w' hS => range_row (hS.row Y9.out)) hez.out) (by assumption) ?_
              try simp only [Act.put, List.setIfInBounds_toArray, List.set_cons_succ, List.set_cons_zero]
              refine wpAnyH_take (i := 13) (oi := ⟨some 98, _, _, _, _, _⟩) (v := .pointer (some ⟨(w.heap.size + 1), 10, none⟩)) rfl (by kernel_rfl) (by kernel_rfl) (by kernel_rfl) (fun _ _ _ h => h) (Or.inl ⟨by kernel_rfl, fun w' hS => by go_simp⟩) (by assumption) ?_
              try simp only [Act.put, List.setIfInBounds_toArray, List.set_cons_succ, List.set_cons_zero]
              refine wpAnyH_take (i := 14) (oi := ⟨some 99, _, _, _, _, _⟩) (v := .agg (ints .u8 (kRec k x))) rfl (by kernel_rfl) (by kernel_rfl) (by kernel_rfl) (fun _ _ _ h => h) (yields26 (g := w.heap.size + 1) (o := 10) (C := ints .u8 (kRec k x)) (by kernel_rfl) rfl (fun w' hS => range_tag (hS.row G2_9.out) HTG.out) hkz.out) (by assumption) ?_
              try simp only [Act.put, List.setIfInBounds_toArray, List.set_cons_succ, List.set_cons_zero]
              refine wpAnyH_ready (rs := [12]) (by kernel_rfl) (by simp) ?_
              refine AllReadyH.cons (o := _) rfl (fun K hK => ?_) AllReadyH.nil
              go_simp
              refine (HF2.out _ (by assumption)).mono ?_
              rintro e wx2 ⟨rfl, kx2⟩
              have hS2 : Kept (fun _ => False) w9 wx2 := Kept.trans (by assumption) kx2
              clear kx2 hHeld
              go_wp2_with fail
              refine hK.out _ _ hS2 (fun hHeld => ?_)
              clear hK K
              try simp only [Act.put, List.setIfInBounds_toArray, List.set_cons_succ, List.set_cons_zero]
              refine wpAnyH_take (i := 15) (oi := ⟨some 100, _, _, _, _, _⟩) (v := .bool false) rfl (by kernel_rfl) (by kernel_rfl) (by kernel_rfl) (fun _ _ _ h => h) (yieldsEq26 (l := kRec k y) (m := kRec k x) HB2.out hyl.out hkl.out (by kernel_rfl) rfl rfl) (by assumption) ?_
              try simp only [Act.put, List.setIfInBounds_toArray, List.set_cons_succ, List.set_cons_zero]
              refine wpAnyH_take (i := 16) (oi := ⟨some 101, _, _, _, _, _⟩) (v := .bool false) rfl (by kernel_rfl) (by kernel_rfl) (by kernel_rfl) (fun _ _ _ h => h) (Or.inl ⟨by kernel_rfl, fun w' hS => by go_simp⟩) (by assumption) ?_
              try simp only [Act.put, List.setIfInBounds_toArray, List.set_cons_succ, List.set_cons_zero]
              refine wpAnyH_take (i := 17) (oi := ⟨some 102, _, _, _, _, _⟩) (v := .bool true) rfl (by kernel_rfl) (by kernel_rfl) (by kernel_rfl) (fun _ _ _ h => h) (Or.inl ⟨by kernel_rfl, fun w' hS => by go_simp⟩) (by assumption) ?_
              try simp only [Act.put, List.setIfInBounds_toArray, List.set_cons_succ, List.set_cons_zero]
              refine wpAnyH_take (i := 18) (oi := ⟨some 6, _, _, _, _, _⟩) (v := .bool true) rfl (by kernel_rfl) (by kernel_rfl) (by kernel_rfl) (fun _ _ _ h => h) (Or.inl ⟨by kernel_rfl, fun w' hS => by go_simp⟩) (by assumption) ?_
              try simp only [Act.put, List.setIfInBounds_toArray, List.set_cons_succ, List.set_cons_zero]
              refine wpAnyH_done (by kernel_rfl) ?_ _
              have KF := Lib.hid (K_9.out.trans hS2)
              go_wp2_with fail
              go_ret
              exact BPost.mk rfl KF.out
            | true =>
              rw [hb2] at HA
              have HF0 := Lib.hid (show kHolds k y (kRec k x) = true from HA)
              clear HA
              have HB2 := Lib.hid hb2
              clear hb2
              refine wp_region_held_drew (S := fun w' => Kept (fun _ => False) w9 w') (by kernel_rfl) ((Kept.refl (fun _ => False) w9).drew) (fun hHeld => ?_)
              have HF1 := Lib.hid (fun (w' : World) (hS : Kept (fun _ => False) w9 w') => f_holds (.slice pa k.parts.length pc) (.slice wa k.wits.length wcp) k E y (kRec k x) w' (HL0.out.kept (K_9.out.trans hS)) (HK0.out.kept (K_9.out.trans hS)) (HE.out.kept hS) HPW.out.1 HPW.out.2 hyt.out.2 hyt.out.1 hka.out)
              have HF2 := Lib.hid (fun (w' : World) (hS : Kept (fun _ => False) w9 w') => f_receipt (.slice pa k.parts.length pc) (.slice wa k.wits.length wcp) k E y w' (HL0.out.kept (K_9.out.trans hS)) (HK0.out.kept (K_9.out.trans hS)) (HE.out.kept hS) HPW.out.1 HPW.out.2)
              refine wpAnyH_take (i := 0) (oi := ⟨some 85, _, _, _, _, _⟩) (v := .agg #[.slice pa k.parts.length pc, .slice wa k.wits.length wcp, .int .i64 k.need]) rfl (by kernel_rfl) (by kernel_rfl) (by kernel_rfl) (fun _ _ _ h => h) (Or.inl ⟨by kernel_rfl, fun w' hS => by have c0 := row_cell (k := 0) (hS.row G1_9.out) rfl; have c1 := row_cell (k := 1) (hS.row G1_9.out) rfl; have c2 := row_cell (k := 2) (hS.row G1_9.out) rfl; go_simp⟩) (by assumption) ?_
              try simp only [Act.put, List.setIfInBounds_toArray, List.set_cons_succ, List.set_cons_zero]
              refine wpAnyH_take (i := 1) (oi := ⟨some 86, _, _, _, _, _⟩) (v := .agg E) rfl (by kernel_rfl) (by kernel_rfl) (by kernel_rfl) (fun _ _ _ h => h) (yields30 (g := B) (o := 0) (C := E) (by kernel_rfl) rfl (fun w' hS => range_row (hS.row Y9.out)) hez.out) (by assumption) ?_
              try simp only [Act.put, List.setIfInBounds_toArray, List.set_cons_succ, List.set_cons_zero]
              refine wpAnyH_take (i := 3) (oi := ⟨some 88, _, _, _, _, _⟩) (v := .pointer (some ⟨B, 8, none⟩)) rfl (by kernel_rfl) (by kernel_rfl) (by kernel_rfl) (fun _ _ _ h => h) (Or.inl ⟨by kernel_rfl, fun w' hS => by go_simp⟩) (by assumption) ?_
              try simp only [Act.put, List.setIfInBounds_toArray, List.set_cons_succ, List.set_cons_zero]
              refine wpAnyH_take (i := 4) (oi := ⟨some 89, _, _, _, _, _⟩) (v := .int .i64 pt) rfl (by kernel_rfl) (by kernel_rfl) (by kernel_rfl) (fun _ _ _ h => h) (Or.inl ⟨by kernel_rfl, fun w' hS => by have c8 := row_cell (hS.row Y9.out) HO.out; go_simp⟩) (by assumption) ?_
              try simp only [Act.put, List.setIfInBounds_toArray, List.set_cons_succ, List.set_cons_zero]
              refine wpAnyH_take (i := 5) (oi := ⟨some 90, _, _, _, _, _⟩) (v := .pointer (some ⟨w.heap.size, 0, none⟩)) rfl (by kernel_rfl) (by kernel_rfl) (by kernel_rfl) (fun _ _ _ h => h) (Or.inl ⟨by kernel_rfl, fun w' hS => by go_simp⟩) (by assumption) ?_
              try simp only [Act.put, List.setIfInBounds_toArray, List.set_cons_succ, List.set_cons_zero]
              refine wpAnyH_take (i := 6) (oi := ⟨some 91, _, _, _, _, _⟩) (v := .slice pa k.parts.length pc) rfl (by kernel_rfl) (by kernel_rfl) (by kernel_rfl) (fun _ _ _ h => h) (Or.inl ⟨by kernel_rfl, fun w' hS => by have c0 := row_cell (k := 0) (hS.row G1_9.out) rfl; go_simp⟩) (by assumption) ?_
              try simp only [Act.put, List.setIfInBounds_toArray, List.set_cons_succ, List.set_cons_zero]
              refine wpAnyH_take (i := 7) (oi := ⟨some 92, _, _, _, _, _⟩) (v := .int .i64 (k.parts.length : Int)) rfl (by kernel_rfl) (by kernel_rfl) (by kernel_rfl) (fun _ _ _ h => h) (Or.inl ⟨by kernel_rfl, fun w' hS => by go_simp⟩) (by assumption) ?_
              try simp only [Act.put, List.setIfInBounds_toArray, List.set_cons_succ, List.set_cons_zero]
              refine wpAnyH_take (i := 8) (oi := ⟨some 93, _, _, _, _, _⟩) (v := .bool true) rfl (by kernel_rfl) (by kernel_rfl) (by kernel_rfl) (fun _ _ _ h => h) (Or.inl ⟨by kernel_rfl, fun w' hS => by go_simp⟩) (by assumption) ?_
              try simp only [Act.put, List.setIfInBounds_toArray, List.set_cons_succ, List.set_cons_zero]
              refine wpAnyH_ready (rs := [2]) (by kernel_rfl) (by simp) ?_
              refine AllReadyH.cons (o := _) rfl (fun K hK => ?_) AllReadyH.nil
              go_simp
              refine (hold_is HF0.out (HF1.out _ (by assumption))).mono ?_
              rintro e wx1 ⟨rfl, kx1⟩
              have hS1 : Kept (fun _ => False) w9 wx1 := Kept.trans (by assumption) kx1
              clear kx1 hHeld
              go_wp2_with fail
              refine hK.out _ _ hS1 (fun hHeld => ?_)
              clear hK K
              try simp only [Act.put, List.setIfInBounds_toArray, List.set_cons_succ, List.set_cons_zero]
              refine wpAnyH_take (i := 9) (oi := ⟨some 94, _, _, _, _, _⟩) (v := .bool true) rfl (by kernel_rfl) (by kernel_rfl) (by kernel_rfl) (fun _ _ _ h => h) (Or.inl ⟨by kernel_rfl, fun w' hS => by go_simp⟩) (by assumption) ?_
              try simp only [Act.put, List.setIfInBounds_toArray, List.set_cons_succ, List.set_cons_zero]
              refine wpAnyH_take (i := 10) (oi := ⟨some 95, _, _, _, _, _⟩) (v := .agg #[.slice pa k.parts.length pc, .slice wa k.wits.length wcp, .int .i64 k.need]) rfl (by kernel_rfl) (by kernel_rfl) (by kernel_rfl) (fun _ _ _ h => h) (Or.inl ⟨by kernel_rfl, fun w' hS => by have c0 := row_cell (k := 0) (hS.row G1_9.out) rfl; have c1 := row_cell (k := 1) (hS.row G1_9.out) rfl; have c2 := row_cell (k := 2) (hS.row G1_9.out) rfl; go_simp⟩) (by assumption) ?_
              try simp only [Act.put, List.setIfInBounds_toArray, List.set_cons_succ, List.set_cons_zero]
              refine wpAnyH_take (i := 11) (oi := ⟨some 96, _, _, _, _, _⟩) (v := .agg E) rfl (by kernel_rfl) (by kernel_rfl) (by kernel_rfl) (fun _ _ _ h => h) (yields30 (g := B) (o := 0) (C := E) (by kernel_rfl) rfl (fun w' hS => range_row (hS.row Y9.out)) hez.out) (by assumption) ?_
              try simp only [Act.put, List.setIfInBounds_toArray, List.set_cons_succ, List.set_cons_zero]
              refine wpAnyH_take (i := 13) (oi := ⟨some 98, _, _, _, _, _⟩) (v := .pointer (some ⟨(w.heap.size + 1), 10, none⟩)) rfl (by kernel_rfl) (by kernel_rfl) (by kernel_rfl) (fun _ _ _ h => h) (Or.inl ⟨by kernel_rfl, fun w' hS => by go_simp⟩) (by assumption) ?_
              try simp only [Act.put, List.setIfInBounds_toArray, List.set_cons_succ, List.set_cons_zero]
              refine wpAnyH_take (i := 14) (oi := ⟨some 99, _, _, _, _, _⟩) (v := .agg (ints .u8 (kRec k x))) rfl (by kernel_rfl) (by kernel_rfl) (by kernel_rfl) (fun _ _ _ h => h) (yields26 (g := w.heap.size + 1) (o := 10) (C := ints .u8 (kRec k x)) (by kernel_rfl) rfl (fun w' hS => range_tag (hS.row G2_9.out) HTG.out) hkz.out) (by assumption) ?_
              try simp only [Act.put, List.setIfInBounds_toArray, List.set_cons_succ, List.set_cons_zero]
              refine wpAnyH_ready (rs := [12]) (by kernel_rfl) (by simp) ?_
              refine AllReadyH.cons (o := _) rfl (fun K hK => ?_) AllReadyH.nil
              go_simp
              refine (HF2.out _ (by assumption)).mono ?_
              rintro e wx2 ⟨rfl, kx2⟩
              have hS2 : Kept (fun _ => False) w9 wx2 := Kept.trans (by assumption) kx2
              clear kx2 hHeld
              go_wp2_with fail
              refine hK.out _ _ hS2 (fun hHeld => ?_)
              clear hK K
              try simp only [Act.put, List.setIfInBounds_toArray, List.set_cons_succ, List.set_cons_zero]
              refine wpAnyH_take (i := 15) (oi := ⟨some 100, _, _, _, _, _⟩) (v := .bool true) rfl (by kernel_rfl) (by kernel_rfl) (by kernel_rfl) (fun _ _ _ h => h) (yieldsEq26 (l := kRec k y) (m := kRec k x) HB2.out hyl.out hkl.out (by kernel_rfl) rfl rfl) (by assumption) ?_
              try simp only [Act.put, List.setIfInBounds_toArray, List.set_cons_succ, List.set_cons_zero]
              refine wpAnyH_take (i := 16) (oi := ⟨some 101, _, _, _, _, _⟩) (v := .bool true) rfl (by kernel_rfl) (by kernel_rfl) (by kernel_rfl) (fun _ _ _ h => h) (Or.inl ⟨by kernel_rfl, fun w' hS => by go_simp⟩) (by assumption) ?_
              try simp only [Act.put, List.setIfInBounds_toArray, List.set_cons_succ, List.set_cons_zero]
              refine wpAnyH_take (i := 17) (oi := ⟨some 102, _, _, _, _, _⟩) (v := .bool true) rfl (by kernel_rfl) (by kernel_rfl) (by kernel_rfl) (fun _ _ _ h => h) (Or.inl ⟨by kernel_rfl, fun w' hS => by go_simp⟩) (by assumption) ?_
              try simp only [Act.put, List.setIfInBounds_toArray, List.set_cons_succ, List.set_cons_zero]
              refine wpAnyH_take (i := 18) (oi := ⟨some 6, _, _, _, _, _⟩) (v := .bool true) rfl (by kernel_rfl) (by kernel_rfl) (by kernel_rfl) (fun _ _ _ h => h) (Or.inl ⟨by kernel_rfl, fun w' hS => by go_simp⟩) (by assumption) ?_
              try simp only [Act.put, List.setIfInBounds_toArray, List.set_cons_succ, List.set_cons_zero]
              refine wpAnyH_done (by kernel_rfl) ?_ _
              have KF := Lib.hid (K_9.out.trans hS2)
              go_wp2_with fail
              go_ret
              exact BPost.mk rfl KF.out
          · have t9 : decide (pt < (k.parts.length : Int)) = false := decide_eq_false hlt
            rw [t9] at HA
            have HF0 := Lib.hid (show kHolds k y (kRec k x) = false from HA)
            clear HA
            clear hlt
            refine wp_region_held_drew (S := fun w' => Kept (fun _ => False) w9 w') (by kernel_rfl) ((Kept.refl (fun _ => False) w9).drew) (fun hHeld => ?_)
            have HF1 := Lib.hid (fun (w' : World) (hS : Kept (fun _ => False) w9 w') => f_holds (.slice pa k.parts.length pc) (.slice wa k.wits.length wcp) k E y (kRec k x) w' (HL0.out.kept (K_9.out.trans hS)) (HK0.out.kept (K_9.out.trans hS)) (HE.out.kept hS) HPW.out.1 HPW.out.2 hyt.out.2 hyt.out.1 hka.out)
            have HF2 := Lib.hid (fun (w' : World) (hS : Kept (fun _ => False) w9 w') => f_receipt (.slice pa k.parts.length pc) (.slice wa k.wits.length wcp) k E y w' (HL0.out.kept (K_9.out.trans hS)) (HK0.out.kept (K_9.out.trans hS)) (HE.out.kept hS) HPW.out.1 HPW.out.2)
            refine wpAnyH_take (i := 0) (oi := ⟨some 85, _, _, _, _, _⟩) (v := .agg #[.slice pa k.parts.length pc, .slice wa k.wits.length wcp, .int .i64 k.need]) rfl (by kernel_rfl) (by kernel_rfl) (by kernel_rfl) (fun _ _ _ h => h) (Or.inl ⟨by kernel_rfl, fun w' hS => by have c0 := row_cell (k := 0) (hS.row G1_9.out) rfl; have c1 := row_cell (k := 1) (hS.row G1_9.out) rfl; have c2 := row_cell (k := 2) (hS.row G1_9.out) rfl; go_simp⟩) (by assumption) ?_
            try simp only [Act.put, List.setIfInBounds_toArray, List.set_cons_succ, List.set_cons_zero]
            refine wpAnyH_take (i := 1) (oi := ⟨some 86, _, _, _, _, _⟩) (v := .agg E) rfl (by kernel_rfl) (by kernel_rfl) (by kernel_rfl) (fun _ _ _ h => h) (yields30 (g := B) (o := 0) (C := E) (by kernel_rfl) rfl (fun w' hS => range_row (hS.row Y9.out)) hez.out) (by assumption) ?_
            try simp only [Act.put, List.setIfInBounds_toArray, List.set_cons_succ, List.set_cons_zero]
            refine wpAnyH_take (i := 3) (oi := ⟨some 88, _, _, _, _, _⟩) (v := .pointer (some ⟨B, 8, none⟩)) rfl (by kernel_rfl) (by kernel_rfl) (by kernel_rfl) (fun _ _ _ h => h) (Or.inl ⟨by kernel_rfl, fun w' hS => by go_simp⟩) (by assumption) ?_
            try simp only [Act.put, List.setIfInBounds_toArray, List.set_cons_succ, List.set_cons_zero]
            refine wpAnyH_take (i := 4) (oi := ⟨some 89, _, _, _, _, _⟩) (v := .int .i64 pt) rfl (by kernel_rfl) (by kernel_rfl) (by kernel_rfl) (fun _ _ _ h => h) (Or.inl ⟨by kernel_rfl, fun w' hS => by have c8 := row_cell (hS.row Y9.out) HO.out; go_simp⟩) (by assumption) ?_
            try simp only [Act.put, List.setIfInBounds_toArray, List.set_cons_succ, List.set_cons_zero]
            refine wpAnyH_take (i := 5) (oi := ⟨some 90, _, _, _, _, _⟩) (v := .pointer (some ⟨w.heap.size, 0, none⟩)) rfl (by kernel_rfl) (by kernel_rfl) (by kernel_rfl) (fun _ _ _ h => h) (Or.inl ⟨by kernel_rfl, fun w' hS => by go_simp⟩) (by assumption) ?_
            try simp only [Act.put, List.setIfInBounds_toArray, List.set_cons_succ, List.set_cons_zero]
            refine wpAnyH_take (i := 6) (oi := ⟨some 91, _, _, _, _, _⟩) (v := .slice pa k.parts.length pc) rfl (by kernel_rfl) (by kernel_rfl) (by kernel_rfl) (fun _ _ _ h => h) (Or.inl ⟨by kernel_rfl, fun w' hS => by have c0 := row_cell (k := 0) (hS.row G1_9.out) rfl; go_simp⟩) (by assumption) ?_
            try simp only [Act.put, List.setIfInBounds_toArray, List.set_cons_succ, List.set_cons_zero]
            refine wpAnyH_take (i := 7) (oi := ⟨some 92, _, _, _, _, _⟩) (v := .int .i64 (k.parts.length : Int)) rfl (by kernel_rfl) (by kernel_rfl) (by kernel_rfl) (fun _ _ _ h => h) (Or.inl ⟨by kernel_rfl, fun w' hS => by go_simp⟩) (by assumption) ?_
            try simp only [Act.put, List.setIfInBounds_toArray, List.set_cons_succ, List.set_cons_zero]
            refine wpAnyH_take (i := 8) (oi := ⟨some 93, _, _, _, _, _⟩) (v := .bool false) rfl (by kernel_rfl) (by kernel_rfl) (by kernel_rfl) (fun _ _ _ h => h) (Or.inl ⟨by kernel_rfl, fun w' hS => by go_simp⟩) (by assumption) ?_
            try simp only [Act.put, List.setIfInBounds_toArray, List.set_cons_succ, List.set_cons_zero]
            refine wpAnyH_ready (rs := [2]) (by kernel_rfl) (by simp) ?_
            refine AllReadyH.cons (o := _) rfl (fun K hK => ?_) AllReadyH.nil
            go_simp
            refine (hold_is HF0.out (HF1.out _ (by assumption))).mono ?_
            rintro e wx1 ⟨rfl, kx1⟩
            have hS1 : Kept (fun _ => False) w9 wx1 := Kept.trans (by assumption) kx1
            clear kx1 hHeld
            go_wp2_with fail
            refine hK.out _ _ hS1 (fun hHeld => ?_)
            clear hK K
            try simp only [Act.put, List.setIfInBounds_toArray, List.set_cons_succ, List.set_cons_zero]
            refine wpAnyH_take (i := 9) (oi := ⟨some 94, _, _, _, _, _⟩) (v := .bool false) rfl (by kernel_rfl) (by kernel_rfl) (by kernel_rfl) (fun _ _ _ h => h) (Or.inl ⟨by kernel_rfl, fun w' hS => by go_simp⟩) (by assumption) ?_
            try simp only [Act.put, List.setIfInBounds_toArray, List.set_cons_succ, List.set_cons_zero]
            refine wpAnyH_take (i := 10) (oi := ⟨some 95, _, _, _, _, _⟩) (v := undef) rfl (by kernel_rfl) (by kernel_rfl) (by kernel_rfl) (fun _ _ _ h => h) (Or.inr ⟨by kernel_rfl, rfl⟩) (by assumption) ?_
            try simp only [Act.put, List.setIfInBounds_toArray, List.set_cons_succ, List.set_cons_zero]
            refine wpAnyH_take (i := 11) (oi := ⟨some 96, _, _, _, _, _⟩) (v := undef) rfl (by kernel_rfl) (by kernel_rfl) (by kernel_rfl) (fun _ _ _ h => h) (Or.inr ⟨by kernel_rfl, rfl⟩) (by assumption) ?_
            try simp only [Act.put, List.setIfInBounds_toArray, List.set_cons_succ, List.set_cons_zero]
            refine wpAnyH_take (i := 12) (oi := ⟨some 97, _, _, _, _, _⟩) (v := undef) rfl (by kernel_rfl) (by kernel_rfl) (by kernel_rfl) (fun _ _ _ h => h) (Or.inr ⟨by kernel_rfl, rfl⟩) (by assumption) ?_
            try simp only [Act.put, List.setIfInBounds_toArray, List.set_cons_succ, List.set_cons_zero]
            refine wpAnyH_take (i := 13) (oi := ⟨some 98, _, _, _, _, _⟩) (v := undef) rfl (by kernel_rfl) (by kernel_rfl) (by kernel_rfl) (fun _ _ _ h => h) (Or.inr ⟨by kernel_rfl, rfl⟩) (by assumption) ?_
            try simp only [Act.put, List.setIfInBounds_toArray, List.set_cons_succ, List.set_cons_zero]
            refine wpAnyH_take (i := 14) (oi := ⟨some 99, _, _, _, _, _⟩) (v := undef) rfl (by kernel_rfl) (by kernel_rfl) (by kernel_rfl) (fun _ _ _ h => h) (Or.inr ⟨by kernel_rfl, rfl⟩) (by assumption) ?_
            try simp only [Act.put, List.setIfInBounds_toArray, List.set_cons_succ, List.set_cons_zero]
            refine wpAnyH_take (i := 15) (oi := ⟨some 100, _, _, _, _, _⟩) (v := undef) rfl (by kernel_rfl) (by kernel_rfl) (by kernel_rfl) (fun _ _ _ h => h) (Or.inr ⟨by kernel_rfl, rfl⟩) (by assumption) ?_
            try simp only [Act.put, List.setIfInBounds_toArray, List.set_cons_succ, List.set_cons_zero]
            refine wpAnyH_take (i := 16) (oi := ⟨some 101, _, _, _, _, _⟩) (v := .bool false) rfl (by kernel_rfl) (by kernel_rfl) (by kernel_rfl) (fun _ _ _ h => h) (Or.inl ⟨by kernel_rfl, fun w' hS => by go_simp⟩) (by assumption) ?_
            try simp only [Act.put, List.setIfInBounds_toArray, List.set_cons_succ, List.set_cons_zero]
            refine wpAnyH_take (i := 17) (oi := ⟨some 102, _, _, _, _, _⟩) (v := .bool true) rfl (by kernel_rfl) (by kernel_rfl) (by kernel_rfl) (fun _ _ _ h => h) (Or.inl ⟨by kernel_rfl, fun w' hS => by go_simp⟩) (by assumption) ?_
            try simp only [Act.put, List.setIfInBounds_toArray, List.set_cons_succ, List.set_cons_zero]
            refine wpAnyH_take (i := 18) (oi := ⟨some 6, _, _, _, _, _⟩) (v := .bool true) rfl (by kernel_rfl) (by kernel_rfl) (by kernel_rfl) (fun _ _ _ h => h) (Or.inl ⟨by kernel_rfl, fun w' hS => by go_simp⟩) (by assumption) ?_
            try simp only [Act.put, List.setIfInBounds_toArray, List.set_cons_succ, List.set_cons_zero]
            refine wpAnyH_done (by kernel_rfl) ?_ _
            have KF := Lib.hid (K_9.out.trans hS1)
            go_wp2_with fail
            go_ret
            exact BPost.mk rfl KF.out
        · rw [hc] at htm
          clear hc
          have hb := HRG.out
          have ev : (wrap64 (x.saga + 1)).tmod 12 = (x.saga + 1) % 12 := by rw [IntWalk.wrap64_in (x.saga + 1) (by omega)]; exact Int.tmod_eq_emod_of_nonneg (by omega)
          clear hb
          have cc := row_cell Y8.out HD.out.c1
          have ff := free_of_block (j := 1) Y8.out
          go_upto_region 17 with fail
          try rw [ev]
          clear ev
          clear cc ff htm
          have kq : Kept (fun i => i = B) w8 (w8.setCell ⟨B, 1, none⟩ (.int .i64 ((x.saga + 1) % 12))) := (Kept.refl (fun i => i = B) w8).setCell (p := ⟨B, 1, none⟩) (.inl rfl) _
          have G1_9 := Lib.hid (kq.rowS (by omega) G1_8.out)
          have G2_9 := Lib.hid (kq.rowS (by omega) G2_8.out)
          have Y9 := Lib.hid (setCell_block (k := 1) Y8.out (.int .i64 ((x.saga + 1) % 12)))
          have K_9 := Lib.hid (K_8.out.setCell (p := ⟨B, 1, none⟩) (.inr hB) (.int .i64 ((x.saga + 1) % 12)))
          have KD_9 := Lib.hid (KD_8.out.setCell (p := ⟨B, 1, none⟩) (.inr hBw) (.int .i64 ((x.saga + 1) % 12)))
          generalize w8.setCell ⟨B, 1, none⟩ (.int .i64 ((x.saga + 1) % 12)) = w9 at *
          have HE := Lib.hid ((HD.out.kept KD_9.out).set_saga ((x.saga + 1) % 12))
          have HEe : Hid (apartLaw k { x with tag := (kRec k x).map (fun (m : Nat) => (m : Int)), saga := ((x.saga + 1) % 12) } (kRec k x)) := apart_saga k HMM.out HK3.out HRR.out (by have := HP.out; omega)
          have hpw : W64 ((fun y : Rx => y.saga) { x with tag := (kRec k x).map (fun (m : Nat) => (m : Int)), saga := ((x.saga + 1) % 12) }) ∧ W64 ((fun y : Rx => y.step) { x with tag := (kRec k x).map (fun (m : Nat) => (m : Int)), saga := ((x.saga + 1) % 12) }) := by
            have hb := HRG.out
            have h1 := HSG.out
            have h2 := HST.out
            unfold W64 at *
            dsimp only
            constructor <;> omega
          have HPW := Lib.hid hpw
          generalize hEE : D.setIfInBounds 1 (.int .i64 ((x.saga + 1) % 12)) = E at *
          have HY : Hid (∃ y : Rx, y = { x with tag := (kRec k x).map (fun (m : Nat) => (m : Int)), saga := ((x.saga + 1) % 12) }) := ⟨_, rfl⟩
          obtain ⟨y, hy⟩ := HY.out
          rw [← hy] at HE HEe HPW
          have hyt : Hid (y.tag = (kRec k x).map (fun (m : Nat) => (m : Int)) ∧ y.steps.length ≤ 1000000) := by subst hy; exact ⟨rfl, hsl.out⟩
          clear hy HY hpw hEE G1_8 G2_8 Y8 K_8 KD_8 kq
          have hez := Lib.hid HE.out.size
          have HO := Lib.hid (HE.out.c8)
          generalize hpp : y.part = pt at HO
          have ey := Lib.hid hpp
          clear hpp
          have hyl := Lib.hid (kRec_len k y)
          have hkz : Hid ((ints .u8 (kRec k x)).size = 32) := by show _ = _; rw [ints_size]; exact hkl.out
          have HTG := Lib.hid HD.out.tag
          have HA := HEe.out
          unfold apartLaw at HA
          rw [ey.out] at HA
          by_cases hlt : pt < (k.parts.length : Int)
          · have t9 : decide (pt < (k.parts.length : Int)) = true := decide_eq_true hlt
            rw [t9] at HA
            cases hb2 : decide (kRec k y = kRec k x) with
            | false =>
              rw [hb2] at HA
              have HF0 := Lib.hid (show kHolds k y (kRec k x) = false from HA)
              clear HA
              have HB2 := Lib.hid hb2
              clear hb2
              refine wp_region_held_drew (S := fun w' => Kept (fun _ => False) w9 w') (by kernel_rfl) ((Kept.refl (fun _ => False) w9).drew) (fun hHeld => ?_)
              have HF1 := Lib.hid (fun (w' : World) (hS : Kept (fun _ => False) w9 w') => f_holds (.slice pa k.parts.length pc) (.slice wa k.wits.length wcp) k E y (kRec k x) w' (HL0.out.kept (K_9.out.trans hS)) (HK0.out.kept (K_9.out.trans hS)) (HE.out.kept hS) HPW.out.1 HPW.out.2 hyt.out.2 hyt.out.1 hka.out)
              have HF2 := Lib.hid (fun (w' : World) (hS : Kept (fun _ => False) w9 w') => f_receipt (.slice pa k.parts.length pc) (.slice wa k.wits.length wcp) k E y w' (HL0.out.kept (K_9.out.trans hS)) (HK0.out.kept (K_9.out.trans hS)) (HE.out.kept hS) HPW.out.1 HPW.out.2)
              refine wpAnyH_take (i := 0) (oi := ⟨some 85, _, _, _, _, _⟩) (v := .agg #[.slice pa k.parts.length pc, .slice wa k.wits.length wcp, .int .i64 k.need]) rfl (by kernel_rfl) (by kernel_rfl) (by kernel_rfl) (fun _ _ _ h => h) (Or.inl ⟨by kernel_rfl, fun w' hS => by have c0 := row_cell (k := 0) (hS.row G1_9.out) rfl; have c1 := row_cell (k := 1) (hS.row G1_9.out) rfl; have c2 := row_cell (k := 2) (hS.row G1_9.out) rfl; go_simp⟩) (by assumption) ?_
              try simp only [Act.put, List.setIfInBounds_toArray, List.set_cons_succ, List.set_cons_zero]
              refine wpAnyH_take (i := 1) (oi := ⟨some 86, _, _, _, _, _⟩) (v := .agg E) rfl (by kernel_rfl) (by kernel_rfl) (by kernel_rfl) (fun _ _ _ h => h) (yields30 (g := B) (o := 0) (C := E) (by kernel_rfl) rfl (fun w' hS => range_row (hS.row Y9.out)) hez.out) (by assumption) ?_
              try simp only [Act.put, List.setIfInBounds_toArray, List.set_cons_succ, List.set_cons_zero]
              refine wpAnyH_take (i := 3) (oi := ⟨some 88, _, _, _, _, _⟩) (v := .pointer (some ⟨B, 8, none⟩)) rfl (by kernel_rfl) (by kernel_rfl) (by kernel_rfl) (fun _ _ _ h => h) (Or.inl ⟨by kernel_rfl, fun w' hS => by go_simp⟩) (by assumption) ?_
              try simp only [Act.put, List.setIfInBounds_toArray, List.set_cons_succ, List.set_cons_zero]
              refine wpAnyH_take (i := 4) (oi := ⟨some 89, _, _, _, _, _⟩) (v := .int .i64 pt) rfl (by kernel_rfl) (by kernel_rfl) (by kernel_rfl) (fun _ _ _ h => h) (Or.inl ⟨by kernel_rfl, fun w' hS => by have c8 := row_cell (hS.row Y9.out) HO.out; go_simp⟩) (by assumption) ?_
              try simp only [Act.put, List.setIfInBounds_toArray, List.set_cons_succ, List.set_cons_zero]
              refine wpAnyH_take (i := 5) (oi := ⟨some 90, _, _, _, _, _⟩) (v := .pointer (some ⟨w.heap.size, 0, none⟩)) rfl (by kernel_rfl) (by kernel_rfl) (by kernel_rfl) (fun _ _ _ h => h) (Or.inl ⟨by kernel_rfl, fun w' hS => by go_simp⟩) (by assumption) ?_
              try simp only [Act.put, List.setIfInBounds_toArray, List.set_cons_succ, List.set_cons_zero]
              refine wpAnyH_take (i := 6) (oi := ⟨some 91, _, _, _, _, _⟩) (v := .slice pa k.parts.length pc) rfl (by kernel_rfl) (by kernel_rfl) (by kernel_rfl) (fun _ _ _ h => h) (Or.inl ⟨by kernel_rfl, fun w' hS => by have c0 := row_cell (k := 0) (hS.row G1_9.out) rfl; go_simp⟩) (by assumption) ?_
              try simp only [Act.put, List.setIfInBounds_toArray, List.set_cons_succ, List.set_cons_zero]
              refine wpAnyH_take (i := 7) (oi := ⟨some 92, _, _, _, _, _⟩) (v := .int .i64 (k.parts.length : Int)) rfl (by kernel_rfl) (by kernel_rfl) (by kernel_rfl) (fun _ _ _ h => h) (Or.inl ⟨by kernel_rfl, fun w' hS => by go_simp⟩) (by assumption) ?_
              try simp only [Act.put, List.setIfInBounds_toArray, List.set_cons_succ, List.set_cons_zero]
              refine wpAnyH_take (i := 8) (oi := ⟨some 93, _, _, _, _, _⟩) (v := .bool true) rfl (by kernel_rfl) (by kernel_rfl) (by kernel_rfl) (fun _ _ _ h => h) (Or.inl ⟨by kernel_rfl, fun w' hS => by go_simp⟩) (by assumption) ?_
              try simp only [Act.put, List.setIfInBounds_toArray, List.set_cons_succ, List.set_cons_zero]
              refine wpAnyH_ready (rs := [2]) (by kernel_rfl) (by simp) ?_
              refine AllReadyH.cons (o := _) rfl (fun K hK => ?_) AllReadyH.nil
              go_simp
              refine (hold_is HF0.out (HF1.out _ (by assumption))).mono ?_
              rintro e wx1 ⟨rfl, kx1⟩
              have hS1 : Kept (fun _ => False) w9 wx1 := Kept.trans (by assumption) kx1
              clear kx1 hHeld
              go_wp2_with fail
              refine hK.out _ _ hS1 (fun hHeld => ?_)
              clear hK K
              try simp only [Act.put, List.setIfInBounds_toArray, List.set_cons_succ, List.set_cons_zero]
              refine wpAnyH_take (i := 9) (oi := ⟨some 94, _, _, _, _, _⟩) (v := .bool true) rfl (by kernel_rfl) (by kernel_rfl) (by kernel_rfl) (fun _ _ _ h => h) (Or.inl ⟨by kernel_rfl, fun w' hS => by go_simp⟩) (by assumption) ?_
              try simp only [Act.put, List.setIfInBounds_toArray, List.set_cons_succ, List.set_cons_zero]
              refine wpAnyH_take (i := 10) (oi := ⟨some 95, _, _, _, _, _⟩) (v := .agg #[.slice pa k.parts.length pc, .slice wa k.wits.length wcp, .int .i64 k.need]) rfl (by kernel_rfl) (by kernel_rfl) (by kernel_rfl) (fun _ _ _ h => h) (Or.inl ⟨by kernel_rfl, fun w' hS => by have c0 := row_cell (k := 0) (hS.row G1_9.out) rfl; have c1 := row_cell (k := 1) (hS.row G1_9.out) rfl; have c2 := row_cell (k := 2) (hS.row G1_9.out) rfl; go_simp⟩) (by assumption) ?_
              try simp only [Act.put, List.setIfInBounds_toArray, List.set_cons_succ, List.set_cons_zero]
              refine wpAnyH_take (i := 11) (oi := ⟨some 96, _, _, _, _, _⟩) (v := .agg E) rfl (by kernel_rfl) (by kernel_rfl) (by kernel_rfl) (fun _ _ _ h => h) (yields30 (g := B) (o := 0) (C := E) (by kernel_rfl) rfl (fun w' hS => range_row (hS.row Y9.out)) hez.out) (by assumption) ?_
              try simp only [Act.put, List.setIfInBounds_toArray, List.set_cons_succ, List.set_cons_zero]
              refine wpAnyH_take (i := 13) (oi := ⟨some 98, _, _, _, _, _⟩) (v := .pointer (some ⟨(w.heap.size + 1), 10, none⟩)) rfl (by kernel_rfl) (by kernel_rfl) (by kernel_rfl) (fun _ _ _ h => h) (Or.inl ⟨by kernel_rfl, fun w' hS => by go_simp⟩) (by assumption) ?_
              try simp only [Act.put, List.setIfInBounds_toArray, List.set_cons_succ, List.set_cons_zero]
              refine wpAnyH_take (i := 14) (oi := ⟨some 99, _, _, _, _, _⟩) (v := .agg (ints .u8 (kRec k x))) rfl (by kernel_rfl) (by kernel_rfl) (by kernel_rfl) (fun _ _ _ h => h) (yields26 (g := w.heap.size + 1) (o := 10) (C := ints .u8 (kRec k x)) (by kernel_rfl) rfl (fun w' hS => range_tag (hS.row G2_9.out) HTG.out) hkz.out) (by assumption) ?_
              try simp only [Act.put, List.setIfInBounds_toArray, List.set_cons_succ, List.set_cons_zero]
              refine wpAnyH_ready (rs := [12]) (by kernel_rfl) (by simp) ?_
              refine AllReadyH.cons (o := _) rfl (fun K hK => ?_) AllReadyH.nil
              go_simp
              refine (HF2.out _ (by assumption)).mono ?_
              rintro e wx2 ⟨rfl, kx2⟩
              have hS2 : Kept (fun _ => False) w9 wx2 := Kept.trans (by assumption) kx2
              clear kx2 hHeld
              go_wp2_with fail
              refine hK.out _ _ hS2 (fun hHeld => ?_)
              clear hK K
              try simp only [Act.put, List.setIfInBounds_toArray, List.set_cons_succ, List.set_cons_zero]
              refine wpAnyH_take (i := 15) (oi := ⟨some 100, _, _, _, _, _⟩) (v := .bool false) rfl (by kernel_rfl) (by kernel_rfl) (by kernel_rfl) (fun _ _ _ h => h) (yieldsEq26 (l := kRec k y) (m := kRec k x) HB2.out hyl.out hkl.out (by kernel_rfl) rfl rfl) (by assumption) ?_
              try simp only [Act.put, List.setIfInBounds_toArray, List.set_cons_succ, List.set_cons_zero]
              refine wpAnyH_take (i := 16) (oi := ⟨some 101, _, _, _, _, _⟩) (v := .bool false) rfl (by kernel_rfl) (by kernel_rfl) (by kernel_rfl) (fun _ _ _ h => h) (Or.inl ⟨by kernel_rfl, fun w' hS => by go_simp⟩) (by assumption) ?_
              try simp only [Act.put, List.setIfInBounds_toArray, List.set_cons_succ, List.set_cons_zero]
              refine wpAnyH_take (i := 17) (oi := ⟨some 102, _, _, _, _, _⟩) (v := .bool true) rfl (by kernel_rfl) (by kernel_rfl) (by kernel_rfl) (fun _ _ _ h => h) (Or.inl ⟨by kernel_rfl, fun w' hS => by go_simp⟩) (by assumption) ?_
              try simp only [Act.put, List.setIfInBounds_toArray, List.set_cons_succ, List.set_cons_zero]
              refine wpAnyH_take (i := 18) (oi := ⟨some 6, _, _, _, _, _⟩) (v := .bool true) rfl (by kernel_rfl) (by kernel_rfl) (by kernel_rfl) (fun _ _ _ h => h) (Or.inl ⟨by kernel_rfl, fun w' hS => by go_simp⟩) (by assumption) ?_
              try simp only [Act.put, List.setIfInBounds_toArray, List.set_cons_succ, List.set_cons_zero]
              refine wpAnyH_done (by kernel_rfl) ?_ _
              have KF := Lib.hid (K_9.out.trans hS2)
              go_wp2_with fail
              go_ret
              exact BPost.mk rfl KF.out
            | true =>
              rw [hb2] at HA
              have HF0 := Lib.hid (show kHolds k y (kRec k x) = true from HA)
              clear HA
              have HB2 := Lib.hid hb2
              clear hb2
              refine wp_region_held_drew (S := fun w' => Kept (fun _ => False) w9 w') (by kernel_rfl) ((Kept.refl (fun _ => False) w9).drew) (fun hHeld => ?_)
              have HF1 := Lib.hid (fun (w' : World) (hS : Kept (fun _ => False) w9 w') => f_holds (.slice pa k.parts.length pc) (.slice wa k.wits.length wcp) k E y (kRec k x) w' (HL0.out.kept (K_9.out.trans hS)) (HK0.out.kept (K_9.out.trans hS)) (HE.out.kept hS) HPW.out.1 HPW.out.2 hyt.out.2 hyt.out.1 hka.out)
              have HF2 := Lib.hid (fun (w' : World) (hS : Kept (fun _ => False) w9 w') => f_receipt (.slice pa k.parts.length pc) (.slice wa k.wits.length wcp) k E y w' (HL0.out.kept (K_9.out.trans hS)) (HK0.out.kept (K_9.out.trans hS)) (HE.out.kept hS) HPW.out.1 HPW.out.2)
              refine wpAnyH_take (i := 0) (oi := ⟨some 85, _, _, _, _, _⟩) (v := .agg #[.slice pa k.parts.length pc, .slice wa k.wits.length wcp, .int .i64 k.need]) rfl (by kernel_rfl) (by kernel_rfl) (by kernel_rfl) (fun _ _ _ h => h) (Or.inl ⟨by kernel_rfl, fun w' hS => by have c0 := row_cell (k := 0) (hS.row G1_9.out) rfl; have c1 := row_cell (k := 1) (hS.row G1_9.out) rfl; have c2 := row_cell (k := 2) (hS.row G1_9.out) rfl; go_simp⟩) (by assumption) ?_
              try simp only [Act.put, List.setIfInBounds_toArray, List.set_cons_succ, List.set_cons_zero]
              refine wpAnyH_take (i := 1) (oi := ⟨some 86, _, _, _, _, _⟩) (v := .agg E) rfl (by kernel_rfl) (by kernel_rfl) (by kernel_rfl) (fun _ _ _ h => h) (yields30 (g := B) (o := 0) (C := E) (by kernel_rfl) rfl (fun w' hS => range_row (hS.row Y9.out)) hez.out) (by assumption) ?_
              try simp only [Act.put, List.setIfInBounds_toArray, List.set_cons_succ, List.set_cons_zero]
              refine wpAnyH_take (i := 3) (oi := ⟨some 88, _, _, _, _, _⟩) (v := .pointer (some ⟨B, 8, none⟩)) rfl (by kernel_rfl) (by kernel_rfl) (by kernel_rfl) (fun _ _ _ h => h) (Or.inl ⟨by kernel_rfl, fun w' hS => by go_simp⟩) (by assumption) ?_
              try simp only [Act.put, List.setIfInBounds_toArray, List.set_cons_succ, List.set_cons_zero]
              refine wpAnyH_take (i := 4) (oi := ⟨some 89, _, _, _, _, _⟩) (v := .int .i64 pt) rfl (by kernel_rfl) (by kernel_rfl) (by kernel_rfl) (fun _ _ _ h => h) (Or.inl ⟨by kernel_rfl, fun w' hS => by have c8 := row_cell (hS.row Y9.out) HO.out; go_simp⟩) (by assumption) ?_
              try simp only [Act.put, List.setIfInBounds_toArray, List.set_cons_succ, List.set_cons_zero]
              refine wpAnyH_take (i := 5) (oi := ⟨some 90, _, _, _, _, _⟩) (v := .pointer (some ⟨w.heap.size, 0, none⟩)) rfl (by kernel_rfl) (by kernel_rfl) (by kernel_rfl) (fun _ _ _ h => h) (Or.inl ⟨by kernel_rfl, fun w' hS => by go_simp⟩) (by assumption) ?_
              try simp only [Act.put, List.setIfInBounds_toArray, List.set_cons_succ, List.set_cons_zero]
              refine wpAnyH_take (i := 6) (oi := ⟨some 91, _, _, _, _, _⟩) (v := .slice pa k.parts.length pc) rfl (by kernel_rfl) (by kernel_rfl) (by kernel_rfl) (fun _ _ _ h => h) (Or.inl ⟨by kernel_rfl, fun w' hS => by have c0 := row_cell (k := 0) (hS.row G1_9.out) rfl; go_simp⟩) (by assumption) ?_
              try simp only [Act.put, List.setIfInBounds_toArray, List.set_cons_succ, List.set_cons_zero]
              refine wpAnyH_take (i := 7) (oi := ⟨some 92, _, _, _, _, _⟩) (v := .int .i64 (k.parts.length : Int)) rfl (by kernel_rfl) (by kernel_rfl) (by kernel_rfl) (fun _ _ _ h => h) (Or.inl ⟨by kernel_rfl, fun w' hS => by go_simp⟩) (by assumption) ?_
              try simp only [Act.put, List.setIfInBounds_toArray, List.set_cons_succ, List.set_cons_zero]
              refine wpAnyH_take (i := 8) (oi := ⟨some 93, _, _, _, _, _⟩) (v := .bool true) rfl (by kernel_rfl) (by kernel_rfl) (by kernel_rfl) (fun _ _ _ h => h) (Or.inl ⟨by kernel_rfl, fun w' hS => by go_simp⟩) (by assumption) ?_
              try simp only [Act.put, List.setIfInBounds_toArray, List.set_cons_succ, List.set_cons_zero]
              refine wpAnyH_ready (rs := [2]) (by kernel_rfl) (by simp) ?_
              refine AllReadyH.cons (o := _) rfl (fun K hK => ?_) AllReadyH.nil
              go_simp
              refine (hold_is HF0.out (HF1.out _ (by assumption))).mono ?_
              rintro e wx1 ⟨rfl, kx1⟩
              have hS1 : Kept (fun _ => False) w9 wx1 := Kept.trans (by assumption) kx1
              clear kx1 hHeld
              go_wp2_with fail
              refine hK.out _ _ hS1 (fun hHeld => ?_)
              clear hK K
              try simp only [Act.put, List.setIfInBounds_toArray, List.set_cons_succ, List.set_cons_zero]
              refine wpAnyH_take (i := 9) (oi := ⟨some 94, _, _, _, _, _⟩) (v := .bool true) rfl (by kernel_rfl) (by kernel_rfl) (by kernel_rfl) (fun _ _ _ h => h) (Or.inl ⟨by kernel_rfl, fun w' hS => by go_simp⟩) (by assumption) ?_
              try simp only [Act.put, List.setIfInBounds_toArray, List.set_cons_succ, List.set_cons_zero]
              refine wpAnyH_take (i := 10) (oi := ⟨some 95, _, _, _, _, _⟩) (v := .agg #[.slice pa k.parts.length pc, .slice wa k.wits.length wcp, .int .i64 k.need]) rfl (by kernel_rfl) (by kernel_rfl) (by kernel_rfl) (fun _ _ _ h => h) (Or.inl ⟨by kernel_rfl, fun w' hS => by have c0 := row_cell (k := 0) (hS.row G1_9.out) rfl; have c1 := row_cell (k := 1) (hS.row G1_9.out) rfl; have c2 := row_cell (k := 2) (hS.row G1_9.out) rfl; go_simp⟩) (by assumption) ?_
              try simp only [Act.put, List.setIfInBounds_toArray, List.set_cons_succ, List.set_cons_zero]
              refine wpAnyH_take (i := 11) (oi := ⟨some 96, _, _, _, _, _⟩) (v := .agg E) rfl (by kernel_rfl) (by kernel_rfl) (by kernel_rfl) (fun _ _ _ h => h) (yields30 (g := B) (o := 0) (C := E) (by kernel_rfl) rfl (fun w' hS => range_row (hS.row Y9.out)) hez.out) (by assumption) ?_
              try simp only [Act.put, List.setIfInBounds_toArray, List.set_cons_succ, List.set_cons_zero]
              refine wpAnyH_take (i := 13) (oi := ⟨some 98, _, _, _, _, _⟩) (v := .pointer (some ⟨(w.heap.size + 1), 10, none⟩)) rfl (by kernel_rfl) (by kernel_rfl) (by kernel_rfl) (fun _ _ _ h => h) (Or.inl ⟨by kernel_rfl, fun w' hS => by go_simp⟩) (by assumption) ?_
              try simp only [Act.put, List.setIfInBounds_toArray, List.set_cons_succ, List.set_cons_zero]
              refine wpAnyH_take (i := 14) (oi := ⟨some 99, _, _, _, _, _⟩) (v := .agg (ints .u8 (kRec k x))) rfl (by kernel_rfl) (by kernel_rfl) (by kernel_rfl) (fun _ _ _ h => h) (yields26 (g := w.heap.size + 1) (o := 10) (C := ints .u8 (kRec k x)) (by kernel_rfl) rfl (fun w' hS => range_tag (hS.row G2_9.out) HTG.out) hkz.out) (by assumption) ?_
              try simp only [Act.put, List.setIfInBounds_toArray, List.set_cons_succ, List.set_cons_zero]
              refine wpAnyH_ready (rs := [12]) (by kernel_rfl) (by simp) ?_
              refine AllReadyH.cons (o := _) rfl (fun K hK => ?_) AllReadyH.nil
              go_simp
              refine (HF2.out _ (by assumption)).mono ?_
              rintro e wx2 ⟨rfl, kx2⟩
              have hS2 : Kept (fun _ => False) w9 wx2 := Kept.trans (by assumption) kx2
              clear kx2 hHeld
              go_wp2_with fail
              refine hK.out _ _ hS2 (fun hHeld => ?_)
              clear hK K
              try simp only [Act.put, List.setIfInBounds_toArray, List.set_cons_succ, List.set_cons_zero]
              refine wpAnyH_take (i := 15) (oi := ⟨some 100, _, _, _, _, _⟩) (v := .bool true) rfl (by kernel_rfl) (by kernel_rfl) (by kernel_rfl) (fun _ _ _ h => h) (yieldsEq26 (l := kRec k y) (m := kRec k x) HB2.out hyl.out hkl.out (by kernel_rfl) rfl rfl) (by assumption) ?_
              try simp only [Act.put, List.setIfInBounds_toArray, List.set_cons_succ, List.set_cons_zero]
              refine wpAnyH_take (i := 16) (oi := ⟨some 101, _, _, _, _, _⟩) (v := .bool true) rfl (by kernel_rfl) (by kernel_rfl) (by kernel_rfl) (fun _ _ _ h => h) (Or.inl ⟨by kernel_rfl, fun w' hS => by go_simp⟩) (by assumption) ?_
              try simp only [Act.put, List.setIfInBounds_toArray, List.set_cons_succ, List.set_cons_zero]
              refine wpAnyH_take (i := 17) (oi := ⟨some 102, _, _, _, _, _⟩) (v := .bool true) rfl (by kernel_rfl) (by kernel_rfl) (by kernel_rfl) (fun _ _ _ h => h) (Or.inl ⟨by kernel_rfl, fun w' hS => by go_simp⟩) (by assumption) ?_
              try simp only [Act.put, List.setIfInBounds_toArray, List.set_cons_succ, List.set_cons_zero]
              refine wpAnyH_take (i := 18) (oi := ⟨some 6, _, _, _, _, _⟩) (v := .bool true) rfl (by kernel_rfl) (by kernel_rfl) (by kernel_rfl) (fun _ _ _ h => h) (Or.inl ⟨by kernel_rfl, fun w' hS => by go_simp⟩) (by assumption) ?_
              try simp only [Act.put, List.setIfInBounds_toArray, List.set_cons_succ, List.set_cons_zero]
              refine wpAnyH_done (by kernel_rfl) ?_ _
              have KF := Lib.hid (K_9.out.trans hS2)
              go_wp2_with fail
              go_ret
              exact BPost.mk rfl KF.out
          · have t9 : decide (pt < (k.parts.length : Int)) = false := decide_eq_false hlt
            rw [t9] at HA
            have HF0 := Lib.hid (show kHolds k y (kRec k x) = false from HA)
            clear HA
            clear hlt
            refine wp_region_held_drew (S := fun w' => Kept (fun _ => False) w9 w') (by kernel_rfl) ((Kept.refl (fun _ => False) w9).drew) (fun hHeld => ?_)
            have HF1 := Lib.hid (fun (w' : World) (hS : Kept (fun _ => False) w9 w') => f_holds (.slice pa k.parts.length pc) (.slice wa k.wits.length wcp) k E y (kRec k x) w' (HL0.out.kept (K_9.out.trans hS)) (HK0.out.kept (K_9.out.trans hS)) (HE.out.kept hS) HPW.out.1 HPW.out.2 hyt.out.2 hyt.out.1 hka.out)
            have HF2 := Lib.hid (fun (w' : World) (hS : Kept (fun _ => False) w9 w') => f_receipt (.slice pa k.parts.length pc) (.slice wa k.wits.length wcp) k E y w' (HL0.out.kept (K_9.out.trans hS)) (HK0.out.kept (K_9.out.trans hS)) (HE.out.kept hS) HPW.out.1 HPW.out.2)
            refine wpAnyH_take (i := 0) (oi := ⟨some 85, _, _, _, _, _⟩) (v := .agg #[.slice pa k.parts.length pc, .slice wa k.wits.length wcp, .int .i64 k.need]) rfl (by kernel_rfl) (by kernel_rfl) (by kernel_rfl) (fun _ _ _ h => h) (Or.inl ⟨by kernel_rfl, fun w' hS => by have c0 := row_cell (k := 0) (hS.row G1_9.out) rfl; have c1 := row_cell (k := 1) (hS.row G1_9.out) rfl; have c2 := row_cell (k := 2) (hS.row G1_9.out) rfl; go_simp⟩) (by assumption) ?_
            try simp only [Act.put, List.setIfInBounds_toArray, List.set_cons_succ, List.set_cons_zero]
            refine wpAnyH_take (i := 1) (oi := ⟨some 86, _, _, _, _, _⟩) (v := .agg E) rfl (by kernel_rfl) (by kernel_rfl) (by kernel_rfl) (fun _ _ _ h => h) (yields30 (g := B) (o := 0) (C := E) (by kernel_rfl) rfl (fun w' hS => range_row (hS.row Y9.out)) hez.out) (by assumption) ?_
            try simp only [Act.put, List.setIfInBounds_toArray, List.set_cons_succ, List.set_cons_zero]
            refine wpAnyH_take (i := 3) (oi := ⟨some 88, _, _, _, _, _⟩) (v := .pointer (some ⟨B, 8, none⟩)) rfl (by kernel_rfl) (by kernel_rfl) (by kernel_rfl) (fun _ _ _ h => h) (Or.inl ⟨by kernel_rfl, fun w' hS => by go_simp⟩) (by assumption) ?_
            try simp only [Act.put, List.setIfInBounds_toArray, List.set_cons_succ, List.set_cons_zero]
            refine wpAnyH_take (i := 4) (oi := ⟨some 89, _, _, _, _, _⟩) (v := .int .i64 pt) rfl (by kernel_rfl) (by kernel_rfl) (by kernel_rfl) (fun _ _ _ h => h) (Or.inl ⟨by kernel_rfl, fun w' hS => by have c8 := row_cell (hS.row Y9.out) HO.out; go_simp⟩) (by assumption) ?_
            try simp only [Act.put, List.setIfInBounds_toArray, List.set_cons_succ, List.set_cons_zero]
            refine wpAnyH_take (i := 5) (oi := ⟨some 90, _, _, _, _, _⟩) (v := .pointer (some ⟨w.heap.size, 0, none⟩)) rfl (by kernel_rfl) (by kernel_rfl) (by kernel_rfl) (fun _ _ _ h => h) (Or.inl ⟨by kernel_rfl, fun w' hS => by go_simp⟩) (by assumption) ?_
            try simp only [Act.put, List.setIfInBounds_toArray, List.set_cons_succ, List.set_cons_zero]
            refine wpAnyH_take (i := 6) (oi := ⟨some 91, _, _, _, _, _⟩) (v := .slice pa k.parts.length pc) rfl (by kernel_rfl) (by kernel_rfl) (by kernel_rfl) (fun _ _ _ h => h) (Or.inl ⟨by kernel_rfl, fun w' hS => by have c0 := row_cell (k := 0) (hS.row G1_9.out) rfl; go_simp⟩) (by assumption) ?_
            try simp only [Act.put, List.setIfInBounds_toArray, List.set_cons_succ, List.set_cons_zero]
            refine wpAnyH_take (i := 7) (oi := ⟨some 92, _, _, _, _, _⟩) (v := .int .i64 (k.parts.length : Int)) rfl (by kernel_rfl) (by kernel_rfl) (by kernel_rfl) (fun _ _ _ h => h) (Or.inl ⟨by kernel_rfl, fun w' hS => by go_simp⟩) (by assumption) ?_
            try simp only [Act.put, List.setIfInBounds_toArray, List.set_cons_succ, List.set_cons_zero]
            refine wpAnyH_take (i := 8) (oi := ⟨some 93, _, _, _, _, _⟩) (v := .bool false) rfl (by kernel_rfl) (by kernel_rfl) (by kernel_rfl) (fun _ _ _ h => h) (Or.inl ⟨by kernel_rfl, fun w' hS => by go_simp⟩) (by assumption) ?_
            try simp only [Act.put, List.setIfInBounds_toArray, List.set_cons_succ, List.set_cons_zero]
            refine wpAnyH_ready (rs := [2]) (by kernel_rfl) (by simp) ?_
            refine AllReadyH.cons (o := _) rfl (fun K hK => ?_) AllReadyH.nil
            go_simp
            refine (hold_is HF0.out (HF1.out _ (by assumption))).mono ?_
            rintro e wx1 ⟨rfl, kx1⟩
            have hS1 : Kept (fun _ => False) w9 wx1 := Kept.trans (by assumption) kx1
            clear kx1 hHeld
            go_wp2_with fail
            refine hK.out _ _ hS1 (fun hHeld => ?_)
            clear hK K
            try simp only [Act.put, List.setIfInBounds_toArray, List.set_cons_succ, List.set_cons_zero]
            refine wpAnyH_take (i := 9) (oi := ⟨some 94, _, _, _, _, _⟩) (v := .bool false) rfl (by kernel_rfl) (by kernel_rfl) (by kernel_rfl) (fun _ _ _ h => h) (Or.inl ⟨by kernel_rfl, fun w' hS => by go_simp⟩) (by assumption) ?_
            try simp only [Act.put, List.setIfInBounds_toArray, List.set_cons_succ, List.set_cons_zero]
            refine wpAnyH_take (i := 10) (oi := ⟨some 95, _, _, _, _, _⟩) (v := undef) rfl (by kernel_rfl) (by kernel_rfl) (by kernel_rfl) (fun _ _ _ h => h) (Or.inr ⟨by kernel_rfl, rfl⟩) (by assumption) ?_
            try simp only [Act.put, List.setIfInBounds_toArray, List.set_cons_succ, List.set_cons_zero]
            refine wpAnyH_take (i := 11) (oi := ⟨some 96, _, _, _, _, _⟩) (v := undef) rfl (by kernel_rfl) (by kernel_rfl) (by kernel_rfl) (fun _ _ _ h => h) (Or.inr ⟨by kernel_rfl, rfl⟩) (by assumption) ?_
            try simp only [Act.put, List.setIfInBounds_toArray, List.set_cons_succ, List.set_cons_zero]
            refine wpAnyH_take (i := 12) (oi := ⟨some 97, _, _, _, _, _⟩) (v := undef) rfl (by kernel_rfl) (by kernel_rfl) (by kernel_rfl) (fun _ _ _ h => h) (Or.inr ⟨by kernel_rfl, rfl⟩) (by assumption) ?_
            try simp only [Act.put, List.setIfInBounds_toArray, List.set_cons_succ, List.set_cons_zero]
            refine wpAnyH_take (i := 13) (oi := ⟨some 98, _, _, _, _, _⟩) (v := undef) rfl (by kernel_rfl) (by kernel_rfl) (by kernel_rfl) (fun _ _ _ h => h) (Or.inr ⟨by kernel_rfl, rfl⟩) (by assumption) ?_
            try simp only [Act.put, List.setIfInBounds_toArray, List.set_cons_succ, List.set_cons_zero]
            refine wpAnyH_take (i := 14) (oi := ⟨some 99, _, _, _, _, _⟩) (v := undef) rfl (by kernel_rfl) (by kernel_rfl) (by kernel_rfl) (fun _ _ _ h => h) (Or.inr ⟨by kernel_rfl, rfl⟩) (by assumption) ?_
            try simp only [Act.put, List.setIfInBounds_toArray, List.set_cons_succ, List.set_cons_zero]
            refine wpAnyH_take (i := 15) (oi := ⟨some 100, _, _, _, _, _⟩) (v := undef) rfl (by kernel_rfl) (by kernel_rfl) (by kernel_rfl) (fun _ _ _ h => h) (Or.inr ⟨by kernel_rfl, rfl⟩) (by assumption) ?_
            try simp only [Act.put, List.setIfInBounds_toArray, List.set_cons_succ, List.set_cons_zero]
            refine wpAnyH_take (i := 16) (oi := ⟨some 101, _, _, _, _, _⟩) (v := .bool false) rfl (by kernel_rfl) (by kernel_rfl) (by kernel_rfl) (fun _ _ _ h => h) (Or.inl ⟨by kernel_rfl, fun w' hS => by go_simp⟩) (by assumption) ?_
            try simp only [Act.put, List.setIfInBounds_toArray, List.set_cons_succ, List.set_cons_zero]
            refine wpAnyH_take (i := 17) (oi := ⟨some 102, _, _, _, _, _⟩) (v := .bool true) rfl (by kernel_rfl) (by kernel_rfl) (by kernel_rfl) (fun _ _ _ h => h) (Or.inl ⟨by kernel_rfl, fun w' hS => by go_simp⟩) (by assumption) ?_
            try simp only [Act.put, List.setIfInBounds_toArray, List.set_cons_succ, List.set_cons_zero]
            refine wpAnyH_take (i := 18) (oi := ⟨some 6, _, _, _, _, _⟩) (v := .bool true) rfl (by kernel_rfl) (by kernel_rfl) (by kernel_rfl) (fun _ _ _ h => h) (Or.inl ⟨by kernel_rfl, fun w' hS => by go_simp⟩) (by assumption) ?_
            try simp only [Act.put, List.setIfInBounds_toArray, List.set_cons_succ, List.set_cons_zero]
            refine wpAnyH_done (by kernel_rfl) ?_ _
            have KF := Lib.hid (K_9.out.trans hS1)
            go_wp2_with fail
            go_ret
            exact BPost.mk rfl KF.out
        · rw [hc] at htm
          clear hc
          have hb := HRG.out
          have ev : (wrap64 (x.step + 1)).tmod 6 = (x.step + 1) % 6 := by rw [IntWalk.wrap64_in (x.step + 1) (by omega)]; exact Int.tmod_eq_emod_of_nonneg (by omega)
          clear hb
          have cc := row_cell Y8.out HD.out.c3
          have ff := free_of_block (j := 3) Y8.out
          go_upto_region 17 with fail
          try rw [ev]
          clear ev
          clear cc ff htm
          have kq : Kept (fun i => i = B) w8 (w8.setCell ⟨B, 3, none⟩ (.int .i64 ((x.step + 1) % 6))) := (Kept.refl (fun i => i = B) w8).setCell (p := ⟨B, 3, none⟩) (.inl rfl) _
          have G1_9 := Lib.hid (kq.rowS (by omega) G1_8.out)
          have G2_9 := Lib.hid (kq.rowS (by omega) G2_8.out)
          have Y9 := Lib.hid (setCell_block (k := 3) Y8.out (.int .i64 ((x.step + 1) % 6)))
          have K_9 := Lib.hid (K_8.out.setCell (p := ⟨B, 3, none⟩) (.inr hB) (.int .i64 ((x.step + 1) % 6)))
          have KD_9 := Lib.hid (KD_8.out.setCell (p := ⟨B, 3, none⟩) (.inr hBw) (.int .i64 ((x.step + 1) % 6)))
          generalize w8.setCell ⟨B, 3, none⟩ (.int .i64 ((x.step + 1) % 6)) = w9 at *
          have HE := Lib.hid ((HD.out.kept KD_9.out).set_step ((x.step + 1) % 6))
          have HEe : Hid (apartLaw k { x with tag := (kRec k x).map (fun (m : Nat) => (m : Int)), step := ((x.step + 1) % 6) } (kRec k x)) := apart_step k HMM.out HK3.out HRR.out (by have := HP.out; omega)
          have hpw : W64 ((fun y : Rx => y.saga) { x with tag := (kRec k x).map (fun (m : Nat) => (m : Int)), step := ((x.step + 1) % 6) }) ∧ W64 ((fun y : Rx => y.step) { x with tag := (kRec k x).map (fun (m : Nat) => (m : Int)), step := ((x.step + 1) % 6) }) := by
            have hb := HRG.out
            have h1 := HSG.out
            have h2 := HST.out
            unfold W64 at *
            dsimp only
            constructor <;> omega
          have HPW := Lib.hid hpw
          generalize hEE : D.setIfInBounds 3 (.int .i64 ((x.step + 1) % 6)) = E at *
          have HY : Hid (∃ y : Rx, y = { x with tag := (kRec k x).map (fun (m : Nat) => (m : Int)), step := ((x.step + 1) % 6) }) := ⟨_, rfl⟩
          obtain ⟨y, hy⟩ := HY.out
          rw [← hy] at HE HEe HPW
          have hyt : Hid (y.tag = (kRec k x).map (fun (m : Nat) => (m : Int)) ∧ y.steps.length ≤ 1000000) := by subst hy; exact ⟨rfl, hsl.out⟩
          clear hy HY hpw hEE G1_8 G2_8 Y8 K_8 KD_8 kq
          have hez := Lib.hid HE.out.size
          have HO := Lib.hid (HE.out.c8)
          generalize hpp : y.part = pt at HO
          have ey := Lib.hid hpp
          clear hpp
          have hyl := Lib.hid (kRec_len k y)
          have hkz : Hid ((ints .u8 (kRec k x)).size = 32) := by show _ = _; rw [ints_size]; exact hkl.out
          have HTG := Lib.hid HD.out.tag
          have HA := HEe.out
          unfold apartLaw at HA
          rw [ey.out] at HA
          by_cases hlt : pt < (k.parts.length : Int)
          · have t9 : decide (pt < (k.parts.length : Int)) = true := decide_eq_true hlt
            rw [t9] at HA
            cases hb2 : decide (kRec k y = kRec k x) with
            | false =>
              rw [hb2] at HA
              have HF0 := Lib.hid (show kHolds k y (kRec k x) = false from HA)
              clear HA
              have HB2 := Lib.hid hb2
              clear hb2
              refine wp_region_held_drew (S := fun w' => Kept (fun _ => False) w9 w') (by kernel_rfl) ((Kept.refl (fun _ => False) w9).drew) (fun hHeld => ?_)
              have HF1 := Lib.hid (fun (w' : World) (hS : Kept (fun _ => False) w9 w') => f_holds (.slice pa k.parts.length pc) (.slice wa k.wits.length wcp) k E y (kRec k x) w' (HL0.out.kept (K_9.out.trans hS)) (HK0.out.kept (K_9.out.trans hS)) (HE.out.kept hS) HPW.out.1 HPW.out.2 hyt.out.2 hyt.out.1 hka.out)
              have HF2 := Lib.hid (fun (w' : World) (hS : Kept (fun _ => False) w9 w') => f_receipt (.slice pa k.parts.length pc) (.slice wa k.wits.length wcp) k E y w' (HL0.out.kept (K_9.out.trans hS)) (HK0.out.kept (K_9.out.trans hS)) (HE.out.kept hS) HPW.out.1 HPW.out.2)
              refine wpAnyH_take (i := 0) (oi := ⟨some 85, _, _, _, _, _⟩) (v := .agg #[.slice pa k.parts.length pc, .slice wa k.wits.length wcp, .int .i64 k.need]) rfl (by kernel_rfl) (by kernel_rfl) (by kernel_rfl) (fun _ _ _ h => h) (Or.inl ⟨by kernel_rfl, fun w' hS => by have c0 := row_cell (k := 0) (hS.row G1_9.out) rfl; have c1 := row_cell (k := 1) (hS.row G1_9.out) rfl; have c2 := row_cell (k := 2) (hS.row G1_9.out) rfl; go_simp⟩) (by assumption) ?_
              try simp only [Act.put, List.setIfInBounds_toArray, List.set_cons_succ, List.set_cons_zero]
              refine wpAnyH_take (i := 1) (oi := ⟨some 86, _, _, _, _, _⟩) (v := .agg E) rfl (by kernel_rfl) (by kernel_rfl) (by kernel_rfl) (fun _ _ _ h => h) (yields30 (g := B) (o := 0) (C := E) (by kernel_rfl) rfl (fun w' hS => range_row (hS.row Y9.out)) hez.out) (by assumption) ?_
              try simp only [Act.put, List.setIfInBounds_toArray, List.set_cons_succ, List.set_cons_zero]
              refine wpAnyH_take (i := 3) (oi := ⟨some 88, _, _, _, _, _⟩) (v := .pointer (some ⟨B, 8, none⟩)) rfl (by kernel_rfl) (by kernel_rfl) (by kernel_rfl) (fun _ _ _ h => h) (Or.inl ⟨by kernel_rfl, fun w' hS => by go_simp⟩) (by assumption) ?_
              try simp only [Act.put, List.setIfInBounds_toArray, List.set_cons_succ, List.set_cons_zero]
              refine wpAnyH_take (i := 4) (oi := ⟨some 89, _, _, _, _, _⟩) (v := .int .i64 pt) rfl (by kernel_rfl) (by kernel_rfl) (by kernel_rfl) (fun _ _ _ h => h) (Or.inl ⟨by kernel_rfl, fun w' hS => by have c8 := row_cell (hS.row Y9.out) HO.out; go_simp⟩) (by assumption) ?_
              try simp only [Act.put, List.setIfInBounds_toArray, List.set_cons_succ, List.set_cons_zero]
              refine wpAnyH_take (i := 5) (oi := ⟨some 90, _, _, _, _, _⟩) (v := .pointer (some ⟨w.heap.size, 0, none⟩)) rfl (by kernel_rfl) (by kernel_rfl) (by kernel_rfl) (fun _ _ _ h => h) (Or.inl ⟨by kernel_rfl, fun w' hS => by go_simp⟩) (by assumption) ?_
              try simp only [Act.put, List.setIfInBounds_toArray, List.set_cons_succ, List.set_cons_zero]
              refine wpAnyH_take (i := 6) (oi := ⟨some 91, _, _, _, _, _⟩) (v := .slice pa k.parts.length pc) rfl (by kernel_rfl) (by kernel_rfl) (by kernel_rfl) (fun _ _ _ h => h) (Or.inl ⟨by kernel_rfl, fun w' hS => by have c0 := row_cell (k := 0) (hS.row G1_9.out) rfl; go_simp⟩) (by assumption) ?_
              try simp only [Act.put, List.setIfInBounds_toArray, List.set_cons_succ, List.set_cons_zero]
              refine wpAnyH_take (i := 7) (oi := ⟨some 92, _, _, _, _, _⟩) (v := .int .i64 (k.parts.length : Int)) rfl (by kernel_rfl) (by kernel_rfl) (by kernel_rfl) (fun _ _ _ h => h) (Or.inl ⟨by kernel_rfl, fun w' hS => by go_simp⟩) (by assumption) ?_
              try simp only [Act.put, List.setIfInBounds_toArray, List.set_cons_succ, List.set_cons_zero]
              refine wpAnyH_take (i := 8) (oi := ⟨some 93, _, _, _, _, _⟩) (v := .bool true) rfl (by kernel_rfl) (by kernel_rfl) (by kernel_rfl) (fun _ _ _ h => h) (Or.inl ⟨by kernel_rfl, fun w' hS => by go_simp⟩) (by assumption) ?_
              try simp only [Act.put, List.setIfInBounds_toArray, List.set_cons_succ, List.set_cons_zero]
              refine wpAnyH_ready (rs := [2]) (by kernel_rfl) (by simp) ?_
              refine AllReadyH.cons (o := _) rfl (fun K hK => ?_) AllReadyH.nil
              go_simp
              refine (hold_is HF0.out (HF1.out _ (by assumption))).mono ?_
              rintro e wx1 ⟨rfl, kx1⟩
              have hS1 : Kept (fun _ => False) w9 wx1 := Kept.trans (by assumption) kx1
              clear kx1 hHeld
              go_wp2_with fail
              refine hK.out _ _ hS1 (fun hHeld => ?_)
              clear hK K
              try simp only [Act.put, List.setIfInBounds_toArray, List.set_cons_succ, List.set_cons_zero]
              refine wpAnyH_take (i := 9) (oi := ⟨some 94, _, _, _, _, _⟩) (v := .bool true) rfl (by kernel_rfl) (by kernel_rfl) (by kernel_rfl) (fun _ _ _ h => h) (Or.inl ⟨by kernel_rfl, fun w' hS => by go_simp⟩) (by assumption) ?_
              try simp only [Act.put, List.setIfInBounds_toArray, List.set_cons_succ, List.set_cons_zero]
              refine wpAnyH_take (i := 10) (oi := ⟨some 95, _, _, _, _, _⟩) (v := .agg #[.slice pa k.parts.length pc, .slice wa k.wits.length wcp, .int .i64 k.need]) rfl (by kernel_rfl) (by kernel_rfl) (by kernel_rfl) (fun _ _ _ h => h) (Or.inl ⟨by kernel_rfl, fun w' hS => by have c0 := row_cell (k := 0) (hS.row G1_9.out) rfl; have c1 := row_cell (k := 1) (hS.row G1_9.out) rfl; have c2 := row_cell (k := 2) (hS.row G1_9.out) rfl; go_simp⟩) (by assumption) ?_
              try simp only [Act.put, List.setIfInBounds_toArray, List.set_cons_succ, List.set_cons_zero]
              refine wpAnyH_take (i := 11) (oi := ⟨some 96, _, _, _, _, _⟩) (v := .agg E) rfl (by kernel_rfl) (by kernel_rfl) (by kernel_rfl) (fun _ _ _ h => h) (yields30 (g := B) (o := 0) (C := E) (by kernel_rfl) rfl (fun w' hS => range_row (hS.row Y9.out)) hez.out) (by assumption) ?_
              try simp only [Act.put, List.setIfInBounds_toArray, List.set_cons_succ, List.set_cons_zero]
              refine wpAnyH_take (i := 13) (oi := ⟨some 98, _, _, _, _, _⟩) (v := .pointer (some ⟨(w.heap.size + 1), 10, none⟩)) rfl (by kernel_rfl) (by kernel_rfl) (by kernel_rfl) (fun _ _ _ h => h) (Or.inl ⟨by kernel_rfl, fun w' hS => by go_simp⟩) (by assumption) ?_
              try simp only [Act.put, List.setIfInBounds_toArray, List.set_cons_succ, List.set_cons_zero]
              refine wpAnyH_take (i := 14) (oi := ⟨some 99, _, _, _, _, _⟩) (v := .agg (ints .u8 (kRec k x))) rfl (by kernel_rfl) (by kernel_rfl) (by kernel_rfl) (fun _ _ _ h => h) (yields26 (g := w.heap.size + 1) (o := 10) (C := ints .u8 (kRec k x)) (by kernel_rfl) rfl (fun w' hS => range_tag (hS.row G2_9.out) HTG.out) hkz.out) (by assumption) ?_
              try simp only [Act.put, List.setIfInBounds_toArray, List.set_cons_succ, List.set_cons_zero]
              refine wpAnyH_ready (rs := [12]) (by kernel_rfl) (by simp) ?_
              refine AllReadyH.cons (o := _) rfl (fun K hK => ?_) AllReadyH.nil
              go_simp
              refine (HF2.out _ (by assumption)).mono ?_
              rintro e wx2 ⟨rfl, kx2⟩
              have hS2 : Kept (fun _ => False) w9 wx2 := Kept.trans (by assumption) kx2
              clear kx2 hHeld
              go_wp2_with fail
              refine hK.out _ _ hS2 (fun hHeld => ?_)
              clear hK K
              try simp only [Act.put, List.setIfInBounds_toArray, List.set_cons_succ, List.set_cons_zero]
              refine wpAnyH_take (i := 15) (oi := ⟨some 100, _, _, _, _, _⟩) (v := .bool false) rfl (by kernel_rfl) (by kernel_rfl) (by kernel_rfl) (fun _ _ _ h => h) (yieldsEq26 (l := kRec k y) (m := kRec k x) HB2.out hyl.out hkl.out (by kernel_rfl) rfl rfl) (by assumption) ?_
              try simp only [Act.put, List.setIfInBounds_toArray, List.set_cons_succ, List.set_cons_zero]
              refine wpAnyH_take (i := 16) (oi := ⟨some 101, _, _, _, _, _⟩) (v := .bool false) rfl (by kernel_rfl) (by kernel_rfl) (by kernel_rfl) (fun _ _ _ h => h) (Or.inl ⟨by kernel_rfl, fun w' hS => by go_simp⟩) (by assumption) ?_
              try simp only [Act.put, List.setIfInBounds_toArray, List.set_cons_succ, List.set_cons_zero]
              refine wpAnyH_take (i := 17) (oi := ⟨some 102, _, _, _, _, _⟩) (v := .bool true) rfl (by kernel_rfl) (by kernel_rfl) (by kernel_rfl) (fun _ _ _ h => h) (Or.inl ⟨by kernel_rfl, fun w' hS => by go_simp⟩) (by assumption) ?_
              try simp only [Act.put, List.setIfInBounds_toArray, List.set_cons_succ, List.set_cons_zero]
              refine wpAnyH_take (i := 18) (oi := ⟨some 6, _, _, _, _, _⟩) (v := .bool true) rfl (by kernel_rfl) (by kernel_rfl) (by kernel_rfl) (fun _ _ _ h => h) (Or.inl ⟨by kernel_rfl, fun w' hS => by go_simp⟩) (by assumption) ?_
              try simp only [Act.put, List.setIfInBounds_toArray, List.set_cons_succ, List.set_cons_zero]
              refine wpAnyH_done (by kernel_rfl) ?_ _
              have KF := Lib.hid (K_9.out.trans hS2)
              go_wp2_with fail
              go_ret
              exact BPost.mk rfl KF.out
            | true =>
              rw [hb2] at HA
              have HF0 := Lib.hid (show kHolds k y (kRec k x) = true from HA)
              clear HA
              have HB2 := Lib.hid hb2
              clear hb2
              refine wp_region_held_drew (S := fun w' => Kept (fun _ => False) w9 w') (by kernel_rfl) ((Kept.refl (fun _ => False) w9).drew) (fun hHeld => ?_)
              have HF1 := Lib.hid (fun (w' : World) (hS : Kept (fun _ => False) w9 w') => f_holds (.slice pa k.parts.length pc) (.slice wa k.wits.length wcp) k E y (kRec k x) w' (HL0.out.kept (K_9.out.trans hS)) (HK0.out.kept (K_9.out.trans hS)) (HE.out.kept hS) HPW.out.1 HPW.out.2 hyt.out.2 hyt.out.1 hka.out)
              have HF2 := Lib.hid (fun (w' : World) (hS : Kept (fun _ => False) w9 w') => f_receipt (.slice pa k.parts.length pc) (.slice wa k.wits.length wcp) k E y w' (HL0.out.kept (K_9.out.trans hS)) (HK0.out.kept (K_9.out.trans hS)) (HE.out.kept hS) HPW.out.1 HPW.out.2)
              refine wpAnyH_take (i := 0) (oi := ⟨some 85, _, _, _, _, _⟩) (v := .agg #[.slice pa k.parts.length pc, .slice wa k.wits.length wcp, .int .i64 k.need]) rfl (by kernel_rfl) (by kernel_rfl) (by kernel_rfl) (fun _ _ _ h => h) (Or.inl ⟨by kernel_rfl, fun w' hS => by have c0 := row_cell (k := 0) (hS.row G1_9.out) rfl; have c1 := row_cell (k := 1) (hS.row G1_9.out) rfl; have c2 := row_cell (k := 2) (hS.row G1_9.out) rfl; go_simp⟩) (by assumption) ?_
              try simp only [Act.put, List.setIfInBounds_toArray, List.set_cons_succ, List.set_cons_zero]
              refine wpAnyH_take (i := 1) (oi := ⟨some 86, _, _, _, _, _⟩) (v := .agg E) rfl (by kernel_rfl) (by kernel_rfl) (by kernel_rfl) (fun _ _ _ h => h) (yields30 (g := B) (o := 0) (C := E) (by kernel_rfl) rfl (fun w' hS => range_row (hS.row Y9.out)) hez.out) (by assumption) ?_
              try simp only [Act.put, List.setIfInBounds_toArray, List.set_cons_succ, List.set_cons_zero]
              refine wpAnyH_take (i := 3) (oi := ⟨some 88, _, _, _, _, _⟩) (v := .pointer (some ⟨B, 8, none⟩)) rfl (by kernel_rfl) (by kernel_rfl) (by kernel_rfl) (fun _ _ _ h => h) (Or.inl ⟨by kernel_rfl, fun w' hS => by go_simp⟩) (by assumption) ?_
              try simp only [Act.put, List.setIfInBounds_toArray, List.set_cons_succ, List.set_cons_zero]
              refine wpAnyH_take (i := 4) (oi := ⟨some 89, _, _, _, _, _⟩) (v := .int .i64 pt) rfl (by kernel_rfl) (by kernel_rfl) (by kernel_rfl) (fun _ _ _ h => h) (Or.inl ⟨by kernel_rfl, fun w' hS => by have c8 := row_cell (hS.row Y9.out) HO.out; go_simp⟩) (by assumption) ?_
              try simp only [Act.put, List.setIfInBounds_toArray, List.set_cons_succ, List.set_cons_zero]
              refine wpAnyH_take (i := 5) (oi := ⟨some 90, _, _, _, _, _⟩) (v := .pointer (some ⟨w.heap.size, 0, none⟩)) rfl (by kernel_rfl) (by kernel_rfl) (by kernel_rfl) (fun _ _ _ h => h) (Or.inl ⟨by kernel_rfl, fun w' hS => by go_simp⟩) (by assumption) ?_
              try simp only [Act.put, List.setIfInBounds_toArray, List.set_cons_succ, List.set_cons_zero]
              refine wpAnyH_take (i := 6) (oi := ⟨some 91, _, _, _, _, _⟩) (v := .slice pa k.parts.length pc) rfl (by kernel_rfl) (by kernel_rfl) (by kernel_rfl) (fun _ _ _ h => h) (Or.inl ⟨by kernel_rfl, fun w' hS => by have c0 := row_cell (k := 0) (hS.row G1_9.out) rfl; go_simp⟩) (by assumption) ?_
              try simp only [Act.put, List.setIfInBounds_toArray, List.set_cons_succ, List.set_cons_zero]
              refine wpAnyH_take (i := 7) (oi := ⟨some 92, _, _, _, _, _⟩) (v := .int .i64 (k.parts.length : Int)) rfl (by kernel_rfl) (by kernel_rfl) (by kernel_rfl) (fun _ _ _ h => h) (Or.inl ⟨by kernel_rfl, fun w' hS => by go_simp⟩) (by assumption) ?_
              try simp only [Act.put, List.setIfInBounds_toArray, List.set_cons_succ, List.set_cons_zero]
              refine wpAnyH_take (i := 8) (oi := ⟨some 93, _, _, _, _, _⟩) (v := .bool true) rfl (by kernel_rfl) (by kernel_rfl) (by kernel_rfl) (fun _ _ _ h => h) (Or.inl ⟨by kernel_rfl, fun w' hS => by go_simp⟩) (by assumption) ?_
              try simp only [Act.put, List.setIfInBounds_toArray, List.set_cons_succ, List.set_cons_zero]
              refine wpAnyH_ready (rs := [2]) (by kernel_rfl) (by simp) ?_
              refine AllReadyH.cons (o := _) rfl (fun K hK => ?_) AllReadyH.nil
              go_simp
              refine (hold_is HF0.out (HF1.out _ (by assumption))).mono ?_
              rintro e wx1 ⟨rfl, kx1⟩
              have hS1 : Kept (fun _ => False) w9 wx1 := Kept.trans (by assumption) kx1
              clear kx1 hHeld
              go_wp2_with fail
              refine hK.out _ _ hS1 (fun hHeld => ?_)
              clear hK K
              try simp only [Act.put, List.setIfInBounds_toArray, List.set_cons_succ, List.set_cons_zero]
              refine wpAnyH_take (i := 9) (oi := ⟨some 94, _, _, _, _, _⟩) (v := .bool true) rfl (by kernel_rfl) (by kernel_rfl) (by kernel_rfl) (fun _ _ _ h => h) (Or.inl ⟨by kernel_rfl, fun w' hS => by go_simp⟩) (by assumption) ?_
              try simp only [Act.put, List.setIfInBounds_toArray, List.set_cons_succ, List.set_cons_zero]
              refine wpAnyH_take (i := 10) (oi := ⟨some 95, _, _, _, _, _⟩) (v := .agg #[.slice pa k.parts.length pc, .slice wa k.wits.length wcp, .int .i64 k.need]) rfl (by kernel_rfl) (by kernel_rfl) (by kernel_rfl) (fun _ _ _ h => h) (Or.inl ⟨by kernel_rfl, fun w' hS => by have c0 := row_cell (k := 0) (hS.row G1_9.out) rfl; have c1 := row_cell (k := 1) (hS.row G1_9.out) rfl; have c2 := row_cell (k := 2) (hS.row G1_9.out) rfl; go_simp⟩) (by assumption) ?_
              try simp only [Act.put, List.setIfInBounds_toArray, List.set_cons_succ, List.set_cons_zero]
              refine wpAnyH_take (i := 11) (oi := ⟨some 96, _, _, _, _, _⟩) (v := .agg E) rfl (by kernel_rfl) (by kernel_rfl) (by kernel_rfl) (fun _ _ _ h => h) (yields30 (g := B) (o := 0) (C := E) (by kernel_rfl) rfl (fun w' hS => range_row (hS.row Y9.out)) hez.out) (by assumption) ?_
              try simp only [Act.put, List.setIfInBounds_toArray, List.set_cons_succ, List.set_cons_zero]
              refine wpAnyH_take (i := 13) (oi := ⟨some 98, _, _, _, _, _⟩) (v := .pointer (some ⟨(w.heap.size + 1), 10, none⟩)) rfl (by kernel_rfl) (by kernel_rfl) (by kernel_rfl) (fun _ _ _ h => h) (Or.inl ⟨by kernel_rfl, fun w' hS => by go_simp⟩) (by assumption) ?_
              try simp only [Act.put, List.setIfInBounds_toArray, List.set_cons_succ, List.set_cons_zero]
              refine wpAnyH_take (i := 14) (oi := ⟨some 99, _, _, _, _, _⟩) (v := .agg (ints .u8 (kRec k x))) rfl (by kernel_rfl) (by kernel_rfl) (by kernel_rfl) (fun _ _ _ h => h) (yields26 (g := w.heap.size + 1) (o := 10) (C := ints .u8 (kRec k x)) (by kernel_rfl) rfl (fun w' hS => range_tag (hS.row G2_9.out) HTG.out) hkz.out) (by assumption) ?_
              try simp only [Act.put, List.setIfInBounds_toArray, List.set_cons_succ, List.set_cons_zero]
              refine wpAnyH_ready (rs := [12]) (by kernel_rfl) (by simp) ?_
              refine AllReadyH.cons (o := _) rfl (fun K hK => ?_) AllReadyH.nil
              go_simp
              refine (HF2.out _ (by assumption)).mono ?_
              rintro e wx2 ⟨rfl, kx2⟩
              have hS2 : Kept (fun _ => False) w9 wx2 := Kept.trans (by assumption) kx2
              clear kx2 hHeld
              go_wp2_with fail
              refine hK.out _ _ hS2 (fun hHeld => ?_)
              clear hK K
              try simp only [Act.put, List.setIfInBounds_toArray, List.set_cons_succ, List.set_cons_zero]
              refine wpAnyH_take (i := 15) (oi := ⟨some 100, _, _, _, _, _⟩) (v := .bool true) rfl (by kernel_rfl) (by kernel_rfl) (by kernel_rfl) (fun _ _ _ h => h) (yieldsEq26 (l := kRec k y) (m := kRec k x) HB2.out hyl.out hkl.out (by kernel_rfl) rfl rfl) (by assumption) ?_
              try simp only [Act.put, List.setIfInBounds_toArray, List.set_cons_succ, List.set_cons_zero]
              refine wpAnyH_take (i := 16) (oi := ⟨some 101, _, _, _, _, _⟩) (v := .bool true) rfl (by kernel_rfl) (by kernel_rfl) (by kernel_rfl) (fun _ _ _ h => h) (Or.inl ⟨by kernel_rfl, fun w' hS => by go_simp⟩) (by assumption) ?_
              try simp only [Act.put, List.setIfInBounds_toArray, List.set_cons_succ, List.set_cons_zero]
              refine wpAnyH_take (i := 17) (oi := ⟨some 102, _, _, _, _, _⟩) (v := .bool true) rfl (by kernel_rfl) (by kernel_rfl) (by kernel_rfl) (fun _ _ _ h => h) (Or.inl ⟨by kernel_rfl, fun w' hS => by go_simp⟩) (by assumption) ?_
              try simp only [Act.put, List.setIfInBounds_toArray, List.set_cons_succ, List.set_cons_zero]
              refine wpAnyH_take (i := 18) (oi := ⟨some 6, _, _, _, _, _⟩) (v := .bool true) rfl (by kernel_rfl) (by kernel_rfl) (by kernel_rfl) (fun _ _ _ h => h) (Or.inl ⟨by kernel_rfl, fun w' hS => by go_simp⟩) (by assumption) ?_
              try simp only [Act.put, List.setIfInBounds_toArray, List.set_cons_succ, List.set_cons_zero]
              refine wpAnyH_done (by kernel_rfl) ?_ _
              have KF := Lib.hid (K_9.out.trans hS2)
              go_wp2_with fail
              go_ret
              exact BPost.mk rfl KF.out
          · have t9 : decide (pt < (k.parts.length : Int)) = false := decide_eq_false hlt
            rw [t9] at HA
            have HF0 := Lib.hid (show kHolds k y (kRec k x) = false from HA)
            clear HA
            clear hlt
            refine wp_region_held_drew (S := fun w' => Kept (fun _ => False) w9 w') (by kernel_rfl) ((Kept.refl (fun _ => False) w9).drew) (fun hHeld => ?_)
            have HF1 := Lib.hid (fun (w' : World) (hS : Kept (fun _ => False) w9 w') => f_holds (.slice pa k.parts.length pc) (.slice wa k.wits.length wcp) k E y (kRec k x) w' (HL0.out.kept (K_9.out.trans hS)) (HK0.out.kept (K_9.out.trans hS)) (HE.out.kept hS) HPW.out.1 HPW.out.2 hyt.out.2 hyt.out.1 hka.out)
            have HF2 := Lib.hid (fun (w' : World) (hS : Kept (fun _ => False) w9 w') => f_receipt (.slice pa k.parts.length pc) (.slice wa k.wits.length wcp) k E y w' (HL0.out.kept (K_9.out.trans hS)) (HK0.out.kept (K_9.out.trans hS)) (HE.out.kept hS) HPW.out.1 HPW.out.2)
            refine wpAnyH_take (i := 0) (oi := ⟨some 85, _, _, _, _, _⟩) (v := .agg #[.slice pa k.parts.length pc, .slice wa k.wits.length wcp, .int .i64 k.need]) rfl (by kernel_rfl) (by kernel_rfl) (by kernel_rfl) (fun _ _ _ h => h) (Or.inl ⟨by kernel_rfl, fun w' hS => by have c0 := row_cell (k := 0) (hS.row G1_9.out) rfl; have c1 := row_cell (k := 1) (hS.row G1_9.out) rfl; have c2 := row_cell (k := 2) (hS.row G1_9.out) rfl; go_simp⟩) (by assumption) ?_
            try simp only [Act.put, List.setIfInBounds_toArray, List.set_cons_succ, List.set_cons_zero]
            refine wpAnyH_take (i := 1) (oi := ⟨some 86, _, _, _, _, _⟩) (v := .agg E) rfl (by kernel_rfl) (by kernel_rfl) (by kernel_rfl) (fun _ _ _ h => h) (yields30 (g := B) (o := 0) (C := E) (by kernel_rfl) rfl (fun w' hS => range_row (hS.row Y9.out)) hez.out) (by assumption) ?_
            try simp only [Act.put, List.setIfInBounds_toArray, List.set_cons_succ, List.set_cons_zero]
            refine wpAnyH_take (i := 3) (oi := ⟨some 88, _, _, _, _, _⟩) (v := .pointer (some ⟨B, 8, none⟩)) rfl (by kernel_rfl) (by kernel_rfl) (by kernel_rfl) (fun _ _ _ h => h) (Or.inl ⟨by kernel_rfl, fun w' hS => by go_simp⟩) (by assumption) ?_
            try simp only [Act.put, List.setIfInBounds_toArray, List.set_cons_succ, List.set_cons_zero]
            refine wpAnyH_take (i := 4) (oi := ⟨some 89, _, _, _, _, _⟩) (v := .int .i64 pt) rfl (by kernel_rfl) (by kernel_rfl) (by kernel_rfl) (fun _ _ _ h => h) (Or.inl ⟨by kernel_rfl, fun w' hS => by have c8 := row_cell (hS.row Y9.out) HO.out; go_simp⟩) (by assumption) ?_
            try simp only [Act.put, List.setIfInBounds_toArray, List.set_cons_succ, List.set_cons_zero]
            refine wpAnyH_take (i := 5) (oi := ⟨some 90, _, _, _, _, _⟩) (v := .pointer (some ⟨w.heap.size, 0, none⟩)) rfl (by kernel_rfl) (by kernel_rfl) (by kernel_rfl) (fun _ _ _ h => h) (Or.inl ⟨by kernel_rfl, fun w' hS => by go_simp⟩) (by assumption) ?_
            try simp only [Act.put, List.setIfInBounds_toArray, List.set_cons_succ, List.set_cons_zero]
            refine wpAnyH_take (i := 6) (oi := ⟨some 91, _, _, _, _, _⟩) (v := .slice pa k.parts.length pc) rfl (by kernel_rfl) (by kernel_rfl) (by kernel_rfl) (fun _ _ _ h => h) (Or.inl ⟨by kernel_rfl, fun w' hS => by have c0 := row_cell (k := 0) (hS.row G1_9.out) rfl; go_simp⟩) (by assumption) ?_
            try simp only [Act.put, List.setIfInBounds_toArray, List.set_cons_succ, List.set_cons_zero]
            refine wpAnyH_take (i := 7) (oi := ⟨some 92, _, _, _, _, _⟩) (v := .int .i64 (k.parts.length : Int)) rfl (by kernel_rfl) (by kernel_rfl) (by kernel_rfl) (fun _ _ _ h => h) (Or.inl ⟨by kernel_rfl, fun w' hS => by go_simp⟩) (by assumption) ?_
            try simp only [Act.put, List.setIfInBounds_toArray, List.set_cons_succ, List.set_cons_zero]
            refine wpAnyH_take (i := 8) (oi := ⟨some 93, _, _, _, _, _⟩) (v := .bool false) rfl (by kernel_rfl) (by kernel_rfl) (by kernel_rfl) (fun _ _ _ h => h) (Or.inl ⟨by kernel_rfl, fun w' hS => by go_simp⟩) (by assumption) ?_
            try simp only [Act.put, List.setIfInBounds_toArray, List.set_cons_succ, List.set_cons_zero]
            refine wpAnyH_ready (rs := [2]) (by kernel_rfl) (by simp) ?_
            refine AllReadyH.cons (o := _) rfl (fun K hK => ?_) AllReadyH.nil
            go_simp
            refine (hold_is HF0.out (HF1.out _ (by assumption))).mono ?_
            rintro e wx1 ⟨rfl, kx1⟩
            have hS1 : Kept (fun _ => False) w9 wx1 := Kept.trans (by assumption) kx1
            clear kx1 hHeld
            go_wp2_with fail
            refine hK.out _ _ hS1 (fun hHeld => ?_)
            clear hK K
            try simp only [Act.put, List.setIfInBounds_toArray, List.set_cons_succ, List.set_cons_zero]
            refine wpAnyH_take (i := 9) (oi := ⟨some 94, _, _, _, _, _⟩) (v := .bool false) rfl (by kernel_rfl) (by kernel_rfl) (by kernel_rfl) (fun _ _ _ h => h) (Or.inl ⟨by kernel_rfl, fun w' hS => by go_simp⟩) (by assumption) ?_
            try simp only [Act.put, List.setIfInBounds_toArray, List.set_cons_succ, List.set_cons_zero]
            refine wpAnyH_take (i := 10) (oi := ⟨some 95, _, _, _, _, _⟩) (v := undef) rfl (by kernel_rfl) (by kernel_rfl) (by kernel_rfl) (fun _ _ _ h => h) (Or.inr ⟨by kernel_rfl, rfl⟩) (by assumption) ?_
            try simp only [Act.put, List.setIfInBounds_toArray, List.set_cons_succ, List.set_cons_zero]
            refine wpAnyH_take (i := 11) (oi := ⟨some 96, _, _, _, _, _⟩) (v := undef) rfl (by kernel_rfl) (by kernel_rfl) (by kernel_rfl) (fun _ _ _ h => h) (Or.inr ⟨by kernel_rfl, rfl⟩) (by assumption) ?_
            try simp only [Act.put, List.setIfInBounds_toArray, List.set_cons_succ, List.set_cons_zero]
            refine wpAnyH_take (i := 12) (oi := ⟨some 97, _, _, _, _, _⟩) (v := undef) rfl (by kernel_rfl) (by kernel_rfl) (by kernel_rfl) (fun _ _ _ h => h) (Or.inr ⟨by kernel_rfl, rfl⟩) (by assumption) ?_
            try simp only [Act.put, List.setIfInBounds_toArray, List.set_cons_succ, List.set_cons_zero]
            refine wpAnyH_take (i := 13) (oi := ⟨some 98, _, _, _, _, _⟩) (v := undef) rfl (by kernel_rfl) (by kernel_rfl) (by kernel_rfl) (fun _ _ _ h => h) (Or.inr ⟨by kernel_rfl, rfl⟩) (by assumption) ?_
            try simp only [Act.put, List.setIfInBounds_toArray, List.set_cons_succ, List.set_cons_zero]
            refine wpAnyH_take (i := 14) (oi := ⟨some 99, _, _, _, _, _⟩) (v := undef) rfl (by kernel_rfl) (by kernel_rfl) (by kernel_rfl) (fun _ _ _ h => h) (Or.inr ⟨by kernel_rfl, rfl⟩) (by assumption) ?_
            try simp only [Act.put, List.setIfInBounds_toArray, List.set_cons_succ, List.set_cons_zero]
            refine wpAnyH_take (i := 15) (oi := ⟨some 100, _, _, _, _, _⟩) (v := undef) rfl (by kernel_rfl) (by kernel_rfl) (by kernel_rfl) (fun _ _ _ h => h) (Or.inr ⟨by kernel_rfl, rfl⟩) (by assumption) ?_
            try simp only [Act.put, List.setIfInBounds_toArray, List.set_cons_succ, List.set_cons_zero]
            refine wpAnyH_take (i := 16) (oi := ⟨some 101, _, _, _, _, _⟩) (v := .bool false) rfl (by kernel_rfl) (by kernel_rfl) (by kernel_rfl) (fun _ _ _ h => h) (Or.inl ⟨by kernel_rfl, fun w' hS => by go_simp⟩) (by assumption) ?_
            try simp only [Act.put, List.setIfInBounds_toArray, List.set_cons_succ, List.set_cons_zero]
            refine wpAnyH_take (i := 17) (oi := ⟨some 102, _, _, _, _, _⟩) (v := .bool true) rfl (by kernel_rfl) (by kernel_rfl) (by kernel_rfl) (fun _ _ _ h => h) (Or.inl ⟨by kernel_rfl, fun w' hS => by go_simp⟩) (by assumption) ?_
            try simp only [Act.put, List.setIfInBounds_toArray, List.set_cons_succ, List.set_cons_zero]
            refine wpAnyH_take (i := 18) (oi := ⟨some 6, _, _, _, _, _⟩) (v := .bool true) rfl (by kernel_rfl) (by kernel_rfl) (by kernel_rfl) (fun _ _ _ h => h) (Or.inl ⟨by kernel_rfl, fun w' hS => by go_simp⟩) (by assumption) ?_
            try simp only [Act.put, List.setIfInBounds_toArray, List.set_cons_succ, List.set_cons_zero]
            refine wpAnyH_done (by kernel_rfl) ?_ _
            have KF := Lib.hid (K_9.out.trans hS1)
            go_wp2_with fail
            go_ret
            exact BPost.mk rfl KF.out
        · rw [hc] at htm
          clear hc
          have hb := HRG.out
          have ev : (wrap64 (x.part + 1)).tmod 4 = (x.part + 1) % 4 := by rw [IntWalk.wrap64_in (x.part + 1) (by omega)]; exact Int.tmod_eq_emod_of_nonneg (by omega)
          clear hb
          have cc := row_cell Y8.out HD.out.c8
          have ff := free_of_block (j := 8) Y8.out
          go_upto_region 17 with fail
          try rw [ev]
          clear ev
          clear cc ff htm
          have kq : Kept (fun i => i = B) w8 (w8.setCell ⟨B, 8, none⟩ (.int .i64 ((x.part + 1) % 4))) := (Kept.refl (fun i => i = B) w8).setCell (p := ⟨B, 8, none⟩) (.inl rfl) _
          have G1_9 := Lib.hid (kq.rowS (by omega) G1_8.out)
          have G2_9 := Lib.hid (kq.rowS (by omega) G2_8.out)
          have Y9 := Lib.hid (setCell_block (k := 8) Y8.out (.int .i64 ((x.part + 1) % 4)))
          have K_9 := Lib.hid (K_8.out.setCell (p := ⟨B, 8, none⟩) (.inr hB) (.int .i64 ((x.part + 1) % 4)))
          have KD_9 := Lib.hid (KD_8.out.setCell (p := ⟨B, 8, none⟩) (.inr hBw) (.int .i64 ((x.part + 1) % 4)))
          generalize w8.setCell ⟨B, 8, none⟩ (.int .i64 ((x.part + 1) % 4)) = w9 at *
          have HE := Lib.hid ((HD.out.kept KD_9.out).set_part ((x.part + 1) % 4))
          have HEe : Hid (apartLaw k { x with tag := (kRec k x).map (fun (m : Nat) => (m : Int)), part := ((x.part + 1) % 4) } (kRec k x)) := apart_part k HMM.out HK3.out HRR.out (by have := HP.out; omega)
          have hpw : W64 ((fun y : Rx => y.saga) { x with tag := (kRec k x).map (fun (m : Nat) => (m : Int)), part := ((x.part + 1) % 4) }) ∧ W64 ((fun y : Rx => y.step) { x with tag := (kRec k x).map (fun (m : Nat) => (m : Int)), part := ((x.part + 1) % 4) }) := by
            have hb := HRG.out
            have h1 := HSG.out
            have h2 := HST.out
            unfold W64 at *
            dsimp only
            constructor <;> omega
          have HPW := Lib.hid hpw
          generalize hEE : D.setIfInBounds 8 (.int .i64 ((x.part + 1) % 4)) = E at *
          have HY : Hid (∃ y : Rx, y = { x with tag := (kRec k x).map (fun (m : Nat) => (m : Int)), part := ((x.part + 1) % 4) }) := ⟨_, rfl⟩
          obtain ⟨y, hy⟩ := HY.out
          rw [← hy] at HE HEe HPW
          have hyt : Hid (y.tag = (kRec k x).map (fun (m : Nat) => (m : Int)) ∧ y.steps.length ≤ 1000000) := by subst hy; exact ⟨rfl, hsl.out⟩
          clear hy HY hpw hEE G1_8 G2_8 Y8 K_8 KD_8 kq
          have hez := Lib.hid HE.out.size
          have HO := Lib.hid (HE.out.c8)
          generalize hpp : y.part = pt at HO
          have ey := Lib.hid hpp
          clear hpp
          have hyl := Lib.hid (kRec_len k y)
          have hkz : Hid ((ints .u8 (kRec k x)).size = 32) := by show _ = _; rw [ints_size]; exact hkl.out
          have HTG := Lib.hid HD.out.tag
          have HA := HEe.out
          unfold apartLaw at HA
          rw [ey.out] at HA
          by_cases hlt : pt < (k.parts.length : Int)
          · have t9 : decide (pt < (k.parts.length : Int)) = true := decide_eq_true hlt
            rw [t9] at HA
            cases hb2 : decide (kRec k y = kRec k x) with
            | false =>
              rw [hb2] at HA
              have HF0 := Lib.hid (show kHolds k y (kRec k x) = false from HA)
              clear HA
              have HB2 := Lib.hid hb2
              clear hb2
              refine wp_region_held_drew (S := fun w' => Kept (fun _ => False) w9 w') (by kernel_rfl) ((Kept.refl (fun _ => False) w9).drew) (fun hHeld => ?_)
              have HF1 := Lib.hid (fun (w' : World) (hS : Kept (fun _ => False) w9 w') => f_holds (.slice pa k.parts.length pc) (.slice wa k.wits.length wcp) k E y (kRec k x) w' (HL0.out.kept (K_9.out.trans hS)) (HK0.out.kept (K_9.out.trans hS)) (HE.out.kept hS) HPW.out.1 HPW.out.2 hyt.out.2 hyt.out.1 hka.out)
              have HF2 := Lib.hid (fun (w' : World) (hS : Kept (fun _ => False) w9 w') => f_receipt (.slice pa k.parts.length pc) (.slice wa k.wits.length wcp) k E y w' (HL0.out.kept (K_9.out.trans hS)) (HK0.out.kept (K_9.out.trans hS)) (HE.out.kept hS) HPW.out.1 HPW.out.2)
              refine wpAnyH_take (i := 0) (oi := ⟨some 85, _, _, _, _, _⟩) (v := .agg #[.slice pa k.parts.length pc, .slice wa k.wits.length wcp, .int .i64 k.need]) rfl (by kernel_rfl) (by kernel_rfl) (by kernel_rfl) (fun _ _ _ h => h) (Or.inl ⟨by kernel_rfl, fun w' hS => by have c0 := row_cell (k := 0) (hS.row G1_9.out) rfl; have c1 := row_cell (k := 1) (hS.row G1_9.out) rfl; have c2 := row_cell (k := 2) (hS.row G1_9.out) rfl; go_simp⟩) (by assumption) ?_
              try simp only [Act.put, List.setIfInBounds_toArray, List.set_cons_succ, List.set_cons_zero]
              refine wpAnyH_take (i := 1) (oi := ⟨some 86, _, _, _, _, _⟩) (v := .agg E) rfl (by kernel_rfl) (by kernel_rfl) (by kernel_rfl) (fun _ _ _ h => h) (yields30 (g := B) (o := 0) (C := E) (by kernel_rfl) rfl (fun w' hS => range_row (hS.row Y9.out)) hez.out) (by assumption) ?_
              try simp only [Act.put, List.setIfInBounds_toArray, List.set_cons_succ, List.set_cons_zero]
              refine wpAnyH_take (i := 3) (oi := ⟨some 88, _, _, _, _, _⟩) (v := .pointer (some ⟨B, 8, none⟩)) rfl (by kernel_rfl) (by kernel_rfl) (by kernel_rfl) (fun _ _ _ h => h) (Or.inl ⟨by kernel_rfl, fun w' hS => by go_simp⟩) (by assumption) ?_
              try simp only [Act.put, List.setIfInBounds_toArray, List.set_cons_succ, List.set_cons_zero]
              refine wpAnyH_take (i := 4) (oi := ⟨some 89, _, _, _, _, _⟩) (v := .int .i64 pt) rfl (by kernel_rfl) (by kernel_rfl) (by kernel_rfl) (fun _ _ _ h => h) (Or.inl ⟨by kernel_rfl, fun w' hS => by have c8 := row_cell (hS.row Y9.out) HO.out; go_simp⟩) (by assumption) ?_
              try simp only [Act.put, List.setIfInBounds_toArray, List.set_cons_succ, List.set_cons_zero]
              refine wpAnyH_take (i := 5) (oi := ⟨some 90, _, _, _, _, _⟩) (v := .pointer (some ⟨w.heap.size, 0, none⟩)) rfl (by kernel_rfl) (by kernel_rfl) (by kernel_rfl) (fun _ _ _ h => h) (Or.inl ⟨by kernel_rfl, fun w' hS => by go_simp⟩) (by assumption) ?_
              try simp only [Act.put, List.setIfInBounds_toArray, List.set_cons_succ, List.set_cons_zero]
              refine wpAnyH_take (i := 6) (oi := ⟨some 91, _, _, _, _, _⟩) (v := .slice pa k.parts.length pc) rfl (by kernel_rfl) (by kernel_rfl) (by kernel_rfl) (fun _ _ _ h => h) (Or.inl ⟨by kernel_rfl, fun w' hS => by have c0 := row_cell (k := 0) (hS.row G1_9.out) rfl; go_simp⟩) (by assumption) ?_
              try simp only [Act.put, List.setIfInBounds_toArray, List.set_cons_succ, List.set_cons_zero]
              refine wpAnyH_take (i := 7) (oi := ⟨some 92, _, _, _, _, _⟩) (v := .int .i64 (k.parts.length : Int)) rfl (by kernel_rfl) (by kernel_rfl) (by kernel_rfl) (fun _ _ _ h => h) (Or.inl ⟨by kernel_rfl, fun w' hS => by go_simp⟩) (by assumption) ?_
              try simp only [Act.put, List.setIfInBounds_toArray, List.set_cons_succ, List.set_cons_zero]
              refine wpAnyH_take (i := 8) (oi := ⟨some 93, _, _, _, _, _⟩) (v := .bool true) rfl (by kernel_rfl) (by kernel_rfl) (by kernel_rfl) (fun _ _ _ h => h) (Or.inl ⟨by kernel_rfl, fun w' hS => by go_simp⟩) (by assumption) ?_
              try simp only [Act.put, List.setIfInBounds_toArray, List.set_cons_succ, List.set_cons_zero]
              refine wpAnyH_ready (rs := [2]) (by kernel_rfl) (by simp) ?_
              refine AllReadyH.cons (o := _) rfl (fun K hK => ?_) AllReadyH.nil
              go_simp
              refine (hold_is HF0.out (HF1.out _ (by assumption))).mono ?_
              rintro e wx1 ⟨rfl, kx1⟩
              have hS1 : Kept (fun _ => False) w9 wx1 := Kept.trans (by assumption) kx1
              clear kx1 hHeld
              go_wp2_with fail
              refine hK.out _ _ hS1 (fun hHeld => ?_)
              clear hK K
              try simp only [Act.put, List.setIfInBounds_toArray, List.set_cons_succ, List.set_cons_zero]
              refine wpAnyH_take (i := 9) (oi := ⟨some 94, _, _, _, _, _⟩) (v := .bool true) rfl (by kernel_rfl) (by kernel_rfl) (by kernel_rfl) (fun _ _ _ h => h) (Or.inl ⟨by kernel_rfl, fun w' hS => by go_simp⟩) (by assumption) ?_
              try simp only [Act.put, List.setIfInBounds_toArray, List.set_cons_succ, List.set_cons_zero]
              refine wpAnyH_take (i := 10) (oi := ⟨some 95, _, _, _, _, _⟩) (v := .agg #[.slice pa k.parts.length pc, .slice wa k.wits.length wcp, .int .i64 k.need]) rfl (by kernel_rfl) (by kernel_rfl) (by kernel_rfl) (fun _ _ _ h => h) (Or.inl ⟨by kernel_rfl, fun w' hS => by have c0 := row_cell (k := 0) (hS.row G1_9.out) rfl; have c1 := row_cell (k := 1) (hS.row G1_9.out) rfl; have c2 := row_cell (k := 2) (hS.row G1_9.out) rfl; go_simp⟩) (by assumption) ?_
              try simp only [Act.put, List.setIfInBounds_toArray, List.set_cons_succ, List.set_cons_zero]
              refine wpAnyH_take (i := 11) (oi := ⟨some 96, _, _, _, _, _⟩) (v := .agg E) rfl (by kernel_rfl) (by kernel_rfl) (by kernel_rfl) (fun _ _ _ h => h) (yields30 (g := B) (o := 0) (C := E) (by kernel_rfl) rfl (fun w' hS => range_row (hS.row Y9.out)) hez.out) (by assumption) ?_
              try simp only [Act.put, List.setIfInBounds_toArray, List.set_cons_succ, List.set_cons_zero]
              refine wpAnyH_take (i := 13) (oi := ⟨some 98, _, _, _, _, _⟩) (v := .pointer (some ⟨(w.heap.size + 1), 10, none⟩)) rfl (by kernel_rfl) (by kernel_rfl) (by kernel_rfl) (fun _ _ _ h => h) (Or.inl ⟨by kernel_rfl, fun w' hS => by go_simp⟩) (by assumption) ?_
              try simp only [Act.put, List.setIfInBounds_toArray, List.set_cons_succ, List.set_cons_zero]
              refine wpAnyH_take (i := 14) (oi := ⟨some 99, _, _, _, _, _⟩) (v := .agg (ints .u8 (kRec k x))) rfl (by kernel_rfl) (by kernel_rfl) (by kernel_rfl) (fun _ _ _ h => h) (yields26 (g := w.heap.size + 1) (o := 10) (C := ints .u8 (kRec k x)) (by kernel_rfl) rfl (fun w' hS => range_tag (hS.row G2_9.out) HTG.out) hkz.out) (by assumption) ?_
              try simp only [Act.put, List.setIfInBounds_toArray, List.set_cons_succ, List.set_cons_zero]
              refine wpAnyH_ready (rs := [12]) (by kernel_rfl) (by simp) ?_
              refine AllReadyH.cons (o := _) rfl (fun K hK => ?_) AllReadyH.nil
              go_simp
              refine (HF2.out _ (by assumption)).mono ?_
              rintro e wx2 ⟨rfl, kx2⟩
              have hS2 : Kept (fun _ => False) w9 wx2 := Kept.trans (by assumption) kx2
              clear kx2 hHeld
              go_wp2_with fail
              refine hK.out _ _ hS2 (fun hHeld => ?_)
              clear hK K
              try simp only [Act.put, List.setIfInBounds_toArray, List.set_cons_succ, List.set_cons_zero]
              refine wpAnyH_take (i := 15) (oi := ⟨some 100, _, _, _, _, _⟩) (v := .bool false) rfl (by kernel_rfl) (by kernel_rfl) (by kernel_rfl) (fun _ _ _ h => h) (yieldsEq26 (l := kRec k y) (m := kRec k x) HB2.out hyl.out hkl.out (by kernel_rfl) rfl rfl) (by assumption) ?_
              try simp only [Act.put, List.setIfInBounds_toArray, List.set_cons_succ, List.set_cons_zero]
              refine wpAnyH_take (i := 16) (oi := ⟨some 101, _, _, _, _, _⟩) (v := .bool false) rfl (by kernel_rfl) (by kernel_rfl) (by kernel_rfl) (fun _ _ _ h => h) (Or.inl ⟨by kernel_rfl, fun w' hS => by go_simp⟩) (by assumption) ?_
              try simp only [Act.put, List.setIfInBounds_toArray, List.set_cons_succ, List.set_cons_zero]
              refine wpAnyH_take (i := 17) (oi := ⟨some 102, _, _, _, _, _⟩) (v := .bool true) rfl (by kernel_rfl) (by kernel_rfl) (by kernel_rfl) (fun _ _ _ h => h) (Or.inl ⟨by kernel_rfl, fun w' hS => by go_simp⟩) (by assumption) ?_
              try simp only [Act.put, List.setIfInBounds_toArray, List.set_cons_succ, List.set_cons_zero]
              refine wpAnyH_take (i := 18) (oi := ⟨some 6, _, _, _, _, _⟩) (v := .bool true) rfl (by kernel_rfl) (by kernel_rfl) (by kernel_rfl) (fun _ _ _ h => h) (Or.inl ⟨by kernel_rfl, fun w' hS => by go_simp⟩) (by assumption) ?_
              try simp only [Act.put, List.setIfInBounds_toArray, List.set_cons_succ, List.set_cons_zero]
              refine wpAnyH_done (by kernel_rfl) ?_ _
              have KF := Lib.hid (K_9.out.trans hS2)
              go_wp2_with fail
              go_ret
              exact BPost.mk rfl KF.out
            | true =>
              rw [hb2] at HA
              have HF0 := Lib.hid (show kHolds k y (kRec k x) = true from HA)
              clear HA
              have HB2 := Lib.hid hb2
              clear hb2
              refine wp_region_held_drew (S := fun w' => Kept (fun _ => False) w9 w') (by kernel_rfl) ((Kept.refl (fun _ => False) w9).drew) (fun hHeld => ?_)
              have HF1 := Lib.hid (fun (w' : World) (hS : Kept (fun _ => False) w9 w') => f_holds (.slice pa k.parts.length pc) (.slice wa k.wits.length wcp) k E y (kRec k x) w' (HL0.out.kept (K_9.out.trans hS)) (HK0.out.kept (K_9.out.trans hS)) (HE.out.kept hS) HPW.out.1 HPW.out.2 hyt.out.2 hyt.out.1 hka.out)
              have HF2 := Lib.hid (fun (w' : World) (hS : Kept (fun _ => False) w9 w') => f_receipt (.slice pa k.parts.length pc) (.slice wa k.wits.length wcp) k E y w' (HL0.out.kept (K_9.out.trans hS)) (HK0.out.kept (K_9.out.trans hS)) (HE.out.kept hS) HPW.out.1 HPW.out.2)
              refine wpAnyH_take (i := 0) (oi := ⟨some 85, _, _, _, _, _⟩) (v := .agg #[.slice pa k.parts.length pc, .slice wa k.wits.length wcp, .int .i64 k.need]) rfl (by kernel_rfl) (by kernel_rfl) (by kernel_rfl) (fun _ _ _ h => h) (Or.inl ⟨by kernel_rfl, fun w' hS => by have c0 := row_cell (k := 0) (hS.row G1_9.out) rfl; have c1 := row_cell (k := 1) (hS.row G1_9.out) rfl; have c2 := row_cell (k := 2) (hS.row G1_9.out) rfl; go_simp⟩) (by assumption) ?_
              try simp only [Act.put, List.setIfInBounds_toArray, List.set_cons_succ, List.set_cons_zero]
              refine wpAnyH_take (i := 1) (oi := ⟨some 86, _, _, _, _, _⟩) (v := .agg E) rfl (by kernel_rfl) (by kernel_rfl) (by kernel_rfl) (fun _ _ _ h => h) (yields30 (g := B) (o := 0) (C := E) (by kernel_rfl) rfl (fun w' hS => range_row (hS.row Y9.out)) hez.out) (by assumption) ?_
              try simp only [Act.put, List.setIfInBounds_toArray, List.set_cons_succ, List.set_cons_zero]
              refine wpAnyH_take (i := 3) (oi := ⟨some 88, _, _, _, _, _⟩) (v := .pointer (some ⟨B, 8, none⟩)) rfl (by kernel_rfl) (by kernel_rfl) (by kernel_rfl) (fun _ _ _ h => h) (Or.inl ⟨by kernel_rfl, fun w' hS => by go_simp⟩) (by assumption) ?_
              try simp only [Act.put, List.setIfInBounds_toArray, List.set_cons_succ, List.set_cons_zero]
              refine wpAnyH_take (i := 4) (oi := ⟨some 89, _, _, _, _, _⟩) (v := .int .i64 pt) rfl (by kernel_rfl) (by kernel_rfl) (by kernel_rfl) (fun _ _ _ h => h) (Or.inl ⟨by kernel_rfl, fun w' hS => by have c8 := row_cell (hS.row Y9.out) HO.out; go_simp⟩) (by assumption) ?_
              try simp only [Act.put, List.setIfInBounds_toArray, List.set_cons_succ, List.set_cons_zero]
              refine wpAnyH_take (i := 5) (oi := ⟨some 90, _, _, _, _, _⟩) (v := .pointer (some ⟨w.heap.size, 0, none⟩)) rfl (by kernel_rfl) (by kernel_rfl) (by kernel_rfl) (fun _ _ _ h => h) (Or.inl ⟨by kernel_rfl, fun w' hS => by go_simp⟩) (by assumption) ?_
              try simp only [Act.put, List.setIfInBounds_toArray, List.set_cons_succ, List.set_cons_zero]
              refine wpAnyH_take (i := 6) (oi := ⟨some 91, _, _, _, _, _⟩) (v := .slice pa k.parts.length pc) rfl (by kernel_rfl) (by kernel_rfl) (by kernel_rfl) (fun _ _ _ h => h) (Or.inl ⟨by kernel_rfl, fun w' hS => by have c0 := row_cell (k := 0) (hS.row G1_9.out) rfl; go_simp⟩) (by assumption) ?_
              try simp only [Act.put, List.setIfInBounds_toArray, List.set_cons_succ, List.set_cons_zero]
              refine wpAnyH_take (i := 7) (oi := ⟨some 92, _, _, _, _, _⟩) (v := .int .i64 (k.parts.length : Int)) rfl (by kernel_rfl) (by kernel_rfl) (by kernel_rfl) (fun _ _ _ h => h) (Or.inl ⟨by kernel_rfl, fun w' hS => by go_simp⟩) (by assumption) ?_
              try simp only [Act.put, List.setIfInBounds_toArray, List.set_cons_succ, List.set_cons_zero]
              refine wpAnyH_take (i := 8) (oi := ⟨some 93, _, _, _, _, _⟩) (v := .bool true) rfl (by kernel_rfl) (by kernel_rfl) (by kernel_rfl) (fun _ _ _ h => h) (Or.inl ⟨by kernel_rfl, fun w' hS => by go_simp⟩) (by assumption) ?_
              try simp only [Act.put, List.setIfInBounds_toArray, List.set_cons_succ, List.set_cons_zero]
              refine wpAnyH_ready (rs := [2]) (by kernel_rfl) (by simp) ?_
              refine AllReadyH.cons (o := _) rfl (fun K hK => ?_) AllReadyH.nil
              go_simp
              refine (hold_is HF0.out (HF1.out _ (by assumption))).mono ?_
              rintro e wx1 ⟨rfl, kx1⟩
              have hS1 : Kept (fun _ => False) w9 wx1 := Kept.trans (by assumption) kx1
              clear kx1 hHeld
              go_wp2_with fail
              refine hK.out _ _ hS1 (fun hHeld => ?_)
              clear hK K
              try simp only [Act.put, List.setIfInBounds_toArray, List.set_cons_succ, List.set_cons_zero]
              refine wpAnyH_take (i := 9) (oi := ⟨some 94, _, _, _, _, _⟩) (v := .bool true) rfl (by kernel_rfl) (by kernel_rfl) (by kernel_rfl) (fun _ _ _ h => h) (Or.inl ⟨by kernel_rfl, fun w' hS => by go_simp⟩) (by assumption) ?_
              try simp only [Act.put, List.setIfInBounds_toArray, List.set_cons_succ, List.set_cons_zero]
              refine wpAnyH_take (i := 10) (oi := ⟨some 95, _, _, _, _, _⟩) (v := .agg #[.slice pa k.parts.length pc, .slice wa k.wits.length wcp, .int .i64 k.need]) rfl (by kernel_rfl) (by kernel_rfl) (by kernel_rfl) (fun _ _ _ h => h) (Or.inl ⟨by kernel_rfl, fun w' hS => by have c0 := row_cell (k := 0) (hS.row G1_9.out) rfl; have c1 := row_cell (k := 1) (hS.row G1_9.out) rfl; have c2 := row_cell (k := 2) (hS.row G1_9.out) rfl; go_simp⟩) (by assumption) ?_
              try simp only [Act.put, List.setIfInBounds_toArray, List.set_cons_succ, List.set_cons_zero]
              refine wpAnyH_take (i := 11) (oi := ⟨some 96, _, _, _, _, _⟩) (v := .agg E) rfl (by kernel_rfl) (by kernel_rfl) (by kernel_rfl) (fun _ _ _ h => h) (yields30 (g := B) (o := 0) (C := E) (by kernel_rfl) rfl (fun w' hS => range_row (hS.row Y9.out)) hez.out) (by assumption) ?_
              try simp only [Act.put, List.setIfInBounds_toArray, List.set_cons_succ, List.set_cons_zero]
              refine wpAnyH_take (i := 13) (oi := ⟨some 98, _, _, _, _, _⟩) (v := .pointer (some ⟨(w.heap.size + 1), 10, none⟩)) rfl (by kernel_rfl) (by kernel_rfl) (by kernel_rfl) (fun _ _ _ h => h) (Or.inl ⟨by kernel_rfl, fun w' hS => by go_simp⟩) (by assumption) ?_
              try simp only [Act.put, List.setIfInBounds_toArray, List.set_cons_succ, List.set_cons_zero]
              refine wpAnyH_take (i := 14) (oi := ⟨some 99, _, _, _, _, _⟩) (v := .agg (ints .u8 (kRec k x))) rfl (by kernel_rfl) (by kernel_rfl) (by kernel_rfl) (fun _ _ _ h => h) (yields26 (g := w.heap.size + 1) (o := 10) (C := ints .u8 (kRec k x)) (by kernel_rfl) rfl (fun w' hS => range_tag (hS.row G2_9.out) HTG.out) hkz.out) (by assumption) ?_
              try simp only [Act.put, List.setIfInBounds_toArray, List.set_cons_succ, List.set_cons_zero]
              refine wpAnyH_ready (rs := [12]) (by kernel_rfl) (by simp) ?_
              refine AllReadyH.cons (o := _) rfl (fun K hK => ?_) AllReadyH.nil
              go_simp
              refine (HF2.out _ (by assumption)).mono ?_
              rintro e wx2 ⟨rfl, kx2⟩
              have hS2 : Kept (fun _ => False) w9 wx2 := Kept.trans (by assumption) kx2
              clear kx2 hHeld
              go_wp2_with fail
              refine hK.out _ _ hS2 (fun hHeld => ?_)
              clear hK K
              try simp only [Act.put, List.setIfInBounds_toArray, List.set_cons_succ, List.set_cons_zero]
              refine wpAnyH_take (i := 15) (oi := ⟨some 100, _, _, _, _, _⟩) (v := .bool true) rfl (by kernel_rfl) (by kernel_rfl) (by kernel_rfl) (fun _ _ _ h => h) (yieldsEq26 (l := kRec k y) (m := kRec k x) HB2.out hyl.out hkl.out (by kernel_rfl) rfl rfl) (by assumption) ?_
              try simp only [Act.put, List.setIfInBounds_toArray, List.set_cons_succ, List.set_cons_zero]
              refine wpAnyH_take (i := 16) (oi := ⟨some 101, _, _, _, _, _⟩) (v := .bool true) rfl (by kernel_rfl) (by kernel_rfl) (by kernel_rfl) (fun _ _ _ h => h) (Or.inl ⟨by kernel_rfl, fun w' hS => by go_simp⟩) (by assumption) ?_
              try simp only [Act.put, List.setIfInBounds_toArray, List.set_cons_succ, List.set_cons_zero]
              refine wpAnyH_take (i := 17) (oi := ⟨some 102, _, _, _, _, _⟩) (v := .bool true) rfl (by kernel_rfl) (by kernel_rfl) (by kernel_rfl) (fun _ _ _ h => h) (Or.inl ⟨by kernel_rfl, fun w' hS => by go_simp⟩) (by assumption) ?_
              try simp only [Act.put, List.setIfInBounds_toArray, List.set_cons_succ, List.set_cons_zero]
              refine wpAnyH_take (i := 18) (oi := ⟨some 6, _, _, _, _, _⟩) (v := .bool true) rfl (by kernel_rfl) (by kernel_rfl) (by kernel_rfl) (fun _ _ _ h => h) (Or.inl ⟨by kernel_rfl, fun w' hS => by go_simp⟩) (by assumption) ?_
              try simp only [Act.put, List.setIfInBounds_toArray, List.set_cons_succ, List.set_cons_zero]
              refine wpAnyH_done (by kernel_rfl) ?_ _
              have KF := Lib.hid (K_9.out.trans hS2)
              go_wp2_with fail
              go_ret
              exact BPost.mk rfl KF.out
          · have t9 : decide (pt < (k.parts.length : Int)) = false := decide_eq_false hlt
            rw [t9] at HA
            have HF0 := Lib.hid (show kHolds k y (kRec k x) = false from HA)
            clear HA
            clear hlt
            refine wp_region_held_drew (S := fun w' => Kept (fun _ => False) w9 w') (by kernel_rfl) ((Kept.refl (fun _ => False) w9).drew) (fun hHeld => ?_)
            have HF1 := Lib.hid (fun (w' : World) (hS : Kept (fun _ => False) w9 w') => f_holds (.slice pa k.parts.length pc) (.slice wa k.wits.length wcp) k E y (kRec k x) w' (HL0.out.kept (K_9.out.trans hS)) (HK0.out.kept (K_9.out.trans hS)) (HE.out.kept hS) HPW.out.1 HPW.out.2 hyt.out.2 hyt.out.1 hka.out)
            have HF2 := Lib.hid (fun (w' : World) (hS : Kept (fun _ => False) w9 w') => f_receipt (.slice pa k.parts.length pc) (.slice wa k.wits.length wcp) k E y w' (HL0.out.kept (K_9.out.trans hS)) (HK0.out.kept (K_9.out.trans hS)) (HE.out.kept hS) HPW.out.1 HPW.out.2)
            refine wpAnyH_take (i := 0) (oi := ⟨some 85, _, _, _, _, _⟩) (v := .agg #[.slice pa k.parts.length pc, .slice wa k.wits.length wcp, .int .i64 k.need]) rfl (by kernel_rfl) (by kernel_rfl) (by kernel_rfl) (fun _ _ _ h => h) (Or.inl ⟨by kernel_rfl, fun w' hS => by have c0 := row_cell (k := 0) (hS.row G1_9.out) rfl; have c1 := row_cell (k := 1) (hS.row G1_9.out) rfl; have c2 := row_cell (k := 2) (hS.row G1_9.out) rfl; go_simp⟩) (by assumption) ?_
            try simp only [Act.put, List.setIfInBounds_toArray, List.set_cons_succ, List.set_cons_zero]
            refine wpAnyH_take (i := 1) (oi := ⟨some 86, _, _, _, _, _⟩) (v := .agg E) rfl (by kernel_rfl) (by kernel_rfl) (by kernel_rfl) (fun _ _ _ h => h) (yields30 (g := B) (o := 0) (C := E) (by kernel_rfl) rfl (fun w' hS => range_row (hS.row Y9.out)) hez.out) (by assumption) ?_
            try simp only [Act.put, List.setIfInBounds_toArray, List.set_cons_succ, List.set_cons_zero]
            refine wpAnyH_take (i := 3) (oi := ⟨some 88, _, _, _, _, _⟩) (v := .pointer (some ⟨B, 8, none⟩)) rfl (by kernel_rfl) (by kernel_rfl) (by kernel_rfl) (fun _ _ _ h => h) (Or.inl ⟨by kernel_rfl, fun w' hS => by go_simp⟩) (by assumption) ?_
            try simp only [Act.put, List.setIfInBounds_toArray, List.set_cons_succ, List.set_cons_zero]
            refine wpAnyH_take (i := 4) (oi := ⟨some 89, _, _, _, _, _⟩) (v := .int .i64 pt) rfl (by kernel_rfl) (by kernel_rfl) (by kernel_rfl) (fun _ _ _ h => h) (Or.inl ⟨by kernel_rfl, fun w' hS => by have c8 := row_cell (hS.row Y9.out) HO.out; go_simp⟩) (by assumption) ?_
            try simp only [Act.put, List.setIfInBounds_toArray, List.set_cons_succ, List.set_cons_zero]
            refine wpAnyH_take (i := 5) (oi := ⟨some 90, _, _, _, _, _⟩) (v := .pointer (some ⟨w.heap.size, 0, none⟩)) rfl (by kernel_rfl) (by kernel_rfl) (by kernel_rfl) (fun _ _ _ h => h) (Or.inl ⟨by kernel_rfl, fun w' hS => by go_simp⟩) (by assumption) ?_
            try simp only [Act.put, List.setIfInBounds_toArray, List.set_cons_succ, List.set_cons_zero]
            refine wpAnyH_take (i := 6) (oi := ⟨some 91, _, _, _, _, _⟩) (v := .slice pa k.parts.length pc) rfl (by kernel_rfl) (by kernel_rfl) (by kernel_rfl) (fun _ _ _ h => h) (Or.inl ⟨by kernel_rfl, fun w' hS => by have c0 := row_cell (k := 0) (hS.row G1_9.out) rfl; go_simp⟩) (by assumption) ?_
            try simp only [Act.put, List.setIfInBounds_toArray, List.set_cons_succ, List.set_cons_zero]
            refine wpAnyH_take (i := 7) (oi := ⟨some 92, _, _, _, _, _⟩) (v := .int .i64 (k.parts.length : Int)) rfl (by kernel_rfl) (by kernel_rfl) (by kernel_rfl) (fun _ _ _ h => h) (Or.inl ⟨by kernel_rfl, fun w' hS => by go_simp⟩) (by assumption) ?_
            try simp only [Act.put, List.setIfInBounds_toArray, List.set_cons_succ, List.set_cons_zero]
            refine wpAnyH_take (i := 8) (oi := ⟨some 93, _, _, _, _, _⟩) (v := .bool false) rfl (by kernel_rfl) (by kernel_rfl) (by kernel_rfl) (fun _ _ _ h => h) (Or.inl ⟨by kernel_rfl, fun w' hS => by go_simp⟩) (by assumption) ?_
            try simp only [Act.put, List.setIfInBounds_toArray, List.set_cons_succ, List.set_cons_zero]
            refine wpAnyH_ready (rs := [2]) (by kernel_rfl) (by simp) ?_
            refine AllReadyH.cons (o := _) rfl (fun K hK => ?_) AllReadyH.nil
            go_simp
            refine (hold_is HF0.out (HF1.out _ (by assumption))).mono ?_
            rintro e wx1 ⟨rfl, kx1⟩
            have hS1 : Kept (fun _ => False) w9 wx1 := Kept.trans (by assumption) kx1
            clear kx1 hHeld
            go_wp2_with fail
            refine hK.out _ _ hS1 (fun hHeld => ?_)
            clear hK K
            try simp only [Act.put, List.setIfInBounds_toArray, List.set_cons_succ, List.set_cons_zero]
            refine wpAnyH_take (i := 9) (oi := ⟨some 94, _, _, _, _, _⟩) (v := .bool false) rfl (by kernel_rfl) (by kernel_rfl) (by kernel_rfl) (fun _ _ _ h => h) (Or.inl ⟨by kernel_rfl, fun w' hS => by go_simp⟩) (by assumption) ?_
            try simp only [Act.put, List.setIfInBounds_toArray, List.set_cons_succ, List.set_cons_zero]
            refine wpAnyH_take (i := 10) (oi := ⟨some 95, _, _, _, _, _⟩) (v := undef) rfl (by kernel_rfl) (by kernel_rfl) (by kernel_rfl) (fun _ _ _ h => h) (Or.inr ⟨by kernel_rfl, rfl⟩) (by assumption) ?_
            try simp only [Act.put, List.setIfInBounds_toArray, List.set_cons_succ, List.set_cons_zero]
            refine wpAnyH_take (i := 11) (oi := ⟨some 96, _, _, _, _, _⟩) (v := undef) rfl (by kernel_rfl) (by kernel_rfl) (by kernel_rfl) (fun _ _ _ h => h) (Or.inr ⟨by kernel_rfl, rfl⟩) (by assumption) ?_
            try simp only [Act.put, List.setIfInBounds_toArray, List.set_cons_succ, List.set_cons_zero]
            refine wpAnyH_take (i := 12) (oi := ⟨some 97, _, _, _, _, _⟩) (v := undef) rfl (by kernel_rfl) (by kernel_rfl) (by kernel_rfl) (fun _ _ _ h => h) (Or.inr ⟨by kernel_rfl, rfl⟩) (by assumption) ?_
            try simp only [Act.put, List.setIfInBounds_toArray, List.set_cons_succ, List.set_cons_zero]
            refine wpAnyH_take (i := 13) (oi := ⟨some 98, _, _, _, _, _⟩) (v := undef) rfl (by kernel_rfl) (by kernel_rfl) (by kernel_rfl) (fun _ _ _ h => h) (Or.inr ⟨by kernel_rfl, rfl⟩) (by assumption) ?_
            try simp only [Act.put, List.setIfInBounds_toArray, List.set_cons_succ, List.set_cons_zero]
            refine wpAnyH_take (i := 14) (oi := ⟨some 99, _, _, _, _, _⟩) (v := undef) rfl (by kernel_rfl) (by kernel_rfl) (by kernel_rfl) (fun _ _ _ h => h) (Or.inr ⟨by kernel_rfl, rfl⟩) (by assumption) ?_
            try simp only [Act.put, List.setIfInBounds_toArray, List.set_cons_succ, List.set_cons_zero]
            refine wpAnyH_take (i := 15) (oi := ⟨some 100, _, _, _, _, _⟩) (v := undef) rfl (by kernel_rfl) (by kernel_rfl) (by kernel_rfl) (fun _ _ _ h => h) (Or.inr ⟨by kernel_rfl, rfl⟩) (by assumption) ?_
            try simp only [Act.put, List.setIfInBounds_toArray, List.set_cons_succ, List.set_cons_zero]
            refine wpAnyH_take (i := 16) (oi := ⟨some 101, _, _, _, _, _⟩) (v := .bool false) rfl (by kernel_rfl) (by kernel_rfl) (by kernel_rfl) (fun _ _ _ h => h) (Or.inl ⟨by kernel_rfl, fun w' hS => by go_simp⟩) (by assumption) ?_
            try simp only [Act.put, List.setIfInBounds_toArray, List.set_cons_succ, List.set_cons_zero]
            refine wpAnyH_take (i := 17) (oi := ⟨some 102, _, _, _, _, _⟩) (v := .bool true) rfl (by kernel_rfl) (by kernel_rfl) (by kernel_rfl) (fun _ _ _ h => h) (Or.inl ⟨by kernel_rfl, fun w' hS => by go_simp⟩) (by assumption) ?_
            try simp only [Act.put, List.setIfInBounds_toArray, List.set_cons_succ, List.set_cons_zero]
            refine wpAnyH_take (i := 18) (oi := ⟨some 6, _, _, _, _, _⟩) (v := .bool true) rfl (by kernel_rfl) (by kernel_rfl) (by kernel_rfl) (fun _ _ _ h => h) (Or.inl ⟨by kernel_rfl, fun w' hS => by go_simp⟩) (by assumption) ?_
            try simp only [Act.put, List.setIfInBounds_toArray, List.set_cons_succ, List.set_cons_zero]
            refine wpAnyH_done (by kernel_rfl) ?_ _
            have KF := Lib.hid (K_9.out.trans hS1)
            go_wp2_with fail
            go_ret
            exact BPost.mk rfl KF.out

end Go.Proofs.YtklmhegmombegaaDoor
