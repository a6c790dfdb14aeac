/-
  The contract of the reference's Check (30). Conditions: as each theorem says.
-/
import Derived.Test.YtklmhegmombegaaDoorRsJ
import Derived.Test.YtklmhegmombegaaDoorAliveL
import Derived.BigQuiet
set_option linter.unusedVariables false
set_option linter.unusedSimpArgs false
set_option maxRecDepth 100000
namespace Go.Proofs.YtklmhegmombegaaDoor
open Go Go.RowKit Plain
open Go.Proofs.YtklmhegmombegaaDoor.Re (wi wi_true wi_false)
namespace Plain
def hadIs (had : List Bool) (l : List (Int × List Nat)) : Prop := had.length = 4 ∧ ∀ i, i < 4 → had.getD i false = l.any fun s => s.1 == (i : Int)
theorem hadIs_zero : hadIs had0 [] := ⟨rfl, fun i hi => by
  match i, hi with
  | 0, _ => rfl
  | 1, _ => rfl
  | 2, _ => rfl
  | 3, _ => rfl⟩
theorem hadIs_succ {had : List Bool} {l : List (Int × List Nat)} {j m : Nat} {t : List Nat} (h : hadIs had (l.take j)) (hj : j < l.length) (hm : m < 4) (he : l[j] = ((m : Int), t)) : hadIs (had.set m true) (l.take (j + 1)) := by
  refine ⟨by rw [List.length_set, h.1], fun i hi => ?_⟩
  rw [← List.take_append_getElem hj, List.any_append, he]
  by_cases e : m = i
  · subst e
    rw [List.getD_eq_getElem?_getD, List.getElem?_set_self (by rw [h.1]; exact hi)]
    simp
  · rw [List.getD_eq_getElem?_getD, List.getElem?_set_ne e, ← List.getD_eq_getElem?_getD, h.2 i hi]
    have : ((m : Int) == (i : Int)) = false := by simp; omega
    simp [this]
theorem hadIs_no {had : List Bool} {l : List (Int × List Nat)} {j m : Nat} (h : hadIs had (l.take j)) (hm : m < 4) (hn : ∀ a, (ha : a < l.length) → a < j → l[a].1 ≠ (m : Int)) : had.getD m false = false := by
  rw [h.2 m hm, List.any_eq_false]
  intro s hs
  obtain ⟨a, ha, rfl⟩ := List.mem_iff_getElem.1 hs
  rw [List.length_take] at ha
  rw [List.getElem_take]
  have := hn a (by omega) (by omega)
  simpa using this
theorem hadIs_yes {had : List Bool} {l : List (Int × List Nat)} {j m a : Nat} (h : hadIs had (l.take j)) (hm : m < 4) (ha : a < l.length) (haj : a < j) (he : l[a].1 = (m : Int)) : had.getD m false = true := by
  rw [h.2 m hm, List.any_eq_true]
  refine ⟨l[a], ?_, by simpa using he⟩
  rw [List.mem_iff_getElem]
  exact ⟨a, by rw [List.length_take]; omega, List.getElem_take⟩
end Plain
theorem HSigs.all {w : World} {a : Option Addr} {c : Nat} {l : List (Int × List Nat)} (h : HSigs w (.slice a l.length c) l) (hl : 0 < l.length) : ∃ b o, a = some ⟨b, o, none⟩ ∧ ∀ i, (hi : i < l.length) → w.rangeAt b (o + i * 33) (sigC l[i]) := by
  obtain ⟨b, o, c', ev, -⟩ := h.at hl
  simp only [Value.slice.injEq, true_and] at ev
  obtain ⟨rfl, rfl⟩ := ev
  refine ⟨b, o, rfl, fun i hi => ?_⟩
  obtain ⟨b2, o2, c2, ev, hr⟩ := h.at hi
  simp only [Value.slice.injEq, true_and, Option.some.injEq, Addr.mk.injEq, and_true] at ev
  obtain ⟨⟨rfl, rfl⟩, rfl⟩ := ev
  exact hr
set_option maxHeartbeats 8000000 in
theorem f_rcheck (pv wv sv : Value) (k : Ky) (n : Int) (C : Array Value) (root : List Nat) (sigs : List (Int × List Nat)) (w : World) (hL : Laid w) (h : KyIn w pv wv k) (hp : PtIn C n root sv) (hs : HSigs w sv sigs) :
    Calls Tryd.prog 30 #[.agg #[pv, wv, .int .i64 k.need], .agg C] w (IPost (kCheck k n root sigs) w) := by
  have k1 := ((Kept.refl (fun _ => False) w).alloc (.cells #[pv, wv, .int .i64 k.need] 24)).alloc (.cells C 40)
  have G1 := Lib.hid (heap_alloc2_old w (.cells #[pv, wv, .int .i64 k.need] 24) (.cells C 40))
  have G2 := Lib.hid (heap_alloc2_new w (.cells #[pv, wv, .int .i64 k.need] 24) (.cells C 40))
  have HIn := Lib.hid (h.kept k1)
  have HL := Lib.hid (hL.kept k1)
  have HP := Lib.hid hp
  have HPZ := Lib.hid hp.size
  have HS := Lib.hid (hs.kept k1)
  have HM := Lib.hid (f_rmay pv wv k _ (h.kept k1))
  obtain ⟨wa, wcp, rfl⟩ := h.wits.form
  obtain ⟨sa, sc, rfl⟩ := hs.form
  have K1 := Lib.hid k1
  have hl3 := h.wits.len
  have hl4 := hs.len
  have HC : Hid (kCheck k n root sigs = if (kMay k && wi n 0 400) = true then (if goodS k n root had0 sigs = true then (if (sigs.length : Int) < k.need then 8 else 0) else 8) else 1) := rfl
  clear h k1 hL hp hs
  cases hm : kMay k with
  | false =>
    rw [hm] at HM
    have E : Hid (kCheck k n root sigs = 1) := by show _ = _; rw [HC.out, hm]; rfl
    clear hm HC
    go_enter Tryd.func30, Tryd.ntmps30
    go_upto_region 1 with (fail)
    generalize ((w.alloc (.cells #[pv, .slice wa k.wits.length wcp, .int .i64 k.need] 24)).alloc (.cells C 40)) = w1 at *
    have c0 := row_cell (k := 0) G1.out rfl
    have c1 := row_cell (k := 1) G1.out rfl
    have c2 := row_cell (k := 2) G1.out rfl
    go_wp2_with fail
    refine HM.out.mono ?_
    rintro e w2 ⟨rfl, k2⟩
    have K2 := Lib.hid (K1.out.trans k2)
    have G12 := Lib.hid (k2.row G1.out)
    have G22 := Lib.hid (k2.row G2.out)
    have HS2 := Lib.hid (HS.out.kept k2)
    have HI2 := Lib.hid (HIn.out.kept k2)
    have HL2 := Lib.hid (HL.out.kept k2)
    have d0 := row_cell (k2.row G2.out) HP.out.c0
    clear k2 c0 c1 c2 G1 G2 HS HIn HL K1 HM
    go_wp2_with fail
    go_ret
    exact IPost.mk E.out K2.out
  | true =>
    rw [hm] at HM
    cases d1 : decide (n < 0) with
    | true =>
      have E : Hid (kCheck k n root sigs = 1) := by show _ = _; rw [HC.out, hm, wi_false (.inl (by simpa using d1))]; rfl
      clear hm HC
      go_enter Tryd.func30, Tryd.ntmps30
      go_upto_region 1 with (fail)
      generalize ((w.alloc (.cells #[pv, .slice wa k.wits.length wcp, .int .i64 k.need] 24)).alloc (.cells C 40)) = w1 at *
      have c0 := row_cell (k := 0) G1.out rfl
      have c1 := row_cell (k := 1) G1.out rfl
      have c2 := row_cell (k := 2) G1.out rfl
      go_wp2_with fail
      refine HM.out.mono ?_
      rintro e w2 ⟨rfl, k2⟩
      have K2 := Lib.hid (K1.out.trans k2)
      have G12 := Lib.hid (k2.row G1.out)
      have G22 := Lib.hid (k2.row G2.out)
      have HS2 := Lib.hid (HS.out.kept k2)
      have HI2 := Lib.hid (HIn.out.kept k2)
      have HL2 := Lib.hid (HL.out.kept k2)
      have d0 := row_cell (k2.row G2.out) HP.out.c0
      clear k2 c0 c1 c2 G1 G2 HS HIn HL K1 HM
      go_wp2_with fail
      go_ret
      exact IPost.mk E.out K2.out
    | false =>
      cases d2 : decide (400 < n) with
      | true =>
        have E : Hid (kCheck k n root sigs = 1) := by show _ = _; rw [HC.out, hm, wi_false (.inr (by simpa using d2))]; rfl
        clear hm HC
        go_enter Tryd.func30, Tryd.ntmps30
        go_upto_region 1 with (fail)
        generalize ((w.alloc (.cells #[pv, .slice wa k.wits.length wcp, .int .i64 k.need] 24)).alloc (.cells C 40)) = w1 at *
        have c0 := row_cell (k := 0) G1.out rfl
        have c1 := row_cell (k := 1) G1.out rfl
        have c2 := row_cell (k := 2) G1.out rfl
        go_wp2_with fail
        refine HM.out.mono ?_
        rintro e w2 ⟨rfl, k2⟩
        have K2 := Lib.hid (K1.out.trans k2)
        have G12 := Lib.hid (k2.row G1.out)
        have G22 := Lib.hid (k2.row G2.out)
        have HS2 := Lib.hid (HS.out.kept k2)
        have HI2 := Lib.hid (HIn.out.kept k2)
        have HL2 := Lib.hid (HL.out.kept k2)
        have d0 := row_cell (k2.row G2.out) HP.out.c0
        clear k2 c0 c1 c2 G1 G2 HS HIn HL K1 HM
        go_wp2_with fail
        go_ret
        exact IPost.mk E.out K2.out
      | false =>
        have E : Hid (kCheck k n root sigs = if goodS k n root had0 sigs = true then (if (sigs.length : Int) < k.need then 8 else 0) else 8) := by
          show _ = _
          simp only [decide_eq_false_iff_not] at d1 d2
          rw [HC.out, hm, wi_true (by omega) (by omega)]; rfl
        have hw4 : k.wits.length ≤ 4 := by simp only [kMay, Bool.and_eq_true] at hm; have := wi_le hm.2.1; omega
        clear hm HC
        go_enter Tryd.func30, Tryd.ntmps30
        go_upto_region 1 with (fail)
        generalize ((w.alloc (.cells #[pv, .slice wa k.wits.length wcp, .int .i64 k.need] 24)).alloc (.cells C 40)) = w1 at *
        have c0 := row_cell (k := 0) G1.out rfl
        have c1 := row_cell (k := 1) G1.out rfl
        have c2 := row_cell (k := 2) G1.out rfl
        go_wp2_with fail
        refine HM.out.mono ?_
        rintro e w2 ⟨rfl, k2⟩
        have K2 := Lib.hid (K1.out.trans k2)
        have G12 := Lib.hid (k2.row G1.out)
        have G22 := Lib.hid (k2.row G2.out)
        have HS2 := Lib.hid (HS.out.kept k2)
        have HI2 := Lib.hid (HIn.out.kept k2)
        have HL2 := Lib.hid (HL.out.kept k2)
        have d0 := row_cell (k2.row G2.out) HP.out.c0
        clear k2 c0 c1 c2 G1 G2 HS HIn HL K1 HM
        go_upto_region 3 with (fail)
        clear d0 d1 d2
        go_wp2_with fail
        go_loopw [5] (fun i wr => ∃ (j : Nat) (had : List Bool), j ≤ sigs.length ∧ i = .int .i64 j ∧ Hid (hadIs had (sigs.take j)) ∧ Hid (goodS k n root had (sigs.drop j) = goodS k n root had0 sigs) ∧ Hid (Kept (fun _ => False) w2 wr)) (fun i _ => sigs.length - (intOf i).toNat)
        case atStart => exact ⟨0, had0, Nat.zero_le _, rfl, hadIs_zero, rfl, Kept.refl _ _⟩
        case round =>
          obtain ⟨j, had, hj, rfl, HH, HG, KR⟩ := hrel
          have KW := Lib.hid (K2.out.trans KR.out)
          have G1r := Lib.hid (KR.out.row G12.out)
          have G2r := Lib.hid (KR.out.row G22.out)
          by_cases hlt : j < sigs.length
          · obtain ⟨b, oo, rfl, hrr⟩ := HS2.out.all (by omega)
            have HRR := Lib.hid hrr
            have hg := HG.out
            rw [List.drop_eq_getElem_cons hlt] at hg
            have HE := Lib.hid (HS2.out.each _ (List.getElem_mem hlt))
            have hr := (HS2.out.kept KR.out).all (by omega)
            obtain ⟨b', oo', ev, hrj⟩ := hr
            simp only [Option.some.injEq, Addr.mk.injEq, and_true] at ev
            obtain ⟨rfl, rfl⟩ := ev
            have hr := hrj j hlt
            have HRJ := Lib.hid hrj
            clear hrj hrr
            generalize hsg : sigs[j] = sg at *
            obtain ⟨wt, tg⟩ := sg
            have HSG := Lib.hid hsg
            have HX : Hid (goodS k n root had0 sigs = ((wi wt 0 ((k.wits.length : Int) - 1) && !(had.getD wt.toNat false)) && (decide (kSign k wt n root = tg) && goodS k n root (had.set wt.toNat true) (sigs.drop (j + 1))))) := hg.symm
            have hsz := Lib.hid (show (sigC (wt, tg)).toArray.size = 33 by simp [sigC_len HE.out.1])
            have hso : Hid ((sigC (wt, tg)).toArray.all (·.oneCell') = true) := by
              show _ = _
              rw [Array.all_eq_true_iff_forall_mem]
              intro x hx
              simp only [sigC, List.mem_toArray, List.mem_cons] at hx
              rcases hx with rfl | hx
              · rfl
              · exact bys_one _ x hx
            have hs0 : Hid ((sigC (wt, tg)).toArray[0]? = some (.int .i64 wt)) := rfl
            have hst : Hid (∀ i v, (ints .u8 tg).toList[i]? = some v → (sigC (wt, tg)).toArray[1 + i]? = some v) := fun i v hv => by
              rw [ints_toList] at hv
              rw [Nat.add_comm]
              simpa [sigC, bys] using hv
            have htz := Lib.hid (show (ints .u8 tg).size = 32 by rw [ints_size]; exact HE.out.1)
            have HRG : Hid (wr.rangeAt b (oo + j * 33) (sigC (wt, tg)).toArray.toList) := hr
            generalize (sigC (wt, tg)).toArray = SB at *
            have z7 := Lib.hid (heap_alloc_new wr (.cells Z49 49))
            obtain ⟨y7, k7⟩ := alloc_set wr Z49 SB 49
            have Y7 := Lib.hid y7
            have K7 := Lib.hid (KR.out.trans k7)
            have KW7 := Lib.hid (KW.out.trans k7)
            have G17 := Lib.hid (k7.row G1r.out)
            have G27 := Lib.hid (k7.row G2r.out)
            have d33 := row_cell G2r.out HP.out.c33
            have hj1 : (j : Int) < (sigs.length : Int) := by omega
            have HI7 := Lib.hid (HI2.out.kept K7.out)
            have HL7 := Lib.hid (HL2.out.kept K7.out)
            clear hg hr y7 k7 HG hsg
            go_upto_region 7 with (first | fail | ((with_reducible refine load49 (C := SB) (g := b) (o := oo + j * 33) ?_ HRG.out hsz.out ?_); rfl) | (with_reducible refine alloc49 ?_) | ((with_reducible refine store49 (C := SB) ?_ ?_ z7.out Z49_size hsz.out hso.out ?_); rfl; rfl))
            generalize (wr.alloc (.cells Z49 49)).setRow wr.heap.size SB = w7 at *
            generalize wr.heap.size = g7 at *
            clear z7 KR KW G1r G2r HRG d33
            have k7d := (Kept.refl (fun _ => False) w7).drew
            refine wp_region_held_drew (S := fun w' => Kept (fun _ => False) w7.drew w') (by kernel_rfl) (Kept.refl _ _) (fun hHeld => ?_)
            have Y8 := Lib.hid (k7d.row Y7.out)
            have K8 := Lib.hid (K7.out.trans k7d)
            have KW8 := Lib.hid (KW7.out.trans k7d)
            have G18 := Lib.hid (k7d.row G17.out)
            have G28 := Lib.hid (k7d.row G27.out)
            have HI8 := Lib.hid (HI7.out.kept k7d)
            have HL8 := Lib.hid (HL7.out.kept k7d)
            clear k7d Y7 K7 KW7 G17 G27 HI7 HL7
            generalize w7.drew = w8 at *
            have hS8 := Kept.refl (fun _ => False) w8
            cases d3 : decide (wt < 0) with
            | true =>
              have E3 : Hid (kCheck k n root sigs = 8) := by show _ = _; rw [E.out, HX.out, wi_false (.inl (by simpa using d3))]; rfl
              clear HX
              refine wpAnyH_take (i := 0) (oi := ⟨some 33, _, _, _, _, _⟩) (v := .pointer (some ⟨g7, 0, none⟩)) rfl (by kernel_rfl) (by kernel_rfl) (by kernel_rfl) (fun _ _ _ h => h) (Or.inl ⟨by kernel_rfl, fun w' hS => by go_simp⟩) (by assumption) ?_
              try simp only [Act.put, List.setIfInBounds_toArray, List.set_cons_succ, List.set_cons_zero]
              refine wpAnyH_take (i := 1) (oi := ⟨some 34, _, _, _, _, _⟩) (v := .int .i64 wt) rfl (by kernel_rfl) (by kernel_rfl) (by kernel_rfl) (fun _ _ _ h => h) (Or.inl ⟨by kernel_rfl, fun w' hS => by have c := row_cell (hS.row Y8.out) hs0.out; go_simp⟩) (by assumption) ?_
              try simp only [Act.put, List.setIfInBounds_toArray, List.set_cons_succ, List.set_cons_zero]
              refine wpAnyH_take (i := 2) (oi := ⟨some 35, _, _, _, _, _⟩) (v := .bool true) rfl (by kernel_rfl) (by kernel_rfl) (by kernel_rfl) (fun _ _ _ h => h) (Or.inl ⟨by kernel_rfl, fun w' hS => by go_simp⟩) (by assumption) ?_
              try simp only [Act.put, List.setIfInBounds_toArray, List.set_cons_succ, List.set_cons_zero]
              refine wpAnyH_take (i := 3) (oi := ⟨some 36, _, _, _, _, _⟩) (v := .bool true) rfl (by kernel_rfl) (by kernel_rfl) (by kernel_rfl) (fun _ _ _ h => h) (Or.inl ⟨by kernel_rfl, fun w' hS => by go_simp⟩) (by assumption) ?_
              try simp only [Act.put, List.setIfInBounds_toArray, List.set_cons_succ, List.set_cons_zero]
              refine wpAnyH_take (i := 4) (oi := ⟨some 37, _, _, _, _, _⟩) (v := undef) rfl (by kernel_rfl) (by kernel_rfl) (by kernel_rfl) (fun _ _ _ h => h) (Or.inr ⟨by kernel_rfl, rfl⟩) (by assumption) ?_
              try simp only [Act.put, List.setIfInBounds_toArray, List.set_cons_succ, List.set_cons_zero]
              refine wpAnyH_take (i := 5) (oi := ⟨some 38, _, _, _, _, _⟩) (v := undef) rfl (by kernel_rfl) (by kernel_rfl) (by kernel_rfl) (fun _ _ _ h => h) (Or.inr ⟨by kernel_rfl, rfl⟩) (by assumption) ?_
              try simp only [Act.put, List.setIfInBounds_toArray, List.set_cons_succ, List.set_cons_zero]
              refine wpAnyH_take (i := 6) (oi := ⟨some 39, _, _, _, _, _⟩) (v := undef) rfl (by kernel_rfl) (by kernel_rfl) (by kernel_rfl) (fun _ _ _ h => h) (Or.inr ⟨by kernel_rfl, rfl⟩) (by assumption) ?_
              try simp only [Act.put, List.setIfInBounds_toArray, List.set_cons_succ, List.set_cons_zero]
              refine wpAnyH_take (i := 7) (oi := ⟨some 40, _, _, _, _, _⟩) (v := undef) rfl (by kernel_rfl) (by kernel_rfl) (by kernel_rfl) (fun _ _ _ h => h) (Or.inr ⟨by kernel_rfl, rfl⟩) (by assumption) ?_
              try simp only [Act.put, List.setIfInBounds_toArray, List.set_cons_succ, List.set_cons_zero]
              refine wpAnyH_take (i := 8) (oi := ⟨some 41, _, _, _, _, _⟩) (v := undef) rfl (by kernel_rfl) (by kernel_rfl) (by kernel_rfl) (fun _ _ _ h => h) (Or.inr ⟨by kernel_rfl, rfl⟩) (by assumption) ?_
              try simp only [Act.put, List.setIfInBounds_toArray, List.set_cons_succ, List.set_cons_zero]
              refine wpAnyH_take (i := 9) (oi := ⟨some 42, _, _, _, _, _⟩) (v := undef) rfl (by kernel_rfl) (by kernel_rfl) (by kernel_rfl) (fun _ _ _ h => h) (Or.inr ⟨by kernel_rfl, rfl⟩) (by assumption) ?_
              try simp only [Act.put, List.setIfInBounds_toArray, List.set_cons_succ, List.set_cons_zero]
              refine wpAnyH_take (i := 10) (oi := ⟨some 43, _, _, _, _, _⟩) (v := .bool true) rfl (by kernel_rfl) (by kernel_rfl) (by kernel_rfl) (fun _ _ _ h => h) (Or.inl ⟨by kernel_rfl, fun w' hS => by go_simp⟩) (by assumption) ?_
              try simp only [Act.put, List.setIfInBounds_toArray, List.set_cons_succ, List.set_cons_zero]
              refine wpAnyH_take (i := 11) (oi := ⟨some 44, _, _, _, _, _⟩) (v := .bool true) rfl (by kernel_rfl) (by kernel_rfl) (by kernel_rfl) (fun _ _ _ h => h) (Or.inl ⟨by kernel_rfl, fun w' hS => by go_simp⟩) (by assumption) ?_
              try simp only [Act.put, List.setIfInBounds_toArray, List.set_cons_succ, List.set_cons_zero]
              refine wpAnyH_take (i := 12) (oi := ⟨some 45, _, _, _, _, _⟩) (v := undef) rfl (by kernel_rfl) (by kernel_rfl) (by kernel_rfl) (fun _ _ _ h => h) (Or.inr ⟨by kernel_rfl, rfl⟩) (by assumption) ?_
              try simp only [Act.put, List.setIfInBounds_toArray, List.set_cons_succ, List.set_cons_zero]
              refine wpAnyH_take (i := 13) (oi := ⟨some 46, _, _, _, _, _⟩) (v := undef) rfl (by kernel_rfl) (by kernel_rfl) (by kernel_rfl) (fun _ _ _ h => h) (Or.inr ⟨by kernel_rfl, rfl⟩) (by assumption) ?_
              try simp only [Act.put, List.setIfInBounds_toArray, List.set_cons_succ, List.set_cons_zero]
              refine wpAnyH_take (i := 14) (oi := ⟨some 47, _, _, _, _, _⟩) (v := undef) rfl (by kernel_rfl) (by kernel_rfl) (by kernel_rfl) (fun _ _ _ h => h) (Or.inr ⟨by kernel_rfl, rfl⟩) (by assumption) ?_
              try simp only [Act.put, List.setIfInBounds_toArray, List.set_cons_succ, List.set_cons_zero]
              refine wpAnyH_take (i := 15) (oi := ⟨some 48, _, _, _, _, _⟩) (v := undef) rfl (by kernel_rfl) (by kernel_rfl) (by kernel_rfl) (fun _ _ _ h => h) (Or.inr ⟨by kernel_rfl, rfl⟩) (by assumption) ?_
              try simp only [Act.put, List.setIfInBounds_toArray, List.set_cons_succ, List.set_cons_zero]
              refine wpAnyH_take (i := 16) (oi := ⟨some 49, _, _, _, _, _⟩) (v := undef) rfl (by kernel_rfl) (by kernel_rfl) (by kernel_rfl) (fun _ _ _ h => h) (Or.inr ⟨by kernel_rfl, rfl⟩) (by assumption) ?_
              try simp only [Act.put, List.setIfInBounds_toArray, List.set_cons_succ, List.set_cons_zero]
              refine wpAnyH_take (i := 17) (oi := ⟨some 50, _, _, _, _, _⟩) (v := undef) rfl (by kernel_rfl) (by kernel_rfl) (by kernel_rfl) (fun _ _ _ h => h) (Or.inr ⟨by kernel_rfl, rfl⟩) (by assumption) ?_
              try simp only [Act.put, List.setIfInBounds_toArray, List.set_cons_succ, List.set_cons_zero]
              refine wpAnyH_take (i := 18) (oi := ⟨some 51, _, _, _, _, _⟩) (v := undef) rfl (by kernel_rfl) (by kernel_rfl) (by kernel_rfl) (fun _ _ _ h => h) (Or.inr ⟨by kernel_rfl, rfl⟩) (by assumption) ?_
              try simp only [Act.put, List.setIfInBounds_toArray, List.set_cons_succ, List.set_cons_zero]
              refine wpAnyH_take (i := 19) (oi := ⟨some 52, _, _, _, _, _⟩) (v := undef) rfl (by kernel_rfl) (by kernel_rfl) (by kernel_rfl) (fun _ _ _ h => h) (Or.inr ⟨by kernel_rfl, rfl⟩) (by assumption) ?_
              try simp only [Act.put, List.setIfInBounds_toArray, List.set_cons_succ, List.set_cons_zero]
              refine wpAnyH_take (i := 20) (oi := ⟨some 53, _, _, _, _, _⟩) (v := .bool true) rfl (by kernel_rfl) (by kernel_rfl) (by kernel_rfl) (fun _ _ _ h => h) (Or.inl ⟨by kernel_rfl, fun w' hS => by go_simp⟩) (by assumption) ?_
              try simp only [Act.put, List.setIfInBounds_toArray, List.set_cons_succ, List.set_cons_zero]
              refine wpAnyH_done (by kernel_rfl) ?_ _
              go_wp2_with fail
              go_ret
              exact IPost.mk E3.out KW8.out
            | false =>
              cases d4 : decide ((k.wits.length : Int) ≤ wt) with
              | true =>
                have E3 : Hid (kCheck k n root sigs = 8) := by show _ = _; rw [E.out, HX.out, wi_false (.inr (by have := of_decide_eq_true d4; omega))]; rfl
                clear HX
                refine wpAnyH_take (i := 0) (oi := ⟨some 33, _, _, _, _, _⟩) (v := .pointer (some ⟨g7, 0, none⟩)) rfl (by kernel_rfl) (by kernel_rfl) (by kernel_rfl) (fun _ _ _ h => h) (Or.inl ⟨by kernel_rfl, fun w' hS => by go_simp⟩) (by assumption) ?_
                try simp only [Act.put, List.setIfInBounds_toArray, List.set_cons_succ, List.set_cons_zero]
                refine wpAnyH_take (i := 1) (oi := ⟨some 34, _, _, _, _, _⟩) (v := .int .i64 wt) rfl (by kernel_rfl) (by kernel_rfl) (by kernel_rfl) (fun _ _ _ h => h) (Or.inl ⟨by kernel_rfl, fun w' hS => by have c := row_cell (hS.row Y8.out) hs0.out; go_simp⟩) (by assumption) ?_
                try simp only [Act.put, List.setIfInBounds_toArray, List.set_cons_succ, List.set_cons_zero]
                refine wpAnyH_take (i := 2) (oi := ⟨some 35, _, _, _, _, _⟩) (v := .bool false) rfl (by kernel_rfl) (by kernel_rfl) (by kernel_rfl) (fun _ _ _ h => h) (Or.inl ⟨by kernel_rfl, fun w' hS => by go_simp⟩) (by assumption) ?_
                try simp only [Act.put, List.setIfInBounds_toArray, List.set_cons_succ, List.set_cons_zero]
                refine wpAnyH_take (i := 3) (oi := ⟨some 36, _, _, _, _, _⟩) (v := .bool false) rfl (by kernel_rfl) (by kernel_rfl) (by kernel_rfl) (fun _ _ _ h => h) (Or.inl ⟨by kernel_rfl, fun w' hS => by go_simp⟩) (by assumption) ?_
                try simp only [Act.put, List.setIfInBounds_toArray, List.set_cons_succ, List.set_cons_zero]
                refine wpAnyH_take (i := 4) (oi := ⟨some 37, _, _, _, _, _⟩) (v := .pointer (some ⟨g7, 0, none⟩)) rfl (by kernel_rfl) (by kernel_rfl) (by kernel_rfl) (fun _ _ _ h => h) (Or.inl ⟨by kernel_rfl, fun w' hS => by go_simp⟩) (by assumption) ?_
                try simp only [Act.put, List.setIfInBounds_toArray, List.set_cons_succ, List.set_cons_zero]
                refine wpAnyH_take (i := 5) (oi := ⟨some 38, _, _, _, _, _⟩) (v := .int .i64 wt) rfl (by kernel_rfl) (by kernel_rfl) (by kernel_rfl) (fun _ _ _ h => h) (Or.inl ⟨by kernel_rfl, fun w' hS => by have c := row_cell (hS.row Y8.out) hs0.out; go_simp⟩) (by assumption) ?_
                try simp only [Act.put, List.setIfInBounds_toArray, List.set_cons_succ, List.set_cons_zero]
                refine wpAnyH_take (i := 6) (oi := ⟨some 39, _, _, _, _, _⟩) (v := .pointer (some ⟨w.heap.size, 1, none⟩)) rfl (by kernel_rfl) (by kernel_rfl) (by kernel_rfl) (fun _ _ _ h => h) (Or.inl ⟨by kernel_rfl, fun w' hS => by go_simp⟩) (by assumption) ?_
                try simp only [Act.put, List.setIfInBounds_toArray, List.set_cons_succ, List.set_cons_zero]
                refine wpAnyH_take (i := 7) (oi := ⟨some 40, _, _, _, _, _⟩) (v := .slice wa k.wits.length wcp) rfl (by kernel_rfl) (by kernel_rfl) (by kernel_rfl) (fun _ _ _ h => h) (Or.inl ⟨by kernel_rfl, fun w' hS => by have c := row_cell (k := 1) (hS.row G18.out) rfl; go_simp⟩) (by assumption) ?_
                try simp only [Act.put, List.setIfInBounds_toArray, List.set_cons_succ, List.set_cons_zero]
                refine wpAnyH_take (i := 8) (oi := ⟨some 41, _, _, _, _, _⟩) (v := .int .i64 (k.wits.length : Int)) rfl (by kernel_rfl) (by kernel_rfl) (by kernel_rfl) (fun _ _ _ h => h) (Or.inl ⟨by kernel_rfl, fun w' hS => by go_simp⟩) (by assumption) ?_
                try simp only [Act.put, List.setIfInBounds_toArray, List.set_cons_succ, List.set_cons_zero]
                refine wpAnyH_take (i := 9) (oi := ⟨some 42, _, _, _, _, _⟩) (v := .bool true) rfl (by kernel_rfl) (by kernel_rfl) (by kernel_rfl) (fun _ _ _ h => h) (Or.inl ⟨by kernel_rfl, fun w' hS => by go_simp⟩) (by assumption) ?_
                try simp only [Act.put, List.setIfInBounds_toArray, List.set_cons_succ, List.set_cons_zero]
                refine wpAnyH_take (i := 10) (oi := ⟨some 43, _, _, _, _, _⟩) (v := .bool true) rfl (by kernel_rfl) (by kernel_rfl) (by kernel_rfl) (fun _ _ _ h => h) (Or.inl ⟨by kernel_rfl, fun w' hS => by go_simp⟩) (by assumption) ?_
                try simp only [Act.put, List.setIfInBounds_toArray, List.set_cons_succ, List.set_cons_zero]
                refine wpAnyH_take (i := 11) (oi := ⟨some 44, _, _, _, _, _⟩) (v := .bool true) rfl (by kernel_rfl) (by kernel_rfl) (by kernel_rfl) (fun _ _ _ h => h) (Or.inl ⟨by kernel_rfl, fun w' hS => by go_simp⟩) (by assumption) ?_
                try simp only [Act.put, List.setIfInBounds_toArray, List.set_cons_succ, List.set_cons_zero]
                refine wpAnyH_take (i := 12) (oi := ⟨some 45, _, _, _, _, _⟩) (v := undef) rfl (by kernel_rfl) (by kernel_rfl) (by kernel_rfl) (fun _ _ _ h => h) (Or.inr ⟨by kernel_rfl, rfl⟩) (by assumption) ?_
                try simp only [Act.put, List.setIfInBounds_toArray, List.set_cons_succ, List.set_cons_zero]
                refine wpAnyH_take (i := 13) (oi := ⟨some 46, _, _, _, _, _⟩) (v := undef) rfl (by kernel_rfl) (by kernel_rfl) (by kernel_rfl) (fun _ _ _ h => h) (Or.inr ⟨by kernel_rfl, rfl⟩) (by assumption) ?_
                try simp only [Act.put, List.setIfInBounds_toArray, List.set_cons_succ, List.set_cons_zero]
                refine wpAnyH_take (i := 14) (oi := ⟨some 47, _, _, _, _, _⟩) (v := undef) rfl (by kernel_rfl) (by kernel_rfl) (by kernel_rfl) (fun _ _ _ h => h) (Or.inr ⟨by kernel_rfl, rfl⟩) (by assumption) ?_
                try simp only [Act.put, List.setIfInBounds_toArray, List.set_cons_succ, List.set_cons_zero]
                refine wpAnyH_take (i := 15) (oi := ⟨some 48, _, _, _, _, _⟩) (v := undef) rfl (by kernel_rfl) (by kernel_rfl) (by kernel_rfl) (fun _ _ _ h => h) (Or.inr ⟨by kernel_rfl, rfl⟩) (by assumption) ?_
                try simp only [Act.put, List.setIfInBounds_toArray, List.set_cons_succ, List.set_cons_zero]
                refine wpAnyH_take (i := 16) (oi := ⟨some 49, _, _, _, _, _⟩) (v := undef) rfl (by kernel_rfl) (by kernel_rfl) (by kernel_rfl) (fun _ _ _ h => h) (Or.inr ⟨by kernel_rfl, rfl⟩) (by assumption) ?_
                try simp only [Act.put, List.setIfInBounds_toArray, List.set_cons_succ, List.set_cons_zero]
                refine wpAnyH_take (i := 17) (oi := ⟨some 50, _, _, _, _, _⟩) (v := undef) rfl (by kernel_rfl) (by kernel_rfl) (by kernel_rfl) (fun _ _ _ h => h) (Or.inr ⟨by kernel_rfl, rfl⟩) (by assumption) ?_
                try simp only [Act.put, List.setIfInBounds_toArray, List.set_cons_succ, List.set_cons_zero]
                refine wpAnyH_take (i := 18) (oi := ⟨some 51, _, _, _, _, _⟩) (v := undef) rfl (by kernel_rfl) (by kernel_rfl) (by kernel_rfl) (fun _ _ _ h => h) (Or.inr ⟨by kernel_rfl, rfl⟩) (by assumption) ?_
                try simp only [Act.put, List.setIfInBounds_toArray, List.set_cons_succ, List.set_cons_zero]
                refine wpAnyH_take (i := 19) (oi := ⟨some 52, _, _, _, _, _⟩) (v := undef) rfl (by kernel_rfl) (by kernel_rfl) (by kernel_rfl) (fun _ _ _ h => h) (Or.inr ⟨by kernel_rfl, rfl⟩) (by assumption) ?_
                try simp only [Act.put, List.setIfInBounds_toArray, List.set_cons_succ, List.set_cons_zero]
                refine wpAnyH_take (i := 20) (oi := ⟨some 53, _, _, _, _, _⟩) (v := .bool true) rfl (by kernel_rfl) (by kernel_rfl) (by kernel_rfl) (fun _ _ _ h => h) (Or.inl ⟨by kernel_rfl, fun w' hS => by go_simp⟩) (by assumption) ?_
                try simp only [Act.put, List.setIfInBounds_toArray, List.set_cons_succ, List.set_cons_zero]
                refine wpAnyH_done (by kernel_rfl) ?_ _
                go_wp2_with fail
                go_ret
                exact IPost.mk E3.out KW8.out
              | false =>
                have h30 := of_decide_eq_false d3
                have h40 := of_decide_eq_false d4
                obtain ⟨m, rfl⟩ : ∃ m : Nat, wt = m := ⟨wt.toNat, by omega⟩
                have hm4 : m < 4 := by omega
                have hml : m < k.wits.length := by omega
                rw [wi_true (by omega) (by omega), Int.toNat_natCast] at HX
                clear h30 h40
                have HSN := Lib.hid (f_rsign pv (.slice wa k.wits.length wcp) (.slice (some ⟨b, oo, none⟩) sigs.length sc) k m n C root w8 HL8.out HI8.out HP.out HE.out.2.2)
                refine wpAnyH_take (i := 0) (oi := ⟨some 33, _, _, _, _, _⟩) (v := .pointer (some ⟨g7, 0, none⟩)) rfl (by kernel_rfl) (by kernel_rfl) (by kernel_rfl) (fun _ _ _ h => h) (Or.inl ⟨by kernel_rfl, fun w' hS => by go_simp⟩) (by assumption) ?_
                try simp only [Act.put, List.setIfInBounds_toArray, List.set_cons_succ, List.set_cons_zero]
                refine wpAnyH_take (i := 1) (oi := ⟨some 34, _, _, _, _, _⟩) (v := .int .i64 (m : Int)) rfl (by kernel_rfl) (by kernel_rfl) (by kernel_rfl) (fun _ _ _ h => h) (Or.inl ⟨by kernel_rfl, fun w' hS => by have c := row_cell (hS.row Y8.out) hs0.out; go_simp⟩) (by assumption) ?_
                try simp only [Act.put, List.setIfInBounds_toArray, List.set_cons_succ, List.set_cons_zero]
                refine wpAnyH_take (i := 2) (oi := ⟨some 35, _, _, _, _, _⟩) (v := .bool false) rfl (by kernel_rfl) (by kernel_rfl) (by kernel_rfl) (fun _ _ _ h => h) (Or.inl ⟨by kernel_rfl, fun w' hS => by go_simp⟩) (by assumption) ?_
                try simp only [Act.put, List.setIfInBounds_toArray, List.set_cons_succ, List.set_cons_zero]
                refine wpAnyH_take (i := 3) (oi := ⟨some 36, _, _, _, _, _⟩) (v := .bool false) rfl (by kernel_rfl) (by kernel_rfl) (by kernel_rfl) (fun _ _ _ h => h) (Or.inl ⟨by kernel_rfl, fun w' hS => by go_simp⟩) (by assumption) ?_
                try simp only [Act.put, List.setIfInBounds_toArray, List.set_cons_succ, List.set_cons_zero]
                refine wpAnyH_take (i := 4) (oi := ⟨some 37, _, _, _, _, _⟩) (v := .pointer (some ⟨g7, 0, none⟩)) rfl (by kernel_rfl) (by kernel_rfl) (by kernel_rfl) (fun _ _ _ h => h) (Or.inl ⟨by kernel_rfl, fun w' hS => by go_simp⟩) (by assumption) ?_
                try simp only [Act.put, List.setIfInBounds_toArray, List.set_cons_succ, List.set_cons_zero]
                refine wpAnyH_take (i := 5) (oi := ⟨some 38, _, _, _, _, _⟩) (v := .int .i64 (m : Int)) rfl (by kernel_rfl) (by kernel_rfl) (by kernel_rfl) (fun _ _ _ h => h) (Or.inl ⟨by kernel_rfl, fun w' hS => by have c := row_cell (hS.row Y8.out) hs0.out; go_simp⟩) (by assumption) ?_
                try simp only [Act.put, List.setIfInBounds_toArray, List.set_cons_succ, List.set_cons_zero]
                refine wpAnyH_take (i := 6) (oi := ⟨some 39, _, _, _, _, _⟩) (v := .pointer (some ⟨w.heap.size, 1, none⟩)) rfl (by kernel_rfl) (by kernel_rfl) (by kernel_rfl) (fun _ _ _ h => h) (Or.inl ⟨by kernel_rfl, fun w' hS => by go_simp⟩) (by assumption) ?_
                try simp only [Act.put, List.setIfInBounds_toArray, List.set_cons_succ, List.set_cons_zero]
                refine wpAnyH_take (i := 7) (oi := ⟨some 40, _, _, _, _, _⟩) (v := .slice wa k.wits.length wcp) rfl (by kernel_rfl) (by kernel_rfl) (by kernel_rfl) (fun _ _ _ h => h) (Or.inl ⟨by kernel_rfl, fun w' hS => by have c := row_cell (k := 1) (hS.row G18.out) rfl; go_simp⟩) (by assumption) ?_
                try simp only [Act.put, List.setIfInBounds_toArray, List.set_cons_succ, List.set_cons_zero]
                refine wpAnyH_take (i := 8) (oi := ⟨some 41, _, _, _, _, _⟩) (v := .int .i64 (k.wits.length : Int)) rfl (by kernel_rfl) (by kernel_rfl) (by kernel_rfl) (fun _ _ _ h => h) (Or.inl ⟨by kernel_rfl, fun w' hS => by go_simp⟩) (by assumption) ?_
                try simp only [Act.put, List.setIfInBounds_toArray, List.set_cons_succ, List.set_cons_zero]
                refine wpAnyH_take (i := 9) (oi := ⟨some 42, _, _, _, _, _⟩) (v := .bool false) rfl (by kernel_rfl) (by kernel_rfl) (by kernel_rfl) (fun _ _ _ h => h) (Or.inl ⟨by kernel_rfl, fun w' hS => by go_simp; first | done | exact hml⟩) (by assumption) ?_
                try simp only [Act.put, List.setIfInBounds_toArray, List.set_cons_succ, List.set_cons_zero]
                refine wpAnyH_take (i := 10) (oi := ⟨some 43, _, _, _, _, _⟩) (v := .bool false) rfl (by kernel_rfl) (by kernel_rfl) (by kernel_rfl) (fun _ _ _ h => h) (Or.inl ⟨by kernel_rfl, fun w' hS => by go_simp⟩) (by assumption) ?_
                try simp only [Act.put, List.setIfInBounds_toArray, List.set_cons_succ, List.set_cons_zero]
                refine wpAnyH_take (i := 11) (oi := ⟨some 44, _, _, _, _, _⟩) (v := .bool false) rfl (by kernel_rfl) (by kernel_rfl) (by kernel_rfl) (fun _ _ _ h => h) (Or.inl ⟨by kernel_rfl, fun w' hS => by go_simp⟩) (by assumption) ?_
                try simp only [Act.put, List.setIfInBounds_toArray, List.set_cons_succ, List.set_cons_zero]
                refine wpAnyH_take (i := 12) (oi := ⟨some 45, _, _, _, _, _⟩) (v := .pointer (some ⟨g7, 1, none⟩)) rfl (by kernel_rfl) (by kernel_rfl) (by kernel_rfl) (fun _ _ _ h => h) (Or.inl ⟨by kernel_rfl, fun w' hS => by go_simp⟩) (by assumption) ?_
                try simp only [Act.put, List.setIfInBounds_toArray, List.set_cons_succ, List.set_cons_zero]
                refine wpAnyH_take (i := 13) (oi := ⟨some 46, _, _, _, _, _⟩) (v := .agg (ints .u8 tg)) rfl (by kernel_rfl) (by kernel_rfl) (by kernel_rfl) (fun _ _ _ h => h) (yields26 (C := ints .u8 tg) (g := g7) (o := 1) (by kernel_rfl) rfl (fun w' hS => fun i v hv => row_cell (hS.row Y8.out) (hst.out i v hv)) htz.out) (by assumption) ?_
                try simp only [Act.put, List.setIfInBounds_toArray, List.set_cons_succ, List.set_cons_zero]
                refine wpAnyH_take (i := 14) (oi := ⟨some 47, _, _, _, _, _⟩) (v := .agg #[pv, .slice wa k.wits.length wcp, .int .i64 k.need]) rfl (by kernel_rfl) (by kernel_rfl) (by kernel_rfl) (fun _ _ _ h => h) (Or.inl ⟨by kernel_rfl, fun w' hS => by have c0 := row_cell (k := 0) (hS.row G18.out) rfl; have c1 := row_cell (k := 1) (hS.row G18.out) rfl; have c2 := row_cell (k := 2) (hS.row G18.out) rfl; go_simp⟩) (by assumption) ?_
                try simp only [Act.put, List.setIfInBounds_toArray, List.set_cons_succ, List.set_cons_zero]
                refine wpAnyH_take (i := 15) (oi := ⟨some 48, _, _, _, _, _⟩) (v := .pointer (some ⟨g7, 0, none⟩)) rfl (by kernel_rfl) (by kernel_rfl) (by kernel_rfl) (fun _ _ _ h => h) (Or.inl ⟨by kernel_rfl, fun w' hS => by go_simp⟩) (by assumption) ?_
                try simp only [Act.put, List.setIfInBounds_toArray, List.set_cons_succ, List.set_cons_zero]
                refine wpAnyH_take (i := 16) (oi := ⟨some 49, _, _, _, _, _⟩) (v := .int .i64 (m : Int)) rfl (by kernel_rfl) (by kernel_rfl) (by kernel_rfl) (fun _ _ _ h => h) (Or.inl ⟨by kernel_rfl, fun w' hS => by have c := row_cell (hS.row Y8.out) hs0.out; go_simp⟩) (by assumption) ?_
                try simp only [Act.put, List.setIfInBounds_toArray, List.set_cons_succ, List.set_cons_zero]
                refine wpAnyH_take (i := 17) (oi := ⟨some 50, _, _, _, _, _⟩) (v := .agg C) rfl (by kernel_rfl) (by kernel_rfl) (by kernel_rfl) (fun _ _ _ h => h) (yields40 (C := C) (g := w.heap.size + 1) (o := 0) (by kernel_rfl) rfl (fun w' hS => range_row (hS.row G28.out)) HPZ.out) (by assumption) ?_
                try simp only [Act.put, List.setIfInBounds_toArray, List.set_cons_succ, List.set_cons_zero]
                refine wpAnyH_ready (rs := [18]) (by kernel_rfl) (by simp) ?_
                refine AllReadyH.cons (o := _) rfl (fun K hK => ?_) AllReadyH.nil
                go_simp
                refine HSN.out.mono ?_
                rintro e w9 ⟨rfl, k9⟩
                have hS9 := hS8.trans k9
                have Y9 := Lib.hid (k9.row Y8.out)
                have K9 := Lib.hid (K8.out.trans k9)
                have KW9 := Lib.hid (KW8.out.trans k9)
                have G29 := Lib.hid (k9.row G28.out)
                clear k9 HSN
                go_wp2_with fail
                refine hK.out _ _ hS9 (fun hHeld => ?_)
                clear hK K
                try simp only [Act.put, List.setIfInBounds_toArray, List.set_cons_succ, List.set_cons_zero]
                cases hsm : decide (kSign k (m : Int) n root = tg) with
                | false =>
                  refine wpAnyH_take (i := 19) (oi := ⟨some 52, _, _, _, _, _⟩) (v := .bool true) rfl (by kernel_rfl) (by kernel_rfl) (by kernel_rfl) (fun _ _ _ h => h) (yieldsNe26 (l := tg) (m := kSign k (m : Int) n root) (by rw [show decide (tg = kSign k (m : Int) n root) = false from (decide_eq_decide.2 eq_comm).trans hsm]; rfl) HE.out.1 (kSign_len _ _ _ _) (by kernel_rfl) rfl rfl) (by assumption) ?_
                  try simp only [Act.put, List.setIfInBounds_toArray, List.set_cons_succ, List.set_cons_zero]
                  refine wpAnyH_take (i := 20) (oi := ⟨some 53, _, _, _, _, _⟩) (v := .bool true) rfl (by kernel_rfl) (by kernel_rfl) (by kernel_rfl) (fun _ _ _ h => h) (Or.inl ⟨by kernel_rfl, fun w' hS => by go_simp⟩) (by assumption) ?_
                  try simp only [Act.put, List.setIfInBounds_toArray, List.set_cons_succ, List.set_cons_zero]
                  refine wpAnyH_done (by kernel_rfl) ?_ _
                  have E3 : Hid (kCheck k n root sigs = 8) := by show _ = _; rw [E.out, HX.out, hsm]; simp
                  clear HX hsm
                  go_wp2_with fail
                  go_ret
                  exact IPost.mk E3.out KW9.out
                | true =>
                  refine wpAnyH_take (i := 19) (oi := ⟨some 52, _, _, _, _, _⟩) (v := .bool false) rfl (by kernel_rfl) (by kernel_rfl) (by kernel_rfl) (fun _ _ _ h => h) (yieldsNe26 (l := tg) (m := kSign k (m : Int) n root) (by rw [show decide (tg = kSign k (m : Int) n root) = true from (decide_eq_decide.2 eq_comm).trans hsm]; rfl) HE.out.1 (kSign_len _ _ _ _) (by kernel_rfl) rfl rfl) (by assumption) ?_
                  try simp only [Act.put, List.setIfInBounds_toArray, List.set_cons_succ, List.set_cons_zero]
                  refine wpAnyH_take (i := 20) (oi := ⟨some 53, _, _, _, _, _⟩) (v := .bool false) rfl (by kernel_rfl) (by kernel_rfl) (by kernel_rfl) (fun _ _ _ h => h) (Or.inl ⟨by kernel_rfl, fun w' hS => by go_simp⟩) (by assumption) ?_
                  try simp only [Act.put, List.setIfInBounds_toArray, List.set_cons_succ, List.set_cons_zero]
                  refine wpAnyH_done (by kernel_rfl) ?_ _
                  rw [hsm] at HX
                  clear hsm
                  have s0 := row_cell Y9.out hs0.out
                  clear hS8 hS9 Y8 K8 KW8 G18 HI8 HL8
                  go_wp2_with fail
                  go_loopw [7] (fun i wz => ∃ q : Nat, q ≤ j ∧ i = .int .i64 q ∧ Hid (∀ a, (ha : a < sigs.length) → a < q → sigs[a].1 ≠ (m : Int)) ∧ Hid (Kept (fun _ => False) w9 wz)) (fun i _ => j - (intOf i).toNat)
                  case atStart => exact ⟨0, Nat.zero_le _, rfl, fun a ha h => absurd h (Nat.not_lt_zero _), Kept.refl _ _⟩
                  case round =>
                    rename World => wz
                    obtain ⟨q, hq, rfl, HN, KZ⟩ := hrel
                    clear s0
                    by_cases hqj : q < j
                    · have hqs : q < sigs.length := by omega
                      have hqi : (q : Int) < (j : Int) := by omega
                      have hqi2 : (q : Int) < (sigs.length : Int) := by omega
                      have s0 := row_cell (KZ.out.row Y9.out) hs0.out
                      have hq0 := ((HS2.out.kept (K9.out.trans KZ.out)).all (by omega))
                      obtain ⟨b', oo', ev, hrq⟩ := hq0
                      simp only [Option.some.injEq, Addr.mk.injEq, and_true] at ev
                      obtain ⟨rfl, rfl⟩ := ev
                      have hqc := hrq q hqs 0 (.int .i64 sigs[q].1) rfl
                      rw [Nat.add_zero] at hqc
                      have d33 := row_cell (KZ.out.row G29.out) HP.out.c33
                      clear hrq
                      have HNQ := Lib.hid (fun (e : sigs[q].1 ≠ (m : Int)) => (show ∀ a, (ha : a < sigs.length) → a < q + 1 → sigs[a].1 ≠ (m : Int) from fun a ha h => by
                        rcases Nat.lt_succ_iff_lt_or_eq.1 h with h | h
                        · exact HN.out a ha h
                        · subst h; exact e))
                      have HYS := Lib.hid (fun (e : sigs[q].1 = (m : Int)) => hadIs_yes HH.out hm4 hqs hqj e)
                      generalize sigs[q].1 = zq at *
                      by_cases he : zq = (m : Int)
                      · have hb : (zq == (m : Int)) = true := by simpa using he
                        have E3 : Hid (kCheck k n root sigs = 8) := by show _ = _; rw [E.out, HX.out, HYS.out he]; rfl
                        subst he
                        go_upto_region 12 with (fail)
                        go_quiet (fail)
                        go_wp2_with fail
                        go_ret
                        exact IPost.mk E3.out (KW9.out.trans (KZ.out.drewN _))
                      · have hb : (zq == (m : Int)) = false := by simpa using he
                        have HNF := Lib.hid (HNQ.out he)
                        go_upto_region 12 with (fail)
                        go_quiet (fail)
                        go_wp2_with fail
                        go_roundw
                        case rel => exact ⟨q + 1, by omega, by go_num, HNF.out, KZ.out.drewN _⟩
                        case measure => simp [intOf]; omega
                    · obtain rfl : q = j := by omega
                      have hqi : ¬ ((q : Int) < (q : Int)) := by omega
                      have HF : Hid (goodS k n root (had.set m true) (sigs.drop (q + 1)) = goodS k n root had0 sigs) := by
                        show _ = _
                        rw [HX.out, hadIs_no HH.out hm4 HN.out]; rfl
                      have HD := Lib.hid (hadIs_succ HH.out hlt hm4 HSG.out)
                      have KF := Lib.hid (K9.out.trans KZ.out)
                      go_wp2_with fail
                      go_roundw
                      case rel => exact ⟨q + 1, had.set m true, by omega, by go_num, HD.out, HF.out, KF.out⟩
                      case measure => simp [intOf]; omega
          · obtain rfl : j = sigs.length := by omega
            have hg := HG.out
            rw [List.drop_length] at hg
            have E2 : Hid (kCheck k n root sigs = if (sigs.length : Int) < k.need then 8 else 0) := by show _ = _; rw [E.out, ← hg]; rfl
            have d33 := row_cell G2r.out HP.out.c33
            have c2 := row_cell (k := 2) G1r.out rfl
            clear hg
            by_cases hnd : (sigs.length : Int) < k.need
            · have E3 : Hid (kCheck k n root sigs = 8) := by show _ = _; rw [E2.out, if_pos hnd]
              go_wp2_with fail
              go_ret
              exact IPost.mk E3.out KW.out
            · have E3 : Hid (kCheck k n root sigs = 0) := by show _ = _; rw [E2.out, if_neg hnd]
              go_wp2_with fail
              go_ret
              exact IPost.mk E3.out KW.out
end Go.Proofs.YtklmhegmombegaaDoor
