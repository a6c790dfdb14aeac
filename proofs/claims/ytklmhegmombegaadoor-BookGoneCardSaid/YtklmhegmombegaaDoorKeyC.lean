/-
  The contracts of keys' Receipt, must's is. Conditions: as each theorem says.
-/
import Derived.Test.YtklmhegmombegaaDoorKeyB
set_option linter.unusedVariables false
set_option linter.unusedSimpArgs false
namespace Go.Proofs.YtklmhegmombegaaDoor
open Go Go.RowKit Plain
open Go.Proofs.YtklmhegmombegaaDoor.Re (wi wi_true wi_false RecIn Z30 hbs)
open Go.Proofs.YtklmhegmombegaaDoor.Re.Plain (Rx rightB)

namespace Plain
/-- A receipt's tag. -/
def kRec (k : Ky) (x : Rx) : List Nat := if x.kind = 3 ∧ kKnown k x.part x.epoch = true then macKey (kPart k x.part x.epoch) [2, x.saga, x.step, bitI x.bk, bitI x.good] else z32n
theorem kRec_len (k : Ky) (x : Rx) : (kRec k x).length = 32 := by
  unfold kRec
  split
  · exact sha_len _
  · rfl
theorem z32n_all : All8 z32n := by intro x hx; rw [List.eq_of_mem_replicate hx]; decide
theorem kRec_all (k : Ky) (x : Rx) : All8 (kRec k x) := by
  unfold kRec
  split
  · exact sha_all _
  · exact z32n_all
theorem bitI_le (b : Bool) : -9223372036854775808 ≤ bitI b ∧ bitI b ≤ 9223372036854775807 := by unfold bitI; split <;> constructor <;> omega
end Plain

theorem calls_bit (b : Bool) (w : World) : Calls Tryd.prog 57 #[.bool b] w (fun e w' => e = .returned (.int .i64 (bitI b)) ∧ w' = w) := (f_bit b w).mono fun _ _ h => ⟨h.1, h.2.symm⟩
set_option maxRecDepth 100000 in
set_option maxHeartbeats 8000000 in
theorem f_receipt (pv wv : Value) (k : Ky) (C : Array Value) (x : Rx) (w : World) (hL : Laid w) (h : KyIn w pv wv k) (hx : RecIn w C x) (hsg : -9223372036854775808 ≤ x.saga ∧ x.saga ≤ 9223372036854775807) (hst : -9223372036854775808 ≤ x.step ∧ x.step ≤ 9223372036854775807) :
    Calls Tryd.prog 23 #[.agg #[pv, wv, .int .i64 k.need], .agg C] w (RPost (.agg (ints .u8 (kRec k x))) w) := by
  have k1 := (((Kept.refl (fun _ => False) w).alloc (.cells #[pv, wv, .int .i64 k.need] 24)).alloc (.cells C 30)).alloc (.cells Z26 26)
  obtain ⟨g1, g2, g3⟩ := heap_alloc3 w (.cells #[pv, wv, .int .i64 k.need] 24) (.cells C 30) (.cells Z26 26)
  have HIn := Lib.hid (h.kept k1)
  have HL := Lib.hid (hL.kept k1)
  have HX := Lib.hid hx
  have G1 := Lib.hid g1
  have G2 := Lib.hid g2
  have G3 := Lib.hid g3
  have K1 := Lib.hid k1
  have hzo : Hid (Z26.all (·.oneCell') = true) := by show _ = _; rw [z26_ints]; exact ints_one _ _
  clear h k1 hL hx g1 g2 g3
  by_cases hk3 : x.kind = 3
  · have t1 : (x.kind != 3) = false := by rw [hk3]; rfl
    cases hkn : kKnown k x.part x.epoch with
    | false =>
      have E : Hid (ints .u8 (kRec k x) = Z26) := by show _ = _; rw [kRec, if_neg (fun h => by rw [hkn] at h; exact absurd h.2 (by decide)), z26_ints]
      rw [E.out]
      have HKN := Lib.hid hkn
      clear hkn
      go_enter Tryd.func23, Tryd.ntmps23
      go_upto_region 1 with (first | fail | (with_reducible refine alloc26 ?_))
      generalize (((w.alloc (.cells #[pv, wv, .int .i64 k.need] 24)).alloc (.cells C 30)).alloc (.cells Z26 26)) = w1 at *
      have c0 := row_cell (k := 0) G1.out rfl
      have c1 := row_cell (k := 1) G1.out rfl
      have c2 := row_cell (k := 2) G1.out rfl
      have d0 := row_cell G2.out HX.out.c0
      have d8 := row_cell G2.out HX.out.c8
      have d9 := row_cell G2.out HX.out.c9
      have HF := Lib.hid (f_known pv wv k x.part x.epoch w1 HIn.out)
      rw [HKN.out] at HF
      go_wp2_with fail
      refine HF.out.mono ?_
      rintro e w2 ⟨rfl, k2⟩
      have G32 := Lib.hid (k2.row G3.out)
      have K2 := Lib.hid (K1.out.trans k2)
      clear k2 c0 c1 c2 d0 d8 d9
      go_wp2_with (first | fail | (with_reducible refine build26 ?_) | ((with_reducible refine store26 (C := Z26) ?_ ?_ G32.out Z26_size Z26_size hzo.out ?_); rfl; rfl))
      exact bodyPost_ret (results_26 rfl _ _ _ (setRow_heap _ _ _ _ _ _ G32.out) Z26_size rfl) rfl (RPost.mk rfl (K2.out.setRow (by omega) _))
    | true =>
      have E : Hid (kRec k x = macKey (kPart k x.part x.epoch) [2, x.saga, x.step, bitI x.bk, bitI x.good]) := by show _ = _; rw [kRec, if_pos ⟨hk3, hkn⟩]
      rw [E.out]
      have HKN := Lib.hid hkn
      have hp32 := Lib.hid (kPart_len k x.part x.epoch)
      have hp8 := Lib.hid (kPart_all k x.part x.epoch)
      clear hkn E
      go_enter Tryd.func23, Tryd.ntmps23
      go_upto_region 1 with (first | fail | (with_reducible refine alloc26 ?_))
      generalize (((w.alloc (.cells #[pv, wv, .int .i64 k.need] 24)).alloc (.cells C 30)).alloc (.cells Z26 26)) = w1 at *
      have c0 := row_cell (k := 0) G1.out rfl
      have c1 := row_cell (k := 1) G1.out rfl
      have c2 := row_cell (k := 2) G1.out rfl
      have d0 := row_cell G2.out HX.out.c0
      have d8 := row_cell G2.out HX.out.c8
      have d9 := row_cell G2.out HX.out.c9
      have HF := Lib.hid (f_known pv wv k x.part x.epoch w1 HIn.out)
      rw [HKN.out] at HF
      go_upto_region 1 with (fail)
      go_wp2_with fail
      refine HF.out.mono ?_
      rintro e w2 ⟨rfl, k2⟩
      clear c0 c1 c2 d0 d8 d9
      go_upto_region 3 with (fail)
      have K2 := Lib.hid (K1.out.trans k2)
      have k2d := k2.drew
      have G32 := Lib.hid (k2d.row G3.out)
      have K2d := Lib.hid (K1.out.trans k2d)
      have HI2 := Lib.hid (HIn.out.kept k2d)
      have HL2 := Lib.hid (HL.out.kept k2d)
      have hS0 : w2.drew.heap[w.heap.size]? = some (.cells #[pv, wv, .int .i64 k.need] 24 (0, 0)) ∧ w2.drew.heap[w.heap.size + 1]? = some (.cells C 30 (0, 0)) := ⟨k2d.row G1.out, k2d.row G2.out⟩
      refine wp_region_held_drew (S := fun w' => w'.heap[w.heap.size]? = some (.cells #[pv, wv, .int .i64 k.need] 24 (0, 0)) ∧ w'.heap[w.heap.size + 1]? = some (.cells C 30 (0, 0))) (by kernel_rfl) hS0 (fun hHeld => ?_)
      clear k2 k2d K2 K1 G1 G2 G3 HL HIn
      generalize w2.drew = w3 at *
      refine wpAnyH_take (i := 0) (oi := ⟨some 18, _, _, _, _, _⟩) (v := .agg #[pv, wv, .int .i64 k.need]) rfl (by kernel_rfl) (by kernel_rfl) (by kernel_rfl) (fun _ _ _ h => h) (Or.inl ⟨by kernel_rfl, fun w' hS => by have c0 := row_cell (k := 0) hS.1 rfl; have c1 := row_cell (k := 1) hS.1 rfl; have c2 := row_cell (k := 2) hS.1 rfl; go_simp⟩) (by assumption) ?_
      try simp only [Act.put, List.setIfInBounds_toArray, List.set_cons_succ, List.set_cons_zero]
      refine wpAnyH_take (i := 1) (oi := ⟨some 19, _, _, _, _, _⟩) (v := .pointer (some ⟨w.heap.size + 1, 8, none⟩)) rfl (by kernel_rfl) (by kernel_rfl) (by kernel_rfl) (fun _ _ _ h => h) (Or.inl ⟨by kernel_rfl, fun w' hS => by go_simp⟩) (by assumption) ?_
      try simp only [Act.put, List.setIfInBounds_toArray, List.set_cons_succ, List.set_cons_zero]
      refine wpAnyH_take (i := 2) (oi := ⟨some 20, _, _, _, _, _⟩) (v := .int .i64 (x.part)) rfl (by kernel_rfl) (by kernel_rfl) (by kernel_rfl) (fun _ _ _ h => h) (Or.inl ⟨by kernel_rfl, fun w' hS => by have c := row_cell hS.2 HX.out.c8; go_simp⟩) (by assumption) ?_
      try simp only [Act.put, List.setIfInBounds_toArray, List.set_cons_succ, List.set_cons_zero]
      refine wpAnyH_take (i := 3) (oi := ⟨some 21, _, _, _, _, _⟩) (v := .pointer (some ⟨w.heap.size + 1, 9, none⟩)) rfl (by kernel_rfl) (by kernel_rfl) (by kernel_rfl) (fun _ _ _ h => h) (Or.inl ⟨by kernel_rfl, fun w' hS => by go_simp⟩) (by assumption) ?_
      try simp only [Act.put, List.setIfInBounds_toArray, List.set_cons_succ, List.set_cons_zero]
      refine wpAnyH_take (i := 4) (oi := ⟨some 22, _, _, _, _, _⟩) (v := .int .i64 (x.epoch)) rfl (by kernel_rfl) (by kernel_rfl) (by kernel_rfl) (fun _ _ _ h => h) (Or.inl ⟨by kernel_rfl, fun w' hS => by have c := row_cell hS.2 HX.out.c9; go_simp⟩) (by assumption) ?_
      try simp only [Act.put, List.setIfInBounds_toArray, List.set_cons_succ, List.set_cons_zero]
      refine wpAnyH_take (i := 6) (oi := ⟨some 24, _, _, _, _, _⟩) (v := .pointer (some ⟨w.heap.size + 1, 1, none⟩)) rfl (by kernel_rfl) (by kernel_rfl) (by kernel_rfl) (fun _ _ _ h => h) (Or.inl ⟨by kernel_rfl, fun w' hS => by go_simp⟩) (by assumption) ?_
      try simp only [Act.put, List.setIfInBounds_toArray, List.set_cons_succ, List.set_cons_zero]
      refine wpAnyH_take (i := 7) (oi := ⟨some 25, _, _, _, _, _⟩) (v := .int .i64 (x.saga)) rfl (by kernel_rfl) (by kernel_rfl) (by kernel_rfl) (fun _ _ _ h => h) (Or.inl ⟨by kernel_rfl, fun w' hS => by have c := row_cell hS.2 HX.out.c1; go_simp⟩) (by assumption) ?_
      try simp only [Act.put, List.setIfInBounds_toArray, List.set_cons_succ, List.set_cons_zero]
      refine wpAnyH_take (i := 8) (oi := ⟨some 26, _, _, _, _, _⟩) (v := .pointer (some ⟨w.heap.size + 1, 3, none⟩)) rfl (by kernel_rfl) (by kernel_rfl) (by kernel_rfl) (fun _ _ _ h => h) (Or.inl ⟨by kernel_rfl, fun w' hS => by go_simp⟩) (by assumption) ?_
      try simp only [Act.put, List.setIfInBounds_toArray, List.set_cons_succ, List.set_cons_zero]
      refine wpAnyH_take (i := 9) (oi := ⟨some 27, _, _, _, _, _⟩) (v := .int .i64 (x.step)) rfl (by kernel_rfl) (by kernel_rfl) (by kernel_rfl) (fun _ _ _ h => h) (Or.inl ⟨by kernel_rfl, fun w' hS => by have c := row_cell hS.2 HX.out.c3; go_simp⟩) (by assumption) ?_
      try simp only [Act.put, List.setIfInBounds_toArray, List.set_cons_succ, List.set_cons_zero]
      refine wpAnyH_take (i := 10) (oi := ⟨some 28, _, _, _, _, _⟩) (v := .pointer (some ⟨w.heap.size + 1, 5, none⟩)) rfl (by kernel_rfl) (by kernel_rfl) (by kernel_rfl) (fun _ _ _ h => h) (Or.inl ⟨by kernel_rfl, fun w' hS => by go_simp⟩) (by assumption) ?_
      try simp only [Act.put, List.setIfInBounds_toArray, List.set_cons_succ, List.set_cons_zero]
      refine wpAnyH_take (i := 11) (oi := ⟨some 29, _, _, _, _, _⟩) (v := .bool x.bk) rfl (by kernel_rfl) (by kernel_rfl) (by kernel_rfl) (fun _ _ _ h => h) (Or.inl ⟨by kernel_rfl, fun w' hS => by have c := row_cell hS.2 HX.out.c5; go_simp⟩) (by assumption) ?_
      try simp only [Act.put, List.setIfInBounds_toArray, List.set_cons_succ, List.set_cons_zero]
      refine wpAnyH_take (i := 13) (oi := ⟨some 31, _, _, _, _, _⟩) (v := .pointer (some ⟨w.heap.size + 1, 6, none⟩)) rfl (by kernel_rfl) (by kernel_rfl) (by kernel_rfl) (fun _ _ _ h => h) (Or.inl ⟨by kernel_rfl, fun w' hS => by go_simp⟩) (by assumption) ?_
      try simp only [Act.put, List.setIfInBounds_toArray, List.set_cons_succ, List.set_cons_zero]
      refine wpAnyH_take (i := 14) (oi := ⟨some 32, _, _, _, _, _⟩) (v := .bool x.good) rfl (by kernel_rfl) (by kernel_rfl) (by kernel_rfl) (fun _ _ _ h => h) (Or.inl ⟨by kernel_rfl, fun w' hS => by have c := row_cell hS.2 HX.out.c6; go_simp⟩) (by assumption) ?_
      try simp only [Act.put, List.setIfInBounds_toArray, List.set_cons_succ, List.set_cons_zero]
      refine wpAnyH_ready (rs := [5]) (by kernel_rfl) (by simp) ?_
      refine AllReadyH.cons (o := _) rfl (fun K hK => ?_) AllReadyH.nil
      go_simp
      refine (f_part pv wv k x.part x.epoch w3 HL2.out HI2.out).mono ?_
      rintro e w4 ⟨rfl, k4⟩
      have hS1 : w4.heap[w.heap.size]? = some (.cells #[pv, wv, .int .i64 k.need] 24 (0, 0)) ∧ w4.heap[w.heap.size + 1]? = some (.cells C 30 (0, 0)) := ⟨k4.row hS0.1, k4.row hS0.2⟩
      have G34 := Lib.hid (k4.row G32.out)
      have K4 := Lib.hid (K2d.out.trans k4)
      have HL4 := Lib.hid (HL2.out.kept k4)
      clear k4 K2d HL2 HI2 G32
      go_wp2_with fail
      refine hK.out _ _ hS1 (fun hHeld => ?_)
      clear hK K
      try simp only [Act.put, List.setIfInBounds_toArray, List.set_cons_succ, List.set_cons_zero]
      refine wpAnyH_ready (rs := [12]) (by kernel_rfl) (by simp) ?_
      refine AllReadyH.cons (o := _) rfl (fun K hK => ?_) AllReadyH.nil
      go_simp
      refine (calls_bit x.bk _).mono ?_
      rintro e wq ⟨rfl, rfl⟩
      go_wp2_with fail
      refine hK.out _ _ hS1 (fun hHeld => ?_)
      clear hK K
      try simp only [Act.put, List.setIfInBounds_toArray, List.set_cons_succ, List.set_cons_zero]
      refine wpAnyH_ready (rs := [15]) (by kernel_rfl) (by simp) ?_
      refine AllReadyH.cons (o := _) rfl (fun K hK => ?_) AllReadyH.nil
      go_simp
      refine (calls_bit x.good _).mono ?_
      rintro e wq ⟨rfl, rfl⟩
      go_wp2_with fail
      refine hK.out _ _ hS1 (fun hHeld => ?_)
      clear hK K
      try simp only [Act.put, List.setIfInBounds_toArray, List.set_cons_succ, List.set_cons_zero]
      refine wpAnyH_ready (rs := [16]) (by kernel_rfl) (by simp) ?_
      refine AllReadyH.cons (o := _) rfl (fun K hK => ?_) AllReadyH.nil
      have k5 := (Kept.refl (fun _ => False) wq).alloc (.cells #[.int .i64 2, .int .i64 x.saga, .int .i64 x.step, .int .i64 (bitI x.bk), .int .i64 (bitI x.good)] 3)
      have hW5 : HInts (wq.alloc (.cells #[.int .i64 2, .int .i64 x.saga, .int .i64 x.step, .int .i64 (bitI x.bk), .int .i64 (bitI x.good)] 3)) (.slice (some ⟨wq.heap.size, 0, none⟩) 5 5) [2, x.saga, x.step, bitI x.bk, bitI x.good] :=
        HInts.of_block (l := [2, x.saga, x.step, bitI x.bk, bitI x.good]) (heap_alloc_new wq _) rfl (by simp) (fun z hz => by
          simp only [List.mem_cons, List.not_mem_nil, or_false] at hz
          rcases hz with rfl | rfl | rfl | rfl | rfl
          · constructor <;> omega
          · exact hsg
          · exact hst
          · exact bitI_le _
          · exact bitI_le _) 5
      have HF2 := Lib.hid (f_key (kPart k x.part x.epoch) _ _ _ (HL4.out.kept k5) hp8.out hp32.out hW5)
      have K5 := Lib.hid (K4.out.trans k5)
      have G35 := Lib.hid (k5.row G34.out)
      have hS2 : (wq.alloc (.cells #[.int .i64 2, .int .i64 x.saga, .int .i64 x.step, .int .i64 (bitI x.bk), .int .i64 (bitI x.good)] 3)).heap[w.heap.size]? = some (.cells #[pv, wv, .int .i64 k.need] 24 (0, 0)) ∧ (wq.alloc (.cells #[.int .i64 2, .int .i64 x.saga, .int .i64 x.step, .int .i64 (bitI x.bk), .int .i64 (bitI x.good)] 3)).heap[w.heap.size + 1]? = some (.cells C 30 (0, 0)) := ⟨k5.row hS1.1, k5.row hS1.2⟩
      clear k5 hW5
      go_simp
      refine hK.out _ _ hS2 (fun hHeld => ?_)
      clear hK K
      try simp only [Act.put, List.setIfInBounds_toArray, List.set_cons_succ, List.set_cons_zero]
      refine wpAnyH_ready (rs := [17]) (by kernel_rfl) (by simp) ?_
      refine AllReadyH.cons (o := _) rfl (fun K hK => ?_) AllReadyH.nil
      go_simp
      refine HF2.out.mono ?_
      rintro e w6 ⟨rfl, k6⟩
      have hS3 : w6.heap[w.heap.size]? = some (.cells #[pv, wv, .int .i64 k.need] 24 (0, 0)) ∧ w6.heap[w.heap.size + 1]? = some (.cells C 30 (0, 0)) := ⟨k6.row hS2.1, k6.row hS2.2⟩
      have G36 := Lib.hid (k6.row G35.out)
      have K6 := Lib.hid (K5.out.trans k6)
      have hmz := Lib.hid (show (ints .u8 (macKey (kPart k x.part x.epoch) [2, x.saga, x.step, bitI x.bk, bitI x.good])).size = 32 by rw [ints_size]; exact sha_len _)
      have hmo := Lib.hid (ints_one .u8 (macKey (kPart k x.part x.epoch) [2, x.saga, x.step, bitI x.bk, bitI x.good]))
      clear k6 K5 G35 HF2 hS2
      go_wp2_with fail
      refine hK.out _ _ hS3 (fun hHeld => ?_)
      clear hK K
      try simp only [Act.put, List.setIfInBounds_toArray, List.set_cons_succ, List.set_cons_zero]
      refine wpAnyH_ready (rs := [18]) (by kernel_rfl) (by simp) ?_
      refine AllReadyH.cons (o := _) rfl (fun K hK => ?_) AllReadyH.nil
      refine step_store26 (C := ints .u8 (macKey (kPart k x.part x.epoch) [2, x.saga, x.step, bitI x.bk, bitI x.good])) (g := w.heap.size + 1 + 1) (o := 0) (by kernel_rfl) rfl rfl hmz.out hmo.out G36.out (by rw [Z26_size]; decide) ?_
      intro wn Yn kn
      rw [puts_all (by rw [Z26_size, hmz.out])] at Yn
      have KWn : Kept (fun _ => False) w wn := K6.out.trans' kn (fun i hi e => by omega)
      have hS4 : wn.heap[w.heap.size]? = some (.cells #[pv, wv, .int .i64 k.need] 24 (0, 0)) ∧ wn.heap[w.heap.size + 1]? = some (.cells C 30 (0, 0)) := ⟨kn.rowS (by omega) hS3.1, kn.rowS (by omega) hS3.2⟩
      refine hK.out _ _ hS4 (fun hHeld => ?_)
      clear hK K
      try simp only [Act.put, List.setIfInBounds_toArray, List.set_cons_succ, List.set_cons_zero]
      refine wpAnyH_done (by kernel_rfl) ?_ _
      have HYN := Lib.hid Yn
      have HKN := Lib.hid KWn
      clear Yn KWn kn
      go_wp2_with fail
      exact bodyPost_ret (results_26 rfl _ _ _ HYN.out hmz.out rfl) rfl (RPost.mk rfl HKN.out)
  · have t1 : (x.kind != 3) = true := by simpa using hk3
    have E : Hid (ints .u8 (kRec k x) = Z26) := by show _ = _; rw [kRec, if_neg (fun h => hk3 h.1), z26_ints]
    rw [E.out]
    clear E
    go_enter Tryd.func23, Tryd.ntmps23
    go_upto_region 1 with (first | fail | (with_reducible refine alloc26 ?_))
    generalize (((w.alloc (.cells #[pv, wv, .int .i64 k.need] 24)).alloc (.cells C 30)).alloc (.cells Z26 26)) = w1 at *
    have d0 := row_cell G2.out HX.out.c0
    go_wp2_with (first | fail | (with_reducible refine build26 ?_) | ((with_reducible refine store26 (C := Z26) ?_ ?_ G3.out Z26_size Z26_size hzo.out ?_); rfl; rfl))
    exact bodyPost_ret (results_26 rfl _ _ _ (setRow_heap _ _ _ _ _ _ G3.out) Z26_size rfl) rfl (RPost.mk rfl (K1.out.setRow (by omega) _))
  end Go.Proofs.YtklmhegmombegaaDoor
