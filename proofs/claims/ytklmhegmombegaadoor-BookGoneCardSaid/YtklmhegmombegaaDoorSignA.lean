/-
  The contract of keys' Sign. Conditions: as each theorem says.
-/
import Derived.Test.YtklmhegmombegaaDoorMem2
set_option linter.unusedVariables false
set_option linter.unusedSimpArgs false
namespace Go.Proofs.YtklmhegmombegaaDoor
open Go Go.RowKit Plain
open Go.Proofs.YtklmhegmombegaaDoor.Re (wi wi_true wi_false)

namespace Plain
def kSigns (k : Ky) (wit n : Int) : Bool := kMay k && (wi wit 0 ((k.wits.length : Int) - 1) && wi n 0 400)
/-- A witness's tag. -/
def kSign (k : Ky) (wit n : Int) (root : List Nat) : List Nat := if kSigns k wit n = true then tagOf (k.wits.getD wit.toNat z32n) (3 :: ptText n root) else z32n
theorem kSign_len (k : Ky) (wit n : Int) (root : List Nat) : (kSign k wit n root).length = 32 := by
  unfold kSign
  split
  · exact sha_len _
  · rfl
theorem kSign_all (k : Ky) (wit n : Int) (root : List Nat) : All8 (kSign k wit n root) := by
  unfold kSign
  split
  · exact sha_all _
  · exact z32n_all
theorem kSigns_iff {k : Ky} {wit n : Int} (h : kSigns k wit n = true) : kMay k = true ∧ 0 ≤ wit ∧ wit < k.wits.length ∧ 0 ≤ n ∧ n ≤ 400 := by
  simp only [kSigns, Bool.and_eq_true] at h
  have h1 := wi_le h.2.1
  have h2 := wi_le h.2.2
  exact ⟨h.1, h1.1, by omega, h2.1, h2.2⟩
end Plain
theorem HBytes.range {w : World} {b o : Nat} {l : List Nat} (hr : w.rangeAt b o (ints .u8 l).toList) (hb : b < w.heap.size) (h8 : All8 l) (hl : l.length ≤ maxLen) (c : Nat) : HBytes w (.slice (some ⟨b, o, none⟩) l.length c) l := by
  refine ⟨⟨by simp, _, c, rfl, .inr ⟨_, rfl, fun j v hv => ?_⟩⟩, h8, hl, fun k e => by simp only [Value.ownBlock, Option.some.injEq] at e; omega⟩
  rw [Addr.add_none]
  exact hr j v (by rw [ints_toList]; exact hv)
set_option maxRecDepth 100000 in
set_option maxHeartbeats 8000000 in
theorem f_sign (pv wv sv : Value) (k : Ky) (wit n : Int) (C : Array Value) (root : List Nat) (w : World) (hL : Laid w) (h : KyIn w pv wv k) (hp : PtIn C n root sv) (hw : W64 wit) :
    Calls Tryd.prog 27 #[.agg #[pv, wv, .int .i64 k.need], .int .i64 wit, .agg C] w (RPost (.agg (ints .u8 (kSign k wit n root))) w) := by
  have k1 := (((Kept.refl (fun _ => False) w).alloc (.cells #[pv, wv, .int .i64 k.need] 24)).alloc (.cells C 40)).alloc (.cells Z26 26)
  obtain ⟨g1, g2, g3⟩ := heap_alloc3 w (.cells #[pv, wv, .int .i64 k.need] 24) (.cells C 40) (.cells Z26 26)
  have HIn := Lib.hid (h.kept k1)
  have HL := Lib.hid (hL.kept k1)
  have HP := Lib.hid hp
  have HPZ := Lib.hid hp.size
  have HM := Lib.hid (f_may pv wv k _ (h.kept k1))
  obtain ⟨wa, wc, rfl⟩ := h.wits.form
  have G1 := Lib.hid g1
  have G2 := Lib.hid g2
  have G3 := Lib.hid g3
  have K1 := Lib.hid k1
  have hzo : Hid (Z26.all (·.oneCell') = true) := by show _ = _; rw [z26_ints]; exact ints_one _ _
  have hl3 := h.wits.len
  have e1 := IntWalk.i64_in ((k.wits.length : Int) - 1) (by omega)
  clear h k1 hL hp g1 g2 g3
  cases hs : kSigns k wit n with
  | false =>
    have E : Hid (ints .u8 (kSign k wit n root) = Z26) := by show _ = _; rw [kSign, if_neg (by rw [hs]; decide), z26_ints]
    rw [E.out]
    cases hm : kMay k with
    | false =>
      rw [hm] at HM
      clear hs hm E
      go_enter Tryd.func27, Tryd.ntmps27
      go_upto_region 1 with (first | fail | (with_reducible refine alloc26 ?_))
      generalize ((w.alloc (.cells #[pv, .slice wa k.wits.length wc, .int .i64 k.need] 24)).alloc (.cells C 40)).alloc (.cells Z26 26) = w1 at *
      have c0 := row_cell (k := 0) G1.out rfl
      have c1 := row_cell (k := 1) G1.out rfl
      have c2 := row_cell (k := 2) G1.out rfl
      have d0 := row_cell G2.out HP.out.c0
      go_wp2_with fail
      refine HM.out.mono ?_
      rintro e w2 ⟨rfl, k2⟩
      have G1z := Lib.hid (k2.row G1.out)
      have G2z := Lib.hid (k2.row G2.out)
      have G3z := Lib.hid (k2.row G3.out)
      have K2 := Lib.hid (K1.out.trans k2)
      have HI2 := Lib.hid (HIn.out.kept k2)
      have HL2 := Lib.hid (HL.out.kept k2)
      clear k2 c0 c1 c2 d0 G1 G2 G3 K1 HIn HL HM
      go_wp2_with (first | fail | (with_reducible refine build26 ?_) | ((with_reducible refine store26 (C := Z26) ?_ ?_ G3z.out Z26_size Z26_size hzo.out ?_); rfl; rfl))
      exact bodyPost_ret (results_26 rfl _ _ _ (setRow_heap _ _ _ _ _ _ G3z.out) Z26_size rfl) rfl (RPost.mk rfl (K2.out.setRow (by omega) _))
    | true =>
      rw [hm] at HM
      cases h1 : wi wit 0 ((k.wits.length : Int) - 1) with
      | false =>
        have W1 := Lib.hid h1
        clear hs hm E h1
        go_enter Tryd.func27, Tryd.ntmps27
        go_upto_region 1 with (first | fail | (with_reducible refine alloc26 ?_))
        generalize ((w.alloc (.cells #[pv, .slice wa k.wits.length wc, .int .i64 k.need] 24)).alloc (.cells C 40)).alloc (.cells Z26 26) = w1 at *
        have c0 := row_cell (k := 0) G1.out rfl
        have c1 := row_cell (k := 1) G1.out rfl
        have c2 := row_cell (k := 2) G1.out rfl
        have d0 := row_cell G2.out HP.out.c0
        go_wp2_with fail
        refine HM.out.mono ?_
        rintro e w2 ⟨rfl, k2⟩
        have G1z := Lib.hid (k2.row G1.out)
        have G2z := Lib.hid (k2.row G2.out)
        have G3z := Lib.hid (k2.row G3.out)
        have K2 := Lib.hid (K1.out.trans k2)
        have HI2 := Lib.hid (HIn.out.kept k2)
        have HL2 := Lib.hid (HL.out.kept k2)
        clear k2 c0 c1 c2 d0 G1 G2 G3 K1 HIn HL HM
        have c1 := row_cell (k := 1) G1z.out rfl
        go_wp2_with fail
        refine (f_within_is W1.out _).mono ?_
        rintro e w3 ⟨rfl, rfl⟩
        clear c1
        go_wp2_with (first | fail | (with_reducible refine build26 ?_) | ((with_reducible refine store26 (C := Z26) ?_ ?_ G3z.out Z26_size Z26_size hzo.out ?_); rfl; rfl))
        exact bodyPost_ret (results_26 rfl _ _ _ (setRow_heap _ _ _ _ _ _ G3z.out) Z26_size rfl) rfl (RPost.mk rfl (K2.out.setRow (by omega) _))
      | true =>
        have W1 := Lib.hid h1
        have W2 : Hid (wi n 0 400 = false) := by
          show _ = _
          rw [kSigns, hm, h1] at hs
          simpa using hs
        clear hs hm E h1
        go_enter Tryd.func27, Tryd.ntmps27
        go_upto_region 1 with (first | fail | (with_reducible refine alloc26 ?_))
        generalize ((w.alloc (.cells #[pv, .slice wa k.wits.length wc, .int .i64 k.need] 24)).alloc (.cells C 40)).alloc (.cells Z26 26) = w1 at *
        have c0 := row_cell (k := 0) G1.out rfl
        have c1 := row_cell (k := 1) G1.out rfl
        have c2 := row_cell (k := 2) G1.out rfl
        have d0 := row_cell G2.out HP.out.c0
        go_wp2_with fail
        refine HM.out.mono ?_
        rintro e w2 ⟨rfl, k2⟩
        have G1z := Lib.hid (k2.row G1.out)
        have G2z := Lib.hid (k2.row G2.out)
        have G3z := Lib.hid (k2.row G3.out)
        have K2 := Lib.hid (K1.out.trans k2)
        have HI2 := Lib.hid (HIn.out.kept k2)
        have HL2 := Lib.hid (HL.out.kept k2)
        clear k2 c0 c1 c2 d0 G1 G2 G3 K1 HIn HL HM
        have c1 := row_cell (k := 1) G1z.out rfl
        have d0 := row_cell G2z.out HP.out.c0
        go_wp2_with fail
        refine (f_within_is W1.out _).mono ?_
        rintro e w3 ⟨rfl, rfl⟩
        go_wp2_with fail
        refine (f_within_is W2.out _).mono ?_
        rintro e w3 ⟨rfl, rfl⟩
        clear c1 d0
        go_wp2_with (first | fail | (with_reducible refine build26 ?_) | ((with_reducible refine store26 (C := Z26) ?_ ?_ G3z.out Z26_size Z26_size hzo.out ?_); rfl; rfl))
        exact bodyPost_ret (results_26 rfl _ _ _ (setRow_heap _ _ _ _ _ _ G3z.out) Z26_size rfl) rfl (RPost.mk rfl (K2.out.setRow (by omega) _))
  | true =>
    obtain ⟨hm, hw0, hw1, hn0, hn1⟩ := kSigns_iff hs
    obtain ⟨i, rfl⟩ : ∃ i : Nat, wit = i := ⟨wit.toNat, by omega⟩
    have hi : i < k.wits.length := by omega
    have E : Hid (kSign k i n root = tagOf k.wits[i] (3 :: ptText n root)) := by
      show _ = _
      rw [kSign, if_pos hs, Int.toNat_natCast, List.getD_eq_getElem?_getD, List.getElem?_eq_getElem hi]; rfl
    rw [hm] at HM
    rw [E.out]
    have W1 : Hid (wi (i : Int) 0 ((k.wits.length : Int) - 1) = true) := wi_true (by omega) (by omega)
    have W2 : Hid (wi n 0 400 = true) := wi_true hn0 hn1
    clear hs hm E
    go_enter Tryd.func27, Tryd.ntmps27
    go_upto_region 1 with (first | fail | (with_reducible refine alloc26 ?_))
    generalize ((w.alloc (.cells #[pv, .slice wa k.wits.length wc, .int .i64 k.need] 24)).alloc (.cells C 40)).alloc (.cells Z26 26) = w1 at *
    have c0 := row_cell (k := 0) G1.out rfl
    have c1 := row_cell (k := 1) G1.out rfl
    have c2 := row_cell (k := 2) G1.out rfl
    have d0 := row_cell G2.out HP.out.c0
    go_wp2_with fail
    refine HM.out.mono ?_
    rintro e w2 ⟨rfl, k2⟩
    have G1z := Lib.hid (k2.row G1.out)
    have G2z := Lib.hid (k2.row G2.out)
    have G3z := Lib.hid (k2.row G3.out)
    have K2 := Lib.hid (K1.out.trans k2)
    have HI2 := Lib.hid (HIn.out.kept k2)
    have HL2 := Lib.hid (HL.out.kept k2)
    clear k2 c0 c1 c2 d0 G1 G2 G3 K1 HIn HL HM
    have c1 := row_cell (k := 1) G1z.out rfl
    have d0 := row_cell G2z.out HP.out.c0
    have HT := Lib.hid (f_text C n root sv w2 HL2.out HP.out hn0 hn1)
    have htz := Lib.hid (show (ptText n root).length = 32 from sha_len _)
    have ht8 := Lib.hid (show All8 (ptText n root) from sha_all _)
    have hts := Lib.hid (show (ints .u8 (ptText n root)).size = 32 by rw [ints_size]; exact sha_len _)
    have hto := Lib.hid (ints_one .u8 (ptText n root))
    have hrp := range_row G2z.out
    have HRP := Lib.hid hrp
    generalize htx : ptText n root = tx at *
    clear hrp
    go_wp2_with fail
    refine (f_within_is W1.out _).mono ?_
    rintro e w3 ⟨rfl, rfl⟩
    go_wp2_with fail
    refine (f_within_is W2.out _).mono ?_
    rintro e w3 ⟨rfl, rfl⟩
    clear c1 d0
    go_wp2_with (first | fail | ((with_reducible refine load40 (C := C) (g := w.heap.size + 1) (o := 0) ?_ HRP.out HPZ.out ?_); rfl))
    refine HT.out.mono ?_
    rintro e w4 ⟨rfl, k4⟩
    have z7 := Lib.hid (heap_alloc_new w4 (.cells Z26 26))
    obtain ⟨y7, k7⟩ := alloc_set w4 Z26 (ints .u8 tx) 26
    have Y7 := Lib.hid y7
    have k47 := k4.trans k7
    have K5 := Lib.hid (K2.out.trans k47)
    have G15 := Lib.hid (k47.row G1z.out)
    have G35 := Lib.hid (k47.row G3z.out)
    have HI5 := Lib.hid (HI2.out.kept k47)
    have HL5 := Lib.hid (HL2.out.kept k47)
    clear HRP HT k4 y7 k7 k47 G1z G2z G3z HI2 HL2 K2
    go_upto_region 4 with (first | fail | (with_reducible refine alloc26 ?_) | ((with_reducible refine store26 (C := ints .u8 tx) ?_ ?_ z7.out Z26_size hts.out hto.out ?_); rfl; rfl))
    generalize (w4.alloc (.cells Z26 26)).setRow w4.heap.size (ints .u8 tx) = w5 at *
    generalize w4.heap.size = g7 at *
    have k5d := (Kept.refl (fun _ => False) w5).drew
    have G36 := Lib.hid (k5d.row G35.out)
    have K6 := Lib.hid (K5.out.trans k5d)
    have HI6 := Lib.hid (HI5.out.kept k5d)
    have HL6 := Lib.hid (HL5.out.kept k5d)
    have Y6 := Lib.hid (k5d.row Y7.out)
    have hS0 : w5.drew.heap[w.heap.size]? = some (.cells #[pv, .slice wa k.wits.length wc, .int .i64 k.need] 24 (0, 0)) := k5d.row G15.out
    refine wp_region_held_drew (S := fun w' => w'.heap[w.heap.size]? = some (.cells #[pv, .slice wa k.wits.length wc, .int .i64 k.need] 24 (0, 0))) (by kernel_rfl) hS0 (fun hHeld => ?_)
    clear k5d z7 Y7 K5 G15 G35 HI5 HL5
    generalize w5.drew = w6 at *
    obtain ⟨b, oo, cc, ev, hbl, hr⟩ := HI6.out.wits.at hi
    simp only [Value.slice.injEq, true_and] at ev
    obtain ⟨rfl, rfl⟩ := ev
    have HKB : Hid (HBytes w6 (.slice (some ⟨b, oo + i * 32, none⟩) 32 32) k.wits[i]) := by
      have h2 := HI6.out.wits.each _ (List.getElem_mem hi)
      have h := HBytes.range hr hbl h2.2 (by rw [h2.1]; decide) 32
      rwa [h2.1] at h
    have HKL := Lib.hid (HI6.out.wits.each _ (List.getElem_mem hi)).1
    have hil : (i : Int) < (k.wits.length : Int) := by omega
    clear hr
    refine wpAnyH_take (i := 0) (oi := ⟨some 29, _, _, _, _, _⟩) (v := .pointer (some ⟨w.heap.size, 1, none⟩)) rfl (by kernel_rfl) (by kernel_rfl) (by kernel_rfl) (fun _ _ _ h => h) (Or.inl ⟨by kernel_rfl, fun w' hS => by go_simp⟩) (by assumption) ?_
    try simp only [Act.put, List.setIfInBounds_toArray, List.set_cons_succ, List.set_cons_zero]
    refine wpAnyH_take (i := 1) (oi := ⟨some 30, _, _, _, _, _⟩) (v := .slice (some ⟨b, oo, none⟩) k.wits.length wc) rfl (by kernel_rfl) (by kernel_rfl) (by kernel_rfl) (fun _ _ _ h => h) (Or.inl ⟨by kernel_rfl, fun w' hS => by have c := row_cell (k := 1) hS rfl; go_simp⟩) (by assumption) ?_
    try simp only [Act.put, List.setIfInBounds_toArray, List.set_cons_succ, List.set_cons_zero]
    refine wpAnyH_take (i := 2) (oi := ⟨some 31, _, _, _, _, _⟩) (v := .int .i64 i) rfl (by kernel_rfl) (by kernel_rfl) (by kernel_rfl) (fun _ _ _ h => h) (Or.inl ⟨by kernel_rfl, fun w' hS => by go_simp⟩) (by assumption) ?_
    try simp only [Act.put, List.setIfInBounds_toArray, List.set_cons_succ, List.set_cons_zero]
    refine wpAnyH_take (i := 3) (oi := ⟨some 32, _, _, _, _, _⟩) (v := .pointer (some ⟨b, oo + i * 32, none⟩)) rfl (by kernel_rfl) (by kernel_rfl) (by kernel_rfl) (fun _ _ _ h => h) (Or.inl ⟨by kernel_rfl, fun w' hS => by go_simp⟩) (by assumption) ?_
    try simp only [Act.put, List.setIfInBounds_toArray, List.set_cons_succ, List.set_cons_zero]
    refine wpAnyH_take (i := 4) (oi := ⟨some 33, _, _, _, _, _⟩) (v := .slice (some ⟨b, oo + i * 32, none⟩) 32 32) rfl (by kernel_rfl) (by kernel_rfl) (by kernel_rfl) (fun _ _ _ h => h) (Or.inl ⟨by kernel_rfl, fun w' hS => by go_simp⟩) (by assumption) ?_
    try simp only [Act.put, List.setIfInBounds_toArray, List.set_cons_succ, List.set_cons_zero]
    refine wpAnyH_take (i := 6) (oi := ⟨some 35, _, _, _, _, _⟩) (v := .slice (some ⟨g7, 0, none⟩) 32 32) rfl (by kernel_rfl) (by kernel_rfl) (by kernel_rfl) (fun _ _ _ h => h) (Or.inl ⟨by kernel_rfl, fun w' hS => by go_simp⟩) (by assumption) ?_
    try simp only [Act.put, List.setIfInBounds_toArray, List.set_cons_succ, List.set_cons_zero]
    refine wpAnyH_ready (rs := [5]) (by kernel_rfl) (by simp) ?_
    refine AllReadyH.cons (o := _) rfl (fun K hK => ?_) AllReadyH.nil
    have k8 := (Kept.refl (fun _ => False) w6).alloc (.cells #[.int .u8 3] 5)
    have HX3 : Hid (HBytes (w6.alloc (.cells #[.int .u8 3] 5)) (.slice (some ⟨w6.heap.size, 0, none⟩) 1 1) [3]) := HBytes.hash (l := [3]) (heap_alloc_new w6 _) (by intro x hx; obtain rfl := List.mem_singleton.1 hx; decide) (by decide) 1
    have HXT : Hid (HBytes (w6.alloc (.cells #[.int .u8 3] 5)) (.slice (some ⟨g7, 0, none⟩) 32 32) tx) := by
      have h := HBytes.hash (k8.row Y6.out) ht8.out (by rw [htz.out]; decide) 32
      rwa [htz.out] at h
    have HK8 := Lib.hid (HKB.out.kept k8)
    have K8 := Lib.hid (K6.out.trans k8)
    have G38 := Lib.hid (k8.row G36.out)
    have HL8 := Lib.hid (HL6.out.kept k8)
    have hS1 : (w6.alloc (.cells #[.int .u8 3] 5)).heap[w.heap.size]? = some (.cells #[pv, .slice (some ⟨b, oo, none⟩) k.wits.length wc, .int .i64 k.need] 24 (0, 0)) := k8.row hS0
    clear k8 HKB K6 G36 HL6 HI6 Y6
    go_simp
    refine hK.out _ _ hS1 (fun hHeld => ?_)
    clear hK K
    try simp only [Act.put, List.setIfInBounds_toArray, List.set_cons_succ, List.set_cons_zero]
    generalize hg8 : w6.heap.size = g8 at *
    generalize w6.alloc (.cells #[.int .u8 3] 5) = w8 at *
    refine wpAnyH_ready (rs := [7]) (by kernel_rfl) (by simp) ?_
    refine AllReadyH.cons (o := _) rfl (fun K hK => ?_) AllReadyH.nil
    have k9 := (Kept.refl (fun _ => False) w8).alloc (.cells #[.slice (some ⟨g8, 0, none⟩) 1 1, .slice (some ⟨g7, 0, none⟩) 32 32] 28)
    have HP9 : Hid (HParts (w8.alloc (.cells #[.slice (some ⟨g8, 0, none⟩) 1 1, .slice (some ⟨g7, 0, none⟩) 32 32] 28)) (.slice (some ⟨w8.heap.size, 0, none⟩) 2 2) [(.slice (some ⟨g8, 0, none⟩) 1 1, [3]), (.slice (some ⟨g7, 0, none⟩) 32 32, tx)]) :=
      HParts.of_block (ps := [(.slice (some ⟨g8, 0, none⟩) 1 1, [3]), (.slice (some ⟨g7, 0, none⟩) 32 32, tx)]) (heap_alloc_new w8 _) rfl (by simp) (fun p hp => by
        rcases List.mem_cons.1 hp with rfl | hp
        · exact HX3.out.kept k9
        · obtain rfl := List.mem_singleton.1 hp
          exact HXT.out.kept k9) (by simp; decide) 2
    have HT9 : Hid ([(.slice (some ⟨g8, 0, none⟩) 1 1, [3]), ((.slice (some ⟨g7, 0, none⟩) 32 32, tx) : Value × List Nat)].flatMap (·.2) = 3 :: tx) := by show _ = _; simp
    have HG := Lib.hid (f_tag _ _ k.wits[i] _ _ (HL8.out.kept k9) (HK8.out.kept k9) (by rw [HKL.out]; decide) (by rw [HKL.out]; decide) HP9.out (by simp) (by rw [HT9.out, List.length_cons, htz.out]; decide))
    rw [HT9.out] at HG
    have K9 := Lib.hid (K8.out.trans k9)
    have G39 := Lib.hid (k9.row G38.out)
    have hS2 : (w8.alloc (.cells #[.slice (some ⟨g8, 0, none⟩) 1 1, .slice (some ⟨g7, 0, none⟩) 32 32] 28)).heap[w.heap.size]? = some (.cells #[pv, .slice (some ⟨b, oo, none⟩) k.wits.length wc, .int .i64 k.need] 24 (0, 0)) := k9.row hS1
    clear k9 HX3 HXT HK8 K8 G38 HL8 HP9 HT9
    go_simp
    refine hK.out _ _ hS2 (fun hHeld => ?_)
    clear hK K
    try simp only [Act.put, List.setIfInBounds_toArray, List.set_cons_succ, List.set_cons_zero]
    refine wpAnyH_ready (rs := [8]) (by kernel_rfl) (by simp) ?_
    refine AllReadyH.cons (o := _) rfl (fun K hK => ?_) AllReadyH.nil
    go_simp
    refine HG.out.mono ?_
    rintro e w10 ⟨rfl, k10⟩
    have hS3 : w10.heap[w.heap.size]? = some (.cells #[pv, .slice (some ⟨b, oo, none⟩) k.wits.length wc, .int .i64 k.need] 24 (0, 0)) := k10.row hS2
    have K10 := Lib.hid (K9.out.trans k10)
    have G310 := Lib.hid (k10.row G39.out)
    have hmz := Lib.hid (show (ints .u8 (tagOf k.wits[i] (3 :: tx))).size = 32 by rw [ints_size]; exact sha_len _)
    have hmo := Lib.hid (ints_one .u8 (tagOf k.wits[i] (3 :: tx)))
    generalize hTG : ints .u8 (tagOf k.wits[i] (3 :: tx)) = TG at *
    clear k10 K9 G39 HG hS2
    go_wp2_with fail
    refine hK.out _ _ hS3 (fun hHeld => ?_)
    clear hK K
    try simp only [Act.put, List.setIfInBounds_toArray, List.set_cons_succ, List.set_cons_zero]
    refine wpAnyH_ready (rs := [9]) (by kernel_rfl) (by simp) ?_
    refine AllReadyH.cons (o := _) rfl (fun K hK => ?_) AllReadyH.nil
    refine step_store26 (C := TG) (g := w.heap.size + 1 + 1) (o := 0) (by kernel_rfl) rfl rfl hmz.out hmo.out G310.out (by rw [Z26_size]; decide) ?_
    intro wn Yn kn
    rw [puts_all (by rw [Z26_size, hmz.out])] at Yn
    have KWn : Kept (fun _ => False) w wn := K10.out.trans' kn (fun i hi e => by omega)
    have hS4 : wn.heap[w.heap.size]? = some (.cells #[pv, .slice (some ⟨b, oo, none⟩) k.wits.length wc, .int .i64 k.need] 24 (0, 0)) := kn.rowS (by omega) hS3
    refine hK.out _ _ hS4 (fun hHeld => ?_)
    clear hK K
    try simp only [Act.put, List.setIfInBounds_toArray, List.set_cons_succ, List.set_cons_zero]
    refine wpAnyH_done (by kernel_rfl) ?_ _
    have HYN := Lib.hid Yn
    have HKN := Lib.hid KWn
    clear Yn KWn kn
    go_wp2_with fail
    subst htx
    exact bodyPost_ret (results_26 rfl _ _ _ HYN.out hmz.out rfl) rfl (RPost.mk (congrArg Value.agg hTG.symm) HKN.out)
end Go.Proofs.YtklmhegmombegaaDoor
