/-
  The contract of the book's Go. Conditions: as each theorem says.
-/
import Derived.Test.YtklmhegmombegaaDoorBkE
import Derived.Test.YtklmhegmombegaaDoorBkF
set_option linter.unusedVariables false
set_option linter.unusedSimpArgs false
namespace Go.Proofs.YtklmhegmombegaaDoor.Re
open Go Go.RowKit Go.Proofs.YtklmhegmombegaaDoor.Re.Plain Go.Proofs.YtklmhegmombegaaDoor

namespace Plain
/-- A book behind a record; none: it does not go. -/
def bgo (b : Bk) (x : Rx) (lim : Int) : Option Bk :=
  if rightB x = true ∧ 1 ≤ lim ∧ lim ≤ 9 then (if x.kind = 1 then bbegin b x else if x.kind = 3 then breceipt b x lim.toNat else if x.kind = 6 then brotate b x else bcall b x lim.toNat) else none
theorem wi_iff {n lo hi : Int} : wi n lo hi = true ↔ lo ≤ n ∧ n ≤ hi := by simp [wi]
theorem right_ranges {x : Rx} (h : rightB x = true) : (0 ≤ x.saga ∧ x.saga ≤ 11) ∧ (0 ≤ x.part ∧ x.part ≤ 3) ∧ (0 ≤ x.epoch ∧ x.epoch ≤ 400) ∧ (1 ≤ x.kind ∧ x.kind ≤ 6) ∧ (x.kind = 3 → 0 ≤ x.step ∧ x.step ≤ 5) := by
  unfold rightB at h
  rw [Bool.and_eq_true] at h
  obtain ⟨h, -⟩ := h
  unfold rangesB at h
  simp only [Bool.and_eq_true, wi_iff] at h
  obtain ⟨h1, h2, h3, h4⟩ := h
  refine ⟨h1, h2, h3, ?_, fun k => ?_⟩
  · split at h4
    · omega
    split at h4
    · omega
    split at h4
    · omega
    · simp only [Bool.and_eq_true, decide_eq_true_eq] at h4; omega
  · rw [if_neg (by omega), if_pos (by omega)] at h4
    simp only [Bool.and_eq_true, wi_iff] at h4
    exact h4.2.1
/-- What holds of every book that records have come to. -/
structure BGood (lim : Nat) (b : Bk) : Prop where
  sagas : ∀ s ∈ b.sagas, GoodS lim s
  ep : ∀ p, 0 ≤ b.ep p ∧ b.ep p ≤ 400
  len : b.sagas.length ≤ 12
theorem BGood.zero (lim : Nat) : BGood lim Bk.zero := ⟨by simp [Bk.zero], fun p => by simp [Bk.zero], by simp [Bk.zero]⟩
theorem BGood.call {lim : Nat} {b c : Bk} {x : Rx} (h : BGood lim b) (hg : bcall b x lim = some c) : BGood lim c := by
  unfold bcall at hg
  split at hg
  · rename_i s hs
    split at hg
    · rename_i t ht
      cases hg
      refine ⟨fun u hu => ?_, h.ep, by simpa using h.len⟩
      rcases List.mem_or_eq_of_mem_set hu with hu | rfl
      · exact h.sagas u hu
      · exact (h.sagas s (List.mem_of_getElem? hs)).go ht
    · cases hg
  · cases hg
theorem BGood.go {lim : Int} {b c : Bk} {x : Rx} (h : BGood lim.toNat b) (hg : bgo b x lim = some c) : BGood lim.toNat c := by
  unfold bgo at hg
  split at hg
  · rename_i hr
    obtain ⟨r1, r2, r3, r4, r5⟩ := right_ranges hr.1
    split at hg
    · unfold bbegin at hg
      split at hg
      · rename_i hb
        cases hg
        refine ⟨fun u hu => ?_, h.ep, by simp; omega⟩
        rcases List.mem_append.1 hu with hu | hu
        · exact h.sagas u hu
        · obtain rfl : u = new x.steps := by simpa using hu
          exact GoodS.new hb.2.2
      · cases hg
    split at hg
    · unfold breceipt at hg
      split at hg
      · split at hg
        · exact h.call hg
        · cases hg
      · cases hg
    split at hg
    · unfold brotate at hg
      split at hg
      · cases hg
        refine ⟨h.sagas, fun p => ?_, h.len⟩
        show 0 ≤ (if p = x.part.toNat then x.epoch else b.ep p) ∧ _
        have := h.ep p
        show 0 ≤ (if p = x.part.toNat then x.epoch else b.ep p) ∧ (if p = x.part.toNat then x.epoch else b.ep p) ≤ 400
        split <;> omega
      · cases hg
    · exact h.call hg
  · cases hg
end Plain
/-- What a callee has made of a book, its result written. -/
theorem BgPost.lift {r : Option Bk} {b : Bk} {sv sv' : Value} {ss ss' : List (Sg × Value)} {w w1 w3 wn : World} {g : Nat} (HB : BkIn w sv ss) (hbk : BkIn w3 sv' ss') (hmap : ss'.map (·.1) = (r.getD b).sagas) (hown : ∀ k, Own sv' ss' k → Own sv ss k ∨ w1.heap.size ≤ k)
    (k1 : Kept (fun _ => False) w w1) (k3 : Kept (fun _ => False) w1 w3) (kn : Kept (fun i => i = g) w3 wn) (h1 : w.heap.size ≤ g) (h2 : g < w1.heap.size) :
    BgPost r b sv ss w (.returned (.tuple #[.agg (bkC (r.getD b).ep sv'), .bool r.isSome])) wn := by
  refine ⟨sv', ss', rfl, hbk.keep kn (fun j hj e => ?_), hmap, fun j hj => ?_, (k1.trans k3).trans' kn (fun j hj e => by omega)⟩
  · rcases hown j hj with h | h
    · have := HB.own j h; omega
    · omega
  · rcases hown j hj with h | h
    · exact .inl h
    · right; have := k1.size; omega
theorem run_field90 (w : World) (f : Nat) : (Instr.field 155 (.agg #[.func (.func f) #[] #[]]) 0).run Tryd.prog w = .ok (.func (.func f) #[] #[]) w := by
  simp [Instr.field, run_underlying Tryd.underlying155, part, isAgg, run_underlying Tryd.underlying126, asAgg, Result.andThen]
set_option maxRecDepth 100000 in
set_option maxHeartbeats 8000000 in
theorem f_bgo (b : Bk) (sv : Value) (ss : List (Sg × Value)) (C : Array Value) (x : Rx) (lim : Int) (w : World) (hX : RecIn w C x) (hB : BkIn w sv ss) (hb : ss.map (·.1) = b.sagas) (hG : BGood lim.toNat b) (hxl : x.steps.length ≤ 1000000) :
    Calls Tryd.prog 75 #[.agg (bkC b.ep sv), .agg C, .int .i64 lim] w (BgPost (bgo b x lim) b sv ss w) := by
  obtain ⟨g0, g1, g2⟩ := heap_alloc3 w (.cells (bkC b.ep sv) 88) (.cells C 30) (.cells Z88 88)
  have K3 := (((Kept.refl (fun _ => False) w).alloc (.cells (bkC b.ep sv) 88)).alloc (.cells C 30)).alloc (.cells Z88 88)
  have HR := Lib.hid (fun w' (k : Kept (fun _ => False) w w') => f_right C x w' (hX.kept k) hxl)
  obtain ⟨a, c, rfl⟩ := hB.form
  have G0 := Lib.hid g0
  have G1 := Lib.hid g1
  have G2 := Lib.hid g2
  have HK := Lib.hid K3
  have HX := Lib.hid hX
  have HB := Lib.hid hB
  have HBS := Lib.hid hb
  have HGD := Lib.hid hG
  have hone := Lib.hid (bkC_one b.ep a ss.length c)
  have E0 : Hid (bgo b x lim = if rightB x = true ∧ 1 ≤ lim ∧ lim ≤ 9 then (if x.kind = 1 then bbegin b x else if x.kind = 3 then breceipt b x lim.toNat else if x.kind = 6 then brotate b x else bcall b x lim.toNat) else none) := rfl
  clear g0 g1 g2 K3 hX hB hb hG hxl
  cases hrt : rightB x with
  | false =>
    have E : Hid (bgo b x lim = none) := E0.out.trans (if_neg (fun h => by rw [hrt] at h; exact absurd h.1 (by decide)))
    rw [hrt] at HR
    clear hrt E0
    go_enter Tryd.func75, Tryd.ntmps75
    go_upto_region 1 with (first | fail | (with_reducible refine alloc88 ?_))
    generalize ((w.alloc (.cells (bkC b.ep (.slice a ss.length c)) 88)).alloc (.cells C 30)).alloc (.cells Z88 88) = w2 at *
    go_wp2_with (first | fail | ((with_reducible refine load30 (g := w.heap.size + 1) (o := 0) ?_ (range_row G1.out) HX.out.size ?_); rfl))
    refine (HR.out _ HK.out).mono ?_
    rintro e w3 ⟨rfl, k3⟩
    replace G0 := Lib.hid (k3.row G0.out)
    replace G1 := Lib.hid (k3.row G1.out)
    replace G2 := Lib.hid (k3.row G2.out)
    replace HK := Lib.hid (HK.out.trans k3)
    clear k3
    go_wp2_with (first | fail | ((with_reducible refine load88 (g := w.heap.size) ?_ G0.out (bkC_size _ _) ?_); rfl) | ((with_reducible refine store88 ?_ ?_ G2.out rfl (bkC_size _ _) hone.out ?_); rfl; rfl))
    exact bodyPost_ret (results_88 rfl _ _ _ (setRow_heap _ _ _ _ _ _ G2.out) (bkC_size _ _) rfl) rfl (BgPost.no E.out HBS.out HB.out HK.out _ (by omega) _)
  | true =>
  by_cases hlo : lim < 1
  · have E : Hid (bgo b x lim = none) := E0.out.trans (if_neg (fun h => by omega))
    rw [hrt] at HR
    clear hrt E0
    go_enter Tryd.func75, Tryd.ntmps75
    go_upto_region 1 with (first | fail | (with_reducible refine alloc88 ?_))
    generalize ((w.alloc (.cells (bkC b.ep (.slice a ss.length c)) 88)).alloc (.cells C 30)).alloc (.cells Z88 88) = w2 at *
    go_wp2_with (first | fail | ((with_reducible refine load30 (g := w.heap.size + 1) (o := 0) ?_ (range_row G1.out) HX.out.size ?_); rfl))
    refine (HR.out _ HK.out).mono ?_
    rintro e w3 ⟨rfl, k3⟩
    replace G0 := Lib.hid (k3.row G0.out)
    replace G1 := Lib.hid (k3.row G1.out)
    replace G2 := Lib.hid (k3.row G2.out)
    replace HK := Lib.hid (HK.out.trans k3)
    clear k3
    go_wp2_with (first | fail | ((with_reducible refine load88 (g := w.heap.size) ?_ G0.out (bkC_size _ _) ?_); rfl) | ((with_reducible refine store88 ?_ ?_ G2.out rfl (bkC_size _ _) hone.out ?_); rfl; rfl))
    exact bodyPost_ret (results_88 rfl _ _ _ (setRow_heap _ _ _ _ _ _ G2.out) (bkC_size _ _) rfl) rfl (BgPost.no E.out HBS.out HB.out HK.out _ (by omega) _)
  by_cases hhi : 9 < lim
  · have E : Hid (bgo b x lim = none) := E0.out.trans (if_neg (fun h => by omega))
    rw [hrt] at HR
    clear hrt E0
    go_enter Tryd.func75, Tryd.ntmps75
    go_upto_region 1 with (first | fail | (with_reducible refine alloc88 ?_))
    generalize ((w.alloc (.cells (bkC b.ep (.slice a ss.length c)) 88)).alloc (.cells C 30)).alloc (.cells Z88 88) = w2 at *
    go_wp2_with (first | fail | ((with_reducible refine load30 (g := w.heap.size + 1) (o := 0) ?_ (range_row G1.out) HX.out.size ?_); rfl))
    refine (HR.out _ HK.out).mono ?_
    rintro e w3 ⟨rfl, k3⟩
    replace G0 := Lib.hid (k3.row G0.out)
    replace G1 := Lib.hid (k3.row G1.out)
    replace G2 := Lib.hid (k3.row G2.out)
    replace HK := Lib.hid (HK.out.trans k3)
    clear k3
    go_wp2_with (first | fail | ((with_reducible refine load88 (g := w.heap.size) ?_ G0.out (bkC_size _ _) ?_); rfl) | ((with_reducible refine store88 ?_ ?_ G2.out rfl (bkC_size _ _) hone.out ?_); rfl; rfl))
    exact bodyPost_ret (results_88 rfl _ _ _ (setRow_heap _ _ _ _ _ _ G2.out) (bkC_size _ _) rfl) rfl (BgPost.no E.out HBS.out HB.out HK.out _ (by omega) _)
  obtain ⟨r1, r2, r3, r4, r5⟩ := right_ranges hrt
  obtain ⟨ln, rfl⟩ : ∃ ln : Nat, lim = ln := ⟨lim.toNat, by omega⟩
  rw [if_pos ⟨hrt, by omega, by omega⟩] at E0
  rw [Int.toNat_natCast] at E0 HGD
  rw [hrt] at HR
  have hl1 : 1 ≤ ln := by omega
  have hl9 : ln ≤ 9 := by omega
  clear hrt
  have hcase : ∃ (r : Option Bk) (kk : Nat) (F : Nat), x.kind = kk ∧ bgo b x ln = r ∧ (kk, F) ∈ [(1, 124), (2, 125), (3, 126), (4, 125), (5, 125), (6, 127)] ∧ ∀ w', Kept (fun _ => False) w w' → Calls Tryd.prog F #[.agg (bkC b.ep (.slice a ss.length c)), .agg C, .int .i64 ln] w' (BgPost r b (.slice a ss.length c) ss w') := by
    have hk : x.kind = 1 ∨ x.kind = 3 ∨ x.kind = 6 ∨ x.kind = 2 ∨ x.kind = 4 ∨ x.kind = 5 := by omega
    rcases hk with hk | hk | hk | hk | hk | hk
    · exact ⟨_, 1, 124, hk, E0.out.trans (if_pos hk), by decide, fun w' k => f_begin b _ ss C x _ w' (HX.out.kept k) (HB.out.kept k) HBS.out⟩
    · exact ⟨_, 3, 126, hk, E0.out.trans (by rw [if_neg (by omega), if_pos hk]), by decide, fun w' k => f_receipt b _ ss C x ln w' (HX.out.kept k) (HB.out.kept k) HBS.out r1.1 HGD.out.sagas hl1 hl9 (r5 hk) r2⟩
    · exact ⟨_, 6, 127, hk, E0.out.trans (by rw [if_neg (by omega), if_neg (by omega), if_pos hk]), by decide, fun w' k => f_rotate b _ ss C x ln w' (HX.out.kept k) (HB.out.kept k) HBS.out r2 HGD.out.ep⟩
    · exact ⟨_, 2, 125, hk, E0.out.trans (by rw [if_neg (by omega), if_neg (by omega), if_neg (by omega)]), by decide, fun w' k => f_call b _ ss C x ln w' (HX.out.kept k) (HB.out.kept k) HBS.out r1.1 HGD.out.sagas hl1 hl9⟩
    · exact ⟨_, 4, 125, hk, E0.out.trans (by rw [if_neg (by omega), if_neg (by omega), if_neg (by omega)]), by decide, fun w' k => f_call b _ ss C x ln w' (HX.out.kept k) (HB.out.kept k) HBS.out r1.1 HGD.out.sagas hl1 hl9⟩
    · exact ⟨_, 5, 125, hk, E0.out.trans (by rw [if_neg (by omega), if_neg (by omega), if_neg (by omega)]), by decide, fun w' k => f_call b _ ss C x ln w' (HX.out.kept k) (HB.out.kept k) HBS.out r1.1 HGD.out.sagas hl1 hl9⟩
  obtain ⟨r, kk, F, hk, hr, hF, hdo⟩ := hcase
  have HKK := Lib.hid hk
  have HDO := Lib.hid hdo
  rw [hr]
  clear E0 HGD r1 r2 r3 r4 r5 hk hr hdo
  go_enter Tryd.func75, Tryd.ntmps75
  go_upto_region 1 with (first | fail | (with_reducible refine alloc88 ?_))
  generalize ((w.alloc (.cells (bkC b.ep (.slice a ss.length c)) 88)).alloc (.cells C 30)).alloc (.cells Z88 88) = w2 at *
  go_wp2_with (first | fail | ((with_reducible refine load30 (g := w.heap.size + 1) (o := 0) ?_ (range_row G1.out) HX.out.size ?_); rfl))
  refine (HR.out _ HK.out).mono ?_
  rintro e w3 ⟨rfl, k3⟩
  replace G0 := Lib.hid (k3.row G0.out)
  replace G1 := Lib.hid (k3.row G1.out)
  replace G2 := Lib.hid (k3.row G2.out)
  replace HK := Lib.hid (HK.out.trans k3)
  clear k3
  go_upto_region 3 with (fail)
  have h3 : w.heap.size + 1 + 1 < w3.heap.size := row_lt G2.out
  have hrw : Hid (∀ {w' : World}, Kept (fun j => j = w.heap.size + 1 + 1) w3 w' → w'.heap[w.heap.size]? = some (.cells (bkC b.ep (.slice a ss.length c)) 88 (0, 0)) ∧ w'.heap[w.heap.size + 1]? = some (.cells C 30 (0, 0))) := fun k => ⟨(k.block _ (row_lt G0.out) (by omega)).trans G0.out, (k.block _ (row_lt G1.out) (by omega)).trans G1.out⟩
  have hd : Kept (fun _ => False) w3 w3.drew := (Kept.refl _ _).drew
  have hm : ∀ {w' : World}, Kept (fun _ => False) w3 w' → Kept (fun j => j = w.heap.size + 1 + 1) w3 w' := fun k => k.mono fun _ _ h => h.elim
  refine wp_region_held_drew (S := fun w' => Kept (fun j => j = w.heap.size + 1 + 1) w3 w') (by kernel_rfl) (hm hd) (fun hHeld => ?_)
  refine wpAnyH_take (i := 1) (oi := ⟨some 21, _, _, _, _, _⟩) (v := .pointer (some ⟨w.heap.size + 1, 0, none⟩)) rfl (by kernel_rfl) (by kernel_rfl) (by kernel_rfl) (fun _ _ _ h => h) (Or.inl ⟨by kernel_rfl, fun w' hS => by go_simp⟩) (by assumption) ?_
  try simp only [Act.put, List.setIfInBounds_toArray, List.set_cons_succ, List.set_cons_zero]
  refine wpAnyH_take (i := 2) (oi := ⟨some 22, _, _, _, _, _⟩) (v := .int .i64 kk) rfl (by kernel_rfl) (by kernel_rfl) (by kernel_rfl) (fun _ _ _ h => h) (Or.inl ⟨by kernel_rfl, fun w' hS => by have hc := (row_cell (hrw.out hS).2 HX.out.c0).trans (by rw [HKK.out]); go_simp⟩) (by assumption) ?_
  try simp only [Act.put, List.setIfInBounds_toArray, List.set_cons_succ, List.set_cons_zero]
  refine wpAnyH_take (i := 5) (oi := ⟨some 25, _, _, _, _, _⟩) (v := .agg (bkC b.ep (.slice a ss.length c))) rfl (by kernel_rfl) (by kernel_rfl) (by kernel_rfl) (fun _ _ _ h => h) (yields88 (g := w.heap.size) (by kernel_rfl) rfl (fun w' hS => (hrw.out hS).1) (bkC_size _ _)) (by assumption) ?_
  try simp only [Act.put, List.setIfInBounds_toArray, List.set_cons_succ, List.set_cons_zero]
  refine wpAnyH_take (i := 6) (oi := ⟨some 26, _, _, _, _, _⟩) (v := .agg C) rfl (by kernel_rfl) (by kernel_rfl) (by kernel_rfl) (fun _ _ _ h => h) (yields30 (g := w.heap.size + 1) (by kernel_rfl) rfl (fun w' hS => (hrw.out hS).2) HX.out.size) (by assumption) ?_
  try simp only [Act.put, List.setIfInBounds_toArray, List.set_cons_succ, List.set_cons_zero]
  refine wpAnyH_take (i := 7) (oi := ⟨some 27, _, _, _, _, _⟩) (v := .int .i64 ln) rfl (by kernel_rfl) (by kernel_rfl) (by kernel_rfl) (fun _ _ _ h => h) (Or.inl ⟨by kernel_rfl, fun w' hS => by go_simp⟩) (by assumption) ?_
  try simp only [Act.put, List.setIfInBounds_toArray, List.set_cons_succ, List.set_cons_zero]
  refine wpAnyH_ready (rs := [0]) (by kernel_rfl) (by simp) ?_
  refine AllReadyH.cons (o := _) rfl (fun K hK => ?_) AllReadyH.nil
  go_simp
  refine (f_goers _).mono ?_
  rintro e wx1 ⟨rm, rfl, hrm, hmp, kx1⟩
  go_wp2_with fail
  have hS1 := hd.trans kx1
  refine hK.out _ _ (hm hS1) (fun hHeld => ?_)
  clear hK K
  try simp only [Act.put, List.setIfInBounds_toArray, List.set_cons_succ, List.set_cons_zero]
  have hF' : (kk = 1 ∧ F = 124) ∨ (kk = 2 ∧ F = 125) ∨ (kk = 3 ∧ F = 126) ∨ (kk = 4 ∧ F = 125) ∨ (kk = 5 ∧ F = 125) ∨ (kk = 6 ∧ F = 127) := by simpa using hF
  clear hF
  rcases hF' with ⟨rfl, rfl⟩ | ⟨rfl, rfl⟩ | ⟨rfl, rfl⟩ | ⟨rfl, rfl⟩ | ⟨rfl, rfl⟩ | ⟨rfl, rfl⟩
  · have hfind : Instr.findNow (.int .i64) (.int .i64 ((1 : Nat) : Int)) goES.toList 0 = some (some (0, .agg #[.func (.func 124) #[] #[]])) := rfl
    refine wpAnyH_ready (rs := [3]) (by kernel_rfl) (by simp) ?_
    refine AllReadyH.cons (o := _) rfl (fun K hK => ?_) AllReadyH.nil
    refine step_lookup91 (r := rm) (k := ((1 : Nat) : Int)) (by kernel_rfl) rfl rfl hmp hfind ?_
    refine hK.out _ _ (hm hS1) (fun hHeld => ?_)
    clear hK K
    try simp only [Act.put, List.setIfInBounds_toArray, List.set_cons_succ, List.set_cons_zero]
    clear hmp hfind
    refine wpAnyH_take (i := 4) (oi := ⟨some 24, _, _, _, _, _⟩) (v := .func (.func 124) #[] #[]) rfl (by kernel_rfl) (by kernel_rfl) (by kernel_rfl) (fun _ _ _ h => h) (Or.inl ⟨by kernel_rfl, fun w' hS => by go_simp; rw [run_field90]; go_simp⟩) (by assumption) ?_
    try simp only [Act.put, List.setIfInBounds_toArray, List.set_cons_succ, List.set_cons_zero]
    refine wpAnyH_ready (rs := [8]) (by kernel_rfl) (by simp) ?_
    refine AllReadyH.cons (o := _) rfl (fun K hK => ?_) AllReadyH.nil
    go_simp
    refine (HDO.out _ (HK.out.trans hS1)).mono ?_
    rintro e wx2 ⟨sv', ss', rfl, hbk, hmap, hown, kx2⟩
    go_wp2_with fail
    have hS2 := hS1.trans kx2
    refine hK.out _ _ (hm hS2) (fun hHeld => ?_)
    clear hK K
    try simp only [Act.put, List.setIfInBounds_toArray, List.set_cons_succ, List.set_cons_zero]
    refine wpAnyH_take (i := 9) (oi := ⟨some 29, _, _, _, _, _⟩) (v := .agg (bkC (r.getD b).ep sv')) rfl (by kernel_rfl) (by kernel_rfl) (by kernel_rfl) (fun _ _ _ h => h) (Or.inl ⟨by kernel_rfl, fun w' hS => by go_simp⟩) (by assumption) ?_
    try simp only [Act.put, List.setIfInBounds_toArray, List.set_cons_succ, List.set_cons_zero]
    refine wpAnyH_take (i := 10) (oi := ⟨some 30, _, _, _, _, _⟩) (v := .bool r.isSome) rfl (by kernel_rfl) (by kernel_rfl) (by kernel_rfl) (fun _ _ _ h => h) (Or.inl ⟨by kernel_rfl, fun w' hS => by go_simp⟩) (by assumption) ?_
    try simp only [Act.put, List.setIfInBounds_toArray, List.set_cons_succ, List.set_cons_zero]
    obtain ⟨a', c', rfl⟩ := hbk.form
    have Y2 := hS2.row G2.out
    refine wpAnyH_ready (rs := [11]) (by kernel_rfl) (by simp) ?_
    refine AllReadyH.cons (o := _) rfl (fun K hK => ?_) AllReadyH.nil
    refine step_store88 (g := w.heap.size + 1 + 1) (C := bkC (r.getD b).ep (.slice a' ss'.length c')) (cur := Z88) (by kernel_rfl) rfl rfl (bkC_size _ _) (bkC_one _ _ _ _) Y2 rfl ?_
    intro wn Yn kn
    rw [puts_all (by rfl)] at Yn
    refine hK.out _ _ ((hm hS2).trans kn) (fun hHeld => ?_)
    clear hK K
    try simp only [Act.put, List.setIfInBounds_toArray, List.set_cons_succ, List.set_cons_zero]
    refine wpAnyH_take (i := 12) (oi := ⟨some 7, _, _, _, _, _⟩) (v := .bool r.isSome) rfl (by kernel_rfl) (by kernel_rfl) (by kernel_rfl) (fun _ _ _ h => h) (Or.inl ⟨by kernel_rfl, fun w' hS => by go_simp⟩) (by assumption) ?_
    try simp only [Act.put, List.setIfInBounds_toArray, List.set_cons_succ, List.set_cons_zero]
    refine wpAnyH_done (by kernel_rfl) ?_ _
    have hsz := hS1.size
    have EP := Lib.hid (BgPost.lift HB.out hbk hmap hown (HK.out.trans hS1) kx2 kn (by omega) (by omega))
    have YN := Lib.hid Yn
    clear hbk hmap hown kx1 kx2 kn Yn Y2 hS1 hS2 hsz
    go_wp2_with fail
    exact bodyPost_ret (results_88 rfl _ _ _ YN.out (bkC_size _ _) rfl) rfl EP.out
  · have hfind : Instr.findNow (.int .i64) (.int .i64 ((2 : Nat) : Int)) goES.toList 0 = some (some (1, .agg #[.func (.func 125) #[] #[]])) := rfl
    refine wpAnyH_ready (rs := [3]) (by kernel_rfl) (by simp) ?_
    refine AllReadyH.cons (o := _) rfl (fun K hK => ?_) AllReadyH.nil
    refine step_lookup91 (r := rm) (k := ((2 : Nat) : Int)) (by kernel_rfl) rfl rfl hmp hfind ?_
    refine hK.out _ _ (hm hS1) (fun hHeld => ?_)
    clear hK K
    try simp only [Act.put, List.setIfInBounds_toArray, List.set_cons_succ, List.set_cons_zero]
    clear hmp hfind
    refine wpAnyH_take (i := 4) (oi := ⟨some 24, _, _, _, _, _⟩) (v := .func (.func 125) #[] #[]) rfl (by kernel_rfl) (by kernel_rfl) (by kernel_rfl) (fun _ _ _ h => h) (Or.inl ⟨by kernel_rfl, fun w' hS => by go_simp; rw [run_field90]; go_simp⟩) (by assumption) ?_
    try simp only [Act.put, List.setIfInBounds_toArray, List.set_cons_succ, List.set_cons_zero]
    refine wpAnyH_ready (rs := [8]) (by kernel_rfl) (by simp) ?_
    refine AllReadyH.cons (o := _) rfl (fun K hK => ?_) AllReadyH.nil
    go_simp
    refine (HDO.out _ (HK.out.trans hS1)).mono ?_
    rintro e wx2 ⟨sv', ss', rfl, hbk, hmap, hown, kx2⟩
    go_wp2_with fail
    have hS2 := hS1.trans kx2
    refine hK.out _ _ (hm hS2) (fun hHeld => ?_)
    clear hK K
    try simp only [Act.put, List.setIfInBounds_toArray, List.set_cons_succ, List.set_cons_zero]
    refine wpAnyH_take (i := 9) (oi := ⟨some 29, _, _, _, _, _⟩) (v := .agg (bkC (r.getD b).ep sv')) rfl (by kernel_rfl) (by kernel_rfl) (by kernel_rfl) (fun _ _ _ h => h) (Or.inl ⟨by kernel_rfl, fun w' hS => by go_simp⟩) (by assumption) ?_
    try simp only [Act.put, List.setIfInBounds_toArray, List.set_cons_succ, List.set_cons_zero]
    refine wpAnyH_take (i := 10) (oi := ⟨some 30, _, _, _, _, _⟩) (v := .bool r.isSome) rfl (by kernel_rfl) (by kernel_rfl) (by kernel_rfl) (fun _ _ _ h => h) (Or.inl ⟨by kernel_rfl, fun w' hS => by go_simp⟩) (by assumption) ?_
    try simp only [Act.put, List.setIfInBounds_toArray, List.set_cons_succ, List.set_cons_zero]
    obtain ⟨a', c', rfl⟩ := hbk.form
    have Y2 := hS2.row G2.out
    refine wpAnyH_ready (rs := [11]) (by kernel_rfl) (by simp) ?_
    refine AllReadyH.cons (o := _) rfl (fun K hK => ?_) AllReadyH.nil
    refine step_store88 (g := w.heap.size + 1 + 1) (C := bkC (r.getD b).ep (.slice a' ss'.length c')) (cur := Z88) (by kernel_rfl) rfl rfl (bkC_size _ _) (bkC_one _ _ _ _) Y2 rfl ?_
    intro wn Yn kn
    rw [puts_all (by rfl)] at Yn
    refine hK.out _ _ ((hm hS2).trans kn) (fun hHeld => ?_)
    clear hK K
    try simp only [Act.put, List.setIfInBounds_toArray, List.set_cons_succ, List.set_cons_zero]
    refine wpAnyH_take (i := 12) (oi := ⟨some 7, _, _, _, _, _⟩) (v := .bool r.isSome) rfl (by kernel_rfl) (by kernel_rfl) (by kernel_rfl) (fun _ _ _ h => h) (Or.inl ⟨by kernel_rfl, fun w' hS => by go_simp⟩) (by assumption) ?_
    try simp only [Act.put, List.setIfInBounds_toArray, List.set_cons_succ, List.set_cons_zero]
    refine wpAnyH_done (by kernel_rfl) ?_ _
    have hsz := hS1.size
    have EP := Lib.hid (BgPost.lift HB.out hbk hmap hown (HK.out.trans hS1) kx2 kn (by omega) (by omega))
    have YN := Lib.hid Yn
    clear hbk hmap hown kx1 kx2 kn Yn Y2 hS1 hS2 hsz
    go_wp2_with fail
    exact bodyPost_ret (results_88 rfl _ _ _ YN.out (bkC_size _ _) rfl) rfl EP.out
  · have hfind : Instr.findNow (.int .i64) (.int .i64 ((3 : Nat) : Int)) goES.toList 0 = some (some (2, .agg #[.func (.func 126) #[] #[]])) := rfl
    refine wpAnyH_ready (rs := [3]) (by kernel_rfl) (by simp) ?_
    refine AllReadyH.cons (o := _) rfl (fun K hK => ?_) AllReadyH.nil
    refine step_lookup91 (r := rm) (k := ((3 : Nat) : Int)) (by kernel_rfl) rfl rfl hmp hfind ?_
    refine hK.out _ _ (hm hS1) (fun hHeld => ?_)
    clear hK K
    try simp only [Act.put, List.setIfInBounds_toArray, List.set_cons_succ, List.set_cons_zero]
    clear hmp hfind
    refine wpAnyH_take (i := 4) (oi := ⟨some 24, _, _, _, _, _⟩) (v := .func (.func 126) #[] #[]) rfl (by kernel_rfl) (by kernel_rfl) (by kernel_rfl) (fun _ _ _ h => h) (Or.inl ⟨by kernel_rfl, fun w' hS => by go_simp; rw [run_field90]; go_simp⟩) (by assumption) ?_
    try simp only [Act.put, List.setIfInBounds_toArray, List.set_cons_succ, List.set_cons_zero]
    refine wpAnyH_ready (rs := [8]) (by kernel_rfl) (by simp) ?_
    refine AllReadyH.cons (o := _) rfl (fun K hK => ?_) AllReadyH.nil
    go_simp
    refine (HDO.out _ (HK.out.trans hS1)).mono ?_
    rintro e wx2 ⟨sv', ss', rfl, hbk, hmap, hown, kx2⟩
    go_wp2_with fail
    have hS2 := hS1.trans kx2
    refine hK.out _ _ (hm hS2) (fun hHeld => ?_)
    clear hK K
    try simp only [Act.put, List.setIfInBounds_toArray, List.set_cons_succ, List.set_cons_zero]
    refine wpAnyH_take (i := 9) (oi := ⟨some 29, _, _, _, _, _⟩) (v := .agg (bkC (r.getD b).ep sv')) rfl (by kernel_rfl) (by kernel_rfl) (by kernel_rfl) (fun _ _ _ h => h) (Or.inl ⟨by kernel_rfl, fun w' hS => by go_simp⟩) (by assumption) ?_
    try simp only [Act.put, List.setIfInBounds_toArray, List.set_cons_succ, List.set_cons_zero]
    refine wpAnyH_take (i := 10) (oi := ⟨some 30, _, _, _, _, _⟩) (v := .bool r.isSome) rfl (by kernel_rfl) (by kernel_rfl) (by kernel_rfl) (fun _ _ _ h => h) (Or.inl ⟨by kernel_rfl, fun w' hS => by go_simp⟩) (by assumption) ?_
    try simp only [Act.put, List.setIfInBounds_toArray, List.set_cons_succ, List.set_cons_zero]
    obtain ⟨a', c', rfl⟩ := hbk.form
    have Y2 := hS2.row G2.out
    refine wpAnyH_ready (rs := [11]) (by kernel_rfl) (by simp) ?_
    refine AllReadyH.cons (o := _) rfl (fun K hK => ?_) AllReadyH.nil
    refine step_store88 (g := w.heap.size + 1 + 1) (C := bkC (r.getD b).ep (.slice a' ss'.length c')) (cur := Z88) (by kernel_rfl) rfl rfl (bkC_size _ _) (bkC_one _ _ _ _) Y2 rfl ?_
    intro wn Yn kn
    rw [puts_all (by rfl)] at Yn
    refine hK.out _ _ ((hm hS2).trans kn) (fun hHeld => ?_)
    clear hK K
    try simp only [Act.put, List.setIfInBounds_toArray, List.set_cons_succ, List.set_cons_zero]
    refine wpAnyH_take (i := 12) (oi := ⟨some 7, _, _, _, _, _⟩) (v := .bool r.isSome) rfl (by kernel_rfl) (by kernel_rfl) (by kernel_rfl) (fun _ _ _ h => h) (Or.inl ⟨by kernel_rfl, fun w' hS => by go_simp⟩) (by assumption) ?_
    try simp only [Act.put, List.setIfInBounds_toArray, List.set_cons_succ, List.set_cons_zero]
    refine wpAnyH_done (by kernel_rfl) ?_ _
    have hsz := hS1.size
    have EP := Lib.hid (BgPost.lift HB.out hbk hmap hown (HK.out.trans hS1) kx2 kn (by omega) (by omega))
    have YN := Lib.hid Yn
    clear hbk hmap hown kx1 kx2 kn Yn Y2 hS1 hS2 hsz
    go_wp2_with fail
    exact bodyPost_ret (results_88 rfl _ _ _ YN.out (bkC_size _ _) rfl) rfl EP.out
  · have hfind : Instr.findNow (.int .i64) (.int .i64 ((4 : Nat) : Int)) goES.toList 0 = some (some (3, .agg #[.func (.func 125) #[] #[]])) := rfl
    refine wpAnyH_ready (rs := [3]) (by kernel_rfl) (by simp) ?_
    refine AllReadyH.cons (o := _) rfl (fun K hK => ?_) AllReadyH.nil
    refine step_lookup91 (r := rm) (k := ((4 : Nat) : Int)) (by kernel_rfl) rfl rfl hmp hfind ?_
    refine hK.out _ _ (hm hS1) (fun hHeld => ?_)
    clear hK K
    try simp only [Act.put, List.setIfInBounds_toArray, List.set_cons_succ, List.set_cons_zero]
    clear hmp hfind
    refine wpAnyH_take (i := 4) (oi := ⟨some 24, _, _, _, _, _⟩) (v := .func (.func 125) #[] #[]) rfl (by kernel_rfl) (by kernel_rfl) (by kernel_rfl) (fun _ _ _ h => h) (Or.inl ⟨by kernel_rfl, fun w' hS => by go_simp; rw [run_field90]; go_simp⟩) (by assumption) ?_
    try simp only [Act.put, List.setIfInBounds_toArray, List.set_cons_succ, List.set_cons_zero]
    refine wpAnyH_ready (rs := [8]) (by kernel_rfl) (by simp) ?_
    refine AllReadyH.cons (o := _) rfl (fun K hK => ?_) AllReadyH.nil
    go_simp
    refine (HDO.out _ (HK.out.trans hS1)).mono ?_
    rintro e wx2 ⟨sv', ss', rfl, hbk, hmap, hown, kx2⟩
    go_wp2_with fail
    have hS2 := hS1.trans kx2
    refine hK.out _ _ (hm hS2) (fun hHeld => ?_)
    clear hK K
    try simp only [Act.put, List.setIfInBounds_toArray, List.set_cons_succ, List.set_cons_zero]
    refine wpAnyH_take (i := 9) (oi := ⟨some 29, _, _, _, _, _⟩) (v := .agg (bkC (r.getD b).ep sv')) rfl (by kernel_rfl) (by kernel_rfl) (by kernel_rfl) (fun _ _ _ h => h) (Or.inl ⟨by kernel_rfl, fun w' hS => by go_simp⟩) (by assumption) ?_
    try simp only [Act.put, List.setIfInBounds_toArray, List.set_cons_succ, List.set_cons_zero]
    refine wpAnyH_take (i := 10) (oi := ⟨some 30, _, _, _, _, _⟩) (v := .bool r.isSome) rfl (by kernel_rfl) (by kernel_rfl) (by kernel_rfl) (fun _ _ _ h => h) (Or.inl ⟨by kernel_rfl, fun w' hS => by go_simp⟩) (by assumption) ?_
    try simp only [Act.put, List.setIfInBounds_toArray, List.set_cons_succ, List.set_cons_zero]
    obtain ⟨a', c', rfl⟩ := hbk.form
    have Y2 := hS2.row G2.out
    refine wpAnyH_ready (rs := [11]) (by kernel_rfl) (by simp) ?_
    refine AllReadyH.cons (o := _) rfl (fun K hK => ?_) AllReadyH.nil
    refine step_store88 (g := w.heap.size + 1 + 1) (C := bkC (r.getD b).ep (.slice a' ss'.length c')) (cur := Z88) (by kernel_rfl) rfl rfl (bkC_size _ _) (bkC_one _ _ _ _) Y2 rfl ?_
    intro wn Yn kn
    rw [puts_all (by rfl)] at Yn
    refine hK.out _ _ ((hm hS2).trans kn) (fun hHeld => ?_)
    clear hK K
    try simp only [Act.put, List.setIfInBounds_toArray, List.set_cons_succ, List.set_cons_zero]
    refine wpAnyH_take (i := 12) (oi := ⟨some 7, _, _, _, _, _⟩) (v := .bool r.isSome) rfl (by kernel_rfl) (by kernel_rfl) (by kernel_rfl) (fun _ _ _ h => h) (Or.inl ⟨by kernel_rfl, fun w' hS => by go_simp⟩) (by assumption) ?_
    try simp only [Act.put, List.setIfInBounds_toArray, List.set_cons_succ, List.set_cons_zero]
    refine wpAnyH_done (by kernel_rfl) ?_ _
    have hsz := hS1.size
    have EP := Lib.hid (BgPost.lift HB.out hbk hmap hown (HK.out.trans hS1) kx2 kn (by omega) (by omega))
    have YN := Lib.hid Yn
    clear hbk hmap hown kx1 kx2 kn Yn Y2 hS1 hS2 hsz
    go_wp2_with fail
    exact bodyPost_ret (results_88 rfl _ _ _ YN.out (bkC_size _ _) rfl) rfl EP.out
  · have hfind : Instr.findNow (.int .i64) (.int .i64 ((5 : Nat) : Int)) goES.toList 0 = some (some (4, .agg #[.func (.func 125) #[] #[]])) := rfl
    refine wpAnyH_ready (rs := [3]) (by kernel_rfl) (by simp) ?_
    refine AllReadyH.cons (o := _) rfl (fun K hK => ?_) AllReadyH.nil
    refine step_lookup91 (r := rm) (k := ((5 : Nat) : Int)) (by kernel_rfl) rfl rfl hmp hfind ?_
    refine hK.out _ _ (hm hS1) (fun hHeld => ?_)
    clear hK K
    try simp only [Act.put, List.setIfInBounds_toArray, List.set_cons_succ, List.set_cons_zero]
    clear hmp hfind
    refine wpAnyH_take (i := 4) (oi := ⟨some 24, _, _, _, _, _⟩) (v := .func (.func 125) #[] #[]) rfl (by kernel_rfl) (by kernel_rfl) (by kernel_rfl) (fun _ _ _ h => h) (Or.inl ⟨by kernel_rfl, fun w' hS => by go_simp; rw [run_field90]; go_simp⟩) (by assumption) ?_
    try simp only [Act.put, List.setIfInBounds_toArray, List.set_cons_succ, List.set_cons_zero]
    refine wpAnyH_ready (rs := [8]) (by kernel_rfl) (by simp) ?_
    refine AllReadyH.cons (o := _) rfl (fun K hK => ?_) AllReadyH.nil
    go_simp
    refine (HDO.out _ (HK.out.trans hS1)).mono ?_
    rintro e wx2 ⟨sv', ss', rfl, hbk, hmap, hown, kx2⟩
    go_wp2_with fail
    have hS2 := hS1.trans kx2
    refine hK.out _ _ (hm hS2) (fun hHeld => ?_)
    clear hK K
    try simp only [Act.put, List.setIfInBounds_toArray, List.set_cons_succ, List.set_cons_zero]
    refine wpAnyH_take (i := 9) (oi := ⟨some 29, _, _, _, _, _⟩) (v := .agg (bkC (r.getD b).ep sv')) rfl (by kernel_rfl) (by kernel_rfl) (by kernel_rfl) (fun _ _ _ h => h) (Or.inl ⟨by kernel_rfl, fun w' hS => by go_simp⟩) (by assumption) ?_
    try simp only [Act.put, List.setIfInBounds_toArray, List.set_cons_succ, List.set_cons_zero]
    refine wpAnyH_take (i := 10) (oi := ⟨some 30, _, _, _, _, _⟩) (v := .bool r.isSome) rfl (by kernel_rfl) (by kernel_rfl) (by kernel_rfl) (fun _ _ _ h => h) (Or.inl ⟨by kernel_rfl, fun w' hS => by go_simp⟩) (by assumption) ?_
    try simp only [Act.put, List.setIfInBounds_toArray, List.set_cons_succ, List.set_cons_zero]
    obtain ⟨a', c', rfl⟩ := hbk.form
    have Y2 := hS2.row G2.out
    refine wpAnyH_ready (rs := [11]) (by kernel_rfl) (by simp) ?_
    refine AllReadyH.cons (o := _) rfl (fun K hK => ?_) AllReadyH.nil
    refine step_store88 (g := w.heap.size + 1 + 1) (C := bkC (r.getD b).ep (.slice a' ss'.length c')) (cur := Z88) (by kernel_rfl) rfl rfl (bkC_size _ _) (bkC_one _ _ _ _) Y2 rfl ?_
    intro wn Yn kn
    rw [puts_all (by rfl)] at Yn
    refine hK.out _ _ ((hm hS2).trans kn) (fun hHeld => ?_)
    clear hK K
    try simp only [Act.put, List.setIfInBounds_toArray, List.set_cons_succ, List.set_cons_zero]
    refine wpAnyH_take (i := 12) (oi := ⟨some 7, _, _, _, _, _⟩) (v := .bool r.isSome) rfl (by kernel_rfl) (by kernel_rfl) (by kernel_rfl) (fun _ _ _ h => h) (Or.inl ⟨by kernel_rfl, fun w' hS => by go_simp⟩) (by assumption) ?_
    try simp only [Act.put, List.setIfInBounds_toArray, List.set_cons_succ, List.set_cons_zero]
    refine wpAnyH_done (by kernel_rfl) ?_ _
    have hsz := hS1.size
    have EP := Lib.hid (BgPost.lift HB.out hbk hmap hown (HK.out.trans hS1) kx2 kn (by omega) (by omega))
    have YN := Lib.hid Yn
    clear hbk hmap hown kx1 kx2 kn Yn Y2 hS1 hS2 hsz
    go_wp2_with fail
    exact bodyPost_ret (results_88 rfl _ _ _ YN.out (bkC_size _ _) rfl) rfl EP.out
  · have hfind : Instr.findNow (.int .i64) (.int .i64 ((6 : Nat) : Int)) goES.toList 0 = some (some (5, .agg #[.func (.func 127) #[] #[]])) := rfl
    refine wpAnyH_ready (rs := [3]) (by kernel_rfl) (by simp) ?_
    refine AllReadyH.cons (o := _) rfl (fun K hK => ?_) AllReadyH.nil
    refine step_lookup91 (r := rm) (k := ((6 : Nat) : Int)) (by kernel_rfl) rfl rfl hmp hfind ?_
    refine hK.out _ _ (hm hS1) (fun hHeld => ?_)
    clear hK K
    try simp only [Act.put, List.setIfInBounds_toArray, List.set_cons_succ, List.set_cons_zero]
    clear hmp hfind
    refine wpAnyH_take (i := 4) (oi := ⟨some 24, _, _, _, _, _⟩) (v := .func (.func 127) #[] #[]) rfl (by kernel_rfl) (by kernel_rfl) (by kernel_rfl) (fun _ _ _ h => h) (Or.inl ⟨by kernel_rfl, fun w' hS => by go_simp; rw [run_field90]; go_simp⟩) (by assumption) ?_
    try simp only [Act.put, List.setIfInBounds_toArray, List.set_cons_succ, List.set_cons_zero]
    refine wpAnyH_ready (rs := [8]) (by kernel_rfl) (by simp) ?_
    refine AllReadyH.cons (o := _) rfl (fun K hK => ?_) AllReadyH.nil
    go_simp
    refine (HDO.out _ (HK.out.trans hS1)).mono ?_
    rintro e wx2 ⟨sv', ss', rfl, hbk, hmap, hown, kx2⟩
    go_wp2_with fail
    have hS2 := hS1.trans kx2
    refine hK.out _ _ (hm hS2) (fun hHeld => ?_)
    clear hK K
    try simp only [Act.put, List.setIfInBounds_toArray, List.set_cons_succ, List.set_cons_zero]
    refine wpAnyH_take (i := 9) (oi := ⟨some 29, _, _, _, _, _⟩) (v := .agg (bkC (r.getD b).ep sv')) rfl (by kernel_rfl) (by kernel_rfl) (by kernel_rfl) (fun _ _ _ h => h) (Or.inl ⟨by kernel_rfl, fun w' hS => by go_simp⟩) (by assumption) ?_
    try simp only [Act.put, List.setIfInBounds_toArray, List.set_cons_succ, List.set_cons_zero]
    refine wpAnyH_take (i := 10) (oi := ⟨some 30, _, _, _, _, _⟩) (v := .bool r.isSome) rfl (by kernel_rfl) (by kernel_rfl) (by kernel_rfl) (fun _ _ _ h => h) (Or.inl ⟨by kernel_rfl, fun w' hS => by go_simp⟩) (by assumption) ?_
    try simp only [Act.put, List.setIfInBounds_toArray, List.set_cons_succ, List.set_cons_zero]
    obtain ⟨a', c', rfl⟩ := hbk.form
    have Y2 := hS2.row G2.out
    refine wpAnyH_ready (rs := [11]) (by kernel_rfl) (by simp) ?_
    refine AllReadyH.cons (o := _) rfl (fun K hK => ?_) AllReadyH.nil
    refine step_store88 (g := w.heap.size + 1 + 1) (C := bkC (r.getD b).ep (.slice a' ss'.length c')) (cur := Z88) (by kernel_rfl) rfl rfl (bkC_size _ _) (bkC_one _ _ _ _) Y2 rfl ?_
    intro wn Yn kn
    rw [puts_all (by rfl)] at Yn
    refine hK.out _ _ ((hm hS2).trans kn) (fun hHeld => ?_)
    clear hK K
    try simp only [Act.put, List.setIfInBounds_toArray, List.set_cons_succ, List.set_cons_zero]
    refine wpAnyH_take (i := 12) (oi := ⟨some 7, _, _, _, _, _⟩) (v := .bool r.isSome) rfl (by kernel_rfl) (by kernel_rfl) (by kernel_rfl) (fun _ _ _ h => h) (Or.inl ⟨by kernel_rfl, fun w' hS => by go_simp⟩) (by assumption) ?_
    try simp only [Act.put, List.setIfInBounds_toArray, List.set_cons_succ, List.set_cons_zero]
    refine wpAnyH_done (by kernel_rfl) ?_ _
    have hsz := hS1.size
    have EP := Lib.hid (BgPost.lift HB.out hbk hmap hown (HK.out.trans hS1) kx2 kn (by omega) (by omega))
    have YN := Lib.hid Yn
    clear hbk hmap hown kx1 kx2 kn Yn Y2 hS1 hS2 hsz
    go_wp2_with fail
    exact bodyPost_ret (results_88 rfl _ _ _ YN.out (bkC_size _ _) rfl) rfl EP.out
end Go.Proofs.YtklmhegmombegaaDoor.Re
