/-
  The walk of KeysBare. Conditions: as each theorem says.
-/
import Derived.Test.YtklmhegmombegaaDoorBareL
set_option linter.unusedVariables false
set_option linter.unusedSimpArgs false
set_option maxRecDepth 100000
namespace Go.Proofs.YtklmhegmombegaaDoor
open Go Go.RowKit Plain

theorem rpost_is {v v' : Value} {w : World} {F : Nat} {vs : Array Value} (h : v = v') (k : Calls Tryd.prog F vs w (RPost v w)) : Calls Tryd.prog F vs w (RPost v' w) := h ▸ k
theorem ipost_is {v v' : Int} {w : World} {F : Nat} {vs : Array Value} (h : v = v') (k : Calls Tryd.prog F vs w (IPost v w)) : Calls Tryd.prog F vs w (IPost v' w) := h ▸ k
set_option maxHeartbeats 8000000 in
theorem c_bare (pv wv : Value) (k : Ky) (n : Int) (root : List Nat) (w : World) (hL : Laid w) (hk : KyIn w pv wv k) (hn : W64 n) (hr : root.length = 32) (hr8 : All8 root) (hl1 : k.parts.length ≤ 20) (hl2 : k.wits.length ≤ 20) :
    Calls Tryd.prog 8 #[.agg #[pv, wv, .int .i64 k.need], .int .i64 n, .agg (ints .u8 root)] w (BPost true w) := by
  have k1 := ((Kept.refl (fun _ => False) w).alloc (.cells #[pv, wv, .int .i64 k.need] 24)).alloc (.cells (ints .u8 root) 26)
  have G1 := Lib.hid (heap_alloc2_old w (.cells #[pv, wv, .int .i64 k.need] 24) (.cells (ints .u8 root) 26))
  have G2 := Lib.hid (heap_alloc2_new w (.cells #[pv, wv, .int .i64 k.need] 24) (.cells (ints .u8 root) 26))
  have HK0 := Lib.hid hk
  have HL0 := Lib.hid hL
  have HR := Lib.hid hr
  have HR8 := Lib.hid hr8
  have hrz : Hid ((ints .u8 root).size = 32) := by show _ = _; rw [ints_size]; exact hr
  have K1 := Lib.hid k1
  have HA := Lib.hid (f_alive _ (hL.kept k1))
  obtain ⟨pa, pc, rfl⟩ := hk.parts.form
  obtain ⟨wa, wcp, rfl⟩ := hk.wits.form
  have t1 : decide ((20 : Int) < (k.parts.length : Int)) = false := decide_eq_false (by omega)
  have t2 : decide ((20 : Int) < (k.wits.length : Int)) = false := decide_eq_false (by omega)
  have u1 : decide (20 < k.parts.length) = false := decide_eq_false (by omega)
  have u2 : decide (20 < k.wits.length) = false := decide_eq_false (by omega)
  clear k1 hL hk hl1 hl2 hr hr8
  go_enter Tryd.func8, Tryd.ntmps8
  go_upto_region 1 with (fail)
  generalize ((w.alloc (.cells #[.slice pa k.parts.length pc, .slice wa k.wits.length wcp, .int .i64 k.need] 24)).alloc (.cells (ints .u8 root) 26)) = w1 at *
  go_wp2_with fail
  refine HA.out.mono ?_
  rintro e w2 ⟨rfl, k2⟩
  have G1_2 := Lib.hid (k2.row G1.out)
  have G2_2 := Lib.hid (k2.row G2.out)
  have K_2 := Lib.hid (K1.out.trans k2)
  clear k2 G1 G2 K1 HA
  have c0 := row_cell (k := 0) G1_2.out rfl
  have c1 := row_cell (k := 1) G1_2.out rfl
  have c2 := row_cell (k := 2) G1_2.out rfl
  have HM := Lib.hid (f_may _ _ k w2 (HK0.out.kept K_2.out))
  cases hm : kMay k with
  | false =>
    rw [hm] at HM
    clear hm
    go_wp2_with fail
    refine HM.out.mono ?_
    rintro e w4 ⟨rfl, k4⟩
    go_wp2_with fail
    go_ret
    exact BPost.mk rfl (K_2.out.trans k4)
  | true =>
    rw [hm] at HM
    have HMM := Lib.hid hm
    clear hm
    go_wp2_with fail
    refine HM.out.mono ?_
    rintro e w3 ⟨rfl, k3⟩
    clear HM
    have G1_3 := Lib.hid (k3.row G1_2.out)
    have G2_3 := Lib.hid (k3.row G2_2.out)
    have K_3 := Lib.hid (K_2.out.trans k3)
    clear k3 G1_2 G2_2 K_2 c0 c1 c2
    by_cases hn0 : n < 0
    · have v0 : decide (n < 0) = true := decide_eq_true hn0
      go_wp2_with fail
      go_ret
      exact BPost.mk rfl K_3.out
    have v0 : decide (n < 0) = false := decide_eq_false hn0
    by_cases hn4 : (400 : Int) < n
    · go_wp2_with fail
      go_ret
      exact BPost.mk rfl K_3.out
    have v4 : decide ((400 : Int) < n) = false := decide_eq_false hn4
    have HN0 : Hid (0 ≤ n) := by show _ ≤ _; omega
    have HN4 : Hid (n ≤ 400) := by show _ ≤ _; omega
    clear hn0 hn4 hn
    go_upto_region 5 with fail
    clear v0 v4 t1 t2 u1 u2
    have HP := Lib.hid (fun (sv : Value) (h1 : sv.oneCell' = true) => ptA_in (n := n) (sv := sv) HR.out HR8.out h1)
    have hptz : Hid ((ptA n root (.slice none 0 0)).size = 34) := (HP.out (.slice none 0 0) rfl).size
    have hpto : Hid ((ptA n root (.slice none 0 0)).all (·.oneCell') = true) := (HP.out (.slice none 0 0) rfl).one
    have zp := Lib.hid (heap_alloc_new w3 (.cells Z40 40))
    obtain ⟨yp, kp⟩ := alloc_set w3 Z40 (ptA n root (.slice none 0 0)) 40
    have Y4 := Lib.hid yp
    have K_4 := Lib.hid (K_3.out.trans kp)
    have G1_4 := Lib.hid (kp.row G1_3.out)
    have hB := K_3.out.size
    have hBg := row_lt G2_3.out
    clear yp kp
    go_upto_region 6 with (first | fail | ((with_reducible refine load26 (C := ints .u8 root) (g := w.heap.size + 1) (o := 0) ?_ (range_row G2_3.out) hrz.out ?_); rfl) | ((with_reducible refine build40v (k := n) (tag := root) ?_ ?_ HR.out ?_); rfl; rfl) | (with_reducible refine alloc40 ?_) | ((with_reducible refine store40 (C := ptA n root (.slice none 0 0)) ?_ ?_ zp.out Z40_size hptz.out hpto.out ?_); rfl; rfl))
    generalize (w3.alloc (.cells Z40 40)).setRow w3.heap.size (ptA n root (.slice none 0 0)) = w4 at *
    clear zp G1_3 G2_3
    generalize hBe : w3.heap.size = B at hB hBg Y4 ⊢
    clear hBe K_3
    have HC := f_check (.slice pa k.parts.length pc) (.slice wa k.wits.length wcp) (.slice none 0 0) k n (ptA n root (.slice none 0 0)) root [] w4 (HL0.out.kept K_4.out) (HK0.out.kept K_4.out) (HP.out _ rfl) (HSigs.nil w4)
    rw [check_nil root HMM.out HN0.out HN4.out] at HC
    have HC1 := Lib.hid HC
    clear HC
    have c0 := row_cell (k := 0) G1_4.out rfl
    have c1 := row_cell (k := 1) G1_4.out rfl
    have c2 := row_cell (k := 2) G1_4.out rfl
    go_wp2_with (first | fail | ((with_reducible refine load40 (C := ptA n root (.slice none 0 0)) (g := B) (o := 0) ?_ (range_row Y4.out) hptz.out ?_); rfl))
    refine HC1.out.mono ?_
    rintro e w5 ⟨rfl, k5⟩
    clear HC1 c0 c1 c2
    have K_5 := Lib.hid (K_4.out.trans k5)
    have G1_5 := Lib.hid (k5.row G1_4.out)
    have Y5 := Lib.hid (k5.row Y4.out)
    clear k5 K_4 G1_4 Y4
    have HS := Lib.hid (f_sign (.slice pa k.parts.length pc) (.slice wa k.wits.length wcp) (.slice none 0 0) k 0 n (ptA n root (.slice none 0 0)) root w5 (HL0.out.kept K_5.out) (HK0.out.kept K_5.out) (HP.out _ rfl) ⟨by decide, by decide⟩)
    have htl := Lib.hid (kSign_len k 0 n root)
    have hta := Lib.hid (kSign_all k 0 n root)
    have htz : Hid ((ints .u8 (kSign k 0 n root)).size = 32) := by show _ = _; rw [ints_size]; exact htl.out
    have hto := Lib.hid (ints_one .u8 (kSign k 0 n root))
    have c0 := row_cell (k := 0) G1_5.out rfl
    have c1 := row_cell (k := 1) G1_5.out rfl
    have c2 := row_cell (k := 2) G1_5.out rfl
    go_upto_region 8 with fail
    go_wp2_with (first | fail | ((with_reducible refine load40 (C := ptA n root (.slice none 0 0)) (g := B) (o := 0) ?_ (range_row Y5.out) hptz.out ?_); rfl))
    refine HS.out.mono ?_
    rintro e w6 ⟨rfl, k6⟩
    clear HS c0 c1 c2
    have K_6 := Lib.hid (K_5.out.trans k6)
    have G1_6 := Lib.hid (k6.row G1_5.out)
    have Y6 := Lib.hid (k6.row Y5.out)
    clear k6 K_5 G1_5 Y5
    have zt := Lib.hid (heap_alloc_new w6 (.cells Z26 26))
    obtain ⟨yt, kt⟩ := alloc_set w6 Z26 (ints .u8 (kSign k 0 n root)) 26
    have T7 := Lib.hid yt
    have K_7 := Lib.hid (K_6.out.trans kt)
    have G1_7 := Lib.hid (kt.row G1_6.out)
    have Y7 := Lib.hid (kt.row Y6.out)
    have hBB := row_lt Y6.out
    clear yt kt
    go_upto_region 9 with (first | fail | (with_reducible refine alloc26 ?_) | ((with_reducible refine store26 (C := ints .u8 (kSign k 0 n root)) ?_ ?_ zt.out Z26_size htz.out hto.out ?_); rfl; rfl))
    generalize (w6.alloc (.cells Z26 26)).setRow w6.heap.size (ints .u8 (kSign k 0 n root)) = w7 at *
    clear zt K_6 G1_6 Y6
    generalize hTe : w6.heap.size = T at hBB T7 ⊢
    clear hTe
    have k8 := (Kept.refl (fun _ => False) w7).alloc (.cells (rowsS [(0, kSign k 0 n root), (9, z32n)]) 49)
    have S8 : Hid (HSigs (w7.alloc (.cells (rowsS [(0, kSign k 0 n root), (9, z32n)]) 49)) (.slice (some ⟨w7.heap.size, 0, none⟩) 2 2) [(0, kSign k 0 n root), (9, z32n)]) := HSigs.of_rows (l := [(0, kSign k 0 n root), (9, z32n)]) (heap_alloc_new w7 _) (fun s hs => by
      simp only [List.mem_cons, List.not_mem_nil, or_false] at hs
      rcases hs with rfl | rfl
      · exact ⟨htl.out, hta.out, show W64 0 from ⟨by decide, by decide⟩⟩
      · exact ⟨rfl, z32n_all, show W64 9 from ⟨by decide, by decide⟩⟩) (by show (2 : Nat) ≤ 1000; decide) 2
    have h9l : Hid (z32n.length = 32) := rfl
    have K_8 := Lib.hid (K_7.out.trans k8)
    have G1_8 := Lib.hid (k8.row G1_7.out)
    have Y8 := Lib.hid (k8.row Y7.out)
    have T8 := Lib.hid (k8.row T7.out)
    have hBD := row_lt Y7.out
    have hTD := row_lt T7.out
    have cp := row_cell Y8.out (HP.out _ rfl).c33
    have fp := free_of_block (j := 33) Y8.out
    clear k8
    have hrt := Lib.hid (range_row T7.out)
    go_upto_region 10 with (first | fail | ((with_reducible refine load26 (C := ints .u8 (kSign k 0 n root)) (g := T) (o := 0) ?_ hrt.out htz.out ?_); rfl) | ((with_reducible refine build49 (k := 0) (tag := kSign k 0 n root) ?_ htl.out ?_); rfl) | (with_reducible refine build49n 9 ?_) | ((with_reducible refine slice38_2 (s := (0, kSign k 0 n root)) (t := (9, z32n)) ?_ htl.out ?_ h9l.out ?_); rfl; rfl))
    have hsw := World.setCell_alloc_past (w := w7) (.cells (rowsS [(0, kSign k 0 n root), (9, z32n)]) 49) B 33 (.slice (some ⟨w7.heap.size, 0, none⟩) 2 2) hBD
    rw [← hsw]
    clear hsw hrt
    generalize w7.alloc (.cells (rowsS [(0, kSign k 0 n root), (9, z32n)]) 49) = w8 at *
    generalize hDe : w7.heap.size = D at hBD hTD S8 ⊢
    clear hDe K_7 G1_7 Y7 T7 cp fp
    have k9 := (Kept.refl (fun i => i = B) w8).setCell (p := ⟨B, 33, none⟩) (.inl rfl) (.slice (some ⟨D, 0, none⟩) 2 2)
    have S9 := Lib.hid (S8.out.keptS k9 (fun j e => by simp only [Value.ownBlock, Option.some.injEq] at e; omega))
    have G1_9 := Lib.hid (k9.rowS (by omega) G1_8.out)
    have T9 := Lib.hid (k9.rowS (by omega) T8.out)
    have y9 := setCell_block Y8.out (k := 33) (.slice (some ⟨D, 0, none⟩) 2 2)
    rw [ptA_set HR.out] at y9
    have Y9 := Lib.hid y9
    have K_9 := Lib.hid (K_8.out.setCell (p := ⟨B, 33, none⟩) (.inr hB) (.slice (some ⟨D, 0, none⟩) 2 2))
    generalize w8.setCell ⟨B, 33, none⟩ (.slice (some ⟨D, 0, none⟩) 2 2) = w9 at *
    clear k9 y9 S8 G1_8 T8 Y8 K_8
    have P9 := Lib.hid (HP.out (.slice (some ⟨D, 0, none⟩) 2 2) rfl)
    have hp9 := Lib.hid P9.out.size
    generalize ptA n root (.slice (some ⟨D, 0, none⟩) 2 2) = PA at *
    generalize hTg : kSign k 0 n root = TG at *
    have HTG := Lib.hid hTg
    clear hTg
    have hck : Hid (kCheck k n root [(0, TG), (9, z32n)] = 8) := check_bad HMM.out HN0.out HN4.out (good_nine n root _ _ HMM.out)
    have HWL : Hid (W64 (k.wits.length : Int)) := by have := wits_le HMM.out; exact ⟨by omega, by omega⟩
    have HF1 := Lib.hid (fun (w' : World) (hS : Kept (fun _ => False) w9 w') => rpost_is (congrArg (fun t => Value.agg (ints .u8 t)) HTG.out) (f_sign (.slice pa k.parts.length pc) (.slice wa k.wits.length wcp) (.slice (some ⟨D, 0, none⟩) 2 2) k 0 n PA root w' (HL0.out.kept (K_9.out.trans hS)) (HK0.out.kept (K_9.out.trans hS)) P9.out ⟨by decide, by decide⟩))
    have HF2 := Lib.hid (fun (w' : World) (hS : Kept (fun _ => False) w9 w') => ipost_is hck.out (f_check (.slice pa k.parts.length pc) (.slice wa k.wits.length wcp) (.slice (some ⟨D, 0, none⟩) 2 2) k n PA root [(0, TG), (9, z32n)] w' (HL0.out.kept (K_9.out.trans hS)) (HK0.out.kept (K_9.out.trans hS)) P9.out (S9.out.kept hS)))
    have HF3 := Lib.hid (fun (w' : World) (hS : Kept (fun _ => False) w9 w') => rpost_is (congrArg (fun t => Value.agg (ints .u8 t)) (sign_out n root)) (f_sign (.slice pa k.parts.length pc) (.slice wa k.wits.length wcp) (.slice (some ⟨D, 0, none⟩) 2 2) k (k.wits.length : Int) n PA root w' (HL0.out.kept (K_9.out.trans hS)) (HK0.out.kept (K_9.out.trans hS)) P9.out HWL.out))
    refine wp_region_held_drew (S := fun w' => Kept (fun _ => False) w9 w') (by kernel_rfl) ((Kept.refl (fun _ => False) w9).drew) (fun hHeld => ?_)
    refine wpAnyH_take (i := 0) (oi := ⟨some 49, _, _, _, _, _⟩) (v := .agg #[.slice pa k.parts.length pc, .slice wa k.wits.length wcp, .int .i64 k.need]) rfl (by kernel_rfl) (by kernel_rfl) (by kernel_rfl) (fun _ _ _ h => h) (Or.inl ⟨by kernel_rfl, fun w' hS => by have c0 := row_cell (k := 0) (hS.row G1_9.out) rfl; have c1 := row_cell (k := 1) (hS.row G1_9.out) rfl; have c2 := row_cell (k := 2) (hS.row G1_9.out) rfl; go_simp⟩) (by assumption) ?_
    try simp only [Act.put, List.setIfInBounds_toArray, List.set_cons_succ, List.set_cons_zero]
    refine wpAnyH_take (i := 1) (oi := ⟨some 50, _, _, _, _, _⟩) (v := .agg PA) rfl (by kernel_rfl) (by kernel_rfl) (by kernel_rfl) (fun _ _ _ h => h) (yields40 (g := B) (o := 0) (C := PA) (by kernel_rfl) rfl (fun w' hS => range_row (hS.row Y9.out)) hp9.out) (by assumption) ?_
    try simp only [Act.put, List.setIfInBounds_toArray, List.set_cons_succ, List.set_cons_zero]
    refine wpAnyH_take (i := 3) (oi := ⟨some 52, _, _, _, _, _⟩) (v := .agg (ints .u8 TG)) rfl (by kernel_rfl) (by kernel_rfl) (by kernel_rfl) (fun _ _ _ h => h) (yields26 (g := T) (o := 0) (C := ints .u8 TG) (by kernel_rfl) rfl (fun w' hS => range_row (hS.row T9.out)) htz.out) (by assumption) ?_
    try simp only [Act.put, List.setIfInBounds_toArray, List.set_cons_succ, List.set_cons_zero]
    refine wpAnyH_ready (rs := [2]) (by kernel_rfl) (by simp) ?_
    refine AllReadyH.cons (o := _) rfl (fun K hK => ?_) AllReadyH.nil
    go_simp
    refine (HF1.out _ (by assumption)).mono ?_
    rintro e wx1 ⟨rfl, kx1⟩
    have hS1 : Kept (fun _ => False) w9 wx1 := Kept.trans (by assumption) kx1
    clear kx1 hHeld
    go_wp2_with fail
    refine hK.out _ _ hS1 (fun hHeld => ?_)
    clear hK K
    try simp only [Act.put, List.setIfInBounds_toArray, List.set_cons_succ, List.set_cons_zero]
    refine wpAnyH_take (i := 4) (oi := ⟨some 53, _, _, _, _, _⟩) (v := .bool true) rfl (by kernel_rfl) (by kernel_rfl) (by kernel_rfl) (fun _ _ _ h => h) (yieldsEq26 (l := TG) (m := TG) (decide_eq_true rfl) htl.out htl.out (by kernel_rfl) rfl rfl) (by assumption) ?_
    try simp only [Act.put, List.setIfInBounds_toArray, List.set_cons_succ, List.set_cons_zero]
    refine wpAnyH_take (i := 5) (oi := ⟨some 54, _, _, _, _, _⟩) (v := .bool true) rfl (by kernel_rfl) (by kernel_rfl) (by kernel_rfl) (fun _ _ _ h => h) (Or.inl ⟨by kernel_rfl, fun w' hS => by go_simp⟩) (by assumption) ?_
    try simp only [Act.put, List.setIfInBounds_toArray, List.set_cons_succ, List.set_cons_zero]
    refine wpAnyH_take (i := 6) (oi := ⟨some 55, _, _, _, _, _⟩) (v := .agg #[.slice pa k.parts.length pc, .slice wa k.wits.length wcp, .int .i64 k.need]) rfl (by kernel_rfl) (by kernel_rfl) (by kernel_rfl) (fun _ _ _ h => h) (Or.inl ⟨by kernel_rfl, fun w' hS => by have c0 := row_cell (k := 0) (hS.row G1_9.out) rfl; have c1 := row_cell (k := 1) (hS.row G1_9.out) rfl; have c2 := row_cell (k := 2) (hS.row G1_9.out) rfl; go_simp⟩) (by assumption) ?_
    try simp only [Act.put, List.setIfInBounds_toArray, List.set_cons_succ, List.set_cons_zero]
    refine wpAnyH_take (i := 7) (oi := ⟨some 56, _, _, _, _, _⟩) (v := .agg PA) rfl (by kernel_rfl) (by kernel_rfl) (by kernel_rfl) (fun _ _ _ h => h) (yields40 (g := B) (o := 0) (C := PA) (by kernel_rfl) rfl (fun w' hS => range_row (hS.row Y9.out)) hp9.out) (by assumption) ?_
    try simp only [Act.put, List.setIfInBounds_toArray, List.set_cons_succ, List.set_cons_zero]
    refine wpAnyH_ready (rs := [8]) (by kernel_rfl) (by simp) ?_
    refine AllReadyH.cons (o := _) rfl (fun K hK => ?_) AllReadyH.nil
    go_simp
    refine (HF2.out _ (by assumption)).mono ?_
    rintro e wx2 ⟨rfl, kx2⟩
    have hS2 : Kept (fun _ => False) w9 wx2 := Kept.trans (by assumption) kx2
    clear kx2 hHeld
    go_wp2_with fail
    refine hK.out _ _ hS2 (fun hHeld => ?_)
    clear hK K
    try simp only [Act.put, List.setIfInBounds_toArray, List.set_cons_succ, List.set_cons_zero]
    refine wpAnyH_take (i := 9) (oi := ⟨some 58, _, _, _, _, _⟩) (v := .bool true) rfl (by kernel_rfl) (by kernel_rfl) (by kernel_rfl) (fun _ _ _ h => h) (Or.inl ⟨by kernel_rfl, fun w' hS => by go_simp⟩) (by assumption) ?_
    try simp only [Act.put, List.setIfInBounds_toArray, List.set_cons_succ, List.set_cons_zero]
    refine wpAnyH_take (i := 10) (oi := ⟨some 59, _, _, _, _, _⟩) (v := .bool true) rfl (by kernel_rfl) (by kernel_rfl) (by kernel_rfl) (fun _ _ _ h => h) (Or.inl ⟨by kernel_rfl, fun w' hS => by go_simp⟩) (by assumption) ?_
    try simp only [Act.put, List.setIfInBounds_toArray, List.set_cons_succ, List.set_cons_zero]
    refine wpAnyH_take (i := 11) (oi := ⟨some 60, _, _, _, _, _⟩) (v := .bool true) rfl (by kernel_rfl) (by kernel_rfl) (by kernel_rfl) (fun _ _ _ h => h) (Or.inl ⟨by kernel_rfl, fun w' hS => by go_simp⟩) (by assumption) ?_
    try simp only [Act.put, List.setIfInBounds_toArray, List.set_cons_succ, List.set_cons_zero]
    refine wpAnyH_take (i := 12) (oi := ⟨some 61, _, _, _, _, _⟩) (v := .agg #[.slice pa k.parts.length pc, .slice wa k.wits.length wcp, .int .i64 k.need]) rfl (by kernel_rfl) (by kernel_rfl) (by kernel_rfl) (fun _ _ _ h => h) (Or.inl ⟨by kernel_rfl, fun w' hS => by have c0 := row_cell (k := 0) (hS.row G1_9.out) rfl; have c1 := row_cell (k := 1) (hS.row G1_9.out) rfl; have c2 := row_cell (k := 2) (hS.row G1_9.out) rfl; go_simp⟩) (by assumption) ?_
    try simp only [Act.put, List.setIfInBounds_toArray, List.set_cons_succ, List.set_cons_zero]
    refine wpAnyH_take (i := 13) (oi := ⟨some 62, _, _, _, _, _⟩) (v := .pointer (some ⟨w.heap.size, 1, none⟩)) rfl (by kernel_rfl) (by kernel_rfl) (by kernel_rfl) (fun _ _ _ h => h) (Or.inl ⟨by kernel_rfl, fun w' hS => by go_simp⟩) (by assumption) ?_
    try simp only [Act.put, List.setIfInBounds_toArray, List.set_cons_succ, List.set_cons_zero]
    refine wpAnyH_take (i := 14) (oi := ⟨some 63, _, _, _, _, _⟩) (v := .slice wa k.wits.length wcp) rfl (by kernel_rfl) (by kernel_rfl) (by kernel_rfl) (fun _ _ _ h => h) (Or.inl ⟨by kernel_rfl, fun w' hS => by have c1 := row_cell (k := 1) (hS.row G1_9.out) rfl; go_simp⟩) (by assumption) ?_
    try simp only [Act.put, List.setIfInBounds_toArray, List.set_cons_succ, List.set_cons_zero]
    refine wpAnyH_take (i := 15) (oi := ⟨some 64, _, _, _, _, _⟩) (v := .int .i64 (k.wits.length : Int)) rfl (by kernel_rfl) (by kernel_rfl) (by kernel_rfl) (fun _ _ _ h => h) (Or.inl ⟨by kernel_rfl, fun w' hS => by go_simp⟩) (by assumption) ?_
    try simp only [Act.put, List.setIfInBounds_toArray, List.set_cons_succ, List.set_cons_zero]
    refine wpAnyH_take (i := 16) (oi := ⟨some 65, _, _, _, _, _⟩) (v := .agg PA) rfl (by kernel_rfl) (by kernel_rfl) (by kernel_rfl) (fun _ _ _ h => h) (yields40 (g := B) (o := 0) (C := PA) (by kernel_rfl) rfl (fun w' hS => range_row (hS.row Y9.out)) hp9.out) (by assumption) ?_
    try simp only [Act.put, List.setIfInBounds_toArray, List.set_cons_succ, List.set_cons_zero]
    refine wpAnyH_take (i := 18) (oi := ⟨some 67, _, _, _, _, _⟩) (v := .agg (ints .u8 z32n)) rfl (by kernel_rfl) (by kernel_rfl) (by kernel_rfl) (fun _ _ _ h => h) (Or.inl ⟨by kernel_rfl, fun w' hS => by go_simp; rfl⟩) (by assumption) ?_
    try simp only [Act.put, List.setIfInBounds_toArray, List.set_cons_succ, List.set_cons_zero]
    refine wpAnyH_ready (rs := [17]) (by kernel_rfl) (by simp) ?_
    refine AllReadyH.cons (o := _) rfl (fun K hK => ?_) AllReadyH.nil
    go_simp
    refine (HF3.out _ (by assumption)).mono ?_
    rintro e wx3 ⟨rfl, kx3⟩
    have hS3 : Kept (fun _ => False) w9 wx3 := Kept.trans (by assumption) kx3
    clear kx3 hHeld
    go_wp2_with fail
    refine hK.out _ _ hS3 (fun hHeld => ?_)
    clear hK K
    try simp only [Act.put, List.setIfInBounds_toArray, List.set_cons_succ, List.set_cons_zero]
    refine wpAnyH_take (i := 19) (oi := ⟨some 68, _, _, _, _, _⟩) (v := .bool true) rfl (by kernel_rfl) (by kernel_rfl) (by kernel_rfl) (fun _ _ _ h => h) (yieldsEq26 (l := z32n) (m := z32n) (decide_eq_true rfl) rfl rfl (by kernel_rfl) rfl rfl) (by assumption) ?_
    try simp only [Act.put, List.setIfInBounds_toArray, List.set_cons_succ, List.set_cons_zero]
    refine wpAnyH_take (i := 20) (oi := ⟨some 69, _, _, _, _, _⟩) (v := .bool true) rfl (by kernel_rfl) (by kernel_rfl) (by kernel_rfl) (fun _ _ _ h => h) (Or.inl ⟨by kernel_rfl, fun w' hS => by go_simp⟩) (by assumption) ?_
    try simp only [Act.put, List.setIfInBounds_toArray, List.set_cons_succ, List.set_cons_zero]
    refine wpAnyH_take (i := 21) (oi := ⟨some 6, _, _, _, _, _⟩) (v := .bool true) rfl (by kernel_rfl) (by kernel_rfl) (by kernel_rfl) (fun _ _ _ h => h) (Or.inl ⟨by kernel_rfl, fun w' hS => by go_simp⟩) (by assumption) ?_
    try simp only [Act.put, List.setIfInBounds_toArray, List.set_cons_succ, List.set_cons_zero]
    refine wpAnyH_done (by kernel_rfl) ?_ _
    have KF := Lib.hid (K_9.out.trans hS3)
    go_wp2_with fail
    go_ret
    exact BPost.mk rfl KF.out

end Go.Proofs.YtklmhegmombegaaDoor
