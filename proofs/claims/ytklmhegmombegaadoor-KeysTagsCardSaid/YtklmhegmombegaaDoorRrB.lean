/-
  The contracts of the reference's Right, for intents, lapses, ends, rotations. Conditions: as each theorem says.
  The contracts of the reference's Right, for intents, lapses, ends, rotations. Conditions: as each theorem says.
  The contracts of the reference's Right, for intents, lapses, ends, rotations. Conditions: as each theorem says.
  The contracts of the reference's Right, for beginnings and kinds that are none: a Bool. Conditions: as each theorem says.
-/
import Derived.Test.YtklmhegmombegaaDoorRrA
set_option linter.unusedVariables false
set_option linter.unusedSimpArgs false
set_option maxRecDepth 100000
namespace Go.Proofs.YtklmhegmombegaaDoor.Re
open Go Go.RowKit Go.Proofs.YtklmhegmombegaaDoor Go.Proofs.YtklmhegmombegaaDoor.Re.Plain
namespace Plain
theorem right2 {x : Rx} (h : x.kind = 2) : rightB x = (wi x.saga 0 11 && (wi x.seq 1 400 && (wi x.step 0 5 && (wi x.tr 1 9 && (!x.good && ((x.tag == z32) && (decide (x.nd = 0) && (decide (x.part = 0) && (decide (x.epoch = 0) && (decide (x.steps.length = 0) && (decide (x.data.length = 0) && ((x.salt == z32) && (!x.gone && ((x.com == z32))))))))))))))) := by
  obtain ⟨kind, saga, seq, step, tr, bk, good, nd, part, epoch, tag, steps, data, salt, gone, com⟩ := x
  simp only at h
  subst h
  rw [Bool.eq_iff_iff]
  simp [rightB, rangesB, keptX, Rx.zero, wi]
  grind
end Plain
set_option maxHeartbeats 8000000 in
theorem f_rr2 (C : Array Value) (x : Rx) (w : World) (h : RecIn w C x) (hk : x.kind = 2) : Calls Tryd.prog 31 #[.agg C] w (BPost (rightB x) w) := by
  have HR := Lib.hid (right2 hk)
  have g0 := heap_alloc2_old w (.cells C 30) (.cells Z26 26)
  have g1 := heap_alloc2_new w (.cells C 30) (.cells Z26 26)
  have G0 := Lib.hid g0
  have G1 := Lib.hid g1
  have KA := Lib.hid (((Kept.refl (fun _ => False) w).alloc (.cells C 30)).alloc (.cells Z26 26))
  obtain ⟨sv, hs, a1, cs1, e1, hm1, -⟩ := h.st
  obtain ⟨dv, hd, a2, cs2, e2, hm2, -⟩ := h.da
  subst e1 e2
  have c0 := row_cell g0 h.c0
  rw [hk] at c0
  have HH := Lib.hid h
  have HHS := Lib.hid hs
  have HHD := Lib.hid hd
  have HKK := Lib.hid hk
  clear h hs hd g0 g1 hm1 hm2 hk
  go_enter Tryd.func31, Tryd.ntmps31
  go_upto_region 2 with (first | fail | (with_reducible refine alloc26 ?_))
  generalize (w.alloc (.cells C 30)).alloc (.cells Z26 26) = w1 at *
  go_quiet (fail)
  clear c0
  generalize hq : w1.drewN _ = w2
  have hkq : Kept (fun _ => False) w1 w2 := hq ▸ (Kept.refl _ w1).drewN _
  have g0 := hkq.row G0.out
  have g1 := hkq.row G1.out
  have h := HH.out
  have hk := HKK.out
  have hs := HHS.out
  have hd := HHD.out
  have K1 := Lib.hid (KA.out.trans hkq)
  clear hkq hq KA G0 G1 HH HKK HHS HHD
  have c0 := row_cell g0 h.c0
  rw [hk] at c0
  have c1 := row_cell g0 h.c1
  have c2 := row_cell g0 h.c2
  have c3 := row_cell g0 h.c3
  have c4 := row_cell g0 h.c4
  have c5 := row_cell g0 h.c5
  have c6 := row_cell g0 h.c6
  have c7 := row_cell g0 h.c7
  have c8 := row_cell g0 h.c8
  have c9 := row_cell g0 h.c9
  have c76 := row_cell g0 h.c76
  have c42 := row_cell g0 hs
  have c43 := row_cell g0 hd
  have HTL := Lib.hid h.tagl
  have HSL := Lib.hid h.saltl
  have HCL := Lib.hid h.coml
  have H10 := Lib.hid (range_at g0 h.tag)
  have H44 := Lib.hid (range_at g0 h.salt)
  have H77 := Lib.hid (range_at g0 h.com)
  have HZ := Lib.hid (range_z g1)
  have HT32 : Hid ((hbs x.tag).toArray.size = 32) := by show _ = _; simp [hbs, h.tagl]
  have HS32 : Hid ((hbs x.salt).toArray.size = 32) := by show _ = _; simp [hbs, h.saltl]
  have HC32 : Hid ((hbs x.com).toArray.size = 32) := by show _ = _; simp [hbs, h.coml]
  have HZ32 : Hid ((hbs z32).toArray.size = 32) := by rfl
  clear h hs hd g0 g1 hk
  obtain ⟨xkind, saga, seq, step, tr, bk, good, nd, part, epoch, tag, steps, data, salt, gone, com⟩ := x
  dsimp only at *
  generalize rightB _ = RB at *
  generalize steps.length = sl at *
  generalize data.length = dl at *
  go_upto_region 3 with fail
  cases hb0 : wi saga 0 11 with
  | false =>
    have E : Hid (RB = false) := by show _ = _; rw [HR.out, hb0]; simp
    have W0 := Lib.hid hb0
    clear hb0
    go_wp2_with fail
    refine (f_rin_is W0.out _).mono ?_
    rintro e w9 ⟨rfl, rfl⟩
    go_wp2_with fail
    go_ret
    exact BPost.mk E.out K1.out
  | true =>
    have W0 := Lib.hid hb0
    clear hb0
    go_wp2_with fail
    refine (f_rin_is W0.out _).mono ?_
    rintro e w9 ⟨rfl, rfl⟩
    go_upto_region 6 with fail
    cases hb1 : wi seq 1 400 with
    | false =>
      have E : Hid (RB = false) := by show _ = _; rw [HR.out, hb1]; simp
      have W1 := Lib.hid hb1
      clear hb1
      go_wp2_with fail
      refine (f_rin_is W1.out _).mono ?_
      rintro e w9 ⟨rfl, rfl⟩
      go_wp2_with fail
      go_ret
      exact BPost.mk E.out K1.out
    | true =>
      have W1 := Lib.hid hb1
      clear hb1
      go_wp2_with fail
      refine (f_rin_is W1.out _).mono ?_
      rintro e w9 ⟨rfl, rfl⟩
      go_upto_region 10 with fail
      cases hb2 : wi step 0 5 with
      | false =>
        have E : Hid (RB = false) := by show _ = _; rw [HR.out, hb2]; simp
        have W2 := Lib.hid hb2
        clear hb2
        go_wp2_with fail
        refine (f_rin_is W2.out _).mono ?_
        rintro e w9 ⟨rfl, rfl⟩
        go_wp2_with fail
        go_ret
        exact BPost.mk E.out K1.out
      | true =>
        have W2 := Lib.hid hb2
        clear hb2
        cases hb3 : wi tr 1 9 with
        | false =>
          have E : Hid (RB = false) := by show _ = _; rw [HR.out, hb3]; simp
          have W3 := Lib.hid hb3
          clear hb3
          go_wp2_with fail
          refine (f_rin_is W2.out _).mono ?_
          rintro e w9 ⟨rfl, rfl⟩
          go_wp2_with fail
          refine (f_rin_is W3.out _).mono ?_
          rintro e w9 ⟨rfl, rfl⟩
          go_wp2_with fail
          go_ret
          exact BPost.mk E.out K1.out
        | true =>
          have W3 := Lib.hid hb3
          clear hb3
          go_wp2_with fail
          refine (f_rin_is W2.out _).mono ?_
          rintro e w9 ⟨rfl, rfl⟩
          go_wp2_with fail
          refine (f_rin_is W3.out _).mono ?_
          rintro e w9 ⟨rfl, rfl⟩
          go_upto_region 12 with fail
          cases good with
          | true =>
            have E : Hid (RB = false) := by show _ = _; rw [HR.out]; simp
            go_wp2_with fail
            go_ret
            exact BPost.mk E.out K1.out
          | false =>
            cases hb5 : (tag == z32) with
            | false =>
              have E : Hid (RB = false) := by show _ = _; rw [HR.out, hb5]; simp
              have HTB := Lib.hid hb5
              clear hb5
              go_wp2_with (first | fail | ((with_reducible refine load26g (dst := some 97) (C := (hbs tag).toArray) (g := w.heap.size) (o := 10) (by kernel_rfl) ?_ H10.out HT32.out ?_); rfl) | ((with_reducible refine load26g (dst := some 98) (C := (hbs z32).toArray) (g := w.heap.size + 1) (o := 0) (by kernel_rfl) ?_ HZ.out HZ32.out ?_); rfl) | ((with_reducible refine neI26g (dst := some 99) (l := tag) (m := z32) (by kernel_rfl) ?_ ?_ HTL.out z32_len HTB.out ?_); rfl; rfl))
              go_ret
              exact BPost.mk E.out K1.out
            | true =>
              have HTB := Lib.hid hb5
              clear hb5
              cases hb6 : decide (nd = 0) with
              | false =>
                have E : Hid (RB = false) := by show _ = _; rw [HR.out, hb6]; simp
                have t6 : ¬ nd = 0 := of_decide_eq_false hb6
                go_wp2_with (first | fail | ((with_reducible refine load26g (dst := some 97) (C := (hbs tag).toArray) (g := w.heap.size) (o := 10) (by kernel_rfl) ?_ H10.out HT32.out ?_); rfl) | ((with_reducible refine load26g (dst := some 98) (C := (hbs z32).toArray) (g := w.heap.size + 1) (o := 0) (by kernel_rfl) ?_ HZ.out HZ32.out ?_); rfl) | ((with_reducible refine neI26g (dst := some 99) (l := tag) (m := z32) (by kernel_rfl) ?_ ?_ HTL.out z32_len HTB.out ?_); rfl; rfl))
                go_ret
                exact BPost.mk E.out K1.out
              | true =>
                obtain rfl : nd = 0 := of_decide_eq_true hb6
                clear hb6
                go_upto_region 16 with (first | fail | ((with_reducible refine load26g (dst := some 97) (C := (hbs tag).toArray) (g := w.heap.size) (o := 10) (by kernel_rfl) ?_ H10.out HT32.out ?_); rfl) | ((with_reducible refine load26g (dst := some 98) (C := (hbs z32).toArray) (g := w.heap.size + 1) (o := 0) (by kernel_rfl) ?_ HZ.out HZ32.out ?_); rfl) | ((with_reducible refine neI26g (dst := some 99) (l := tag) (m := z32) (by kernel_rfl) ?_ ?_ HTL.out z32_len HTB.out ?_); rfl; rfl))
                cases hb7 : decide (part = 0) with
                | false =>
                  have E : Hid (RB = false) := by show _ = _; rw [HR.out, hb7]; simp
                  have t7 : ¬ part = 0 := of_decide_eq_false hb7
                  go_wp2_with fail
                  go_ret
                  exact BPost.mk E.out K1.out
                | true =>
                  obtain rfl : part = 0 := of_decide_eq_true hb7
                  clear hb7
                  cases hb8 : decide (epoch = 0) with
                  | false =>
                    have E : Hid (RB = false) := by show _ = _; rw [HR.out, hb8]; simp
                    have t8 : ¬ epoch = 0 := of_decide_eq_false hb8
                    go_wp2_with fail
                    go_ret
                    exact BPost.mk E.out K1.out
                  | true =>
                    obtain rfl : epoch = 0 := of_decide_eq_true hb8
                    clear hb8
                    go_upto_region 19 with fail
                    cases hb9 : decide (sl = 0) with
                    | false =>
                      have E : Hid (RB = false) := by show _ = _; rw [HR.out, hb9]; simp
                      have t9 : ¬ sl = 0 := of_decide_eq_false hb9
                      have u9 : ¬ (sl : Int) = 0 := by omega
                      go_wp2_with fail
                      go_ret
                      exact BPost.mk E.out K1.out
                    | true =>
                      obtain rfl : sl = 0 := of_decide_eq_true hb9
                      clear hb9
                      cases hb10 : decide (dl = 0) with
                      | false =>
                        have E : Hid (RB = false) := by show _ = _; rw [HR.out, hb10]; simp
                        have t10 : ¬ dl = 0 := of_decide_eq_false hb10
                        have u10 : ¬ (dl : Int) = 0 := by omega
                        go_wp2_with fail
                        go_ret
                        exact BPost.mk E.out K1.out
                      | true =>
                        obtain rfl : dl = 0 := of_decide_eq_true hb10
                        clear hb10
                        cases hb11 : (salt == z32) with
                        | false =>
                          have E : Hid (RB = false) := by show _ = _; rw [HR.out, hb11]; simp
                          have HSB := Lib.hid hb11
                          clear hb11
                          go_wp2_with (first | fail | ((with_reducible refine load26g (dst := some 184) (C := (hbs salt).toArray) (g := w.heap.size) (o := 44) (by kernel_rfl) ?_ H44.out HS32.out ?_); rfl) | ((with_reducible refine load26g (dst := some 185) (C := (hbs z32).toArray) (g := w.heap.size + 1) (o := 0) (by kernel_rfl) ?_ HZ.out HZ32.out ?_); rfl) | ((with_reducible refine eqI26g (dst := some 186) (l := salt) (m := z32) (by kernel_rfl) ?_ ?_ HSL.out z32_len HSB.out ?_); rfl; rfl))
                          go_ret
                          exact BPost.mk E.out K1.out
                        | true =>
                          have HSB := Lib.hid hb11
                          clear hb11
                          cases gone with
                          | true =>
                            have E : Hid (RB = false) := by show _ = _; rw [HR.out]; simp
                            go_wp2_with (first | fail | ((with_reducible refine load26g (dst := some 184) (C := (hbs salt).toArray) (g := w.heap.size) (o := 44) (by kernel_rfl) ?_ H44.out HS32.out ?_); rfl) | ((with_reducible refine load26g (dst := some 185) (C := (hbs z32).toArray) (g := w.heap.size + 1) (o := 0) (by kernel_rfl) ?_ HZ.out HZ32.out ?_); rfl) | ((with_reducible refine eqI26g (dst := some 186) (l := salt) (m := z32) (by kernel_rfl) ?_ ?_ HSL.out z32_len HSB.out ?_); rfl; rfl))
                            go_ret
                            exact BPost.mk E.out K1.out
                          | false =>
                            cases hb13 : (com == z32) with
                            | false =>
                              have E : Hid (RB = false) := by show _ = _; rw [HR.out, hb13]; simp
                              have HCB := Lib.hid hb13
                              clear hb13
                              go_wp2_with (first | fail | ((with_reducible refine load26g (dst := some 184) (C := (hbs salt).toArray) (g := w.heap.size) (o := 44) (by kernel_rfl) ?_ H44.out HS32.out ?_); rfl) | ((with_reducible refine load26g (dst := some 185) (C := (hbs z32).toArray) (g := w.heap.size + 1) (o := 0) (by kernel_rfl) ?_ HZ.out HZ32.out ?_); rfl) | ((with_reducible refine eqI26g (dst := some 186) (l := salt) (m := z32) (by kernel_rfl) ?_ ?_ HSL.out z32_len HSB.out ?_); rfl; rfl) | ((with_reducible refine load26g (dst := some 195) (C := (hbs com).toArray) (g := w.heap.size) (o := 77) (by kernel_rfl) ?_ H77.out HC32.out ?_); rfl) | ((with_reducible refine load26g (dst := some 196) (C := (hbs z32).toArray) (g := w.heap.size + 1) (o := 0) (by kernel_rfl) ?_ HZ.out HZ32.out ?_); rfl) | ((with_reducible refine eqI26g (dst := some 197) (l := com) (m := z32) (by kernel_rfl) ?_ ?_ HCL.out z32_len HCB.out ?_); rfl; rfl))
                              go_ret
                              exact BPost.mk E.out K1.out
                            | true =>
                              have HCB := Lib.hid hb13
                              clear hb13
                              have E : Hid (RB = true) := by show _ = _; rw [HR.out]; simp [W0.out, W1.out, W2.out, W3.out, HTB.out, HSB.out, HCB.out]
                              go_wp2_with (first | fail | ((with_reducible refine load26g (dst := some 184) (C := (hbs salt).toArray) (g := w.heap.size) (o := 44) (by kernel_rfl) ?_ H44.out HS32.out ?_); rfl) | ((with_reducible refine load26g (dst := some 185) (C := (hbs z32).toArray) (g := w.heap.size + 1) (o := 0) (by kernel_rfl) ?_ HZ.out HZ32.out ?_); rfl) | ((with_reducible refine eqI26g (dst := some 186) (l := salt) (m := z32) (by kernel_rfl) ?_ ?_ HSL.out z32_len HSB.out ?_); rfl; rfl) | ((with_reducible refine load26g (dst := some 195) (C := (hbs com).toArray) (g := w.heap.size) (o := 77) (by kernel_rfl) ?_ H77.out HC32.out ?_); rfl) | ((with_reducible refine load26g (dst := some 196) (C := (hbs z32).toArray) (g := w.heap.size + 1) (o := 0) (by kernel_rfl) ?_ HZ.out HZ32.out ?_); rfl) | ((with_reducible refine eqI26g (dst := some 197) (l := com) (m := z32) (by kernel_rfl) ?_ ?_ HCL.out z32_len HCB.out ?_); rfl; rfl))
                              go_ret
                              exact BPost.mk E.out K1.out
namespace Plain
theorem right4 {x : Rx} (h : x.kind = 4) : rightB x = (wi x.saga 0 11 && (wi x.seq 1 400 && (wi x.step 0 5 && (wi x.tr 1 9 && (!x.good && ((x.tag == z32) && (decide (x.nd = 0) && (decide (x.part = 0) && (decide (x.epoch = 0) && (decide (x.steps.length = 0) && (decide (x.data.length = 0) && ((x.salt == z32) && (!x.gone && ((x.com == z32))))))))))))))) := by
  obtain ⟨kind, saga, seq, step, tr, bk, good, nd, part, epoch, tag, steps, data, salt, gone, com⟩ := x
  simp only at h
  subst h
  rw [Bool.eq_iff_iff]
  simp [rightB, rangesB, keptX, Rx.zero, wi]
  grind
end Plain
set_option maxHeartbeats 8000000 in
theorem f_rr4 (C : Array Value) (x : Rx) (w : World) (h : RecIn w C x) (hk : x.kind = 4) : Calls Tryd.prog 31 #[.agg C] w (BPost (rightB x) w) := by
  have HR := Lib.hid (right4 hk)
  have g0 := heap_alloc2_old w (.cells C 30) (.cells Z26 26)
  have g1 := heap_alloc2_new w (.cells C 30) (.cells Z26 26)
  have G0 := Lib.hid g0
  have G1 := Lib.hid g1
  have KA := Lib.hid (((Kept.refl (fun _ => False) w).alloc (.cells C 30)).alloc (.cells Z26 26))
  obtain ⟨sv, hs, a1, cs1, e1, hm1, -⟩ := h.st
  obtain ⟨dv, hd, a2, cs2, e2, hm2, -⟩ := h.da
  subst e1 e2
  have c0 := row_cell g0 h.c0
  rw [hk] at c0
  have HH := Lib.hid h
  have HHS := Lib.hid hs
  have HHD := Lib.hid hd
  have HKK := Lib.hid hk
  clear h hs hd g0 g1 hm1 hm2 hk
  go_enter Tryd.func31, Tryd.ntmps31
  go_upto_region 2 with (first | fail | (with_reducible refine alloc26 ?_))
  generalize (w.alloc (.cells C 30)).alloc (.cells Z26 26) = w1 at *
  go_quiet (fail)
  clear c0
  generalize hq : w1.drewN _ = w2
  have hkq : Kept (fun _ => False) w1 w2 := hq ▸ (Kept.refl _ w1).drewN _
  have g0 := hkq.row G0.out
  have g1 := hkq.row G1.out
  have h := HH.out
  have hk := HKK.out
  have hs := HHS.out
  have hd := HHD.out
  have K1 := Lib.hid (KA.out.trans hkq)
  clear hkq hq KA G0 G1 HH HKK HHS HHD
  have c0 := row_cell g0 h.c0
  rw [hk] at c0
  have c1 := row_cell g0 h.c1
  have c2 := row_cell g0 h.c2
  have c3 := row_cell g0 h.c3
  have c4 := row_cell g0 h.c4
  have c5 := row_cell g0 h.c5
  have c6 := row_cell g0 h.c6
  have c7 := row_cell g0 h.c7
  have c8 := row_cell g0 h.c8
  have c9 := row_cell g0 h.c9
  have c76 := row_cell g0 h.c76
  have c42 := row_cell g0 hs
  have c43 := row_cell g0 hd
  have HTL := Lib.hid h.tagl
  have HSL := Lib.hid h.saltl
  have HCL := Lib.hid h.coml
  have H10 := Lib.hid (range_at g0 h.tag)
  have H44 := Lib.hid (range_at g0 h.salt)
  have H77 := Lib.hid (range_at g0 h.com)
  have HZ := Lib.hid (range_z g1)
  have HT32 : Hid ((hbs x.tag).toArray.size = 32) := by show _ = _; simp [hbs, h.tagl]
  have HS32 : Hid ((hbs x.salt).toArray.size = 32) := by show _ = _; simp [hbs, h.saltl]
  have HC32 : Hid ((hbs x.com).toArray.size = 32) := by show _ = _; simp [hbs, h.coml]
  have HZ32 : Hid ((hbs z32).toArray.size = 32) := by rfl
  clear h hs hd g0 g1 hk
  obtain ⟨xkind, saga, seq, step, tr, bk, good, nd, part, epoch, tag, steps, data, salt, gone, com⟩ := x
  dsimp only at *
  generalize rightB _ = RB at *
  generalize steps.length = sl at *
  generalize data.length = dl at *
  go_upto_region 3 with fail
  cases hb0 : wi saga 0 11 with
  | false =>
    have E : Hid (RB = false) := by show _ = _; rw [HR.out, hb0]; simp
    have W0 := Lib.hid hb0
    clear hb0
    go_wp2_with fail
    refine (f_rin_is W0.out _).mono ?_
    rintro e w9 ⟨rfl, rfl⟩
    go_wp2_with fail
    go_ret
    exact BPost.mk E.out K1.out
  | true =>
    have W0 := Lib.hid hb0
    clear hb0
    go_wp2_with fail
    refine (f_rin_is W0.out _).mono ?_
    rintro e w9 ⟨rfl, rfl⟩
    go_upto_region 6 with fail
    cases hb1 : wi seq 1 400 with
    | false =>
      have E : Hid (RB = false) := by show _ = _; rw [HR.out, hb1]; simp
      have W1 := Lib.hid hb1
      clear hb1
      go_wp2_with fail
      refine (f_rin_is W1.out _).mono ?_
      rintro e w9 ⟨rfl, rfl⟩
      go_wp2_with fail
      go_ret
      exact BPost.mk E.out K1.out
    | true =>
      have W1 := Lib.hid hb1
      clear hb1
      go_wp2_with fail
      refine (f_rin_is W1.out _).mono ?_
      rintro e w9 ⟨rfl, rfl⟩
      go_upto_region 10 with fail
      cases hb2 : wi step 0 5 with
      | false =>
        have E : Hid (RB = false) := by show _ = _; rw [HR.out, hb2]; simp
        have W2 := Lib.hid hb2
        clear hb2
        go_wp2_with fail
        refine (f_rin_is W2.out _).mono ?_
        rintro e w9 ⟨rfl, rfl⟩
        go_wp2_with fail
        go_ret
        exact BPost.mk E.out K1.out
      | true =>
        have W2 := Lib.hid hb2
        clear hb2
        cases hb3 : wi tr 1 9 with
        | false =>
          have E : Hid (RB = false) := by show _ = _; rw [HR.out, hb3]; simp
          have W3 := Lib.hid hb3
          clear hb3
          go_wp2_with fail
          refine (f_rin_is W2.out _).mono ?_
          rintro e w9 ⟨rfl, rfl⟩
          go_wp2_with fail
          refine (f_rin_is W3.out _).mono ?_
          rintro e w9 ⟨rfl, rfl⟩
          go_wp2_with fail
          go_ret
          exact BPost.mk E.out K1.out
        | true =>
          have W3 := Lib.hid hb3
          clear hb3
          go_wp2_with fail
          refine (f_rin_is W2.out _).mono ?_
          rintro e w9 ⟨rfl, rfl⟩
          go_wp2_with fail
          refine (f_rin_is W3.out _).mono ?_
          rintro e w9 ⟨rfl, rfl⟩
          go_upto_region 12 with fail
          cases good with
          | true =>
            have E : Hid (RB = false) := by show _ = _; rw [HR.out]; simp
            go_wp2_with fail
            go_ret
            exact BPost.mk E.out K1.out
          | false =>
            cases hb5 : (tag == z32) with
            | false =>
              have E : Hid (RB = false) := by show _ = _; rw [HR.out, hb5]; simp
              have HTB := Lib.hid hb5
              clear hb5
              go_wp2_with (first | fail | ((with_reducible refine load26g (dst := some 97) (C := (hbs tag).toArray) (g := w.heap.size) (o := 10) (by kernel_rfl) ?_ H10.out HT32.out ?_); rfl) | ((with_reducible refine load26g (dst := some 98) (C := (hbs z32).toArray) (g := w.heap.size + 1) (o := 0) (by kernel_rfl) ?_ HZ.out HZ32.out ?_); rfl) | ((with_reducible refine neI26g (dst := some 99) (l := tag) (m := z32) (by kernel_rfl) ?_ ?_ HTL.out z32_len HTB.out ?_); rfl; rfl))
              go_ret
              exact BPost.mk E.out K1.out
            | true =>
              have HTB := Lib.hid hb5
              clear hb5
              cases hb6 : decide (nd = 0) with
              | false =>
                have E : Hid (RB = false) := by show _ = _; rw [HR.out, hb6]; simp
                have t6 : ¬ nd = 0 := of_decide_eq_false hb6
                go_wp2_with (first | fail | ((with_reducible refine load26g (dst := some 97) (C := (hbs tag).toArray) (g := w.heap.size) (o := 10) (by kernel_rfl) ?_ H10.out HT32.out ?_); rfl) | ((with_reducible refine load26g (dst := some 98) (C := (hbs z32).toArray) (g := w.heap.size + 1) (o := 0) (by kernel_rfl) ?_ HZ.out HZ32.out ?_); rfl) | ((with_reducible refine neI26g (dst := some 99) (l := tag) (m := z32) (by kernel_rfl) ?_ ?_ HTL.out z32_len HTB.out ?_); rfl; rfl))
                go_ret
                exact BPost.mk E.out K1.out
              | true =>
                obtain rfl : nd = 0 := of_decide_eq_true hb6
                clear hb6
                go_upto_region 16 with (first | fail | ((with_reducible refine load26g (dst := some 97) (C := (hbs tag).toArray) (g := w.heap.size) (o := 10) (by kernel_rfl) ?_ H10.out HT32.out ?_); rfl) | ((with_reducible refine load26g (dst := some 98) (C := (hbs z32).toArray) (g := w.heap.size + 1) (o := 0) (by kernel_rfl) ?_ HZ.out HZ32.out ?_); rfl) | ((with_reducible refine neI26g (dst := some 99) (l := tag) (m := z32) (by kernel_rfl) ?_ ?_ HTL.out z32_len HTB.out ?_); rfl; rfl))
                cases hb7 : decide (part = 0) with
                | false =>
                  have E : Hid (RB = false) := by show _ = _; rw [HR.out, hb7]; simp
                  have t7 : ¬ part = 0 := of_decide_eq_false hb7
                  go_wp2_with fail
                  go_ret
                  exact BPost.mk E.out K1.out
                | true =>
                  obtain rfl : part = 0 := of_decide_eq_true hb7
                  clear hb7
                  cases hb8 : decide (epoch = 0) with
                  | false =>
                    have E : Hid (RB = false) := by show _ = _; rw [HR.out, hb8]; simp
                    have t8 : ¬ epoch = 0 := of_decide_eq_false hb8
                    go_wp2_with fail
                    go_ret
                    exact BPost.mk E.out K1.out
                  | true =>
                    obtain rfl : epoch = 0 := of_decide_eq_true hb8
                    clear hb8
                    go_upto_region 19 with fail
                    cases hb9 : decide (sl = 0) with
                    | false =>
                      have E : Hid (RB = false) := by show _ = _; rw [HR.out, hb9]; simp
                      have t9 : ¬ sl = 0 := of_decide_eq_false hb9
                      have u9 : ¬ (sl : Int) = 0 := by omega
                      go_wp2_with fail
                      go_ret
                      exact BPost.mk E.out K1.out
                    | true =>
                      obtain rfl : sl = 0 := of_decide_eq_true hb9
                      clear hb9
                      cases hb10 : decide (dl = 0) with
                      | false =>
                        have E : Hid (RB = false) := by show _ = _; rw [HR.out, hb10]; simp
                        have t10 : ¬ dl = 0 := of_decide_eq_false hb10
                        have u10 : ¬ (dl : Int) = 0 := by omega
                        go_wp2_with fail
                        go_ret
                        exact BPost.mk E.out K1.out
                      | true =>
                        obtain rfl : dl = 0 := of_decide_eq_true hb10
                        clear hb10
                        cases hb11 : (salt == z32) with
                        | false =>
                          have E : Hid (RB = false) := by show _ = _; rw [HR.out, hb11]; simp
                          have HSB := Lib.hid hb11
                          clear hb11
                          go_wp2_with (first | fail | ((with_reducible refine load26g (dst := some 184) (C := (hbs salt).toArray) (g := w.heap.size) (o := 44) (by kernel_rfl) ?_ H44.out HS32.out ?_); rfl) | ((with_reducible refine load26g (dst := some 185) (C := (hbs z32).toArray) (g := w.heap.size + 1) (o := 0) (by kernel_rfl) ?_ HZ.out HZ32.out ?_); rfl) | ((with_reducible refine eqI26g (dst := some 186) (l := salt) (m := z32) (by kernel_rfl) ?_ ?_ HSL.out z32_len HSB.out ?_); rfl; rfl))
                          go_ret
                          exact BPost.mk E.out K1.out
                        | true =>
                          have HSB := Lib.hid hb11
                          clear hb11
                          cases gone with
                          | true =>
                            have E : Hid (RB = false) := by show _ = _; rw [HR.out]; simp
                            go_wp2_with (first | fail | ((with_reducible refine load26g (dst := some 184) (C := (hbs salt).toArray) (g := w.heap.size) (o := 44) (by kernel_rfl) ?_ H44.out HS32.out ?_); rfl) | ((with_reducible refine load26g (dst := some 185) (C := (hbs z32).toArray) (g := w.heap.size + 1) (o := 0) (by kernel_rfl) ?_ HZ.out HZ32.out ?_); rfl) | ((with_reducible refine eqI26g (dst := some 186) (l := salt) (m := z32) (by kernel_rfl) ?_ ?_ HSL.out z32_len HSB.out ?_); rfl; rfl))
                            go_ret
                            exact BPost.mk E.out K1.out
                          | false =>
                            cases hb13 : (com == z32) with
                            | false =>
                              have E : Hid (RB = false) := by show _ = _; rw [HR.out, hb13]; simp
                              have HCB := Lib.hid hb13
                              clear hb13
                              go_wp2_with (first | fail | ((with_reducible refine load26g (dst := some 184) (C := (hbs salt).toArray) (g := w.heap.size) (o := 44) (by kernel_rfl) ?_ H44.out HS32.out ?_); rfl) | ((with_reducible refine load26g (dst := some 185) (C := (hbs z32).toArray) (g := w.heap.size + 1) (o := 0) (by kernel_rfl) ?_ HZ.out HZ32.out ?_); rfl) | ((with_reducible refine eqI26g (dst := some 186) (l := salt) (m := z32) (by kernel_rfl) ?_ ?_ HSL.out z32_len HSB.out ?_); rfl; rfl) | ((with_reducible refine load26g (dst := some 195) (C := (hbs com).toArray) (g := w.heap.size) (o := 77) (by kernel_rfl) ?_ H77.out HC32.out ?_); rfl) | ((with_reducible refine load26g (dst := some 196) (C := (hbs z32).toArray) (g := w.heap.size + 1) (o := 0) (by kernel_rfl) ?_ HZ.out HZ32.out ?_); rfl) | ((with_reducible refine eqI26g (dst := some 197) (l := com) (m := z32) (by kernel_rfl) ?_ ?_ HCL.out z32_len HCB.out ?_); rfl; rfl))
                              go_ret
                              exact BPost.mk E.out K1.out
                            | true =>
                              have HCB := Lib.hid hb13
                              clear hb13
                              have E : Hid (RB = true) := by show _ = _; rw [HR.out]; simp [W0.out, W1.out, W2.out, W3.out, HTB.out, HSB.out, HCB.out]
                              go_wp2_with (first | fail | ((with_reducible refine load26g (dst := some 184) (C := (hbs salt).toArray) (g := w.heap.size) (o := 44) (by kernel_rfl) ?_ H44.out HS32.out ?_); rfl) | ((with_reducible refine load26g (dst := some 185) (C := (hbs z32).toArray) (g := w.heap.size + 1) (o := 0) (by kernel_rfl) ?_ HZ.out HZ32.out ?_); rfl) | ((with_reducible refine eqI26g (dst := some 186) (l := salt) (m := z32) (by kernel_rfl) ?_ ?_ HSL.out z32_len HSB.out ?_); rfl; rfl) | ((with_reducible refine load26g (dst := some 195) (C := (hbs com).toArray) (g := w.heap.size) (o := 77) (by kernel_rfl) ?_ H77.out HC32.out ?_); rfl) | ((with_reducible refine load26g (dst := some 196) (C := (hbs z32).toArray) (g := w.heap.size + 1) (o := 0) (by kernel_rfl) ?_ HZ.out HZ32.out ?_); rfl) | ((with_reducible refine eqI26g (dst := some 197) (l := com) (m := z32) (by kernel_rfl) ?_ ?_ HCL.out z32_len HCB.out ?_); rfl; rfl))
                              go_ret
                              exact BPost.mk E.out K1.out
end Go.Proofs.YtklmhegmombegaaDoor.Re
namespace Go.Proofs.YtklmhegmombegaaDoor.Re
open Go Go.RowKit Go.Proofs.YtklmhegmombegaaDoor Go.Proofs.YtklmhegmombegaaDoor.Re.Plain
namespace Plain
theorem right6 {x : Rx} (h : x.kind = 6) : rightB x = (wi x.saga 0 11 && (decide (x.saga = 0) && (decide (x.seq = 0) && (decide (x.step = 0) && (decide (x.tr = 0) && (!x.bk && (!x.good && ((x.tag == z32) && (decide (x.nd = 0) && (wi x.part 0 3 && (wi x.epoch 1 400 && (decide (x.steps.length = 0) && (decide (x.data.length = 0) && ((x.salt == z32) && (!x.gone && ((x.com == z32))))))))))))))))) := by
  obtain ⟨kind, saga, seq, step, tr, bk, good, nd, part, epoch, tag, steps, data, salt, gone, com⟩ := x
  simp only at h
  subst h
  rw [Bool.eq_iff_iff]
  simp [rightB, rangesB, keptX, Rx.zero, wi]
  grind
end Plain
set_option maxHeartbeats 8000000 in
theorem f_rr6 (C : Array Value) (x : Rx) (w : World) (h : RecIn w C x) (hk : x.kind = 6) : Calls Tryd.prog 31 #[.agg C] w (BPost (rightB x) w) := by
  have HR := Lib.hid (right6 hk)
  have g0 := heap_alloc2_old w (.cells C 30) (.cells Z26 26)
  have g1 := heap_alloc2_new w (.cells C 30) (.cells Z26 26)
  have G0 := Lib.hid g0
  have G1 := Lib.hid g1
  have KA := Lib.hid (((Kept.refl (fun _ => False) w).alloc (.cells C 30)).alloc (.cells Z26 26))
  obtain ⟨sv, hs, a1, cs1, e1, hm1, -⟩ := h.st
  obtain ⟨dv, hd, a2, cs2, e2, hm2, -⟩ := h.da
  subst e1 e2
  have c0 := row_cell g0 h.c0
  rw [hk] at c0
  have HH := Lib.hid h
  have HHS := Lib.hid hs
  have HHD := Lib.hid hd
  have HKK := Lib.hid hk
  clear h hs hd g0 g1 hm1 hm2 hk
  go_enter Tryd.func31, Tryd.ntmps31
  go_upto_region 2 with (first | fail | (with_reducible refine alloc26 ?_))
  generalize (w.alloc (.cells C 30)).alloc (.cells Z26 26) = w1 at *
  go_quiet (fail)
  clear c0
  generalize hq : w1.drewN _ = w2
  have hkq : Kept (fun _ => False) w1 w2 := hq ▸ (Kept.refl _ w1).drewN _
  have g0 := hkq.row G0.out
  have g1 := hkq.row G1.out
  have h := HH.out
  have hk := HKK.out
  have hs := HHS.out
  have hd := HHD.out
  have K1 := Lib.hid (KA.out.trans hkq)
  clear hkq hq KA G0 G1 HH HKK HHS HHD
  have c0 := row_cell g0 h.c0
  rw [hk] at c0
  have c1 := row_cell g0 h.c1
  have c2 := row_cell g0 h.c2
  have c3 := row_cell g0 h.c3
  have c4 := row_cell g0 h.c4
  have c5 := row_cell g0 h.c5
  have c6 := row_cell g0 h.c6
  have c7 := row_cell g0 h.c7
  have c8 := row_cell g0 h.c8
  have c9 := row_cell g0 h.c9
  have c76 := row_cell g0 h.c76
  have c42 := row_cell g0 hs
  have c43 := row_cell g0 hd
  have HTL := Lib.hid h.tagl
  have HSL := Lib.hid h.saltl
  have HCL := Lib.hid h.coml
  have H10 := Lib.hid (range_at g0 h.tag)
  have H44 := Lib.hid (range_at g0 h.salt)
  have H77 := Lib.hid (range_at g0 h.com)
  have HZ := Lib.hid (range_z g1)
  have HT32 : Hid ((hbs x.tag).toArray.size = 32) := by show _ = _; simp [hbs, h.tagl]
  have HS32 : Hid ((hbs x.salt).toArray.size = 32) := by show _ = _; simp [hbs, h.saltl]
  have HC32 : Hid ((hbs x.com).toArray.size = 32) := by show _ = _; simp [hbs, h.coml]
  have HZ32 : Hid ((hbs z32).toArray.size = 32) := by rfl
  clear h hs hd g0 g1 hk
  obtain ⟨xkind, saga, seq, step, tr, bk, good, nd, part, epoch, tag, steps, data, salt, gone, com⟩ := x
  dsimp only at *
  generalize rightB _ = RB at *
  generalize steps.length = sl at *
  generalize data.length = dl at *
  go_upto_region 3 with fail
  cases hb0 : wi saga 0 11 with
  | false =>
    have E : Hid (RB = false) := by show _ = _; rw [HR.out, hb0]; simp
    have W0 := Lib.hid hb0
    clear hb0
    go_wp2_with fail
    refine (f_rin_is W0.out _).mono ?_
    rintro e w9 ⟨rfl, rfl⟩
    go_wp2_with fail
    go_ret
    exact BPost.mk E.out K1.out
  | true =>
    have W0 := Lib.hid hb0
    clear hb0
    cases hb1 : decide (saga = 0) with
    | false =>
      have E : Hid (RB = false) := by show _ = _; rw [HR.out, hb1]; simp
      have t1 : ¬ saga = 0 := of_decide_eq_false hb1
      go_wp2_with fail
      refine (f_rin_is W0.out _).mono ?_
      rintro e w9 ⟨rfl, rfl⟩
      go_wp2_with fail
      go_ret
      exact BPost.mk E.out K1.out
    | true =>
      obtain rfl : saga = 0 := of_decide_eq_true hb1
      clear hb1
      go_wp2_with fail
      refine (f_rin_is W0.out _).mono ?_
      rintro e w9 ⟨rfl, rfl⟩
      go_upto_region 8 with fail
      cases hb2 : decide (seq = 0) with
      | false =>
        have E : Hid (RB = false) := by show _ = _; rw [HR.out, hb2]; simp
        have t2 : ¬ seq = 0 := of_decide_eq_false hb2
        go_wp2_with fail
        go_ret
        exact BPost.mk E.out K1.out
      | true =>
        obtain rfl : seq = 0 := of_decide_eq_true hb2
        clear hb2
        go_upto_region 10 with fail
        cases hb3 : decide (step = 0) with
        | false =>
          have E : Hid (RB = false) := by show _ = _; rw [HR.out, hb3]; simp
          have t3 : ¬ step = 0 := of_decide_eq_false hb3
          go_wp2_with fail
          go_ret
          exact BPost.mk E.out K1.out
        | true =>
          obtain rfl : step = 0 := of_decide_eq_true hb3
          clear hb3
          cases hb4 : decide (tr = 0) with
          | false =>
            have E : Hid (RB = false) := by show _ = _; rw [HR.out, hb4]; simp
            have t4 : ¬ tr = 0 := of_decide_eq_false hb4
            go_wp2_with fail
            go_ret
            exact BPost.mk E.out K1.out
          | true =>
            obtain rfl : tr = 0 := of_decide_eq_true hb4
            clear hb4
            cases bk with
            | true =>
              have E : Hid (RB = false) := by show _ = _; rw [HR.out]; simp
              go_wp2_with fail
              go_ret
              exact BPost.mk E.out K1.out
            | false =>
              go_upto_region 12 with fail
              cases good with
              | true =>
                have E : Hid (RB = false) := by show _ = _; rw [HR.out]; simp
                go_wp2_with fail
                go_ret
                exact BPost.mk E.out K1.out
              | false =>
                cases hb7 : (tag == z32) with
                | false =>
                  have E : Hid (RB = false) := by show _ = _; rw [HR.out, hb7]; simp
                  have HTB := Lib.hid hb7
                  clear hb7
                  go_wp2_with (first | fail | ((with_reducible refine load26g (dst := some 97) (C := (hbs tag).toArray) (g := w.heap.size) (o := 10) (by kernel_rfl) ?_ H10.out HT32.out ?_); rfl) | ((with_reducible refine load26g (dst := some 98) (C := (hbs z32).toArray) (g := w.heap.size + 1) (o := 0) (by kernel_rfl) ?_ HZ.out HZ32.out ?_); rfl) | ((with_reducible refine neI26g (dst := some 99) (l := tag) (m := z32) (by kernel_rfl) ?_ ?_ HTL.out z32_len HTB.out ?_); rfl; rfl))
                  go_ret
                  exact BPost.mk E.out K1.out
                | true =>
                  have HTB := Lib.hid hb7
                  clear hb7
                  cases hb8 : decide (nd = 0) with
                  | false =>
                    have E : Hid (RB = false) := by show _ = _; rw [HR.out, hb8]; simp
                    have t8 : ¬ nd = 0 := of_decide_eq_false hb8
                    go_wp2_with (first | fail | ((with_reducible refine load26g (dst := some 97) (C := (hbs tag).toArray) (g := w.heap.size) (o := 10) (by kernel_rfl) ?_ H10.out HT32.out ?_); rfl) | ((with_reducible refine load26g (dst := some 98) (C := (hbs z32).toArray) (g := w.heap.size + 1) (o := 0) (by kernel_rfl) ?_ HZ.out HZ32.out ?_); rfl) | ((with_reducible refine neI26g (dst := some 99) (l := tag) (m := z32) (by kernel_rfl) ?_ ?_ HTL.out z32_len HTB.out ?_); rfl; rfl))
                    go_ret
                    exact BPost.mk E.out K1.out
                  | true =>
                    obtain rfl : nd = 0 := of_decide_eq_true hb8
                    clear hb8
                    go_upto_region 14 with (first | fail | ((with_reducible refine load26g (dst := some 97) (C := (hbs tag).toArray) (g := w.heap.size) (o := 10) (by kernel_rfl) ?_ H10.out HT32.out ?_); rfl) | ((with_reducible refine load26g (dst := some 98) (C := (hbs z32).toArray) (g := w.heap.size + 1) (o := 0) (by kernel_rfl) ?_ HZ.out HZ32.out ?_); rfl) | ((with_reducible refine neI26g (dst := some 99) (l := tag) (m := z32) (by kernel_rfl) ?_ ?_ HTL.out z32_len HTB.out ?_); rfl; rfl))
                    cases hb9 : wi part 0 3 with
                    | false =>
                      have E : Hid (RB = false) := by show _ = _; rw [HR.out, hb9]; simp
                      have W9 := Lib.hid hb9
                      clear hb9
                      go_wp2_with fail
                      refine (f_rin_is W9.out _).mono ?_
                      rintro e w9 ⟨rfl, rfl⟩
                      go_wp2_with fail
                      go_ret
                      exact BPost.mk E.out K1.out
                    | true =>
                      have W9 := Lib.hid hb9
                      clear hb9
                      cases hb10 : wi epoch 1 400 with
                      | false =>
                        have E : Hid (RB = false) := by show _ = _; rw [HR.out, hb10]; simp
                        have W10 := Lib.hid hb10
                        clear hb10
                        go_wp2_with fail
                        refine (f_rin_is W9.out _).mono ?_
                        rintro e w9 ⟨rfl, rfl⟩
                        go_wp2_with fail
                        refine (f_rin_is W10.out _).mono ?_
                        rintro e w9 ⟨rfl, rfl⟩
                        go_wp2_with fail
                        go_ret
                        exact BPost.mk E.out K1.out
                      | true =>
                        have W10 := Lib.hid hb10
                        clear hb10
                        go_wp2_with fail
                        refine (f_rin_is W9.out _).mono ?_
                        rintro e w9 ⟨rfl, rfl⟩
                        go_wp2_with fail
                        refine (f_rin_is W10.out _).mono ?_
                        rintro e w9 ⟨rfl, rfl⟩
                        go_upto_region 19 with fail
                        cases hb11 : decide (sl = 0) with
                        | false =>
                          have E : Hid (RB = false) := by show _ = _; rw [HR.out, hb11]; simp
                          have t11 : ¬ sl = 0 := of_decide_eq_false hb11
                          have u11 : ¬ (sl : Int) = 0 := by omega
                          go_wp2_with fail
                          go_ret
                          exact BPost.mk E.out K1.out
                        | true =>
                          obtain rfl : sl = 0 := of_decide_eq_true hb11
                          clear hb11
                          cases hb12 : decide (dl = 0) with
                          | false =>
                            have E : Hid (RB = false) := by show _ = _; rw [HR.out, hb12]; simp
                            have t12 : ¬ dl = 0 := of_decide_eq_false hb12
                            have u12 : ¬ (dl : Int) = 0 := by omega
                            go_wp2_with fail
                            go_ret
                            exact BPost.mk E.out K1.out
                          | true =>
                            obtain rfl : dl = 0 := of_decide_eq_true hb12
                            clear hb12
                            cases hb13 : (salt == z32) with
                            | false =>
                              have E : Hid (RB = false) := by show _ = _; rw [HR.out, hb13]; simp
                              have HSB := Lib.hid hb13
                              clear hb13
                              go_wp2_with (first | fail | ((with_reducible refine load26g (dst := some 184) (C := (hbs salt).toArray) (g := w.heap.size) (o := 44) (by kernel_rfl) ?_ H44.out HS32.out ?_); rfl) | ((with_reducible refine load26g (dst := some 185) (C := (hbs z32).toArray) (g := w.heap.size + 1) (o := 0) (by kernel_rfl) ?_ HZ.out HZ32.out ?_); rfl) | ((with_reducible refine eqI26g (dst := some 186) (l := salt) (m := z32) (by kernel_rfl) ?_ ?_ HSL.out z32_len HSB.out ?_); rfl; rfl))
                              go_ret
                              exact BPost.mk E.out K1.out
                            | true =>
                              have HSB := Lib.hid hb13
                              clear hb13
                              cases gone with
                              | true =>
                                have E : Hid (RB = false) := by show _ = _; rw [HR.out]; simp
                                go_wp2_with (first | fail | ((with_reducible refine load26g (dst := some 184) (C := (hbs salt).toArray) (g := w.heap.size) (o := 44) (by kernel_rfl) ?_ H44.out HS32.out ?_); rfl) | ((with_reducible refine load26g (dst := some 185) (C := (hbs z32).toArray) (g := w.heap.size + 1) (o := 0) (by kernel_rfl) ?_ HZ.out HZ32.out ?_); rfl) | ((with_reducible refine eqI26g (dst := some 186) (l := salt) (m := z32) (by kernel_rfl) ?_ ?_ HSL.out z32_len HSB.out ?_); rfl; rfl))
                                go_ret
                                exact BPost.mk E.out K1.out
                              | false =>
                                cases hb15 : (com == z32) with
                                | false =>
                                  have E : Hid (RB = false) := by show _ = _; rw [HR.out, hb15]; simp
                                  have HCB := Lib.hid hb15
                                  clear hb15
                                  go_wp2_with (first | fail | ((with_reducible refine load26g (dst := some 184) (C := (hbs salt).toArray) (g := w.heap.size) (o := 44) (by kernel_rfl) ?_ H44.out HS32.out ?_); rfl) | ((with_reducible refine load26g (dst := some 185) (C := (hbs z32).toArray) (g := w.heap.size + 1) (o := 0) (by kernel_rfl) ?_ HZ.out HZ32.out ?_); rfl) | ((with_reducible refine eqI26g (dst := some 186) (l := salt) (m := z32) (by kernel_rfl) ?_ ?_ HSL.out z32_len HSB.out ?_); rfl; rfl) | ((with_reducible refine load26g (dst := some 195) (C := (hbs com).toArray) (g := w.heap.size) (o := 77) (by kernel_rfl) ?_ H77.out HC32.out ?_); rfl) | ((with_reducible refine load26g (dst := some 196) (C := (hbs z32).toArray) (g := w.heap.size + 1) (o := 0) (by kernel_rfl) ?_ HZ.out HZ32.out ?_); rfl) | ((with_reducible refine eqI26g (dst := some 197) (l := com) (m := z32) (by kernel_rfl) ?_ ?_ HCL.out z32_len HCB.out ?_); rfl; rfl))
                                  go_ret
                                  exact BPost.mk E.out K1.out
                                | true =>
                                  have HCB := Lib.hid hb15
                                  clear hb15
                                  have E : Hid (RB = true) := by show _ = _; rw [HR.out]; simp [W0.out, HTB.out, W9.out, W10.out, HSB.out, HCB.out]
                                  go_wp2_with (first | fail | ((with_reducible refine load26g (dst := some 184) (C := (hbs salt).toArray) (g := w.heap.size) (o := 44) (by kernel_rfl) ?_ H44.out HS32.out ?_); rfl) | ((with_reducible refine load26g (dst := some 185) (C := (hbs z32).toArray) (g := w.heap.size + 1) (o := 0) (by kernel_rfl) ?_ HZ.out HZ32.out ?_); rfl) | ((with_reducible refine eqI26g (dst := some 186) (l := salt) (m := z32) (by kernel_rfl) ?_ ?_ HSL.out z32_len HSB.out ?_); rfl; rfl) | ((with_reducible refine load26g (dst := some 195) (C := (hbs com).toArray) (g := w.heap.size) (o := 77) (by kernel_rfl) ?_ H77.out HC32.out ?_); rfl) | ((with_reducible refine load26g (dst := some 196) (C := (hbs z32).toArray) (g := w.heap.size + 1) (o := 0) (by kernel_rfl) ?_ HZ.out HZ32.out ?_); rfl) | ((with_reducible refine eqI26g (dst := some 197) (l := com) (m := z32) (by kernel_rfl) ?_ ?_ HCL.out z32_len HCB.out ?_); rfl; rfl))
                                  go_ret
                                  exact BPost.mk E.out K1.out
end Go.Proofs.YtklmhegmombegaaDoor.Re
namespace Go.Proofs.YtklmhegmombegaaDoor.Re
open Go Go.RowKit Go.Proofs.YtklmhegmombegaaDoor Go.Proofs.YtklmhegmombegaaDoor.Re.Plain
namespace Plain
theorem right5 {x : Rx} (h : x.kind = 5) : rightB x = (wi x.saga 0 11 && (wi x.seq 1 400 && (decide (x.step = 0) && (decide (x.tr = 0) && (!x.bk && (!x.good && ((x.tag == z32) && (wi x.nd 2 4 && (decide (x.part = 0) && (decide (x.epoch = 0) && (decide (x.steps.length = 0) && (decide (x.data.length = 0) && ((x.salt == z32) && (!x.gone && ((x.com == z32)))))))))))))))) := by
  obtain ⟨kind, saga, seq, step, tr, bk, good, nd, part, epoch, tag, steps, data, salt, gone, com⟩ := x
  simp only at h
  subst h
  rw [Bool.eq_iff_iff]
  simp [rightB, rangesB, keptX, Rx.zero, wi]
  grind
end Plain
set_option maxHeartbeats 8000000 in
theorem f_rr5 (C : Array Value) (x : Rx) (w : World) (h : RecIn w C x) (hk : x.kind = 5) : Calls Tryd.prog 31 #[.agg C] w (BPost (rightB x) w) := by
  have HR := Lib.hid (right5 hk)
  have g0 := heap_alloc2_old w (.cells C 30) (.cells Z26 26)
  have g1 := heap_alloc2_new w (.cells C 30) (.cells Z26 26)
  have G0 := Lib.hid g0
  have G1 := Lib.hid g1
  have KA := Lib.hid (((Kept.refl (fun _ => False) w).alloc (.cells C 30)).alloc (.cells Z26 26))
  obtain ⟨sv, hs, a1, cs1, e1, hm1, -⟩ := h.st
  obtain ⟨dv, hd, a2, cs2, e2, hm2, -⟩ := h.da
  subst e1 e2
  have c0 := row_cell g0 h.c0
  rw [hk] at c0
  have HH := Lib.hid h
  have HHS := Lib.hid hs
  have HHD := Lib.hid hd
  have HKK := Lib.hid hk
  clear h hs hd g0 g1 hm1 hm2 hk
  go_enter Tryd.func31, Tryd.ntmps31
  go_upto_region 2 with (first | fail | (with_reducible refine alloc26 ?_))
  generalize (w.alloc (.cells C 30)).alloc (.cells Z26 26) = w1 at *
  go_quiet (fail)
  clear c0
  generalize hq : w1.drewN _ = w2
  have hkq : Kept (fun _ => False) w1 w2 := hq ▸ (Kept.refl _ w1).drewN _
  have g0 := hkq.row G0.out
  have g1 := hkq.row G1.out
  have h := HH.out
  have hk := HKK.out
  have hs := HHS.out
  have hd := HHD.out
  have K1 := Lib.hid (KA.out.trans hkq)
  clear hkq hq KA G0 G1 HH HKK HHS HHD
  have c0 := row_cell g0 h.c0
  rw [hk] at c0
  have c1 := row_cell g0 h.c1
  have c2 := row_cell g0 h.c2
  have c3 := row_cell g0 h.c3
  have c4 := row_cell g0 h.c4
  have c5 := row_cell g0 h.c5
  have c6 := row_cell g0 h.c6
  have c7 := row_cell g0 h.c7
  have c8 := row_cell g0 h.c8
  have c9 := row_cell g0 h.c9
  have c76 := row_cell g0 h.c76
  have c42 := row_cell g0 hs
  have c43 := row_cell g0 hd
  have HTL := Lib.hid h.tagl
  have HSL := Lib.hid h.saltl
  have HCL := Lib.hid h.coml
  have H10 := Lib.hid (range_at g0 h.tag)
  have H44 := Lib.hid (range_at g0 h.salt)
  have H77 := Lib.hid (range_at g0 h.com)
  have HZ := Lib.hid (range_z g1)
  have HT32 : Hid ((hbs x.tag).toArray.size = 32) := by show _ = _; simp [hbs, h.tagl]
  have HS32 : Hid ((hbs x.salt).toArray.size = 32) := by show _ = _; simp [hbs, h.saltl]
  have HC32 : Hid ((hbs x.com).toArray.size = 32) := by show _ = _; simp [hbs, h.coml]
  have HZ32 : Hid ((hbs z32).toArray.size = 32) := by rfl
  clear h hs hd g0 g1 hk
  obtain ⟨xkind, saga, seq, step, tr, bk, good, nd, part, epoch, tag, steps, data, salt, gone, com⟩ := x
  dsimp only at *
  generalize rightB _ = RB at *
  generalize steps.length = sl at *
  generalize data.length = dl at *
  go_upto_region 3 with fail
  cases hb0 : wi saga 0 11 with
  | false =>
    have E : Hid (RB = false) := by show _ = _; rw [HR.out, hb0]; simp
    have W0 := Lib.hid hb0
    clear hb0
    go_wp2_with fail
    refine (f_rin_is W0.out _).mono ?_
    rintro e w9 ⟨rfl, rfl⟩
    go_wp2_with fail
    go_ret
    exact BPost.mk E.out K1.out
  | true =>
    have W0 := Lib.hid hb0
    clear hb0
    go_wp2_with fail
    refine (f_rin_is W0.out _).mono ?_
    rintro e w9 ⟨rfl, rfl⟩
    go_upto_region 6 with fail
    cases hb1 : wi seq 1 400 with
    | false =>
      have E : Hid (RB = false) := by show _ = _; rw [HR.out, hb1]; simp
      have W1 := Lib.hid hb1
      clear hb1
      go_wp2_with fail
      refine (f_rin_is W1.out _).mono ?_
      rintro e w9 ⟨rfl, rfl⟩
      go_wp2_with fail
      go_ret
      exact BPost.mk E.out K1.out
    | true =>
      have W1 := Lib.hid hb1
      clear hb1
      go_wp2_with fail
      refine (f_rin_is W1.out _).mono ?_
      rintro e w9 ⟨rfl, rfl⟩
      go_upto_region 10 with fail
      cases hb2 : decide (step = 0) with
      | false =>
        have E : Hid (RB = false) := by show _ = _; rw [HR.out, hb2]; simp
        have t2 : ¬ step = 0 := of_decide_eq_false hb2
        go_wp2_with fail
        go_ret
        exact BPost.mk E.out K1.out
      | true =>
        obtain rfl : step = 0 := of_decide_eq_true hb2
        clear hb2
        cases hb3 : decide (tr = 0) with
        | false =>
          have E : Hid (RB = false) := by show _ = _; rw [HR.out, hb3]; simp
          have t3 : ¬ tr = 0 := of_decide_eq_false hb3
          go_wp2_with fail
          go_ret
          exact BPost.mk E.out K1.out
        | true =>
          obtain rfl : tr = 0 := of_decide_eq_true hb3
          clear hb3
          cases bk with
          | true =>
            have E : Hid (RB = false) := by show _ = _; rw [HR.out]; simp
            go_wp2_with fail
            go_ret
            exact BPost.mk E.out K1.out
          | false =>
            go_upto_region 12 with fail
            cases good with
            | true =>
              have E : Hid (RB = false) := by show _ = _; rw [HR.out]; simp
              go_wp2_with fail
              go_ret
              exact BPost.mk E.out K1.out
            | false =>
              cases hb6 : (tag == z32) with
              | false =>
                have E : Hid (RB = false) := by show _ = _; rw [HR.out, hb6]; simp
                have HTB := Lib.hid hb6
                clear hb6
                go_wp2_with (first | fail | ((with_reducible refine load26g (dst := some 97) (C := (hbs tag).toArray) (g := w.heap.size) (o := 10) (by kernel_rfl) ?_ H10.out HT32.out ?_); rfl) | ((with_reducible refine load26g (dst := some 98) (C := (hbs z32).toArray) (g := w.heap.size + 1) (o := 0) (by kernel_rfl) ?_ HZ.out HZ32.out ?_); rfl) | ((with_reducible refine neI26g (dst := some 99) (l := tag) (m := z32) (by kernel_rfl) ?_ ?_ HTL.out z32_len HTB.out ?_); rfl; rfl))
                go_ret
                exact BPost.mk E.out K1.out
              | true =>
                have HTB := Lib.hid hb6
                clear hb6
                cases hb7 : wi nd 2 4 with
                | false =>
                  have E : Hid (RB = false) := by show _ = _; rw [HR.out, hb7]; simp
                  have W7 := Lib.hid hb7
                  clear hb7
                  go_wp2_with (first | fail | ((with_reducible refine load26g (dst := some 97) (C := (hbs tag).toArray) (g := w.heap.size) (o := 10) (by kernel_rfl) ?_ H10.out HT32.out ?_); rfl) | ((with_reducible refine load26g (dst := some 98) (C := (hbs z32).toArray) (g := w.heap.size + 1) (o := 0) (by kernel_rfl) ?_ HZ.out HZ32.out ?_); rfl) | ((with_reducible refine neI26g (dst := some 99) (l := tag) (m := z32) (by kernel_rfl) ?_ ?_ HTL.out z32_len HTB.out ?_); rfl; rfl))
                  refine (f_rin_is W7.out _).mono ?_
                  rintro e w9 ⟨rfl, rfl⟩
                  go_wp2_with (first | fail | ((with_reducible refine load26g (dst := some 97) (C := (hbs tag).toArray) (g := w.heap.size) (o := 10) (by kernel_rfl) ?_ H10.out HT32.out ?_); rfl) | ((with_reducible refine load26g (dst := some 98) (C := (hbs z32).toArray) (g := w.heap.size + 1) (o := 0) (by kernel_rfl) ?_ HZ.out HZ32.out ?_); rfl) | ((with_reducible refine neI26g (dst := some 99) (l := tag) (m := z32) (by kernel_rfl) ?_ ?_ HTL.out z32_len HTB.out ?_); rfl; rfl))
                  go_ret
                  exact BPost.mk E.out K1.out
                | true =>
                  have W7 := Lib.hid hb7
                  clear hb7
                  go_wp2_with (first | fail | ((with_reducible refine load26g (dst := some 97) (C := (hbs tag).toArray) (g := w.heap.size) (o := 10) (by kernel_rfl) ?_ H10.out HT32.out ?_); rfl) | ((with_reducible refine load26g (dst := some 98) (C := (hbs z32).toArray) (g := w.heap.size + 1) (o := 0) (by kernel_rfl) ?_ HZ.out HZ32.out ?_); rfl) | ((with_reducible refine neI26g (dst := some 99) (l := tag) (m := z32) (by kernel_rfl) ?_ ?_ HTL.out z32_len HTB.out ?_); rfl; rfl))
                  refine (f_rin_is W7.out _).mono ?_
                  rintro e w9 ⟨rfl, rfl⟩
                  go_upto_region 16 with (first | fail | ((with_reducible refine load26g (dst := some 97) (C := (hbs tag).toArray) (g := w.heap.size) (o := 10) (by kernel_rfl) ?_ H10.out HT32.out ?_); rfl) | ((with_reducible refine load26g (dst := some 98) (C := (hbs z32).toArray) (g := w.heap.size + 1) (o := 0) (by kernel_rfl) ?_ HZ.out HZ32.out ?_); rfl) | ((with_reducible refine neI26g (dst := some 99) (l := tag) (m := z32) (by kernel_rfl) ?_ ?_ HTL.out z32_len HTB.out ?_); rfl; rfl))
                  cases hb8 : decide (part = 0) with
                  | false =>
                    have E : Hid (RB = false) := by show _ = _; rw [HR.out, hb8]; simp
                    have t8 : ¬ part = 0 := of_decide_eq_false hb8
                    go_wp2_with fail
                    go_ret
                    exact BPost.mk E.out K1.out
                  | true =>
                    obtain rfl : part = 0 := of_decide_eq_true hb8
                    clear hb8
                    cases hb9 : decide (epoch = 0) with
                    | false =>
                      have E : Hid (RB = false) := by show _ = _; rw [HR.out, hb9]; simp
                      have t9 : ¬ epoch = 0 := of_decide_eq_false hb9
                      go_wp2_with fail
                      go_ret
                      exact BPost.mk E.out K1.out
                    | true =>
                      obtain rfl : epoch = 0 := of_decide_eq_true hb9
                      clear hb9
                      go_upto_region 19 with fail
                      cases hb10 : decide (sl = 0) with
                      | false =>
                        have E : Hid (RB = false) := by show _ = _; rw [HR.out, hb10]; simp
                        have t10 : ¬ sl = 0 := of_decide_eq_false hb10
                        have u10 : ¬ (sl : Int) = 0 := by omega
                        go_wp2_with fail
                        go_ret
                        exact BPost.mk E.out K1.out
                      | true =>
                        obtain rfl : sl = 0 := of_decide_eq_true hb10
                        clear hb10
                        cases hb11 : decide (dl = 0) with
                        | false =>
                          have E : Hid (RB = false) := by show _ = _; rw [HR.out, hb11]; simp
                          have t11 : ¬ dl = 0 := of_decide_eq_false hb11
                          have u11 : ¬ (dl : Int) = 0 := by omega
                          go_wp2_with fail
                          go_ret
                          exact BPost.mk E.out K1.out
                        | true =>
                          obtain rfl : dl = 0 := of_decide_eq_true hb11
                          clear hb11
                          cases hb12 : (salt == z32) with
                          | false =>
                            have E : Hid (RB = false) := by show _ = _; rw [HR.out, hb12]; simp
                            have HSB := Lib.hid hb12
                            clear hb12
                            go_wp2_with (first | fail | ((with_reducible refine load26g (dst := some 184) (C := (hbs salt).toArray) (g := w.heap.size) (o := 44) (by kernel_rfl) ?_ H44.out HS32.out ?_); rfl) | ((with_reducible refine load26g (dst := some 185) (C := (hbs z32).toArray) (g := w.heap.size + 1) (o := 0) (by kernel_rfl) ?_ HZ.out HZ32.out ?_); rfl) | ((with_reducible refine eqI26g (dst := some 186) (l := salt) (m := z32) (by kernel_rfl) ?_ ?_ HSL.out z32_len HSB.out ?_); rfl; rfl))
                            go_ret
                            exact BPost.mk E.out K1.out
                          | true =>
                            have HSB := Lib.hid hb12
                            clear hb12
                            cases gone with
                            | true =>
                              have E : Hid (RB = false) := by show _ = _; rw [HR.out]; simp
                              go_wp2_with (first | fail | ((with_reducible refine load26g (dst := some 184) (C := (hbs salt).toArray) (g := w.heap.size) (o := 44) (by kernel_rfl) ?_ H44.out HS32.out ?_); rfl) | ((with_reducible refine load26g (dst := some 185) (C := (hbs z32).toArray) (g := w.heap.size + 1) (o := 0) (by kernel_rfl) ?_ HZ.out HZ32.out ?_); rfl) | ((with_reducible refine eqI26g (dst := some 186) (l := salt) (m := z32) (by kernel_rfl) ?_ ?_ HSL.out z32_len HSB.out ?_); rfl; rfl))
                              go_ret
                              exact BPost.mk E.out K1.out
                            | false =>
                              cases hb14 : (com == z32) with
                              | false =>
                                have E : Hid (RB = false) := by show _ = _; rw [HR.out, hb14]; simp
                                have HCB := Lib.hid hb14
                                clear hb14
                                go_wp2_with (first | fail | ((with_reducible refine load26g (dst := some 184) (C := (hbs salt).toArray) (g := w.heap.size) (o := 44) (by kernel_rfl) ?_ H44.out HS32.out ?_); rfl) | ((with_reducible refine load26g (dst := some 185) (C := (hbs z32).toArray) (g := w.heap.size + 1) (o := 0) (by kernel_rfl) ?_ HZ.out HZ32.out ?_); rfl) | ((with_reducible refine eqI26g (dst := some 186) (l := salt) (m := z32) (by kernel_rfl) ?_ ?_ HSL.out z32_len HSB.out ?_); rfl; rfl) | ((with_reducible refine load26g (dst := some 195) (C := (hbs com).toArray) (g := w.heap.size) (o := 77) (by kernel_rfl) ?_ H77.out HC32.out ?_); rfl) | ((with_reducible refine load26g (dst := some 196) (C := (hbs z32).toArray) (g := w.heap.size + 1) (o := 0) (by kernel_rfl) ?_ HZ.out HZ32.out ?_); rfl) | ((with_reducible refine eqI26g (dst := some 197) (l := com) (m := z32) (by kernel_rfl) ?_ ?_ HCL.out z32_len HCB.out ?_); rfl; rfl))
                                go_ret
                                exact BPost.mk E.out K1.out
                              | true =>
                                have HCB := Lib.hid hb14
                                clear hb14
                                have E : Hid (RB = true) := by show _ = _; rw [HR.out]; simp [W0.out, W1.out, HTB.out, W7.out, HSB.out, HCB.out]
                                go_wp2_with (first | fail | ((with_reducible refine load26g (dst := some 184) (C := (hbs salt).toArray) (g := w.heap.size) (o := 44) (by kernel_rfl) ?_ H44.out HS32.out ?_); rfl) | ((with_reducible refine load26g (dst := some 185) (C := (hbs z32).toArray) (g := w.heap.size + 1) (o := 0) (by kernel_rfl) ?_ HZ.out HZ32.out ?_); rfl) | ((with_reducible refine eqI26g (dst := some 186) (l := salt) (m := z32) (by kernel_rfl) ?_ ?_ HSL.out z32_len HSB.out ?_); rfl; rfl) | ((with_reducible refine load26g (dst := some 195) (C := (hbs com).toArray) (g := w.heap.size) (o := 77) (by kernel_rfl) ?_ H77.out HC32.out ?_); rfl) | ((with_reducible refine load26g (dst := some 196) (C := (hbs z32).toArray) (g := w.heap.size + 1) (o := 0) (by kernel_rfl) ?_ HZ.out HZ32.out ?_); rfl) | ((with_reducible refine eqI26g (dst := some 197) (l := com) (m := z32) (by kernel_rfl) ?_ ?_ HCL.out z32_len HCB.out ?_); rfl; rfl))
                                go_ret
                                exact BPost.mk E.out K1.out
end Go.Proofs.YtklmhegmombegaaDoor.Re
namespace Go.Proofs.YtklmhegmombegaaDoor.Re
open Go Go.RowKit Go.Proofs.YtklmhegmombegaaDoor Go.Proofs.YtklmhegmombegaaDoor.Re.Plain

def AnyB (w : World) (e : Ending) (w' : World) : Prop := ∃ b : Bool, e = .returned (.bool b) ∧ Kept (fun _ => False) w w'
set_option maxHeartbeats 8000000 in
theorem f_rr_none (C : Array Value) (x : Rx) (w : World) (h : RecIn w C x) (hk : x.kind < 1 ∨ 6 < x.kind) : Calls Tryd.prog 31 #[.agg C] w (AnyB w) := by
  have g0 := heap_alloc2_old w (.cells C 30) (.cells Z26 26)
  have G0 := Lib.hid g0
  have KA := Lib.hid (((Kept.refl (fun _ => False) w).alloc (.cells C 30)).alloc (.cells Z26 26))
  have c0 := row_cell g0 h.c0
  have HC0 := Lib.hid h.c0
  have HKK := Lib.hid hk
  clear h g0 hk
  go_enter Tryd.func31, Tryd.ntmps31
  go_upto_region 2 with (first | fail | (with_reducible refine alloc26 ?_))
  generalize (w.alloc (.cells C 30)).alloc (.cells Z26 26) = w1 at *
  cases hlo : decide (x.kind < 1) with
  | true =>
    have d2 : decide (2 ≤ x.kind) = false := by have := of_decide_eq_true hlo; exact decide_eq_false (by omega)
    have K1 := Lib.hid (KA.out)
    go_quiet (fail)
    generalize hq : w1.drewN _ = w2
    have hkq : Kept (fun _ => False) w1 w2 := hq ▸ (Kept.refl _ w1).drewN _
    have K2 := Lib.hid (KA.out.trans hkq)
    clear c0
    have c0 := row_cell (hkq.row G0.out) HC0.out
    clear hkq hq
    go_wp2_with fail
    go_ret
    exact ⟨_, rfl, K2.out⟩
  | false =>
    have d2 : decide (2 ≤ x.kind) = true := by have := of_decide_eq_false hlo; have := HKK.out; exact decide_eq_true (by omega)
    have d6 : decide (6 < x.kind) = true := by have := of_decide_eq_false hlo; have := HKK.out; exact decide_eq_true (by omega)
    go_quiet (fail)
    generalize hq : w1.drewN _ = w2
    have hkq : Kept (fun _ => False) w1 w2 := hq ▸ (Kept.refl _ w1).drewN _
    have K2 := Lib.hid (KA.out.trans hkq)
    clear c0
    have c0 := row_cell (hkq.row G0.out) HC0.out
    clear hkq hq
    go_wp2_with fail
    go_ret
    exact ⟨_, rfl, K2.out⟩
set_option maxHeartbeats 8000000 in
theorem f_rr1 (C : Array Value) (x : Rx) (w : World) (h : RecIn w C x) (hk : x.kind = 1) (hl : x.steps.length ≤ 30) : Calls Tryd.prog 31 #[.agg C] w (AnyB w) := by
  have g0 := heap_alloc2_old w (.cells C 30) (.cells Z26 26)
  have g1 := heap_alloc2_new w (.cells C 30) (.cells Z26 26)
  have G0 := Lib.hid g0
  have G1 := Lib.hid g1
  have KA := Lib.hid (((Kept.refl (fun _ => False) w).alloc (.cells C 30)).alloc (.cells Z26 26))
  obtain ⟨sv, hs, a1, cs1, e1, hm1, hst⟩ := h.st
  have HST := Lib.hid hst
  have HLL := Lib.hid hl
  clear hst hl
  obtain ⟨dv, hd, a2, cs2, e2, hm2, -⟩ := h.da
  subst e1 e2
  have c0 := row_cell g0 h.c0
  rw [hk] at c0
  have HH := Lib.hid h
  have HHS := Lib.hid hs
  have HHD := Lib.hid hd
  have HKK := Lib.hid hk
  clear h hs hd g0 g1 hm1 hm2 hk
  go_enter Tryd.func31, Tryd.ntmps31
  go_upto_region 2 with (first | fail | (with_reducible refine alloc26 ?_))
  generalize (w.alloc (.cells C 30)).alloc (.cells Z26 26) = w1 at *
  go_quiet (fail)
  clear c0
  generalize hq : w1.drewN _ = w2
  have hkq : Kept (fun _ => False) w1 w2 := hq ▸ (Kept.refl _ w1).drewN _
  have g0 := hkq.row G0.out
  have g1 := hkq.row G1.out
  have h := HH.out
  have hk := HKK.out
  have hs := HHS.out
  have hd := HHD.out
  have K1 := Lib.hid (KA.out.trans hkq)
  clear hkq hq KA G0 G1 HH HKK HHS HHD
  have c0 := row_cell g0 h.c0
  rw [hk] at c0
  have c1 := row_cell g0 h.c1
  have c2 := row_cell g0 h.c2
  have c3 := row_cell g0 h.c3
  have c4 := row_cell g0 h.c4
  have c5 := row_cell g0 h.c5
  have c6 := row_cell g0 h.c6
  have c7 := row_cell g0 h.c7
  have c8 := row_cell g0 h.c8
  have c9 := row_cell g0 h.c9
  have c76 := row_cell g0 h.c76
  have c42 := row_cell g0 hs
  have c43 := row_cell g0 hd
  have HTL := Lib.hid h.tagl
  have HSL := Lib.hid h.saltl
  have HCL := Lib.hid h.coml
  have H10 := Lib.hid (range_at g0 h.tag)
  have H44 := Lib.hid (range_at g0 h.salt)
  have H77 := Lib.hid (range_at g0 h.com)
  have HZ := Lib.hid (range_z g1)
  have HT32 : Hid ((hbs x.tag).toArray.size = 32) := by show _ = _; simp [hbs, h.tagl]
  have HS32 : Hid ((hbs x.salt).toArray.size = 32) := by show _ = _; simp [hbs, h.saltl]
  have HC32 : Hid ((hbs x.com).toArray.size = 32) := by show _ = _; simp [hbs, h.coml]
  have HZ32 : Hid ((hbs z32).toArray.size = 32) := by rfl
  have HSP : Hid (x.steps ≠ [] → Stp w2 (.slice a1 x.steps.length cs1) x.steps) := fun hne => (HST.out hne).kept K1.out
  clear h hs hd g0 g1 hk HST
  obtain ⟨xkind, saga, seq, step, tr, bk, good, nd, part, epoch, tag, steps, data, salt, gone, com⟩ := x
  dsimp only at *
  generalize hsl : steps.length = sl at *
  have HLN := Lib.hid hsl
  clear hsl
  generalize data.length = dl at *
  go_upto_region 3 with fail
  cases hb0 : wi saga 0 11 with
  | false =>
    have W0 := Lib.hid hb0
    clear hb0
    go_wp2_with fail
    refine (f_rin_is W0.out _).mono ?_
    rintro e w9 ⟨rfl, rfl⟩
    go_wp2_with fail
    go_ret
    exact ⟨_, rfl, K1.out⟩
  | true =>
    have W0 := Lib.hid hb0
    clear hb0
    go_wp2_with fail
    refine (f_rin_is W0.out _).mono ?_
    rintro e w9 ⟨rfl, rfl⟩
    go_upto_region 8 with fail
    cases hb1 : decide (seq = 0) with
    | false =>
      have t1 : ¬ seq = 0 := of_decide_eq_false hb1
      go_wp2_with fail
      go_ret
      exact ⟨_, rfl, K1.out⟩
    | true =>
      obtain rfl : seq = 0 := of_decide_eq_true hb1
      clear hb1
      go_upto_region 10 with fail
      cases hb2 : decide (step = 0) with
      | false =>
        have t2 : ¬ step = 0 := of_decide_eq_false hb2
        go_wp2_with fail
        go_ret
        exact ⟨_, rfl, K1.out⟩
      | true =>
        obtain rfl : step = 0 := of_decide_eq_true hb2
        clear hb2
        cases hb3 : decide (tr = 0) with
        | false =>
          have t3 : ¬ tr = 0 := of_decide_eq_false hb3
          go_wp2_with fail
          go_ret
          exact ⟨_, rfl, K1.out⟩
        | true =>
          obtain rfl : tr = 0 := of_decide_eq_true hb3
          clear hb3
          cases bk with
          | true =>
            go_wp2_with fail
            go_ret
            exact ⟨_, rfl, K1.out⟩
          | false =>
            go_upto_region 12 with fail
            cases good with
            | true =>
              go_wp2_with fail
              go_ret
              exact ⟨_, rfl, K1.out⟩
            | false =>
              cases hb6 : (tag == z32) with
              | false =>
                have HTB := Lib.hid hb6
                clear hb6
                go_wp2_with (first | fail | ((with_reducible refine load26g (dst := some 97) (C := (hbs tag).toArray) (g := w.heap.size) (o := 10) (by kernel_rfl) ?_ H10.out HT32.out ?_); rfl) | ((with_reducible refine load26g (dst := some 98) (C := (hbs z32).toArray) (g := w.heap.size + 1) (o := 0) (by kernel_rfl) ?_ HZ.out HZ32.out ?_); rfl) | ((with_reducible refine neI26g (dst := some 99) (l := tag) (m := z32) (by kernel_rfl) ?_ ?_ HTL.out z32_len HTB.out ?_); rfl; rfl))
                go_ret
                exact ⟨_, rfl, K1.out⟩
              | true =>
                have HTB := Lib.hid hb6
                clear hb6
                cases hb7 : decide (nd = 0) with
                | false =>
                  have t7 : ¬ nd = 0 := of_decide_eq_false hb7
                  go_wp2_with (first | fail | ((with_reducible refine load26g (dst := some 97) (C := (hbs tag).toArray) (g := w.heap.size) (o := 10) (by kernel_rfl) ?_ H10.out HT32.out ?_); rfl) | ((with_reducible refine load26g (dst := some 98) (C := (hbs z32).toArray) (g := w.heap.size + 1) (o := 0) (by kernel_rfl) ?_ HZ.out HZ32.out ?_); rfl) | ((with_reducible refine neI26g (dst := some 99) (l := tag) (m := z32) (by kernel_rfl) ?_ ?_ HTL.out z32_len HTB.out ?_); rfl; rfl))
                  go_ret
                  exact ⟨_, rfl, K1.out⟩
                | true =>
                  obtain rfl : nd = 0 := of_decide_eq_true hb7
                  clear hb7
                  go_upto_region 16 with (first | fail | ((with_reducible refine load26g (dst := some 97) (C := (hbs tag).toArray) (g := w.heap.size) (o := 10) (by kernel_rfl) ?_ H10.out HT32.out ?_); rfl) | ((with_reducible refine load26g (dst := some 98) (C := (hbs z32).toArray) (g := w.heap.size + 1) (o := 0) (by kernel_rfl) ?_ HZ.out HZ32.out ?_); rfl) | ((with_reducible refine neI26g (dst := some 99) (l := tag) (m := z32) (by kernel_rfl) ?_ ?_ HTL.out z32_len HTB.out ?_); rfl; rfl))
                  cases hb8 : decide (part = 0) with
                  | false =>
                    have t8 : ¬ part = 0 := of_decide_eq_false hb8
                    go_wp2_with fail
                    go_ret
                    exact ⟨_, rfl, K1.out⟩
                  | true =>
                    obtain rfl : part = 0 := of_decide_eq_true hb8
                    clear hb8
                    cases hb9 : decide (epoch = 0) with
                    | false =>
                      have t9 : ¬ epoch = 0 := of_decide_eq_false hb9
                      go_wp2_with fail
                      go_ret
                      exact ⟨_, rfl, K1.out⟩
                    | true =>
                      obtain rfl : epoch = 0 := of_decide_eq_true hb9
                      clear hb9
                      go_upto_region 20 with fail
                      go_wp2_with fail
                      go_loopw [7] (fun i wz => ∃ j : Nat, i = .int .i64 j ∧ w2 = wz) (fun i _ => sl - (intOf i).toNat)
                      case atStart => exact ⟨0, rfl, rfl⟩
                      case round =>
                        obtain ⟨j, rfl, rfl⟩ := hrel
                        by_cases hjl : j < sl
                        · have hji : (j : Int) < (sl : Int) := by omega
                          have hjs : j < steps.length := by rw [HLN.out]; exact hjl
                          have hsp := HSP.out (by intro e; rw [e] at hjs; simp at hjs)
                          rw [← HLN.out] at hsp
                          obtain ⟨bb, oo, cc, ev, hk1, hk0, -⟩ := hsp.kind hjs
                          simp only [Value.slice.injEq, true_and] at ev
                          obtain ⟨rfl, rfl⟩ := ev
                          generalize kindAt steps j = z1 at *
                          generalize steps[j].1 = z0 at *
                          have hj30 : sl ≤ 30 := HLL.out
                          clear hsp
                          cases hw0 : wi z0 0 3 with
                          | false =>
                            have W20 := Lib.hid hw0
                            clear hw0
                            go_wp2_with fail
                            refine (f_rin_is W20.out _).mono ?_
                            rintro e w9 ⟨rfl, rfl⟩
                            go_wp2_with fail
                            go_ret
                            exact ⟨_, rfl, K1.out⟩
                          | true =>
                            have W20 := Lib.hid hw0
                            clear hw0
                            go_wp2_with fail
                            refine (f_rin_is W20.out _).mono ?_
                            rintro e w9 ⟨rfl, rfl⟩
                            cases hw1 : wi z1 1 3 with
                            | false =>
                              have W21 := Lib.hid hw1
                              clear hw1
                              go_wp2_with fail
                              refine (f_rin_is W21.out _).mono ?_
                              rintro e w9 ⟨rfl, rfl⟩
                              go_wp2_with fail
                              go_ret
                              exact ⟨_, rfl, K1.out⟩
                            | true =>
                              have W21 := Lib.hid hw1
                              clear hw1
                              go_wp2_with fail
                              refine (f_rin_is W21.out _).mono ?_
                              rintro e w9 ⟨rfl, rfl⟩
                              go_wp2_with fail
                              go_roundw
                              case rel => exact ⟨j + 1, by go_num, by first | rfl | trivial⟩
                              case measure => simp [intOf]; omega
                        · have hji : ¬ ((j : Int) < (sl : Int)) := by omega
                          go_upto_region 25 with fail
                          cases hw0 : wi (sl : Int) 1 6 with
                          | false =>
                            have W20 := Lib.hid hw0
                            clear hw0
                            go_wp2_with fail
                            refine (f_rin_is W20.out _).mono ?_
                            rintro e w9 ⟨rfl, rfl⟩
                            go_wp2_with fail
                            go_ret
                            exact ⟨_, rfl, K1.out⟩
                          | true =>
                            have W20 := Lib.hid hw0
                            clear hw0
                            go_wp2_with fail
                            refine (f_rin_is W20.out _).mono ?_
                            rintro e w9 ⟨rfl, rfl⟩
                            by_cases hdl : (60 : Int) < (dl : Int)
                            · go_wp2_with fail
                              go_ret
                              exact ⟨_, rfl, K1.out⟩
                            · cases gone with
                              | false =>
                                go_wp2_with (first | fail | ((with_reducible refine load26g (dst := some 248) (C := (hbs com).toArray) (g := w.heap.size) (o := 77) (by kernel_rfl) ?_ H77.out HC32.out ?_); rfl) | ((with_reducible refine load26g (dst := some 249) (C := (hbs z32).toArray) (g := w.heap.size + 1) (o := 0) (by kernel_rfl) ?_ HZ.out HZ32.out ?_); rfl) | ((with_reducible refine eqI26g (dst := some 250) (l := com) (m := z32) (by kernel_rfl) ?_ ?_ HCL.out z32_len rfl ?_); rfl; rfl))
                                go_ret
                                exact ⟨_, rfl, K1.out⟩
                              | true =>
                                go_upto_region 28 with fail
                                by_cases hd0 : dl = 0
                                · subst hd0
                                  go_wp2_with (first | fail | ((with_reducible refine load26g (dst := some 243) (C := (hbs salt).toArray) (g := w.heap.size) (o := 44) (by kernel_rfl) ?_ H44.out HS32.out ?_); rfl) | ((with_reducible refine load26g (dst := some 244) (C := (hbs z32).toArray) (g := w.heap.size + 1) (o := 0) (by kernel_rfl) ?_ HZ.out HZ32.out ?_); rfl) | ((with_reducible refine eqI26g (dst := some 245) (l := salt) (m := z32) (by kernel_rfl) ?_ ?_ HSL.out z32_len rfl ?_); rfl; rfl))
                                  go_ret
                                  exact ⟨_, rfl, K1.out⟩
                                · have hd1 : ¬ (dl : Int) = 0 := by omega
                                  go_wp2_with fail
                                  go_ret
                                  exact ⟨_, rfl, K1.out⟩
end Go.Proofs.YtklmhegmombegaaDoor.Re
