/-
  The contracts of the reference's Right, for receipts. Conditions: as each theorem says.
-/
import Derived.Test.YtklmhegmombegaaDoorGreatA
set_option linter.unusedVariables false
set_option linter.unusedSimpArgs false
set_option maxRecDepth 100000
namespace Go.Proofs.YtklmhegmombegaaDoor.Re
open Go Go.RowKit Go.Proofs.YtklmhegmombegaaDoor Go.Proofs.YtklmhegmombegaaDoor.Re.Plain

theorem f_rin (n lo hi : Int) (w : World) : Calls Tryd.prog 65 #[.int .i64 n, .int .i64 lo, .int .i64 hi] w fun e w' => e = .returned (.bool (wi n lo hi)) ∧ w = w' := by
  unfold wi
  by_cases h : lo ≤ n
  · have h1 : decide (lo ≤ n) = true := by simpa using h
    go_enter Tryd.func65, Tryd.ntmps65
    go_wp2_with fail
    go_ret
    exact ⟨by simp [h], rfl⟩
  · have h1 : decide (lo ≤ n) = false := by simpa using h
    go_enter Tryd.func65, Tryd.ntmps65
    go_wp2_with fail
    go_ret
    exact ⟨by simp, rfl⟩
theorem f_rin_is {n lo hi : Int} {b : Bool} (h : wi n lo hi = b) (w : World) : Calls Tryd.prog 65 #[.int .i64 n, .int .i64 lo, .int .i64 hi] w fun e w' => e = .returned (.bool b) ∧ w = w' := by
  subst h; exact f_rin n lo hi w
theorem z32_len : z32.length = 32 := rfl
theorem range_at {w : World} {g o : Nat} {C : Array Value} {t : TypeId} {l : List Int} (hg : w.heap[g]? = some (.cells C t (0, 0))) (h : At C o (hbs l)) : w.rangeAt g o (hbs l).toArray.toList := by
  intro j v hv
  rw [List.toList_toArray] at hv
  exact row_cell hg (h j v hv)
theorem range_z {w : World} {g : Nat} {t : TypeId} (hg : w.heap[g]? = some (.cells Z26 t (0, 0))) : w.rangeAt g 0 (hbs z32).toArray.toList := by
  intro j v hv
  rw [List.toList_toArray] at hv
  have e : Z26 = (hbs z32).toArray := by rfl
  rw [e] at hg
  refine row_cell hg ?_
  rw [Nat.zero_add, List.getElem?_toArray]; exact hv
section
variable {ops : Array Oper} {rest : List Oper} {dst : Option Tmp} {ty : TypeId} {pos : String} {aft : Array Edge} {gd : Option (Nat × Bool)} {a : Act} {w : World} {Q : Exit → Act → World → Prop}
theorem eqI26g {x y : Operand} {rt : TypeId} {l m : List Int} {b : Bool} (hw : Region.wanted ⟨dst, .binOp .eql 26 x y rt, ty, pos, aft, gd⟩ (yielded ops a.tmps) = true) (hx : a.eval x = .agg (hbs l).toArray) (hy : a.eval y = .agg (hbs m).toArray) (hl : l.length = 32) (hm : m.length = 32) (hb : (l == m) = b)
    (h : wpList Tryd.prog ops Q rest (a.put dst (.bool b)) w) : wpList Tryd.prog ops Q (⟨dst, .binOp .eql 26 x y rt, ty, pos, aft, gd⟩ :: rest) a w := by
  refine wpList_on hw ?_
  refine wpList_plain rfl fun K hK => ?_
  have hg : (eqGuard .eql 26 x y (.agg (hbs l).toArray) (.agg (hbs m).toArray)).run Tryd.prog w = .ok () w := run_eqGuard_agg w .eql 26 x y _ _ (by kernel_rfl)
  have hq : (binOp .eql 26 (.agg (hbs l).toArray) (.agg (hbs m).toArray)).run Tryd.prog w = .ok (.bool b) w := by rw [run_eql_struct, equal26 w l m hl hm, hb]; rfl
  unfold Oper.wp execOp
  simp only [hx, hy, Sem.run_bind, hg, hq, Result.andThen_ok, Sem.run_pure]
  exact hK _ _ h
theorem neI26g {x y : Operand} {rt : TypeId} {l m : List Int} {b : Bool} (hw : Region.wanted ⟨dst, .binOp .neq 26 x y rt, ty, pos, aft, gd⟩ (yielded ops a.tmps) = true) (hx : a.eval x = .agg (hbs l).toArray) (hy : a.eval y = .agg (hbs m).toArray) (hl : l.length = 32) (hm : m.length = 32) (hb : (l == m) = b)
    (h : wpList Tryd.prog ops Q rest (a.put dst (.bool !b)) w) : wpList Tryd.prog ops Q (⟨dst, .binOp .neq 26 x y rt, ty, pos, aft, gd⟩ :: rest) a w := by
  refine wpList_on hw ?_
  refine wpList_plain rfl fun K hK => ?_
  have hg : (eqGuard .neq 26 x y (.agg (hbs l).toArray) (.agg (hbs m).toArray)).run Tryd.prog w = .ok () w := run_eqGuard_agg w .neq 26 x y _ _ (by kernel_rfl)
  have hq : (binOp .neq 26 (.agg (hbs l).toArray) (.agg (hbs m).toArray)).run Tryd.prog w = .ok (.bool !b) w := by rw [run_neq_struct, equal26 w l m hl hm, hb]; rfl
  unfold Oper.wp execOp
  simp only [hx, hy, Sem.run_bind, hg, hq, Result.andThen_ok, Sem.run_pure]
  exact hK _ _ h
end
namespace Plain
theorem right3 {x : Rx} (h : x.kind = 3) : rightB x = (wi x.saga 0 11 && (wi x.seq 1 400 && (wi x.step 0 5 && (wi x.tr 1 9 && (decide (x.nd = 0) && (wi x.part 0 3 && (wi x.epoch 0 400 && (decide (x.steps.length = 0) && (decide (x.data.length = 0) && ((x.salt == z32) && (!x.gone && ((x.com == z32))))))))))))) := by
  obtain ⟨kind, saga, seq, step, tr, bk, good, nd, part, epoch, tag, steps, data, salt, gone, com⟩ := x
  simp only at h
  subst h
  rw [Bool.eq_iff_iff]
  simp [rightB, rangesB, keptX, Rx.zero, wi]
  grind
end Plain
set_option maxHeartbeats 8000000 in
theorem f_rr3 (C : Array Value) (x : Rx) (w : World) (h : RecIn w C x) (hk : x.kind = 3) : Calls Tryd.prog 31 #[.agg C] w (BPost (rightB x) w) := by
  have HR := Lib.hid (right3 hk)
  have g0 := heap_alloc2_old w (.cells C 30) (.cells Z26 26)
  have g1 := heap_alloc2_new w (.cells C 30) (.cells Z26 26)
  have G0 := Lib.hid g0
  have G1 := Lib.hid g1
  have KA := Lib.hid (((Kept.refl (fun _ => False) w).alloc (.cells C 30)).alloc (.cells Z26 26))
  obtain ⟨sv, hs, a1, cs1, e1, hm1, -⟩ := h.st
  obtain ⟨dv, hd, a2, cs2, e2, hm2, -⟩ := h.da
  subst e1 e2
  have c0 := row_cell g0 h.c0
  rw [hk] at c0
  have HH := Lib.hid h
  have HHS := Lib.hid hs
  have HHD := Lib.hid hd
  have HKK := Lib.hid hk
  clear h hs hd g0 g1 hm1 hm2 hk
  go_enter Tryd.func31, Tryd.ntmps31
  go_upto_region 2 with (first | fail | (with_reducible refine alloc26 ?_))
  generalize (w.alloc (.cells C 30)).alloc (.cells Z26 26) = w1 at *
  go_quiet (fail)
  clear c0
  generalize hq : w1.drewN _ = w2
  have hkq : Kept (fun _ => False) w1 w2 := hq ▸ (Kept.refl _ w1).drewN _
  have g0 := hkq.row G0.out
  have g1 := hkq.row G1.out
  have h := HH.out
  have hk := HKK.out
  have hs := HHS.out
  have hd := HHD.out
  have K1 := Lib.hid (KA.out.trans hkq)
  clear hkq hq KA G0 G1 HH HKK HHS HHD
  have c0 := row_cell g0 h.c0
  rw [hk] at c0
  have c1 := row_cell g0 h.c1
  have c2 := row_cell g0 h.c2
  have c3 := row_cell g0 h.c3
  have c4 := row_cell g0 h.c4
  have c5 := row_cell g0 h.c5
  have c6 := row_cell g0 h.c6
  have c7 := row_cell g0 h.c7
  have c8 := row_cell g0 h.c8
  have c9 := row_cell g0 h.c9
  have c76 := row_cell g0 h.c76
  have c42 := row_cell g0 hs
  have c43 := row_cell g0 hd
  have HTL := Lib.hid h.tagl
  have HSL := Lib.hid h.saltl
  have HCL := Lib.hid h.coml
  have H10 := Lib.hid (range_at g0 h.tag)
  have H44 := Lib.hid (range_at g0 h.salt)
  have H77 := Lib.hid (range_at g0 h.com)
  have HZ := Lib.hid (range_z g1)
  have HT32 : Hid ((hbs x.tag).toArray.size = 32) := by show _ = _; simp [hbs, h.tagl]
  have HS32 : Hid ((hbs x.salt).toArray.size = 32) := by show _ = _; simp [hbs, h.saltl]
  have HC32 : Hid ((hbs x.com).toArray.size = 32) := by show _ = _; simp [hbs, h.coml]
  have HZ32 : Hid ((hbs z32).toArray.size = 32) := by rfl
  clear h hs hd g0 g1 hk
  obtain ⟨xkind, saga, seq, step, tr, bk, good, nd, part, epoch, tag, steps, data, salt, gone, com⟩ := x
  dsimp only at *
  generalize rightB _ = RB at *
  generalize steps.length = sl at *
  generalize data.length = dl at *
  go_upto_region 3 with fail
  cases hb0 : wi saga 0 11 with
  | false =>
    have E : Hid (RB = false) := by show _ = _; rw [HR.out, hb0]; simp
    have W0 := Lib.hid hb0
    clear hb0
    go_wp2_with fail
    refine (f_rin_is W0.out _).mono ?_
    rintro e w9 ⟨rfl, rfl⟩
    go_wp2_with fail
    go_ret
    exact BPost.mk E.out K1.out
  | true =>
    have W0 := Lib.hid hb0
    clear hb0
    go_wp2_with fail
    refine (f_rin_is W0.out _).mono ?_
    rintro e w9 ⟨rfl, rfl⟩
    go_upto_region 6 with fail
    cases hb1 : wi seq 1 400 with
    | false =>
      have E : Hid (RB = false) := by show _ = _; rw [HR.out, hb1]; simp
      have W1 := Lib.hid hb1
      clear hb1
      go_wp2_with fail
      refine (f_rin_is W1.out _).mono ?_
      rintro e w9 ⟨rfl, rfl⟩
      go_wp2_with fail
      go_ret
      exact BPost.mk E.out K1.out
    | true =>
      have W1 := Lib.hid hb1
      clear hb1
      go_wp2_with fail
      refine (f_rin_is W1.out _).mono ?_
      rintro e w9 ⟨rfl, rfl⟩
      go_upto_region 10 with fail
      cases hb2 : wi step 0 5 with
      | false =>
        have E : Hid (RB = false) := by show _ = _; rw [HR.out, hb2]; simp
        have W2 := Lib.hid hb2
        clear hb2
        go_wp2_with fail
        refine (f_rin_is W2.out _).mono ?_
        rintro e w9 ⟨rfl, rfl⟩
        go_wp2_with fail
        go_ret
        exact BPost.mk E.out K1.out
      | true =>
        have W2 := Lib.hid hb2
        clear hb2
        cases hb3 : wi tr 1 9 with
        | false =>
          have E : Hid (RB = false) := by show _ = _; rw [HR.out, hb3]; simp
          have W3 := Lib.hid hb3
          clear hb3
          go_wp2_with fail
          refine (f_rin_is W2.out _).mono ?_
          rintro e w9 ⟨rfl, rfl⟩
          go_wp2_with fail
          refine (f_rin_is W3.out _).mono ?_
          rintro e w9 ⟨rfl, rfl⟩
          go_wp2_with fail
          go_ret
          exact BPost.mk E.out K1.out
        | true =>
          have W3 := Lib.hid hb3
          clear hb3
          go_wp2_with fail
          refine (f_rin_is W2.out _).mono ?_
          rintro e w9 ⟨rfl, rfl⟩
          go_wp2_with fail
          refine (f_rin_is W3.out _).mono ?_
          rintro e w9 ⟨rfl, rfl⟩
          go_upto_region 12 with fail
          cases hb4 : decide (nd = 0) with
          | false =>
            have E : Hid (RB = false) := by show _ = _; rw [HR.out, hb4]; simp
            have t4 : ¬ nd = 0 := of_decide_eq_false hb4
            go_wp2_with fail
            go_ret
            exact BPost.mk E.out K1.out
          | true =>
            obtain rfl : nd = 0 := of_decide_eq_true hb4
            clear hb4
            go_upto_region 14 with fail
            cases hb5 : wi part 0 3 with
            | false =>
              have E : Hid (RB = false) := by show _ = _; rw [HR.out, hb5]; simp
              have W5 := Lib.hid hb5
              clear hb5
              go_wp2_with fail
              refine (f_rin_is W5.out _).mono ?_
              rintro e w9 ⟨rfl, rfl⟩
              go_wp2_with fail
              go_ret
              exact BPost.mk E.out K1.out
            | true =>
              have W5 := Lib.hid hb5
              clear hb5
              cases hb6 : wi epoch 0 400 with
              | false =>
                have E : Hid (RB = false) := by show _ = _; rw [HR.out, hb6]; simp
                have W6 := Lib.hid hb6
                clear hb6
                go_wp2_with fail
                refine (f_rin_is W5.out _).mono ?_
                rintro e w9 ⟨rfl, rfl⟩
                go_wp2_with fail
                refine (f_rin_is W6.out _).mono ?_
                rintro e w9 ⟨rfl, rfl⟩
                go_wp2_with fail
                go_ret
                exact BPost.mk E.out K1.out
              | true =>
                have W6 := Lib.hid hb6
                clear hb6
                go_wp2_with fail
                refine (f_rin_is W5.out _).mono ?_
                rintro e w9 ⟨rfl, rfl⟩
                go_wp2_with fail
                refine (f_rin_is W6.out _).mono ?_
                rintro e w9 ⟨rfl, rfl⟩
                go_upto_region 19 with fail
                cases hb7 : decide (sl = 0) with
                | false =>
                  have E : Hid (RB = false) := by show _ = _; rw [HR.out, hb7]; simp
                  have t7 : ¬ sl = 0 := of_decide_eq_false hb7
                  have u7 : ¬ (sl : Int) = 0 := by omega
                  go_wp2_with fail
                  go_ret
                  exact BPost.mk E.out K1.out
                | true =>
                  obtain rfl : sl = 0 := of_decide_eq_true hb7
                  clear hb7
                  cases hb8 : decide (dl = 0) with
                  | false =>
                    have E : Hid (RB = false) := by show _ = _; rw [HR.out, hb8]; simp
                    have t8 : ¬ dl = 0 := of_decide_eq_false hb8
                    have u8 : ¬ (dl : Int) = 0 := by omega
                    go_wp2_with fail
                    go_ret
                    exact BPost.mk E.out K1.out
                  | true =>
                    obtain rfl : dl = 0 := of_decide_eq_true hb8
                    clear hb8
                    cases hb9 : (salt == z32) with
                    | false =>
                      have E : Hid (RB = false) := by show _ = _; rw [HR.out, hb9]; simp
                      have HSB := Lib.hid hb9
                      clear hb9
                      go_wp2_with (first | fail | ((with_reducible refine load26g (dst := some 184) (C := (hbs salt).toArray) (g := w.heap.size) (o := 44) (by kernel_rfl) ?_ H44.out HS32.out ?_); rfl) | ((with_reducible refine load26g (dst := some 185) (C := (hbs z32).toArray) (g := w.heap.size + 1) (o := 0) (by kernel_rfl) ?_ HZ.out HZ32.out ?_); rfl) | ((with_reducible refine eqI26g (dst := some 186) (l := salt) (m := z32) (by kernel_rfl) ?_ ?_ HSL.out z32_len HSB.out ?_); rfl; rfl))
                      go_ret
                      exact BPost.mk E.out K1.out
                    | true =>
                      have HSB := Lib.hid hb9
                      clear hb9
                      cases gone with
                      | true =>
                        have E : Hid (RB = false) := by show _ = _; rw [HR.out]; simp
                        go_wp2_with (first | fail | ((with_reducible refine load26g (dst := some 184) (C := (hbs salt).toArray) (g := w.heap.size) (o := 44) (by kernel_rfl) ?_ H44.out HS32.out ?_); rfl) | ((with_reducible refine load26g (dst := some 185) (C := (hbs z32).toArray) (g := w.heap.size + 1) (o := 0) (by kernel_rfl) ?_ HZ.out HZ32.out ?_); rfl) | ((with_reducible refine eqI26g (dst := some 186) (l := salt) (m := z32) (by kernel_rfl) ?_ ?_ HSL.out z32_len HSB.out ?_); rfl; rfl))
                        go_ret
                        exact BPost.mk E.out K1.out
                      | false =>
                        cases hb11 : (com == z32) with
                        | false =>
                          have E : Hid (RB = false) := by show _ = _; rw [HR.out, hb11]; simp
                          have HCB := Lib.hid hb11
                          clear hb11
                          go_wp2_with (first | fail | ((with_reducible refine load26g (dst := some 184) (C := (hbs salt).toArray) (g := w.heap.size) (o := 44) (by kernel_rfl) ?_ H44.out HS32.out ?_); rfl) | ((with_reducible refine load26g (dst := some 185) (C := (hbs z32).toArray) (g := w.heap.size + 1) (o := 0) (by kernel_rfl) ?_ HZ.out HZ32.out ?_); rfl) | ((with_reducible refine eqI26g (dst := some 186) (l := salt) (m := z32) (by kernel_rfl) ?_ ?_ HSL.out z32_len HSB.out ?_); rfl; rfl) | ((with_reducible refine load26g (dst := some 195) (C := (hbs com).toArray) (g := w.heap.size) (o := 77) (by kernel_rfl) ?_ H77.out HC32.out ?_); rfl) | ((with_reducible refine load26g (dst := some 196) (C := (hbs z32).toArray) (g := w.heap.size + 1) (o := 0) (by kernel_rfl) ?_ HZ.out HZ32.out ?_); rfl) | ((with_reducible refine eqI26g (dst := some 197) (l := com) (m := z32) (by kernel_rfl) ?_ ?_ HCL.out z32_len HCB.out ?_); rfl; rfl))
                          go_ret
                          exact BPost.mk E.out K1.out
                        | true =>
                          have HCB := Lib.hid hb11
                          clear hb11
                          have E : Hid (RB = true) := by show _ = _; rw [HR.out]; simp [W0.out, W1.out, W2.out, W3.out, W5.out, W6.out, HSB.out, HCB.out]
                          go_wp2_with (first | fail | ((with_reducible refine load26g (dst := some 184) (C := (hbs salt).toArray) (g := w.heap.size) (o := 44) (by kernel_rfl) ?_ H44.out HS32.out ?_); rfl) | ((with_reducible refine load26g (dst := some 185) (C := (hbs z32).toArray) (g := w.heap.size + 1) (o := 0) (by kernel_rfl) ?_ HZ.out HZ32.out ?_); rfl) | ((with_reducible refine eqI26g (dst := some 186) (l := salt) (m := z32) (by kernel_rfl) ?_ ?_ HSL.out z32_len HSB.out ?_); rfl; rfl) | ((with_reducible refine load26g (dst := some 195) (C := (hbs com).toArray) (g := w.heap.size) (o := 77) (by kernel_rfl) ?_ H77.out HC32.out ?_); rfl) | ((with_reducible refine load26g (dst := some 196) (C := (hbs z32).toArray) (g := w.heap.size + 1) (o := 0) (by kernel_rfl) ?_ HZ.out HZ32.out ?_); rfl) | ((with_reducible refine eqI26g (dst := some 197) (l := com) (m := z32) (by kernel_rfl) ?_ ?_ HCL.out z32_len HCB.out ?_); rfl; rfl))
                          go_ret
                          exact BPost.mk E.out K1.out
end Go.Proofs.YtklmhegmombegaaDoor.Re
