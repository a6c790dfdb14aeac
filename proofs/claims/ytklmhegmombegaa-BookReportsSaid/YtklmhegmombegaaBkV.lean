/-
  Contracts of the reference's Bytes, Same of records, Recs, where both sides are the same. Conditions: as each theorem says.
-/
import Derived.Test.YtklmhegmombegaaBkU
import Derived.Test.YtklmhegmombegaaBkN
set_option linter.unusedVariables false
set_option linter.unusedSimpArgs false
namespace Go.Proofs.Ytklmhegmombegaa
open Go Go.RowKit Plain

/-- One byte of what is held. -/
theorem HoldsBy.at {w : World} {v : Value} {l : List Nat} (h : HoldsBy w v l) {k : Nat} (hk : k < l.length) : ∃ b o c, v = .slice (some ⟨b, o, none⟩) l.length c ∧ w.cell? ⟨b, o + k, none⟩ = some (.int .u8 (l[k] : Nat)) := by
  obtain ⟨a, c, rfl, _, _, hr⟩ := h
  have hl : l ≠ [] := by rintro rfl; simp at hk
  obtain ⟨b, o, c', ev, hc⟩ := (hr hl).1.addr (by omega)
  refine ⟨b, o, c', ev, hc k _ (by simp [hk])⟩
set_option maxHeartbeats 2000000 in
theorem f_rbytes (va vb : Value) (l : List Nat) (w : World) (ha : HoldsBy w va l) (hb : HoldsBy w vb l) (hll : l.length ≤ 1000000) : Calls Try.prog 66 #[va, vb] w (BPost true w) := by
  have HA := Lib.hid ha
  have HB := Lib.hid hb
  obtain ⟨a, c, rfl, -, -, -⟩ := ha
  obtain ⟨b, d, rfl, -, -, -⟩ := hb
  have t2 : ((l.length : Int) != l.length) = false := by simp
  go_enter Try.func66, Try.ntmps66
  go_wp2
  go_loopw [5] (fun i wr => ∃ k : Nat, k ≤ l.length ∧ i = .int .i64 k ∧ Kept (fun _ => False) w wr) (fun i _ => l.length - (intOf i).toNat)
  case atStart => exact ⟨0, Nat.zero_le _, rfl, Kept.refl _ _⟩
  case round =>
    obtain ⟨k, hk, rfl, K⟩ := hrel
    by_cases hlt : k < l.length
    · obtain ⟨b1, o1, c1, e1, x0⟩ := (HA.out.kept K).at hlt
      obtain ⟨b2, o2, c2, e2, y0⟩ := (HB.out.kept K).at hlt
      simp only [Value.slice.injEq, true_and] at e1 e2
      obtain ⟨rfl, rfl⟩ := e1
      obtain ⟨rfl, rfl⟩ := e2
      generalize l[k] = z at x0 y0
      have t3 : ((z : Int) != z) = false := by simp
      have HD : Hid (∀ n, Kept (fun _ => False) w (wr.drewN n)) := fun n => K.drewN n
      clear K
      go_wp2
      go_quiet (fail)
      go_wp2
      go_roundw
      case rel => exact ⟨k + 1, by omega, by go_num, HD.out _⟩
      case measure => simp [intOf]; omega
    · obtain rfl : k = l.length := by omega
      have KF := Lib.hid K
      clear K
      go_wp2
      go_ret
      exact BPost.mk rfl KF.out

section
variable {ops : Array Oper} {rest : List Oper} {dst : Option Tmp} {ty rt : TypeId} {pos : String} {aft : Array Edge} {a : Act} {w : World} {Q : Exit → Act → World → Prop} {x y : Operand}
theorem eq39 {l : List Int} {gd : Option (Nat × Bool)} (hw : Region.wanted ⟨dst, .binOp .eql 39 x y rt, ty, pos, aft, gd⟩ (yielded ops a.tmps) = true) (hl : l.length = 32) (hx : a.eval x = .agg (hbs l).toArray) (hy : a.eval y = .agg (hbs l).toArray)
    (h : wpList Try.prog ops Q rest (a.put dst (.bool true)) w) : wpList Try.prog ops Q (⟨dst, .binOp .eql 39 x y rt, ty, pos, aft, gd⟩ :: rest) a w := by
  refine wpList_on hw ?_
  refine wpList_plain rfl fun K hK => ?_
  have hg : (eqGuard .eql 39 x y (.agg (hbs l).toArray) (.agg (hbs l).toArray)).run Try.prog w = .ok () w := run_eqGuard_agg w .eql 39 x y _ _ (by kernel_rfl)
  have he := equal39 w l l hl hl
  have hq : (binOp .eql 39 (.agg (hbs l).toArray) (.agg (hbs l).toArray)).run Try.prog w = .ok (.bool true) w := by rw [run_eql_struct, he]; simp
  unfold Oper.wp execOp
  simp only [hx, hy, Sem.run_bind, hg, hq, Result.andThen_ok, Sem.run_pure]
  exact hK _ _ h
theorem load39g {g o : Nat} {C : Array Value} {l : List Int} {gd : Option (Nat × Bool)} (hw : Region.wanted ⟨dst, .load 39 x, ty, pos, aft, gd⟩ (yielded ops a.tmps) = true) (hx : a.eval x = .pointer (some ⟨g, o, none⟩)) (hg : w.heap[g]? = some (.cells C 41 (0, 0))) (hl : l.length = 32) (hC : At C o (hbs l))
    (h : wpList Try.prog ops Q rest (a.put dst (.agg (hbs l).toArray)) w) : wpList Try.prog ops Q (⟨dst, .load 39 x, ty, pos, aft, gd⟩ :: rest) a w := wpList_on hw (load39 hx hg hl hC h)
end

theorem yields41o {ops : Array Oper} {S : World → Prop} {dst : Option Tmp} {ty : TypeId} {pos : String} {aft : Array Edge} {gd : Option (Nat × Bool)} {a : Act} {x : Operand} {g o : Nat} {C : Array Value} (hw : Region.wanted ⟨dst, .load 41 x, ty, pos, aft, gd⟩ (yielded ops a.tmps) = true) (hx : a.eval x = .pointer (some ⟨g, o, none⟩)) (hg : ∀ w, S w → w.rangeAt g o C.toList) (hC : C.size = 109) :
    YieldsIf Try.prog ops S ⟨dst, .load 41 x, ty, pos, aft, gd⟩ (.agg C) a := by
  refine .inl ⟨hw, fun w hS => ?_⟩
  have hl := run_loadAt_mid (P := Try.prog) w g o 41 C.toList _ (hg w hS) Try.underlying41 rfl (by rw [Try.isz41]; simp [hC])
  rw [Array.toArray_toList] at hl
  unfold execOp
  simp only [hx, Sem.run_bind, hl, Result.andThen_ok, Sem.run_pure]
/-- Two slices of steps, of an empty one nothing else is known. -/
theorem f_rsteps0 (a b : Option Addr) (c d : Nat) (w : World) : Calls Try.prog 58 #[.slice a 0 c, .slice b 0 d] w (BPost true w) := by
  go_enter Try.func58, Try.ntmps58
  go_wp2
  go_loopw [5] (fun i wr => i = .int .i64 0 ∧ Kept (fun _ => False) w wr) (fun i _ => 0)
  case atStart => exact ⟨rfl, Kept.refl _ _⟩
  case round =>
    obtain ⟨rfl, K⟩ := hrel
    go_wp2
    go_ret
    exact BPost.mk rfl K
theorem f_rstepsH (va vb : Value) (l : List (Int × Int)) (w : World) (ha : HoldsSt w va l) (hb : HoldsSt w vb l) (hll : l.length ≤ 1000000) : Calls Try.prog 58 #[va, vb] w (BPost true w) := by
  obtain ⟨a, c, rfl, ha1, ha⟩ := ha
  obtain ⟨b, d, rfl, hb1, hb⟩ := hb
  by_cases hl : l = []
  · subst hl; exact f_rsteps0 a b c d w
  · have h := f_rsteps _ _ l l w (ha hl) (hb hl) hll
    rwa [show decide (l = l) = true by simp] at h
set_option maxRecDepth 100000 in
set_option maxHeartbeats 8000000 in
/-- Two records that hold the same. -/
theorem f_rrec (C D : Array Value) (x : Rx) (w : World) (h : RecIn w C x) (k : RecIn w D x) (hl : x.steps.length ≤ 1000000) (hdl : x.data.length ≤ 1000000) : Calls Try.prog 57 #[.agg C, .agg D] w (BPost true w) := by
  have g0 := heap_alloc2_old w (.cells C 41) (.cells D 41)
  have g1 := heap_alloc2_new w (.cells C 41) (.cells D 41)
  have K2 := Lib.hid (((Kept.refl (fun _ => False) w).alloc (.cells C 41)).alloc (.cells D 41))
  have G0 := Lib.hid g0
  have G1 := Lib.hid g1
  obtain ⟨v, hv, hst⟩ := h.st
  obtain ⟨v', hv', hst'⟩ := k.st
  obtain ⟨u, hu, hda⟩ := h.da
  obtain ⟨u', hu', hda'⟩ := k.da
  have HS : Hid (∀ w', Kept (fun _ => False) w w' → Calls Try.prog 58 #[v, v'] w' (BPost true w')) := fun w' kk => f_rstepsH v v' x.steps w' (hst.kept kk) (hst'.kept kk) hl
  have HD : Hid (∀ w', Kept (fun _ => False) w w' → Calls Try.prog 66 #[u, u'] w' (BPost true w')) := fun w' kk => f_rbytes u u' x.data w' (hda.kept kk) (hda'.kept kk) hdl
  have H := Lib.hid h
  have K := Lib.hid k
  obtain ⟨a, c, rfl, -, -⟩ := hst
  obtain ⟨a', c', rfl, -, -⟩ := hst'
  obtain ⟨b, d, rfl, -, -, -⟩ := hda
  obtain ⟨b', d', rfl, -, -, -⟩ := hda'
  have HV := Lib.hid hv
  have HV' := Lib.hid hv'
  have HU := Lib.hid hu
  have HU' := Lib.hid hu'
  clear h k hv hv' hu hu' g0 g1
  generalize hw2 : (w.alloc (.cells C 41)).alloc (.cells D 41) = w2 at *
  have x0 := row_cell G0.out H.out.c0
  have x1 := row_cell G0.out H.out.c1
  have x2 := row_cell G0.out H.out.c2
  have x3 := row_cell G0.out H.out.c3
  have x4 := row_cell G0.out H.out.c4
  have x5 := row_cell G0.out H.out.c5
  have x6 := row_cell G0.out H.out.c6
  have x7 := row_cell G0.out H.out.c7
  have x8 := row_cell G0.out H.out.c8
  have x9 := row_cell G0.out H.out.c9
  have y0 := row_cell G1.out K.out.c0
  have y1 := row_cell G1.out K.out.c1
  have y2 := row_cell G1.out K.out.c2
  have y3 := row_cell G1.out K.out.c3
  have y4 := row_cell G1.out K.out.c4
  have y5 := row_cell G1.out K.out.c5
  have y6 := row_cell G1.out K.out.c6
  have y7 := row_cell G1.out K.out.c7
  have y8 := row_cell G1.out K.out.c8
  have y9 := row_cell G1.out K.out.c9
  have xs := row_cell G0.out HV.out
  have ys := row_cell G1.out HV'.out
  have HX := Lib.hid hw2
  clear hw2
  subst w2
  go_enter Try.func57, Try.ntmps57
  go_wp2_with (first | fail | ((with_reducible refine load39g (l := x.tag) (o := 10) (by kernel_rfl) ?_ G0.out H.out.tagl H.out.tag ?_); rfl) | ((with_reducible refine load39g (l := x.tag) (o := 10) (by kernel_rfl) ?_ G1.out K.out.tagl K.out.tag ?_); rfl) | ((with_reducible refine eq39 (l := x.tag) (by kernel_rfl) H.out.tagl ?_ ?_ ?_); rfl; rfl))
  refine (HS.out _ K2.out).mono ?_
  rintro e w3 ⟨rfl, k3⟩
  clear x0 x1 x2 x3 x4 x5 x6 x7 x8 x9 y0 y1 y2 y3 y4 y5 y6 y7 y8 y9 xs ys HS
  have K3 := Lib.hid (K2.out.trans k3)
  have P0 := Lib.hid (k3.row G0.out)
  have P1 := Lib.hid (k3.row G1.out)
  have xd := row_cell P0.out HU.out
  have yd := row_cell P1.out HU'.out
  clear k3 K2 G0 G1
  go_wp2_with fail
  refine (HD.out _ K3.out).mono ?_
  rintro e w4 ⟨rfl, k4⟩
  clear xd yd HD
  have K4 := Lib.hid (K3.out.trans k4)
  have Q0 := Lib.hid (k4.row P0.out)
  have Q1 := Lib.hid (k4.row P1.out)
  have xg := row_cell Q0.out H.out.c76
  have yg := row_cell Q1.out K.out.c76
  clear k4 K3 P0 P1
  go_wp2_with (first | fail | ((with_reducible refine load39g (l := x.salt) (o := 44) (by kernel_rfl) ?_ Q0.out H.out.saltl H.out.salt ?_); rfl) | ((with_reducible refine load39g (l := x.salt) (o := 44) (by kernel_rfl) ?_ Q1.out K.out.saltl K.out.salt ?_); rfl) | ((with_reducible refine eq39 (l := x.salt) (by kernel_rfl) H.out.saltl ?_ ?_ ?_); rfl; rfl) | ((with_reducible refine load39g (l := x.com) (o := 77) (by kernel_rfl) ?_ Q0.out H.out.coml H.out.com ?_); rfl) | ((with_reducible refine load39g (l := x.com) (o := 77) (by kernel_rfl) ?_ Q1.out K.out.coml K.out.com ?_); rfl) | ((with_reducible refine eq39 (l := x.com) (by kernel_rfl) H.out.coml ?_ ?_ ?_); rfl; rfl))
  go_ret
  exact BPost.mk rfl K4.out

set_option maxRecDepth 100000 in
set_option maxHeartbeats 8000000 in
/-- Two lists that hold the same records. -/
theorem f_recs (va vb : Value) (l : List (Array Value × Rx)) (w : World) (ha : HoldsRs w va l) (hb : HoldsRs w vb l) (hll : l.length ≤ 1000000) (hst : ∀ p ∈ l, p.2.steps.length ≤ 1000000) (hdt : ∀ p ∈ l, p.2.data.length ≤ 1000000) : Calls Try.prog 35 #[va, vb] w (BPost true w) := by
  have HA := Lib.hid ha
  have HB := Lib.hid hb
  have HST := Lib.hid hst
  have HDT := Lib.hid hdt
  obtain ⟨a, c, rfl⟩ := ha.form
  obtain ⟨b, d, rfl⟩ := hb.form
  have t2 : ((l.length : Int) != l.length) = false := by simp
  clear ha hb hst hdt
  go_enter Try.func35, Try.ntmps35
  go_wp2_with fail
  go_loopw [5] (fun i wr => ∃ k : Nat, k ≤ l.length ∧ i = .int .i64 k ∧ Kept (fun _ => False) w wr) (fun i _ => l.length - (intOf i).toNat)
  case atStart => exact ⟨0, Nat.zero_le _, rfl, Kept.refl _ _⟩
  case round =>
    obtain ⟨k, hk, rfl, K⟩ := hrel
    have KR := Lib.hid K
    by_cases hlt : k < l.length
    · obtain ⟨b1, o1, c1, e1, r1⟩ := (HA.out.kept K).elem hlt
      obtain ⟨b2, o2, c2, e2, r2⟩ := (HB.out.kept K).elem hlt
      simp only [Value.slice.injEq, true_and] at e1 e2
      obtain ⟨rfl, rfl⟩ := e1
      obtain ⟨rfl, rfl⟩ := e2
      have hR1 : Hid (∀ w', Kept (fun _ => False) w w' → w'.rangeAt b1 (o1 + k * 109) l[k].1.toList) := fun w' kk => by
        obtain ⟨b7, o7, c7, e7, q7⟩ := (HA.out.kept kk).elem hlt
        simp only [Value.slice.injEq, Option.some.injEq, Addr.mk.injEq, true_and, and_true] at e7
        obtain ⟨⟨rfl, rfl⟩, rfl⟩ := e7
        exact q7
      have hR2 : Hid (∀ w', Kept (fun _ => False) w w' → w'.rangeAt b2 (o2 + k * 109) l[k].1.toList) := fun w' kk => by
        obtain ⟨b7, o7, c7, e7, q7⟩ := (HB.out.kept kk).elem hlt
        simp only [Value.slice.injEq, Option.some.injEq, Addr.mk.injEq, true_and, and_true] at e7
        obtain ⟨⟨rfl, rfl⟩, rfl⟩ := e7
        exact q7
      have hrin := (HA.out.kept K).rin l[k] (List.getElem_mem _)
      have hs := HST.out l[k] (List.getElem_mem _)
      have hd := HDT.out l[k] (List.getElem_mem _)
      generalize l[k] = p at hR1 hR2 hrin hs hd
      obtain ⟨C, x⟩ := p
      dsimp only at hR1 hR2 hrin hs hd
      have HRR : Hid (∀ w', Kept (fun _ => False) wr w' → Calls Try.prog 57 #[.agg C, .agg C] w' (BPost true w')) := fun w' kk => f_rrec C C x w' (hrin.kept kk) (hrin.kept kk) hs hd
      have hC := hrin.size
      clear r1 r2 hrin hs hd K
      go_upto_region 6 with (fail)
      have hd : Kept (fun _ => False) wr wr.drew := (Kept.refl _ _).drew
      refine wp_region_held_drew (S := fun w' => Kept (fun _ => False) wr w') (by kernel_rfl) hd (fun hHeld => ?_)
      refine wpAnyH_take (i := 0) (oi := ⟨some 17, _, _, _, _, _⟩) (v := .slice (some ⟨b1, o1, none⟩) l.length c) rfl (by kernel_rfl) (by kernel_rfl) (by kernel_rfl) (fun _ _ _ h => h) (Or.inl ⟨by kernel_rfl, fun w' hS => by go_simp⟩) (by assumption) ?_
      try simp only [Act.put, List.setIfInBounds_toArray, List.set_cons_succ, List.set_cons_zero]
      refine wpAnyH_take (i := 1) (oi := ⟨some 18, _, _, _, _, _⟩) (v := .int .i64 k) rfl (by kernel_rfl) (by kernel_rfl) (by kernel_rfl) (fun _ _ _ h => h) (Or.inl ⟨by kernel_rfl, fun w' hS => by go_simp⟩) (by assumption) ?_
      try simp only [Act.put, List.setIfInBounds_toArray, List.set_cons_succ, List.set_cons_zero]
      refine wpAnyH_take (i := 2) (oi := ⟨some 19, _, _, _, _, _⟩) (v := .pointer (some ⟨b1, o1 + k * 109, none⟩)) rfl (by kernel_rfl) (by kernel_rfl) (by kernel_rfl) (fun _ _ _ h => h) (Or.inl ⟨by kernel_rfl, fun w' hS => by go_simp⟩) (by assumption) ?_
      try simp only [Act.put, List.setIfInBounds_toArray, List.set_cons_succ, List.set_cons_zero]
      refine wpAnyH_take (i := 3) (oi := ⟨some 20, _, _, _, _, _⟩) (v := .agg C) rfl (by kernel_rfl) (by kernel_rfl) (by kernel_rfl) (fun _ _ _ h => h) (yields41o (g := b1) (o := o1 + k * 109) (by kernel_rfl) rfl (fun w' hS => hR1.out _ (KR.out.trans hS)) hC) (by assumption) ?_
      try simp only [Act.put, List.setIfInBounds_toArray, List.set_cons_succ, List.set_cons_zero]
      refine wpAnyH_take (i := 4) (oi := ⟨some 21, _, _, _, _, _⟩) (v := .slice (some ⟨b2, o2, none⟩) l.length d) rfl (by kernel_rfl) (by kernel_rfl) (by kernel_rfl) (fun _ _ _ h => h) (Or.inl ⟨by kernel_rfl, fun w' hS => by go_simp⟩) (by assumption) ?_
      try simp only [Act.put, List.setIfInBounds_toArray, List.set_cons_succ, List.set_cons_zero]
      refine wpAnyH_take (i := 5) (oi := ⟨some 22, _, _, _, _, _⟩) (v := .int .i64 k) rfl (by kernel_rfl) (by kernel_rfl) (by kernel_rfl) (fun _ _ _ h => h) (Or.inl ⟨by kernel_rfl, fun w' hS => by go_simp⟩) (by assumption) ?_
      try simp only [Act.put, List.setIfInBounds_toArray, List.set_cons_succ, List.set_cons_zero]
      refine wpAnyH_take (i := 6) (oi := ⟨some 23, _, _, _, _, _⟩) (v := .pointer (some ⟨b2, o2 + k * 109, none⟩)) rfl (by kernel_rfl) (by kernel_rfl) (by kernel_rfl) (fun _ _ _ h => h) (Or.inl ⟨by kernel_rfl, fun w' hS => by go_simp⟩) (by assumption) ?_
      try simp only [Act.put, List.setIfInBounds_toArray, List.set_cons_succ, List.set_cons_zero]
      refine wpAnyH_take (i := 7) (oi := ⟨some 24, _, _, _, _, _⟩) (v := .agg C) rfl (by kernel_rfl) (by kernel_rfl) (by kernel_rfl) (fun _ _ _ h => h) (yields41o (g := b2) (o := o2 + k * 109) (by kernel_rfl) rfl (fun w' hS => hR2.out _ (KR.out.trans hS)) hC) (by assumption) ?_
      try simp only [Act.put, List.setIfInBounds_toArray, List.set_cons_succ, List.set_cons_zero]
      refine wpAnyH_ready (rs := [8]) (by kernel_rfl) (by simp) ?_
      refine AllReadyH.cons (o := _) rfl (fun K hK => ?_) AllReadyH.nil
      go_simp
      refine (HRR.out _ hd).mono ?_
      rintro e wx1 ⟨rfl, kx1⟩
      go_wp2_with fail
      have hS1 := hd.trans kx1
      refine hK.out _ _ hS1 (fun hHeld => ?_)
      clear hK K
      try simp only [Act.put, List.setIfInBounds_toArray, List.set_cons_succ, List.set_cons_zero]
      refine wpAnyH_take (i := 9) (oi := ⟨some 26, _, _, _, _, _⟩) (v := .bool false) rfl (by kernel_rfl) (by kernel_rfl) (by kernel_rfl) (fun _ _ _ h => h) (Or.inl ⟨by kernel_rfl, fun w' hS => by go_simp⟩) (by assumption) ?_
      try simp only [Act.put, List.setIfInBounds_toArray, List.set_cons_succ, List.set_cons_zero]
      refine wpAnyH_done (by kernel_rfl) ?_ _
      have KF := Lib.hid (KR.out.trans hS1)
      clear kx1 hS1 hd
      go_wp2_with fail
      go_roundw
      case rel => exact ⟨k + 1, by omega, by go_num, KF.out⟩
      case measure => simp [intOf]; omega
    · obtain rfl : k = l.length := by omega
      clear K
      go_wp2_with fail
      go_ret
      exact BPost.mk rfl KR.out
end Go.Proofs.Ytklmhegmombegaa
