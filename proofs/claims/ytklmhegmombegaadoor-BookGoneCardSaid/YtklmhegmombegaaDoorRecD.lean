/-
  The contract of rec's kept. Conditions: as each theorem says.
-/
import Derived.Test.YtklmhegmombegaaDoorRecB
set_option linter.unusedVariables false
set_option linter.unusedSimpArgs false
namespace Go.Proofs.YtklmhegmombegaaDoor.Re
open Go Go.RowKit Go.Proofs.YtklmhegmombegaaDoor.Re.Plain

theorem row_cell' {w : World} {g k : Nat} {C : Array Value} {t : TypeId} {v : Value} (hg : w.heap[g]? = some (.cells C t (0, 0))) (h : C[k]? = some v) : w.cell? ⟨g, k, none⟩ = some v := (cell_of_row _ _ _ _ _ _ hg).trans h
/-- The memory of kept: the record, the result, what is made. -/
structure KIn (w wb : World) (C D : Array Value) : Prop where
  x : wb.heap[w.heap.size]? = some (.cells C 30 (0, 0))
  r : wb.heap[w.heap.size + 1]? = some (.cells Z30 30 (0, 0))
  y : wb.heap[w.heap.size + 1 + 1]? = some (.cells D 30 (0, 0))
  k : Kept (fun _ => False) w wb
theorem KIn.held {w wb w' : World} {C D : Array Value} (h : KIn w wb C D) (k : Kept (fun i => i = w.heap.size + 1 + 1) wb w') : w'.heap[w.heap.size]? = some (.cells C 30 (0, 0)) := (k.block _ (row_lt h.x) (by intro e; omega)).trans h.x
theorem KIn.step {w wb w' : World} {C D D' : Array Value} (h : KIn w wb C D) (k : Kept (fun i => i = w.heap.size + 1 + 1) wb w') (hy : w'.heap[w.heap.size + 1 + 1]? = some (.cells D' 30 (0, 0))) : KIn w w' C D' :=
  ⟨h.held k, (k.block _ (row_lt h.r) (by intro e; omega)).trans h.r, hy, h.k.trans' k (fun i hi e => by omega)⟩
theorem results_30 {fn : Func} {p : Tmp} (h : fn.results = #[.cell p 30]) (tmps : Array Value) (w : World) (g : Nat) {C : Array Value} {ty : TypeId} {fr : Nat × Nat}
    (hg : w.heap[g]? = some (.cells C ty fr)) (hC : C.size = 109) (hp : tmps.getD p undef = .pointer (some ⟨g, 0, none⟩)) :
    (results fn tmps).run Tryd.prog w = .ok (.agg C) w := by
  have hp' : tmps[p]?.getD undef = .pointer (some ⟨g, 0, none⟩) := by simpa using hp
  simp [results, h, hp', asAddr, run_loadVar_row (P := Tryd.prog) w g ty 30 C fr _ hg Tryd.underlying30 rfl (by rw [Tryd.isz30, hC])]
theorem build30k {ops : Array Oper} {rest : List Oper} {dst : Option Tmp} {ty : TypeId} {pos : String} {aft : Array Edge} {a : Act} {w : World} {Q : Exit → Act → World → Prop} {k : Int} {x : Nat} (hx : a.tmps[x]?.getD undef = .int .i64 k)
    (h : wpList Tryd.prog ops Q rest (a.put dst (.agg (Z30.setIfInBounds 0 (.int .i64 k)))) w) : wpList Tryd.prog ops Q (⟨dst, .build 30 #[(0, .tmp x)], ty, pos, aft, none⟩ :: rest) a w := by
  refine wpList_plain rfl fun K hK => ?_
  go_simp
  exact hK _ _ h
/-- A record is handed back. -/
def KpPost (x : Rx) (w : World) (e : Ending) (w' : World) : Prop := ∃ D, e = .returned (.agg D) ∧ RecIn w' D x ∧ Kept (fun _ => False) w w'

set_option maxRecDepth 100000 in
set_option maxHeartbeats 8000000 in
theorem f_kept (C : Array Value) (x : Rx) (w : World) (h : RecIn w C x) : Calls Tryd.prog 92 #[.agg C] w (KpPost (keptX x) w) := by
  obtain ⟨g0, g1, g2⟩ := heap_alloc3 w (.cells C 30) (.cells Z30 30) (.cells Z30 30)
  have K3 := (((Kept.refl (fun _ => False) w).alloc (.cells C 30)).alloc (.cells Z30 30)).alloc (.cells Z30 30)
  obtain ⟨vs, hvs, hhs⟩ := h.st
  obtain ⟨vd, hvd, hhd⟩ := h.da
  have HX := Lib.hid h
  have HVS := Lib.hid hvs
  have HVD := Lib.hid hvd
  have HHS := Lib.hid hhs
  have HHD := Lib.hid hhd
  have HVS1 : Hid (vs.oneCell' = true) := by obtain ⟨a, c, rfl, _⟩ := hhs; rfl
  have HVD1 : Hid (vd.oneCell' = true) := by obtain ⟨a, c, rfl, _⟩ := hhd; rfl
  have ga := heap_alloc2_old w (.cells C 30) (.cells Z30 30)
  have q0 := row_cell' ga h.c0
  have G2 := Lib.hid g2
  have KI0 : KIn w ((((w.alloc (.cells C 30)).alloc (.cells Z30 30)).alloc (.cells Z30 30)).setRow (w.heap.size + 1 + 1) (Z30.setIfInBounds 0 (.int .i64 x.kind))) C (Z30.setIfInBounds 0 (.int .i64 x.kind)) :=
    ⟨(setRow_other _ _ _ _ (by omega)).trans g0, (setRow_other _ _ _ _ (by omega)).trans g1, setRow_heap _ _ _ _ _ _ g2, K3.setRow (by omega) _⟩
  have KI := Lib.hid KI0
  have R : RecIn w (Z30.setIfInBounds 0 (.int .i64 x.kind)) { Rx.zero with kind := x.kind } := (RecIn.zero w).set_kind x.kind
  have hsz : w.heap.size + 1 + 1 = ((w.alloc (.cells C 30)).alloc (.cells Z30 30)).heap.size := by simp
  clear g0 g1 g2 K3 hvs hvd hhs hhd ga KI0 h
  go_enter Tryd.func92, Tryd.ntmps92
  go_upto_region 2 with (first | fail | (with_reducible refine alloc30 ?_) | ((with_reducible refine build30k (k := x.kind) ?_ ?_); rfl) | ((with_reducible refine store30 (C := Z30.setIfInBounds 0 (.int .i64 x.kind)) ?_ ?_ G2.out rfl R.size R.one ?_); (first | rfl | (rw [hsz]; rfl)); rfl))
  clear q0 G2 hsz
  generalize (((w.alloc (.cells C 30)).alloc (.cells Z30 30)).alloc (.cells Z30 30)).setRow _ (Z30.setIfInBounds 0 (.int .i64 x.kind)) = w2 at KI ⊢
  have p0 := row_cell' KI.out.x HX.out.c0
  by_cases k1 : x.kind = 1
  · have E1 : Hid (keptX x = (if x.gone = true then { Rx.zero with kind := x.kind, saga := x.saga, steps := x.steps, gone := x.gone, com := x.com } else { Rx.zero with kind := x.kind, saga := x.saga, steps := x.steps, gone := x.gone, data := x.data, salt := x.salt })) := by show _ = _; rw [keptX, if_pos k1]
    have t1 : (x.kind == 1) = true := by first | (rw [beq_iff_eq]; omega) | (rw [beq_eq_false_iff_ne]; omega)
    clear k1
    go_wp2_with fail
    clear p0
    refine wp_region_held_drew (S := fun w' => Kept (fun k => k = w.heap.size + 1 + 1) w2 w') (by kernel_rfl) ((Kept.refl (fun k => k = w.heap.size + 1 + 1) w2).drew) (fun hHeld => ?_)
    have hS0 : Kept (fun k => k = w.heap.size + 1 + 1) w2 w2.drew := (Kept.refl _ _).drew
    have Y0 : w2.drew.heap[w.heap.size + 1 + 1]? = some (.cells _ 30 (0, 0)) := KI.out.y
    refine wpAnyH_take (i := 0) (oi := ⟨some 20, _, _, _, _, _⟩) (v := .pointer (some ⟨w.heap.size, 1, none⟩)) rfl (by kernel_rfl) (by kernel_rfl) (by kernel_rfl) (fun _ _ _ h => h) (Or.inl ⟨by kernel_rfl, fun w' hS => by go_simp⟩) (by assumption) ?_
    try simp only [Act.put, List.setIfInBounds_toArray, List.set_cons_succ, List.set_cons_zero]
    refine wpAnyH_take (i := 1) (oi := ⟨some 21, _, _, _, _, _⟩) (v := .int .i64 x.saga) rfl (by kernel_rfl) (by kernel_rfl) (by kernel_rfl) (fun _ _ _ h => h) (Or.inl ⟨by kernel_rfl, fun w' hS => by have hc := row_cell' (KI.out.held hS) HX.out.c1; go_simp⟩) (by assumption) ?_
    try simp only [Act.put, List.setIfInBounds_toArray, List.set_cons_succ, List.set_cons_zero]
    refine wpAnyH_take (i := 2) (oi := ⟨some 22, _, _, _, _, _⟩) (v := .pointer (some ⟨w.heap.size, 42, none⟩)) rfl (by kernel_rfl) (by kernel_rfl) (by kernel_rfl) (fun _ _ _ h => h) (Or.inl ⟨by kernel_rfl, fun w' hS => by go_simp⟩) (by assumption) ?_
    try simp only [Act.put, List.setIfInBounds_toArray, List.set_cons_succ, List.set_cons_zero]
    refine wpAnyH_take (i := 3) (oi := ⟨some 23, _, _, _, _, _⟩) (v := vs) rfl (by kernel_rfl) (by kernel_rfl) (by kernel_rfl) (fun _ _ _ h => h) (Or.inl ⟨by kernel_rfl, fun w' hS => by have hc := row_cell' (KI.out.held hS) HVS.out; go_simp⟩) (by assumption) ?_
    try simp only [Act.put, List.setIfInBounds_toArray, List.set_cons_succ, List.set_cons_zero]
    refine wpAnyH_take (i := 4) (oi := ⟨some 24, _, _, _, _, _⟩) (v := .pointer (some ⟨w.heap.size, 76, none⟩)) rfl (by kernel_rfl) (by kernel_rfl) (by kernel_rfl) (fun _ _ _ h => h) (Or.inl ⟨by kernel_rfl, fun w' hS => by go_simp⟩) (by assumption) ?_
    try simp only [Act.put, List.setIfInBounds_toArray, List.set_cons_succ, List.set_cons_zero]
    refine wpAnyH_take (i := 5) (oi := ⟨some 25, _, _, _, _, _⟩) (v := .bool x.gone) rfl (by kernel_rfl) (by kernel_rfl) (by kernel_rfl) (fun _ _ _ h => h) (Or.inl ⟨by kernel_rfl, fun w' hS => by have hc := row_cell' (KI.out.held hS) HX.out.c76; go_simp⟩) (by assumption) ?_
    try simp only [Act.put, List.setIfInBounds_toArray, List.set_cons_succ, List.set_cons_zero]
    refine wpAnyH_take (i := 6) (oi := ⟨some 26, _, _, _, _, _⟩) (v := .pointer (some ⟨w.heap.size + 1 + 1, 1, none⟩)) rfl (by kernel_rfl) (by kernel_rfl) (by kernel_rfl) (fun _ _ _ h => h) (Or.inl ⟨by kernel_rfl, fun w' hS => by go_simp⟩) (by assumption) ?_
    try simp only [Act.put, List.setIfInBounds_toArray, List.set_cons_succ, List.set_cons_zero]
    refine wpAnyH_ready (rs := [7]) (by kernel_rfl) (by simp) ?_
    refine AllReadyH.cons (o := _) rfl (fun K hK => ?_) AllReadyH.nil
    refine step_put (g := w.heap.size + 1 + 1) (o := 1) (v := .int .i64 x.saga) (by kernel_rfl) rfl rfl rfl (by kernel_rfl) Y0 (by rw [R.size]; decide) ?_
    intro wn0 Y1 kn
    replace R := R.set_saga x.saga
    have hS1 := hS0.trans kn
    refine hK.out _ _ hS1 (fun hHeld => ?_)
    clear hK K kn hS0 Y0
    try simp only [Act.put, List.setIfInBounds_toArray, List.set_cons_succ, List.set_cons_zero]
    refine wpAnyH_take (i := 8) (oi := ⟨some 27, _, _, _, _, _⟩) (v := .pointer (some ⟨w.heap.size + 1 + 1, 42, none⟩)) rfl (by kernel_rfl) (by kernel_rfl) (by kernel_rfl) (fun _ _ _ h => h) (Or.inl ⟨by kernel_rfl, fun w' hS => by go_simp⟩) (by assumption) ?_
    try simp only [Act.put, List.setIfInBounds_toArray, List.set_cons_succ, List.set_cons_zero]
    refine wpAnyH_ready (rs := [9]) (by kernel_rfl) (by simp) ?_
    refine AllReadyH.cons (o := _) rfl (fun K hK => ?_) AllReadyH.nil
    refine step_put (g := w.heap.size + 1 + 1) (o := 42) (v := vs) (by kernel_rfl) rfl rfl HVS1.out (by kernel_rfl) Y1 (by rw [R.size]; decide) ?_
    intro wn1 Y2 kn
    replace R := R.set_steps HHS.out
    have hS2 := hS1.trans kn
    refine hK.out _ _ hS2 (fun hHeld => ?_)
    clear hK K kn hS1 Y1
    try simp only [Act.put, List.setIfInBounds_toArray, List.set_cons_succ, List.set_cons_zero]
    refine wpAnyH_take (i := 10) (oi := ⟨some 28, _, _, _, _, _⟩) (v := .pointer (some ⟨w.heap.size + 1 + 1, 76, none⟩)) rfl (by kernel_rfl) (by kernel_rfl) (by kernel_rfl) (fun _ _ _ h => h) (Or.inl ⟨by kernel_rfl, fun w' hS => by go_simp⟩) (by assumption) ?_
    try simp only [Act.put, List.setIfInBounds_toArray, List.set_cons_succ, List.set_cons_zero]
    refine wpAnyH_ready (rs := [11]) (by kernel_rfl) (by simp) ?_
    refine AllReadyH.cons (o := _) rfl (fun K hK => ?_) AllReadyH.nil
    refine step_put (g := w.heap.size + 1 + 1) (o := 76) (v := .bool x.gone) (by kernel_rfl) rfl rfl rfl (by kernel_rfl) Y2 (by rw [R.size]; decide) ?_
    intro wn2 Y3 kn
    replace R := R.set_gone x.gone
    have hS3 := hS2.trans kn
    refine hK.out _ _ hS3 (fun hHeld => ?_)
    clear hK K kn hS2 Y2
    try simp only [Act.put, List.setIfInBounds_toArray, List.set_cons_succ, List.set_cons_zero]
    refine wpAnyH_done (by kernel_rfl) ?_ _
    replace KI := Lib.hid (KI.out.step hS3 Y3)
    clear hS3 Y3
    generalize wn2 = w3 at KI ⊢
    have p76 := row_cell' KI.out.x HX.out.c76
    cases hgn : x.gone with
    | true =>
      have E : Hid (keptX x = { Rx.zero with kind := x.kind, saga := x.saga, steps := x.steps, gone := true, com := x.com }) := by show _ = _; rw [E1.out, if_pos hgn, hgn]
      rw [hgn] at p76 R KI
      have HY := Lib.hid KI.out.y
      have HZ := Lib.hid KI.out.x
      have RR := Lib.hid R
      go_upto_region 17 with (first | fail | ((with_reducible refine load26 (l := x.com) ?_ HZ.out HX.out.coml HX.out.com ?_); rfl) | ((with_reducible refine put26 (l := x.com) (o := 77) ?_ ?_ HX.out.coml HY.out (by rw [RR.out.size]; decide) ?_); rfl; rfl; intro wz Yz kz; have YZ := Lib.hid Yz; have KZ := Lib.hid kz; clear Yz kz))
      replace KI := Lib.hid (KI.out.step KZ.out YZ.out)
      replace R := R.set_com HX.out.coml
      clear HY HZ RR YZ KZ p76
      have KR := Lib.hid KI.out.r
      have RZ := Lib.hid R
      go_wp2_with (first | fail | ((with_reducible refine load30 (g := w.heap.size + 1 + 1) (o := 0) ?_ (range_row KI.out.y) RZ.out.size ?_); rfl) | ((with_reducible refine store30 ?_ ?_ KR.out rfl RZ.out.size RZ.out.one ?_); rfl; rfl))
      exact bodyPost_ret (results_30 rfl _ _ _ (setRow_heap _ _ _ _ _ _ KR.out) RZ.out.size rfl) rfl ⟨_, rfl, (by rw [E.out]; exact RZ.out.kept (KI.out.k.setRow (by omega) _)), KI.out.k.setRow (by omega) _⟩
    | false =>
      have E : Hid (keptX x = { Rx.zero with kind := x.kind, saga := x.saga, steps := x.steps, gone := false, data := x.data, salt := x.salt }) := by show _ = _; rw [E1.out, if_neg (by rw [hgn]; decide), hgn]
      rw [hgn] at p76 R KI
      go_wp2_with fail
      clear p76
      refine wp_region_held_drew (S := fun w' => Kept (fun k => k = w.heap.size + 1 + 1) w3 w') (by kernel_rfl) ((Kept.refl (fun k => k = w.heap.size + 1 + 1) w3).drew) (fun hHeld => ?_)
      have hS0 : Kept (fun k => k = w.heap.size + 1 + 1) w3 w3.drew := (Kept.refl _ _).drew
      have Y0 : w3.drew.heap[w.heap.size + 1 + 1]? = some (.cells _ 30 (0, 0)) := KI.out.y
      refine wpAnyH_take (i := 0) (oi := ⟨some 34, _, _, _, _, _⟩) (v := .pointer (some ⟨w.heap.size, 43, none⟩)) rfl (by kernel_rfl) (by kernel_rfl) (by kernel_rfl) (fun _ _ _ h => h) (Or.inl ⟨by kernel_rfl, fun w' hS => by go_simp⟩) (by assumption) ?_
      try simp only [Act.put, List.setIfInBounds_toArray, List.set_cons_succ, List.set_cons_zero]
      refine wpAnyH_take (i := 1) (oi := ⟨some 35, _, _, _, _, _⟩) (v := vd) rfl (by kernel_rfl) (by kernel_rfl) (by kernel_rfl) (fun _ _ _ h => h) (Or.inl ⟨by kernel_rfl, fun w' hS => by have hc := row_cell' (KI.out.held hS) HVD.out; go_simp⟩) (by assumption) ?_
      try simp only [Act.put, List.setIfInBounds_toArray, List.set_cons_succ, List.set_cons_zero]
      refine wpAnyH_take (i := 2) (oi := ⟨some 36, _, _, _, _, _⟩) (v := .pointer (some ⟨w.heap.size, 44, none⟩)) rfl (by kernel_rfl) (by kernel_rfl) (by kernel_rfl) (fun _ _ _ h => h) (Or.inl ⟨by kernel_rfl, fun w' hS => by go_simp⟩) (by assumption) ?_
      try simp only [Act.put, List.setIfInBounds_toArray, List.set_cons_succ, List.set_cons_zero]
      refine wpAnyH_take (i := 3) (oi := ⟨some 37, _, _, _, _, _⟩) (v := .agg (hbs x.salt).toArray) rfl (by kernel_rfl) (by kernel_rfl) (by kernel_rfl) (fun _ _ _ h => h) (yields26 (g := w.heap.size) (o := 44) (by kernel_rfl) rfl (fun w' hS => KI.out.held hS) HX.out.saltl HX.out.salt) (by assumption) ?_
      try simp only [Act.put, List.setIfInBounds_toArray, List.set_cons_succ, List.set_cons_zero]
      refine wpAnyH_take (i := 4) (oi := ⟨some 38, _, _, _, _, _⟩) (v := .pointer (some ⟨w.heap.size + 1 + 1, 43, none⟩)) rfl (by kernel_rfl) (by kernel_rfl) (by kernel_rfl) (fun _ _ _ h => h) (Or.inl ⟨by kernel_rfl, fun w' hS => by go_simp⟩) (by assumption) ?_
      try simp only [Act.put, List.setIfInBounds_toArray, List.set_cons_succ, List.set_cons_zero]
      refine wpAnyH_ready (rs := [5]) (by kernel_rfl) (by simp) ?_
      refine AllReadyH.cons (o := _) rfl (fun K hK => ?_) AllReadyH.nil
      refine step_put (g := w.heap.size + 1 + 1) (o := 43) (v := vd) (by kernel_rfl) rfl rfl HVD1.out (by kernel_rfl) Y0 (by rw [R.size]; decide) ?_
      intro wn0 Y1 kn
      replace R := R.set_data HHD.out
      have hS1 := hS0.trans kn
      refine hK.out _ _ hS1 (fun hHeld => ?_)
      clear hK K kn hS0 Y0
      try simp only [Act.put, List.setIfInBounds_toArray, List.set_cons_succ, List.set_cons_zero]
      refine wpAnyH_take (i := 6) (oi := ⟨some 39, _, _, _, _, _⟩) (v := .pointer (some ⟨w.heap.size + 1 + 1, 44, none⟩)) rfl (by kernel_rfl) (by kernel_rfl) (by kernel_rfl) (fun _ _ _ h => h) (Or.inl ⟨by kernel_rfl, fun w' hS => by go_simp⟩) (by assumption) ?_
      try simp only [Act.put, List.setIfInBounds_toArray, List.set_cons_succ, List.set_cons_zero]
      refine wpAnyH_ready (rs := [7]) (by kernel_rfl) (by simp) ?_
      refine AllReadyH.cons (o := _) rfl (fun K hK => ?_) AllReadyH.nil
      refine step_puts (g := w.heap.size + 1 + 1) (o := 44) (l := x.salt) (by kernel_rfl) rfl rfl HX.out.saltl Y1 (by rw [R.size]; decide) ?_
      intro wn1 Y2 kn
      replace R := R.set_salt HX.out.saltl
      have hS2 := hS1.trans kn
      refine hK.out _ _ hS2 (fun hHeld => ?_)
      clear hK K kn hS1 Y1
      try simp only [Act.put, List.setIfInBounds_toArray, List.set_cons_succ, List.set_cons_zero]
      refine wpAnyH_done (by kernel_rfl) ?_ _
      replace KI := Lib.hid (KI.out.step hS2 Y2)
      clear hS2 Y2
      have KR := Lib.hid KI.out.r
      have RZ := Lib.hid R
      go_wp2_with (first | fail | ((with_reducible refine load30 (g := w.heap.size + 1 + 1) (o := 0) ?_ (range_row KI.out.y) RZ.out.size ?_); rfl) | ((with_reducible refine store30 ?_ ?_ KR.out rfl RZ.out.size RZ.out.one ?_); rfl; rfl))
      exact bodyPost_ret (results_30 rfl _ _ _ (setRow_heap _ _ _ _ _ _ KR.out) RZ.out.size rfl) rfl ⟨_, rfl, (by rw [E.out]; exact RZ.out.kept (KI.out.k.setRow (by omega) _)), KI.out.k.setRow (by omega) _⟩
  by_cases k3 : x.kind = 3
  · have E : Hid (keptX x = { Rx.zero with kind := x.kind, good := x.good, part := x.part, epoch := x.epoch, tag := x.tag, saga := x.saga, seq := x.seq, step := x.step, tr := x.tr, bk := x.bk }) := by show _ = _; rw [keptX, if_neg k1, if_pos k3]
    have t1 : (x.kind == 1) = false := by first | (rw [beq_iff_eq]; omega) | (rw [beq_eq_false_iff_ne]; omega)
    have t3 : (x.kind == 3) = true := by first | (rw [beq_iff_eq]; omega) | (rw [beq_eq_false_iff_ne]; omega)
    clear k1 k3
    go_wp2_with fail
    clear p0
    refine wp_region_held_drew (S := fun w' => Kept (fun k => k = w.heap.size + 1 + 1) w2 w') (by kernel_rfl) ((Kept.refl (fun k => k = w.heap.size + 1 + 1) w2).drew) (fun hHeld => ?_)
    have hS0 : Kept (fun k => k = w.heap.size + 1 + 1) w2 w2.drew := (Kept.refl _ _).drew
    have Y0 : w2.drew.heap[w.heap.size + 1 + 1]? = some (.cells _ 30 (0, 0)) := KI.out.y
    refine wpAnyH_take (i := 0) (oi := ⟨some 40, _, _, _, _, _⟩) (v := .pointer (some ⟨w.heap.size, 6, none⟩)) rfl (by kernel_rfl) (by kernel_rfl) (by kernel_rfl) (fun _ _ _ h => h) (Or.inl ⟨by kernel_rfl, fun w' hS => by go_simp⟩) (by assumption) ?_
    try simp only [Act.put, List.setIfInBounds_toArray, List.set_cons_succ, List.set_cons_zero]
    refine wpAnyH_take (i := 1) (oi := ⟨some 41, _, _, _, _, _⟩) (v := .bool x.good) rfl (by kernel_rfl) (by kernel_rfl) (by kernel_rfl) (fun _ _ _ h => h) (Or.inl ⟨by kernel_rfl, fun w' hS => by have hc := row_cell' (KI.out.held hS) HX.out.c6; go_simp⟩) (by assumption) ?_
    try simp only [Act.put, List.setIfInBounds_toArray, List.set_cons_succ, List.set_cons_zero]
    refine wpAnyH_take (i := 2) (oi := ⟨some 42, _, _, _, _, _⟩) (v := .pointer (some ⟨w.heap.size, 8, none⟩)) rfl (by kernel_rfl) (by kernel_rfl) (by kernel_rfl) (fun _ _ _ h => h) (Or.inl ⟨by kernel_rfl, fun w' hS => by go_simp⟩) (by assumption) ?_
    try simp only [Act.put, List.setIfInBounds_toArray, List.set_cons_succ, List.set_cons_zero]
    refine wpAnyH_take (i := 3) (oi := ⟨some 43, _, _, _, _, _⟩) (v := .int .i64 x.part) rfl (by kernel_rfl) (by kernel_rfl) (by kernel_rfl) (fun _ _ _ h => h) (Or.inl ⟨by kernel_rfl, fun w' hS => by have hc := row_cell' (KI.out.held hS) HX.out.c8; go_simp⟩) (by assumption) ?_
    try simp only [Act.put, List.setIfInBounds_toArray, List.set_cons_succ, List.set_cons_zero]
    refine wpAnyH_take (i := 4) (oi := ⟨some 44, _, _, _, _, _⟩) (v := .pointer (some ⟨w.heap.size, 9, none⟩)) rfl (by kernel_rfl) (by kernel_rfl) (by kernel_rfl) (fun _ _ _ h => h) (Or.inl ⟨by kernel_rfl, fun w' hS => by go_simp⟩) (by assumption) ?_
    try simp only [Act.put, List.setIfInBounds_toArray, List.set_cons_succ, List.set_cons_zero]
    refine wpAnyH_take (i := 5) (oi := ⟨some 45, _, _, _, _, _⟩) (v := .int .i64 x.epoch) rfl (by kernel_rfl) (by kernel_rfl) (by kernel_rfl) (fun _ _ _ h => h) (Or.inl ⟨by kernel_rfl, fun w' hS => by have hc := row_cell' (KI.out.held hS) HX.out.c9; go_simp⟩) (by assumption) ?_
    try simp only [Act.put, List.setIfInBounds_toArray, List.set_cons_succ, List.set_cons_zero]
    refine wpAnyH_take (i := 6) (oi := ⟨some 46, _, _, _, _, _⟩) (v := .pointer (some ⟨w.heap.size, 10, none⟩)) rfl (by kernel_rfl) (by kernel_rfl) (by kernel_rfl) (fun _ _ _ h => h) (Or.inl ⟨by kernel_rfl, fun w' hS => by go_simp⟩) (by assumption) ?_
    try simp only [Act.put, List.setIfInBounds_toArray, List.set_cons_succ, List.set_cons_zero]
    refine wpAnyH_take (i := 7) (oi := ⟨some 47, _, _, _, _, _⟩) (v := .agg (hbs x.tag).toArray) rfl (by kernel_rfl) (by kernel_rfl) (by kernel_rfl) (fun _ _ _ h => h) (yields26 (g := w.heap.size) (o := 10) (by kernel_rfl) rfl (fun w' hS => KI.out.held hS) HX.out.tagl HX.out.tag) (by assumption) ?_
    try simp only [Act.put, List.setIfInBounds_toArray, List.set_cons_succ, List.set_cons_zero]
    refine wpAnyH_take (i := 8) (oi := ⟨some 48, _, _, _, _, _⟩) (v := .pointer (some ⟨w.heap.size + 1 + 1, 6, none⟩)) rfl (by kernel_rfl) (by kernel_rfl) (by kernel_rfl) (fun _ _ _ h => h) (Or.inl ⟨by kernel_rfl, fun w' hS => by go_simp⟩) (by assumption) ?_
    try simp only [Act.put, List.setIfInBounds_toArray, List.set_cons_succ, List.set_cons_zero]
    refine wpAnyH_ready (rs := [9]) (by kernel_rfl) (by simp) ?_
    refine AllReadyH.cons (o := _) rfl (fun K hK => ?_) AllReadyH.nil
    refine step_put (g := w.heap.size + 1 + 1) (o := 6) (v := .bool x.good) (by kernel_rfl) rfl rfl rfl (by kernel_rfl) Y0 (by rw [R.size]; decide) ?_
    intro wn0 Y1 kn
    replace R := R.set_good x.good
    have hS1 := hS0.trans kn
    refine hK.out _ _ hS1 (fun hHeld => ?_)
    clear hK K kn hS0 Y0
    try simp only [Act.put, List.setIfInBounds_toArray, List.set_cons_succ, List.set_cons_zero]
    refine wpAnyH_take (i := 10) (oi := ⟨some 49, _, _, _, _, _⟩) (v := .pointer (some ⟨w.heap.size + 1 + 1, 8, none⟩)) rfl (by kernel_rfl) (by kernel_rfl) (by kernel_rfl) (fun _ _ _ h => h) (Or.inl ⟨by kernel_rfl, fun w' hS => by go_simp⟩) (by assumption) ?_
    try simp only [Act.put, List.setIfInBounds_toArray, List.set_cons_succ, List.set_cons_zero]
    refine wpAnyH_ready (rs := [11]) (by kernel_rfl) (by simp) ?_
    refine AllReadyH.cons (o := _) rfl (fun K hK => ?_) AllReadyH.nil
    refine step_put (g := w.heap.size + 1 + 1) (o := 8) (v := .int .i64 x.part) (by kernel_rfl) rfl rfl rfl (by kernel_rfl) Y1 (by rw [R.size]; decide) ?_
    intro wn1 Y2 kn
    replace R := R.set_part x.part
    have hS2 := hS1.trans kn
    refine hK.out _ _ hS2 (fun hHeld => ?_)
    clear hK K kn hS1 Y1
    try simp only [Act.put, List.setIfInBounds_toArray, List.set_cons_succ, List.set_cons_zero]
    refine wpAnyH_take (i := 12) (oi := ⟨some 50, _, _, _, _, _⟩) (v := .pointer (some ⟨w.heap.size + 1 + 1, 9, none⟩)) rfl (by kernel_rfl) (by kernel_rfl) (by kernel_rfl) (fun _ _ _ h => h) (Or.inl ⟨by kernel_rfl, fun w' hS => by go_simp⟩) (by assumption) ?_
    try simp only [Act.put, List.setIfInBounds_toArray, List.set_cons_succ, List.set_cons_zero]
    refine wpAnyH_ready (rs := [13]) (by kernel_rfl) (by simp) ?_
    refine AllReadyH.cons (o := _) rfl (fun K hK => ?_) AllReadyH.nil
    refine step_put (g := w.heap.size + 1 + 1) (o := 9) (v := .int .i64 x.epoch) (by kernel_rfl) rfl rfl rfl (by kernel_rfl) Y2 (by rw [R.size]; decide) ?_
    intro wn2 Y3 kn
    replace R := R.set_epoch x.epoch
    have hS3 := hS2.trans kn
    refine hK.out _ _ hS3 (fun hHeld => ?_)
    clear hK K kn hS2 Y2
    try simp only [Act.put, List.setIfInBounds_toArray, List.set_cons_succ, List.set_cons_zero]
    refine wpAnyH_take (i := 14) (oi := ⟨some 51, _, _, _, _, _⟩) (v := .pointer (some ⟨w.heap.size + 1 + 1, 10, none⟩)) rfl (by kernel_rfl) (by kernel_rfl) (by kernel_rfl) (fun _ _ _ h => h) (Or.inl ⟨by kernel_rfl, fun w' hS => by go_simp⟩) (by assumption) ?_
    try simp only [Act.put, List.setIfInBounds_toArray, List.set_cons_succ, List.set_cons_zero]
    refine wpAnyH_ready (rs := [15]) (by kernel_rfl) (by simp) ?_
    refine AllReadyH.cons (o := _) rfl (fun K hK => ?_) AllReadyH.nil
    refine step_puts (g := w.heap.size + 1 + 1) (o := 10) (l := x.tag) (by kernel_rfl) rfl rfl HX.out.tagl Y3 (by rw [R.size]; decide) ?_
    intro wn3 Y4 kn
    replace R := R.set_tag HX.out.tagl
    have hS4 := hS3.trans kn
    refine hK.out _ _ hS4 (fun hHeld => ?_)
    clear hK K kn hS3 Y3
    try simp only [Act.put, List.setIfInBounds_toArray, List.set_cons_succ, List.set_cons_zero]
    refine wpAnyH_done (by kernel_rfl) ?_ _
    replace KI := Lib.hid (KI.out.step hS4 Y4)
    clear hS4 Y4
    generalize wn3 = w3 at KI ⊢
    go_wp2_with fail
    refine wp_region_held_drew (S := fun w' => Kept (fun k => k = w.heap.size + 1 + 1) w3 w') (by kernel_rfl) ((Kept.refl (fun k => k = w.heap.size + 1 + 1) w3).drew) (fun hHeld => ?_)
    have hS0 : Kept (fun k => k = w.heap.size + 1 + 1) w3 w3.drew := (Kept.refl _ _).drew
    have Y0 : w3.drew.heap[w.heap.size + 1 + 1]? = some (.cells _ 30 (0, 0)) := KI.out.y
    refine wpAnyH_take (i := 0) (oi := ⟨some 52, _, _, _, _, _⟩) (v := .pointer (some ⟨w.heap.size, 1, none⟩)) rfl (by kernel_rfl) (by kernel_rfl) (by kernel_rfl) (fun _ _ _ h => h) (Or.inl ⟨by kernel_rfl, fun w' hS => by go_simp⟩) (by assumption) ?_
    try simp only [Act.put, List.setIfInBounds_toArray, List.set_cons_succ, List.set_cons_zero]
    refine wpAnyH_take (i := 1) (oi := ⟨some 53, _, _, _, _, _⟩) (v := .int .i64 x.saga) rfl (by kernel_rfl) (by kernel_rfl) (by kernel_rfl) (fun _ _ _ h => h) (Or.inl ⟨by kernel_rfl, fun w' hS => by have hc := row_cell' (KI.out.held hS) HX.out.c1; go_simp⟩) (by assumption) ?_
    try simp only [Act.put, List.setIfInBounds_toArray, List.set_cons_succ, List.set_cons_zero]
    refine wpAnyH_take (i := 2) (oi := ⟨some 54, _, _, _, _, _⟩) (v := .pointer (some ⟨w.heap.size, 2, none⟩)) rfl (by kernel_rfl) (by kernel_rfl) (by kernel_rfl) (fun _ _ _ h => h) (Or.inl ⟨by kernel_rfl, fun w' hS => by go_simp⟩) (by assumption) ?_
    try simp only [Act.put, List.setIfInBounds_toArray, List.set_cons_succ, List.set_cons_zero]
    refine wpAnyH_take (i := 3) (oi := ⟨some 55, _, _, _, _, _⟩) (v := .int .i64 x.seq) rfl (by kernel_rfl) (by kernel_rfl) (by kernel_rfl) (fun _ _ _ h => h) (Or.inl ⟨by kernel_rfl, fun w' hS => by have hc := row_cell' (KI.out.held hS) HX.out.c2; go_simp⟩) (by assumption) ?_
    try simp only [Act.put, List.setIfInBounds_toArray, List.set_cons_succ, List.set_cons_zero]
    refine wpAnyH_take (i := 4) (oi := ⟨some 56, _, _, _, _, _⟩) (v := .pointer (some ⟨w.heap.size, 3, none⟩)) rfl (by kernel_rfl) (by kernel_rfl) (by kernel_rfl) (fun _ _ _ h => h) (Or.inl ⟨by kernel_rfl, fun w' hS => by go_simp⟩) (by assumption) ?_
    try simp only [Act.put, List.setIfInBounds_toArray, List.set_cons_succ, List.set_cons_zero]
    refine wpAnyH_take (i := 5) (oi := ⟨some 57, _, _, _, _, _⟩) (v := .int .i64 x.step) rfl (by kernel_rfl) (by kernel_rfl) (by kernel_rfl) (fun _ _ _ h => h) (Or.inl ⟨by kernel_rfl, fun w' hS => by have hc := row_cell' (KI.out.held hS) HX.out.c3; go_simp⟩) (by assumption) ?_
    try simp only [Act.put, List.setIfInBounds_toArray, List.set_cons_succ, List.set_cons_zero]
    refine wpAnyH_take (i := 6) (oi := ⟨some 58, _, _, _, _, _⟩) (v := .pointer (some ⟨w.heap.size, 4, none⟩)) rfl (by kernel_rfl) (by kernel_rfl) (by kernel_rfl) (fun _ _ _ h => h) (Or.inl ⟨by kernel_rfl, fun w' hS => by go_simp⟩) (by assumption) ?_
    try simp only [Act.put, List.setIfInBounds_toArray, List.set_cons_succ, List.set_cons_zero]
    refine wpAnyH_take (i := 7) (oi := ⟨some 59, _, _, _, _, _⟩) (v := .int .i64 x.tr) rfl (by kernel_rfl) (by kernel_rfl) (by kernel_rfl) (fun _ _ _ h => h) (Or.inl ⟨by kernel_rfl, fun w' hS => by have hc := row_cell' (KI.out.held hS) HX.out.c4; go_simp⟩) (by assumption) ?_
    try simp only [Act.put, List.setIfInBounds_toArray, List.set_cons_succ, List.set_cons_zero]
    refine wpAnyH_take (i := 8) (oi := ⟨some 60, _, _, _, _, _⟩) (v := .pointer (some ⟨w.heap.size, 5, none⟩)) rfl (by kernel_rfl) (by kernel_rfl) (by kernel_rfl) (fun _ _ _ h => h) (Or.inl ⟨by kernel_rfl, fun w' hS => by go_simp⟩) (by assumption) ?_
    try simp only [Act.put, List.setIfInBounds_toArray, List.set_cons_succ, List.set_cons_zero]
    refine wpAnyH_take (i := 9) (oi := ⟨some 61, _, _, _, _, _⟩) (v := .bool x.bk) rfl (by kernel_rfl) (by kernel_rfl) (by kernel_rfl) (fun _ _ _ h => h) (Or.inl ⟨by kernel_rfl, fun w' hS => by have hc := row_cell' (KI.out.held hS) HX.out.c5; go_simp⟩) (by assumption) ?_
    try simp only [Act.put, List.setIfInBounds_toArray, List.set_cons_succ, List.set_cons_zero]
    refine wpAnyH_take (i := 10) (oi := ⟨some 62, _, _, _, _, _⟩) (v := .pointer (some ⟨w.heap.size + 1 + 1, 1, none⟩)) rfl (by kernel_rfl) (by kernel_rfl) (by kernel_rfl) (fun _ _ _ h => h) (Or.inl ⟨by kernel_rfl, fun w' hS => by go_simp⟩) (by assumption) ?_
    try simp only [Act.put, List.setIfInBounds_toArray, List.set_cons_succ, List.set_cons_zero]
    refine wpAnyH_ready (rs := [11]) (by kernel_rfl) (by simp) ?_
    refine AllReadyH.cons (o := _) rfl (fun K hK => ?_) AllReadyH.nil
    refine step_put (g := w.heap.size + 1 + 1) (o := 1) (v := .int .i64 x.saga) (by kernel_rfl) rfl rfl rfl (by kernel_rfl) Y0 (by rw [R.size]; decide) ?_
    intro wn0 Y1 kn
    replace R := R.set_saga x.saga
    have hS1 := hS0.trans kn
    refine hK.out _ _ hS1 (fun hHeld => ?_)
    clear hK K kn hS0 Y0
    try simp only [Act.put, List.setIfInBounds_toArray, List.set_cons_succ, List.set_cons_zero]
    refine wpAnyH_take (i := 12) (oi := ⟨some 63, _, _, _, _, _⟩) (v := .pointer (some ⟨w.heap.size + 1 + 1, 2, none⟩)) rfl (by kernel_rfl) (by kernel_rfl) (by kernel_rfl) (fun _ _ _ h => h) (Or.inl ⟨by kernel_rfl, fun w' hS => by go_simp⟩) (by assumption) ?_
    try simp only [Act.put, List.setIfInBounds_toArray, List.set_cons_succ, List.set_cons_zero]
    refine wpAnyH_ready (rs := [13]) (by kernel_rfl) (by simp) ?_
    refine AllReadyH.cons (o := _) rfl (fun K hK => ?_) AllReadyH.nil
    refine step_put (g := w.heap.size + 1 + 1) (o := 2) (v := .int .i64 x.seq) (by kernel_rfl) rfl rfl rfl (by kernel_rfl) Y1 (by rw [R.size]; decide) ?_
    intro wn1 Y2 kn
    replace R := R.set_seq x.seq
    have hS2 := hS1.trans kn
    refine hK.out _ _ hS2 (fun hHeld => ?_)
    clear hK K kn hS1 Y1
    try simp only [Act.put, List.setIfInBounds_toArray, List.set_cons_succ, List.set_cons_zero]
    refine wpAnyH_take (i := 14) (oi := ⟨some 64, _, _, _, _, _⟩) (v := .pointer (some ⟨w.heap.size + 1 + 1, 3, none⟩)) rfl (by kernel_rfl) (by kernel_rfl) (by kernel_rfl) (fun _ _ _ h => h) (Or.inl ⟨by kernel_rfl, fun w' hS => by go_simp⟩) (by assumption) ?_
    try simp only [Act.put, List.setIfInBounds_toArray, List.set_cons_succ, List.set_cons_zero]
    refine wpAnyH_ready (rs := [15]) (by kernel_rfl) (by simp) ?_
    refine AllReadyH.cons (o := _) rfl (fun K hK => ?_) AllReadyH.nil
    refine step_put (g := w.heap.size + 1 + 1) (o := 3) (v := .int .i64 x.step) (by kernel_rfl) rfl rfl rfl (by kernel_rfl) Y2 (by rw [R.size]; decide) ?_
    intro wn2 Y3 kn
    replace R := R.set_step x.step
    have hS3 := hS2.trans kn
    refine hK.out _ _ hS3 (fun hHeld => ?_)
    clear hK K kn hS2 Y2
    try simp only [Act.put, List.setIfInBounds_toArray, List.set_cons_succ, List.set_cons_zero]
    refine wpAnyH_take (i := 16) (oi := ⟨some 65, _, _, _, _, _⟩) (v := .pointer (some ⟨w.heap.size + 1 + 1, 4, none⟩)) rfl (by kernel_rfl) (by kernel_rfl) (by kernel_rfl) (fun _ _ _ h => h) (Or.inl ⟨by kernel_rfl, fun w' hS => by go_simp⟩) (by assumption) ?_
    try simp only [Act.put, List.setIfInBounds_toArray, List.set_cons_succ, List.set_cons_zero]
    refine wpAnyH_ready (rs := [17]) (by kernel_rfl) (by simp) ?_
    refine AllReadyH.cons (o := _) rfl (fun K hK => ?_) AllReadyH.nil
    refine step_put (g := w.heap.size + 1 + 1) (o := 4) (v := .int .i64 x.tr) (by kernel_rfl) rfl rfl rfl (by kernel_rfl) Y3 (by rw [R.size]; decide) ?_
    intro wn3 Y4 kn
    replace R := R.set_tr x.tr
    have hS4 := hS3.trans kn
    refine hK.out _ _ hS4 (fun hHeld => ?_)
    clear hK K kn hS3 Y3
    try simp only [Act.put, List.setIfInBounds_toArray, List.set_cons_succ, List.set_cons_zero]
    refine wpAnyH_take (i := 18) (oi := ⟨some 66, _, _, _, _, _⟩) (v := .pointer (some ⟨w.heap.size + 1 + 1, 5, none⟩)) rfl (by kernel_rfl) (by kernel_rfl) (by kernel_rfl) (fun _ _ _ h => h) (Or.inl ⟨by kernel_rfl, fun w' hS => by go_simp⟩) (by assumption) ?_
    try simp only [Act.put, List.setIfInBounds_toArray, List.set_cons_succ, List.set_cons_zero]
    refine wpAnyH_ready (rs := [19]) (by kernel_rfl) (by simp) ?_
    refine AllReadyH.cons (o := _) rfl (fun K hK => ?_) AllReadyH.nil
    refine step_put (g := w.heap.size + 1 + 1) (o := 5) (v := .bool x.bk) (by kernel_rfl) rfl rfl rfl (by kernel_rfl) Y4 (by rw [R.size]; decide) ?_
    intro wn4 Y5 kn
    replace R := R.set_bk x.bk
    have hS5 := hS4.trans kn
    refine hK.out _ _ hS5 (fun hHeld => ?_)
    clear hK K kn hS4 Y4
    try simp only [Act.put, List.setIfInBounds_toArray, List.set_cons_succ, List.set_cons_zero]
    refine wpAnyH_done (by kernel_rfl) ?_ _
    replace KI := Lib.hid (KI.out.step hS5 Y5)
    clear hS5 Y5
    have KR := Lib.hid KI.out.r
    have RZ := Lib.hid R
    go_wp2_with (first | fail | ((with_reducible refine load30 (g := w.heap.size + 1 + 1) (o := 0) ?_ (range_row KI.out.y) RZ.out.size ?_); rfl) | ((with_reducible refine store30 ?_ ?_ KR.out rfl RZ.out.size RZ.out.one ?_); rfl; rfl))
    exact bodyPost_ret (results_30 rfl _ _ _ (setRow_heap _ _ _ _ _ _ KR.out) RZ.out.size rfl) rfl ⟨_, rfl, (by rw [E.out]; exact RZ.out.kept (KI.out.k.setRow (by omega) _)), KI.out.k.setRow (by omega) _⟩
  by_cases k2 : x.kind = 2
  · have E : Hid (keptX x = { Rx.zero with kind := x.kind, saga := x.saga, seq := x.seq, step := x.step, tr := x.tr, bk := x.bk }) := by show _ = _; rw [keptX, if_neg k1, if_neg k3, if_pos (by omega)]
    have t1 : (x.kind == 1) = false := by first | (rw [beq_iff_eq]; omega) | (rw [beq_eq_false_iff_ne]; omega)
    have t3 : (x.kind == 3) = false := by first | (rw [beq_iff_eq]; omega) | (rw [beq_eq_false_iff_ne]; omega)
    have t2 : (x.kind == 2) = true := by first | (rw [beq_iff_eq]; omega) | (rw [beq_eq_false_iff_ne]; omega)
    clear k1 k3 k2
    go_wp2_with fail
    clear p0
    refine wp_region_held_drew (S := fun w' => Kept (fun k => k = w.heap.size + 1 + 1) w2 w') (by kernel_rfl) ((Kept.refl (fun k => k = w.heap.size + 1 + 1) w2).drew) (fun hHeld => ?_)
    have hS0 : Kept (fun k => k = w.heap.size + 1 + 1) w2 w2.drew := (Kept.refl _ _).drew
    have Y0 : w2.drew.heap[w.heap.size + 1 + 1]? = some (.cells _ 30 (0, 0)) := KI.out.y
    refine wpAnyH_take (i := 0) (oi := ⟨some 52, _, _, _, _, _⟩) (v := .pointer (some ⟨w.heap.size, 1, none⟩)) rfl (by kernel_rfl) (by kernel_rfl) (by kernel_rfl) (fun _ _ _ h => h) (Or.inl ⟨by kernel_rfl, fun w' hS => by go_simp⟩) (by assumption) ?_
    try simp only [Act.put, List.setIfInBounds_toArray, List.set_cons_succ, List.set_cons_zero]
    refine wpAnyH_take (i := 1) (oi := ⟨some 53, _, _, _, _, _⟩) (v := .int .i64 x.saga) rfl (by kernel_rfl) (by kernel_rfl) (by kernel_rfl) (fun _ _ _ h => h) (Or.inl ⟨by kernel_rfl, fun w' hS => by have hc := row_cell' (KI.out.held hS) HX.out.c1; go_simp⟩) (by assumption) ?_
    try simp only [Act.put, List.setIfInBounds_toArray, List.set_cons_succ, List.set_cons_zero]
    refine wpAnyH_take (i := 2) (oi := ⟨some 54, _, _, _, _, _⟩) (v := .pointer (some ⟨w.heap.size, 2, none⟩)) rfl (by kernel_rfl) (by kernel_rfl) (by kernel_rfl) (fun _ _ _ h => h) (Or.inl ⟨by kernel_rfl, fun w' hS => by go_simp⟩) (by assumption) ?_
    try simp only [Act.put, List.setIfInBounds_toArray, List.set_cons_succ, List.set_cons_zero]
    refine wpAnyH_take (i := 3) (oi := ⟨some 55, _, _, _, _, _⟩) (v := .int .i64 x.seq) rfl (by kernel_rfl) (by kernel_rfl) (by kernel_rfl) (fun _ _ _ h => h) (Or.inl ⟨by kernel_rfl, fun w' hS => by have hc := row_cell' (KI.out.held hS) HX.out.c2; go_simp⟩) (by assumption) ?_
    try simp only [Act.put, List.setIfInBounds_toArray, List.set_cons_succ, List.set_cons_zero]
    refine wpAnyH_take (i := 4) (oi := ⟨some 56, _, _, _, _, _⟩) (v := .pointer (some ⟨w.heap.size, 3, none⟩)) rfl (by kernel_rfl) (by kernel_rfl) (by kernel_rfl) (fun _ _ _ h => h) (Or.inl ⟨by kernel_rfl, fun w' hS => by go_simp⟩) (by assumption) ?_
    try simp only [Act.put, List.setIfInBounds_toArray, List.set_cons_succ, List.set_cons_zero]
    refine wpAnyH_take (i := 5) (oi := ⟨some 57, _, _, _, _, _⟩) (v := .int .i64 x.step) rfl (by kernel_rfl) (by kernel_rfl) (by kernel_rfl) (fun _ _ _ h => h) (Or.inl ⟨by kernel_rfl, fun w' hS => by have hc := row_cell' (KI.out.held hS) HX.out.c3; go_simp⟩) (by assumption) ?_
    try simp only [Act.put, List.setIfInBounds_toArray, List.set_cons_succ, List.set_cons_zero]
    refine wpAnyH_take (i := 6) (oi := ⟨some 58, _, _, _, _, _⟩) (v := .pointer (some ⟨w.heap.size, 4, none⟩)) rfl (by kernel_rfl) (by kernel_rfl) (by kernel_rfl) (fun _ _ _ h => h) (Or.inl ⟨by kernel_rfl, fun w' hS => by go_simp⟩) (by assumption) ?_
    try simp only [Act.put, List.setIfInBounds_toArray, List.set_cons_succ, List.set_cons_zero]
    refine wpAnyH_take (i := 7) (oi := ⟨some 59, _, _, _, _, _⟩) (v := .int .i64 x.tr) rfl (by kernel_rfl) (by kernel_rfl) (by kernel_rfl) (fun _ _ _ h => h) (Or.inl ⟨by kernel_rfl, fun w' hS => by have hc := row_cell' (KI.out.held hS) HX.out.c4; go_simp⟩) (by assumption) ?_
    try simp only [Act.put, List.setIfInBounds_toArray, List.set_cons_succ, List.set_cons_zero]
    refine wpAnyH_take (i := 8) (oi := ⟨some 60, _, _, _, _, _⟩) (v := .pointer (some ⟨w.heap.size, 5, none⟩)) rfl (by kernel_rfl) (by kernel_rfl) (by kernel_rfl) (fun _ _ _ h => h) (Or.inl ⟨by kernel_rfl, fun w' hS => by go_simp⟩) (by assumption) ?_
    try simp only [Act.put, List.setIfInBounds_toArray, List.set_cons_succ, List.set_cons_zero]
    refine wpAnyH_take (i := 9) (oi := ⟨some 61, _, _, _, _, _⟩) (v := .bool x.bk) rfl (by kernel_rfl) (by kernel_rfl) (by kernel_rfl) (fun _ _ _ h => h) (Or.inl ⟨by kernel_rfl, fun w' hS => by have hc := row_cell' (KI.out.held hS) HX.out.c5; go_simp⟩) (by assumption) ?_
    try simp only [Act.put, List.setIfInBounds_toArray, List.set_cons_succ, List.set_cons_zero]
    refine wpAnyH_take (i := 10) (oi := ⟨some 62, _, _, _, _, _⟩) (v := .pointer (some ⟨w.heap.size + 1 + 1, 1, none⟩)) rfl (by kernel_rfl) (by kernel_rfl) (by kernel_rfl) (fun _ _ _ h => h) (Or.inl ⟨by kernel_rfl, fun w' hS => by go_simp⟩) (by assumption) ?_
    try simp only [Act.put, List.setIfInBounds_toArray, List.set_cons_succ, List.set_cons_zero]
    refine wpAnyH_ready (rs := [11]) (by kernel_rfl) (by simp) ?_
    refine AllReadyH.cons (o := _) rfl (fun K hK => ?_) AllReadyH.nil
    refine step_put (g := w.heap.size + 1 + 1) (o := 1) (v := .int .i64 x.saga) (by kernel_rfl) rfl rfl rfl (by kernel_rfl) Y0 (by rw [R.size]; decide) ?_
    intro wn0 Y1 kn
    replace R := R.set_saga x.saga
    have hS1 := hS0.trans kn
    refine hK.out _ _ hS1 (fun hHeld => ?_)
    clear hK K kn hS0 Y0
    try simp only [Act.put, List.setIfInBounds_toArray, List.set_cons_succ, List.set_cons_zero]
    refine wpAnyH_take (i := 12) (oi := ⟨some 63, _, _, _, _, _⟩) (v := .pointer (some ⟨w.heap.size + 1 + 1, 2, none⟩)) rfl (by kernel_rfl) (by kernel_rfl) (by kernel_rfl) (fun _ _ _ h => h) (Or.inl ⟨by kernel_rfl, fun w' hS => by go_simp⟩) (by assumption) ?_
    try simp only [Act.put, List.setIfInBounds_toArray, List.set_cons_succ, List.set_cons_zero]
    refine wpAnyH_ready (rs := [13]) (by kernel_rfl) (by simp) ?_
    refine AllReadyH.cons (o := _) rfl (fun K hK => ?_) AllReadyH.nil
    refine step_put (g := w.heap.size + 1 + 1) (o := 2) (v := .int .i64 x.seq) (by kernel_rfl) rfl rfl rfl (by kernel_rfl) Y1 (by rw [R.size]; decide) ?_
    intro wn1 Y2 kn
    replace R := R.set_seq x.seq
    have hS2 := hS1.trans kn
    refine hK.out _ _ hS2 (fun hHeld => ?_)
    clear hK K kn hS1 Y1
    try simp only [Act.put, List.setIfInBounds_toArray, List.set_cons_succ, List.set_cons_zero]
    refine wpAnyH_take (i := 14) (oi := ⟨some 64, _, _, _, _, _⟩) (v := .pointer (some ⟨w.heap.size + 1 + 1, 3, none⟩)) rfl (by kernel_rfl) (by kernel_rfl) (by kernel_rfl) (fun _ _ _ h => h) (Or.inl ⟨by kernel_rfl, fun w' hS => by go_simp⟩) (by assumption) ?_
    try simp only [Act.put, List.setIfInBounds_toArray, List.set_cons_succ, List.set_cons_zero]
    refine wpAnyH_ready (rs := [15]) (by kernel_rfl) (by simp) ?_
    refine AllReadyH.cons (o := _) rfl (fun K hK => ?_) AllReadyH.nil
    refine step_put (g := w.heap.size + 1 + 1) (o := 3) (v := .int .i64 x.step) (by kernel_rfl) rfl rfl rfl (by kernel_rfl) Y2 (by rw [R.size]; decide) ?_
    intro wn2 Y3 kn
    replace R := R.set_step x.step
    have hS3 := hS2.trans kn
    refine hK.out _ _ hS3 (fun hHeld => ?_)
    clear hK K kn hS2 Y2
    try simp only [Act.put, List.setIfInBounds_toArray, List.set_cons_succ, List.set_cons_zero]
    refine wpAnyH_take (i := 16) (oi := ⟨some 65, _, _, _, _, _⟩) (v := .pointer (some ⟨w.heap.size + 1 + 1, 4, none⟩)) rfl (by kernel_rfl) (by kernel_rfl) (by kernel_rfl) (fun _ _ _ h => h) (Or.inl ⟨by kernel_rfl, fun w' hS => by go_simp⟩) (by assumption) ?_
    try simp only [Act.put, List.setIfInBounds_toArray, List.set_cons_succ, List.set_cons_zero]
    refine wpAnyH_ready (rs := [17]) (by kernel_rfl) (by simp) ?_
    refine AllReadyH.cons (o := _) rfl (fun K hK => ?_) AllReadyH.nil
    refine step_put (g := w.heap.size + 1 + 1) (o := 4) (v := .int .i64 x.tr) (by kernel_rfl) rfl rfl rfl (by kernel_rfl) Y3 (by rw [R.size]; decide) ?_
    intro wn3 Y4 kn
    replace R := R.set_tr x.tr
    have hS4 := hS3.trans kn
    refine hK.out _ _ hS4 (fun hHeld => ?_)
    clear hK K kn hS3 Y3
    try simp only [Act.put, List.setIfInBounds_toArray, List.set_cons_succ, List.set_cons_zero]
    refine wpAnyH_take (i := 18) (oi := ⟨some 66, _, _, _, _, _⟩) (v := .pointer (some ⟨w.heap.size + 1 + 1, 5, none⟩)) rfl (by kernel_rfl) (by kernel_rfl) (by kernel_rfl) (fun _ _ _ h => h) (Or.inl ⟨by kernel_rfl, fun w' hS => by go_simp⟩) (by assumption) ?_
    try simp only [Act.put, List.setIfInBounds_toArray, List.set_cons_succ, List.set_cons_zero]
    refine wpAnyH_ready (rs := [19]) (by kernel_rfl) (by simp) ?_
    refine AllReadyH.cons (o := _) rfl (fun K hK => ?_) AllReadyH.nil
    refine step_put (g := w.heap.size + 1 + 1) (o := 5) (v := .bool x.bk) (by kernel_rfl) rfl rfl rfl (by kernel_rfl) Y4 (by rw [R.size]; decide) ?_
    intro wn4 Y5 kn
    replace R := R.set_bk x.bk
    have hS5 := hS4.trans kn
    refine hK.out _ _ hS5 (fun hHeld => ?_)
    clear hK K kn hS4 Y4
    try simp only [Act.put, List.setIfInBounds_toArray, List.set_cons_succ, List.set_cons_zero]
    refine wpAnyH_done (by kernel_rfl) ?_ _
    replace KI := Lib.hid (KI.out.step hS5 Y5)
    clear hS5 Y5
    have KR := Lib.hid KI.out.r
    have RZ := Lib.hid R
    go_wp2_with (first | fail | ((with_reducible refine load30 (g := w.heap.size + 1 + 1) (o := 0) ?_ (range_row KI.out.y) RZ.out.size ?_); rfl) | ((with_reducible refine store30 ?_ ?_ KR.out rfl RZ.out.size RZ.out.one ?_); rfl; rfl))
    exact bodyPost_ret (results_30 rfl _ _ _ (setRow_heap _ _ _ _ _ _ KR.out) RZ.out.size rfl) rfl ⟨_, rfl, (by rw [E.out]; exact RZ.out.kept (KI.out.k.setRow (by omega) _)), KI.out.k.setRow (by omega) _⟩
  by_cases k4 : x.kind = 4
  · have E : Hid (keptX x = { Rx.zero with kind := x.kind, saga := x.saga, seq := x.seq, step := x.step, tr := x.tr, bk := x.bk }) := by show _ = _; rw [keptX, if_neg k1, if_neg k3, if_pos (by omega)]
    have t1 : (x.kind == 1) = false := by first | (rw [beq_iff_eq]; omega) | (rw [beq_eq_false_iff_ne]; omega)
    have t3 : (x.kind == 3) = false := by first | (rw [beq_iff_eq]; omega) | (rw [beq_eq_false_iff_ne]; omega)
    have t2 : (x.kind == 2) = false := by first | (rw [beq_iff_eq]; omega) | (rw [beq_eq_false_iff_ne]; omega)
    have t4 : (x.kind == 4) = true := by first | (rw [beq_iff_eq]; omega) | (rw [beq_eq_false_iff_ne]; omega)
    clear k1 k3 k2 k4
    go_wp2_with fail
    clear p0
    refine wp_region_held_drew (S := fun w' => Kept (fun k => k = w.heap.size + 1 + 1) w2 w') (by kernel_rfl) ((Kept.refl (fun k => k = w.heap.size + 1 + 1) w2).drew) (fun hHeld => ?_)
    have hS0 : Kept (fun k => k = w.heap.size + 1 + 1) w2 w2.drew := (Kept.refl _ _).drew
    have Y0 : w2.drew.heap[w.heap.size + 1 + 1]? = some (.cells _ 30 (0, 0)) := KI.out.y
    refine wpAnyH_take (i := 0) (oi := ⟨some 52, _, _, _, _, _⟩) (v := .pointer (some ⟨w.heap.size, 1, none⟩)) rfl (by kernel_rfl) (by kernel_rfl) (by kernel_rfl) (fun _ _ _ h => h) (Or.inl ⟨by kernel_rfl, fun w' hS => by go_simp⟩) (by assumption) ?_
    try simp only [Act.put, List.setIfInBounds_toArray, List.set_cons_succ, List.set_cons_zero]
    refine wpAnyH_take (i := 1) (oi := ⟨some 53, _, _, _, _, _⟩) (v := .int .i64 x.saga) rfl (by kernel_rfl) (by kernel_rfl) (by kernel_rfl) (fun _ _ _ h => h) (Or.inl ⟨by kernel_rfl, fun w' hS => by have hc := row_cell' (KI.out.held hS) HX.out.c1; go_simp⟩) (by assumption) ?_
    try simp only [Act.put, List.setIfInBounds_toArray, List.set_cons_succ, List.set_cons_zero]
    refine wpAnyH_take (i := 2) (oi := ⟨some 54, _, _, _, _, _⟩) (v := .pointer (some ⟨w.heap.size, 2, none⟩)) rfl (by kernel_rfl) (by kernel_rfl) (by kernel_rfl) (fun _ _ _ h => h) (Or.inl ⟨by kernel_rfl, fun w' hS => by go_simp⟩) (by assumption) ?_
    try simp only [Act.put, List.setIfInBounds_toArray, List.set_cons_succ, List.set_cons_zero]
    refine wpAnyH_take (i := 3) (oi := ⟨some 55, _, _, _, _, _⟩) (v := .int .i64 x.seq) rfl (by kernel_rfl) (by kernel_rfl) (by kernel_rfl) (fun _ _ _ h => h) (Or.inl ⟨by kernel_rfl, fun w' hS => by have hc := row_cell' (KI.out.held hS) HX.out.c2; go_simp⟩) (by assumption) ?_
    try simp only [Act.put, List.setIfInBounds_toArray, List.set_cons_succ, List.set_cons_zero]
    refine wpAnyH_take (i := 4) (oi := ⟨some 56, _, _, _, _, _⟩) (v := .pointer (some ⟨w.heap.size, 3, none⟩)) rfl (by kernel_rfl) (by kernel_rfl) (by kernel_rfl) (fun _ _ _ h => h) (Or.inl ⟨by kernel_rfl, fun w' hS => by go_simp⟩) (by assumption) ?_
    try simp only [Act.put, List.setIfInBounds_toArray, List.set_cons_succ, List.set_cons_zero]
    refine wpAnyH_take (i := 5) (oi := ⟨some 57, _, _, _, _, _⟩) (v := .int .i64 x.step) rfl (by kernel_rfl) (by kernel_rfl) (by kernel_rfl) (fun _ _ _ h => h) (Or.inl ⟨by kernel_rfl, fun w' hS => by have hc := row_cell' (KI.out.held hS) HX.out.c3; go_simp⟩) (by assumption) ?_
    try simp only [Act.put, List.setIfInBounds_toArray, List.set_cons_succ, List.set_cons_zero]
    refine wpAnyH_take (i := 6) (oi := ⟨some 58, _, _, _, _, _⟩) (v := .pointer (some ⟨w.heap.size, 4, none⟩)) rfl (by kernel_rfl) (by kernel_rfl) (by kernel_rfl) (fun _ _ _ h => h) (Or.inl ⟨by kernel_rfl, fun w' hS => by go_simp⟩) (by assumption) ?_
    try simp only [Act.put, List.setIfInBounds_toArray, List.set_cons_succ, List.set_cons_zero]
    refine wpAnyH_take (i := 7) (oi := ⟨some 59, _, _, _, _, _⟩) (v := .int .i64 x.tr) rfl (by kernel_rfl) (by kernel_rfl) (by kernel_rfl) (fun _ _ _ h => h) (Or.inl ⟨by kernel_rfl, fun w' hS => by have hc := row_cell' (KI.out.held hS) HX.out.c4; go_simp⟩) (by assumption) ?_
    try simp only [Act.put, List.setIfInBounds_toArray, List.set_cons_succ, List.set_cons_zero]
    refine wpAnyH_take (i := 8) (oi := ⟨some 60, _, _, _, _, _⟩) (v := .pointer (some ⟨w.heap.size, 5, none⟩)) rfl (by kernel_rfl) (by kernel_rfl) (by kernel_rfl) (fun _ _ _ h => h) (Or.inl ⟨by kernel_rfl, fun w' hS => by go_simp⟩) (by assumption) ?_
    try simp only [Act.put, List.setIfInBounds_toArray, List.set_cons_succ, List.set_cons_zero]
    refine wpAnyH_take (i := 9) (oi := ⟨some 61, _, _, _, _, _⟩) (v := .bool x.bk) rfl (by kernel_rfl) (by kernel_rfl) (by kernel_rfl) (fun _ _ _ h => h) (Or.inl ⟨by kernel_rfl, fun w' hS => by have hc := row_cell' (KI.out.held hS) HX.out.c5; go_simp⟩) (by assumption) ?_
    try simp only [Act.put, List.setIfInBounds_toArray, List.set_cons_succ, List.set_cons_zero]
    refine wpAnyH_take (i := 10) (oi := ⟨some 62, _, _, _, _, _⟩) (v := .pointer (some ⟨w.heap.size + 1 + 1, 1, none⟩)) rfl (by kernel_rfl) (by kernel_rfl) (by kernel_rfl) (fun _ _ _ h => h) (Or.inl ⟨by kernel_rfl, fun w' hS => by go_simp⟩) (by assumption) ?_
    try simp only [Act.put, List.setIfInBounds_toArray, List.set_cons_succ, List.set_cons_zero]
    refine wpAnyH_ready (rs := [11]) (by kernel_rfl) (by simp) ?_
    refine AllReadyH.cons (o := _) rfl (fun K hK => ?_) AllReadyH.nil
    refine step_put (g := w.heap.size + 1 + 1) (o := 1) (v := .int .i64 x.saga) (by kernel_rfl) rfl rfl rfl (by kernel_rfl) Y0 (by rw [R.size]; decide) ?_
    intro wn0 Y1 kn
    replace R := R.set_saga x.saga
    have hS1 := hS0.trans kn
    refine hK.out _ _ hS1 (fun hHeld => ?_)
    clear hK K kn hS0 Y0
    try simp only [Act.put, List.setIfInBounds_toArray, List.set_cons_succ, List.set_cons_zero]
    refine wpAnyH_take (i := 12) (oi := ⟨some 63, _, _, _, _, _⟩) (v := .pointer (some ⟨w.heap.size + 1 + 1, 2, none⟩)) rfl (by kernel_rfl) (by kernel_rfl) (by kernel_rfl) (fun _ _ _ h => h) (Or.inl ⟨by kernel_rfl, fun w' hS => by go_simp⟩) (by assumption) ?_
    try simp only [Act.put, List.setIfInBounds_toArray, List.set_cons_succ, List.set_cons_zero]
    refine wpAnyH_ready (rs := [13]) (by kernel_rfl) (by simp) ?_
    refine AllReadyH.cons (o := _) rfl (fun K hK => ?_) AllReadyH.nil
    refine step_put (g := w.heap.size + 1 + 1) (o := 2) (v := .int .i64 x.seq) (by kernel_rfl) rfl rfl rfl (by kernel_rfl) Y1 (by rw [R.size]; decide) ?_
    intro wn1 Y2 kn
    replace R := R.set_seq x.seq
    have hS2 := hS1.trans kn
    refine hK.out _ _ hS2 (fun hHeld => ?_)
    clear hK K kn hS1 Y1
    try simp only [Act.put, List.setIfInBounds_toArray, List.set_cons_succ, List.set_cons_zero]
    refine wpAnyH_take (i := 14) (oi := ⟨some 64, _, _, _, _, _⟩) (v := .pointer (some ⟨w.heap.size + 1 + 1, 3, none⟩)) rfl (by kernel_rfl) (by kernel_rfl) (by kernel_rfl) (fun _ _ _ h => h) (Or.inl ⟨by kernel_rfl, fun w' hS => by go_simp⟩) (by assumption) ?_
    try simp only [Act.put, List.setIfInBounds_toArray, List.set_cons_succ, List.set_cons_zero]
    refine wpAnyH_ready (rs := [15]) (by kernel_rfl) (by simp) ?_
    refine AllReadyH.cons (o := _) rfl (fun K hK => ?_) AllReadyH.nil
    refine step_put (g := w.heap.size + 1 + 1) (o := 3) (v := .int .i64 x.step) (by kernel_rfl) rfl rfl rfl (by kernel_rfl) Y2 (by rw [R.size]; decide) ?_
    intro wn2 Y3 kn
    replace R := R.set_step x.step
    have hS3 := hS2.trans kn
    refine hK.out _ _ hS3 (fun hHeld => ?_)
    clear hK K kn hS2 Y2
    try simp only [Act.put, List.setIfInBounds_toArray, List.set_cons_succ, List.set_cons_zero]
    refine wpAnyH_take (i := 16) (oi := ⟨some 65, _, _, _, _, _⟩) (v := .pointer (some ⟨w.heap.size + 1 + 1, 4, none⟩)) rfl (by kernel_rfl) (by kernel_rfl) (by kernel_rfl) (fun _ _ _ h => h) (Or.inl ⟨by kernel_rfl, fun w' hS => by go_simp⟩) (by assumption) ?_
    try simp only [Act.put, List.setIfInBounds_toArray, List.set_cons_succ, List.set_cons_zero]
    refine wpAnyH_ready (rs := [17]) (by kernel_rfl) (by simp) ?_
    refine AllReadyH.cons (o := _) rfl (fun K hK => ?_) AllReadyH.nil
    refine step_put (g := w.heap.size + 1 + 1) (o := 4) (v := .int .i64 x.tr) (by kernel_rfl) rfl rfl rfl (by kernel_rfl) Y3 (by rw [R.size]; decide) ?_
    intro wn3 Y4 kn
    replace R := R.set_tr x.tr
    have hS4 := hS3.trans kn
    refine hK.out _ _ hS4 (fun hHeld => ?_)
    clear hK K kn hS3 Y3
    try simp only [Act.put, List.setIfInBounds_toArray, List.set_cons_succ, List.set_cons_zero]
    refine wpAnyH_take (i := 18) (oi := ⟨some 66, _, _, _, _, _⟩) (v := .pointer (some ⟨w.heap.size + 1 + 1, 5, none⟩)) rfl (by kernel_rfl) (by kernel_rfl) (by kernel_rfl) (fun _ _ _ h => h) (Or.inl ⟨by kernel_rfl, fun w' hS => by go_simp⟩) (by assumption) ?_
    try simp only [Act.put, List.setIfInBounds_toArray, List.set_cons_succ, List.set_cons_zero]
    refine wpAnyH_ready (rs := [19]) (by kernel_rfl) (by simp) ?_
    refine AllReadyH.cons (o := _) rfl (fun K hK => ?_) AllReadyH.nil
    refine step_put (g := w.heap.size + 1 + 1) (o := 5) (v := .bool x.bk) (by kernel_rfl) rfl rfl rfl (by kernel_rfl) Y4 (by rw [R.size]; decide) ?_
    intro wn4 Y5 kn
    replace R := R.set_bk x.bk
    have hS5 := hS4.trans kn
    refine hK.out _ _ hS5 (fun hHeld => ?_)
    clear hK K kn hS4 Y4
    try simp only [Act.put, List.setIfInBounds_toArray, List.set_cons_succ, List.set_cons_zero]
    refine wpAnyH_done (by kernel_rfl) ?_ _
    replace KI := Lib.hid (KI.out.step hS5 Y5)
    clear hS5 Y5
    have KR := Lib.hid KI.out.r
    have RZ := Lib.hid R
    go_wp2_with (first | fail | ((with_reducible refine load30 (g := w.heap.size + 1 + 1) (o := 0) ?_ (range_row KI.out.y) RZ.out.size ?_); rfl) | ((with_reducible refine store30 ?_ ?_ KR.out rfl RZ.out.size RZ.out.one ?_); rfl; rfl))
    exact bodyPost_ret (results_30 rfl _ _ _ (setRow_heap _ _ _ _ _ _ KR.out) RZ.out.size rfl) rfl ⟨_, rfl, (by rw [E.out]; exact RZ.out.kept (KI.out.k.setRow (by omega) _)), KI.out.k.setRow (by omega) _⟩
  by_cases k5 : x.kind = 5
  · have E : Hid (keptX x = { Rx.zero with kind := x.kind, saga := x.saga, seq := x.seq, nd := x.nd }) := by show _ = _; rw [keptX, if_neg k1, if_neg k3, if_neg (by omega), if_pos k5]
    have t1 : (x.kind == 1) = false := by first | (rw [beq_iff_eq]; omega) | (rw [beq_eq_false_iff_ne]; omega)
    have t3 : (x.kind == 3) = false := by first | (rw [beq_iff_eq]; omega) | (rw [beq_eq_false_iff_ne]; omega)
    have t2 : (x.kind == 2) = false := by first | (rw [beq_iff_eq]; omega) | (rw [beq_eq_false_iff_ne]; omega)
    have t4 : (x.kind == 4) = false := by first | (rw [beq_iff_eq]; omega) | (rw [beq_eq_false_iff_ne]; omega)
    have t5 : (x.kind == 5) = true := by first | (rw [beq_iff_eq]; omega) | (rw [beq_eq_false_iff_ne]; omega)
    clear k1 k3 k2 k4 k5
    go_wp2_with fail
    clear p0
    refine wp_region_held_drew (S := fun w' => Kept (fun k => k = w.heap.size + 1 + 1) w2 w') (by kernel_rfl) ((Kept.refl (fun k => k = w.heap.size + 1 + 1) w2).drew) (fun hHeld => ?_)
    have hS0 : Kept (fun k => k = w.heap.size + 1 + 1) w2 w2.drew := (Kept.refl _ _).drew
    have Y0 : w2.drew.heap[w.heap.size + 1 + 1]? = some (.cells _ 30 (0, 0)) := KI.out.y
    refine wpAnyH_take (i := 0) (oi := ⟨some 67, _, _, _, _, _⟩) (v := .pointer (some ⟨w.heap.size, 1, none⟩)) rfl (by kernel_rfl) (by kernel_rfl) (by kernel_rfl) (fun _ _ _ h => h) (Or.inl ⟨by kernel_rfl, fun w' hS => by go_simp⟩) (by assumption) ?_
    try simp only [Act.put, List.setIfInBounds_toArray, List.set_cons_succ, List.set_cons_zero]
    refine wpAnyH_take (i := 1) (oi := ⟨some 68, _, _, _, _, _⟩) (v := .int .i64 x.saga) rfl (by kernel_rfl) (by kernel_rfl) (by kernel_rfl) (fun _ _ _ h => h) (Or.inl ⟨by kernel_rfl, fun w' hS => by have hc := row_cell' (KI.out.held hS) HX.out.c1; go_simp⟩) (by assumption) ?_
    try simp only [Act.put, List.setIfInBounds_toArray, List.set_cons_succ, List.set_cons_zero]
    refine wpAnyH_take (i := 2) (oi := ⟨some 69, _, _, _, _, _⟩) (v := .pointer (some ⟨w.heap.size, 2, none⟩)) rfl (by kernel_rfl) (by kernel_rfl) (by kernel_rfl) (fun _ _ _ h => h) (Or.inl ⟨by kernel_rfl, fun w' hS => by go_simp⟩) (by assumption) ?_
    try simp only [Act.put, List.setIfInBounds_toArray, List.set_cons_succ, List.set_cons_zero]
    refine wpAnyH_take (i := 3) (oi := ⟨some 70, _, _, _, _, _⟩) (v := .int .i64 x.seq) rfl (by kernel_rfl) (by kernel_rfl) (by kernel_rfl) (fun _ _ _ h => h) (Or.inl ⟨by kernel_rfl, fun w' hS => by have hc := row_cell' (KI.out.held hS) HX.out.c2; go_simp⟩) (by assumption) ?_
    try simp only [Act.put, List.setIfInBounds_toArray, List.set_cons_succ, List.set_cons_zero]
    refine wpAnyH_take (i := 4) (oi := ⟨some 71, _, _, _, _, _⟩) (v := .pointer (some ⟨w.heap.size, 7, none⟩)) rfl (by kernel_rfl) (by kernel_rfl) (by kernel_rfl) (fun _ _ _ h => h) (Or.inl ⟨by kernel_rfl, fun w' hS => by go_simp⟩) (by assumption) ?_
    try simp only [Act.put, List.setIfInBounds_toArray, List.set_cons_succ, List.set_cons_zero]
    refine wpAnyH_take (i := 5) (oi := ⟨some 72, _, _, _, _, _⟩) (v := .int .i64 x.nd) rfl (by kernel_rfl) (by kernel_rfl) (by kernel_rfl) (fun _ _ _ h => h) (Or.inl ⟨by kernel_rfl, fun w' hS => by have hc := row_cell' (KI.out.held hS) HX.out.c7; go_simp⟩) (by assumption) ?_
    try simp only [Act.put, List.setIfInBounds_toArray, List.set_cons_succ, List.set_cons_zero]
    refine wpAnyH_take (i := 6) (oi := ⟨some 73, _, _, _, _, _⟩) (v := .pointer (some ⟨w.heap.size + 1 + 1, 1, none⟩)) rfl (by kernel_rfl) (by kernel_rfl) (by kernel_rfl) (fun _ _ _ h => h) (Or.inl ⟨by kernel_rfl, fun w' hS => by go_simp⟩) (by assumption) ?_
    try simp only [Act.put, List.setIfInBounds_toArray, List.set_cons_succ, List.set_cons_zero]
    refine wpAnyH_ready (rs := [7]) (by kernel_rfl) (by simp) ?_
    refine AllReadyH.cons (o := _) rfl (fun K hK => ?_) AllReadyH.nil
    refine step_put (g := w.heap.size + 1 + 1) (o := 1) (v := .int .i64 x.saga) (by kernel_rfl) rfl rfl rfl (by kernel_rfl) Y0 (by rw [R.size]; decide) ?_
    intro wn0 Y1 kn
    replace R := R.set_saga x.saga
    have hS1 := hS0.trans kn
    refine hK.out _ _ hS1 (fun hHeld => ?_)
    clear hK K kn hS0 Y0
    try simp only [Act.put, List.setIfInBounds_toArray, List.set_cons_succ, List.set_cons_zero]
    refine wpAnyH_take (i := 8) (oi := ⟨some 74, _, _, _, _, _⟩) (v := .pointer (some ⟨w.heap.size + 1 + 1, 2, none⟩)) rfl (by kernel_rfl) (by kernel_rfl) (by kernel_rfl) (fun _ _ _ h => h) (Or.inl ⟨by kernel_rfl, fun w' hS => by go_simp⟩) (by assumption) ?_
    try simp only [Act.put, List.setIfInBounds_toArray, List.set_cons_succ, List.set_cons_zero]
    refine wpAnyH_ready (rs := [9]) (by kernel_rfl) (by simp) ?_
    refine AllReadyH.cons (o := _) rfl (fun K hK => ?_) AllReadyH.nil
    refine step_put (g := w.heap.size + 1 + 1) (o := 2) (v := .int .i64 x.seq) (by kernel_rfl) rfl rfl rfl (by kernel_rfl) Y1 (by rw [R.size]; decide) ?_
    intro wn1 Y2 kn
    replace R := R.set_seq x.seq
    have hS2 := hS1.trans kn
    refine hK.out _ _ hS2 (fun hHeld => ?_)
    clear hK K kn hS1 Y1
    try simp only [Act.put, List.setIfInBounds_toArray, List.set_cons_succ, List.set_cons_zero]
    refine wpAnyH_take (i := 10) (oi := ⟨some 75, _, _, _, _, _⟩) (v := .pointer (some ⟨w.heap.size + 1 + 1, 7, none⟩)) rfl (by kernel_rfl) (by kernel_rfl) (by kernel_rfl) (fun _ _ _ h => h) (Or.inl ⟨by kernel_rfl, fun w' hS => by go_simp⟩) (by assumption) ?_
    try simp only [Act.put, List.setIfInBounds_toArray, List.set_cons_succ, List.set_cons_zero]
    refine wpAnyH_ready (rs := [11]) (by kernel_rfl) (by simp) ?_
    refine AllReadyH.cons (o := _) rfl (fun K hK => ?_) AllReadyH.nil
    refine step_put (g := w.heap.size + 1 + 1) (o := 7) (v := .int .i64 x.nd) (by kernel_rfl) rfl rfl rfl (by kernel_rfl) Y2 (by rw [R.size]; decide) ?_
    intro wn2 Y3 kn
    replace R := R.set_nd x.nd
    have hS3 := hS2.trans kn
    refine hK.out _ _ hS3 (fun hHeld => ?_)
    clear hK K kn hS2 Y2
    try simp only [Act.put, List.setIfInBounds_toArray, List.set_cons_succ, List.set_cons_zero]
    refine wpAnyH_done (by kernel_rfl) ?_ _
    replace KI := Lib.hid (KI.out.step hS3 Y3)
    clear hS3 Y3
    have KR := Lib.hid KI.out.r
    have RZ := Lib.hid R
    go_wp2_with (first | fail | ((with_reducible refine load30 (g := w.heap.size + 1 + 1) (o := 0) ?_ (range_row KI.out.y) RZ.out.size ?_); rfl) | ((with_reducible refine store30 ?_ ?_ KR.out rfl RZ.out.size RZ.out.one ?_); rfl; rfl))
    exact bodyPost_ret (results_30 rfl _ _ _ (setRow_heap _ _ _ _ _ _ KR.out) RZ.out.size rfl) rfl ⟨_, rfl, (by rw [E.out]; exact RZ.out.kept (KI.out.k.setRow (by omega) _)), KI.out.k.setRow (by omega) _⟩
  by_cases k6 : x.kind = 6
  · have E : Hid (keptX x = { Rx.zero with kind := x.kind, part := x.part, epoch := x.epoch }) := by show _ = _; rw [keptX, if_neg k1, if_neg k3, if_neg (by omega), if_neg k5, if_pos k6]
    have t1 : (x.kind == 1) = false := by first | (rw [beq_iff_eq]; omega) | (rw [beq_eq_false_iff_ne]; omega)
    have t3 : (x.kind == 3) = false := by first | (rw [beq_iff_eq]; omega) | (rw [beq_eq_false_iff_ne]; omega)
    have t2 : (x.kind == 2) = false := by first | (rw [beq_iff_eq]; omega) | (rw [beq_eq_false_iff_ne]; omega)
    have t4 : (x.kind == 4) = false := by first | (rw [beq_iff_eq]; omega) | (rw [beq_eq_false_iff_ne]; omega)
    have t5 : (x.kind == 5) = false := by first | (rw [beq_iff_eq]; omega) | (rw [beq_eq_false_iff_ne]; omega)
    have t6 : (x.kind == 6) = true := by first | (rw [beq_iff_eq]; omega) | (rw [beq_eq_false_iff_ne]; omega)
    clear k1 k3 k2 k4 k5 k6
    go_wp2_with fail
    clear p0
    refine wp_region_held_drew (S := fun w' => Kept (fun k => k = w.heap.size + 1 + 1) w2 w') (by kernel_rfl) ((Kept.refl (fun k => k = w.heap.size + 1 + 1) w2).drew) (fun hHeld => ?_)
    have hS0 : Kept (fun k => k = w.heap.size + 1 + 1) w2 w2.drew := (Kept.refl _ _).drew
    have Y0 : w2.drew.heap[w.heap.size + 1 + 1]? = some (.cells _ 30 (0, 0)) := KI.out.y
    refine wpAnyH_take (i := 0) (oi := ⟨some 76, _, _, _, _, _⟩) (v := .pointer (some ⟨w.heap.size, 8, none⟩)) rfl (by kernel_rfl) (by kernel_rfl) (by kernel_rfl) (fun _ _ _ h => h) (Or.inl ⟨by kernel_rfl, fun w' hS => by go_simp⟩) (by assumption) ?_
    try simp only [Act.put, List.setIfInBounds_toArray, List.set_cons_succ, List.set_cons_zero]
    refine wpAnyH_take (i := 1) (oi := ⟨some 77, _, _, _, _, _⟩) (v := .int .i64 x.part) rfl (by kernel_rfl) (by kernel_rfl) (by kernel_rfl) (fun _ _ _ h => h) (Or.inl ⟨by kernel_rfl, fun w' hS => by have hc := row_cell' (KI.out.held hS) HX.out.c8; go_simp⟩) (by assumption) ?_
    try simp only [Act.put, List.setIfInBounds_toArray, List.set_cons_succ, List.set_cons_zero]
    refine wpAnyH_take (i := 2) (oi := ⟨some 78, _, _, _, _, _⟩) (v := .pointer (some ⟨w.heap.size, 9, none⟩)) rfl (by kernel_rfl) (by kernel_rfl) (by kernel_rfl) (fun _ _ _ h => h) (Or.inl ⟨by kernel_rfl, fun w' hS => by go_simp⟩) (by assumption) ?_
    try simp only [Act.put, List.setIfInBounds_toArray, List.set_cons_succ, List.set_cons_zero]
    refine wpAnyH_take (i := 3) (oi := ⟨some 79, _, _, _, _, _⟩) (v := .int .i64 x.epoch) rfl (by kernel_rfl) (by kernel_rfl) (by kernel_rfl) (fun _ _ _ h => h) (Or.inl ⟨by kernel_rfl, fun w' hS => by have hc := row_cell' (KI.out.held hS) HX.out.c9; go_simp⟩) (by assumption) ?_
    try simp only [Act.put, List.setIfInBounds_toArray, List.set_cons_succ, List.set_cons_zero]
    refine wpAnyH_take (i := 4) (oi := ⟨some 80, _, _, _, _, _⟩) (v := .pointer (some ⟨w.heap.size + 1 + 1, 8, none⟩)) rfl (by kernel_rfl) (by kernel_rfl) (by kernel_rfl) (fun _ _ _ h => h) (Or.inl ⟨by kernel_rfl, fun w' hS => by go_simp⟩) (by assumption) ?_
    try simp only [Act.put, List.setIfInBounds_toArray, List.set_cons_succ, List.set_cons_zero]
    refine wpAnyH_ready (rs := [5]) (by kernel_rfl) (by simp) ?_
    refine AllReadyH.cons (o := _) rfl (fun K hK => ?_) AllReadyH.nil
    refine step_put (g := w.heap.size + 1 + 1) (o := 8) (v := .int .i64 x.part) (by kernel_rfl) rfl rfl rfl (by kernel_rfl) Y0 (by rw [R.size]; decide) ?_
    intro wn0 Y1 kn
    replace R := R.set_part x.part
    have hS1 := hS0.trans kn
    refine hK.out _ _ hS1 (fun hHeld => ?_)
    clear hK K kn hS0 Y0
    try simp only [Act.put, List.setIfInBounds_toArray, List.set_cons_succ, List.set_cons_zero]
    refine wpAnyH_take (i := 6) (oi := ⟨some 81, _, _, _, _, _⟩) (v := .pointer (some ⟨w.heap.size + 1 + 1, 9, none⟩)) rfl (by kernel_rfl) (by kernel_rfl) (by kernel_rfl) (fun _ _ _ h => h) (Or.inl ⟨by kernel_rfl, fun w' hS => by go_simp⟩) (by assumption) ?_
    try simp only [Act.put, List.setIfInBounds_toArray, List.set_cons_succ, List.set_cons_zero]
    refine wpAnyH_ready (rs := [7]) (by kernel_rfl) (by simp) ?_
    refine AllReadyH.cons (o := _) rfl (fun K hK => ?_) AllReadyH.nil
    refine step_put (g := w.heap.size + 1 + 1) (o := 9) (v := .int .i64 x.epoch) (by kernel_rfl) rfl rfl rfl (by kernel_rfl) Y1 (by rw [R.size]; decide) ?_
    intro wn1 Y2 kn
    replace R := R.set_epoch x.epoch
    have hS2 := hS1.trans kn
    refine hK.out _ _ hS2 (fun hHeld => ?_)
    clear hK K kn hS1 Y1
    try simp only [Act.put, List.setIfInBounds_toArray, List.set_cons_succ, List.set_cons_zero]
    refine wpAnyH_done (by kernel_rfl) ?_ _
    replace KI := Lib.hid (KI.out.step hS2 Y2)
    clear hS2 Y2
    have KR := Lib.hid KI.out.r
    have RZ := Lib.hid R
    go_wp2_with (first | fail | ((with_reducible refine load30 (g := w.heap.size + 1 + 1) (o := 0) ?_ (range_row KI.out.y) RZ.out.size ?_); rfl) | ((with_reducible refine store30 ?_ ?_ KR.out rfl RZ.out.size RZ.out.one ?_); rfl; rfl))
    exact bodyPost_ret (results_30 rfl _ _ _ (setRow_heap _ _ _ _ _ _ KR.out) RZ.out.size rfl) rfl ⟨_, rfl, (by rw [E.out]; exact RZ.out.kept (KI.out.k.setRow (by omega) _)), KI.out.k.setRow (by omega) _⟩
  have E : Hid (keptX x = { Rx.zero with kind := x.kind }) := by show _ = _; rw [keptX, if_neg k1, if_neg k3, if_neg (by omega), if_neg k5, if_neg k6]
  have t1 : (x.kind == 1) = false := by first | (rw [beq_iff_eq]; omega) | (rw [beq_eq_false_iff_ne]; omega)
  have t3 : (x.kind == 3) = false := by first | (rw [beq_iff_eq]; omega) | (rw [beq_eq_false_iff_ne]; omega)
  have t2 : (x.kind == 2) = false := by first | (rw [beq_iff_eq]; omega) | (rw [beq_eq_false_iff_ne]; omega)
  have t4 : (x.kind == 4) = false := by first | (rw [beq_iff_eq]; omega) | (rw [beq_eq_false_iff_ne]; omega)
  have t5 : (x.kind == 5) = false := by first | (rw [beq_iff_eq]; omega) | (rw [beq_eq_false_iff_ne]; omega)
  have t6 : (x.kind == 6) = false := by first | (rw [beq_iff_eq]; omega) | (rw [beq_eq_false_iff_ne]; omega)
  clear k1 k3 k2 k4 k5 k6
  have KR := Lib.hid KI.out.r
  have RZ := Lib.hid R
  go_wp2_with (first | fail | ((with_reducible refine load30 (g := w.heap.size + 1 + 1) (o := 0) ?_ (range_row KI.out.y) RZ.out.size ?_); rfl) | ((with_reducible refine store30 ?_ ?_ KR.out rfl RZ.out.size RZ.out.one ?_); rfl; rfl))
  exact bodyPost_ret (results_30 rfl _ _ _ (setRow_heap _ _ _ _ _ _ KR.out) RZ.out.size rfl) rfl ⟨_, rfl, (by rw [E.out]; exact RZ.out.kept (KI.out.k.setRow (by omega) _)), KI.out.k.setRow (by omega) _⟩
end Go.Proofs.YtklmhegmombegaaDoor.Re
