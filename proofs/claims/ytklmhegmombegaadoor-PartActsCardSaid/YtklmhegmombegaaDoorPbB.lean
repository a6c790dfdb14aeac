/-
  The contracts of the reference's good (71) and Take (40). Conditions: as each theorem says.
  The contract of the reference's Take (40). Conditions: as each theorem says.
-/
import Derived.Test.YtklmhegmombegaaDoorPbA
set_option linter.unusedVariables false
set_option linter.unusedSimpArgs false
set_option maxRecDepth 100000
namespace Go.Proofs.YtklmhegmombegaaDoor
open Go Go.RowKit Plain
/-- The reference's participant has answered. -/
def PrPost (v : Value) (w0 w : World) (g : Nat) (pv wv : Value) (k : Ky) (n ep : Int) (l : List En) (sv : Value) (e : Ending) (w' : World) : Prop :=
  e = .returned v ∧ ∃ sv', Pr w0 w' g pv wv sv' k n ep l ∧ Kept (fun i => i = g) w w' ∧ (sv' = sv ∨ ∀ i, sv'.ownBlock = some i → w.heap.size ≤ i)
theorem PrPost.mk {v v' : Value} {w0 w w' : World} {g : Nat} {pv wv sv sv' : Value} {k : Ky} {n ep : Int} {l l' : List En} (hv : v' = v) (hl : l' = l) (h : Pr w0 w' g pv wv sv' k n ep l') (kk : Kept (fun i => i = g) w w') (ho : sv' = sv ∨ ∀ i, sv'.ownBlock = some i → w.heap.size ≤ i) : PrPost v w0 w g pv wv k n ep l sv (.returned v') w' := by
  subst hv hl; exact ⟨rfl, sv', h, kk, ho⟩
theorem PrPost.stay {v v' : Value} {w0 w w' : World} {g : Nat} {pv wv sv : Value} {k : Ky} {n ep : Int} {l l' : List En} (hv : v' = v) (hl : l' = l) (h : Pr w0 w g pv wv sv k n ep l') (kk : Kept (fun _ => False) w w') : PrPost v w0 w g pv wv k n ep l sv (.returned v') w' :=
  PrPost.mk hv hl (h.same kk) (kk.mono (fun _ _ e => e.elim)) (.inl rfl)
theorem prC_set (pv wv sv sv' : Value) (need n ep : Int) : (prC pv wv need n ep sv).setIfInBounds 5 sv' = prC pv wv need n ep sv' := rfl
theorem PrPost.noted {v v' : Value} {w0 w w6 : World} {g base : Nat} {pv wv sv sv' : Value} {k : Ky} {n ep : Int} {l l' : List En} {x : En} (hv : v' = v) (hl : l' = l ++ [x]) (h : Pr w0 w g pv wv sv k n ep l) (kk : Kept (fun _ => False) w w6)
    (hb : Buf w6 base 76 4 sv' (l.length + 1) (ensC l ++ enC x)) (hbase : w.heap.size ≤ base) : PrPost v w0 w g pv wv k n ep l' sv (.returned v') (w6.setCell ⟨g, 5, none⟩ sv') := by
  subst hv hl
  have hg := kk.row h.blk
  have hk : Kept (fun i => i = g) w (w6.setCell ⟨g, 5, none⟩ sv') := (kk.mono (T := fun i => i = g) (fun _ _ e => e.elim)).setCell (p := ⟨g, 5, none⟩) (.inl rfl) sv'
  refine ⟨rfl, sv', ⟨?_, ?_, h.keys, h.laid, h.kept.trans' hk (fun i _ hi => by have e : i = g := hi; rw [e]; exact h.lo), h.lo⟩, hk, .inr fun i hi => Nat.le_trans hbase (hb.lt i hi).1⟩
  · have := setCell_block (k := 5) hg sv'
    rw [prC_set] at this
    exact this
  · have h1 := (hb.mono (Nat.le_trans h.kept.size hbase)).setCell (a := ⟨g, 5, none⟩) (hb.ne_of_type hg (by decide)) sv'
    rw [ensC_snoc, List.length_append]
    exact h1
theorem buf_empty (w : World) (base : Nat) (hb : base ≤ w.heap.size) : Buf (w.alloc (.cells #[] 76)) base 76 4 (.slice (some ⟨w.heap.size, 0, none⟩) 0 0) 0 [] :=
  ⟨rfl, .inr ⟨w.heap.size, 0, #[], rfl, hb, heap_alloc_new w _, Nat.le_refl _, Nat.zero_le _, by simp, by simp⟩⟩
set_option maxHeartbeats 16000000 in
theorem f_rgood (w0 : World) (g : Nat) (pv wv sv : Value) (k : Ky) (n ep : Int) (l : List En) (c : Cl) (refuse : Bool) (w : World) (h : Pr w0 w g pv wv sv k n ep l) (hl : l.length ≤ 1000) :
    Calls Tryd.prog 71 #[.pointer (some ⟨g, 0, none⟩), .agg (clC c), .bool refuse] w (PrPost (.bool (pSays l c refuse).1) w0 w g pv wv k n ep (pSays l c refuse).2 sv) := by
  obtain ⟨i76, hi76, hs76, hb76, hz76⟩ := info76'
  obtain ⟨Y, hY⟩ : ∃ Y, Y = pSays l c refuse := ⟨_, rfl⟩
  rw [← hY]
  have HY := Lib.hid hY
  clear hY
  have k1 := (Kept.refl (fun _ => False) w).alloc (.cells (clC c) 59)
  have GC := Lib.hid (heap_alloc_new w (.cells (clC c) 59))
  have HP1 := Lib.hid (h.same k1)
  have HPW := Lib.hid h
  have K1 := Lib.hid k1
  have HL := Lib.hid hl
  have HI := Lib.hid (And.intro hi76 (And.intro hs76 (And.intro hb76 hz76)))
  have HH := Lib.hid (f_rhas w0 g pv wv sv k n ep l c.saga c.step c.back _ (h.same k1) hl)
  have c0 := row_cell (k := 0) GC.out (v := .int .i64 c.saga) (by simp [clC])
  have c1 := row_cell (k := 1) GC.out (v := .int .i64 c.step) (by simp [clC])
  have c3 := row_cell (k := 3) GC.out (v := .bool c.back) (by simp [clC])
  clear k1 h hl hi76 hs76 hb76 hz76
  go_enter Tryd.func71, Tryd.ntmps71
  go_upto_region 1 with (fail)
  generalize w.alloc (.cells (clC c) 59) = w1 at *
  go_wp2_with fail
  refine HH.out.mono ?_
  rintro e w2 ⟨rfl, k2⟩
  have GC2 := Lib.hid (k2.row GC.out)
  have HP2 := Lib.hid (HP1.out.same k2)
  have K2 := Lib.hid (K1.out.trans k2)
  clear c0 c1 c3 GC HP1 K1 k2 HH
  cases hhd : hadE l (c.saga, c.step, c.back) with
  | some b =>
    have HYB : Hid (Y = (b, l)) := by show _ = _; rw [HY.out]; unfold pSays; rw [hhd]
    cases b with
    | false =>
      have d0 : (hasI (some false)) = 1 := rfl
      rw [d0]
      go_wp2_with fail
      go_ret
      exact PrPost.stay (by rw [HYB.out]; rfl) (by rw [HYB.out]) HPW.out K2.out
    | true =>
      have d0 : (hasI (some true)) = 2 := rfl
      rw [d0]
      go_wp2_with fail
      go_ret
      exact PrPost.stay (by rw [HYB.out]; rfl) (by rw [HYB.out]) HPW.out K2.out
  | none =>
    have d0 : (hasI none) = 0 := rfl
    rw [d0]
    have HYN : Hid (Y = (pGood l c refuse, if pNotes l c refuse = true then l ++ [⟨c.saga, c.step, c.back, pGood l c refuse⟩] else l)) := by show _ = _; rw [HY.out]; unfold pSays; rw [hhd]
    clear d0 hhd
    have c3 := row_cell (k := 3) GC2.out (v := .bool c.back) (by simp [clC])
    cases hbk : c.back with
    | true =>
      rw [hbk] at c3
      cases refuse with
      | true =>
        go_wp2_with fail
        go_ret
        exact PrPost.stay (by rw [HYN.out]; simp [pGood]) (by rw [HYN.out]; simp [pNotes, pGood, hbk]) HPW.out K2.out
      | false =>
        have hxx : Hid (Y.2 = l ++ [⟨c.saga, c.step, true, true⟩]) := by
          show _ = _
          rw [HYN.out]
          simp [pNotes, pGood, pUndone, hbk]
        have hvv : Hid (Y.1 = true) := by show _ = _; rw [HYN.out]; simp [pGood, pUndone, hbk]
        clear hbk
        go_upto_region 6 with (fail)
        obtain ⟨sa, sc, rfl, _⟩ := HP2.out.buf.form
        have kd := (Kept.refl (fun _ => False) w2).drew
        have HPd := Lib.hid (HP2.out.same kd)
        have GCd := Lib.hid (kd.row GC2.out)
        have Kd := Lib.hid (K2.out.trans kd)
        clear kd HP2 GC2 K2
        refine wp_region_last_drew (S := fun w' => Kept (fun _ => False) w2.drew w') 16 (by kernel_rfl) (Kept.refl _ _) (fun hHeld => ?_)
        generalize w2.drew = w4 at *
        have hS0 : Kept (fun _ => False) w4 w4 := Kept.refl _ _
        refine wpAnyL_take (i := 0) (oi := ⟨some 25, _, _, _, _, _⟩) (v := .pointer (some ⟨g, 0, none⟩)) [16] rfl (by kernel_rfl) (by kernel_rfl) (by kernel_rfl) (by kernel_rfl) (fun _ _ _ h => h) (Or.inl ⟨by kernel_rfl, fun w' hS => by go_simp⟩) (by assumption) ?_
        try simp only [Act.put, List.setIfInBounds_toArray, List.set_cons_succ, List.set_cons_zero]
        refine wpAnyL_take (i := 2) (oi := ⟨some 27, _, _, _, _, _⟩) (v := .pointer (some ⟨g, 0, none⟩)) [16] rfl (by kernel_rfl) (by kernel_rfl) (by kernel_rfl) (by kernel_rfl) (fun _ _ _ h => h) (Or.inl ⟨by kernel_rfl, fun w' hS => by go_simp⟩) (by assumption) ?_
        try simp only [Act.put, List.setIfInBounds_toArray, List.set_cons_succ, List.set_cons_zero]
        refine wpAnyL_take (i := 3) (oi := ⟨some 28, _, _, _, _, _⟩) (v := .pointer (some ⟨g, 0, none⟩)) [16] rfl (by kernel_rfl) (by kernel_rfl) (by kernel_rfl) (by kernel_rfl) (fun _ _ _ h => h) (Or.inl ⟨by kernel_rfl, fun w' hS => by go_simp⟩) (by assumption) ?_
        try simp only [Act.put, List.setIfInBounds_toArray, List.set_cons_succ, List.set_cons_zero]
        refine wpAnyL_take (i := 4) (oi := ⟨some 29, _, _, _, _, _⟩) (v := .pointer (some ⟨g, 5, none⟩)) [16] rfl (by kernel_rfl) (by kernel_rfl) (by kernel_rfl) (by kernel_rfl) (fun _ _ _ h => h) (Or.inl ⟨by kernel_rfl, fun w' hS => by go_simp⟩) (by assumption) ?_
        try simp only [Act.put, List.setIfInBounds_toArray, List.set_cons_succ, List.set_cons_zero]
        refine wpAnyL_take (i := 5) (oi := ⟨some 30, _, _, _, _, _⟩) (v := .slice sa l.length sc) [16] rfl (by kernel_rfl) (by kernel_rfl) (by kernel_rfl) (by kernel_rfl) (fun _ _ _ h => h) (Or.inl ⟨by kernel_rfl, fun w' hS => by have c := row_cell (k := 5) (hS.row HPd.out.blk) (v := .slice sa l.length sc) (rfl); go_simp⟩) (by assumption) ?_
        try simp only [Act.put, List.setIfInBounds_toArray, List.set_cons_succ, List.set_cons_zero]
        refine wpAnyL_take (i := 7) (oi := ⟨some 32, _, _, _, _, _⟩) (v := .pointer (some ⟨w.heap.size, 0, none⟩)) [16] rfl (by kernel_rfl) (by kernel_rfl) (by kernel_rfl) (by kernel_rfl) (fun _ _ _ h => h) (Or.inl ⟨by kernel_rfl, fun w' hS => by go_simp⟩) (by assumption) ?_
        try simp only [Act.put, List.setIfInBounds_toArray, List.set_cons_succ, List.set_cons_zero]
        refine wpAnyL_take (i := 8) (oi := ⟨some 33, _, _, _, _, _⟩) (v := .int .i64 c.saga) [16] rfl (by kernel_rfl) (by kernel_rfl) (by kernel_rfl) (by kernel_rfl) (fun _ _ _ h => h) (Or.inl ⟨by kernel_rfl, fun w' hS => by have c := row_cell (k := 0) (hS.row GCd.out) (v := .int .i64 c.saga) (by simp [clC]); go_simp⟩) (by assumption) ?_
        try simp only [Act.put, List.setIfInBounds_toArray, List.set_cons_succ, List.set_cons_zero]
        refine wpAnyL_take (i := 9) (oi := ⟨some 34, _, _, _, _, _⟩) (v := .pointer (some ⟨w.heap.size, 1, none⟩)) [16] rfl (by kernel_rfl) (by kernel_rfl) (by kernel_rfl) (by kernel_rfl) (fun _ _ _ h => h) (Or.inl ⟨by kernel_rfl, fun w' hS => by go_simp⟩) (by assumption) ?_
        try simp only [Act.put, List.setIfInBounds_toArray, List.set_cons_succ, List.set_cons_zero]
        refine wpAnyL_take (i := 10) (oi := ⟨some 35, _, _, _, _, _⟩) (v := .int .i64 c.step) [16] rfl (by kernel_rfl) (by kernel_rfl) (by kernel_rfl) (by kernel_rfl) (fun _ _ _ h => h) (Or.inl ⟨by kernel_rfl, fun w' hS => by have c := row_cell (k := 1) (hS.row GCd.out) (v := .int .i64 c.step) (by simp [clC]); go_simp⟩) (by assumption) ?_
        try simp only [Act.put, List.setIfInBounds_toArray, List.set_cons_succ, List.set_cons_zero]
        refine wpAnyL_take (i := 11) (oi := ⟨some 36, _, _, _, _, _⟩) (v := .agg #[.int .i64 c.saga, .int .i64 c.step, .bool true, .bool true]) [16] rfl (by kernel_rfl) (by kernel_rfl) (by kernel_rfl) (by kernel_rfl) (fun _ _ _ h => h) (Or.inl ⟨by kernel_rfl, fun w' hS => by go_simp⟩) (by assumption) ?_
        try simp only [Act.put, List.setIfInBounds_toArray, List.set_cons_succ, List.set_cons_zero]
        refine wpAnyL_ready (rs := [1, 12]) (by kernel_rfl) (by simp) ?_
        refine AllReadyL.cons (o := ⟨some 26, _, _, _, _, _⟩) rfl (fun K hK => ?_) ?_
        · skip
          have hS1 := hS0.alloc (.cells #[] 76)
          have HE1 := Lib.hid (buf_empty w4 w4.heap.size hS0.size)
          go_simp
          refine hK.out _ _ hS1 (fun hHeld => ?_)
          clear hK K
          try simp only [Act.put, List.setIfInBounds_toArray, List.set_cons_succ, List.set_cons_zero]
          have hlo1 := Lib.hid (Nat.le_refl w4.heap.size)
          generalize hwE1 : w4.alloc (.cells #[] 76) = wE at *
          refine wpAnyL_ready (rs := [6, 12]) (by kernel_rfl) (by simp) ?_
          refine AllReadyL.cons (o := ⟨some 31, _, _, _, _, _⟩) rfl (fun K hK => ?_) ?_
          · skip
            obtain ⟨hi76, hs76, hb76, hz76⟩ := HI.out
            have hl1000 := HL.out
            have hsz2 : w4.heap.size ≤ wE.heap.size := hS1.size
            refine step_append_buf _ rfl (.tmp 26) (.tmp 30) 63 63 rfl w4.heap.size 76 i76 (.agg #[.int .i64 0, .int .i64 0, .bool false, .bool false]) 4 24 Tryd.underlying63 hi76 hz76 hs76 hb76 rfl (by decide) _ 0 [] rfl HE1.out _ _ _ rfl ((HPd.out.same hS1).buf.src Tryd.underlying63 (ensC_one l)) (by unfold maxLen; omega) (by omega) hsz2 ?_
            intro v2 wa2 hb2 hg2 _ _
            have hS2 := hS1.grown hg2 (fun j hj => .inr (HE1.out.lt j hj).1)
            rw [Nat.zero_add, List.nil_append] at hb2
            have HA2 := Lib.hid hb2
            obtain ⟨a2, ca2, rfl, _, _⟩ := HA2.out.form
            clear hb2 hg2 hi76 hs76 hb76 hz76
            refine hK.out _ _ hS2 (fun hHeld => ?_)
            clear hK K
            try simp only [Act.put, List.setIfInBounds_toArray, List.set_cons_succ, List.set_cons_zero]
            refine wpAnyL_ready (rs := [12]) (by kernel_rfl) (by simp) ?_
            refine AllReadyL.cons (o := ⟨some 37, _, _, _, _, _⟩) rfl (fun K hK => ?_) AllReadyL.nil
            have hS3 := hS2.alloc (.cells (enC ⟨c.saga, c.step, true, true⟩).toArray 76)
            have HO3 := Lib.hid (heap_alloc_new wa2 (.cells (enC ⟨c.saga, c.step, true, true⟩).toArray 76))
            have HA3 := Lib.hid (HA2.out.kept ((Kept.refl (fun _ => False) wa2).alloc (.cells (enC ⟨c.saga, c.step, true, true⟩).toArray 76)) (fun _ _ e => e))
            go_simp
            refine hK.out _ _ hS3 (fun hHeld => ?_)
            clear hK K
            try simp only [Act.put, List.setIfInBounds_toArray, List.set_cons_succ, List.set_cons_zero]
            change wpAnyL _ _ _ _ _ _ _ _ _ (wa2.alloc (.cells (enC ⟨c.saga, c.step, true, true⟩).toArray 76))
            generalize hwO3 : wa2.alloc (.cells (enC ⟨c.saga, c.step, true, true⟩).toArray 76) = wO at *
            generalize hbo3 : wa2.heap.size = bo at *
            refine wpAnyL_ready (rs := [13]) (by kernel_rfl) (by simp) ?_
            refine AllReadyL.cons (o := ⟨some 38, _, _, _, _, _⟩) rfl (fun K hK => ?_) AllReadyL.nil
            obtain ⟨hi76, hs76, hb76, hz76⟩ := HI.out
            have hl1000 := HL.out
            have hsz4 : w4.heap.size ≤ wO.heap.size := hS3.size
            refine step_append_buf _ rfl (.tmp 31) (.tmp 37) 63 63 rfl w4.heap.size 76 i76 (.agg #[.int .i64 0, .int .i64 0, .bool false, .bool false]) 4 24 Tryd.underlying63 hi76 hz76 hs76 hb76 rfl (by decide) _ l.length (ensC l) rfl HA3.out _ _ _ rfl (src_en HO3.out) (by unfold maxLen; omega) (by omega) hsz4 ?_
            intro v4 wb4 hb4 hg4 _ _
            have hS4 := hS3.grown hg4 (fun j hj => .inr (HA3.out.lt j hj).1)
            have HB4 := Lib.hid hb4
            obtain ⟨a4, ca4, rfl, _, _⟩ := HB4.out.form
            clear hb4 hg4 hi76 hs76 hb76 hz76
            refine hK.out _ _ hS4 (fun hHeld => ?_)
            clear hK K
            try simp only [Act.put, List.setIfInBounds_toArray, List.set_cons_succ, List.set_cons_zero]
            refine wpAnyL_take (i := 14) (oi := ⟨some 39, _, _, _, _, _⟩) (v := .pointer (some ⟨g, 0, none⟩)) [15, 16] rfl (by kernel_rfl) (by kernel_rfl) (by kernel_rfl) (by kernel_rfl) (fun _ _ _ h => h) (Or.inl ⟨by kernel_rfl, fun w' hS => by go_simp⟩) (by assumption) ?_
            try simp only [Act.put, List.setIfInBounds_toArray, List.set_cons_succ, List.set_cons_zero]
            refine wpAnyL_take (i := 15) (oi := ⟨some 40, _, _, _, _, _⟩) (v := .pointer (some ⟨g, 5, none⟩)) [16] rfl (by kernel_rfl) (by kernel_rfl) (by kernel_rfl) (by kernel_rfl) (fun _ _ _ h => h) (Or.inl ⟨by kernel_rfl, fun w' hS => by go_simp⟩) (by assumption) ?_
            try simp only [Act.put, List.setIfInBounds_toArray, List.set_cons_succ, List.set_cons_zero]
            refine wpAnyL_ready (rs := [16]) (by kernel_rfl) (by simp) ?_
            refine AllReadyL.ends (o := ⟨none, _, _, _, _, _⟩) rfl (fun K hK => ?_)
            have GP6 := Lib.hid (hS4.row HPd.out.blk)
            have cc6 := row_cell (k := 5) GP6.out (v := .slice sa l.length sc) rfl
            have f6 := free_of_block (j := 5) GP6.out
            go_simp
            refine hK.out _ _ ?_
            clear hK K
            try simp only [Act.put, List.setIfInBounds_toArray, List.set_cons_succ, List.set_cons_zero]
            refine wpAnyL_done (by kernel_rfl) ?_ _
            have KK := Lib.hid (Kd.out.trans hS4)
            clear cc6 f6 hHeld
            go_wp2_with fail
            go_ret
            exact PrPost.noted (show Value.bool true = Value.bool Y.1 from congrArg Value.bool hvv.out.symm) hxx.out HPW.out KK.out HB4.out Kd.out.size
          · refine AllReadyL.cons (o := ⟨some 37, _, _, _, _, _⟩) rfl (fun K hK => ?_) AllReadyL.nil
            have hS5 := hS1.alloc (.cells (enC ⟨c.saga, c.step, true, true⟩).toArray 76)
            have HO5 := Lib.hid (heap_alloc_new wE (.cells (enC ⟨c.saga, c.step, true, true⟩).toArray 76))
            have HE5 := Lib.hid (HE1.out.kept ((Kept.refl (fun _ => False) wE).alloc (.cells (enC ⟨c.saga, c.step, true, true⟩).toArray 76)) (fun _ _ e => e))
            have HN5 : Hid (w4.heap.size ≠ wE.heap.size) := Nat.ne_of_lt (HE1.out.lt w4.heap.size rfl).2
            go_simp
            refine hK.out _ _ hS5 (fun hHeld => ?_)
            clear hK K
            try simp only [Act.put, List.setIfInBounds_toArray, List.set_cons_succ, List.set_cons_zero]
            change wpAnyL _ _ _ _ _ _ _ _ _ (wE.alloc (.cells (enC ⟨c.saga, c.step, true, true⟩).toArray 76))
            generalize hwO5 : wE.alloc (.cells (enC ⟨c.saga, c.step, true, true⟩).toArray 76) = wO at *
            generalize hbo5 : wE.heap.size = bo at *
            refine wpAnyL_ready (rs := [6]) (by kernel_rfl) (by simp) ?_
            refine AllReadyL.cons (o := ⟨some 31, _, _, _, _, _⟩) rfl (fun K hK => ?_) AllReadyL.nil
            obtain ⟨hi76, hs76, hb76, hz76⟩ := HI.out
            have hl1000 := HL.out
            have hsz6 : w4.heap.size ≤ wO.heap.size := hS5.size
            refine step_append_buf _ rfl (.tmp 26) (.tmp 30) 63 63 rfl w4.heap.size 76 i76 (.agg #[.int .i64 0, .int .i64 0, .bool false, .bool false]) 4 24 Tryd.underlying63 hi76 hz76 hs76 hb76 rfl (by decide) _ 0 [] rfl HE5.out _ _ _ rfl ((HPd.out.same hS5).buf.src Tryd.underlying63 (ensC_one l)) (by unfold maxLen; omega) (by omega) hsz6 ?_
            intro v6 wa6 hb6 hg6 _ _
            have hS6 := hS5.grown hg6 (fun j hj => .inr (HE5.out.lt j hj).1)
            rw [Nat.zero_add, List.nil_append] at hb6
            have HA6 := Lib.hid hb6
            obtain ⟨a6, ca6, rfl, _, _⟩ := HA6.out.form
            have HO6 := Lib.hid (((Kept.refl (fun i => Value.ownBlock (.slice (some ⟨w4.heap.size, 0, none⟩) 0 0) = some i) wO).grown hg6 (fun j hj => .inl hj)).rowS (by intro e; exact HN5.out (by simpa [Value.ownBlock] using e)) HO5.out)
            clear hb6 hg6 hi76 hs76 hb76 hz76
            refine hK.out _ _ hS6 (fun hHeld => ?_)
            clear hK K
            try simp only [Act.put, List.setIfInBounds_toArray, List.set_cons_succ, List.set_cons_zero]
            refine wpAnyL_ready (rs := [13]) (by kernel_rfl) (by simp) ?_
            refine AllReadyL.cons (o := ⟨some 38, _, _, _, _, _⟩) rfl (fun K hK => ?_) AllReadyL.nil
            obtain ⟨hi76, hs76, hb76, hz76⟩ := HI.out
            have hl1000 := HL.out
            have hsz7 : w4.heap.size ≤ wa6.heap.size := hS6.size
            refine step_append_buf _ rfl (.tmp 31) (.tmp 37) 63 63 rfl w4.heap.size 76 i76 (.agg #[.int .i64 0, .int .i64 0, .bool false, .bool false]) 4 24 Tryd.underlying63 hi76 hz76 hs76 hb76 rfl (by decide) _ l.length (ensC l) rfl HA6.out _ _ _ rfl (src_en HO6.out) (by unfold maxLen; omega) (by omega) hsz7 ?_
            intro v7 wb7 hb7 hg7 _ _
            have hS7 := hS6.grown hg7 (fun j hj => .inr (HA6.out.lt j hj).1)
            have HB7 := Lib.hid hb7
            obtain ⟨a7, ca7, rfl, _, _⟩ := HB7.out.form
            clear hb7 hg7 hi76 hs76 hb76 hz76
            refine hK.out _ _ hS7 (fun hHeld => ?_)
            clear hK K
            try simp only [Act.put, List.setIfInBounds_toArray, List.set_cons_succ, List.set_cons_zero]
            refine wpAnyL_take (i := 14) (oi := ⟨some 39, _, _, _, _, _⟩) (v := .pointer (some ⟨g, 0, none⟩)) [15, 16] rfl (by kernel_rfl) (by kernel_rfl) (by kernel_rfl) (by kernel_rfl) (fun _ _ _ h => h) (Or.inl ⟨by kernel_rfl, fun w' hS => by go_simp⟩) (by assumption) ?_
            try simp only [Act.put, List.setIfInBounds_toArray, List.set_cons_succ, List.set_cons_zero]
            refine wpAnyL_take (i := 15) (oi := ⟨some 40, _, _, _, _, _⟩) (v := .pointer (some ⟨g, 5, none⟩)) [16] rfl (by kernel_rfl) (by kernel_rfl) (by kernel_rfl) (by kernel_rfl) (fun _ _ _ h => h) (Or.inl ⟨by kernel_rfl, fun w' hS => by go_simp⟩) (by assumption) ?_
            try simp only [Act.put, List.setIfInBounds_toArray, List.set_cons_succ, List.set_cons_zero]
            refine wpAnyL_ready (rs := [16]) (by kernel_rfl) (by simp) ?_
            refine AllReadyL.ends (o := ⟨none, _, _, _, _, _⟩) rfl (fun K hK => ?_)
            have GP6 := Lib.hid (hS7.row HPd.out.blk)
            have cc6 := row_cell (k := 5) GP6.out (v := .slice sa l.length sc) rfl
            have f6 := free_of_block (j := 5) GP6.out
            go_simp
            refine hK.out _ _ ?_
            clear hK K
            try simp only [Act.put, List.setIfInBounds_toArray, List.set_cons_succ, List.set_cons_zero]
            refine wpAnyL_done (by kernel_rfl) ?_ _
            have KK := Lib.hid (Kd.out.trans hS7)
            clear cc6 f6 hHeld
            go_wp2_with fail
            go_ret
            exact PrPost.noted (show Value.bool true = Value.bool Y.1 from congrArg Value.bool hvv.out.symm) hxx.out HPW.out KK.out HB7.out Kd.out.size
        · refine AllReadyL.cons (o := ⟨some 37, _, _, _, _, _⟩) rfl (fun K hK => ?_) AllReadyL.nil
          have hS8 := hS0.alloc (.cells (enC ⟨c.saga, c.step, true, true⟩).toArray 76)
          have HO8 := Lib.hid (heap_alloc_new w4 (.cells (enC ⟨c.saga, c.step, true, true⟩).toArray 76))
          go_simp
          refine hK.out _ _ hS8 (fun hHeld => ?_)
          clear hK K
          try simp only [Act.put, List.setIfInBounds_toArray, List.set_cons_succ, List.set_cons_zero]
          change wpAnyL _ _ _ _ _ _ _ _ _ (w4.alloc (.cells (enC ⟨c.saga, c.step, true, true⟩).toArray 76))
          generalize hwO8 : w4.alloc (.cells (enC ⟨c.saga, c.step, true, true⟩).toArray 76) = wO at *
          refine wpAnyL_ready (rs := [1]) (by kernel_rfl) (by simp) ?_
          refine AllReadyL.cons (o := ⟨some 26, _, _, _, _, _⟩) rfl (fun K hK => ?_) AllReadyL.nil
          have hS9 := hS8.alloc (.cells #[] 76)
          have HE9 := Lib.hid (buf_empty wO w4.heap.size hS8.size)
          have HO9 := Lib.hid (((Kept.refl (fun _ => False) wO).alloc (.cells #[] 76)).row HO8.out)
          have HN9 : Hid (wO.heap.size ≠ w4.heap.size) := Nat.ne_of_gt (row_lt HO8.out)
          go_simp
          refine hK.out _ _ hS9 (fun hHeld => ?_)
          clear hK K
          try simp only [Act.put, List.setIfInBounds_toArray, List.set_cons_succ, List.set_cons_zero]
          generalize hwE9 : wO.alloc (.cells #[] 76) = wE at *
          generalize hbE9 : wO.heap.size = bE at *
          refine wpAnyL_ready (rs := [6]) (by kernel_rfl) (by simp) ?_
          refine AllReadyL.cons (o := ⟨some 31, _, _, _, _, _⟩) rfl (fun K hK => ?_) AllReadyL.nil
          obtain ⟨hi76, hs76, hb76, hz76⟩ := HI.out
          have hl1000 := HL.out
          have hsz10 : w4.heap.size ≤ wE.heap.size := hS9.size
          refine step_append_buf _ rfl (.tmp 26) (.tmp 30) 63 63 rfl w4.heap.size 76 i76 (.agg #[.int .i64 0, .int .i64 0, .bool false, .bool false]) 4 24 Tryd.underlying63 hi76 hz76 hs76 hb76 rfl (by decide) _ 0 [] rfl HE9.out _ _ _ rfl ((HPd.out.same hS9).buf.src Tryd.underlying63 (ensC_one l)) (by unfold maxLen; omega) (by omega) hsz10 ?_
          intro v10 wa10 hb10 hg10 _ _
          have hS10 := hS9.grown hg10 (fun j hj => .inr (HE9.out.lt j hj).1)
          rw [Nat.zero_add, List.nil_append] at hb10
          have HA10 := Lib.hid hb10
          obtain ⟨a10, ca10, rfl, _, _⟩ := HA10.out.form
          have HO10 := Lib.hid (((Kept.refl (fun i => Value.ownBlock (.slice (some ⟨bE, 0, none⟩) 0 0) = some i) wE).grown hg10 (fun j hj => .inl hj)).rowS (by intro e; exact HN9.out (by simpa [Value.ownBlock] using e)) HO9.out)
          clear hb10 hg10 hi76 hs76 hb76 hz76
          refine hK.out _ _ hS10 (fun hHeld => ?_)
          clear hK K
          try simp only [Act.put, List.setIfInBounds_toArray, List.set_cons_succ, List.set_cons_zero]
          refine wpAnyL_ready (rs := [13]) (by kernel_rfl) (by simp) ?_
          refine AllReadyL.cons (o := ⟨some 38, _, _, _, _, _⟩) rfl (fun K hK => ?_) AllReadyL.nil
          obtain ⟨hi76, hs76, hb76, hz76⟩ := HI.out
          have hl1000 := HL.out
          have hsz11 : w4.heap.size ≤ wa10.heap.size := hS10.size
          refine step_append_buf _ rfl (.tmp 31) (.tmp 37) 63 63 rfl w4.heap.size 76 i76 (.agg #[.int .i64 0, .int .i64 0, .bool false, .bool false]) 4 24 Tryd.underlying63 hi76 hz76 hs76 hb76 rfl (by decide) _ l.length (ensC l) rfl HA10.out _ _ _ rfl (src_en HO10.out) (by unfold maxLen; omega) (by omega) hsz11 ?_
          intro v11 wb11 hb11 hg11 _ _
          have hS11 := hS10.grown hg11 (fun j hj => .inr (HA10.out.lt j hj).1)
          have HB11 := Lib.hid hb11
          obtain ⟨a11, ca11, rfl, _, _⟩ := HB11.out.form
          clear hb11 hg11 hi76 hs76 hb76 hz76
          refine hK.out _ _ hS11 (fun hHeld => ?_)
          clear hK K
          try simp only [Act.put, List.setIfInBounds_toArray, List.set_cons_succ, List.set_cons_zero]
          refine wpAnyL_take (i := 14) (oi := ⟨some 39, _, _, _, _, _⟩) (v := .pointer (some ⟨g, 0, none⟩)) [15, 16] rfl (by kernel_rfl) (by kernel_rfl) (by kernel_rfl) (by kernel_rfl) (fun _ _ _ h => h) (Or.inl ⟨by kernel_rfl, fun w' hS => by go_simp⟩) (by assumption) ?_
          try simp only [Act.put, List.setIfInBounds_toArray, List.set_cons_succ, List.set_cons_zero]
          refine wpAnyL_take (i := 15) (oi := ⟨some 40, _, _, _, _, _⟩) (v := .pointer (some ⟨g, 5, none⟩)) [16] rfl (by kernel_rfl) (by kernel_rfl) (by kernel_rfl) (by kernel_rfl) (fun _ _ _ h => h) (Or.inl ⟨by kernel_rfl, fun w' hS => by go_simp⟩) (by assumption) ?_
          try simp only [Act.put, List.setIfInBounds_toArray, List.set_cons_succ, List.set_cons_zero]
          refine wpAnyL_ready (rs := [16]) (by kernel_rfl) (by simp) ?_
          refine AllReadyL.ends (o := ⟨none, _, _, _, _, _⟩) rfl (fun K hK => ?_)
          have GP6 := Lib.hid (hS11.row HPd.out.blk)
          have cc6 := row_cell (k := 5) GP6.out (v := .slice sa l.length sc) rfl
          have f6 := free_of_block (j := 5) GP6.out
          go_simp
          refine hK.out _ _ ?_
          clear hK K
          try simp only [Act.put, List.setIfInBounds_toArray, List.set_cons_succ, List.set_cons_zero]
          refine wpAnyL_done (by kernel_rfl) ?_ _
          have KK := Lib.hid (Kd.out.trans hS11)
          clear cc6 f6 hHeld
          go_wp2_with fail
          go_ret
          exact PrPost.noted (show Value.bool true = Value.bool Y.1 from congrArg Value.bool hvv.out.symm) hxx.out HPW.out KK.out HB11.out Kd.out.size
    | false =>
      rw [hbk] at c3
      have HU := f_rhas w0 g pv wv sv k n ep l c.saga c.step true w2 HP2.out HL.out
      have c0 := row_cell (k := 0) GC2.out (v := .int .i64 c.saga) (by simp [clC])
      have c1 := row_cell (k := 1) GC2.out (v := .int .i64 c.step) (by simp [clC])
      have hun : pUndone l c = (hasI (hadE l (c.saga, c.step, true)) == 2) := by
        unfold pUndone
        rw [hbk]
        cases hadE l (c.saga, c.step, true) with
        | none => rfl
        | some b => cases b <;> rfl
      generalize hasI (hadE l (c.saga, c.step, true)) = hx at *
      have HUH := Lib.hid HU
      clear HU
      go_wp2_with fail
      refine HUH.out.mono ?_
      rintro e w3 ⟨rfl, k3⟩
      have GC3 := Lib.hid (k3.row GC2.out)
      have HP3 := Lib.hid (HP2.out.same k3)
      have K3 := Lib.hid (K2.out.trans k3)
      clear c0 c1 c3 GC2 HP2 K2 k3 HUH
      have c5 := row_cell (k := 5) GC3.out (v := .int .i64 c.kind) (by simp [clC])
      cases hu : (hx == 2) with
      | true =>
        rw [hu] at hun
        cases refuse with
        | true =>
          have hxx : Hid (Y.2 = l ++ [⟨c.saga, c.step, false, false⟩]) := by
            show _ = _
            rw [HYN.out]
            simp [pNotes, pGood, hbk, hun]
          have hvv : Hid (Y.1 = false) := by show _ = _; rw [HYN.out]; simp [pGood, hun]
          clear hbk hun
          go_upto_region 11 with (fail)
          obtain ⟨sa, sc, rfl, _⟩ := HP3.out.buf.form
          have kd := (Kept.refl (fun _ => False) w3).drew
          have HPd := Lib.hid (HP3.out.same kd)
          have GCd := Lib.hid (kd.row GC3.out)
          have Kd := Lib.hid (K3.out.trans kd)
          clear kd HP3 GC3 K3
          refine wp_region_last_drew (S := fun w' => Kept (fun _ => False) w3.drew w') 22 (by kernel_rfl) (Kept.refl _ _) (fun hHeld => ?_)
          generalize w3.drew = w4 at *
          have hS0 : Kept (fun _ => False) w4 w4 := Kept.refl _ _
          refine wpAnyL_take (i := 0) (oi := ⟨some 60, _, _, _, _, _⟩) (v := .pointer (some ⟨g, 0, none⟩)) [22] rfl (by kernel_rfl) (by kernel_rfl) (by kernel_rfl) (by kernel_rfl) (fun _ _ _ h => h) (Or.inl ⟨by kernel_rfl, fun w' hS => by go_simp⟩) (by assumption) ?_
          try simp only [Act.put, List.setIfInBounds_toArray, List.set_cons_succ, List.set_cons_zero]
          refine wpAnyL_take (i := 2) (oi := ⟨some 62, _, _, _, _, _⟩) (v := .pointer (some ⟨g, 0, none⟩)) [22] rfl (by kernel_rfl) (by kernel_rfl) (by kernel_rfl) (by kernel_rfl) (fun _ _ _ h => h) (Or.inl ⟨by kernel_rfl, fun w' hS => by go_simp⟩) (by assumption) ?_
          try simp only [Act.put, List.setIfInBounds_toArray, List.set_cons_succ, List.set_cons_zero]
          refine wpAnyL_take (i := 3) (oi := ⟨some 63, _, _, _, _, _⟩) (v := .pointer (some ⟨g, 0, none⟩)) [22] rfl (by kernel_rfl) (by kernel_rfl) (by kernel_rfl) (by kernel_rfl) (fun _ _ _ h => h) (Or.inl ⟨by kernel_rfl, fun w' hS => by go_simp⟩) (by assumption) ?_
          try simp only [Act.put, List.setIfInBounds_toArray, List.set_cons_succ, List.set_cons_zero]
          refine wpAnyL_take (i := 4) (oi := ⟨some 64, _, _, _, _, _⟩) (v := .pointer (some ⟨g, 5, none⟩)) [22] rfl (by kernel_rfl) (by kernel_rfl) (by kernel_rfl) (by kernel_rfl) (fun _ _ _ h => h) (Or.inl ⟨by kernel_rfl, fun w' hS => by go_simp⟩) (by assumption) ?_
          try simp only [Act.put, List.setIfInBounds_toArray, List.set_cons_succ, List.set_cons_zero]
          refine wpAnyL_take (i := 5) (oi := ⟨some 65, _, _, _, _, _⟩) (v := .slice sa l.length sc) [22] rfl (by kernel_rfl) (by kernel_rfl) (by kernel_rfl) (by kernel_rfl) (fun _ _ _ h => h) (Or.inl ⟨by kernel_rfl, fun w' hS => by have c := row_cell (k := 5) (hS.row HPd.out.blk) (v := .slice sa l.length sc) (rfl); go_simp⟩) (by assumption) ?_
          try simp only [Act.put, List.setIfInBounds_toArray, List.set_cons_succ, List.set_cons_zero]
          refine wpAnyL_take (i := 7) (oi := ⟨some 67, _, _, _, _, _⟩) (v := .pointer (some ⟨w.heap.size, 0, none⟩)) [22] rfl (by kernel_rfl) (by kernel_rfl) (by kernel_rfl) (by kernel_rfl) (fun _ _ _ h => h) (Or.inl ⟨by kernel_rfl, fun w' hS => by go_simp⟩) (by assumption) ?_
          try simp only [Act.put, List.setIfInBounds_toArray, List.set_cons_succ, List.set_cons_zero]
          refine wpAnyL_take (i := 8) (oi := ⟨some 68, _, _, _, _, _⟩) (v := .int .i64 c.saga) [22] rfl (by kernel_rfl) (by kernel_rfl) (by kernel_rfl) (by kernel_rfl) (fun _ _ _ h => h) (Or.inl ⟨by kernel_rfl, fun w' hS => by have c := row_cell (k := 0) (hS.row GCd.out) (v := .int .i64 c.saga) (by simp [clC]); go_simp⟩) (by assumption) ?_
          try simp only [Act.put, List.setIfInBounds_toArray, List.set_cons_succ, List.set_cons_zero]
          refine wpAnyL_take (i := 9) (oi := ⟨some 69, _, _, _, _, _⟩) (v := .pointer (some ⟨w.heap.size, 1, none⟩)) [22] rfl (by kernel_rfl) (by kernel_rfl) (by kernel_rfl) (by kernel_rfl) (fun _ _ _ h => h) (Or.inl ⟨by kernel_rfl, fun w' hS => by go_simp⟩) (by assumption) ?_
          try simp only [Act.put, List.setIfInBounds_toArray, List.set_cons_succ, List.set_cons_zero]
          refine wpAnyL_take (i := 10) (oi := ⟨some 70, _, _, _, _, _⟩) (v := .int .i64 c.step) [22] rfl (by kernel_rfl) (by kernel_rfl) (by kernel_rfl) (by kernel_rfl) (fun _ _ _ h => h) (Or.inl ⟨by kernel_rfl, fun w' hS => by have c := row_cell (k := 1) (hS.row GCd.out) (v := .int .i64 c.step) (by simp [clC]); go_simp⟩) (by assumption) ?_
          try simp only [Act.put, List.setIfInBounds_toArray, List.set_cons_succ, List.set_cons_zero]
          refine wpAnyL_take (i := 11) (oi := ⟨some 71, _, _, _, _, _⟩) (v := .bool true) [22] rfl (by kernel_rfl) (by kernel_rfl) (by kernel_rfl) (by kernel_rfl) (fun _ _ _ h => h) (Or.inl ⟨by kernel_rfl, fun w' hS => by go_simp⟩) (by assumption) ?_
          try simp only [Act.put, List.setIfInBounds_toArray, List.set_cons_succ, List.set_cons_zero]
          refine wpAnyL_take (i := 12) (oi := ⟨some 72, _, _, _, _, _⟩) (v := .bool false) [22] rfl (by kernel_rfl) (by kernel_rfl) (by kernel_rfl) (by kernel_rfl) (fun _ _ _ h => h) (Or.inl ⟨by kernel_rfl, fun w' hS => by go_simp⟩) (by assumption) ?_
          try simp only [Act.put, List.setIfInBounds_toArray, List.set_cons_succ, List.set_cons_zero]
          refine wpAnyL_ready (rs := [1]) (by kernel_rfl) (by simp) ?_
          refine AllReadyL.cons (o := ⟨some 61, _, _, _, _, _⟩) rfl (fun K hK => ?_) AllReadyL.nil
          have hS1 := hS0.alloc (.cells #[] 76)
          have HE1 := Lib.hid (buf_empty w4 w4.heap.size hS0.size)
          go_simp
          refine hK.out _ _ hS1 (fun hHeld => ?_)
          clear hK K
          try simp only [Act.put, List.setIfInBounds_toArray, List.set_cons_succ, List.set_cons_zero]
          have hlo1 := Lib.hid (Nat.le_refl w4.heap.size)
          generalize hwE1 : w4.alloc (.cells #[] 76) = wE at *
          refine wpAnyL_ready (rs := [6]) (by kernel_rfl) (by simp) ?_
          refine AllReadyL.cons (o := ⟨some 66, _, _, _, _, _⟩) rfl (fun K hK => ?_) AllReadyL.nil
          obtain ⟨hi76, hs76, hb76, hz76⟩ := HI.out
          have hl1000 := HL.out
          have hsz2 : w4.heap.size ≤ wE.heap.size := hS1.size
          refine step_append_buf _ rfl (.tmp 61) (.tmp 65) 63 63 rfl w4.heap.size 76 i76 (.agg #[.int .i64 0, .int .i64 0, .bool false, .bool false]) 4 24 Tryd.underlying63 hi76 hz76 hs76 hb76 rfl (by decide) _ 0 [] rfl HE1.out _ _ _ rfl ((HPd.out.same hS1).buf.src Tryd.underlying63 (ensC_one l)) (by unfold maxLen; omega) (by omega) hsz2 ?_
          intro v2 wa2 hb2 hg2 _ _
          have hS2 := hS1.grown hg2 (fun j hj => .inr (HE1.out.lt j hj).1)
          rw [Nat.zero_add, List.nil_append] at hb2
          have HA2 := Lib.hid hb2
          obtain ⟨a2, ca2, rfl, _, _⟩ := HA2.out.form
          clear hb2 hg2 hi76 hs76 hb76 hz76
          refine hK.out _ _ hS2 (fun hHeld => ?_)
          clear hK K
          try simp only [Act.put, List.setIfInBounds_toArray, List.set_cons_succ, List.set_cons_zero]
          refine wpAnyL_take (i := 13) (oi := ⟨some 73, _, _, _, _, _⟩) (v := .bool false) [22] rfl (by kernel_rfl) (by kernel_rfl) (by kernel_rfl) (by kernel_rfl) (fun _ _ _ h => h) (Or.inl ⟨by kernel_rfl, fun w' hS => by go_simp⟩) (by assumption) ?_
          try simp only [Act.put, List.setIfInBounds_toArray, List.set_cons_succ, List.set_cons_zero]
          refine wpAnyL_take (i := 14) (oi := ⟨some 74, _, _, _, _, _⟩) (v := undef) [22] rfl (by kernel_rfl) (by kernel_rfl) (by kernel_rfl) (by kernel_rfl) (fun _ _ _ h => h) (Or.inr ⟨by kernel_rfl, rfl⟩) (by assumption) ?_
          try simp only [Act.put, List.setIfInBounds_toArray, List.set_cons_succ, List.set_cons_zero]
          refine wpAnyL_take (i := 15) (oi := ⟨some 75, _, _, _, _, _⟩) (v := undef) [22] rfl (by kernel_rfl) (by kernel_rfl) (by kernel_rfl) (by kernel_rfl) (fun _ _ _ h => h) (Or.inr ⟨by kernel_rfl, rfl⟩) (by assumption) ?_
          try simp only [Act.put, List.setIfInBounds_toArray, List.set_cons_succ, List.set_cons_zero]
          refine wpAnyL_take (i := 16) (oi := ⟨some 76, _, _, _, _, _⟩) (v := .bool false) [22] rfl (by kernel_rfl) (by kernel_rfl) (by kernel_rfl) (by kernel_rfl) (fun _ _ _ h => h) (Or.inl ⟨by kernel_rfl, fun w' hS => by go_simp⟩) (by assumption) ?_
          try simp only [Act.put, List.setIfInBounds_toArray, List.set_cons_succ, List.set_cons_zero]
          refine wpAnyL_take (i := 17) (oi := ⟨some 77, _, _, _, _, _⟩) (v := .agg #[.int .i64 c.saga, .int .i64 c.step, .bool false, .bool false]) [22] rfl (by kernel_rfl) (by kernel_rfl) (by kernel_rfl) (by kernel_rfl) (fun _ _ _ h => h) (Or.inl ⟨by kernel_rfl, fun w' hS => by go_simp⟩) (by assumption) ?_
          try simp only [Act.put, List.setIfInBounds_toArray, List.set_cons_succ, List.set_cons_zero]
          refine wpAnyL_ready (rs := [18]) (by kernel_rfl) (by simp) ?_
          refine AllReadyL.cons (o := ⟨some 78, _, _, _, _, _⟩) rfl (fun K hK => ?_) AllReadyL.nil
          have hS3 := hS2.alloc (.cells (enC ⟨c.saga, c.step, false, false⟩).toArray 76)
          have HO3 := Lib.hid (heap_alloc_new wa2 (.cells (enC ⟨c.saga, c.step, false, false⟩).toArray 76))
          have HA3 := Lib.hid (HA2.out.kept ((Kept.refl (fun _ => False) wa2).alloc (.cells (enC ⟨c.saga, c.step, false, false⟩).toArray 76)) (fun _ _ e => e))
          go_simp
          refine hK.out _ _ hS3 (fun hHeld => ?_)
          clear hK K
          try simp only [Act.put, List.setIfInBounds_toArray, List.set_cons_succ, List.set_cons_zero]
          change wpAnyL _ _ _ _ _ _ _ _ _ (wa2.alloc (.cells (enC ⟨c.saga, c.step, false, false⟩).toArray 76))
          generalize hwO3 : wa2.alloc (.cells (enC ⟨c.saga, c.step, false, false⟩).toArray 76) = wO at *
          generalize hbo3 : wa2.heap.size = bo at *
          refine wpAnyL_ready (rs := [19]) (by kernel_rfl) (by simp) ?_
          refine AllReadyL.cons (o := ⟨some 79, _, _, _, _, _⟩) rfl (fun K hK => ?_) AllReadyL.nil
          obtain ⟨hi76, hs76, hb76, hz76⟩ := HI.out
          have hl1000 := HL.out
          have hsz4 : w4.heap.size ≤ wO.heap.size := hS3.size
          refine step_append_buf _ rfl (.tmp 66) (.tmp 78) 63 63 rfl w4.heap.size 76 i76 (.agg #[.int .i64 0, .int .i64 0, .bool false, .bool false]) 4 24 Tryd.underlying63 hi76 hz76 hs76 hb76 rfl (by decide) _ l.length (ensC l) rfl HA3.out _ _ _ rfl (src_en HO3.out) (by unfold maxLen; omega) (by omega) hsz4 ?_
          intro v4 wb4 hb4 hg4 _ _
          have hS4 := hS3.grown hg4 (fun j hj => .inr (HA3.out.lt j hj).1)
          have HB4 := Lib.hid hb4
          obtain ⟨a4, ca4, rfl, _, _⟩ := HB4.out.form
          clear hb4 hg4 hi76 hs76 hb76 hz76
          refine hK.out _ _ hS4 (fun hHeld => ?_)
          clear hK K
          try simp only [Act.put, List.setIfInBounds_toArray, List.set_cons_succ, List.set_cons_zero]
          refine wpAnyL_take (i := 20) (oi := ⟨some 80, _, _, _, _, _⟩) (v := .pointer (some ⟨g, 0, none⟩)) [21, 22] rfl (by kernel_rfl) (by kernel_rfl) (by kernel_rfl) (by kernel_rfl) (fun _ _ _ h => h) (Or.inl ⟨by kernel_rfl, fun w' hS => by go_simp⟩) (by assumption) ?_
          try simp only [Act.put, List.setIfInBounds_toArray, List.set_cons_succ, List.set_cons_zero]
          refine wpAnyL_take (i := 21) (oi := ⟨some 81, _, _, _, _, _⟩) (v := .pointer (some ⟨g, 5, none⟩)) [22] rfl (by kernel_rfl) (by kernel_rfl) (by kernel_rfl) (by kernel_rfl) (fun _ _ _ h => h) (Or.inl ⟨by kernel_rfl, fun w' hS => by go_simp⟩) (by assumption) ?_
          try simp only [Act.put, List.setIfInBounds_toArray, List.set_cons_succ, List.set_cons_zero]
          refine wpAnyL_ready (rs := [22]) (by kernel_rfl) (by simp) ?_
          refine AllReadyL.ends (o := ⟨none, _, _, _, _, _⟩) rfl (fun K hK => ?_)
          have GP6 := Lib.hid (hS4.row HPd.out.blk)
          have cc6 := row_cell (k := 5) GP6.out (v := .slice sa l.length sc) rfl
          have f6 := free_of_block (j := 5) GP6.out
          go_simp
          refine hK.out _ _ ?_
          clear hK K
          try simp only [Act.put, List.setIfInBounds_toArray, List.set_cons_succ, List.set_cons_zero]
          refine wpAnyL_done (by kernel_rfl) ?_ _
          have KK := Lib.hid (Kd.out.trans hS4)
          clear cc6 f6 hHeld
          go_wp2_with fail
          go_ret
          exact PrPost.noted (show Value.bool false = Value.bool Y.1 from congrArg Value.bool hvv.out.symm) hxx.out HPW.out KK.out HB4.out Kd.out.size
        | false =>
          have hxx : Hid (Y.2 = l ++ [⟨c.saga, c.step, false, false⟩]) := by
            show _ = _
            rw [HYN.out]
            simp [pNotes, pGood, hbk, hun]
          have hvv : Hid (Y.1 = false) := by show _ = _; rw [HYN.out]; simp [pGood, hun]
          clear hbk hun
          go_upto_region 11 with (fail)
          obtain ⟨sa, sc, rfl, _⟩ := HP3.out.buf.form
          have kd := (Kept.refl (fun _ => False) w3).drew
          have HPd := Lib.hid (HP3.out.same kd)
          have GCd := Lib.hid (kd.row GC3.out)
          have Kd := Lib.hid (K3.out.trans kd)
          clear kd HP3 GC3 K3
          refine wp_region_last_drew (S := fun w' => Kept (fun _ => False) w3.drew w') 22 (by kernel_rfl) (Kept.refl _ _) (fun hHeld => ?_)
          generalize w3.drew = w4 at *
          have hS0 : Kept (fun _ => False) w4 w4 := Kept.refl _ _
          refine wpAnyL_take (i := 0) (oi := ⟨some 60, _, _, _, _, _⟩) (v := .pointer (some ⟨g, 0, none⟩)) [22] rfl (by kernel_rfl) (by kernel_rfl) (by kernel_rfl) (by kernel_rfl) (fun _ _ _ h => h) (Or.inl ⟨by kernel_rfl, fun w' hS => by go_simp⟩) (by assumption) ?_
          try simp only [Act.put, List.setIfInBounds_toArray, List.set_cons_succ, List.set_cons_zero]
          refine wpAnyL_take (i := 2) (oi := ⟨some 62, _, _, _, _, _⟩) (v := .pointer (some ⟨g, 0, none⟩)) [22] rfl (by kernel_rfl) (by kernel_rfl) (by kernel_rfl) (by kernel_rfl) (fun _ _ _ h => h) (Or.inl ⟨by kernel_rfl, fun w' hS => by go_simp⟩) (by assumption) ?_
          try simp only [Act.put, List.setIfInBounds_toArray, List.set_cons_succ, List.set_cons_zero]
          refine wpAnyL_take (i := 3) (oi := ⟨some 63, _, _, _, _, _⟩) (v := .pointer (some ⟨g, 0, none⟩)) [22] rfl (by kernel_rfl) (by kernel_rfl) (by kernel_rfl) (by kernel_rfl) (fun _ _ _ h => h) (Or.inl ⟨by kernel_rfl, fun w' hS => by go_simp⟩) (by assumption) ?_
          try simp only [Act.put, List.setIfInBounds_toArray, List.set_cons_succ, List.set_cons_zero]
          refine wpAnyL_take (i := 4) (oi := ⟨some 64, _, _, _, _, _⟩) (v := .pointer (some ⟨g, 5, none⟩)) [22] rfl (by kernel_rfl) (by kernel_rfl) (by kernel_rfl) (by kernel_rfl) (fun _ _ _ h => h) (Or.inl ⟨by kernel_rfl, fun w' hS => by go_simp⟩) (by assumption) ?_
          try simp only [Act.put, List.setIfInBounds_toArray, List.set_cons_succ, List.set_cons_zero]
          refine wpAnyL_take (i := 5) (oi := ⟨some 65, _, _, _, _, _⟩) (v := .slice sa l.length sc) [22] rfl (by kernel_rfl) (by kernel_rfl) (by kernel_rfl) (by kernel_rfl) (fun _ _ _ h => h) (Or.inl ⟨by kernel_rfl, fun w' hS => by have c := row_cell (k := 5) (hS.row HPd.out.blk) (v := .slice sa l.length sc) (rfl); go_simp⟩) (by assumption) ?_
          try simp only [Act.put, List.setIfInBounds_toArray, List.set_cons_succ, List.set_cons_zero]
          refine wpAnyL_take (i := 7) (oi := ⟨some 67, _, _, _, _, _⟩) (v := .pointer (some ⟨w.heap.size, 0, none⟩)) [22] rfl (by kernel_rfl) (by kernel_rfl) (by kernel_rfl) (by kernel_rfl) (fun _ _ _ h => h) (Or.inl ⟨by kernel_rfl, fun w' hS => by go_simp⟩) (by assumption) ?_
          try simp only [Act.put, List.setIfInBounds_toArray, List.set_cons_succ, List.set_cons_zero]
          refine wpAnyL_take (i := 8) (oi := ⟨some 68, _, _, _, _, _⟩) (v := .int .i64 c.saga) [22] rfl (by kernel_rfl) (by kernel_rfl) (by kernel_rfl) (by kernel_rfl) (fun _ _ _ h => h) (Or.inl ⟨by kernel_rfl, fun w' hS => by have c := row_cell (k := 0) (hS.row GCd.out) (v := .int .i64 c.saga) (by simp [clC]); go_simp⟩) (by assumption) ?_
          try simp only [Act.put, List.setIfInBounds_toArray, List.set_cons_succ, List.set_cons_zero]
          refine wpAnyL_take (i := 9) (oi := ⟨some 69, _, _, _, _, _⟩) (v := .pointer (some ⟨w.heap.size, 1, none⟩)) [22] rfl (by kernel_rfl) (by kernel_rfl) (by kernel_rfl) (by kernel_rfl) (fun _ _ _ h => h) (Or.inl ⟨by kernel_rfl, fun w' hS => by go_simp⟩) (by assumption) ?_
          try simp only [Act.put, List.setIfInBounds_toArray, List.set_cons_succ, List.set_cons_zero]
          refine wpAnyL_take (i := 10) (oi := ⟨some 70, _, _, _, _, _⟩) (v := .int .i64 c.step) [22] rfl (by kernel_rfl) (by kernel_rfl) (by kernel_rfl) (by kernel_rfl) (fun _ _ _ h => h) (Or.inl ⟨by kernel_rfl, fun w' hS => by have c := row_cell (k := 1) (hS.row GCd.out) (v := .int .i64 c.step) (by simp [clC]); go_simp⟩) (by assumption) ?_
          try simp only [Act.put, List.setIfInBounds_toArray, List.set_cons_succ, List.set_cons_zero]
          refine wpAnyL_take (i := 11) (oi := ⟨some 71, _, _, _, _, _⟩) (v := .bool false) [22] rfl (by kernel_rfl) (by kernel_rfl) (by kernel_rfl) (by kernel_rfl) (fun _ _ _ h => h) (Or.inl ⟨by kernel_rfl, fun w' hS => by go_simp⟩) (by assumption) ?_
          try simp only [Act.put, List.setIfInBounds_toArray, List.set_cons_succ, List.set_cons_zero]
          refine wpAnyL_take (i := 12) (oi := ⟨some 72, _, _, _, _, _⟩) (v := .bool true) [22] rfl (by kernel_rfl) (by kernel_rfl) (by kernel_rfl) (by kernel_rfl) (fun _ _ _ h => h) (Or.inl ⟨by kernel_rfl, fun w' hS => by go_simp⟩) (by assumption) ?_
          try simp only [Act.put, List.setIfInBounds_toArray, List.set_cons_succ, List.set_cons_zero]
          refine wpAnyL_ready (rs := [1]) (by kernel_rfl) (by simp) ?_
          refine AllReadyL.cons (o := ⟨some 61, _, _, _, _, _⟩) rfl (fun K hK => ?_) AllReadyL.nil
          have hS1 := hS0.alloc (.cells #[] 76)
          have HE1 := Lib.hid (buf_empty w4 w4.heap.size hS0.size)
          go_simp
          refine hK.out _ _ hS1 (fun hHeld => ?_)
          clear hK K
          try simp only [Act.put, List.setIfInBounds_toArray, List.set_cons_succ, List.set_cons_zero]
          have hlo1 := Lib.hid (Nat.le_refl w4.heap.size)
          generalize hwE1 : w4.alloc (.cells #[] 76) = wE at *
          refine wpAnyL_ready (rs := [6]) (by kernel_rfl) (by simp) ?_
          refine AllReadyL.cons (o := ⟨some 66, _, _, _, _, _⟩) rfl (fun K hK => ?_) AllReadyL.nil
          obtain ⟨hi76, hs76, hb76, hz76⟩ := HI.out
          have hl1000 := HL.out
          have hsz2 : w4.heap.size ≤ wE.heap.size := hS1.size
          refine step_append_buf _ rfl (.tmp 61) (.tmp 65) 63 63 rfl w4.heap.size 76 i76 (.agg #[.int .i64 0, .int .i64 0, .bool false, .bool false]) 4 24 Tryd.underlying63 hi76 hz76 hs76 hb76 rfl (by decide) _ 0 [] rfl HE1.out _ _ _ rfl ((HPd.out.same hS1).buf.src Tryd.underlying63 (ensC_one l)) (by unfold maxLen; omega) (by omega) hsz2 ?_
          intro v2 wa2 hb2 hg2 _ _
          have hS2 := hS1.grown hg2 (fun j hj => .inr (HE1.out.lt j hj).1)
          rw [Nat.zero_add, List.nil_append] at hb2
          have HA2 := Lib.hid hb2
          obtain ⟨a2, ca2, rfl, _, _⟩ := HA2.out.form
          clear hb2 hg2 hi76 hs76 hb76 hz76
          refine hK.out _ _ hS2 (fun hHeld => ?_)
          clear hK K
          try simp only [Act.put, List.setIfInBounds_toArray, List.set_cons_succ, List.set_cons_zero]
          refine wpAnyL_take (i := 13) (oi := ⟨some 73, _, _, _, _, _⟩) (v := .bool true) [22] rfl (by kernel_rfl) (by kernel_rfl) (by kernel_rfl) (by kernel_rfl) (fun _ _ _ h => h) (Or.inl ⟨by kernel_rfl, fun w' hS => by go_simp⟩) (by assumption) ?_
          try simp only [Act.put, List.setIfInBounds_toArray, List.set_cons_succ, List.set_cons_zero]
          refine wpAnyL_take (i := 14) (oi := ⟨some 74, _, _, _, _, _⟩) (v := .bool true) [22] rfl (by kernel_rfl) (by kernel_rfl) (by kernel_rfl) (by kernel_rfl) (fun _ _ _ h => h) (Or.inl ⟨by kernel_rfl, fun w' hS => by go_simp⟩) (by assumption) ?_
          try simp only [Act.put, List.setIfInBounds_toArray, List.set_cons_succ, List.set_cons_zero]
          refine wpAnyL_take (i := 15) (oi := ⟨some 75, _, _, _, _, _⟩) (v := .bool false) [22] rfl (by kernel_rfl) (by kernel_rfl) (by kernel_rfl) (by kernel_rfl) (fun _ _ _ h => h) (Or.inl ⟨by kernel_rfl, fun w' hS => by go_simp⟩) (by assumption) ?_
          try simp only [Act.put, List.setIfInBounds_toArray, List.set_cons_succ, List.set_cons_zero]
          refine wpAnyL_take (i := 16) (oi := ⟨some 76, _, _, _, _, _⟩) (v := .bool false) [22] rfl (by kernel_rfl) (by kernel_rfl) (by kernel_rfl) (by kernel_rfl) (fun _ _ _ h => h) (Or.inl ⟨by kernel_rfl, fun w' hS => by go_simp⟩) (by assumption) ?_
          try simp only [Act.put, List.setIfInBounds_toArray, List.set_cons_succ, List.set_cons_zero]
          refine wpAnyL_take (i := 17) (oi := ⟨some 77, _, _, _, _, _⟩) (v := .agg #[.int .i64 c.saga, .int .i64 c.step, .bool false, .bool false]) [22] rfl (by kernel_rfl) (by kernel_rfl) (by kernel_rfl) (by kernel_rfl) (fun _ _ _ h => h) (Or.inl ⟨by kernel_rfl, fun w' hS => by go_simp⟩) (by assumption) ?_
          try simp only [Act.put, List.setIfInBounds_toArray, List.set_cons_succ, List.set_cons_zero]
          refine wpAnyL_ready (rs := [18]) (by kernel_rfl) (by simp) ?_
          refine AllReadyL.cons (o := ⟨some 78, _, _, _, _, _⟩) rfl (fun K hK => ?_) AllReadyL.nil
          have hS3 := hS2.alloc (.cells (enC ⟨c.saga, c.step, false, false⟩).toArray 76)
          have HO3 := Lib.hid (heap_alloc_new wa2 (.cells (enC ⟨c.saga, c.step, false, false⟩).toArray 76))
          have HA3 := Lib.hid (HA2.out.kept ((Kept.refl (fun _ => False) wa2).alloc (.cells (enC ⟨c.saga, c.step, false, false⟩).toArray 76)) (fun _ _ e => e))
          go_simp
          refine hK.out _ _ hS3 (fun hHeld => ?_)
          clear hK K
          try simp only [Act.put, List.setIfInBounds_toArray, List.set_cons_succ, List.set_cons_zero]
          change wpAnyL _ _ _ _ _ _ _ _ _ (wa2.alloc (.cells (enC ⟨c.saga, c.step, false, false⟩).toArray 76))
          generalize hwO3 : wa2.alloc (.cells (enC ⟨c.saga, c.step, false, false⟩).toArray 76) = wO at *
          generalize hbo3 : wa2.heap.size = bo at *
          refine wpAnyL_ready (rs := [19]) (by kernel_rfl) (by simp) ?_
          refine AllReadyL.cons (o := ⟨some 79, _, _, _, _, _⟩) rfl (fun K hK => ?_) AllReadyL.nil
          obtain ⟨hi76, hs76, hb76, hz76⟩ := HI.out
          have hl1000 := HL.out
          have hsz4 : w4.heap.size ≤ wO.heap.size := hS3.size
          refine step_append_buf _ rfl (.tmp 66) (.tmp 78) 63 63 rfl w4.heap.size 76 i76 (.agg #[.int .i64 0, .int .i64 0, .bool false, .bool false]) 4 24 Tryd.underlying63 hi76 hz76 hs76 hb76 rfl (by decide) _ l.length (ensC l) rfl HA3.out _ _ _ rfl (src_en HO3.out) (by unfold maxLen; omega) (by omega) hsz4 ?_
          intro v4 wb4 hb4 hg4 _ _
          have hS4 := hS3.grown hg4 (fun j hj => .inr (HA3.out.lt j hj).1)
          have HB4 := Lib.hid hb4
          obtain ⟨a4, ca4, rfl, _, _⟩ := HB4.out.form
          clear hb4 hg4 hi76 hs76 hb76 hz76
          refine hK.out _ _ hS4 (fun hHeld => ?_)
          clear hK K
          try simp only [Act.put, List.setIfInBounds_toArray, List.set_cons_succ, List.set_cons_zero]
          refine wpAnyL_take (i := 20) (oi := ⟨some 80, _, _, _, _, _⟩) (v := .pointer (some ⟨g, 0, none⟩)) [21, 22] rfl (by kernel_rfl) (by kernel_rfl) (by kernel_rfl) (by kernel_rfl) (fun _ _ _ h => h) (Or.inl ⟨by kernel_rfl, fun w' hS => by go_simp⟩) (by assumption) ?_
          try simp only [Act.put, List.setIfInBounds_toArray, List.set_cons_succ, List.set_cons_zero]
          refine wpAnyL_take (i := 21) (oi := ⟨some 81, _, _, _, _, _⟩) (v := .pointer (some ⟨g, 5, none⟩)) [22] rfl (by kernel_rfl) (by kernel_rfl) (by kernel_rfl) (by kernel_rfl) (fun _ _ _ h => h) (Or.inl ⟨by kernel_rfl, fun w' hS => by go_simp⟩) (by assumption) ?_
          try simp only [Act.put, List.setIfInBounds_toArray, List.set_cons_succ, List.set_cons_zero]
          refine wpAnyL_ready (rs := [22]) (by kernel_rfl) (by simp) ?_
          refine AllReadyL.ends (o := ⟨none, _, _, _, _, _⟩) rfl (fun K hK => ?_)
          have GP6 := Lib.hid (hS4.row HPd.out.blk)
          have cc6 := row_cell (k := 5) GP6.out (v := .slice sa l.length sc) rfl
          have f6 := free_of_block (j := 5) GP6.out
          go_simp
          refine hK.out _ _ ?_
          clear hK K
          try simp only [Act.put, List.setIfInBounds_toArray, List.set_cons_succ, List.set_cons_zero]
          refine wpAnyL_done (by kernel_rfl) ?_ _
          have KK := Lib.hid (Kd.out.trans hS4)
          clear cc6 f6 hHeld
          go_wp2_with fail
          go_ret
          exact PrPost.noted (show Value.bool false = Value.bool Y.1 from congrArg Value.bool hvv.out.symm) hxx.out HPW.out KK.out HB4.out Kd.out.size
      | false =>
        rw [hu] at hun
        cases refuse with
        | true =>
          cases hkd : (c.kind == 3) with
          | true =>
            have hxx : Hid (Y.2 = l) := by show _ = _; rw [HYN.out]; simp [pNotes, pGood, hbk, hun, bne, hkd]
            have hvv : Hid (Y.1 = false) := by show _ = _; rw [HYN.out]; simp [pGood]
            have hE := Lib.hid (PrPost.stay (v := .bool Y.1) (v' := .bool false) (l := Y.2) (by rw [hvv.out]) (by rw [hxx.out]) HPW.out K3.out)
            go_wp2_with fail
            go_ret
            exact hE.out
          | false =>
            have hxx : Hid (Y.2 = l ++ [⟨c.saga, c.step, false, false⟩]) := by
              show _ = _
              rw [HYN.out]
              simp [pNotes, pGood, hbk, hun, bne, hkd]
            have hvv : Hid (Y.1 = false) := by show _ = _; rw [HYN.out]; simp [pGood, hun]
            clear hbk hun
            go_upto_region 11 with (fail)
            obtain ⟨sa, sc, rfl, _⟩ := HP3.out.buf.form
            have kd := (Kept.refl (fun _ => False) w3).drew
            have HPd := Lib.hid (HP3.out.same kd)
            have GCd := Lib.hid (kd.row GC3.out)
            have Kd := Lib.hid (K3.out.trans kd)
            clear kd HP3 GC3 K3
            refine wp_region_last_drew (S := fun w' => Kept (fun _ => False) w3.drew w') 22 (by kernel_rfl) (Kept.refl _ _) (fun hHeld => ?_)
            generalize w3.drew = w4 at *
            have hS0 : Kept (fun _ => False) w4 w4 := Kept.refl _ _
            refine wpAnyL_take (i := 0) (oi := ⟨some 60, _, _, _, _, _⟩) (v := .pointer (some ⟨g, 0, none⟩)) [22] rfl (by kernel_rfl) (by kernel_rfl) (by kernel_rfl) (by kernel_rfl) (fun _ _ _ h => h) (Or.inl ⟨by kernel_rfl, fun w' hS => by go_simp⟩) (by assumption) ?_
            try simp only [Act.put, List.setIfInBounds_toArray, List.set_cons_succ, List.set_cons_zero]
            refine wpAnyL_take (i := 2) (oi := ⟨some 62, _, _, _, _, _⟩) (v := .pointer (some ⟨g, 0, none⟩)) [22] rfl (by kernel_rfl) (by kernel_rfl) (by kernel_rfl) (by kernel_rfl) (fun _ _ _ h => h) (Or.inl ⟨by kernel_rfl, fun w' hS => by go_simp⟩) (by assumption) ?_
            try simp only [Act.put, List.setIfInBounds_toArray, List.set_cons_succ, List.set_cons_zero]
            refine wpAnyL_take (i := 3) (oi := ⟨some 63, _, _, _, _, _⟩) (v := .pointer (some ⟨g, 0, none⟩)) [22] rfl (by kernel_rfl) (by kernel_rfl) (by kernel_rfl) (by kernel_rfl) (fun _ _ _ h => h) (Or.inl ⟨by kernel_rfl, fun w' hS => by go_simp⟩) (by assumption) ?_
            try simp only [Act.put, List.setIfInBounds_toArray, List.set_cons_succ, List.set_cons_zero]
            refine wpAnyL_take (i := 4) (oi := ⟨some 64, _, _, _, _, _⟩) (v := .pointer (some ⟨g, 5, none⟩)) [22] rfl (by kernel_rfl) (by kernel_rfl) (by kernel_rfl) (by kernel_rfl) (fun _ _ _ h => h) (Or.inl ⟨by kernel_rfl, fun w' hS => by go_simp⟩) (by assumption) ?_
            try simp only [Act.put, List.setIfInBounds_toArray, List.set_cons_succ, List.set_cons_zero]
            refine wpAnyL_take (i := 5) (oi := ⟨some 65, _, _, _, _, _⟩) (v := .slice sa l.length sc) [22] rfl (by kernel_rfl) (by kernel_rfl) (by kernel_rfl) (by kernel_rfl) (fun _ _ _ h => h) (Or.inl ⟨by kernel_rfl, fun w' hS => by have c := row_cell (k := 5) (hS.row HPd.out.blk) (v := .slice sa l.length sc) (rfl); go_simp⟩) (by assumption) ?_
            try simp only [Act.put, List.setIfInBounds_toArray, List.set_cons_succ, List.set_cons_zero]
            refine wpAnyL_take (i := 7) (oi := ⟨some 67, _, _, _, _, _⟩) (v := .pointer (some ⟨w.heap.size, 0, none⟩)) [22] rfl (by kernel_rfl) (by kernel_rfl) (by kernel_rfl) (by kernel_rfl) (fun _ _ _ h => h) (Or.inl ⟨by kernel_rfl, fun w' hS => by go_simp⟩) (by assumption) ?_
            try simp only [Act.put, List.setIfInBounds_toArray, List.set_cons_succ, List.set_cons_zero]
            refine wpAnyL_take (i := 8) (oi := ⟨some 68, _, _, _, _, _⟩) (v := .int .i64 c.saga) [22] rfl (by kernel_rfl) (by kernel_rfl) (by kernel_rfl) (by kernel_rfl) (fun _ _ _ h => h) (Or.inl ⟨by kernel_rfl, fun w' hS => by have c := row_cell (k := 0) (hS.row GCd.out) (v := .int .i64 c.saga) (by simp [clC]); go_simp⟩) (by assumption) ?_
            try simp only [Act.put, List.setIfInBounds_toArray, List.set_cons_succ, List.set_cons_zero]
            refine wpAnyL_take (i := 9) (oi := ⟨some 69, _, _, _, _, _⟩) (v := .pointer (some ⟨w.heap.size, 1, none⟩)) [22] rfl (by kernel_rfl) (by kernel_rfl) (by kernel_rfl) (by kernel_rfl) (fun _ _ _ h => h) (Or.inl ⟨by kernel_rfl, fun w' hS => by go_simp⟩) (by assumption) ?_
            try simp only [Act.put, List.setIfInBounds_toArray, List.set_cons_succ, List.set_cons_zero]
            refine wpAnyL_take (i := 10) (oi := ⟨some 70, _, _, _, _, _⟩) (v := .int .i64 c.step) [22] rfl (by kernel_rfl) (by kernel_rfl) (by kernel_rfl) (by kernel_rfl) (fun _ _ _ h => h) (Or.inl ⟨by kernel_rfl, fun w' hS => by have c := row_cell (k := 1) (hS.row GCd.out) (v := .int .i64 c.step) (by simp [clC]); go_simp⟩) (by assumption) ?_
            try simp only [Act.put, List.setIfInBounds_toArray, List.set_cons_succ, List.set_cons_zero]
            refine wpAnyL_take (i := 11) (oi := ⟨some 71, _, _, _, _, _⟩) (v := .bool true) [22] rfl (by kernel_rfl) (by kernel_rfl) (by kernel_rfl) (by kernel_rfl) (fun _ _ _ h => h) (Or.inl ⟨by kernel_rfl, fun w' hS => by go_simp⟩) (by assumption) ?_
            try simp only [Act.put, List.setIfInBounds_toArray, List.set_cons_succ, List.set_cons_zero]
            refine wpAnyL_take (i := 12) (oi := ⟨some 72, _, _, _, _, _⟩) (v := .bool false) [22] rfl (by kernel_rfl) (by kernel_rfl) (by kernel_rfl) (by kernel_rfl) (fun _ _ _ h => h) (Or.inl ⟨by kernel_rfl, fun w' hS => by go_simp⟩) (by assumption) ?_
            try simp only [Act.put, List.setIfInBounds_toArray, List.set_cons_succ, List.set_cons_zero]
            refine wpAnyL_ready (rs := [1]) (by kernel_rfl) (by simp) ?_
            refine AllReadyL.cons (o := ⟨some 61, _, _, _, _, _⟩) rfl (fun K hK => ?_) AllReadyL.nil
            have hS1 := hS0.alloc (.cells #[] 76)
            have HE1 := Lib.hid (buf_empty w4 w4.heap.size hS0.size)
            go_simp
            refine hK.out _ _ hS1 (fun hHeld => ?_)
            clear hK K
            try simp only [Act.put, List.setIfInBounds_toArray, List.set_cons_succ, List.set_cons_zero]
            have hlo1 := Lib.hid (Nat.le_refl w4.heap.size)
            generalize hwE1 : w4.alloc (.cells #[] 76) = wE at *
            refine wpAnyL_ready (rs := [6]) (by kernel_rfl) (by simp) ?_
            refine AllReadyL.cons (o := ⟨some 66, _, _, _, _, _⟩) rfl (fun K hK => ?_) AllReadyL.nil
            obtain ⟨hi76, hs76, hb76, hz76⟩ := HI.out
            have hl1000 := HL.out
            have hsz2 : w4.heap.size ≤ wE.heap.size := hS1.size
            refine step_append_buf _ rfl (.tmp 61) (.tmp 65) 63 63 rfl w4.heap.size 76 i76 (.agg #[.int .i64 0, .int .i64 0, .bool false, .bool false]) 4 24 Tryd.underlying63 hi76 hz76 hs76 hb76 rfl (by decide) _ 0 [] rfl HE1.out _ _ _ rfl ((HPd.out.same hS1).buf.src Tryd.underlying63 (ensC_one l)) (by unfold maxLen; omega) (by omega) hsz2 ?_
            intro v2 wa2 hb2 hg2 _ _
            have hS2 := hS1.grown hg2 (fun j hj => .inr (HE1.out.lt j hj).1)
            rw [Nat.zero_add, List.nil_append] at hb2
            have HA2 := Lib.hid hb2
            obtain ⟨a2, ca2, rfl, _, _⟩ := HA2.out.form
            clear hb2 hg2 hi76 hs76 hb76 hz76
            refine hK.out _ _ hS2 (fun hHeld => ?_)
            clear hK K
            try simp only [Act.put, List.setIfInBounds_toArray, List.set_cons_succ, List.set_cons_zero]
            refine wpAnyL_take (i := 13) (oi := ⟨some 73, _, _, _, _, _⟩) (v := .bool false) [22] rfl (by kernel_rfl) (by kernel_rfl) (by kernel_rfl) (by kernel_rfl) (fun _ _ _ h => h) (Or.inl ⟨by kernel_rfl, fun w' hS => by go_simp⟩) (by assumption) ?_
            try simp only [Act.put, List.setIfInBounds_toArray, List.set_cons_succ, List.set_cons_zero]
            refine wpAnyL_take (i := 14) (oi := ⟨some 74, _, _, _, _, _⟩) (v := undef) [22] rfl (by kernel_rfl) (by kernel_rfl) (by kernel_rfl) (by kernel_rfl) (fun _ _ _ h => h) (Or.inr ⟨by kernel_rfl, rfl⟩) (by assumption) ?_
            try simp only [Act.put, List.setIfInBounds_toArray, List.set_cons_succ, List.set_cons_zero]
            refine wpAnyL_take (i := 15) (oi := ⟨some 75, _, _, _, _, _⟩) (v := undef) [22] rfl (by kernel_rfl) (by kernel_rfl) (by kernel_rfl) (by kernel_rfl) (fun _ _ _ h => h) (Or.inr ⟨by kernel_rfl, rfl⟩) (by assumption) ?_
            try simp only [Act.put, List.setIfInBounds_toArray, List.set_cons_succ, List.set_cons_zero]
            refine wpAnyL_take (i := 16) (oi := ⟨some 76, _, _, _, _, _⟩) (v := .bool false) [22] rfl (by kernel_rfl) (by kernel_rfl) (by kernel_rfl) (by kernel_rfl) (fun _ _ _ h => h) (Or.inl ⟨by kernel_rfl, fun w' hS => by go_simp⟩) (by assumption) ?_
            try simp only [Act.put, List.setIfInBounds_toArray, List.set_cons_succ, List.set_cons_zero]
            refine wpAnyL_take (i := 17) (oi := ⟨some 77, _, _, _, _, _⟩) (v := .agg #[.int .i64 c.saga, .int .i64 c.step, .bool false, .bool false]) [22] rfl (by kernel_rfl) (by kernel_rfl) (by kernel_rfl) (by kernel_rfl) (fun _ _ _ h => h) (Or.inl ⟨by kernel_rfl, fun w' hS => by go_simp⟩) (by assumption) ?_
            try simp only [Act.put, List.setIfInBounds_toArray, List.set_cons_succ, List.set_cons_zero]
            refine wpAnyL_ready (rs := [18]) (by kernel_rfl) (by simp) ?_
            refine AllReadyL.cons (o := ⟨some 78, _, _, _, _, _⟩) rfl (fun K hK => ?_) AllReadyL.nil
            have hS3 := hS2.alloc (.cells (enC ⟨c.saga, c.step, false, false⟩).toArray 76)
            have HO3 := Lib.hid (heap_alloc_new wa2 (.cells (enC ⟨c.saga, c.step, false, false⟩).toArray 76))
            have HA3 := Lib.hid (HA2.out.kept ((Kept.refl (fun _ => False) wa2).alloc (.cells (enC ⟨c.saga, c.step, false, false⟩).toArray 76)) (fun _ _ e => e))
            go_simp
            refine hK.out _ _ hS3 (fun hHeld => ?_)
            clear hK K
            try simp only [Act.put, List.setIfInBounds_toArray, List.set_cons_succ, List.set_cons_zero]
            change wpAnyL _ _ _ _ _ _ _ _ _ (wa2.alloc (.cells (enC ⟨c.saga, c.step, false, false⟩).toArray 76))
            generalize hwO3 : wa2.alloc (.cells (enC ⟨c.saga, c.step, false, false⟩).toArray 76) = wO at *
            generalize hbo3 : wa2.heap.size = bo at *
            refine wpAnyL_ready (rs := [19]) (by kernel_rfl) (by simp) ?_
            refine AllReadyL.cons (o := ⟨some 79, _, _, _, _, _⟩) rfl (fun K hK => ?_) AllReadyL.nil
            obtain ⟨hi76, hs76, hb76, hz76⟩ := HI.out
            have hl1000 := HL.out
            have hsz4 : w4.heap.size ≤ wO.heap.size := hS3.size
            refine step_append_buf _ rfl (.tmp 66) (.tmp 78) 63 63 rfl w4.heap.size 76 i76 (.agg #[.int .i64 0, .int .i64 0, .bool false, .bool false]) 4 24 Tryd.underlying63 hi76 hz76 hs76 hb76 rfl (by decide) _ l.length (ensC l) rfl HA3.out _ _ _ rfl (src_en HO3.out) (by unfold maxLen; omega) (by omega) hsz4 ?_
            intro v4 wb4 hb4 hg4 _ _
            have hS4 := hS3.grown hg4 (fun j hj => .inr (HA3.out.lt j hj).1)
            have HB4 := Lib.hid hb4
            obtain ⟨a4, ca4, rfl, _, _⟩ := HB4.out.form
            clear hb4 hg4 hi76 hs76 hb76 hz76
            refine hK.out _ _ hS4 (fun hHeld => ?_)
            clear hK K
            try simp only [Act.put, List.setIfInBounds_toArray, List.set_cons_succ, List.set_cons_zero]
            refine wpAnyL_take (i := 20) (oi := ⟨some 80, _, _, _, _, _⟩) (v := .pointer (some ⟨g, 0, none⟩)) [21, 22] rfl (by kernel_rfl) (by kernel_rfl) (by kernel_rfl) (by kernel_rfl) (fun _ _ _ h => h) (Or.inl ⟨by kernel_rfl, fun w' hS => by go_simp⟩) (by assumption) ?_
            try simp only [Act.put, List.setIfInBounds_toArray, List.set_cons_succ, List.set_cons_zero]
            refine wpAnyL_take (i := 21) (oi := ⟨some 81, _, _, _, _, _⟩) (v := .pointer (some ⟨g, 5, none⟩)) [22] rfl (by kernel_rfl) (by kernel_rfl) (by kernel_rfl) (by kernel_rfl) (fun _ _ _ h => h) (Or.inl ⟨by kernel_rfl, fun w' hS => by go_simp⟩) (by assumption) ?_
            try simp only [Act.put, List.setIfInBounds_toArray, List.set_cons_succ, List.set_cons_zero]
            refine wpAnyL_ready (rs := [22]) (by kernel_rfl) (by simp) ?_
            refine AllReadyL.ends (o := ⟨none, _, _, _, _, _⟩) rfl (fun K hK => ?_)
            have GP6 := Lib.hid (hS4.row HPd.out.blk)
            have cc6 := row_cell (k := 5) GP6.out (v := .slice sa l.length sc) rfl
            have f6 := free_of_block (j := 5) GP6.out
            go_simp
            refine hK.out _ _ ?_
            clear hK K
            try simp only [Act.put, List.setIfInBounds_toArray, List.set_cons_succ, List.set_cons_zero]
            refine wpAnyL_done (by kernel_rfl) ?_ _
            have KK := Lib.hid (Kd.out.trans hS4)
            clear cc6 f6 hHeld
            go_wp2_with fail
            go_ret
            exact PrPost.noted (show Value.bool false = Value.bool Y.1 from congrArg Value.bool hvv.out.symm) hxx.out HPW.out KK.out HB4.out Kd.out.size
        | false =>
          have hxx : Hid (Y.2 = l ++ [⟨c.saga, c.step, false, true⟩]) := by
            show _ = _
            rw [HYN.out]
            simp [pNotes, pGood, hbk, hun]
          have hvv : Hid (Y.1 = true) := by show _ = _; rw [HYN.out]; simp [pGood, hun]
          clear hbk hun
          go_upto_region 11 with (fail)
          obtain ⟨sa, sc, rfl, _⟩ := HP3.out.buf.form
          have kd := (Kept.refl (fun _ => False) w3).drew
          have HPd := Lib.hid (HP3.out.same kd)
          have GCd := Lib.hid (kd.row GC3.out)
          have Kd := Lib.hid (K3.out.trans kd)
          clear kd HP3 GC3 K3
          refine wp_region_last_drew (S := fun w' => Kept (fun _ => False) w3.drew w') 22 (by kernel_rfl) (Kept.refl _ _) (fun hHeld => ?_)
          generalize w3.drew = w4 at *
          have hS0 : Kept (fun _ => False) w4 w4 := Kept.refl _ _
          refine wpAnyL_take (i := 0) (oi := ⟨some 60, _, _, _, _, _⟩) (v := .pointer (some ⟨g, 0, none⟩)) [22] rfl (by kernel_rfl) (by kernel_rfl) (by kernel_rfl) (by kernel_rfl) (fun _ _ _ h => h) (Or.inl ⟨by kernel_rfl, fun w' hS => by go_simp⟩) (by assumption) ?_
          try simp only [Act.put, List.setIfInBounds_toArray, List.set_cons_succ, List.set_cons_zero]
          refine wpAnyL_take (i := 2) (oi := ⟨some 62, _, _, _, _, _⟩) (v := .pointer (some ⟨g, 0, none⟩)) [22] rfl (by kernel_rfl) (by kernel_rfl) (by kernel_rfl) (by kernel_rfl) (fun _ _ _ h => h) (Or.inl ⟨by kernel_rfl, fun w' hS => by go_simp⟩) (by assumption) ?_
          try simp only [Act.put, List.setIfInBounds_toArray, List.set_cons_succ, List.set_cons_zero]
          refine wpAnyL_take (i := 3) (oi := ⟨some 63, _, _, _, _, _⟩) (v := .pointer (some ⟨g, 0, none⟩)) [22] rfl (by kernel_rfl) (by kernel_rfl) (by kernel_rfl) (by kernel_rfl) (fun _ _ _ h => h) (Or.inl ⟨by kernel_rfl, fun w' hS => by go_simp⟩) (by assumption) ?_
          try simp only [Act.put, List.setIfInBounds_toArray, List.set_cons_succ, List.set_cons_zero]
          refine wpAnyL_take (i := 4) (oi := ⟨some 64, _, _, _, _, _⟩) (v := .pointer (some ⟨g, 5, none⟩)) [22] rfl (by kernel_rfl) (by kernel_rfl) (by kernel_rfl) (by kernel_rfl) (fun _ _ _ h => h) (Or.inl ⟨by kernel_rfl, fun w' hS => by go_simp⟩) (by assumption) ?_
          try simp only [Act.put, List.setIfInBounds_toArray, List.set_cons_succ, List.set_cons_zero]
          refine wpAnyL_take (i := 5) (oi := ⟨some 65, _, _, _, _, _⟩) (v := .slice sa l.length sc) [22] rfl (by kernel_rfl) (by kernel_rfl) (by kernel_rfl) (by kernel_rfl) (fun _ _ _ h => h) (Or.inl ⟨by kernel_rfl, fun w' hS => by have c := row_cell (k := 5) (hS.row HPd.out.blk) (v := .slice sa l.length sc) (rfl); go_simp⟩) (by assumption) ?_
          try simp only [Act.put, List.setIfInBounds_toArray, List.set_cons_succ, List.set_cons_zero]
          refine wpAnyL_take (i := 7) (oi := ⟨some 67, _, _, _, _, _⟩) (v := .pointer (some ⟨w.heap.size, 0, none⟩)) [22] rfl (by kernel_rfl) (by kernel_rfl) (by kernel_rfl) (by kernel_rfl) (fun _ _ _ h => h) (Or.inl ⟨by kernel_rfl, fun w' hS => by go_simp⟩) (by assumption) ?_
          try simp only [Act.put, List.setIfInBounds_toArray, List.set_cons_succ, List.set_cons_zero]
          refine wpAnyL_take (i := 8) (oi := ⟨some 68, _, _, _, _, _⟩) (v := .int .i64 c.saga) [22] rfl (by kernel_rfl) (by kernel_rfl) (by kernel_rfl) (by kernel_rfl) (fun _ _ _ h => h) (Or.inl ⟨by kernel_rfl, fun w' hS => by have c := row_cell (k := 0) (hS.row GCd.out) (v := .int .i64 c.saga) (by simp [clC]); go_simp⟩) (by assumption) ?_
          try simp only [Act.put, List.setIfInBounds_toArray, List.set_cons_succ, List.set_cons_zero]
          refine wpAnyL_take (i := 9) (oi := ⟨some 69, _, _, _, _, _⟩) (v := .pointer (some ⟨w.heap.size, 1, none⟩)) [22] rfl (by kernel_rfl) (by kernel_rfl) (by kernel_rfl) (by kernel_rfl) (fun _ _ _ h => h) (Or.inl ⟨by kernel_rfl, fun w' hS => by go_simp⟩) (by assumption) ?_
          try simp only [Act.put, List.setIfInBounds_toArray, List.set_cons_succ, List.set_cons_zero]
          refine wpAnyL_take (i := 10) (oi := ⟨some 70, _, _, _, _, _⟩) (v := .int .i64 c.step) [22] rfl (by kernel_rfl) (by kernel_rfl) (by kernel_rfl) (by kernel_rfl) (fun _ _ _ h => h) (Or.inl ⟨by kernel_rfl, fun w' hS => by have c := row_cell (k := 1) (hS.row GCd.out) (v := .int .i64 c.step) (by simp [clC]); go_simp⟩) (by assumption) ?_
          try simp only [Act.put, List.setIfInBounds_toArray, List.set_cons_succ, List.set_cons_zero]
          refine wpAnyL_take (i := 11) (oi := ⟨some 71, _, _, _, _, _⟩) (v := .bool false) [22] rfl (by kernel_rfl) (by kernel_rfl) (by kernel_rfl) (by kernel_rfl) (fun _ _ _ h => h) (Or.inl ⟨by kernel_rfl, fun w' hS => by go_simp⟩) (by assumption) ?_
          try simp only [Act.put, List.setIfInBounds_toArray, List.set_cons_succ, List.set_cons_zero]
          refine wpAnyL_take (i := 12) (oi := ⟨some 72, _, _, _, _, _⟩) (v := .bool true) [22] rfl (by kernel_rfl) (by kernel_rfl) (by kernel_rfl) (by kernel_rfl) (fun _ _ _ h => h) (Or.inl ⟨by kernel_rfl, fun w' hS => by go_simp⟩) (by assumption) ?_
          try simp only [Act.put, List.setIfInBounds_toArray, List.set_cons_succ, List.set_cons_zero]
          refine wpAnyL_ready (rs := [1]) (by kernel_rfl) (by simp) ?_
          refine AllReadyL.cons (o := ⟨some 61, _, _, _, _, _⟩) rfl (fun K hK => ?_) AllReadyL.nil
          have hS1 := hS0.alloc (.cells #[] 76)
          have HE1 := Lib.hid (buf_empty w4 w4.heap.size hS0.size)
          go_simp
          refine hK.out _ _ hS1 (fun hHeld => ?_)
          clear hK K
          try simp only [Act.put, List.setIfInBounds_toArray, List.set_cons_succ, List.set_cons_zero]
          have hlo1 := Lib.hid (Nat.le_refl w4.heap.size)
          generalize hwE1 : w4.alloc (.cells #[] 76) = wE at *
          refine wpAnyL_ready (rs := [6]) (by kernel_rfl) (by simp) ?_
          refine AllReadyL.cons (o := ⟨some 66, _, _, _, _, _⟩) rfl (fun K hK => ?_) AllReadyL.nil
          obtain ⟨hi76, hs76, hb76, hz76⟩ := HI.out
          have hl1000 := HL.out
          have hsz2 : w4.heap.size ≤ wE.heap.size := hS1.size
          refine step_append_buf _ rfl (.tmp 61) (.tmp 65) 63 63 rfl w4.heap.size 76 i76 (.agg #[.int .i64 0, .int .i64 0, .bool false, .bool false]) 4 24 Tryd.underlying63 hi76 hz76 hs76 hb76 rfl (by decide) _ 0 [] rfl HE1.out _ _ _ rfl ((HPd.out.same hS1).buf.src Tryd.underlying63 (ensC_one l)) (by unfold maxLen; omega) (by omega) hsz2 ?_
          intro v2 wa2 hb2 hg2 _ _
          have hS2 := hS1.grown hg2 (fun j hj => .inr (HE1.out.lt j hj).1)
          rw [Nat.zero_add, List.nil_append] at hb2
          have HA2 := Lib.hid hb2
          obtain ⟨a2, ca2, rfl, _, _⟩ := HA2.out.form
          clear hb2 hg2 hi76 hs76 hb76 hz76
          refine hK.out _ _ hS2 (fun hHeld => ?_)
          clear hK K
          try simp only [Act.put, List.setIfInBounds_toArray, List.set_cons_succ, List.set_cons_zero]
          refine wpAnyL_take (i := 13) (oi := ⟨some 73, _, _, _, _, _⟩) (v := .bool true) [22] rfl (by kernel_rfl) (by kernel_rfl) (by kernel_rfl) (by kernel_rfl) (fun _ _ _ h => h) (Or.inl ⟨by kernel_rfl, fun w' hS => by go_simp⟩) (by assumption) ?_
          try simp only [Act.put, List.setIfInBounds_toArray, List.set_cons_succ, List.set_cons_zero]
          refine wpAnyL_take (i := 14) (oi := ⟨some 74, _, _, _, _, _⟩) (v := .bool false) [22] rfl (by kernel_rfl) (by kernel_rfl) (by kernel_rfl) (by kernel_rfl) (fun _ _ _ h => h) (Or.inl ⟨by kernel_rfl, fun w' hS => by go_simp⟩) (by assumption) ?_
          try simp only [Act.put, List.setIfInBounds_toArray, List.set_cons_succ, List.set_cons_zero]
          refine wpAnyL_take (i := 15) (oi := ⟨some 75, _, _, _, _, _⟩) (v := .bool true) [22] rfl (by kernel_rfl) (by kernel_rfl) (by kernel_rfl) (by kernel_rfl) (fun _ _ _ h => h) (Or.inl ⟨by kernel_rfl, fun w' hS => by go_simp⟩) (by assumption) ?_
          try simp only [Act.put, List.setIfInBounds_toArray, List.set_cons_succ, List.set_cons_zero]
          refine wpAnyL_take (i := 16) (oi := ⟨some 76, _, _, _, _, _⟩) (v := .bool true) [22] rfl (by kernel_rfl) (by kernel_rfl) (by kernel_rfl) (by kernel_rfl) (fun _ _ _ h => h) (Or.inl ⟨by kernel_rfl, fun w' hS => by go_simp⟩) (by assumption) ?_
          try simp only [Act.put, List.setIfInBounds_toArray, List.set_cons_succ, List.set_cons_zero]
          refine wpAnyL_take (i := 17) (oi := ⟨some 77, _, _, _, _, _⟩) (v := .agg #[.int .i64 c.saga, .int .i64 c.step, .bool false, .bool true]) [22] rfl (by kernel_rfl) (by kernel_rfl) (by kernel_rfl) (by kernel_rfl) (fun _ _ _ h => h) (Or.inl ⟨by kernel_rfl, fun w' hS => by go_simp⟩) (by assumption) ?_
          try simp only [Act.put, List.setIfInBounds_toArray, List.set_cons_succ, List.set_cons_zero]
          refine wpAnyL_ready (rs := [18]) (by kernel_rfl) (by simp) ?_
          refine AllReadyL.cons (o := ⟨some 78, _, _, _, _, _⟩) rfl (fun K hK => ?_) AllReadyL.nil
          have hS3 := hS2.alloc (.cells (enC ⟨c.saga, c.step, false, true⟩).toArray 76)
          have HO3 := Lib.hid (heap_alloc_new wa2 (.cells (enC ⟨c.saga, c.step, false, true⟩).toArray 76))
          have HA3 := Lib.hid (HA2.out.kept ((Kept.refl (fun _ => False) wa2).alloc (.cells (enC ⟨c.saga, c.step, false, true⟩).toArray 76)) (fun _ _ e => e))
          go_simp
          refine hK.out _ _ hS3 (fun hHeld => ?_)
          clear hK K
          try simp only [Act.put, List.setIfInBounds_toArray, List.set_cons_succ, List.set_cons_zero]
          change wpAnyL _ _ _ _ _ _ _ _ _ (wa2.alloc (.cells (enC ⟨c.saga, c.step, false, true⟩).toArray 76))
          generalize hwO3 : wa2.alloc (.cells (enC ⟨c.saga, c.step, false, true⟩).toArray 76) = wO at *
          generalize hbo3 : wa2.heap.size = bo at *
          refine wpAnyL_ready (rs := [19]) (by kernel_rfl) (by simp) ?_
          refine AllReadyL.cons (o := ⟨some 79, _, _, _, _, _⟩) rfl (fun K hK => ?_) AllReadyL.nil
          obtain ⟨hi76, hs76, hb76, hz76⟩ := HI.out
          have hl1000 := HL.out
          have hsz4 : w4.heap.size ≤ wO.heap.size := hS3.size
          refine step_append_buf _ rfl (.tmp 66) (.tmp 78) 63 63 rfl w4.heap.size 76 i76 (.agg #[.int .i64 0, .int .i64 0, .bool false, .bool false]) 4 24 Tryd.underlying63 hi76 hz76 hs76 hb76 rfl (by decide) _ l.length (ensC l) rfl HA3.out _ _ _ rfl (src_en HO3.out) (by unfold maxLen; omega) (by omega) hsz4 ?_
          intro v4 wb4 hb4 hg4 _ _
          have hS4 := hS3.grown hg4 (fun j hj => .inr (HA3.out.lt j hj).1)
          have HB4 := Lib.hid hb4
          obtain ⟨a4, ca4, rfl, _, _⟩ := HB4.out.form
          clear hb4 hg4 hi76 hs76 hb76 hz76
          refine hK.out _ _ hS4 (fun hHeld => ?_)
          clear hK K
          try simp only [Act.put, List.setIfInBounds_toArray, List.set_cons_succ, List.set_cons_zero]
          refine wpAnyL_take (i := 20) (oi := ⟨some 80, _, _, _, _, _⟩) (v := .pointer (some ⟨g, 0, none⟩)) [21, 22] rfl (by kernel_rfl) (by kernel_rfl) (by kernel_rfl) (by kernel_rfl) (fun _ _ _ h => h) (Or.inl ⟨by kernel_rfl, fun w' hS => by go_simp⟩) (by assumption) ?_
          try simp only [Act.put, List.setIfInBounds_toArray, List.set_cons_succ, List.set_cons_zero]
          refine wpAnyL_take (i := 21) (oi := ⟨some 81, _, _, _, _, _⟩) (v := .pointer (some ⟨g, 5, none⟩)) [22] rfl (by kernel_rfl) (by kernel_rfl) (by kernel_rfl) (by kernel_rfl) (fun _ _ _ h => h) (Or.inl ⟨by kernel_rfl, fun w' hS => by go_simp⟩) (by assumption) ?_
          try simp only [Act.put, List.setIfInBounds_toArray, List.set_cons_succ, List.set_cons_zero]
          refine wpAnyL_ready (rs := [22]) (by kernel_rfl) (by simp) ?_
          refine AllReadyL.ends (o := ⟨none, _, _, _, _, _⟩) rfl (fun K hK => ?_)
          have GP6 := Lib.hid (hS4.row HPd.out.blk)
          have cc6 := row_cell (k := 5) GP6.out (v := .slice sa l.length sc) rfl
          have f6 := free_of_block (j := 5) GP6.out
          go_simp
          refine hK.out _ _ ?_
          clear hK K
          try simp only [Act.put, List.setIfInBounds_toArray, List.set_cons_succ, List.set_cons_zero]
          refine wpAnyL_done (by kernel_rfl) ?_ _
          have KK := Lib.hid (Kd.out.trans hS4)
          clear cc6 f6 hHeld
          go_wp2_with fail
          go_ret
          exact PrPost.noted (show Value.bool true = Value.bool Y.1 from congrArg Value.bool hvv.out.symm) hxx.out HPW.out KK.out HB4.out Kd.out.size
end Go.Proofs.YtklmhegmombegaaDoor
namespace Go.Proofs.YtklmhegmombegaaDoor
open Go Go.RowKit Plain
theorem take_no (k : Ky) {n ep : Int} {l : List En} {c : Cl} {rf : Bool} (hi : pIts n c = false) : pTake k n ep l c rf = (zCl, false, l) := by
  unfold pTake
  rw [if_neg (by rw [hi]; decide)]
theorem take_yes (k : Ky) {n ep : Int} {l : List En} {c : Cl} {rf : Bool} (hi : pIts n c = true) : pTake k n ep l c rf = (tagged k (outC c (pSays l c rf).1 ep), true, (pSays l c rf).2) := by
  unfold pTake
  rw [if_pos hi]
/-- The call as the reference's Take makes it, ahead of its tag. -/
def midC (c : Cl) (good : Bool) (ep : Int) : Cl := { c with answer := true, good := good, epoch := ep }
theorem midC_tagged (k : Ky) (c : Cl) (good : Bool) (ep : Int) : clC { midC c good ep with tag := kRec k (tRec (midC c good ep) 1) } = clC (tagged k (outC c good ep)) := rfl
set_option maxHeartbeats 16000000 in
theorem f_rtake (w0 : World) (g : Nat) (pv wv sv : Value) (k : Ky) (n ep : Int) (l : List En) (c : Cl) (refuse : Bool) (w : World) (h : Pr w0 w g pv wv sv k n ep l) (hc : c.tag.length = 32) (hl : l.length ≤ 1000) :
    Calls Tryd.prog 40 #[.pointer (some ⟨g, 0, none⟩), .agg (clC c), .bool refuse] w (PrPost (takeV (pTake k n ep l c refuse)) w0 w g pv wv k n ep (pTake k n ep l c refuse).2.2 sv) := by
  obtain ⟨C0, hC0⟩ : ∃ C0, C0 = clC c := ⟨_, rfl⟩
  obtain ⟨X, hX⟩ : ∃ X, X = pTake k n ep l c refuse := ⟨_, rfl⟩
  rw [← hC0, ← hX]
  have HX := Lib.hid hX
  have HC0 := Lib.hid hC0
  have k1 := ((Kept.refl (fun _ => False) w).alloc (.cells C0 59)).alloc (.cells Z59 59)
  have GC := Lib.hid (heap_alloc2_old w (.cells C0 59) (.cells Z59 59))
  have GZ := Lib.hid (heap_alloc2_new w (.cells C0 59) (.cells Z59 59))
  have HP1 := Lib.hid (h.same k1)
  have HPW := Lib.hid h
  have HLT := Lib.hid (row_lt h.blk)
  have K1 := Lib.hid k1
  have HL := Lib.hid hl
  have HC := Lib.hid hc
  have hz := clC_size hc
  have hi0 := f_rits w0 g pv wv sv k n ep l c _ (h.same k1)
  rw [← hC0] at hz hi0
  have HZ := Lib.hid hz
  have HI := Lib.hid hi0
  clear k1 h hl hc hz hi0 hX hC0
  go_enter Tryd.func40, Tryd.ntmps40
  go_upto_region 1 with (first | fail | (with_reducible refine alloc59 ?_))
  generalize (w.alloc (.cells C0 59)).alloc (.cells Z59 59) = w1 at *
  go_wp2_with (first | fail | ((with_reducible refine load59 (C := C0) (g := w.heap.size) (o := 0) ?_ (range_row GC.out) HZ.out ?_); rfl))
  refine HI.out.mono ?_
  rintro e w2 ⟨rfl, k2⟩
  have GC2 := Lib.hid (k2.row GC.out)
  have GZ2 := Lib.hid (k2.row GZ.out)
  have HP2 := Lib.hid (HP1.out.same k2)
  have K2 := Lib.hid (K1.out.trans k2)
  clear k2 GC GZ HP1 K1 HI
  cases hi : pIts n c with
  | false =>
    have HXN : Hid (X = (zCl, false, l)) := HX.out.trans (take_no k hi)
    clear hi
    go_wp2_with (first | fail | (with_reducible refine build59 ?_) | ((with_reducible refine store59 (C := Z59) ?_ ?_ GZ2.out Z59_size Z59_size Z59_one ?_); rfl; rfl))
    exact bodyPost_ret (results_59 rfl _ _ _ (setRow_heap _ _ _ _ _ _ GZ2.out) Z59_size rfl rfl) rfl (PrPost.stay (v' := .tuple #[.agg Z59, .bool false]) (by rw [HXN.out]; rfl) (by rw [HXN.out]) HPW.out (K2.out.setRow (by omega) _))
  | true =>
    have HXY : Hid (X = (tagged k (outC c (pSays l c refuse).1 ep), true, (pSays l c refuse).2)) := HX.out.trans (take_yes k hi)
    have HFI := Lib.hid (its_fit hi)
    clear hi
    have f6 := free_of_block (j := 6) GC2.out
    have c6 := row_cell (k := 6) GC2.out (v := .bool c.answer) (by rw [HC0.out]; simp [clC])
    go_upto_region 4 with (fail)
    have g3 := setCell_block (k := 6) GC2.out (.bool true)
    rw [HC0.out, clC_set6] at g3
    have GC3 := Lib.hid g3
    have GZ3 := Lib.hid ((setCell_heap_other w2 ⟨w.heap.size, 6, none⟩ (.bool true) (w.heap.size + 1) (by simp)).trans GZ2.out)
    have K3 := Lib.hid (K2.out.setCell (p := ⟨w.heap.size, 6, none⟩) (.inr (Nat.le_refl _)) (.bool true))
    have HP3 := Lib.hid (HPW.out.same K3.out)
    have HZ3 := Lib.hid (clC_size (c := { c with answer := true }) HC.out)
    have H72 := f_rc2 { c with answer := true } (w2.setCell ⟨w.heap.size, 6, none⟩ (.bool true)) HC.out
    clear g3 f6 c6 GC2 GZ2 K2 HP2
    generalize w2.setCell ⟨w.heap.size, 6, none⟩ (.bool true) = w3 at *
    have H71 := fun (wq : World) (hp : Pr w0 wq g pv wv sv k n ep l) => f_rgood w0 g pv wv sv k n ep l { { c with answer := true } with answer := false } refuse wq hp HL.out
    have hs5 : pSays l { { c with answer := true } with answer := false } refuse = pSays l c refuse := rfl
    simp only [hs5] at H71
    clear hs5
    generalize pSays l c refuse = Y at H71 HXY
    obtain ⟨gd, xl⟩ := Y
    dsimp only at H71 HXY
    obtain ⟨C3, hC3⟩ : ∃ C3, C3 = clC { c with answer := true } := ⟨_, rfl⟩
    obtain ⟨C4, hC4⟩ : ∃ C4, C4 = clC { { c with answer := true } with answer := false } := ⟨_, rfl⟩
    rw [← hC3] at GC3 HZ3 H72
    rw [← hC4] at H72
    simp only [← hC4] at H71
    have H72H := Lib.hid H72
    have H71H := Lib.hid H71
    have HC3 := Lib.hid hC3
    clear H72 H71 hC4 hC3
    go_wp2_with (first | fail | ((with_reducible refine load59 (C := C3) (g := w.heap.size) (o := 0) ?_ (range_row GC3.out) HZ3.out ?_); rfl))
    refine H72H.out.mono ?_
    rintro e w4 ⟨rfl, k4⟩
    have GC4 := Lib.hid (k4.row GC3.out)
    have GZ4 := Lib.hid (k4.row GZ3.out)
    have K4 := Lib.hid (K3.out.trans k4)
    have H71Q := Lib.hid (H71H.out w4 (HP3.out.same k4))
    clear k4 GC3 GZ3 K3 HP3 H72H H71H
    go_wp2_with fail
    refine H71Q.out.mono ?_
    rintro e w5 ⟨rfl, sv5, hp5, k5, ho5⟩
    have hgb : w.heap.size ≠ g := by have := HLT.out; omega
    have hgz : w.heap.size + 1 ≠ g := by have := HLT.out; omega
    have HGB := Lib.hid hgb
    have HGZ := Lib.hid hgz
    have GC5 := Lib.hid (k5.rowS hgb GC4.out)
    have GZ5 := Lib.hid (k5.rowS hgz GZ4.out)
    have HP5 := Lib.hid hp5
    have K5 := Lib.hid ((K4.out.mono (T := fun i => i = g) (fun _ _ e => e.elim)).trans k5)
    have HO5 := Lib.hid (show sv5 = sv ∨ ∀ i, sv5.ownBlock = some i → w.heap.size ≤ i from ho5.imp id fun h i hi => Nat.le_trans K4.out.size (h i hi))
    clear hp5 k5 ho5 GC4 GZ4 K4 H71Q hgb hgz
    have f7 := free_of_block (j := 7) GC5.out
    have c7 := row_cell (k := 7) GC5.out (v := .bool c.good) (by rw [HC3.out]; simp [clC])
    go_upto_region 5 with (fail)
    have g6 := setCell_block (k := 7) GC5.out (.bool gd)
    rw [HC3.out, clC_set7] at g6
    have GC6 := Lib.hid g6
    have GZ6 := Lib.hid ((setCell_heap_other w5 ⟨w.heap.size, 7, none⟩ (.bool gd) (w.heap.size + 1) (by simp)).trans GZ5.out)
    have K6 := Lib.hid (K5.out.setCell (p := ⟨w.heap.size, 7, none⟩) (.inr (Nat.le_refl _)) (.bool gd))
    have HP6 := Lib.hid (HP5.out.next (S := fun i => i = w.heap.size) ((Kept.refl (fun i => i = w.heap.size) w5).setCell (p := ⟨w.heap.size, 7, none⟩) (.inl rfl) (.bool gd)) (fun e => HGB.out e.symm) (fun i hi e => by
      have e' : i = w.heap.size := e
      subst e'
      exact HP5.out.buf.ne_of_type GC5.out (by decide) hi) (fun i _ e => by have e' : i = w.heap.size := e; rw [e']; exact HPW.out.kept.size))
    clear g6 f7 c7 GC5 GZ5 K5 HP5
    generalize w5.setCell ⟨w.heap.size, 7, none⟩ (.bool gd) = w6 at *
    have ce := row_cell (k := 4) HP6.out.blk (v := .int .i64 ep) rfl
    have f8 := free_of_block (j := 8) GC6.out
    have c8 := row_cell (k := 8) GC6.out (v := .int .i64 c.epoch) (by simp [clC])
    go_upto_region 6 with (fail)
    have g7 := setCell_block (k := 8) GC6.out (.int .i64 ep)
    rw [clC_set8] at g7
    have GC7 := Lib.hid g7
    have GZ7 := Lib.hid ((setCell_heap_other w6 ⟨w.heap.size, 8, none⟩ (.int .i64 ep) (w.heap.size + 1) (by simp)).trans GZ6.out)
    have K7 := Lib.hid ((K6.out.setCell (p := ⟨w.heap.size, 8, none⟩) (.inr (Nat.le_refl _)) (.int .i64 ep)).drew)
    have HP7 := Lib.hid (HP6.out.next (S := fun i => i = w.heap.size) ((Kept.refl (fun i => i = w.heap.size) w6).setCell (p := ⟨w.heap.size, 8, none⟩) (.inl rfl) (.int .i64 ep)) (fun e => HGB.out e.symm) (fun i hi e => by
      have e' : i = w.heap.size := e
      subst e'
      exact HP6.out.buf.ne_of_type GC6.out (by decide) hi) (fun i _ e => by have e' : i = w.heap.size := e; rw [e']; exact HPW.out.kept.size))
    clear g7 f8 c8 ce GC6 GZ6 K6 HP6
    generalize w6.setCell ⟨w.heap.size, 8, none⟩ (.int .i64 ep) = w7 at *
    have kd := (Kept.refl (fun _ => False) w7).drew
    have hml : (midC c gd ep).tag.length = 32 := HC.out
    have HML := Lib.hid hml
    have GCd := Lib.hid (show w7.drew.heap[w.heap.size]? = some (.cells (clC (midC c gd ep)) 59 (0, 0)) from kd.row GC7.out)
    have GZd := Lib.hid (kd.row GZ7.out)
    have HPd := Lib.hid (HP7.out.same kd)
    have hzm := Lib.hid (clC_size hml)
    have HSG : Hid (-9223372036854775808 ≤ (tRec (midC c gd ep) 1).saga ∧ (tRec (midC c gd ep) 1).saga ≤ 9223372036854775807) := HFI.out.1
    have HST : Hid (-9223372036854775808 ≤ (tRec (midC c gd ep) 1).step ∧ (tRec (midC c gd ep) 1).step ≤ 9223372036854775807) := HFI.out.2
    have HKZ : Hid ((ints .u8 (kRec k (tRec (midC c gd ep) 1))).size = 32) := by show _ = _; rw [ints_size]; exact kRec_len _ _
    have HKO := Lib.hid (ints_one .u8 (kRec k (tRec (midC c gd ep) 1)))
    have HSO : Hid (9 + 32 ≤ (clC (midC c gd ep)).size) := by show _ ≤ _; rw [clC_size hml]; decide
    have HPUT : Hid (puts (clC (midC c gd ep)) 9 (ints .u8 (kRec k (tRec (midC c gd ep) 1))).toList = clC (tagged k (outC c gd ep))) := (clC_put hml (kRec_len _ _)).trans (midC_tagged k c gd ep)
    have HF1 := fun wq => f_rpreceipt (midC c gd ep) 1 wq hml
    have HRI := fun wq => recC_in wq hml 1
    clear kd hml GC7 GZ7 HP7
    refine wp_region_last_drew (S := fun w' => Kept (fun _ => False) w7.drew w') 8 (by kernel_rfl) (Kept.refl _ _) (fun hHeld => ?_)
    generalize w7.drew = w8 at *
    have hS0 : Kept (fun _ => False) w8 w8 := Kept.refl _ _
    generalize hT : tRec (midC c gd ep) 1 = T at *
    generalize hR : recC (midC c gd ep) 1 = R at *
    obtain ⟨CM, hCM⟩ : ∃ CM, CM = clC (midC c gd ep) := ⟨_, rfl⟩
    rw [← hCM] at GCd hzm HSO HPUT HF1
    obtain ⟨kr, hkr⟩ : ∃ kr, kr = kRec k T := ⟨_, rfl⟩
    rw [← hkr] at HKZ HKO HPUT
    have HF1H := Lib.hid HF1
    have HRIH := Lib.hid HRI
    have HKR := Lib.hid hkr
    clear HF1 HRI hT hR hCM hkr
    refine wpAnyL_take (i := 0) (oi := ⟨some 25, _, _, _, _, _⟩) (v := .pointer (some ⟨g, 0, none⟩)) [8] rfl (by kernel_rfl) (by kernel_rfl) (by kernel_rfl) (by kernel_rfl) (fun _ _ _ h => h) (Or.inl ⟨by kernel_rfl, fun w' hS => by go_simp⟩) (by assumption) ?_
    try simp only [Act.put, List.setIfInBounds_toArray, List.set_cons_succ, List.set_cons_zero]
    refine wpAnyL_take (i := 1) (oi := ⟨some 26, _, _, _, _, _⟩) (v := .pointer (some ⟨g, 0, none⟩)) [8] rfl (by kernel_rfl) (by kernel_rfl) (by kernel_rfl) (by kernel_rfl) (fun _ _ _ h => h) (Or.inl ⟨by kernel_rfl, fun w' hS => by go_simp⟩) (by assumption) ?_
    try simp only [Act.put, List.setIfInBounds_toArray, List.set_cons_succ, List.set_cons_zero]
    refine wpAnyL_take (i := 2) (oi := ⟨some 27, _, _, _, _, _⟩) (v := .pointer (some ⟨g, 0, none⟩)) [8] rfl (by kernel_rfl) (by kernel_rfl) (by kernel_rfl) (by kernel_rfl) (fun _ _ _ h => h) (Or.inl ⟨by kernel_rfl, fun w' hS => by go_simp⟩) (by assumption) ?_
    try simp only [Act.put, List.setIfInBounds_toArray, List.set_cons_succ, List.set_cons_zero]
    refine wpAnyL_take (i := 3) (oi := ⟨some 28, _, _, _, _, _⟩) (v := .agg #[pv, wv, .int .i64 k.need]) [8] rfl (by kernel_rfl) (by kernel_rfl) (by kernel_rfl) (by kernel_rfl) (fun _ _ _ h => h) (Or.inl ⟨by kernel_rfl, fun w' hS => by have c0 := row_cell (k := 0) (hS.row HPd.out.blk) (v := pv) (rfl); have c1 := row_cell (k := 1) (hS.row HPd.out.blk) (v := wv) (rfl); have c2 := row_cell (k := 2) (hS.row HPd.out.blk) (v := .int .i64 k.need) (rfl); go_simp⟩) (by assumption) ?_
    try simp only [Act.put, List.setIfInBounds_toArray, List.set_cons_succ, List.set_cons_zero]
    refine wpAnyL_take (i := 4) (oi := ⟨some 29, _, _, _, _, _⟩) (v := .agg CM) [8] rfl (by kernel_rfl) (by kernel_rfl) (by kernel_rfl) (by kernel_rfl) (fun _ _ _ h => h) (yields59 (C := CM) (g := w.heap.size) (o := 0) (by kernel_rfl) rfl (fun w' hS => range_row (hS.row GCd.out)) hzm.out) (by assumption) ?_
    try simp only [Act.put, List.setIfInBounds_toArray, List.set_cons_succ, List.set_cons_zero]
    refine wpAnyL_ready (rs := [5]) (by kernel_rfl) (by simp) ?_
    refine AllReadyL.cons (o := ⟨some 30, _, _, _, _, _⟩) rfl (fun K hK => ?_) AllReadyL.nil
    go_simp
    refine (HF1H.out w8).mono ?_
    rintro e w9 ⟨rfl, k9⟩
    have HF := f_rreceipt pv wv k R T w9 (HPd.out.same k9).laidNow (HPd.out.same k9).keysNow (HRIH.out w9) HSG.out HST.out
    rw [← HKR.out] at HF
    have HFH := Lib.hid HF
    clear HF
    go_wp2_with fail
    refine hK.out _ _ k9 (fun hHeld => ?_)
    clear hK K
    try simp only [Act.put, List.setIfInBounds_toArray, List.set_cons_succ, List.set_cons_zero]
    refine wpAnyL_ready (rs := [6]) (by kernel_rfl) (by simp) ?_
    refine AllReadyL.cons (o := ⟨some 31, _, _, _, _, _⟩) rfl (fun K hK => ?_) AllReadyL.nil
    go_simp
    refine HFH.out.mono ?_
    rintro e wa ⟨rfl, ka⟩
    have k9a := k9.trans ka
    clear HFH
    go_wp2_with fail
    refine hK.out _ _ k9a (fun hHeld => ?_)
    clear hK K
    try simp only [Act.put, List.setIfInBounds_toArray, List.set_cons_succ, List.set_cons_zero]
    refine wpAnyL_take (i := 7) (oi := ⟨some 32, _, _, _, _, _⟩) (v := .pointer (some ⟨w.heap.size, 9, none⟩)) [8] rfl (by kernel_rfl) (by kernel_rfl) (by kernel_rfl) (by kernel_rfl) (fun _ _ _ h => h) (Or.inl ⟨by kernel_rfl, fun w' hS => by go_simp⟩) (by assumption) ?_
    try simp only [Act.put, List.setIfInBounds_toArray, List.set_cons_succ, List.set_cons_zero]
    refine wpAnyL_ready (rs := [8]) (by kernel_rfl) (by simp) ?_
    refine AllReadyL.ends (o := ⟨none, _, _, _, _, _⟩) rfl (fun K hK => ?_)
    refine step_store26 (C := ints .u8 kr) (g := w.heap.size) (o := 9) (by kernel_rfl) rfl rfl HKZ.out HKO.out (k9a.row GCd.out) HSO.out ?_
    intro wb gb kb
    refine hK.out _ _ ?_
    clear hK K
    try simp only [Act.put, List.setIfInBounds_toArray, List.set_cons_succ, List.set_cons_zero]
    refine wpAnyL_done (by kernel_rfl) ?_ _
    rw [HPUT.out] at gb
    obtain ⟨CT, hCT⟩ : ∃ CT, CT = clC (tagged k (outC c gd ep)) := ⟨_, rfl⟩
    have hCTz := clC_size (tagged_len k (outC c gd ep))
    have hCTo := clC_one (tagged k (outC c gd ep))
    rw [← hCT] at gb hCTz hCTo
    have GCb := Lib.hid gb
    have GZb := Lib.hid (kb.rowS (by omega) (k9a.row GZd.out))
    have HPa := Lib.hid (HPd.out.same k9a)
    have GCa := Lib.hid (k9a.row GCd.out)
    have HPb := Lib.hid (HPa.out.next kb (fun e => HGB.out e.symm) (fun i hi e => by
      have e' : i = w.heap.size := e
      subst e'
      exact HPa.out.buf.ne_of_type GCa.out (by decide) hi) (fun i _ e => by have e' : i = w.heap.size := e; rw [e']; exact HPW.out.kept.size))
    have hwh : w.heap.size ≤ wb.heap.size := Nat.le_trans (K7.out.trans (k9a.mono (fun _ _ e => e.elim))).size kb.size
    have KB : Hid (Kept (fun i => i = g) w wb) := (K7.out.trans (k9a.mono (fun _ _ e => e.elim))).trans' kb (fun i hi e => by have e' : i = w.heap.size := e; omega)
    have HZT := Lib.hid hCTz
    have HOT := Lib.hid hCTo
    have HCT := Lib.hid hCT
    have HWH := Lib.hid hwh
    clear gb kb k9a ka k9 hHeld hCTz hCTo hCT hwh GCd GZd HPd K7 HPa GCa HPUT HF1H HRIH hS0 HSG HST HKZ HKO HSO
    go_wp2_with (first | fail | ((with_reducible refine load59 (C := CT) (g := w.heap.size) (o := 0) ?_ (range_row GCb.out) HZT.out ?_); rfl) | ((with_reducible refine store59 (C := CT) ?_ ?_ GZb.out Z59_size HZT.out HOT.out ?_); rfl; rfl))
    have kz : Kept (fun i => i = w.heap.size + 1) wb (wb.setRow (w.heap.size + 1) CT) := ⟨rfl, rfl, rfl, by simp, fun i _ hi => setRow_other wb _ _ _ hi⟩
    exact bodyPost_ret (results_59 rfl _ _ _ (setRow_heap _ _ _ _ _ _ GZb.out) HZT.out rfl rfl) rfl (PrPost.mk (v' := .tuple #[.agg CT, .bool true]) (by rw [HXY.out, HCT.out]; rfl) (by rw [HXY.out]) (HPb.out.next kz (fun e => HGZ.out e.symm) (fun i hi e => by
        have e' : i = w.heap.size + 1 := e
        subst e'
        exact HPb.out.buf.ne_of_type GZb.out (by decide) hi) (fun i _ e => by have e' : i = w.heap.size + 1 := e; rw [e']; exact Nat.le_trans HPW.out.kept.size (Nat.le_succ _))) (KB.out.trans' kz (fun i hi e => by have e' : i = w.heap.size + 1 := e; omega)) HO5.out)
end Go.Proofs.YtklmhegmombegaaDoor
