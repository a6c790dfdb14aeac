/-
  Contracts of the reference's Same of books, of Report. Conditions: as each theorem says.
-/
import Derived.Test.YtklmhegmombegaaBkJ
set_option linter.unusedVariables false
set_option linter.unusedSimpArgs false
namespace Go.Proofs.Ytklmhegmombegaa
open Go Go.RowKit Plain
attribute [local go_sem] equal51 guard51n guard51e

set_option maxRecDepth 100000 in
set_option maxHeartbeats 8000000 in
theorem f_rbksame (b c : Bk) (sv tv : Value) (ss tt : List (Sg × Value)) (w : World) (hs : BkIn w sv ss) (ht : BkIn w tv tt) (hms : ss.map (·.1) = b.sagas) (hmt : tt.map (·.1) = c.sagas) (hst : ∀ p ∈ ss, p.1.steps.length ≤ 1000000) : Calls Try.prog 33 #[.agg (bkC b.ep sv), .agg (bkC c.ep tv)] w (BPost (sameBk b c) w) := by
  have g0 := heap_alloc2_old w (.cells (bkC b.ep sv) 54) (.cells (bkC c.ep tv) 54)
  have g1 := heap_alloc2_new w (.cells (bkC b.ep sv) 54) (.cells (bkC c.ep tv) 54)
  have K2 := Lib.hid (((Kept.refl (fun _ => False) w).alloc (.cells (bkC b.ep sv) 54)).alloc (.cells (bkC c.ep tv) 54))
  obtain ⟨a, c1, rfl⟩ := hs.form
  obtain ⟨a2, c2, rfl⟩ := ht.form
  have HS := Lib.hid (hs.kept K2.out)
  have HT := Lib.hid (ht.kept K2.out)
  have hls := hs.len
  have E0 : Hid (sameBk b c = ((epL b.ep == epL c.ep) && sameL (ss.map (·.1)) (tt.map (·.1)))) := by show _ = _; rw [hms, hmt]; rfl
  unfold epL at E0
  unfold bkC at *
  have b0 := row_cell g0 (k := 0) rfl
  have b1 := row_cell g0 (k := 1) rfl
  have b2 := row_cell g0 (k := 2) rfl
  have b3 := row_cell g0 (k := 3) rfl
  have b4 := row_cell g0 (k := 4) rfl
  have d0 := row_cell g1 (k := 0) rfl
  have d1 := row_cell g1 (k := 1) rfl
  have d2 := row_cell g1 (k := 2) rfl
  have d3 := row_cell g1 (k := 3) rfl
  have d4 := row_cell g1 (k := 4) rfl
  have G0 := Lib.hid g0
  have G1 := Lib.hid g1
  clear hs ht hms hmt g0 g1
  cases hep : ([b.ep 0, b.ep 1, b.ep 2, b.ep 3] == [c.ep 0, c.ep 1, c.ep 2, c.ep 3]) with
  | false =>
    rw [hep] at E0
    have hep' : ([b.ep 0, b.ep 1, b.ep 2, b.ep 3] != [c.ep 0, c.ep 1, c.ep 2, c.ep 3]) = true := by rw [bne, hep]; rfl
    go_enter Try.func33, Try.ntmps33
    go_wp2_with fail
    go_ret
    exact BPost.mk (by rw [E0.out]; rfl) K2.out
  | true =>
    rw [hep, Bool.true_and] at E0
    have hep' : ([b.ep 0, b.ep 1, b.ep 2, b.ep 3] != [c.ep 0, c.ep 1, c.ep 2, c.ep 3]) = false := by rw [bne, hep]; rfl
    by_cases hlen : ss.length = tt.length
    · have t1 : ((ss.length : Int) == tt.length) = true := by rw [beq_iff_eq]; omega
      have t2 : ((ss.length : Int) != tt.length) = false := by rw [bne, t1]; rfl
      have HL := Lib.hid hlen
      clear hlen
      go_enter Try.func33, Try.ntmps33
      go_wp2_with fail
      clear b0 b1 b2 b3 b4 d0 d1 d2 d3 d4
      generalize (w.alloc _).alloc _ = w2 at *
      go_loopw [5] (fun i wr => ∃ k : Nat, k ≤ ss.length ∧ i = .int .i64 k ∧ (∀ j (h1 : j < ss.length) (h2 : j < tt.length), j < k → sameB ss[j].1 tt[j].1 = true) ∧ Kept (fun _ => False) w2 wr) (fun i _ => ss.length - (intOf i).toNat)
      case atStart => exact ⟨0, Nat.zero_le _, rfl, fun j _ _ h => by omega, Kept.refl _ _⟩
      case round =>
        obtain ⟨k, hk, rfl, ha, K⟩ := hrel
        have HA := Lib.hid ha
        have KR := Lib.hid K
        have b4 := row_cell (K.row G0.out) (k := 4) rfl
        have d4 := row_cell (K.row G1.out) (k := 4) rfl
        clear ha
        by_cases hlt : k < ss.length
        · have hlt2 : k < tt.length := by have := HL.out; omega
          obtain ⟨b1, o1, c1, e1, r1⟩ := (HS.out.kept K).rd.elem (by decide) (fsg_all _) hlt
          obtain ⟨b2, o2, c2, e2, r2⟩ := (HT.out.kept K).rd.elem (by decide) (fsg_all _) hlt2
          simp only [Value.slice.injEq, true_and] at e1 e2
          obtain ⟨rfl, rfl⟩ := e1
          obtain ⟨rfl, rfl⟩ := e2
          have hs1 := (HS.out.kept K).st ss[k] (List.getElem_mem _)
          have hs2 := (HT.out.kept K).st tt[k] (List.getElem_mem _)
          have hsl := hst ss[k] (List.getElem_mem _)
          have EF : Hid (sameB ss[k].1 tt[k].1 = false → sameL (ss.map (·.1)) (tt.map (·.1)) = false) := fun h => sameL_false (j := k) (by simpa using hlt) (by simpa using hlt2) (by simpa using h)
          have ET : Hid (sameB ss[k].1 tt[k].1 = true → ∀ j (h1 : j < ss.length) (h2 : j < tt.length), j < k + 1 → sameB ss[j].1 tt[j].1 = true) := fun h j h1 h2 hj => by
            by_cases e : j = k
            · subst e; exact h
            · exact HA.out j h1 h2 (by omega)
          generalize ss[k] = p at r1 hs1 hsl EF ET
          generalize tt[k] = q at r2 hs2 EF ET
          obtain ⟨s, vs⟩ := p
          obtain ⟨t, vt⟩ := q
          dsimp only at hs1 hs2 hsl EF ET
          have HSM := Lib.hid (fun w' (k : Kept (fun _ => False) wr w') => f_rsame s t vs vt w' (hs1.kept k) (hs2.kept k) hsl)
          have hbl1 := (HS.out.kept K).lt b1 rfl
          have hbl2 := (HT.out.kept K).lt b2 rfl
          have R1 : Hid (∀ {w' : World}, Kept (fun _ => False) wr w' → w'.rangeAt b1 (o1 + k * 10) (sgC s vs).toList ∧ w'.rangeAt b2 (o2 + k * 10) (sgC t vt).toList) := fun kk => ⟨fun j u hu => (kk.cell (p := ⟨b1, o1 + k * 10 + j, none⟩) hbl1 id).trans (r1 j u hu), fun j u hu => (kk.cell (p := ⟨b2, o2 + k * 10 + j, none⟩) hbl2 id).trans (r2 j u hu)⟩
          have R4 : Hid (∀ {w' : World}, Kept (fun _ => False) wr w' → w'.cell? ⟨w.heap.size, 4, none⟩ = some (.slice (some ⟨b1, o1, none⟩) ss.length c1) ∧ w'.cell? ⟨w.heap.size + 1, 4, none⟩ = some (.slice (some ⟨b2, o2, none⟩) tt.length c2)) := fun kk => ⟨row_cell ((KR.out.trans kk).row G0.out) (k := 4) rfl, row_cell ((KR.out.trans kk).row G1.out) (k := 4) rfl⟩
          clear r1 r2 hs1 hs2 K hbl1 hbl2
          have hd : Kept (fun _ => False) wr wr.drew := (Kept.refl _ _).drew
          generalize hsm : sameB s t = sm at HSM EF ET
          go_wp2_with fail
          refine wp_region_held_drew (S := fun w' => Kept (fun _ => False) wr w') (by kernel_rfl) hd (fun hHeld => ?_)
          refine wpAnyH_take (i := 0) (oi := ⟨some 27, _, _, _, _, _⟩) (v := .pointer (some ⟨w.heap.size, 4, none⟩)) rfl (by kernel_rfl) (by kernel_rfl) (by kernel_rfl) (fun _ _ _ h => h) (Or.inl ⟨by kernel_rfl, fun w' hS => by go_simp⟩) (by assumption) ?_
          try simp only [Act.put, List.setIfInBounds_toArray, List.set_cons_succ, List.set_cons_zero]
          refine wpAnyH_take (i := 1) (oi := ⟨some 28, _, _, _, _, _⟩) (v := .slice (some ⟨b1, o1, none⟩) ss.length c1) rfl (by kernel_rfl) (by kernel_rfl) (by kernel_rfl) (fun _ _ _ h => h) (Or.inl ⟨by kernel_rfl, fun w' hS => by have hc := (R4.out hS).1; go_simp⟩) (by assumption) ?_
          try simp only [Act.put, List.setIfInBounds_toArray, List.set_cons_succ, List.set_cons_zero]
          refine wpAnyH_take (i := 2) (oi := ⟨some 29, _, _, _, _, _⟩) (v := .int .i64 k) rfl (by kernel_rfl) (by kernel_rfl) (by kernel_rfl) (fun _ _ _ h => h) (Or.inl ⟨by kernel_rfl, fun w' hS => by go_simp⟩) (by assumption) ?_
          try simp only [Act.put, List.setIfInBounds_toArray, List.set_cons_succ, List.set_cons_zero]
          refine wpAnyH_take (i := 3) (oi := ⟨some 30, _, _, _, _, _⟩) (v := .pointer (some ⟨b1, o1 + k * 10, none⟩)) rfl (by kernel_rfl) (by kernel_rfl) (by kernel_rfl) (fun _ _ _ h => h) (Or.inl ⟨by kernel_rfl, fun w' hS => by go_simp⟩) (by assumption) ?_
          try simp only [Act.put, List.setIfInBounds_toArray, List.set_cons_succ, List.set_cons_zero]
          refine wpAnyH_take (i := 4) (oi := ⟨some 31, _, _, _, _, _⟩) (v := .agg (sgC s vs)) rfl (by kernel_rfl) (by kernel_rfl) (by kernel_rfl) (fun _ _ _ h => h) (yields27o (g := b1) (o := o1 + k * 10) (by kernel_rfl) rfl (fun w' hS => (R1.out hS).1) (sgC_size _ _)) (by assumption) ?_
          try simp only [Act.put, List.setIfInBounds_toArray, List.set_cons_succ, List.set_cons_zero]
          refine wpAnyH_take (i := 5) (oi := ⟨some 32, _, _, _, _, _⟩) (v := .pointer (some ⟨w.heap.size + 1, 4, none⟩)) rfl (by kernel_rfl) (by kernel_rfl) (by kernel_rfl) (fun _ _ _ h => h) (Or.inl ⟨by kernel_rfl, fun w' hS => by go_simp⟩) (by assumption) ?_
          try simp only [Act.put, List.setIfInBounds_toArray, List.set_cons_succ, List.set_cons_zero]
          refine wpAnyH_take (i := 6) (oi := ⟨some 33, _, _, _, _, _⟩) (v := .slice (some ⟨b2, o2, none⟩) tt.length c2) rfl (by kernel_rfl) (by kernel_rfl) (by kernel_rfl) (fun _ _ _ h => h) (Or.inl ⟨by kernel_rfl, fun w' hS => by have hc := (R4.out hS).2; go_simp⟩) (by assumption) ?_
          try simp only [Act.put, List.setIfInBounds_toArray, List.set_cons_succ, List.set_cons_zero]
          refine wpAnyH_take (i := 7) (oi := ⟨some 34, _, _, _, _, _⟩) (v := .int .i64 k) rfl (by kernel_rfl) (by kernel_rfl) (by kernel_rfl) (fun _ _ _ h => h) (Or.inl ⟨by kernel_rfl, fun w' hS => by go_simp⟩) (by assumption) ?_
          try simp only [Act.put, List.setIfInBounds_toArray, List.set_cons_succ, List.set_cons_zero]
          refine wpAnyH_take (i := 8) (oi := ⟨some 35, _, _, _, _, _⟩) (v := .pointer (some ⟨b2, o2 + k * 10, none⟩)) rfl (by kernel_rfl) (by kernel_rfl) (by kernel_rfl) (fun _ _ _ h => h) (Or.inl ⟨by kernel_rfl, fun w' hS => by go_simp⟩) (by assumption) ?_
          try simp only [Act.put, List.setIfInBounds_toArray, List.set_cons_succ, List.set_cons_zero]
          refine wpAnyH_take (i := 9) (oi := ⟨some 36, _, _, _, _, _⟩) (v := .agg (sgC t vt)) rfl (by kernel_rfl) (by kernel_rfl) (by kernel_rfl) (fun _ _ _ h => h) (yields27o (g := b2) (o := o2 + k * 10) (by kernel_rfl) rfl (fun w' hS => (R1.out hS).2) (sgC_size _ _)) (by assumption) ?_
          try simp only [Act.put, List.setIfInBounds_toArray, List.set_cons_succ, List.set_cons_zero]
          refine wpAnyH_ready (rs := [10]) (by kernel_rfl) (by simp) ?_
          refine AllReadyH.cons (o := _) rfl (fun K hK => ?_) AllReadyH.nil
          go_simp
          refine (HSM.out _ hd).mono ?_
          rintro e wx1 ⟨rfl, kx1⟩
          go_wp2_with fail
          have hS1 := hd.trans kx1
          refine hK.out _ _ hS1 (fun hHeld => ?_)
          clear hK K
          try simp only [Act.put, List.setIfInBounds_toArray, List.set_cons_succ, List.set_cons_zero]
          refine wpAnyH_take (i := 11) (oi := ⟨some 38, _, _, _, _, _⟩) (v := .bool (!sm)) rfl (by kernel_rfl) (by kernel_rfl) (by kernel_rfl) (fun _ _ _ h => h) (Or.inl ⟨by kernel_rfl, fun w' hS => by go_simp⟩) (by assumption) ?_
          try simp only [Act.put, List.setIfInBounds_toArray, List.set_cons_succ, List.set_cons_zero]
          refine wpAnyH_done (by kernel_rfl) ?_ _
          have KF := Lib.hid (KR.out.trans hS1)
          have KG := Lib.hid (K2.out.trans KF.out)
          clear kx1 hS1 hd HSM
          clear b4 d4
          cases sm with
          | false =>
            have E := Lib.hid (E0.out.trans (EF.out rfl))
            go_wp2_with fail
            go_ret
            exact BPost.mk E.out KG.out
          | true =>
            have E := Lib.hid (ET.out rfl)
            go_wp2_with fail
            go_roundw
            case rel => exact ⟨k + 1, by omega, by go_num, E.out, KF.out⟩
            case measure => simp [intOf]; omega
        · obtain rfl : k = ss.length := by omega
          have E : Hid (sameBk b c = true) := E0.out.trans (sameL_true (by simpa using HL.out) (fun j h1 h2 => by
            have h1' : j < ss.length := by simpa using h1
            have h2' : j < tt.length := by simpa using h2
            simpa using HA.out j h1' h2' h1'))
          have KG := Lib.hid (K2.out.trans KR.out)
          clear K
          go_wp2_with fail
          go_ret
          exact BPost.mk E.out KG.out
    · have t1 : ((ss.length : Int) == tt.length) = false := by rw [beq_eq_false_iff_ne]; omega
      have t2 : ((ss.length : Int) != tt.length) = true := by rw [bne, t1]; rfl
      have E : Hid (sameBk b c = false) := E0.out.trans (by unfold sameL; rw [List.length_map, List.length_map, decide_eq_false hlen]; rfl)
      clear hlen
      go_enter Try.func33, Try.ntmps33
      go_wp2_with fail
      go_ret
      exact BPost.mk E.out K2.out

/-! ## Report -/
namespace Plain
def lineOf (s : Sg) : Int × Int := ((s.phase : Int), (missing s : Int))
def repL (l : List Sg) : List (Int × Int) := l.map lineOf
end Plain
theorem Try.ifull60 : (Try.prog.info? 60).map (fun i => (i.size, i.bytes, i.zero)) = some (2, 16, some (.agg #[.int .i64 0, .int .i64 0])) := by kernel_rfl
theorem info60' : ∃ i, Try.prog.info? 60 = some i ∧ i.size = 2 ∧ i.bytes = 16 ∧ i.zero = some (.agg #[.int .i64 0, .int .i64 0]) := by
  obtain ⟨i, hi, hb⟩ := Option.map_eq_some_iff.1 Try.ifull60
  simp only [Prod.mk.injEq] at hb
  exact ⟨i, hi, hb.1, hb.2.1, hb.2.2⟩
set_option maxRecDepth 100000 in
/-- A slice of one line is made, in a region that draws its order. -/
theorem step_one60 {ops : Array Oper} {dst : Option Tmp} {ty : TypeId} {pos : String} {aft : Array Edge} {gd : Option (Nat × Bool)} {a : Act} {w : World} {Q : Exit → Act → World → Prop} {K : Act → World → Prop} {E : Prop} {x : Operand} {C : Array Value} (hw : Region.wanted ⟨dst, .buildSlice 57 1 #[(0, x)], ty, pos, aft, gd⟩ (yielded ops a.tmps) = true) (hx : a.eval x = .agg C) (hC : C.size = 2)
    (h : K (a.put dst (.slice (some ⟨w.heap.size, 0, none⟩) 1 1)) (w.alloc (.cells C 60))) :
    if Region.wanted ⟨dst, .buildSlice 57 1 #[(0, x)], ty, pos, aft, gd⟩ (yielded ops a.tmps) = true then Oper.wp Try.prog ⟨dst, .buildSlice 57 1 #[(0, x)], ty, pos, aft, gd⟩ a w K Q else E := by
  rw [if_pos hw]
  obtain ⟨i, hi, hs, _, hz⟩ := info60'
  refine wp_buildSlice (P := Try.prog) 57 60 1 #[(0, x)] rfl C i _ Try.underlying57 hi hz (by rw [hs]; decide) (by rw [hs]; decide) ?_ h
  rw [hs]
  have := Great.fill_whole (s := 2) (by decide) [.agg C] ((Array.range (1 * 2)).map ((Value.agg #[.int .i64 0, .int .i64 0]).cells[· % (Value.agg #[.int .i64 0, .int .i64 0]).cells.size]!)) (by simp [Value.cells, hC]) (by simp)
  simp only [Array.toList_map, List.map_cons, List.map_nil, hx, List.zipIdx_cons, List.zipIdx_nil, List.flatMap_cons, List.flatMap_nil, Value.cells, Array.toArray_toList, List.append_nil] at this ⊢
  exact this
/-- Lines are handed back, in new memory. -/
def RpPost (l : List (Int × Int)) (w : World) (e : Ending) (w' : World) : Prop := ∃ v, e = .returned v ∧ Buf w' w.heap.size 60 2 v l.length (flat2 l) ∧ Kept (fun _ => False) w w'
theorem flat2_snoc (l : List (Int × Int)) (p q : Int) : flat2 (l ++ [(p, q)]) = flat2 l ++ [.int .i64 p, .int .i64 q] := by simp [flat2]
set_option maxRecDepth 100000 in
set_option maxHeartbeats 8000000 in
theorem f_report (b : Bk) (sv : Value) (ss : List (Sg × Value)) (w : World) (hs : BkIn w sv ss) (hms : ss.map (·.1) = b.sagas) (hok : ∀ p ∈ ss, Okay p.1) : Calls Try.prog 28 #[.agg (bkC b.ep sv)] w (RpPost (repL b.sagas) w) := by
  have g0 := heap_alloc_new w (.cells (bkC b.ep sv) 54)
  have K1 := Lib.hid ((Kept.refl (fun _ => False) w).alloc (.cells (bkC b.ep sv) 54))
  obtain ⟨a, c, rfl⟩ := hs.form
  have HS := Lib.hid (hs.kept K1.out)
  have hls := hs.len
  have b4 := row_cell g0 (show (bkC b.ep (.slice a ss.length c))[4]? = some (.slice a ss.length c) from rfl)
  have HM := Lib.hid hms
  have HOK := Lib.hid hok
  clear hs hms hok g0
  go_enter Try.func28, Try.ntmps28
  go_wp2_with fail
  clear b4
  generalize w.alloc (.cells (bkC b.ep (.slice a ss.length c)) 54) = w2 at *
  generalize hLL : repL (ss.map (·.1)) = LL at *
  go_loopw [3, 9] (fun v i wr => ∃ k : Nat, k ≤ ss.length ∧ i = .int .i64 k ∧ Buf wr w2.heap.size 60 2 v k (flat2 (LL.take k)) ∧ Kept (fun _ => False) w2 wr) (fun _ i _ => ss.length - (intOf i).toNat)
  case atStart => exact ⟨0, Nat.zero_le _, rfl, Buf.nil _ _ _ _, Kept.refl _ _⟩
  case round =>
    obtain ⟨k, hk, rfl, hbuf, K⟩ := hrel
    have HBF := Lib.hid hbuf
    have KR := Lib.hid K
    obtain ⟨av, cv, rfl, _⟩ := hbuf.form
    have hvlt := Lib.hid hbuf.lt
    clear hbuf
    by_cases hlt : k < ss.length
    · obtain ⟨b1, o1, c1, e1, r1⟩ := (HS.out.kept K).rd.elem (by decide) (fsg_all _) hlt
      simp only [Value.slice.injEq, true_and] at e1
      obtain ⟨rfl, rfl⟩ := e1
      have hs1 := (HS.out.kept K).st ss[k] (List.getElem_mem _)
      have hok := HOK.out ss[k] (List.getElem_mem _)
      have HTK : Hid (LL.take (k + 1) = LL.take k ++ [lineOf ss[k].1]) := by
        show _ = _
        subst hLL
        have hkl : k < (repL (ss.map (·.1))).length := by simpa [repL] using hlt
        rw [← List.take_append_getElem hkl]; simp [repL]
      generalize ss[k] = p at r1 hs1 hok HTK
      obtain ⟨s, vs⟩ := p
      dsimp only at hs1 hok HTK
      obtain ⟨ax, cx, hvs⟩ := hs1.form
      have hso : (sgC s vs).all (·.oneCell') = true := by rw [hvs]; exact sgC_one s ax _ cx
      have HMS := Lib.hid (fun w' => f_missing s vs w' hok)
      have hr1 : Hid (wr.rangeAt b1 (o1 + k * 10) (sgC s vs).toList) := r1
      have hso' := Lib.hid hso
      have z0 := Lib.hid (heap_alloc_new wr (.cells Z27 27))
      obtain ⟨y0, k0⟩ := alloc_set wr Z27 (sgC s vs) 27
      have Y0 := Lib.hid y0
      have K0 := Lib.hid k0
      clear r1 hs1 hok hso K hvs y0 k0
      go_upto_region 5 with (first | fail | ((with_reducible refine load27 (C := sgC s vs) (g := b1) (o := o1 + k * 10) ?_ hr1.out (sgC_size _ _) ?_); rfl) | (with_reducible refine alloc27 ?_) | ((with_reducible refine store27 (C := sgC s vs) ?_ ?_ z0.out hz27 (sgC_size _ _) hso'.out ?_); rfl; rfl))
      generalize (wr.alloc (.cells Z27 27)).setRow wr.heap.size (sgC s vs) = w5 at Y0 K0 ⊢
      clear z0
      have hd : Kept (fun _ => False) w5 w5.drew := (Kept.refl _ _).drew
      have HB5 := Lib.hid (HBF.out.kept K0.out (fun _ _ h => h))
      have hY : Hid (∀ {w' : World}, Kept (fun j => (Value.slice av k cv).ownBlock = some j) w5 w' → w'.heap[wr.heap.size]? = some (.cells (sgC s vs) 27 (0, 0))) := fun kk => (kk.block _ (row_lt Y0.out) (fun e => by have := (hvlt.out _ e).2; omega)).trans Y0.out
      have hm : ∀ {w' : World}, Kept (fun _ => False) w5 w' → Kept (fun j => (Value.slice av k cv).ownBlock = some j) w5 w' := fun kk => kk.mono fun _ _ h => h.elim
      refine wp_region_held_drew (S := fun w' => Kept (fun j => (Value.slice av k cv).ownBlock = some j) w5 w') (by kernel_rfl) (hm hd) (fun hHeld => ?_)
      refine wpAnyH_take (i := 0) (oi := ⟨some 13, _, _, _, _, _⟩) (v := .slice av k cv) rfl (by kernel_rfl) (by kernel_rfl) (by kernel_rfl) (fun _ _ _ h => h) (Or.inl ⟨by kernel_rfl, fun w' hS => by go_simp⟩) (by assumption) ?_
      try simp only [Act.put, List.setIfInBounds_toArray, List.set_cons_succ, List.set_cons_zero]
      refine wpAnyH_take (i := 1) (oi := ⟨some 14, _, _, _, _, _⟩) (v := .pointer (some ⟨wr.heap.size, 1, none⟩)) rfl (by kernel_rfl) (by kernel_rfl) (by kernel_rfl) (fun _ _ _ h => h) (Or.inl ⟨by kernel_rfl, fun w' hS => by go_simp⟩) (by assumption) ?_
      try simp only [Act.put, List.setIfInBounds_toArray, List.set_cons_succ, List.set_cons_zero]
      refine wpAnyH_take (i := 2) (oi := ⟨some 15, _, _, _, _, _⟩) (v := .int .i64 s.phase) rfl (by kernel_rfl) (by kernel_rfl) (by kernel_rfl) (fun _ _ _ h => h) (Or.inl ⟨by kernel_rfl, fun w' hS => by have hc := row_cell (hY.out hS) (show (sgC s vs)[1]? = some (.int .i64 s.phase) from rfl); go_simp⟩) (by assumption) ?_
      try simp only [Act.put, List.setIfInBounds_toArray, List.set_cons_succ, List.set_cons_zero]
      refine wpAnyH_take (i := 3) (oi := ⟨some 16, _, _, _, _, _⟩) (v := .agg (sgC s vs)) rfl (by kernel_rfl) (by kernel_rfl) (by kernel_rfl) (fun _ _ _ h => h) (yields27 (g := wr.heap.size) (by kernel_rfl) rfl (fun w' hS => hY.out hS) (sgC_size _ _)) (by assumption) ?_
      try simp only [Act.put, List.setIfInBounds_toArray, List.set_cons_succ, List.set_cons_zero]
      refine wpAnyH_ready (rs := [4]) (by kernel_rfl) (by simp) ?_
      refine AllReadyH.cons (o := _) rfl (fun K hK => ?_) AllReadyH.nil
      go_simp
      refine (HMS.out _).mono ?_
      rintro e wx1 ⟨rfl, kx1⟩
      go_wp2_with fail
      have hS1 := hd.trans kx1
      refine hK.out _ _ (hm hS1) (fun hHeld => ?_)
      clear hK K
      try simp only [Act.put, List.setIfInBounds_toArray, List.set_cons_succ, List.set_cons_zero]
      refine wpAnyH_take (i := 5) (oi := ⟨some 18, _, _, _, _, _⟩) (v := .agg #[.int .i64 s.phase, .int .i64 (missing s)]) rfl (by kernel_rfl) (by kernel_rfl) (by kernel_rfl) (fun _ _ _ h => h) (Or.inl ⟨by kernel_rfl, fun w' hS => by go_simp⟩) (by assumption) ?_
      try simp only [Act.put, List.setIfInBounds_toArray, List.set_cons_succ, List.set_cons_zero]
      refine wpAnyH_ready (rs := [6]) (by kernel_rfl) (by simp) ?_
      refine AllReadyH.cons (o := _) rfl (fun K hK => ?_) AllReadyH.nil
      refine step_one60 (C := #[.int .i64 s.phase, .int .i64 (missing s)]) (by kernel_rfl) rfl rfl ?_
      have hS3 := hS1.alloc (.cells #[.int .i64 s.phase, .int .i64 (missing s)] 60)
      have hgn := heap_alloc_new wx1 (.cells #[.int .i64 s.phase, .int .i64 (missing s)] 60)
      have hsrc : Src Try.prog 2 57 (.slice (some ⟨wx1.heap.size, 0, none⟩) 1 1) 1 [.int .i64 s.phase, .int .i64 (missing s)] (wx1.alloc (.cells #[.int .i64 s.phase, .int .i64 (missing s)] 60)) := by
        have h := Rd.of_block hgn 2 1 1 (by simp)
        exact h.src Try.underlying57 (fun u hu => by simp at hu; rcases hu with rfl | rfl <;> rfl)
      have hbuf2 := HB5.out.kept hS3 (fun _ _ h => h)
      refine hK.out _ _ (hm hS3) (fun hHeld => ?_)
      clear hK K
      try simp only [Act.put, List.setIfInBounds_toArray, List.set_cons_succ, List.set_cons_zero]
      refine wpAnyH_ready (rs := [7]) (by kernel_rfl) (by simp) ?_
      refine AllReadyH.cons (o := _) rfl (fun K hK => ?_) AllReadyH.nil
      obtain ⟨i, hi, hsz, hby, hz⟩ := info60'
      have hszz := K0.out.size
      have hszr := KR.out.size
      refine step_append_buf _ rfl (.tmp 13) (.tmp 19) 57 57 rfl w2.heap.size 60 i _ 2 16 Try.underlying57 hi hz hsz hby rfl (by decide) (.slice av k cv) k (flat2 (LL.take k)) rfl hbuf2 _ _ _ rfl hsrc (by unfold maxLen; omega) (by omega) (by have h1 := hS3.size; omega) ?_
      intro v2 wx4 hb4 hg4 ho4 hn4
      have hS4 : Kept (fun j => (Value.slice av k cv).ownBlock = some j) w5 wx4 := (hm hS3).grown hg4 (fun j hj => .inl hj)
      refine hK.out _ _ hS4 (fun hHeld => ?_)
      clear hK K
      try simp only [Act.put, List.setIfInBounds_toArray, List.set_cons_succ, List.set_cons_zero]
      refine wpAnyH_take (i := 8) (oi := ⟨some 3, _, _, _, _, _⟩) (v := v2) rfl (by kernel_rfl) (by kernel_rfl) (by kernel_rfl) (fun _ _ _ h => h) (Or.inl ⟨by kernel_rfl, fun w' hS => by go_simp⟩) (by assumption) ?_
      try simp only [Act.put, List.setIfInBounds_toArray, List.set_cons_succ, List.set_cons_zero]
      refine wpAnyH_done (by kernel_rfl) ?_ _
      have HB6 : Hid (Buf wx4 w2.heap.size 60 2 v2 (k + 1) (flat2 (LL.take (k + 1)))) := by
        show Buf _ _ _ _ _ _ _
        rw [HTK.out, show lineOf s = ((s.phase : Int), (missing s : Int)) from rfl, flat2_snoc]; exact hb4
      have KF : Hid (Kept (fun _ => False) w2 wx4) := (KR.out.trans K0.out).trans' hS4 (fun j hj e => by have := (hvlt.out _ e).1; omega)
      clear hb4 hg4 ho4 hn4 hS4 hbuf2 hsrc hgn hS3 hS1 hd kx1
      go_wp2_with fail
      go_roundw
      case rel => exact ⟨k + 1, by omega, by go_num, HB6.out, KF.out⟩
      case measure => simp [intOf]; omega
    · obtain rfl : k = ss.length := by omega
      have hfin : Hid (LL.take ss.length = repL b.sagas) := by
        show _ = _
        subst hLL
        rw [List.take_of_length_le (by simp [repL]), HM.out]
      have hlen : Hid (ss.length = (repL b.sagas).length) := by show _ = _; rw [← HM.out]; simp [repL]
      clear K
      go_wp2_with fail
      go_ret
      have hb := HBF.out
      rw [hfin.out] at hb
      refine ⟨_, rfl, ?_, K1.out.trans KR.out⟩
      rw [← hlen.out]
      exact hb.mono K1.out.size
end Go.Proofs.Ytklmhegmombegaa

