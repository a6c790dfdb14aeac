/-
  Contracts of Same, of books. Conditions: as each theorem says.
-/
import Derived.Test.YtklmhegmombegaaDoorBkI
set_option linter.unusedVariables false
set_option linter.unusedSimpArgs false
namespace Go.Proofs.YtklmhegmombegaaDoor.Re
open Go Go.RowKit Go.Proofs.YtklmhegmombegaaDoor.Re.Plain Go.Proofs.YtklmhegmombegaaDoor

theorem equal85L (w : World) (xs ys : List Int) (hx : xs.length = 4) (hy : ys.length = 4) : (Op.equalIn 10000 85 (.agg (xs.map (Value.int .i64)).toArray) (.agg (ys.map (Value.int .i64)).toArray)).run Tryd.prog w = .ok (xs == ys) w := by
  have he := Tryd.underlying3
  have ht := Tryd.underlying85
  have hsz : ∀ w, (sizeOf 3).run Tryd.prog w = .ok 1 w := fun w => by go_simp
  rw [← all_range_eq' xs ys (hx.trans hy.symm), hx, List.range_eq_range', show (10000 : Nat) = 9998 + 2 from rfl, Op.equalIn]
  simp only [Sem.run_bind, run_underlying ht, Result.andThen_ok, hsz, Std.Legacy.Range.forIn_eq_forIn_range', Std.Legacy.Range.size, Nat.sub_zero, Nat.add_sub_cancel, Nat.div_one]
  have hl : ∀ i ∈ List.range' 0 4 1, i < 4 := fun i hi => by simpa using (List.mem_range'_1.1 hi).2
  generalize List.range' 0 4 1 = l at hl ⊢
  induction l with
  | nil => simp
  | cons i l ih =>
    have hi : i < 4 := hl i (by simp)
    have px : (part 3 (xs.map (Value.int .i64)).toArray (i * 1)).run Tryd.prog w = .ok (.int .i64 (xs.getD i 0)) w := by
      simp [part, isAgg, run_underlying he, List.getD, List.getElem?_eq_getElem (show i < xs.length by omega)]
    have py : (part 3 (ys.map (Value.int .i64)).toArray (i * 1)).run Tryd.prog w = .ok (.int .i64 (ys.getD i 0)) w := by
      simp [part, isAgg, run_underlying he, List.getD, List.getElem?_eq_getElem (show i < ys.length by omega)]
    have pe : (Op.equalIn (9998 + 1) 3 (.int .i64 (xs.getD i 0)) (.int .i64 (ys.getD i 0))).run Tryd.prog w = .ok (xs.getD i 0 == ys.getD i 0) w := by
      rw [run_equalIn_int w 9998 3 .i64 .i64 _ _ he]
    simp only [List.forIn_cons, Sem.run_bind, px, py, pe, Result.andThen_ok, List.all_cons]
    cases hb : (xs.getD i 0 == ys.getD i 0)
    · simp
    · simp only [Bool.not_true, Bool.false_eq_true, if_false, Sem.run_pure, Result.andThen_ok, Bool.true_and]
      exact ih fun j hj => hl j (by simp [hj])

def epL (f : Nat → Int) : List Int := [f 0, f 1, f 2, f 3]
theorem equal85 (w : World) (a b c d a' b' c' d' : Int) : (Op.equalIn 10000 85 (.agg #[.int .i64 a, .int .i64 b, .int .i64 c, .int .i64 d]) (.agg #[.int .i64 a', .int .i64 b', .int .i64 c', .int .i64 d'])).run Tryd.prog w = .ok ([a, b, c, d] == [a', b', c', d']) w := equal85L w [a, b, c, d] [a', b', c', d'] rfl rfl
theorem guard85 (w : World) (o : BinOp) (h : o = .eql ∨ o = .neq) (x y : Operand) (xs ys : Array Value) : (eqGuard o 85 x y (.agg xs) (.agg ys)).run Tryd.prog w = .ok () w := run_eqGuard_agg w o 85 x y _ _ (by kernel_rfl)
theorem guard85n (w : World) (x y : Operand) (xs ys : Array Value) : (eqGuard .neq 85 x y (.agg xs) (.agg ys)).run Tryd.prog w = .ok () w := run_eqGuard_agg w .neq 85 x y _ _ (by kernel_rfl)
theorem guard85e (w : World) (x y : Operand) (xs ys : Array Value) : (eqGuard .eql 85 x y (.agg xs) (.agg ys)).run Tryd.prog w = .ok () w := run_eqGuard_agg w .eql 85 x y _ _ (by kernel_rfl)
attribute [local go_sem] equal85 guard85n guard85e
namespace Plain
def sameL (ss tt : List Sg) : Bool := decide (ss.length = tt.length) && (ss.zip tt).all fun p => sameB p.1 p.2
def sameBk (b c : Bk) : Bool := (epL b.ep == epL c.ep) && sameL b.sagas c.sagas
theorem sameL_true {ss tt : List Sg} (hl : ss.length = tt.length) (h : ∀ j (h1 : j < ss.length) (h2 : j < tt.length), sameB ss[j] tt[j] = true) : sameL ss tt = true := by
  unfold sameL
  rw [decide_eq_true hl, Bool.true_and, List.all_eq_true]
  intro p hp
  obtain ⟨j, hj, rfl⟩ := List.getElem_of_mem hp
  rw [List.getElem_zip]
  exact h j _ _
theorem sameL_false {ss tt : List Sg} {j : Nat} (h1 : j < ss.length) (h2 : j < tt.length) (h : sameB ss[j] tt[j] = false) : sameL ss tt = false := by
  unfold sameL
  rw [Bool.and_eq_false_iff]
  right
  rw [List.all_eq_false]
  refine ⟨(ss[j], tt[j]), ?_, by simp [h]⟩
  have hj : j < (ss.zip tt).length := by rw [List.length_zip]; omega
  have : (ss.zip tt)[j] = (ss[j], tt[j]) := List.getElem_zip
  rw [← this]; exact List.getElem_mem hj
end Plain

set_option maxRecDepth 100000 in
set_option maxHeartbeats 8000000 in
theorem f_allS (sv tv : Value) (ss tt : List (Sg × Value)) (w : World) (hs : BkIn w sv ss) (ht : BkIn w tv tt) (hst : ∀ p ∈ ss, p.1.steps.length ≤ 1000000) : Calls Tryd.prog 80 #[sv, tv, .func (.func 81) #[] #[]] w (BPost (sameL (ss.map (·.1)) (tt.map (·.1))) w) := by
  obtain ⟨a, c, rfl⟩ := hs.form
  obtain ⟨b, d, rfl⟩ := ht.form
  have HS := Lib.hid hs
  have HT := Lib.hid ht
  have hls := hs.len
  clear hs ht
  by_cases hlen : ss.length = tt.length
  · have t1 : ((ss.length : Int) == tt.length) = true := by rw [beq_iff_eq]; omega
    have t2 : ((ss.length : Int) != tt.length) = false := by rw [bne, t1]; rfl
    have HL := Lib.hid hlen
    clear hlen
    go_enter Tryd.func80, Tryd.ntmps80
    go_wp2_with fail
    go_loopw [15] (fun i wr => ∃ k : Nat, k ≤ ss.length ∧ i = .int .i64 k ∧ (∀ j (h1 : j < ss.length) (h2 : j < tt.length), j < k → sameB ss[j].1 tt[j].1 = true) ∧ Kept (fun _ => False) w wr) (fun i _ => ss.length - (intOf i).toNat)
    case atStart => exact ⟨0, Nat.zero_le _, rfl, fun j _ _ h => by omega, Kept.refl _ _⟩
    case round =>
      obtain ⟨k, hk, rfl, ha, K⟩ := hrel
      have HA := Lib.hid ha
      have KR := Lib.hid K
      clear ha
      by_cases hlt : k < ss.length
      · have hlt2 : k < tt.length := by have := HL.out; omega
        obtain ⟨b1, o1, c1, e1, r1⟩ := (HS.out.kept K).rd.elem (by decide) (fsg_all _) hlt
        obtain ⟨b2, o2, c2, e2, r2⟩ := (HT.out.kept K).rd.elem (by decide) (fsg_all _) hlt2
        simp only [Value.slice.injEq, true_and] at e1 e2
        obtain ⟨rfl, rfl⟩ := e1
        obtain ⟨rfl, rfl⟩ := e2
        have hs1 := (HS.out.kept K).st ss[k] (List.getElem_mem _)
        have hs2 := (HT.out.kept K).st tt[k] (List.getElem_mem _)
        have hsl := hst ss[k] (List.getElem_mem _)
        have EF : Hid (sameB ss[k].1 tt[k].1 = false → sameL (ss.map (·.1)) (tt.map (·.1)) = false) := fun h => sameL_false (j := k) (by simpa using hlt) (by simpa using hlt2) (by simpa using h)
        have ET : Hid (sameB ss[k].1 tt[k].1 = true → ∀ j (h1 : j < ss.length) (h2 : j < tt.length), j < k + 1 → sameB ss[j].1 tt[j].1 = true) := fun h j h1 h2 hj => by
          by_cases e : j = k
          · subst e; exact h
          · exact HA.out j h1 h2 (by omega)
        generalize ss[k] = p at r1 hs1 hsl EF ET
        generalize tt[k] = q at r2 hs2 EF ET
        obtain ⟨s, vs⟩ := p
        obtain ⟨t, vt⟩ := q
        dsimp only at hs1 hs2 hsl EF ET
        have HSM := Lib.hid (fun w' (k : Kept (fun _ => False) wr w') => f_same s t vs vt w' (hs1.kept k) (hs2.kept k) hsl)
        have hbl1 := (HS.out.kept K).lt b1 rfl
        have hbl2 := (HT.out.kept K).lt b2 rfl
        have R1 : Hid (∀ {w' : World}, Kept (fun _ => False) wr w' → w'.rangeAt b1 (o1 + k * 10) (sgC s vs).toList ∧ w'.rangeAt b2 (o2 + k * 10) (sgC t vt).toList) := fun kk => ⟨fun j u hu => (kk.cell (p := ⟨b1, o1 + k * 10 + j, none⟩) hbl1 id).trans (r1 j u hu), fun j u hu => (kk.cell (p := ⟨b2, o2 + k * 10 + j, none⟩) hbl2 id).trans (r2 j u hu)⟩
        clear r1 r2 hs1 hs2 K hbl1 hbl2
        have hd : Kept (fun _ => False) wr wr.drew := (Kept.refl _ _).drew
        generalize hsm : sameB s t = sm at HSM EF ET
        go_wp2_with fail
        refine wp_region_held_drew (S := fun w' => Kept (fun _ => False) wr w') (by kernel_rfl) hd (fun hHeld => ?_)
        refine wpAnyH_take (i := 0) (oi := ⟨some 18, _, _, _, _, _⟩) (v := .func (.func 81) #[] #[]) rfl (by kernel_rfl) (by kernel_rfl) (by kernel_rfl) (fun _ _ _ h => h) (Or.inl ⟨by kernel_rfl, fun w' hS => by go_simp⟩) (by assumption) ?_
        try simp only [Act.put, List.setIfInBounds_toArray, List.set_cons_succ, List.set_cons_zero]
        refine wpAnyH_take (i := 1) (oi := ⟨some 19, _, _, _, _, _⟩) (v := .slice (some ⟨b1, o1, none⟩) ss.length c) rfl (by kernel_rfl) (by kernel_rfl) (by kernel_rfl) (fun _ _ _ h => h) (Or.inl ⟨by kernel_rfl, fun w' hS => by go_simp⟩) (by assumption) ?_
        try simp only [Act.put, List.setIfInBounds_toArray, List.set_cons_succ, List.set_cons_zero]
        refine wpAnyH_take (i := 2) (oi := ⟨some 20, _, _, _, _, _⟩) (v := .int .i64 k) rfl (by kernel_rfl) (by kernel_rfl) (by kernel_rfl) (fun _ _ _ h => h) (Or.inl ⟨by kernel_rfl, fun w' hS => by go_simp⟩) (by assumption) ?_
        try simp only [Act.put, List.setIfInBounds_toArray, List.set_cons_succ, List.set_cons_zero]
        refine wpAnyH_take (i := 3) (oi := ⟨some 21, _, _, _, _, _⟩) (v := .pointer (some ⟨b1, o1 + k * 10, none⟩)) rfl (by kernel_rfl) (by kernel_rfl) (by kernel_rfl) (fun _ _ _ h => h) (Or.inl ⟨by kernel_rfl, fun w' hS => by go_simp⟩) (by assumption) ?_
        try simp only [Act.put, List.setIfInBounds_toArray, List.set_cons_succ, List.set_cons_zero]
        refine wpAnyH_take (i := 4) (oi := ⟨some 22, _, _, _, _, _⟩) (v := .agg (sgC s vs)) rfl (by kernel_rfl) (by kernel_rfl) (by kernel_rfl) (fun _ _ _ h => h) (yields133o (g := b1) (o := o1 + k * 10) (by kernel_rfl) rfl (fun w' hS => (R1.out hS).1) (sgC_size _ _)) (by assumption) ?_
        try simp only [Act.put, List.setIfInBounds_toArray, List.set_cons_succ, List.set_cons_zero]
        refine wpAnyH_take (i := 5) (oi := ⟨some 23, _, _, _, _, _⟩) (v := .slice (some ⟨b2, o2, none⟩) tt.length d) rfl (by kernel_rfl) (by kernel_rfl) (by kernel_rfl) (fun _ _ _ h => h) (Or.inl ⟨by kernel_rfl, fun w' hS => by go_simp⟩) (by assumption) ?_
        try simp only [Act.put, List.setIfInBounds_toArray, List.set_cons_succ, List.set_cons_zero]
        refine wpAnyH_take (i := 6) (oi := ⟨some 24, _, _, _, _, _⟩) (v := .int .i64 k) rfl (by kernel_rfl) (by kernel_rfl) (by kernel_rfl) (fun _ _ _ h => h) (Or.inl ⟨by kernel_rfl, fun w' hS => by go_simp⟩) (by assumption) ?_
        try simp only [Act.put, List.setIfInBounds_toArray, List.set_cons_succ, List.set_cons_zero]
        refine wpAnyH_take (i := 7) (oi := ⟨some 25, _, _, _, _, _⟩) (v := .pointer (some ⟨b2, o2 + k * 10, none⟩)) rfl (by kernel_rfl) (by kernel_rfl) (by kernel_rfl) (fun _ _ _ h => h) (Or.inl ⟨by kernel_rfl, fun w' hS => by go_simp⟩) (by assumption) ?_
        try simp only [Act.put, List.setIfInBounds_toArray, List.set_cons_succ, List.set_cons_zero]
        refine wpAnyH_take (i := 8) (oi := ⟨some 26, _, _, _, _, _⟩) (v := .agg (sgC t vt)) rfl (by kernel_rfl) (by kernel_rfl) (by kernel_rfl) (fun _ _ _ h => h) (yields133o (g := b2) (o := o2 + k * 10) (by kernel_rfl) rfl (fun w' hS => (R1.out hS).2) (sgC_size _ _)) (by assumption) ?_
        try simp only [Act.put, List.setIfInBounds_toArray, List.set_cons_succ, List.set_cons_zero]
        refine wpAnyH_ready (rs := [9]) (by kernel_rfl) (by simp) ?_
        refine AllReadyH.cons (o := _) rfl (fun K hK => ?_) AllReadyH.nil
        go_simp
        refine (HSM.out _ hd).mono ?_
        rintro e wx1 ⟨rfl, kx1⟩
        go_wp2_with fail
        have hS1 := hd.trans kx1
        refine hK.out _ _ hS1 (fun hHeld => ?_)
        clear hK K
        try simp only [Act.put, List.setIfInBounds_toArray, List.set_cons_succ, List.set_cons_zero]
        refine wpAnyH_take (i := 10) (oi := ⟨some 28, _, _, _, _, _⟩) (v := .bool (!sm)) rfl (by kernel_rfl) (by kernel_rfl) (by kernel_rfl) (fun _ _ _ h => h) (Or.inl ⟨by kernel_rfl, fun w' hS => by go_simp⟩) (by assumption) ?_
        try simp only [Act.put, List.setIfInBounds_toArray, List.set_cons_succ, List.set_cons_zero]
        refine wpAnyH_done (by kernel_rfl) ?_ _
        have KF := Lib.hid (KR.out.trans hS1)
        clear kx1 hS1 hd HSM
        cases sm with
        | false =>
          have E := Lib.hid (EF.out rfl)
          go_wp2_with fail
          go_ret
          exact BPost.mk E.out KF.out
        | true =>
          have E := Lib.hid (ET.out rfl)
          go_wp2_with fail
          go_roundw
          case rel => exact ⟨k + 1, by omega, by go_num, E.out, KF.out⟩
          case measure => simp [intOf]; omega
      · obtain rfl : k = ss.length := by omega
        have E : Hid (sameL (ss.map (·.1)) (tt.map (·.1)) = true) := sameL_true (by simpa using HL.out) (fun j h1 h2 => by
          have h1' : j < ss.length := by simpa using h1
          have h2' : j < tt.length := by simpa using h2
          simpa using HA.out j h1' h2' h1')
        clear K
        go_wp2_with fail
        go_ret
        exact BPost.mk E.out KR.out
  · have t1 : ((ss.length : Int) == tt.length) = false := by rw [beq_eq_false_iff_ne]; omega
    have t2 : ((ss.length : Int) != tt.length) = true := by rw [bne, t1]; rfl
    have E : Hid (sameL (ss.map (·.1)) (tt.map (·.1)) = false) := by show _ = _; unfold sameL; rw [List.length_map, List.length_map, decide_eq_false hlen]; rfl
    clear hlen
    go_enter Tryd.func80, Tryd.ntmps80
    go_wp2_with fail
    go_ret
    exact BPost.mk E.out (Kept.refl _ _)
set_option maxRecDepth 100000 in
set_option maxHeartbeats 8000000 in
theorem f_bksame (b c : Bk) (sv tv : Value) (ss tt : List (Sg × Value)) (w : World) (hs : BkIn w sv ss) (ht : BkIn w tv tt) (hms : ss.map (·.1) = b.sagas) (hmt : tt.map (·.1) = c.sagas) (hst : ∀ p ∈ ss, p.1.steps.length ≤ 1000000) : Calls Tryd.prog 49 #[.agg (bkC b.ep sv), .agg (bkC c.ep tv)] w (BPost (sameBk b c) w) := by
  have g0 := heap_alloc2_old w (.cells (bkC b.ep sv) 88) (.cells (bkC c.ep tv) 88)
  have g1 := heap_alloc2_new w (.cells (bkC b.ep sv) 88) (.cells (bkC c.ep tv) 88)
  have K2 := Lib.hid (((Kept.refl (fun _ => False) w).alloc (.cells (bkC b.ep sv) 88)).alloc (.cells (bkC c.ep tv) 88))
  have HA := Lib.hid (f_allS sv tv ss tt _ (hs.kept K2.out) (ht.kept K2.out) hst)
  rw [hms, hmt] at HA
  obtain ⟨a, c1, rfl⟩ := hs.form
  obtain ⟨a2, c2, rfl⟩ := ht.form
  have E0 : Hid (sameBk b c = ((epL b.ep == epL c.ep) && sameL b.sagas c.sagas)) := rfl
  unfold epL at E0
  unfold bkC at *
  have b0 := row_cell g0 (k := 0) rfl
  have b1 := row_cell g0 (k := 1) rfl
  have b2 := row_cell g0 (k := 2) rfl
  have b3 := row_cell g0 (k := 3) rfl
  have b4 := row_cell g0 (k := 4) rfl
  have d0 := row_cell g1 (k := 0) rfl
  have d1 := row_cell g1 (k := 1) rfl
  have d2 := row_cell g1 (k := 2) rfl
  have d3 := row_cell g1 (k := 3) rfl
  have d4 := row_cell g1 (k := 4) rfl
  clear hs ht hms hmt hst g0 g1
  cases hep : ([b.ep 0, b.ep 1, b.ep 2, b.ep 3] == [c.ep 0, c.ep 1, c.ep 2, c.ep 3]) with
  | false =>
    rw [hep] at E0
    go_enter Tryd.func49, Tryd.ntmps49
    go_wp2_with fail
    go_ret
    exact BPost.mk (by rw [E0.out]; rfl) K2.out
  | true =>
    rw [hep, Bool.true_and] at E0
    go_enter Tryd.func49, Tryd.ntmps49
    go_wp2_with fail
    refine HA.out.mono ?_
    rintro e w1 ⟨rfl, k1⟩
    have KF := Lib.hid (K2.out.trans k1)
    go_wp2_with fail
    go_ret
    exact BPost.mk E0.out KF.out
end Go.Proofs.YtklmhegmombegaaDoor.Re

