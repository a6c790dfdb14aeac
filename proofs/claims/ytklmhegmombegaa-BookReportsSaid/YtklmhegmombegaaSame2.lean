/-
  Contracts of slices.Equal and Same. Conditions: as each theorem says.
-/
import Derived.Test.YtklmhegmombegaaSame
import Derived.Test.YtklmhegmombegaaNew
set_option linter.unusedVariables false
set_option linter.unusedSimpArgs false
namespace Go.Proofs.Ytklmhegmombegaa
open Go Go.RowKit Plain

theorem all_range_eq' : ∀ (xs ys : List Int), xs.length = ys.length → (List.range xs.length).all (fun i => xs.getD i 0 == ys.getD i 0) = (xs == ys) := by
  intro xs
  induction xs with
  | nil => intro ys h; cases ys with
    | nil => rfl
    | cons y ys => simp at h
  | cons x xs ih =>
    intro ys h
    cases ys with
    | nil => simp at h
    | cons y ys =>
      have hl : xs.length = ys.length := by simpa using h
      rw [List.length_cons, List.range_succ_eq_map, List.all_cons, List.all_map]
      show ((x == y) && (List.range xs.length).all _) = (x == y && xs == ys)
      rw [← ih ys hl]
      rfl
theorem equal72 (w : World) (xs ys : List Int) (hx : xs.length = 10) (hy : ys.length = 10) : (Op.equalIn 10000 72 (tenV xs) (tenV ys)).run Try.prog w = .ok (xs == ys) w := by
  have he := Try.underlying3
  have ht := Try.underlying72
  have hsz : ∀ w, (sizeOf 3).run Try.prog w = .ok 1 w := fun w => by go_simp
  unfold tenV
  rw [← all_range_eq' xs ys (hx.trans hy.symm), hx, List.range_eq_range', show (10000 : Nat) = 9998 + 2 from rfl, Op.equalIn]
  simp only [Sem.run_bind, run_underlying ht, Result.andThen_ok, hsz, Std.Legacy.Range.forIn_eq_forIn_range', Std.Legacy.Range.size, Nat.sub_zero, Nat.add_sub_cancel, Nat.div_one]
  have hl : ∀ i ∈ List.range' 0 10 1, i < 10 := fun i hi => by simpa using (List.mem_range'_1.1 hi).2
  generalize List.range' 0 10 1 = l at hl ⊢
  induction l with
  | nil => simp
  | cons i l ih =>
    have hi : i < 10 := hl i (by simp)
    have px : (part 3 (xs.map (Value.int .i64)).toArray (i * 1)).run Try.prog w = .ok (.int .i64 (xs.getD i 0)) w := by
      simp [part, isAgg, run_underlying he, List.getD, List.getElem?_eq_getElem (show i < xs.length by omega)]
    have py : (part 3 (ys.map (Value.int .i64)).toArray (i * 1)).run Try.prog w = .ok (.int .i64 (ys.getD i 0)) w := by
      simp [part, isAgg, run_underlying he, List.getD, List.getElem?_eq_getElem (show i < ys.length by omega)]
    have pe : (Op.equalIn (9998 + 1) 3 (.int .i64 (xs.getD i 0)) (.int .i64 (ys.getD i 0))).run Try.prog w = .ok (xs.getD i 0 == ys.getD i 0) w := by
      rw [run_equalIn_int w 9998 3 .i64 .i64 _ _ he]
    simp only [List.forIn_cons, Sem.run_bind, px, py, pe, Result.andThen_ok, List.all_cons]
    cases hb : (xs.getD i 0 == ys.getD i 0)
    · simp
    · simp only [Bool.not_true, Bool.false_eq_true, if_false, Sem.run_pure, Result.andThen_ok, Bool.true_and]
      exact ih fun j hj => hl j (by simp [hj])
theorem equal34 (w : World) (p q p' q' : Int) : (Op.equalIn 10000 34 (.agg #[.int .i64 p, .int .i64 q]) (.agg #[.int .i64 p', .int .i64 q'])).run Try.prog w = .ok ((p == p') && (q == q')) w := by
  have u3 := Try.underlying3
  have hS : Try.prog.underlying 34 = some (.struct (Try.prog.fieldsOf 34)) := by kernel_rfl
  have hp : Try.prog.stoodInHeld 34 = false := by kernel_rfl
  rw [show (10000 : Nat) = 9999 + 1 from rfl, run_equalIn_agg w 9999 34 _ _ hS hp]
  simp only [Program.fieldsOf, Try.underlying34]
  go_simp
  by_cases h1 : p = p' <;> by_cases h2 : q = q' <;> simp [h1, h2]
theorem guard34 (w : World) (x y : Operand) (xs ys : Array Value) : (eqGuard .neq 34 x y (.agg xs) (.agg ys)).run Try.prog w = .ok () w := run_eqGuard_agg w .neq 34 x y _ _ (by kernel_rfl)
attribute [local go_sem] equal34 guard34

/-- Two steps compared, where only reading is done. -/
theorem quiet_neq34 {ops : Array Oper} {rest : List Oper} {dst : Option Tmp} {ty rt : TypeId} {pos : String} {aft : Array Edge} {gd : Option (Nat × Bool)} {x y : Operand} {a : Act} {S : World → Prop} {K : Act → Prop} {p q p' q' : Int}
    (hw : Region.wanted ⟨dst, .binOp .neq 34 x y rt, ty, pos, aft, gd⟩ (yielded ops a.tmps) = true) (hx : a.eval x = .agg #[.int .i64 p, .int .i64 q]) (hy : a.eval y = .agg #[.int .i64 p', .int .i64 q']) (h : wpQuiet Try.prog ops S K rest (a.put dst (.bool (!((p == p') && (q == q')))))) :
    wpQuiet Try.prog ops S K (⟨dst, .binOp .neq 34 x y rt, ty, pos, aft, gd⟩ :: rest) a := by
  refine wpQuiet_step fun K' hK => ?_
  rw [if_pos hw]
  refine ⟨_, fun w hS => ?_, hK _ h⟩
  unfold Oper.quietAt execOp
  simp only [hx, hy, Sem.run_bind, guard34, run_neq_struct, equal34, Result.andThen_ok, Sem.run_pure]
  exact ⟨rfl, rfl⟩
theorem list_step' {xs ys : List (Int × Int)} {k : Nat} (h : xs.take k = ys.take k) (hx : k < xs.length) (hy : k < ys.length) (e : xs[k] = ys[k]) : xs.take (k + 1) = ys.take (k + 1) := by
  rw [← List.take_append_getElem hx, ← List.take_append_getElem hy, h, e]
set_option maxHeartbeats 2000000 in
theorem f_equal (va vb : Value) (l m : List (Int × Int)) (w : World) (ha : Stp w va l) (hb : Stp w vb m) (hll : l.length ≤ 1000000) : Calls Try.prog 42 #[va, vb] w (BPost (decide (l = m)) w) := by
  obtain ⟨a, c, rfl⟩ := ha.form
  obtain ⟨b, d, rfl⟩ := hb.form
  by_cases hlen : l.length = m.length
  · have t1 : ((l.length : Int) == m.length) = true := by rw [beq_iff_eq]; omega
    have t2 : ((l.length : Int) != m.length) = false := by rw [bne, t1]; rfl
    have HA := Lib.hid ha
    have HB := Lib.hid hb
    have HL := Lib.hid hlen
    clear ha hb hlen
    go_enter Try.func42, Try.ntmps42
    go_wp2
    go_loopw [13] (fun i wr => ∃ k : Nat, k ≤ l.length ∧ i = .int .i64 k ∧ l.take k = m.take k ∧ Kept (fun _ => False) w wr) (fun i _ => l.length - (intOf i).toNat)
    case atStart => exact ⟨0, Nat.zero_le _, rfl, rfl, Kept.refl _ _⟩
    case round =>
      obtain ⟨k, hk, rfl, ht, K⟩ := hrel
      have HT := Lib.hid ht
      clear ht
      by_cases hlt : k < l.length
      · have hlm : k < m.length := by have := HL.out; omega
        obtain ⟨b1, o1, c1, e1, x1, x0, -⟩ := (HA.out.kept K).kind hlt
        obtain ⟨b2, o2, c2, e2, y1, y0, -⟩ := (HB.out.kept K).kind hlm
        simp only [Value.slice.injEq, true_and] at e1 e2
        obtain ⟨rfl, rfl⟩ := e1
        obtain ⟨rfl, rfl⟩ := e2
        have k1 : kindAt l k = l[k].2 := by rw [kindAt, List.getElem?_eq_getElem hlt]; rfl
        have k2 : kindAt m k = m[k].2 := by rw [kindAt, List.getElem?_eq_getElem hlm]; rfl
        rw [k1] at x1
        rw [k2] at y1
        clear k1 k2
        generalize hxk : l[k] = x at x1 x0
        generalize hyk : m[k] = y at y1 y0
        have HXK := Lib.hid hxk
        have HYK := Lib.hid hyk
        clear hxk hyk
        obtain ⟨p, q⟩ := x
        obtain ⟨p', q'⟩ := y
        dsimp only at x0 x1 y0 y1
        have hd : ∀ n, Kept (fun _ => False) w (wr.drewN n) := fun n => K.drewN n
        have HD := Lib.hid hd
        clear hd
        by_cases hxy : (p == p' && q == q') = true
        · have hst : l.take (k + 1) = m.take (k + 1) := list_step' HT.out hlt hlm (by rw [HXK.out, HYK.out]; simp at hxy; rw [hxy.1, hxy.2])
          have HST := Lib.hid hst
          clear hst
          go_wp2
          refine wp_region_quiet_lit (by kernel_rfl) (by kernel_rfl) ?_
          repeat (first | ((with_reducible refine quiet_neq34 (p := p) (q := q) (p' := p') (q' := q') ?_ ?_ ?_ ?_); rfl; rfl; rfl; rw [hxy]) | quiet_step (fail))
          refine wpQuiet_nil ?_
          intro _ hw'
          obtain ⟨nq, hw''⟩ := hw'
          subst hw''
          go_wp2
          go_roundw
          case rel => exact ⟨k + 1, by omega, by go_num, HST.out, HD.out _⟩
          case measure => simp [intOf]; omega
        · have hxy : (p == p' && q == q') = false := by simpa using hxy
          have e : decide (l = m) = false := by
            simp only [decide_eq_false_iff_not]
            rintro rfl
            have := HXK.out.symm.trans HYK.out
            simp only [Prod.mk.injEq] at this
            simp [this.1, this.2] at hxy
          have HE := Lib.hid e
          clear e
          go_wp2
          refine wp_region_quiet_lit (by kernel_rfl) (by kernel_rfl) ?_
          repeat (first | ((with_reducible refine quiet_neq34 (p := p) (q := q) (p' := p') (q' := q') ?_ ?_ ?_ ?_); rfl; rfl; rfl; rw [hxy]) | quiet_step (fail))
          refine wpQuiet_nil ?_
          intro _ hw'
          obtain ⟨nq, hw''⟩ := hw'
          subst hw''
          go_wp2
          go_ret
          exact BPost.mk HE.out (HD.out _)
      · have e : l = m := by
          have h := HT.out
          rwa [List.take_of_length_le (by omega), List.take_of_length_le (by have := HL.out; omega)] at h
        have HE := Lib.hid (show decide (l = m) = true by simpa using e)
        clear e
        go_wp2
        go_ret
        exact BPost.mk HE.out K
  · have t1 : ((l.length : Int) == m.length) = false := by rw [beq_eq_false_iff_ne]; omega
    have t2 : ((l.length : Int) != m.length) = true := by rw [bne, t1]; rfl
    have HE := Lib.hid (show decide (l = m) = false by simp only [decide_eq_false_iff_not]; rintro rfl; exact hlen rfl)
    clear hlen ha hb
    go_enter Try.func42, Try.ntmps42
    go_wp2
    go_ret
    exact BPost.mk HE.out (Kept.refl _ _)

/-- Are two sagas the same? -/
def sameB (s t : Sg) : Bool := (tenOf s == tenOf t) && decide (s.steps = t.steps)
theorem tenOf_len (s : Sg) : (tenOf s).length = 10 := rfl
theorem yields72 {ops : Array Oper} {S : World → Prop} {dst : Option Tmp} {ty : TypeId} {pos : String} {aft : Array Edge} {gd : Option (Nat × Bool)} {x y : Operand} {a : Act} {rt : TypeId} {s t : Sg} {b : Bool} (hb : (tenOf s == tenOf t) = b) (hw : Region.wanted ⟨dst, .binOp .eql 72 x y rt, ty, pos, aft, gd⟩ (yielded ops a.tmps) = true) (hx : a.eval x = tenV (tenOf s)) (hy : a.eval y = tenV (tenOf t)) :
    YieldsIf Try.prog ops S ⟨dst, .binOp .eql 72 x y rt, ty, pos, aft, gd⟩ (.bool b) a := by
  subst hb
  refine .inl ⟨hw, fun w hS => ?_⟩
  have hg : (eqGuard .eql 72 x y (tenV (tenOf s)) (tenV (tenOf t))).run Try.prog w = .ok () w := by unfold tenV; exact run_eqGuard_agg w .eql 72 x y _ _ (by kernel_rfl)
  have he := equal72 w (tenOf s) (tenOf t) rfl rfl
  have hq : (binOp .eql 72 (tenV (tenOf s)) (tenV (tenOf t))).run Try.prog w = .ok (.bool (tenOf s == tenOf t)) w := by unfold tenV at he ⊢; rw [run_eql_struct, he]; rfl
  unfold execOp
  simp only [hx, hy, Sem.run_bind, hg, hq, Result.andThen_ok, Sem.run_pure]
set_option maxHeartbeats 2000000 in
theorem f_same (s t : Sg) (va vb : Value) (w : World) (ha : Stp w va s.steps) (hb : Stp w vb t.steps) (hl : s.steps.length ≤ 1000000) : Calls Try.prog 16 #[.agg (sgC s va), .agg (sgC t vb)] w (BPost (sameB s t) w) := by
  have g0 := heap_alloc2_old w (.cells (sgC s va) 27) (.cells (sgC t vb) 27)
  have g1 := heap_alloc2_new w (.cells (sgC s va) 27) (.cells (sgC t vb) 27)
  have K2 := ((Kept.refl (fun _ => False) w).alloc (.cells (sgC s va) 27)).alloc (.cells (sgC t vb) 27)
  have hca := ha.form
  have hcb := hb.form
  go_enter Try.func16, Try.ntmps16
  go_upto_region 1 with (fail)
  generalize (w.alloc (.cells (sgC s va) 27)).alloc (.cells (sgC t vb) 27) = w2 at g0 g1 K2 ⊢
  have HG : Hid (∀ {w' : World}, Kept (fun _ => False) w2 w' → w'.heap[w.heap.size]? = some (.cells (sgC s va) 27 (0, 0)) ∧ w'.heap[w.heap.size + 1]? = some (.cells (sgC t vb) 27 (0, 0)) ∧ Kept (fun _ => False) w w') :=
    fun k => ⟨(k.block _ (Array.getElem?_eq_some_iff.1 g0).1 id).trans g0, (k.block _ (Array.getElem?_eq_some_iff.1 g1).1 id).trans g1, K2.trans k⟩
  have HA := Lib.hid ha
  have HB := Lib.hid hb
  have hd : Kept (fun _ => False) w2 w2.drew := (Kept.refl _ _).drew
  clear g0 g1 K2 ha hb
  refine wp_region_held_drew (S := fun w' => Kept (fun _ => False) w2 w') (by kernel_rfl) hd (fun hHeld => ?_)
  refine wpAnyH_take (i := 0) (oi := ⟨some 5, _, _, _, _, _⟩) (v := .agg (sgC s va)) rfl (by kernel_rfl) (by kernel_rfl) (by kernel_rfl) (fun _ _ _ h => h) (yields27 (g := w.heap.size) (by kernel_rfl) rfl (fun w hS => (HG.out hS).1) (sgC_size _ _)) (by assumption) ?_
  try simp only [Act.put, List.setIfInBounds_toArray, List.set_cons_succ, List.set_cons_zero]
  refine wpAnyH_take (i := 2) (oi := ⟨some 7, _, _, _, _, _⟩) (v := .agg (sgC t vb)) rfl (by kernel_rfl) (by kernel_rfl) (by kernel_rfl) (fun _ _ _ h => h) (yields27 (g := w.heap.size + 1) (by kernel_rfl) rfl (fun w hS => (HG.out hS).2.1) (sgC_size _ _)) (by assumption) ?_
  try simp only [Act.put, List.setIfInBounds_toArray, List.set_cons_succ, List.set_cons_zero]
  refine wpAnyH_ready (rs := [1]) (by kernel_rfl) (by simp) ?_
  refine AllReadyH.cons (o := _) rfl (fun K hK => ?_) AllReadyH.nil
  go_simp
  refine (f_plain s va _ hca).mono ?_
  rintro e wx1 ⟨rfl, kx1⟩
  go_wp2_with fail
  have hS1 := hd.trans kx1
  refine hK.out _ _ hS1 (fun hHeld => ?_)
  clear hK K
  try simp only [Act.put, List.setIfInBounds_toArray, List.set_cons_succ, List.set_cons_zero]
  refine wpAnyH_ready (rs := [3]) (by kernel_rfl) (by simp) ?_
  refine AllReadyH.cons (o := _) rfl (fun K hK => ?_) AllReadyH.nil
  go_simp
  refine (f_plain t vb _ hcb).mono ?_
  rintro e wx2 ⟨rfl, kx2⟩
  go_wp2_with fail
  have hS2 := hS1.trans kx2
  refine hK.out _ _ hS2 (fun hHeld => ?_)
  clear hK K
  try simp only [Act.put, List.setIfInBounds_toArray, List.set_cons_succ, List.set_cons_zero]
  obtain ⟨a, c, rfl⟩ := hca
  obtain ⟨b, d, rfl⟩ := hcb
  cases hten : (tenOf s == tenOf t) with
  | false =>
    have E : Hid (sameB s t = false) := by show _ = _; rw [sameB, hten]; rfl
    refine wpAnyH_take (i := 4) (oi := ⟨some 9, _, _, _, _, _⟩) (v := .bool false) rfl (by kernel_rfl) (by kernel_rfl) (by kernel_rfl) (fun _ _ _ h => h) (yields72 hten (by kernel_rfl) rfl rfl) (by assumption) ?_
    try simp only [Act.put, List.setIfInBounds_toArray, List.set_cons_succ, List.set_cons_zero]
    refine wpAnyH_take (i := 5) (oi := ⟨some 10, _, _, _, _, _⟩) (v := .bool false) rfl (by kernel_rfl) (by kernel_rfl) (by kernel_rfl) (fun _ _ _ h => h) (Or.inl ⟨by kernel_rfl, fun w hS => by go_simp⟩) (by assumption) ?_
    try simp only [Act.put, List.setIfInBounds_toArray, List.set_cons_succ, List.set_cons_zero]
    refine wpAnyH_take (i := 6) (oi := ⟨some 11, _, _, _, _, _⟩) (v := undef) rfl (by kernel_rfl) (by kernel_rfl) (by kernel_rfl) (fun _ _ _ h => h) (Or.inr ⟨by kernel_rfl, rfl⟩) (by assumption) ?_
    try simp only [Act.put, List.setIfInBounds_toArray, List.set_cons_succ, List.set_cons_zero]
    refine wpAnyH_take (i := 7) (oi := ⟨some 12, _, _, _, _, _⟩) (v := undef) rfl (by kernel_rfl) (by kernel_rfl) (by kernel_rfl) (fun _ _ _ h => h) (Or.inr ⟨by kernel_rfl, rfl⟩) (by assumption) ?_
    try simp only [Act.put, List.setIfInBounds_toArray, List.set_cons_succ, List.set_cons_zero]
    refine wpAnyH_take (i := 8) (oi := ⟨some 13, _, _, _, _, _⟩) (v := undef) rfl (by kernel_rfl) (by kernel_rfl) (by kernel_rfl) (fun _ _ _ h => h) (Or.inr ⟨by kernel_rfl, rfl⟩) (by assumption) ?_
    try simp only [Act.put, List.setIfInBounds_toArray, List.set_cons_succ, List.set_cons_zero]
    refine wpAnyH_take (i := 9) (oi := ⟨some 14, _, _, _, _, _⟩) (v := undef) rfl (by kernel_rfl) (by kernel_rfl) (by kernel_rfl) (fun _ _ _ h => h) (Or.inr ⟨by kernel_rfl, rfl⟩) (by assumption) ?_
    try simp only [Act.put, List.setIfInBounds_toArray, List.set_cons_succ, List.set_cons_zero]
    refine wpAnyH_take (i := 10) (oi := ⟨some 15, _, _, _, _, _⟩) (v := undef) rfl (by kernel_rfl) (by kernel_rfl) (by kernel_rfl) (fun _ _ _ h => h) (Or.inr ⟨by kernel_rfl, rfl⟩) (by assumption) ?_
    try simp only [Act.put, List.setIfInBounds_toArray, List.set_cons_succ, List.set_cons_zero]
    refine wpAnyH_take (i := 11) (oi := ⟨some 16, _, _, _, _, _⟩) (v := .bool false) rfl (by kernel_rfl) (by kernel_rfl) (by kernel_rfl) (fun _ _ _ h => h) (Or.inl ⟨by kernel_rfl, fun w hS => by go_simp⟩) (by assumption) ?_
    try simp only [Act.put, List.setIfInBounds_toArray, List.set_cons_succ, List.set_cons_zero]
    refine wpAnyH_take (i := 12) (oi := ⟨some 4, _, _, _, _, _⟩) (v := .bool false) rfl (by kernel_rfl) (by kernel_rfl) (by kernel_rfl) (fun _ _ _ h => h) (Or.inl ⟨by kernel_rfl, fun w hS => by go_simp⟩) (by assumption) ?_
    try simp only [Act.put, List.setIfInBounds_toArray, List.set_cons_succ, List.set_cons_zero]
    refine wpAnyH_done (by kernel_rfl) ?_ _
    have KF := Lib.hid (HG.out hS2).2.2
    go_wp2_with fail
    go_ret
    exact BPost.mk E.out KF.out
  | true =>
    have E : Hid (sameB s t = decide (s.steps = t.steps)) := by show _ = _; rw [sameB, hten]; rfl
    refine wpAnyH_take (i := 4) (oi := ⟨some 9, _, _, _, _, _⟩) (v := .bool true) rfl (by kernel_rfl) (by kernel_rfl) (by kernel_rfl) (fun _ _ _ h => h) (yields72 hten (by kernel_rfl) rfl rfl) (by assumption) ?_
    try simp only [Act.put, List.setIfInBounds_toArray, List.set_cons_succ, List.set_cons_zero]
    refine wpAnyH_take (i := 5) (oi := ⟨some 10, _, _, _, _, _⟩) (v := .bool true) rfl (by kernel_rfl) (by kernel_rfl) (by kernel_rfl) (fun _ _ _ h => h) (Or.inl ⟨by kernel_rfl, fun w hS => by go_simp⟩) (by assumption) ?_
    try simp only [Act.put, List.setIfInBounds_toArray, List.set_cons_succ, List.set_cons_zero]
    refine wpAnyH_take (i := 6) (oi := ⟨some 11, _, _, _, _, _⟩) (v := .pointer (some ⟨w.heap.size, 0, none⟩)) rfl (by kernel_rfl) (by kernel_rfl) (by kernel_rfl) (fun _ _ _ h => h) (Or.inl ⟨by kernel_rfl, fun w hS => by go_simp⟩) (by assumption) ?_
    try simp only [Act.put, List.setIfInBounds_toArray, List.set_cons_succ, List.set_cons_zero]
    refine wpAnyH_take (i := 7) (oi := ⟨some 12, _, _, _, _, _⟩) (v := .slice a s.steps.length c) rfl (by kernel_rfl) (by kernel_rfl) (by kernel_rfl) (fun _ _ _ h => h) (Or.inl ⟨by kernel_rfl, fun w hS => by have hc := ((cell_of_row _ _ 0 _ _ _ (HG.out hS).1).trans (show (sgC s (.slice a s.steps.length c))[0]? = some (.slice a s.steps.length c) from rfl)); go_simp⟩) (by assumption) ?_
    try simp only [Act.put, List.setIfInBounds_toArray, List.set_cons_succ, List.set_cons_zero]
    refine wpAnyH_take (i := 8) (oi := ⟨some 13, _, _, _, _, _⟩) (v := .pointer (some ⟨w.heap.size + 1, 0, none⟩)) rfl (by kernel_rfl) (by kernel_rfl) (by kernel_rfl) (fun _ _ _ h => h) (Or.inl ⟨by kernel_rfl, fun w hS => by go_simp⟩) (by assumption) ?_
    try simp only [Act.put, List.setIfInBounds_toArray, List.set_cons_succ, List.set_cons_zero]
    refine wpAnyH_take (i := 9) (oi := ⟨some 14, _, _, _, _, _⟩) (v := .slice b t.steps.length d) rfl (by kernel_rfl) (by kernel_rfl) (by kernel_rfl) (fun _ _ _ h => h) (Or.inl ⟨by kernel_rfl, fun w hS => by have hc := ((cell_of_row _ _ 0 _ _ _ (HG.out hS).2.1).trans (show (sgC t (.slice b t.steps.length d))[0]? = some (.slice b t.steps.length d) from rfl)); go_simp⟩) (by assumption) ?_
    try simp only [Act.put, List.setIfInBounds_toArray, List.set_cons_succ, List.set_cons_zero]
    refine wpAnyH_ready (rs := [10]) (by kernel_rfl) (by simp) ?_
    refine AllReadyH.cons (o := _) rfl (fun K hK => ?_) AllReadyH.nil
    go_simp
    have k2 := (HG.out hS2).2.2
    refine (f_equal _ _ s.steps t.steps _ (HA.out.kept k2) (HB.out.kept k2) hl).mono ?_
    rintro e wx3 ⟨rfl, kx3⟩
    go_wp2_with fail
    have hS3 := hS2.trans kx3
    refine hK.out _ _ hS3 (fun hHeld => ?_)
    clear hK K
    try simp only [Act.put, List.setIfInBounds_toArray, List.set_cons_succ, List.set_cons_zero]
    refine wpAnyH_take (i := 11) (oi := ⟨some 16, _, _, _, _, _⟩) (v := .bool (decide (s.steps = t.steps))) rfl (by kernel_rfl) (by kernel_rfl) (by kernel_rfl) (fun _ _ _ h => h) (Or.inl ⟨by kernel_rfl, fun w hS => by go_simp⟩) (by assumption) ?_
    try simp only [Act.put, List.setIfInBounds_toArray, List.set_cons_succ, List.set_cons_zero]
    refine wpAnyH_take (i := 12) (oi := ⟨some 4, _, _, _, _, _⟩) (v := .bool (decide (s.steps = t.steps))) rfl (by kernel_rfl) (by kernel_rfl) (by kernel_rfl) (fun _ _ _ h => h) (Or.inl ⟨by kernel_rfl, fun w hS => by go_simp⟩) (by assumption) ?_
    try simp only [Act.put, List.setIfInBounds_toArray, List.set_cons_succ, List.set_cons_zero]
    refine wpAnyH_done (by kernel_rfl) ?_ _
    have KF := Lib.hid (HG.out hS3).2.2
    go_wp2_with fail
    go_ret
    exact BPost.mk E.out KF.out
end Go.Proofs.Ytklmhegmombegaa
