/-
  Contracts of rec's Same and Right. Conditions: as each theorem says.
-/
import Derived.Test.YtklmhegmombegaaDoorRecC
import Derived.Test.YtklmhegmombegaaDoorRecD
import Derived.Laws.BytesArg
import Derived.Lib.Bytes
set_option linter.unusedVariables false
set_option linter.unusedSimpArgs false
namespace Go.Proofs.YtklmhegmombegaaDoor.Re
open Go Go.RowKit Go.Proofs.YtklmhegmombegaaDoor.Re.Plain

theorem convert_zero (w : World) (p : Option Addr) (c : Nat) : (convert 28 9 (.slice p 0 c)).run Tryd.prog w = .ok (.string (strOfNums [])) w := by
  rw [run_convert_bytes_string (P := Tryd.prog) w 28 9 5 _ 0 c Tryd.underlying28 Tryd.underlying5 Tryd.underlying9]
  cases p <;> simp [Conv.bytesToString, loadCells]
  all_goals rfl
def nums (l : List Nat) : List Int := l.map fun (n : Nat) => (n : Int)
theorem HoldsBy.convert {w : World} {v : Value} {l : List Nat} (h : HoldsBy w v l) : (convert 28 9 v).run Tryd.prog w = .ok (.string (strOfNums (nums l))) w := by
  obtain ⟨a, c, rfl, hm, hz, hr⟩ := h
  by_cases hl : l = []
  · subst hl; exact convert_zero w a c
  · have hpos : 0 < l.length := List.length_pos_iff.2 hl
    obtain ⟨b, o, c', ev, hc⟩ := (hr hl).1.addr (by omega)
    simp only [Value.slice.injEq, true_and] at ev
    obtain ⟨rfl, rfl⟩ := ev
    refine run_convert_bytes_arg (P := Tryd.prog) w 28 5 Tryd.underlying28 Tryd.underlying5 b o l.length c (nums l) (by simp [nums]) (fun i hi => ?_) 9 Tryd.underlying9
    have := hc i (.int .u8 (l[i] : Nat)) (by simp [hi])
    rw [this]
    simp [nums, List.getD, hi]
theorem bytes_eq {l m : List Nat} (hl : ∀ z ∈ l, z < 256) (hm : ∀ z ∈ m, z < 256) : ((strOfNums (nums l)).toList == (strOfNums (nums m)).toList) = decide (l = m) := by
  rw [Lib.strOfNums_toList, Lib.strOfNums_toList, Bool.eq_iff_iff]
  simp only [beq_iff_eq, decide_eq_true_eq]
  constructor
  · intro h
    have e : ∀ (k : List Nat), (∀ z ∈ k, z < 256) → (Lib.bytesOf (nums k)).map UInt8.toNat = k := by
      intro k hk
      unfold Lib.bytesOf nums
      rw [List.map_map, List.map_map]
      refine (List.map_congr_left fun z hz => ?_).trans (List.map_id _)
      have := hk z hz
      simp
      omega
    rw [← e l hl, ← e m hm, h]
  · rintro rfl; rfl
theorem f_beq (v u : Value) (l m : List Nat) (w : World) (h : HoldsBy w v l) (k : HoldsBy w u m) : Calls Tryd.prog 113 #[v, u] w fun e w' => e = .returned (.bool (decide (l = m))) ∧ w = w' := by
  have h1 := h.convert
  have h2 := k.convert
  have HB : Hid (((strOfNums (nums l)).toList == (strOfNums (nums m)).toList) = decide (l = m)) := by
    obtain ⟨_, _, _, _, hl, _⟩ := h
    obtain ⟨_, _, _, _, hm, _⟩ := k
    exact bytes_eq hl hm
  obtain ⟨a, c, rfl, _⟩ := h
  obtain ⟨b, d, rfl, _⟩ := k
  go_enter Tryd.func113, Tryd.ntmps113
  go_wp2_with fail
  go_ret
  exact ⟨by rw [← HB.out]; rfl, rfl⟩

/-- Two slices of steps compared, of whatever lengths. -/
theorem f_equal0 (a b : Option Addr) (n m c d : Nat) (w : World) (h : n ≠ m ∨ (n = 0 ∧ m = 0)) : Calls Tryd.prog 107 #[.slice a n c, .slice b m d] w (BPost (decide (n = m)) w) := by
  by_cases e : n = m
  · obtain ⟨rfl, rfl⟩ : n = 0 ∧ m = 0 := by omega
    go_enter Tryd.func107, Tryd.ntmps107
    go_wp2
    go_loopw [13] (fun i wr => i = .int .i64 0 ∧ Kept (fun _ => False) w wr) (fun i _ => 0)
    case atStart => exact ⟨rfl, Kept.refl _ _⟩
    case round =>
      obtain ⟨rfl, K⟩ := hrel
      go_wp2
      go_ret
      exact BPost.mk rfl K
  · have t1 : ((n : Int) == m) = false := by rw [beq_eq_false_iff_ne]; omega
    have t2 : ((n : Int) != m) = true := by rw [bne, t1]; rfl
    have E := Lib.hid (show decide (n = m) = false by simpa using e)
    clear h e
    go_enter Tryd.func107, Tryd.ntmps107
    go_wp2
    go_ret
    exact BPost.mk E.out (Kept.refl _ _)
theorem f_equalH (va vb : Value) (l m : List (Int × Int)) (w : World) (ha : HoldsSt w va l) (hb : HoldsSt w vb m) (hll : l.length ≤ 1000000) : Calls Tryd.prog 107 #[va, vb] w (BPost (decide (l = m)) w) := by
  obtain ⟨a, c, rfl, ha1, ha⟩ := ha
  obtain ⟨b, d, rfl, hb1, hb⟩ := hb
  by_cases hl : l = []
  · by_cases hm : m = []
    · subst hl; subst hm
      exact f_equal0 a b 0 0 c d w (.inr ⟨rfl, rfl⟩)
    · have : m.length ≠ 0 := fun h => hm (List.eq_nil_of_length_eq_zero h)
      subst hl
      have h0 := f_equal0 a b 0 m.length c d w (.inl (Ne.symm this))
      rwa [show decide ((0 : Nat) = m.length) = decide (([] : List (Int × Int)) = m) by rw [decide_eq_false (Ne.symm this), decide_eq_false (Ne.symm hm)]] at h0
  · by_cases hm : m = []
    · have : l.length ≠ 0 := fun h => hl (List.eq_nil_of_length_eq_zero h)
      subst hm
      have h0 := f_equal0 a b l.length 0 c d w (.inl this)
      rwa [show decide (l.length = 0) = decide (l = []) by rw [decide_eq_false this, decide_eq_false hl]] at h0
    · exact f_equal _ _ l m w (ha hl) (hb hm) hll

/-- Two hashes compared. -/
theorem equal26 (w : World) (xs ys : List Int) (hx : xs.length = 32) (hy : ys.length = 32) : (Op.equalIn 10000 26 (.agg (hbs xs).toArray) (.agg (hbs ys).toArray)).run Tryd.prog w = .ok (xs == ys) w := by
  have he := Tryd.underlying5
  have ht := Tryd.underlying26
  have hsz : ∀ w, (sizeOf 5).run Tryd.prog w = .ok 1 w := fun w => by go_simp
  unfold hbs
  rw [← all_range_eq' xs ys (hx.trans hy.symm), hx, List.range_eq_range', show (10000 : Nat) = 9998 + 2 from rfl, Op.equalIn]
  simp only [Sem.run_bind, run_underlying ht, Result.andThen_ok, hsz, Std.Legacy.Range.forIn_eq_forIn_range', Std.Legacy.Range.size, Nat.sub_zero, Nat.add_sub_cancel, Nat.div_one]
  have hl : ∀ i ∈ List.range' 0 32 1, i < 32 := fun i hi => by simpa using (List.mem_range'_1.1 hi).2
  generalize List.range' 0 32 1 = l at hl ⊢
  induction l with
  | nil => simp
  | cons i l ih =>
    have hi : i < 32 := hl i (by simp)
    have px : (part 5 (xs.map (Value.int .u8)).toArray (i * 1)).run Tryd.prog w = .ok (.int .u8 (xs.getD i 0)) w := by
      simp [part, isAgg, run_underlying he, List.getD, List.getElem?_eq_getElem (show i < xs.length by omega)]
    have py : (part 5 (ys.map (Value.int .u8)).toArray (i * 1)).run Tryd.prog w = .ok (.int .u8 (ys.getD i 0)) w := by
      simp [part, isAgg, run_underlying he, List.getD, List.getElem?_eq_getElem (show i < ys.length by omega)]
    have pe : (Op.equalIn (9998 + 1) 5 (.int .u8 (xs.getD i 0)) (.int .u8 (ys.getD i 0))).run Tryd.prog w = .ok (xs.getD i 0 == ys.getD i 0) w := by
      rw [run_equalIn_int w 9998 5 .u8 .u8 _ _ he]
    simp only [List.forIn_cons, Sem.run_bind, px, py, pe, Result.andThen_ok, List.all_cons]
    cases hb : (xs.getD i 0 == ys.getD i 0)
    · simp
    · simp only [Bool.not_true, Bool.false_eq_true, if_false, Sem.run_pure, Result.andThen_ok, Bool.true_and]
      exact ih fun j hj => hl j (by simp [hj])
/-- Two heads compared. -/
def headB (x y : Rx) : Bool := decide (x.kind = y.kind ∧ x.saga = y.saga ∧ x.seq = y.seq ∧ x.step = y.step ∧ x.tr = y.tr ∧ x.bk = y.bk ∧ x.good = y.good ∧ x.gone = y.gone ∧ x.nd = y.nd ∧ x.part = y.part ∧ x.epoch = y.epoch)
theorem eql167 (x y : Rx) (w : World) : (binOp .eql 167 (.agg (headA x)) (.agg (headA y))).run Tryd.prog w = .ok (.bool (headB x y)) w := by
  have u3 := Tryd.underlying3
  have u4 := Tryd.underlying4
  have hS : Tryd.prog.underlying 167 = some (.struct (Tryd.prog.fieldsOf 167)) := by kernel_rfl
  have hp : Tryd.prog.stoodInHeld 167 = false := by kernel_rfl
  obtain ⟨kd, sg, sq, st, tr, bk, gd, nd, pt, ep, tg, ss, da, sa, gn, cm⟩ := x
  obtain ⟨kd', sg', sq', st', tr', bk', gd', nd', pt', ep', tg', ss', da', sa', gn', cm'⟩ := y
  unfold headA headB
  rw [run_eql_struct, show (10000 : Nat) = 9999 + 1 from rfl, run_equalIn_agg w 9999 167 _ _ hS hp]
  simp only [Program.fieldsOf, Tryd.underlying167]
  go_simp

  by_cases h0 : ¬ (kd = kd')
  · simp [h0]
  obtain rfl := Decidable.not_not.1 h0
  clear h0
  by_cases h1 : ¬ (sg = sg')
  · simp [h1]
  obtain rfl := Decidable.not_not.1 h1
  clear h1
  by_cases h2 : ¬ (sq = sq')
  · simp [h2]
  obtain rfl := Decidable.not_not.1 h2
  clear h2
  by_cases h3 : ¬ (st = st')
  · simp [h3]
  obtain rfl := Decidable.not_not.1 h3
  clear h3
  by_cases h4 : ¬ (tr = tr')
  · simp [h4]
  obtain rfl := Decidable.not_not.1 h4
  clear h4
  by_cases h5 : ¬ (bk = bk')
  · simp [h5]
  obtain rfl := Decidable.not_not.1 h5
  clear h5
  by_cases h6 : ¬ (gd = gd')
  · simp [h6]
  obtain rfl := Decidable.not_not.1 h6
  clear h6
  by_cases h7 : ¬ (gn = gn')
  · simp [h7]
  obtain rfl := Decidable.not_not.1 h7
  clear h7
  by_cases h8 : ¬ (nd = nd')
  · simp [h8]
  obtain rfl := Decidable.not_not.1 h8
  clear h8
  by_cases h9 : ¬ (pt = pt')
  · simp [h9]
  obtain rfl := Decidable.not_not.1 h9
  clear h9
  by_cases h10 : ¬ (ep = ep')
  · simp [h10]
  obtain rfl := Decidable.not_not.1 h10
  clear h10
  simp

/-- Are two records the same? -/
def rsameB (x y : Rx) : Bool := decide (x.steps = y.steps) && decide (x.data = y.data) && (headB x y && (x.tag == y.tag) && (x.salt == y.salt) && (x.com == y.com))
theorem rsameB_eq (x y : Rx) : rsameB x y = decide (x = y) := by
  obtain ⟨kd, sg, sq, st, tr, bk, gd, nd, pt, ep, tg, ss, da, sa, gn, cm⟩ := x
  obtain ⟨kd', sg', sq', st', tr', bk', gd', nd', pt', ep', tg', ss', da', sa', gn', cm'⟩ := y
  unfold rsameB headB
  rw [Bool.eq_iff_iff]
  simp only [Bool.and_eq_true, decide_eq_true_eq, beq_iff_eq, Rx.mk.injEq]
  constructor
  · rintro ⟨⟨rfl, rfl⟩, ⟨⟨⟨rfl, rfl, rfl, rfl, rfl, rfl, rfl, rfl, rfl, rfl, rfl⟩, rfl⟩, rfl⟩, rfl⟩; simp
  · rintro ⟨rfl, rfl, rfl, rfl, rfl, rfl, rfl, rfl, rfl, rfl, rfl, rfl, rfl, rfl, rfl, rfl⟩; simp
section
variable {ops : Array Oper} {S : World → Prop} {dst : Option Tmp} {ty : TypeId} {pos : String} {aft : Array Edge} {gd : Option (Nat × Bool)} {x y : Operand} {a : Act} {rt : TypeId} {b : Bool}
theorem yields167 {X Y : Rx} (hb : headB X Y = b) (hw : Region.wanted ⟨dst, .binOp .eql 167 x y rt, ty, pos, aft, gd⟩ (yielded ops a.tmps) = true) (hx : a.eval x = .agg (headA X)) (hy : a.eval y = .agg (headA Y)) :
    YieldsIf Tryd.prog ops S ⟨dst, .binOp .eql 167 x y rt, ty, pos, aft, gd⟩ (.bool b) a := by
  subst hb
  refine .inl ⟨hw, fun w hS => ?_⟩
  have hg : (eqGuard .eql 167 x y (.agg (headA X)) (.agg (headA Y))).run Tryd.prog w = .ok () w := run_eqGuard_agg w .eql 167 x y _ _ (by kernel_rfl)
  unfold execOp
  simp only [hx, hy, Sem.run_bind, hg, eql167, Result.andThen_ok, Sem.run_pure]
theorem yieldsEq26 {l m : List Int} (hb : (l == m) = b) (hl : l.length = 32) (hm : m.length = 32) (hw : Region.wanted ⟨dst, .binOp .eql 26 x y rt, ty, pos, aft, gd⟩ (yielded ops a.tmps) = true) (hx : a.eval x = .agg (hbs l).toArray) (hy : a.eval y = .agg (hbs m).toArray) :
    YieldsIf Tryd.prog ops S ⟨dst, .binOp .eql 26 x y rt, ty, pos, aft, gd⟩ (.bool b) a := by
  subst hb
  refine .inl ⟨hw, fun w hS => ?_⟩
  have hg : (eqGuard .eql 26 x y (.agg (hbs l).toArray) (.agg (hbs m).toArray)).run Tryd.prog w = .ok () w := run_eqGuard_agg w .eql 26 x y _ _ (by kernel_rfl)
  have he := equal26 w l m hl hm
  have hq : (binOp .eql 26 (.agg (hbs l).toArray) (.agg (hbs m).toArray)).run Tryd.prog w = .ok (.bool (l == m)) w := by rw [run_eql_struct, he]; rfl
  unfold execOp
  simp only [hx, hy, Sem.run_bind, hg, hq, Result.andThen_ok, Sem.run_pure]
end

set_option maxRecDepth 100000 in
set_option maxHeartbeats 8000000 in
theorem f_recsame (C D : Array Value) (x y : Rx) (w : World) (h : RecIn w C x) (k : RecIn w D y) (hl : x.steps.length ≤ 1000000) : Calls Tryd.prog 91 #[.agg C, .agg D] w (BPost (rsameB x y) w) := by
  have g0 := heap_alloc2_old w (.cells C 30) (.cells D 30)
  have g1 := heap_alloc2_new w (.cells C 30) (.cells D 30)
  have K2 := ((Kept.refl (fun _ => False) w).alloc (.cells C 30)).alloc (.cells D 30)
  obtain ⟨vs, hvs, hhs⟩ := h.st
  obtain ⟨us, hus, hhu⟩ := k.st
  obtain ⟨vd, hvd, hhd⟩ := h.da
  obtain ⟨ud, hud, hhe⟩ := k.da
  have HH : Hid (∀ {w' : World}, Kept (fun _ => False) ((w.alloc (.cells C 30)).alloc (.cells D 30)) w' → w'.heap[w.heap.size]? = some (.cells C 30 (0, 0)) ∧ w'.heap[w.heap.size + 1]? = some (.cells D 30 (0, 0)) ∧ Kept (fun _ => False) w w') := fun k => ⟨k.row g0, k.row g1, K2.trans k⟩
  have x42 := row_cell g0 hvs
  have y42 := row_cell g1 hus
  have HX := Lib.hid h
  have HY := Lib.hid k
  have HEQ := Lib.hid (fun (w' : World) (k : Kept (fun _ => False) w w') => f_equalH vs us x.steps y.steps w' (hhs.kept k) (hhu.kept k) hl)
  have HBE := Lib.hid (fun (w' : World) (k : Kept (fun _ => False) w w') => f_beq vd ud x.data y.data w' (hhd.kept k) (hhe.kept k))
  have HVD := Lib.hid hvd
  have HUD := Lib.hid hud
  have HK2 := Lib.hid K2
  clear h k g0 g1 K2 hvs hus hvd hud hhs hhu hhd hhe
  have E : Hid (rsameB x y = (decide (x.steps = y.steps) && decide (x.data = y.data) && (headB x y && (x.tag == y.tag) && (x.salt == y.salt) && (x.com == y.com)))) := rfl
  cases e1 : decide (x.steps = y.steps) with
  | false =>
    rw [e1] at E HEQ
    clear e1
    go_enter Tryd.func91, Tryd.ntmps91
    go_wp2_with fail
    refine (HEQ.out _ HK2.out).mono ?_
    rintro e w1 ⟨rfl, k1⟩
    have KF := Lib.hid (HK2.out.trans k1)
    go_wp2_with fail
    go_ret
    exact BPost.mk (by rw [E.out]; rfl) KF.out
  | true =>
  rw [e1, Bool.true_and] at E
  rw [e1] at HEQ
  clear e1
  cases e2 : decide (x.data = y.data) with
  | false =>
    rw [e2] at E HBE
    clear e2
    go_enter Tryd.func91, Tryd.ntmps91
    go_wp2_with fail
    refine (HEQ.out _ HK2.out).mono ?_
    rintro e w1 ⟨rfl, k1⟩
    have x43 := row_cell (HH.out k1).1 HVD.out
    have y43 := row_cell (HH.out k1).2.1 HUD.out
    have KF := Lib.hid (HK2.out.trans k1)
    go_wp2_with fail
    refine (HBE.out _ KF.out).mono ?_
    rintro e w2 ⟨rfl, rfl⟩
    go_wp2_with fail
    go_ret
    exact BPost.mk (by rw [E.out]; rfl) KF.out
  | true =>
  rw [e2, Bool.true_and] at E
  rw [e2] at HBE
  clear e2
  go_enter Tryd.func91, Tryd.ntmps91
  go_wp2_with fail
  refine (HEQ.out _ HK2.out).mono ?_
  rintro e w1 ⟨rfl, k1⟩
  have x43 := row_cell (HH.out k1).1 HVD.out
  have y43 := row_cell (HH.out k1).2.1 HUD.out
  have K1 := Lib.hid k1
  go_wp2_with fail
  refine (HBE.out _ (HK2.out.trans K1.out)).mono ?_
  rintro e w2 ⟨rfl, rfl⟩
  go_upto_region 3 with (fail)
  clear x42 y42 x43 y43
  have hd : Kept (fun _ => False) w1 w1.drew := (Kept.refl _ _).drew
  have HG : Hid (∀ {w' : World}, Kept (fun _ => False) w1 w' → w'.heap[w.heap.size]? = some (.cells C 30 (0, 0)) ∧ w'.heap[w.heap.size + 1]? = some (.cells D 30 (0, 0)) ∧ Kept (fun _ => False) w w') := fun k => HH.out (K1.out.trans k)
  clear k1 K1
  refine wp_region_held_drew (S := fun w' => Kept (fun _ => False) w1 w') (by kernel_rfl) hd (fun hHeld => ?_)
  refine wpAnyH_take (i := 0) (oi := ⟨some 19, _, _, _, _, _⟩) (v := .agg C) rfl (by kernel_rfl) (by kernel_rfl) (by kernel_rfl) (fun _ _ _ h => h) (yields30 (g := w.heap.size) (by kernel_rfl) rfl (fun w' hS => (HG.out hS).1) HX.out.size) (by assumption) ?_
  try simp only [Act.put, List.setIfInBounds_toArray, List.set_cons_succ, List.set_cons_zero]
  refine wpAnyH_take (i := 2) (oi := ⟨some 21, _, _, _, _, _⟩) (v := .agg D) rfl (by kernel_rfl) (by kernel_rfl) (by kernel_rfl) (fun _ _ _ h => h) (yields30 (g := w.heap.size + 1) (by kernel_rfl) rfl (fun w' hS => (HG.out hS).2.1) HY.out.size) (by assumption) ?_
  try simp only [Act.put, List.setIfInBounds_toArray, List.set_cons_succ, List.set_cons_zero]
  refine wpAnyH_ready (rs := [1]) (by kernel_rfl) (by simp) ?_
  refine AllReadyH.cons (o := _) rfl (fun K hK => ?_) AllReadyH.nil
  go_simp
  refine (f_head C x _ (HX.out.kept (HG.out hd).2.2)).mono ?_
  rintro e wx1 ⟨rfl, kx1⟩
  go_wp2_with fail
  have hS1 := hd.trans kx1
  refine hK.out _ _ hS1 (fun hHeld => ?_)
  clear hK K kx1
  try simp only [Act.put, List.setIfInBounds_toArray, List.set_cons_succ, List.set_cons_zero]
  refine wpAnyH_ready (rs := [3]) (by kernel_rfl) (by simp) ?_
  refine AllReadyH.cons (o := _) rfl (fun K hK => ?_) AllReadyH.nil
  go_simp
  refine (f_head D y _ (HY.out.kept (HG.out hS1).2.2)).mono ?_
  rintro e wx2 ⟨rfl, kx2⟩
  go_wp2_with fail
  have hS2 := hS1.trans kx2
  refine hK.out _ _ hS2 (fun hHeld => ?_)
  clear hK K kx2
  try simp only [Act.put, List.setIfInBounds_toArray, List.set_cons_succ, List.set_cons_zero]
  cases hb : headB x y with
  | false =>
    rw [hb] at E
    refine wpAnyH_take (i := 4) (oi := ⟨some 23, _, _, _, _, _⟩) (v := .bool false) rfl (by kernel_rfl) (by kernel_rfl) (by kernel_rfl) (fun _ _ _ h => h) (yields167 hb (by kernel_rfl) rfl rfl) (by assumption) ?_
    try simp only [Act.put, List.setIfInBounds_toArray, List.set_cons_succ, List.set_cons_zero]
    refine wpAnyH_take (i := 5) (oi := ⟨some 24, _, _, _, _, _⟩) (v := .bool false) rfl (by kernel_rfl) (by kernel_rfl) (by kernel_rfl) (fun _ _ _ h => h) (Or.inl ⟨by kernel_rfl, fun w' hS => by go_simp⟩) (by assumption) ?_
    try simp only [Act.put, List.setIfInBounds_toArray, List.set_cons_succ, List.set_cons_zero]
    refine wpAnyH_take (i := 6) (oi := ⟨some 25, _, _, _, _, _⟩) (v := undef) rfl (by kernel_rfl) (by kernel_rfl) (by kernel_rfl) (fun _ _ _ h => h) (Or.inr ⟨by kernel_rfl, rfl⟩) (by assumption) ?_
    try simp only [Act.put, List.setIfInBounds_toArray, List.set_cons_succ, List.set_cons_zero]
    refine wpAnyH_take (i := 7) (oi := ⟨some 26, _, _, _, _, _⟩) (v := undef) rfl (by kernel_rfl) (by kernel_rfl) (by kernel_rfl) (fun _ _ _ h => h) (Or.inr ⟨by kernel_rfl, rfl⟩) (by assumption) ?_
    try simp only [Act.put, List.setIfInBounds_toArray, List.set_cons_succ, List.set_cons_zero]
    refine wpAnyH_take (i := 8) (oi := ⟨some 27, _, _, _, _, _⟩) (v := undef) rfl (by kernel_rfl) (by kernel_rfl) (by kernel_rfl) (fun _ _ _ h => h) (Or.inr ⟨by kernel_rfl, rfl⟩) (by assumption) ?_
    try simp only [Act.put, List.setIfInBounds_toArray, List.set_cons_succ, List.set_cons_zero]
    refine wpAnyH_take (i := 9) (oi := ⟨some 28, _, _, _, _, _⟩) (v := undef) rfl (by kernel_rfl) (by kernel_rfl) (by kernel_rfl) (fun _ _ _ h => h) (Or.inr ⟨by kernel_rfl, rfl⟩) (by assumption) ?_
    try simp only [Act.put, List.setIfInBounds_toArray, List.set_cons_succ, List.set_cons_zero]
    refine wpAnyH_take (i := 10) (oi := ⟨some 29, _, _, _, _, _⟩) (v := undef) rfl (by kernel_rfl) (by kernel_rfl) (by kernel_rfl) (fun _ _ _ h => h) (Or.inr ⟨by kernel_rfl, rfl⟩) (by assumption) ?_
    try simp only [Act.put, List.setIfInBounds_toArray, List.set_cons_succ, List.set_cons_zero]
    refine wpAnyH_take (i := 11) (oi := ⟨some 30, _, _, _, _, _⟩) (v := .bool false) rfl (by kernel_rfl) (by kernel_rfl) (by kernel_rfl) (fun _ _ _ h => h) (Or.inl ⟨by kernel_rfl, fun w' hS => by go_simp⟩) (by assumption) ?_
    try simp only [Act.put, List.setIfInBounds_toArray, List.set_cons_succ, List.set_cons_zero]
    refine wpAnyH_take (i := 12) (oi := ⟨some 31, _, _, _, _, _⟩) (v := .bool false) rfl (by kernel_rfl) (by kernel_rfl) (by kernel_rfl) (fun _ _ _ h => h) (Or.inl ⟨by kernel_rfl, fun w' hS => by go_simp⟩) (by assumption) ?_
    try simp only [Act.put, List.setIfInBounds_toArray, List.set_cons_succ, List.set_cons_zero]
    refine wpAnyH_take (i := 13) (oi := ⟨some 32, _, _, _, _, _⟩) (v := undef) rfl (by kernel_rfl) (by kernel_rfl) (by kernel_rfl) (fun _ _ _ h => h) (Or.inr ⟨by kernel_rfl, rfl⟩) (by assumption) ?_
    try simp only [Act.put, List.setIfInBounds_toArray, List.set_cons_succ, List.set_cons_zero]
    refine wpAnyH_take (i := 14) (oi := ⟨some 33, _, _, _, _, _⟩) (v := undef) rfl (by kernel_rfl) (by kernel_rfl) (by kernel_rfl) (fun _ _ _ h => h) (Or.inr ⟨by kernel_rfl, rfl⟩) (by assumption) ?_
    try simp only [Act.put, List.setIfInBounds_toArray, List.set_cons_succ, List.set_cons_zero]
    refine wpAnyH_take (i := 15) (oi := ⟨some 34, _, _, _, _, _⟩) (v := undef) rfl (by kernel_rfl) (by kernel_rfl) (by kernel_rfl) (fun _ _ _ h => h) (Or.inr ⟨by kernel_rfl, rfl⟩) (by assumption) ?_
    try simp only [Act.put, List.setIfInBounds_toArray, List.set_cons_succ, List.set_cons_zero]
    refine wpAnyH_take (i := 16) (oi := ⟨some 35, _, _, _, _, _⟩) (v := undef) rfl (by kernel_rfl) (by kernel_rfl) (by kernel_rfl) (fun _ _ _ h => h) (Or.inr ⟨by kernel_rfl, rfl⟩) (by assumption) ?_
    try simp only [Act.put, List.setIfInBounds_toArray, List.set_cons_succ, List.set_cons_zero]
    refine wpAnyH_take (i := 17) (oi := ⟨some 36, _, _, _, _, _⟩) (v := undef) rfl (by kernel_rfl) (by kernel_rfl) (by kernel_rfl) (fun _ _ _ h => h) (Or.inr ⟨by kernel_rfl, rfl⟩) (by assumption) ?_
    try simp only [Act.put, List.setIfInBounds_toArray, List.set_cons_succ, List.set_cons_zero]
    refine wpAnyH_take (i := 18) (oi := ⟨some 37, _, _, _, _, _⟩) (v := .bool false) rfl (by kernel_rfl) (by kernel_rfl) (by kernel_rfl) (fun _ _ _ h => h) (Or.inl ⟨by kernel_rfl, fun w' hS => by go_simp⟩) (by assumption) ?_
    try simp only [Act.put, List.setIfInBounds_toArray, List.set_cons_succ, List.set_cons_zero]
    refine wpAnyH_take (i := 19) (oi := ⟨some 38, _, _, _, _, _⟩) (v := .bool false) rfl (by kernel_rfl) (by kernel_rfl) (by kernel_rfl) (fun _ _ _ h => h) (Or.inl ⟨by kernel_rfl, fun w' hS => by go_simp⟩) (by assumption) ?_
    try simp only [Act.put, List.setIfInBounds_toArray, List.set_cons_succ, List.set_cons_zero]
    refine wpAnyH_take (i := 20) (oi := ⟨some 39, _, _, _, _, _⟩) (v := undef) rfl (by kernel_rfl) (by kernel_rfl) (by kernel_rfl) (fun _ _ _ h => h) (Or.inr ⟨by kernel_rfl, rfl⟩) (by assumption) ?_
    try simp only [Act.put, List.setIfInBounds_toArray, List.set_cons_succ, List.set_cons_zero]
    refine wpAnyH_take (i := 21) (oi := ⟨some 40, _, _, _, _, _⟩) (v := undef) rfl (by kernel_rfl) (by kernel_rfl) (by kernel_rfl) (fun _ _ _ h => h) (Or.inr ⟨by kernel_rfl, rfl⟩) (by assumption) ?_
    try simp only [Act.put, List.setIfInBounds_toArray, List.set_cons_succ, List.set_cons_zero]
    refine wpAnyH_take (i := 22) (oi := ⟨some 41, _, _, _, _, _⟩) (v := undef) rfl (by kernel_rfl) (by kernel_rfl) (by kernel_rfl) (fun _ _ _ h => h) (Or.inr ⟨by kernel_rfl, rfl⟩) (by assumption) ?_
    try simp only [Act.put, List.setIfInBounds_toArray, List.set_cons_succ, List.set_cons_zero]
    refine wpAnyH_take (i := 23) (oi := ⟨some 42, _, _, _, _, _⟩) (v := undef) rfl (by kernel_rfl) (by kernel_rfl) (by kernel_rfl) (fun _ _ _ h => h) (Or.inr ⟨by kernel_rfl, rfl⟩) (by assumption) ?_
    try simp only [Act.put, List.setIfInBounds_toArray, List.set_cons_succ, List.set_cons_zero]
    refine wpAnyH_take (i := 24) (oi := ⟨some 43, _, _, _, _, _⟩) (v := undef) rfl (by kernel_rfl) (by kernel_rfl) (by kernel_rfl) (fun _ _ _ h => h) (Or.inr ⟨by kernel_rfl, rfl⟩) (by assumption) ?_
    try simp only [Act.put, List.setIfInBounds_toArray, List.set_cons_succ, List.set_cons_zero]
    refine wpAnyH_take (i := 25) (oi := ⟨some 44, _, _, _, _, _⟩) (v := .bool false) rfl (by kernel_rfl) (by kernel_rfl) (by kernel_rfl) (fun _ _ _ h => h) (Or.inl ⟨by kernel_rfl, fun w' hS => by go_simp⟩) (by assumption) ?_
    try simp only [Act.put, List.setIfInBounds_toArray, List.set_cons_succ, List.set_cons_zero]
    refine wpAnyH_take (i := 26) (oi := ⟨some 4, _, _, _, _, _⟩) (v := .bool false) rfl (by kernel_rfl) (by kernel_rfl) (by kernel_rfl) (fun _ _ _ h => h) (Or.inl ⟨by kernel_rfl, fun w' hS => by go_simp⟩) (by assumption) ?_
    try simp only [Act.put, List.setIfInBounds_toArray, List.set_cons_succ, List.set_cons_zero]
    refine wpAnyH_done (by kernel_rfl) ?_ _
    have KF := Lib.hid (HG.out hS2).2.2
    go_wp2_with fail
    go_ret
    exact BPost.mk (by rw [E.out]; rfl) KF.out
  | true =>
  rw [hb, Bool.true_and] at E
  refine wpAnyH_take (i := 4) (oi := ⟨some 23, _, _, _, _, _⟩) (v := .bool true) rfl (by kernel_rfl) (by kernel_rfl) (by kernel_rfl) (fun _ _ _ h => h) (yields167 hb (by kernel_rfl) rfl rfl) (by assumption) ?_
  try simp only [Act.put, List.setIfInBounds_toArray, List.set_cons_succ, List.set_cons_zero]
  refine wpAnyH_take (i := 5) (oi := ⟨some 24, _, _, _, _, _⟩) (v := .bool true) rfl (by kernel_rfl) (by kernel_rfl) (by kernel_rfl) (fun _ _ _ h => h) (Or.inl ⟨by kernel_rfl, fun w' hS => by go_simp⟩) (by assumption) ?_
  try simp only [Act.put, List.setIfInBounds_toArray, List.set_cons_succ, List.set_cons_zero]
  clear hb
  refine wpAnyH_take (i := 6) (oi := ⟨some 25, _, _, _, _, _⟩) (v := .pointer (some ⟨w.heap.size, 10, none⟩)) rfl (by kernel_rfl) (by kernel_rfl) (by kernel_rfl) (fun _ _ _ h => h) (Or.inl ⟨by kernel_rfl, fun w' hS => by go_simp⟩) (by assumption) ?_
  try simp only [Act.put, List.setIfInBounds_toArray, List.set_cons_succ, List.set_cons_zero]
  refine wpAnyH_take (i := 7) (oi := ⟨some 26, _, _, _, _, _⟩) (v := .agg (hbs x.tag).toArray) rfl (by kernel_rfl) (by kernel_rfl) (by kernel_rfl) (fun _ _ _ h => h) (yields26 (g := w.heap.size) (o := 10) (by kernel_rfl) rfl (fun w' hS => (HG.out hS).1) HX.out.tagl HX.out.tag) (by assumption) ?_
  try simp only [Act.put, List.setIfInBounds_toArray, List.set_cons_succ, List.set_cons_zero]
  refine wpAnyH_take (i := 8) (oi := ⟨some 27, _, _, _, _, _⟩) (v := .pointer (some ⟨w.heap.size + 1, 10, none⟩)) rfl (by kernel_rfl) (by kernel_rfl) (by kernel_rfl) (fun _ _ _ h => h) (Or.inl ⟨by kernel_rfl, fun w' hS => by go_simp⟩) (by assumption) ?_
  try simp only [Act.put, List.setIfInBounds_toArray, List.set_cons_succ, List.set_cons_zero]
  refine wpAnyH_take (i := 9) (oi := ⟨some 28, _, _, _, _, _⟩) (v := .agg (hbs y.tag).toArray) rfl (by kernel_rfl) (by kernel_rfl) (by kernel_rfl) (fun _ _ _ h => h) (yields26 (g := w.heap.size + 1) (o := 10) (by kernel_rfl) rfl (fun w' hS => (HG.out hS).2.1) HY.out.tagl HY.out.tag) (by assumption) ?_
  try simp only [Act.put, List.setIfInBounds_toArray, List.set_cons_succ, List.set_cons_zero]
  cases hb : (x.tag == y.tag) with
  | false =>
    rw [hb] at E
    refine wpAnyH_take (i := 10) (oi := ⟨some 29, _, _, _, _, _⟩) (v := .bool false) rfl (by kernel_rfl) (by kernel_rfl) (by kernel_rfl) (fun _ _ _ h => h) (yieldsEq26 hb HX.out.tagl HY.out.tagl (by kernel_rfl) rfl rfl) (by assumption) ?_
    try simp only [Act.put, List.setIfInBounds_toArray, List.set_cons_succ, List.set_cons_zero]
    refine wpAnyH_take (i := 11) (oi := ⟨some 30, _, _, _, _, _⟩) (v := .bool false) rfl (by kernel_rfl) (by kernel_rfl) (by kernel_rfl) (fun _ _ _ h => h) (Or.inl ⟨by kernel_rfl, fun w' hS => by go_simp⟩) (by assumption) ?_
    try simp only [Act.put, List.setIfInBounds_toArray, List.set_cons_succ, List.set_cons_zero]
    refine wpAnyH_take (i := 12) (oi := ⟨some 31, _, _, _, _, _⟩) (v := .bool false) rfl (by kernel_rfl) (by kernel_rfl) (by kernel_rfl) (fun _ _ _ h => h) (Or.inl ⟨by kernel_rfl, fun w' hS => by go_simp⟩) (by assumption) ?_
    try simp only [Act.put, List.setIfInBounds_toArray, List.set_cons_succ, List.set_cons_zero]
    refine wpAnyH_take (i := 13) (oi := ⟨some 32, _, _, _, _, _⟩) (v := undef) rfl (by kernel_rfl) (by kernel_rfl) (by kernel_rfl) (fun _ _ _ h => h) (Or.inr ⟨by kernel_rfl, rfl⟩) (by assumption) ?_
    try simp only [Act.put, List.setIfInBounds_toArray, List.set_cons_succ, List.set_cons_zero]
    refine wpAnyH_take (i := 14) (oi := ⟨some 33, _, _, _, _, _⟩) (v := undef) rfl (by kernel_rfl) (by kernel_rfl) (by kernel_rfl) (fun _ _ _ h => h) (Or.inr ⟨by kernel_rfl, rfl⟩) (by assumption) ?_
    try simp only [Act.put, List.setIfInBounds_toArray, List.set_cons_succ, List.set_cons_zero]
    refine wpAnyH_take (i := 15) (oi := ⟨some 34, _, _, _, _, _⟩) (v := undef) rfl (by kernel_rfl) (by kernel_rfl) (by kernel_rfl) (fun _ _ _ h => h) (Or.inr ⟨by kernel_rfl, rfl⟩) (by assumption) ?_
    try simp only [Act.put, List.setIfInBounds_toArray, List.set_cons_succ, List.set_cons_zero]
    refine wpAnyH_take (i := 16) (oi := ⟨some 35, _, _, _, _, _⟩) (v := undef) rfl (by kernel_rfl) (by kernel_rfl) (by kernel_rfl) (fun _ _ _ h => h) (Or.inr ⟨by kernel_rfl, rfl⟩) (by assumption) ?_
    try simp only [Act.put, List.setIfInBounds_toArray, List.set_cons_succ, List.set_cons_zero]
    refine wpAnyH_take (i := 17) (oi := ⟨some 36, _, _, _, _, _⟩) (v := undef) rfl (by kernel_rfl) (by kernel_rfl) (by kernel_rfl) (fun _ _ _ h => h) (Or.inr ⟨by kernel_rfl, rfl⟩) (by assumption) ?_
    try simp only [Act.put, List.setIfInBounds_toArray, List.set_cons_succ, List.set_cons_zero]
    refine wpAnyH_take (i := 18) (oi := ⟨some 37, _, _, _, _, _⟩) (v := .bool false) rfl (by kernel_rfl) (by kernel_rfl) (by kernel_rfl) (fun _ _ _ h => h) (Or.inl ⟨by kernel_rfl, fun w' hS => by go_simp⟩) (by assumption) ?_
    try simp only [Act.put, List.setIfInBounds_toArray, List.set_cons_succ, List.set_cons_zero]
    refine wpAnyH_take (i := 19) (oi := ⟨some 38, _, _, _, _, _⟩) (v := .bool false) rfl (by kernel_rfl) (by kernel_rfl) (by kernel_rfl) (fun _ _ _ h => h) (Or.inl ⟨by kernel_rfl, fun w' hS => by go_simp⟩) (by assumption) ?_
    try simp only [Act.put, List.setIfInBounds_toArray, List.set_cons_succ, List.set_cons_zero]
    refine wpAnyH_take (i := 20) (oi := ⟨some 39, _, _, _, _, _⟩) (v := undef) rfl (by kernel_rfl) (by kernel_rfl) (by kernel_rfl) (fun _ _ _ h => h) (Or.inr ⟨by kernel_rfl, rfl⟩) (by assumption) ?_
    try simp only [Act.put, List.setIfInBounds_toArray, List.set_cons_succ, List.set_cons_zero]
    refine wpAnyH_take (i := 21) (oi := ⟨some 40, _, _, _, _, _⟩) (v := undef) rfl (by kernel_rfl) (by kernel_rfl) (by kernel_rfl) (fun _ _ _ h => h) (Or.inr ⟨by kernel_rfl, rfl⟩) (by assumption) ?_
    try simp only [Act.put, List.setIfInBounds_toArray, List.set_cons_succ, List.set_cons_zero]
    refine wpAnyH_take (i := 22) (oi := ⟨some 41, _, _, _, _, _⟩) (v := undef) rfl (by kernel_rfl) (by kernel_rfl) (by kernel_rfl) (fun _ _ _ h => h) (Or.inr ⟨by kernel_rfl, rfl⟩) (by assumption) ?_
    try simp only [Act.put, List.setIfInBounds_toArray, List.set_cons_succ, List.set_cons_zero]
    refine wpAnyH_take (i := 23) (oi := ⟨some 42, _, _, _, _, _⟩) (v := undef) rfl (by kernel_rfl) (by kernel_rfl) (by kernel_rfl) (fun _ _ _ h => h) (Or.inr ⟨by kernel_rfl, rfl⟩) (by assumption) ?_
    try simp only [Act.put, List.setIfInBounds_toArray, List.set_cons_succ, List.set_cons_zero]
    refine wpAnyH_take (i := 24) (oi := ⟨some 43, _, _, _, _, _⟩) (v := undef) rfl (by kernel_rfl) (by kernel_rfl) (by kernel_rfl) (fun _ _ _ h => h) (Or.inr ⟨by kernel_rfl, rfl⟩) (by assumption) ?_
    try simp only [Act.put, List.setIfInBounds_toArray, List.set_cons_succ, List.set_cons_zero]
    refine wpAnyH_take (i := 25) (oi := ⟨some 44, _, _, _, _, _⟩) (v := .bool false) rfl (by kernel_rfl) (by kernel_rfl) (by kernel_rfl) (fun _ _ _ h => h) (Or.inl ⟨by kernel_rfl, fun w' hS => by go_simp⟩) (by assumption) ?_
    try simp only [Act.put, List.setIfInBounds_toArray, List.set_cons_succ, List.set_cons_zero]
    refine wpAnyH_take (i := 26) (oi := ⟨some 4, _, _, _, _, _⟩) (v := .bool false) rfl (by kernel_rfl) (by kernel_rfl) (by kernel_rfl) (fun _ _ _ h => h) (Or.inl ⟨by kernel_rfl, fun w' hS => by go_simp⟩) (by assumption) ?_
    try simp only [Act.put, List.setIfInBounds_toArray, List.set_cons_succ, List.set_cons_zero]
    refine wpAnyH_done (by kernel_rfl) ?_ _
    have KF := Lib.hid (HG.out hS2).2.2
    go_wp2_with fail
    go_ret
    exact BPost.mk (by rw [E.out]; rfl) KF.out
  | true =>
  rw [hb, Bool.true_and] at E
  refine wpAnyH_take (i := 10) (oi := ⟨some 29, _, _, _, _, _⟩) (v := .bool true) rfl (by kernel_rfl) (by kernel_rfl) (by kernel_rfl) (fun _ _ _ h => h) (yieldsEq26 hb HX.out.tagl HY.out.tagl (by kernel_rfl) rfl rfl) (by assumption) ?_
  try simp only [Act.put, List.setIfInBounds_toArray, List.set_cons_succ, List.set_cons_zero]
  refine wpAnyH_take (i := 11) (oi := ⟨some 30, _, _, _, _, _⟩) (v := .bool true) rfl (by kernel_rfl) (by kernel_rfl) (by kernel_rfl) (fun _ _ _ h => h) (Or.inl ⟨by kernel_rfl, fun w' hS => by go_simp⟩) (by assumption) ?_
  try simp only [Act.put, List.setIfInBounds_toArray, List.set_cons_succ, List.set_cons_zero]
  refine wpAnyH_take (i := 12) (oi := ⟨some 31, _, _, _, _, _⟩) (v := .bool true) rfl (by kernel_rfl) (by kernel_rfl) (by kernel_rfl) (fun _ _ _ h => h) (Or.inl ⟨by kernel_rfl, fun w' hS => by go_simp⟩) (by assumption) ?_
  try simp only [Act.put, List.setIfInBounds_toArray, List.set_cons_succ, List.set_cons_zero]
  clear hb
  refine wpAnyH_take (i := 13) (oi := ⟨some 32, _, _, _, _, _⟩) (v := .pointer (some ⟨w.heap.size, 44, none⟩)) rfl (by kernel_rfl) (by kernel_rfl) (by kernel_rfl) (fun _ _ _ h => h) (Or.inl ⟨by kernel_rfl, fun w' hS => by go_simp⟩) (by assumption) ?_
  try simp only [Act.put, List.setIfInBounds_toArray, List.set_cons_succ, List.set_cons_zero]
  refine wpAnyH_take (i := 14) (oi := ⟨some 33, _, _, _, _, _⟩) (v := .agg (hbs x.salt).toArray) rfl (by kernel_rfl) (by kernel_rfl) (by kernel_rfl) (fun _ _ _ h => h) (yields26 (g := w.heap.size) (o := 44) (by kernel_rfl) rfl (fun w' hS => (HG.out hS).1) HX.out.saltl HX.out.salt) (by assumption) ?_
  try simp only [Act.put, List.setIfInBounds_toArray, List.set_cons_succ, List.set_cons_zero]
  refine wpAnyH_take (i := 15) (oi := ⟨some 34, _, _, _, _, _⟩) (v := .pointer (some ⟨w.heap.size + 1, 44, none⟩)) rfl (by kernel_rfl) (by kernel_rfl) (by kernel_rfl) (fun _ _ _ h => h) (Or.inl ⟨by kernel_rfl, fun w' hS => by go_simp⟩) (by assumption) ?_
  try simp only [Act.put, List.setIfInBounds_toArray, List.set_cons_succ, List.set_cons_zero]
  refine wpAnyH_take (i := 16) (oi := ⟨some 35, _, _, _, _, _⟩) (v := .agg (hbs y.salt).toArray) rfl (by kernel_rfl) (by kernel_rfl) (by kernel_rfl) (fun _ _ _ h => h) (yields26 (g := w.heap.size + 1) (o := 44) (by kernel_rfl) rfl (fun w' hS => (HG.out hS).2.1) HY.out.saltl HY.out.salt) (by assumption) ?_
  try simp only [Act.put, List.setIfInBounds_toArray, List.set_cons_succ, List.set_cons_zero]
  cases hb : (x.salt == y.salt) with
  | false =>
    rw [hb] at E
    refine wpAnyH_take (i := 17) (oi := ⟨some 36, _, _, _, _, _⟩) (v := .bool false) rfl (by kernel_rfl) (by kernel_rfl) (by kernel_rfl) (fun _ _ _ h => h) (yieldsEq26 hb HX.out.saltl HY.out.saltl (by kernel_rfl) rfl rfl) (by assumption) ?_
    try simp only [Act.put, List.setIfInBounds_toArray, List.set_cons_succ, List.set_cons_zero]
    refine wpAnyH_take (i := 18) (oi := ⟨some 37, _, _, _, _, _⟩) (v := .bool false) rfl (by kernel_rfl) (by kernel_rfl) (by kernel_rfl) (fun _ _ _ h => h) (Or.inl ⟨by kernel_rfl, fun w' hS => by go_simp⟩) (by assumption) ?_
    try simp only [Act.put, List.setIfInBounds_toArray, List.set_cons_succ, List.set_cons_zero]
    refine wpAnyH_take (i := 19) (oi := ⟨some 38, _, _, _, _, _⟩) (v := .bool false) rfl (by kernel_rfl) (by kernel_rfl) (by kernel_rfl) (fun _ _ _ h => h) (Or.inl ⟨by kernel_rfl, fun w' hS => by go_simp⟩) (by assumption) ?_
    try simp only [Act.put, List.setIfInBounds_toArray, List.set_cons_succ, List.set_cons_zero]
    refine wpAnyH_take (i := 20) (oi := ⟨some 39, _, _, _, _, _⟩) (v := undef) rfl (by kernel_rfl) (by kernel_rfl) (by kernel_rfl) (fun _ _ _ h => h) (Or.inr ⟨by kernel_rfl, rfl⟩) (by assumption) ?_
    try simp only [Act.put, List.setIfInBounds_toArray, List.set_cons_succ, List.set_cons_zero]
    refine wpAnyH_take (i := 21) (oi := ⟨some 40, _, _, _, _, _⟩) (v := undef) rfl (by kernel_rfl) (by kernel_rfl) (by kernel_rfl) (fun _ _ _ h => h) (Or.inr ⟨by kernel_rfl, rfl⟩) (by assumption) ?_
    try simp only [Act.put, List.setIfInBounds_toArray, List.set_cons_succ, List.set_cons_zero]
    refine wpAnyH_take (i := 22) (oi := ⟨some 41, _, _, _, _, _⟩) (v := undef) rfl (by kernel_rfl) (by kernel_rfl) (by kernel_rfl) (fun _ _ _ h => h) (Or.inr ⟨by kernel_rfl, rfl⟩) (by assumption) ?_
    try simp only [Act.put, List.setIfInBounds_toArray, List.set_cons_succ, List.set_cons_zero]
    refine wpAnyH_take (i := 23) (oi := ⟨some 42, _, _, _, _, _⟩) (v := undef) rfl (by kernel_rfl) (by kernel_rfl) (by kernel_rfl) (fun _ _ _ h => h) (Or.inr ⟨by kernel_rfl, rfl⟩) (by assumption) ?_
    try simp only [Act.put, List.setIfInBounds_toArray, List.set_cons_succ, List.set_cons_zero]
    refine wpAnyH_take (i := 24) (oi := ⟨some 43, _, _, _, _, _⟩) (v := undef) rfl (by kernel_rfl) (by kernel_rfl) (by kernel_rfl) (fun _ _ _ h => h) (Or.inr ⟨by kernel_rfl, rfl⟩) (by assumption) ?_
    try simp only [Act.put, List.setIfInBounds_toArray, List.set_cons_succ, List.set_cons_zero]
    refine wpAnyH_take (i := 25) (oi := ⟨some 44, _, _, _, _, _⟩) (v := .bool false) rfl (by kernel_rfl) (by kernel_rfl) (by kernel_rfl) (fun _ _ _ h => h) (Or.inl ⟨by kernel_rfl, fun w' hS => by go_simp⟩) (by assumption) ?_
    try simp only [Act.put, List.setIfInBounds_toArray, List.set_cons_succ, List.set_cons_zero]
    refine wpAnyH_take (i := 26) (oi := ⟨some 4, _, _, _, _, _⟩) (v := .bool false) rfl (by kernel_rfl) (by kernel_rfl) (by kernel_rfl) (fun _ _ _ h => h) (Or.inl ⟨by kernel_rfl, fun w' hS => by go_simp⟩) (by assumption) ?_
    try simp only [Act.put, List.setIfInBounds_toArray, List.set_cons_succ, List.set_cons_zero]
    refine wpAnyH_done (by kernel_rfl) ?_ _
    have KF := Lib.hid (HG.out hS2).2.2
    go_wp2_with fail
    go_ret
    exact BPost.mk (by rw [E.out]; rfl) KF.out
  | true =>
  rw [hb, Bool.true_and] at E
  refine wpAnyH_take (i := 17) (oi := ⟨some 36, _, _, _, _, _⟩) (v := .bool true) rfl (by kernel_rfl) (by kernel_rfl) (by kernel_rfl) (fun _ _ _ h => h) (yieldsEq26 hb HX.out.saltl HY.out.saltl (by kernel_rfl) rfl rfl) (by assumption) ?_
  try simp only [Act.put, List.setIfInBounds_toArray, List.set_cons_succ, List.set_cons_zero]
  refine wpAnyH_take (i := 18) (oi := ⟨some 37, _, _, _, _, _⟩) (v := .bool true) rfl (by kernel_rfl) (by kernel_rfl) (by kernel_rfl) (fun _ _ _ h => h) (Or.inl ⟨by kernel_rfl, fun w' hS => by go_simp⟩) (by assumption) ?_
  try simp only [Act.put, List.setIfInBounds_toArray, List.set_cons_succ, List.set_cons_zero]
  refine wpAnyH_take (i := 19) (oi := ⟨some 38, _, _, _, _, _⟩) (v := .bool true) rfl (by kernel_rfl) (by kernel_rfl) (by kernel_rfl) (fun _ _ _ h => h) (Or.inl ⟨by kernel_rfl, fun w' hS => by go_simp⟩) (by assumption) ?_
  try simp only [Act.put, List.setIfInBounds_toArray, List.set_cons_succ, List.set_cons_zero]
  clear hb
  refine wpAnyH_take (i := 20) (oi := ⟨some 39, _, _, _, _, _⟩) (v := .pointer (some ⟨w.heap.size, 77, none⟩)) rfl (by kernel_rfl) (by kernel_rfl) (by kernel_rfl) (fun _ _ _ h => h) (Or.inl ⟨by kernel_rfl, fun w' hS => by go_simp⟩) (by assumption) ?_
  try simp only [Act.put, List.setIfInBounds_toArray, List.set_cons_succ, List.set_cons_zero]
  refine wpAnyH_take (i := 21) (oi := ⟨some 40, _, _, _, _, _⟩) (v := .agg (hbs x.com).toArray) rfl (by kernel_rfl) (by kernel_rfl) (by kernel_rfl) (fun _ _ _ h => h) (yields26 (g := w.heap.size) (o := 77) (by kernel_rfl) rfl (fun w' hS => (HG.out hS).1) HX.out.coml HX.out.com) (by assumption) ?_
  try simp only [Act.put, List.setIfInBounds_toArray, List.set_cons_succ, List.set_cons_zero]
  refine wpAnyH_take (i := 22) (oi := ⟨some 41, _, _, _, _, _⟩) (v := .pointer (some ⟨w.heap.size + 1, 77, none⟩)) rfl (by kernel_rfl) (by kernel_rfl) (by kernel_rfl) (fun _ _ _ h => h) (Or.inl ⟨by kernel_rfl, fun w' hS => by go_simp⟩) (by assumption) ?_
  try simp only [Act.put, List.setIfInBounds_toArray, List.set_cons_succ, List.set_cons_zero]
  refine wpAnyH_take (i := 23) (oi := ⟨some 42, _, _, _, _, _⟩) (v := .agg (hbs y.com).toArray) rfl (by kernel_rfl) (by kernel_rfl) (by kernel_rfl) (fun _ _ _ h => h) (yields26 (g := w.heap.size + 1) (o := 77) (by kernel_rfl) rfl (fun w' hS => (HG.out hS).2.1) HY.out.coml HY.out.com) (by assumption) ?_
  try simp only [Act.put, List.setIfInBounds_toArray, List.set_cons_succ, List.set_cons_zero]
  refine wpAnyH_take (i := 24) (oi := ⟨some 43, _, _, _, _, _⟩) (v := .bool (x.com == y.com)) rfl (by kernel_rfl) (by kernel_rfl) (by kernel_rfl) (fun _ _ _ h => h) (yieldsEq26 rfl HX.out.coml HY.out.coml (by kernel_rfl) rfl rfl) (by assumption) ?_
  try simp only [Act.put, List.setIfInBounds_toArray, List.set_cons_succ, List.set_cons_zero]
  refine wpAnyH_take (i := 25) (oi := ⟨some 44, _, _, _, _, _⟩) (v := .bool (x.com == y.com)) rfl (by kernel_rfl) (by kernel_rfl) (by kernel_rfl) (fun _ _ _ h => h) (Or.inl ⟨by kernel_rfl, fun w' hS => by go_simp⟩) (by assumption) ?_
  try simp only [Act.put, List.setIfInBounds_toArray, List.set_cons_succ, List.set_cons_zero]
  refine wpAnyH_take (i := 26) (oi := ⟨some 4, _, _, _, _, _⟩) (v := .bool (x.com == y.com)) rfl (by kernel_rfl) (by kernel_rfl) (by kernel_rfl) (fun _ _ _ h => h) (Or.inl ⟨by kernel_rfl, fun w' hS => by go_simp⟩) (by assumption) ?_
  try simp only [Act.put, List.setIfInBounds_toArray, List.set_cons_succ, List.set_cons_zero]
  refine wpAnyH_done (by kernel_rfl) ?_ _
  have KF := Lib.hid (HG.out hS2).2.2
  go_wp2_with fail
  go_ret
  exact BPost.mk (by rw [E.out]) KF.out

set_option maxRecDepth 100000 in
set_option maxHeartbeats 4000000 in
theorem f_right (C : Array Value) (x : Rx) (w : World) (h : RecIn w C x) (hl : x.steps.length ≤ 1000000) : Calls Tryd.prog 59 #[.agg C] w (BPost (rightB x) w) := by
  have g0 := heap_alloc_new w (.cells C 30)
  have K1 := (Kept.refl (fun _ => False) w).alloc (.cells C 30)
  have HX := Lib.hid (h.kept K1)
  have HR := Lib.hid (f_ranges C x)
  have HG : Hid (∀ {w' : World}, Kept (fun _ => False) (w.alloc (.cells C 30)) w' → w'.heap[w.heap.size]? = some (.cells C 30 (0, 0)) ∧ Kept (fun _ => False) w w') := fun k => ⟨k.row g0, K1.trans k⟩
  have E : Hid (rightB x = (rangesB x && decide (x = keptX x))) := rfl
  clear g0 K1 h
  go_enter Tryd.func59, Tryd.ntmps59
  go_upto_region 1 with (fail)
  generalize w.alloc (.cells C 30) = w1 at HX HG ⊢
  have hd : Kept (fun _ => False) w1 w1.drew := (Kept.refl _ _).drew
  refine wp_region_held_drew (S := fun w' => Kept (fun _ => False) w1 w') (by kernel_rfl) hd (fun hHeld => ?_)
  refine wpAnyH_take (i := 0) (oi := ⟨some 3, _, _, _, _, _⟩) (v := .agg C) rfl (by kernel_rfl) (by kernel_rfl) (by kernel_rfl) (fun _ _ _ h => h) (yields30 (g := w.heap.size) (by kernel_rfl) rfl (fun w' hS => (HG.out hS).1) HX.out.size) (by assumption) ?_
  try simp only [Act.put, List.setIfInBounds_toArray, List.set_cons_succ, List.set_cons_zero]
  refine wpAnyH_ready (rs := [1]) (by kernel_rfl) (by simp) ?_
  refine AllReadyH.cons (o := _) rfl (fun K hK => ?_) AllReadyH.nil
  go_simp
  refine (HR.out _ (HX.out.kept hd)).mono ?_
  rintro e wx1 ⟨rfl, kx1⟩
  go_wp2_with fail
  have hS1 := hd.trans kx1
  refine hK.out _ _ hS1 (fun hHeld => ?_)
  clear hK K kx1
  try simp only [Act.put, List.setIfInBounds_toArray, List.set_cons_succ, List.set_cons_zero]
  cases hr : rangesB x with
  | false =>
    rw [hr] at E
    refine wpAnyH_take (i := 2) (oi := ⟨some 5, _, _, _, _, _⟩) (v := .bool false) rfl (by kernel_rfl) (by kernel_rfl) (by kernel_rfl) (fun _ _ _ h => h) (Or.inl ⟨by kernel_rfl, fun w' hS => by go_simp⟩) (by assumption) ?_
    try simp only [Act.put, List.setIfInBounds_toArray, List.set_cons_succ, List.set_cons_zero]
    refine wpAnyH_take (i := 3) (oi := ⟨some 6, _, _, _, _, _⟩) (v := undef) rfl (by kernel_rfl) (by kernel_rfl) (by kernel_rfl) (fun _ _ _ h => h) (Or.inr ⟨by kernel_rfl, rfl⟩) (by assumption) ?_
    try simp only [Act.put, List.setIfInBounds_toArray, List.set_cons_succ, List.set_cons_zero]
    refine wpAnyH_take (i := 4) (oi := ⟨some 7, _, _, _, _, _⟩) (v := undef) rfl (by kernel_rfl) (by kernel_rfl) (by kernel_rfl) (fun _ _ _ h => h) (Or.inr ⟨by kernel_rfl, rfl⟩) (by assumption) ?_
    try simp only [Act.put, List.setIfInBounds_toArray, List.set_cons_succ, List.set_cons_zero]
    refine wpAnyH_take (i := 5) (oi := ⟨some 8, _, _, _, _, _⟩) (v := undef) rfl (by kernel_rfl) (by kernel_rfl) (by kernel_rfl) (fun _ _ _ h => h) (Or.inr ⟨by kernel_rfl, rfl⟩) (by assumption) ?_
    try simp only [Act.put, List.setIfInBounds_toArray, List.set_cons_succ, List.set_cons_zero]
    refine wpAnyH_take (i := 6) (oi := ⟨some 9, _, _, _, _, _⟩) (v := undef) rfl (by kernel_rfl) (by kernel_rfl) (by kernel_rfl) (fun _ _ _ h => h) (Or.inr ⟨by kernel_rfl, rfl⟩) (by assumption) ?_
    try simp only [Act.put, List.setIfInBounds_toArray, List.set_cons_succ, List.set_cons_zero]
    refine wpAnyH_take (i := 7) (oi := ⟨some 10, _, _, _, _, _⟩) (v := .bool false) rfl (by kernel_rfl) (by kernel_rfl) (by kernel_rfl) (fun _ _ _ h => h) (Or.inl ⟨by kernel_rfl, fun w' hS => by go_simp⟩) (by assumption) ?_
    try simp only [Act.put, List.setIfInBounds_toArray, List.set_cons_succ, List.set_cons_zero]
    refine wpAnyH_take (i := 8) (oi := ⟨some 2, _, _, _, _, _⟩) (v := .bool false) rfl (by kernel_rfl) (by kernel_rfl) (by kernel_rfl) (fun _ _ _ h => h) (Or.inl ⟨by kernel_rfl, fun w' hS => by go_simp⟩) (by assumption) ?_
    try simp only [Act.put, List.setIfInBounds_toArray, List.set_cons_succ, List.set_cons_zero]
    refine wpAnyH_done (by kernel_rfl) ?_ _
    have KF := Lib.hid (HG.out hS1).2
    go_wp2_with fail
    go_ret
    exact BPost.mk (by rw [E.out]; rfl) KF.out
  | true =>
  rw [hr, Bool.true_and] at E
  clear hr
  refine wpAnyH_take (i := 2) (oi := ⟨some 5, _, _, _, _, _⟩) (v := .bool true) rfl (by kernel_rfl) (by kernel_rfl) (by kernel_rfl) (fun _ _ _ h => h) (Or.inl ⟨by kernel_rfl, fun w' hS => by go_simp⟩) (by assumption) ?_
  try simp only [Act.put, List.setIfInBounds_toArray, List.set_cons_succ, List.set_cons_zero]
  refine wpAnyH_take (i := 3) (oi := ⟨some 6, _, _, _, _, _⟩) (v := .agg C) rfl (by kernel_rfl) (by kernel_rfl) (by kernel_rfl) (fun _ _ _ h => h) (yields30 (g := w.heap.size) (by kernel_rfl) rfl (fun w' hS => (HG.out hS).1) HX.out.size) (by assumption) ?_
  try simp only [Act.put, List.setIfInBounds_toArray, List.set_cons_succ, List.set_cons_zero]
  refine wpAnyH_take (i := 4) (oi := ⟨some 7, _, _, _, _, _⟩) (v := .agg C) rfl (by kernel_rfl) (by kernel_rfl) (by kernel_rfl) (fun _ _ _ h => h) (yields30 (g := w.heap.size) (by kernel_rfl) rfl (fun w' hS => (HG.out hS).1) HX.out.size) (by assumption) ?_
  try simp only [Act.put, List.setIfInBounds_toArray, List.set_cons_succ, List.set_cons_zero]
  refine wpAnyH_ready (rs := [5]) (by kernel_rfl) (by simp) ?_
  refine AllReadyH.cons (o := _) rfl (fun K hK => ?_) AllReadyH.nil
  go_simp
  refine (f_kept C x _ (HX.out.kept hS1)).mono ?_
  rintro e wx2 ⟨D, rfl, hD, kx2⟩
  go_wp2_with fail
  have hS2 := hS1.trans kx2
  refine hK.out _ _ hS2 (fun hHeld => ?_)
  clear hK K kx2
  try simp only [Act.put, List.setIfInBounds_toArray, List.set_cons_succ, List.set_cons_zero]
  refine wpAnyH_ready (rs := [6]) (by kernel_rfl) (by simp) ?_
  refine AllReadyH.cons (o := _) rfl (fun K hK => ?_) AllReadyH.nil
  go_simp
  refine (f_recsame C D x (keptX x) _ (HX.out.kept hS2) hD hl).mono ?_
  rintro e wx3 ⟨rfl, kx3⟩
  rw [rsameB_eq]
  go_wp2_with fail
  have hS3 := hS2.trans kx3
  refine hK.out _ _ hS3 (fun hHeld => ?_)
  clear hK K kx3
  try simp only [Act.put, List.setIfInBounds_toArray, List.set_cons_succ, List.set_cons_zero]
  refine wpAnyH_take (i := 7) (oi := ⟨some 10, _, _, _, _, _⟩) (v := .bool (decide (x = keptX x))) rfl (by kernel_rfl) (by kernel_rfl) (by kernel_rfl) (fun _ _ _ h => h) (Or.inl ⟨by kernel_rfl, fun w' hS => by go_simp⟩) (by assumption) ?_
  try simp only [Act.put, List.setIfInBounds_toArray, List.set_cons_succ, List.set_cons_zero]
  refine wpAnyH_take (i := 8) (oi := ⟨some 2, _, _, _, _, _⟩) (v := .bool (decide (x = keptX x))) rfl (by kernel_rfl) (by kernel_rfl) (by kernel_rfl) (fun _ _ _ h => h) (Or.inl ⟨by kernel_rfl, fun w' hS => by go_simp⟩) (by assumption) ?_
  try simp only [Act.put, List.setIfInBounds_toArray, List.set_cons_succ, List.set_cons_zero]
  refine wpAnyH_done (by kernel_rfl) ?_ _
  have KF := Lib.hid (HG.out hS3).2
  go_wp2_with fail
  go_ret
  exact BPost.mk (by rw [E.out]) KF.out
end Go.Proofs.YtklmhegmombegaaDoor.Re
