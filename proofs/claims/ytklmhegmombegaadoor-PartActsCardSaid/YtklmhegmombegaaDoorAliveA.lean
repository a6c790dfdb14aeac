/-
  The contract of law 10's example. Conditions: as the theorem says.
-/
import Derived.Test.YtklmhegmombegaaDoorAliveL
set_option linter.unusedVariables false
set_option linter.unusedSimpArgs false
set_option maxRecDepth 100000
namespace Go.Proofs.YtklmhegmombegaaDoor
open Go Go.RowKit Plain
open Go.Proofs.YtklmhegmombegaaDoor.Re (RecIn hbs)
open Go.Proofs.YtklmhegmombegaaDoor.Re.Plain (Rx rightB)

theorem puts_re : ∀ (vs : List Value) (C : Array Value) (o : Nat), Re.puts C o vs = puts C o vs := by
  intro vs
  induction vs with
  | nil => intro C o; rfl
  | cons v vs ih => intro C o; rw [Re.puts, puts, ih]
/-- The example's receipt, with no tag. -/
def rA : Array Value := ((((Re.Z30.setIfInBounds 0 (.int .i64 3)).setIfInBounds 2 (.int .i64 2)).setIfInBounds 4 (.int .i64 1)).setIfInBounds 6 (.bool true)).setIfInBounds 8 (.int .i64 1)
theorem rA_in (w : World) : RecIn w rA (xA true z32n) := by
  have h := ((((((Re.RecIn.zero w).set_kind 3).set_seq 2).set_tr 1).set_good true).set_part 1)
  have e : xA true z32n = { Re.Plain.Rx.zero with kind := 3, seq := 2, tr := 1, good := true, part := 1 } := by rfl
  rw [e]; exact h
theorem hbs_bys (l : List Nat) : hbs (l.map fun (n : Nat) => (n : Int)) = (ints .u8 l).toList := by simp [hbs, ints, Function.comp_def]
/-- With its tag. -/
def rT : Array Value := puts rA 10 (ints .u8 tA).toList
def rF : Array Value := rT.setIfInBounds 6 (.bool false)
theorem tA_len : tA.length = 32 := kRec_len _ _
theorem tA_all : All8 tA := kRec_all _ _
theorem rT_in (w : World) : RecIn w rT (xA true tA) := by
  have h := (rA_in w).set_tag (l := tA.map fun (n : Nat) => (n : Int)) (by rw [List.length_map]; exact tA_len)
  rw [puts_re, hbs_bys] at h
  exact h
theorem rF_in (w : World) : RecIn w rF (xA false tA) := (rT_in w).set_good false
section
variable {ops : Array Oper} {rest : List Oper} {dst : Option Tmp} {ty : TypeId} {pos : String} {aft : Array Edge} {a : Act} {w : World} {Q : Exit → Act → World → Prop}
theorem build30r (h : wpList Tryd.prog ops Q rest (a.put dst (.agg rA)) w) : wpList Tryd.prog ops Q (⟨dst, .build 30 #[(0, .const (.int .i64 3)), (2, .const (.int .i64 2)), (4, .const (.int .i64 1)), (6, .const (.bool true)), (8, .const (.int .i64 1))], ty, pos, aft, none⟩ :: rest) a w := by
  refine wpList_plain rfl fun K hK => ?_
  go_simp
  exact hK _ _ h
end
section
variable {ops : Array Oper} {dst : Option Tmp} {ty : TypeId} {pos : String} {aft : Array Edge} {gd : Option (Nat × Bool)} {a : Act} {w : World} {Q : Exit → Act → World → Prop} {K : Act → World → Prop} {E : Prop} {x : Operand} {g o : Nat} {C : Array Value}
theorem step_load40 (hw : Region.wanted ⟨dst, .load 40 x, ty, pos, aft, gd⟩ (yielded ops a.tmps) = true) (hx : a.eval x = .pointer (some ⟨g, o, none⟩)) (hr : w.rangeAt g o C.toList) (hC : C.size = 34) (h : K (a.put dst (.agg C)) w) :
    if Region.wanted ⟨dst, .load 40 x, ty, pos, aft, gd⟩ (yielded ops a.tmps) = true then Oper.wp Tryd.prog ⟨dst, .load 40 x, ty, pos, aft, gd⟩ a w K Q else E := by
  rw [if_pos hw]
  have hl := run_loadAt_mid (P := Tryd.prog) w g o 40 C.toList _ hr Tryd.underlying40 rfl (by rw [Tryd.isz40]; simp [hC])
  rw [Array.toArray_toList] at hl
  unfold Oper.wp execOp
  simp only [hx, Sem.run_bind, hl, Result.andThen_ok, Sem.run_pure]
  exact h
end
theorem HSigs.of_buf {w : World} {base : Nat} {t : TypeId} {v : Value} {l : List (Int × List Nat)} (h : Buf w base t 33 v l.length (l.flatMap sigC)) (he : ∀ s ∈ l, s.2.length = 32 ∧ All8 s.2 ∧ W64 s.1) (hl : l.length ≤ 1000) : HSigs w v l := ⟨h.rd, he, hl, fun k e => (h.lt k e).2⟩
def sA (i : Int) : Int × List Nat := (i, kSign kFew i 3 (h1 9))
theorem HSigs.of_block {w : World} {g : Nat} {C : Array Value} {t : TypeId} {l : List (Int × List Nat)} (hg : w.heap[g]? = some (.cells C t (0, 0))) (h : C.toList.take (l.length * 33) = l.flatMap sigC) (hz : l.length * 33 ≤ C.size) (he : ∀ s ∈ l, s.2.length = 32 ∧ All8 s.2 ∧ W64 s.1) (hl : l.length ≤ 1000) (c : Nat) : HSigs w (.slice (some ⟨g, 0, none⟩) l.length c) l := by
  have := Rd.of_block hg 33 l.length c hz
  rw [h] at this
  exact ⟨this, he, hl, fun k e => by simp only [Value.ownBlock, Option.some.injEq] at e; subst e; exact row_lt hg⟩
theorem HSigs.keptS {S : Nat → Prop} {w w' : World} {v : Value} {l : List (Int × List Nat)} (h : HSigs w v l) (k : Kept S w w') (hs : ∀ j, v.ownBlock = some j → ¬ S j) : HSigs w' v l := ⟨h.rd.kept k hs, h.each, h.len, fun j e => Nat.lt_of_lt_of_le (h.lt j e) k.size⟩
theorem Tryd.isz38 : (Tryd.prog.info? 38).map (·.size) = some 1 := by kernel_rfl
theorem sA_each (i : Int) (hi : W64 i) : (sA i).2.length = 32 ∧ All8 (sA i).2 ∧ W64 (sA i).1 := ⟨kSign_len _ _ _ _, kSign_all _ _ _ _, hi⟩
set_option maxRecDepth 100000 in
set_option maxHeartbeats 16000000 in
theorem f_alive (w : World) (hL : Laid w) : Calls Tryd.prog 17 #[] w (BPost true w) := by
  have HL0 := Lib.hid hL
  have HFW := Lib.hid (f_few w)
  clear hL
  go_enter Tryd.func17, Tryd.ntmps17
  go_wp2_with fail
  refine HFW.out.mono ?_
  rintro e w1 ⟨pv, wv, rfl, hk1, k1⟩
  obtain ⟨pa, pc, ep⟩ := hk1.parts.form
  obtain ⟨wa, wcp, ew⟩ := hk1.wits.form
  have ep' : pv = .slice pa 2 pc := ep
  have ew' : wv = .slice wa 3 wcp := ew
  clear ep ew
  subst ep' ew'
  have HK1 := Lib.hid hk1
  have K1 := Lib.hid k1
  clear hk1 k1 HFW
  have hneed : kFew.need = 2 := rfl
  rw [hneed]
  have hn9 : Hid ((ints .u8 (h1 9)).size = 32) := rfl
  have P9 := Lib.hid (fun sv (h : Value.oneCell' sv = true) => ptA_in (n := 3) (root := h1 9) (sv := sv) rfl (h1_all (by decide)) h)
  have PS := Lib.hid (fun sv sv' => ptA_set (n := 3) (root := h1 9) (sv := sv) (sv' := sv') rfl)
  have gk := heap_alloc_new w1 (.cells #[.slice pa 2 pc, .slice wa 3 wcp, .int .i64 2] 24)
  have kk := (Kept.refl (fun _ => False) w1).alloc (.cells #[.slice pa 2 pc, .slice wa 3 wcp, .int .i64 2] 24)
  have GK := Lib.hid gk
  have KK := Lib.hid (K1.out.trans kk)
  have HKK := Lib.hid (HK1.out.kept kk)
  clear gk kk HK1
  go_upto_region 2 with (fail)
  generalize w1.alloc (.cells #[.slice pa 2 pc, .slice wa 3 wcp, .int .i64 2] 24) = wk at *
  generalize w1.heap.size = B1 at *
  have hptz : Hid ((ptA 3 (h1 9) (.slice none 0 0)).size = 34) := (P9.out (.slice none 0 0) rfl).size
  have hpto : Hid ((ptA 3 (h1 9) (.slice none 0 0)).all (·.oneCell') = true) := (P9.out (.slice none 0 0) rfl).one
  have zp := Lib.hid (heap_alloc_new wk (.cells Z40 40))
  obtain ⟨yp, kp⟩ := alloc_set wk Z40 (ptA 3 (h1 9) (.slice none 0 0)) 40
  have YP := Lib.hid yp
  have KP := Lib.hid (KK.out.trans kp)
  have KWP := Lib.hid kp
  have GKp := Lib.hid (kp.row GK.out)
  have HKp := Lib.hid (HKK.out.kept kp)
  clear yp kp
  go_upto_region 3 with (first | fail | ((with_reducible refine build40 (tag := h1 9) ?_ rfl ?_); rfl) | (with_reducible refine alloc40 ?_) | ((with_reducible refine store40 (C := ptA 3 (h1 9) (.slice none 0 0)) ?_ ?_ zp.out Z40_size hptz.out hpto.out ?_); rfl; rfl))
  generalize (wk.alloc (.cells Z40 40)).setRow wk.heap.size (ptA 3 (h1 9) (.slice none 0 0)) = w2 at *
  have hB12 : B1 < wk.heap.size := row_lt GK.out
  have HB2 : Hid (wk.heap.size ≤ wk.heap.size) := Nat.le_refl _
  generalize hB2 : wk.heap.size = B2 at *
  clear zp
  have hL2 := HL0.out.kept KP.out
  have HS1 := Lib.hid (f_sign (.slice pa 2 pc) (.slice wa 3 wcp) (.slice none 0 0) kFew 1 3 (ptA 3 (h1 9) (.slice none 0 0)) (h1 9) w2 hL2 HKp.out (P9.out _ rfl) ⟨by decide, by decide⟩)
  rw [hneed] at HS1
  clear hL2
  have c0 := row_cell (k := 0) GKp.out rfl
  have c1 := row_cell (k := 1) GKp.out rfl
  have c2 := row_cell (k := 2) GKp.out rfl
  have hrp := range_row YP.out
  have HRP := Lib.hid hrp
  clear hrp
  go_wp2_with (first | fail | ((with_reducible refine load40 (C := ptA 3 (h1 9) (.slice none 0 0)) (g := B2) (o := 0) ?_ HRP.out hptz.out ?_); rfl))
  refine HS1.out.mono ?_
  rintro e w3 ⟨rfl, k3⟩
  have hs1 := Lib.hid (sA_each 1 ⟨by decide, by decide⟩)
  have hs0 := Lib.hid (sA_each 0 ⟨by decide, by decide⟩)
  have hc1 : Hid ((sigC (sA 1)).toArray.size = 33) := by show _ = _; simp [sigC_len hs1.out.1]
  have hc0 : Hid ((sigC (sA 0)).toArray.size = 33) := by show _ = _; simp [sigC_len hs0.out.1]
  have hl1 := Lib.hid (kSign_len kFew 1 3 (h1 9))
  have hl0 := Lib.hid (kSign_len kFew 0 3 (h1 9))
  have k4 := (Kept.refl (fun _ => False) w3).alloc (.cells (sigC (sA 1)).toArray 49)
  have K4 := Lib.hid ((KWP.out.trans k3).trans k4)
  have GK4 := Lib.hid (k4.row (k3.row GKp.out))
  have YP4 := Lib.hid (k4.row (k3.row YP.out))
  have HK4 := Lib.hid ((HKp.out.kept k3).kept k4)
  have G34 : Hid ((w3.alloc (.cells (sigC (sA 1)).toArray 49)).heap[w3.heap.size]? = some (.cells (sigC (sA 1)).toArray 49 (0, 0))) := heap_alloc_new w3 _
  have S4 : Hid (HSigs (w3.alloc (.cells (sigC (sA 1)).toArray 49)) (.slice (some ⟨w3.heap.size, 0, none⟩) 1 1) [sA 1]) := HSigs.of_block (l := [sA 1]) (heap_alloc_new w3 _) (by simp; exact List.take_of_length_le (Nat.le_of_eq (sigC_len hs1.out.1))) (by rw [hc1.out]; decide) (fun s hs => by obtain rfl := List.mem_singleton.1 hs; exact hs1.out) (by decide) 1
  have hB23 : B2 < w3.heap.size := row_lt (k3.row YP.out)
  have cp := row_cell YP4.out (P9.out _ rfl).c33
  have fp := free_of_block (j := 33) YP4.out
  clear k3 k4 c0 c1 c2 HS1 KP YP GKp HKp HRP
  have HSA1 : Hid (sA 1 = (1, kSign kFew 1 3 (h1 9))) := rfl
  have HSA0 : Hid (sA 0 = (0, kSign kFew 0 3 (h1 9))) := rfl
  go_upto_region 4 with (first | fail | ((with_reducible refine build49 (tag := kSign kFew 1 3 (h1 9)) ?_ hl1.out ?_); rfl) | ((with_reducible refine slice38 (C := (sigC (sA 1)).toArray) ?_ hc1.out ?_); rfl))
  have hsw := World.setCell_alloc_past (w := w3) (.cells (sigC (sA 1)).toArray 49) B2 33 (.slice (some ⟨w3.heap.size, 0, none⟩) 1 1) hB23
  rw [← hsw]
  clear hsw
  generalize hB3 : w3.heap.size = B3 at *
  have hg3 := S4.out
  generalize w3.alloc (.cells (sigC (sA 1)).toArray 49) = w4 at *
  have k45 := (Kept.refl (fun i => i = B2) w4).setCell (p := ⟨B2, 33, none⟩) (.inl rfl) (.slice (some ⟨B3, 0, none⟩) 1 1)
  have S5 := Lib.hid (S4.out.keptS k45 (fun j e => by simp only [Value.ownBlock, Option.some.injEq] at e; omega))
  have G35 := Lib.hid (k45.rowS (by omega) G34.out)
  have yp5 := setCell_block YP4.out (k := 33) (.slice (some ⟨B3, 0, none⟩) 1 1)
  rw [PS.out] at yp5
  have YP5 := Lib.hid yp5
  have K5 := Lib.hid (K4.out.setCell (p := ⟨B2, 33, none⟩) (.inr (by rw [hB2]; exact Nat.le_refl _)) (.slice (some ⟨B3, 0, none⟩) 1 1))
  generalize w4.setCell ⟨B2, 33, none⟩ (.slice (some ⟨B3, 0, none⟩) 1 1) = w5 at *
  clear k45 yp5 hg3 cp fp S4 YP4 K4 GK4 HK4
  have GK5 := Lib.hid (K5.out.row GK.out)
  have HK5 := Lib.hid (HKK.out.kept K5.out)
  have HL5 := Lib.hid (HL0.out.kept (KK.out.trans K5.out))
  have P1 := Lib.hid (P9.out (.slice (some ⟨B3, 0, none⟩) 1 1) rfl)
  have hp1z := Lib.hid P1.out.size
  have HC1 := Lib.hid (f_check (.slice pa 2 pc) (.slice wa 3 wcp) (.slice (some ⟨B3, 0, none⟩) 1 1) kFew 3 (ptA 3 (h1 9) (.slice (some ⟨B3, 0, none⟩) 1 1)) (h1 9) [sA 1] w5 HL5.out HK5.out P1.out S5.out)
  have hck1 : kCheck kFew 3 (h1 9) [sA 1] = 8 := check1 3 (h1 9) (by rfl)
  rw [hck1, hneed] at HC1
  have c0 := row_cell (k := 0) GK5.out rfl
  have c1 := row_cell (k := 1) GK5.out rfl
  have c2 := row_cell (k := 2) GK5.out rfl
  have hrp := range_row YP5.out
  have HRP := Lib.hid hrp
  generalize hpa1 : ptA 3 (h1 9) (.slice (some ⟨B3, 0, none⟩) 1 1) = PA1 at *
  clear hrp
  go_wp2_with (first | fail | ((with_reducible refine load40 (C := PA1) (g := B2) (o := 0) ?_ HRP.out hp1z.out ?_); rfl))
  refine HC1.out.mono ?_
  rintro e w6 ⟨rfl, k6⟩
  have K6 := Lib.hid (K5.out.trans k6)
  have YP6 := Lib.hid (k6.row YP5.out)
  have S6 := Lib.hid (S5.out.kept k6)
  have G36 := Lib.hid (k6.row G35.out)
  have GK6 := Lib.hid (K6.out.row GK.out)
  clear k6 c0 c1 c2 HRP HC1 hck1 GK5 HK5 HL5 S5 YP5 K5
  go_upto_region 5 with (fail)
  go_cut [3] (fun s3 wx => s3 = .int .i64 8 ∧ ∃ sv : Value, sv.oneCell' = true ∧ Hid (HSigs wx sv [sA 1, sA 0]) ∧ Hid (wx.heap[B2]? = some (.cells (ptA 3 (h1 9) sv) 40 (0, 0))) ∧ Hid (Kept (fun _ => False) wk wx))
  case first =>
    have k6d := (Kept.refl (fun _ => False) w6).drew
    have K7 := Lib.hid (K6.out.drew)
    have YP7 := Lib.hid (k6d.row YP6.out)
    have G37 := Lib.hid (k6d.row G36.out)
    have hS7 : w6.drew.heap[B1]? = some (.cells #[.slice pa 2 pc, .slice wa 3 wcp, .int .i64 2] 24 (0, 0)) := k6d.row GK6.out
    refine wp_region_held_drew (S := fun w' => w'.heap[B1]? = some (.cells #[.slice pa 2 pc, .slice wa 3 wcp, .int .i64 2] 24 (0, 0))) (by kernel_rfl) hS7 (fun hHeld => ?_)
    clear k6d K6 YP6 G36 S6 GK6
    generalize w6.drew = w7 at *
    have HL7 := Lib.hid (HL0.out.kept (KK.out.trans K7.out))
    have HK7 := Lib.hid (HKK.out.kept K7.out)
    have HS2 := Lib.hid (f_sign (.slice pa 2 pc) (.slice wa 3 wcp) (.slice (some ⟨B3, 0, none⟩) 1 1) kFew 0 3 PA1 (h1 9) w7 HL7.out HK7.out P1.out ⟨by decide, by decide⟩)
    rw [hneed] at HS2
    refine wpAnyH_take (i := 0) (oi := ⟨some 19, _, _, _, _, _⟩) (v := .pointer (some ⟨B2, 33, none⟩)) rfl (by kernel_rfl) (by kernel_rfl) (by kernel_rfl) (fun _ _ _ h => h) (Or.inl ⟨by kernel_rfl, fun w' hS => by go_simp⟩) (by assumption) ?_
    try simp only [Act.put, List.setIfInBounds_toArray, List.set_cons_succ, List.set_cons_zero]
    refine wpAnyH_take (i := 2) (oi := ⟨some 21, _, _, _, _, _⟩) (v := .agg #[.slice pa 2 pc, .slice wa 3 wcp, .int .i64 2]) rfl (by kernel_rfl) (by kernel_rfl) (by kernel_rfl) (fun _ _ _ h => h) (Or.inl ⟨by kernel_rfl, fun w' hS => by have c0 := row_cell (k := 0) hS rfl; have c1 := row_cell (k := 1) hS rfl; have c2 := row_cell (k := 2) hS rfl; go_simp⟩) (by assumption) ?_
    try simp only [Act.put, List.setIfInBounds_toArray, List.set_cons_succ, List.set_cons_zero]
    refine wpAnyH_ready (rs := [1, 3]) (by kernel_rfl) (by simp) ?_
    refine AllReadyH.cons (o := _) rfl (fun K hK => ?_) (AllReadyH.cons (o := _) rfl (fun K hK => ?_) (AllReadyH.nil))
    · skip
      have c33 := row_cell YP7.out P1.out.c33
      go_simp
      clear c33
      refine hK.out _ _ hS7 (fun hHeld => ?_)
      clear hK K
      try simp only [Act.put, List.setIfInBounds_toArray, List.set_cons_succ, List.set_cons_zero]
      refine wpAnyH_ready (rs := [3]) (by kernel_rfl) (by simp) ?_
      refine AllReadyH.cons (o := _) rfl (fun K hK => ?_) AllReadyH.nil
      refine step_load40 (C := PA1) (g := B2) (o := 0) (by kernel_rfl) rfl (range_row YP7.out) hp1z.out ?_
      refine hK.out _ _ hS7 (fun hHeld => ?_)
      clear hK K
      try simp only [Act.put, List.setIfInBounds_toArray, List.set_cons_succ, List.set_cons_zero]
      refine wpAnyH_ready (rs := [4]) (by kernel_rfl) (by simp) ?_
      refine AllReadyH.cons (o := _) rfl (fun K hK => ?_) AllReadyH.nil
      go_simp
      refine HS2.out.mono ?_
      rintro e w8 ⟨rfl, k8⟩
      have K8 := Lib.hid (K7.out.trans k8)
      have YP8 := Lib.hid (k8.row YP7.out)
      have G38 := Lib.hid (k8.row G37.out)
      have hS8 : w8.heap[B1]? = some (.cells #[.slice pa 2 pc, .slice wa 3 wcp, .int .i64 2] 24 (0, 0)) := K8.out.row GK.out
      clear k8
      go_wp2_with fail
      refine hK.out _ _ hS8 (fun hHeld => ?_)
      clear hK K
      try simp only [Act.put, List.setIfInBounds_toArray, List.set_cons_succ, List.set_cons_zero]
      refine wpAnyH_take (i := 5) (oi := ⟨some 24, _, _, _, _, _⟩) (v := .agg (sigC (0, kSign kFew 0 3 (h1 9))).toArray) rfl (by kernel_rfl) (by kernel_rfl) (by kernel_rfl) (fun _ _ _ h => h) (yields49b (k := 0) (tag := kSign kFew 0 3 (h1 9)) rfl hl0.out) (by assumption) ?_
      try simp only [Act.put, List.setIfInBounds_toArray, List.set_cons_succ, List.set_cons_zero]
      refine wpAnyH_ready (rs := [6]) (by kernel_rfl) (by simp) ?_
      refine AllReadyH.cons (o := _) rfl (fun K hK => ?_) AllReadyH.nil
      refine step_slice38 (C := (sigC (sA 0)).toArray) rfl hc0.out ?_
      have k9 := (Kept.refl (fun _ => False) w8).alloc (.cells (sigC (sA 0)).toArray 49)
      have K9 := Lib.hid (K8.out.trans k9)
      have YP9 := Lib.hid (k9.row YP8.out)
      have G39 := Lib.hid (k9.row G38.out)
      have hS9 : (w8.alloc (.cells (sigC (sA 0)).toArray 49)).heap[B1]? = some (.cells #[.slice pa 2 pc, .slice wa 3 wcp, .int .i64 2] 24 (0, 0)) := K9.out.row GK.out
      have hsrc9 : Hid (Src Tryd.prog 33 38 (.slice (some ⟨w8.heap.size, 0, none⟩) 1 1) 1 (sigC (sA 0)) (w8.alloc (.cells (sigC (sA 0)).toArray 49))) := by
        have h := Rd.of_block (heap_alloc_new w8 (.cells (sigC (sA 0)).toArray 49)) 33 1 1 (by rw [hc0.out]; decide)
        rw [List.toList_toArray, List.take_of_length_le (Nat.le_of_eq (sigC_len hs0.out.1))] at h
        refine h.src Tryd.underlying38 (fun u hu => ?_)
        rcases List.mem_cons.1 hu with rfl | hu
        · rfl
        · exact bys_one _ u hu
      clear k9
      refine hK.out _ _ hS9 (fun hHeld => ?_)
      clear hK K
      try simp only [Act.put, List.setIfInBounds_toArray, List.set_cons_succ, List.set_cons_zero]
      generalize w8.alloc (.cells (sigC (sA 0)).toArray 49) = w9 at *
      generalize w8.heap.size = B8 at *
      refine wpAnyH_ready (rs := [7]) (by kernel_rfl) (by simp) ?_
      refine AllReadyH.cons (o := _) rfl (fun K hK => ?_) AllReadyH.nil
      obtain ⟨i49, hi, hsz, hby, hz⟩ := info49'
      have hb9 : Buf w9 B3 49 33 (.slice (some ⟨B3, 0, none⟩) 1 1) 1 (sigC (sA 1)) :=
        ⟨sigC_len hs1.out.1, .inr ⟨B3, 1, _, rfl, Nat.le_refl _, G39.out, Nat.le_refl _, by decide, by rw [hc1.out]; decide, by simp; exact List.take_of_length_le (Nat.le_of_eq (sigC_len hs1.out.1))⟩⟩
      refine step_append_buf _ rfl (.tmp 20) (.tmp 25) 38 38 rfl B3 49 i49 (.agg Z49z) 33 40 Tryd.underlying38 hi hz hsz hby rfl (by decide) (.slice (some ⟨B3, 0, none⟩) 1 1) 1 (sigC (sA 1)) rfl hb9 (.slice (some ⟨B8, 0, none⟩) 1 1) 1 (sigC (sA 0)) rfl hsrc9.out (by decide) (by decide) (Nat.le_of_lt (row_lt G39.out)) ?_
      intro v10 w10 hb10 hg10 ho10 hn10
      show K (Act.put _ (some 26) v10) w10
      have K10 := Lib.hid (K9.out.grown hg10 (fun j hj => by have hj' : some B3 = some j := hj; simp only [Option.some.injEq] at hj'; exact .inr (by omega)))
      have YP10 : Hid (w10.heap[B2]? = some (.cells PA1 40 (0, 0))) := (hg10.block B2 (row_lt YP9.out) (fun e => by have e' : some B2 = some B3 := e; simp only [Option.some.injEq] at e'; omega)).trans YP9.out
      have HB10 := Lib.hid hb10
      have hS10 : w10.heap[B1]? = some (.cells #[.slice pa 2 pc, .slice wa 3 wcp, .int .i64 2] 24 (0, 0)) := K10.out.row GK.out
      clear hb10 hg10 ho10 hn10 hb9
      refine hK.out _ _ hS10 (fun hHeld => ?_)
      clear hK K
      try simp only [Act.put, List.setIfInBounds_toArray, List.set_cons_succ, List.set_cons_zero]
      refine wpAnyH_take (i := 8) (oi := ⟨some 27, _, _, _, _, _⟩) (v := .pointer (some ⟨B2, 33, none⟩)) rfl (by kernel_rfl) (by kernel_rfl) (by kernel_rfl) (fun _ _ _ h => h) (Or.inl ⟨by kernel_rfl, fun w' hS => by go_simp⟩) (by assumption) ?_
      try simp only [Act.put, List.setIfInBounds_toArray, List.set_cons_succ, List.set_cons_zero]
      refine wpAnyH_ready (rs := [9]) (by kernel_rfl) (by simp) ?_
      refine AllReadyH.cons (o := _) rfl (fun K hK => ?_) AllReadyH.nil
      have hv1 : v10.oneCell' = true := by obtain ⟨_, _, e, _⟩ := HB10.out.form; rw [e]; rfl
      refine step_put (v := v10) (g := B2) (o := 33) (C := PA1) (T := 40) (by kernel_rfl) rfl rfl hv1 Tryd.isz38 YP10.out (by rw [hp1z.out]; decide) ?_
      intro wn Yn kn
      have KN := Lib.hid (K10.out.trans' kn (fun i hi e => by omega))
      rw [← hpa1, PS.out] at Yn
      have HSn : HSigs wn v10 [sA 1, sA 0] := (HSigs.of_buf (l := [sA 1, sA 0]) (by simpa using HB10.out) (fun s hs => by
        simp only [List.mem_cons, List.not_mem_nil, or_false] at hs
        rcases hs with rfl | rfl
        · exact hs1.out
        · exact hs0.out) (by decide)).keptS kn (fun q e => by have := (HB10.out.lt q e).1; omega)
      have hS11 : wn.heap[B1]? = some (.cells #[.slice pa 2 pc, .slice wa 3 wcp, .int .i64 2] 24 (0, 0)) := KN.out.row GK.out
      refine hK.out _ _ hS11 (fun hHeld => ?_)
      clear hK K
      try simp only [Act.put, List.setIfInBounds_toArray, List.set_cons_succ, List.set_cons_zero]
      refine wpAnyH_done (by kernel_rfl) ?_ _
      go_wp2_with fail
      go_meet
      exact ⟨rfl, v10, hv1, HSn, Yn, KN.out⟩
    · skip
      refine step_load40 (C := PA1) (g := B2) (o := 0) (by kernel_rfl) rfl (range_row YP7.out) hp1z.out ?_
      refine hK.out _ _ hS7 (fun hHeld => ?_)
      clear hK K
      try simp only [Act.put, List.setIfInBounds_toArray, List.set_cons_succ, List.set_cons_zero]
      refine wpAnyH_ready (rs := [1, 4]) (by kernel_rfl) (by simp) ?_
      refine AllReadyH.cons (o := _) rfl (fun K hK => ?_) (AllReadyH.cons (o := _) rfl (fun K hK => ?_) (AllReadyH.nil))
      · skip
        have c33 := row_cell YP7.out P1.out.c33
        go_simp
        clear c33
        refine hK.out _ _ hS7 (fun hHeld => ?_)
        clear hK K
        try simp only [Act.put, List.setIfInBounds_toArray, List.set_cons_succ, List.set_cons_zero]
        refine wpAnyH_ready (rs := [4]) (by kernel_rfl) (by simp) ?_
        refine AllReadyH.cons (o := _) rfl (fun K hK => ?_) AllReadyH.nil
        go_simp
        refine HS2.out.mono ?_
        rintro e w8 ⟨rfl, k8⟩
        have K8 := Lib.hid (K7.out.trans k8)
        have YP8 := Lib.hid (k8.row YP7.out)
        have G38 := Lib.hid (k8.row G37.out)
        have hS8 : w8.heap[B1]? = some (.cells #[.slice pa 2 pc, .slice wa 3 wcp, .int .i64 2] 24 (0, 0)) := K8.out.row GK.out
        clear k8
        go_wp2_with fail
        refine hK.out _ _ hS8 (fun hHeld => ?_)
        clear hK K
        try simp only [Act.put, List.setIfInBounds_toArray, List.set_cons_succ, List.set_cons_zero]
        refine wpAnyH_take (i := 5) (oi := ⟨some 24, _, _, _, _, _⟩) (v := .agg (sigC (0, kSign kFew 0 3 (h1 9))).toArray) rfl (by kernel_rfl) (by kernel_rfl) (by kernel_rfl) (fun _ _ _ h => h) (yields49b (k := 0) (tag := kSign kFew 0 3 (h1 9)) rfl hl0.out) (by assumption) ?_
        try simp only [Act.put, List.setIfInBounds_toArray, List.set_cons_succ, List.set_cons_zero]
        refine wpAnyH_ready (rs := [6]) (by kernel_rfl) (by simp) ?_
        refine AllReadyH.cons (o := _) rfl (fun K hK => ?_) AllReadyH.nil
        refine step_slice38 (C := (sigC (sA 0)).toArray) rfl hc0.out ?_
        have k9 := (Kept.refl (fun _ => False) w8).alloc (.cells (sigC (sA 0)).toArray 49)
        have K9 := Lib.hid (K8.out.trans k9)
        have YP9 := Lib.hid (k9.row YP8.out)
        have G39 := Lib.hid (k9.row G38.out)
        have hS9 : (w8.alloc (.cells (sigC (sA 0)).toArray 49)).heap[B1]? = some (.cells #[.slice pa 2 pc, .slice wa 3 wcp, .int .i64 2] 24 (0, 0)) := K9.out.row GK.out
        have hsrc9 : Hid (Src Tryd.prog 33 38 (.slice (some ⟨w8.heap.size, 0, none⟩) 1 1) 1 (sigC (sA 0)) (w8.alloc (.cells (sigC (sA 0)).toArray 49))) := by
          have h := Rd.of_block (heap_alloc_new w8 (.cells (sigC (sA 0)).toArray 49)) 33 1 1 (by rw [hc0.out]; decide)
          rw [List.toList_toArray, List.take_of_length_le (Nat.le_of_eq (sigC_len hs0.out.1))] at h
          refine h.src Tryd.underlying38 (fun u hu => ?_)
          rcases List.mem_cons.1 hu with rfl | hu
          · rfl
          · exact bys_one _ u hu
        clear k9
        refine hK.out _ _ hS9 (fun hHeld => ?_)
        clear hK K
        try simp only [Act.put, List.setIfInBounds_toArray, List.set_cons_succ, List.set_cons_zero]
        generalize w8.alloc (.cells (sigC (sA 0)).toArray 49) = w9 at *
        generalize w8.heap.size = B8 at *
        refine wpAnyH_ready (rs := [7]) (by kernel_rfl) (by simp) ?_
        refine AllReadyH.cons (o := _) rfl (fun K hK => ?_) AllReadyH.nil
        obtain ⟨i49, hi, hsz, hby, hz⟩ := info49'
        have hb9 : Buf w9 B3 49 33 (.slice (some ⟨B3, 0, none⟩) 1 1) 1 (sigC (sA 1)) :=
          ⟨sigC_len hs1.out.1, .inr ⟨B3, 1, _, rfl, Nat.le_refl _, G39.out, Nat.le_refl _, by decide, by rw [hc1.out]; decide, by simp; exact List.take_of_length_le (Nat.le_of_eq (sigC_len hs1.out.1))⟩⟩
        refine step_append_buf _ rfl (.tmp 20) (.tmp 25) 38 38 rfl B3 49 i49 (.agg Z49z) 33 40 Tryd.underlying38 hi hz hsz hby rfl (by decide) (.slice (some ⟨B3, 0, none⟩) 1 1) 1 (sigC (sA 1)) rfl hb9 (.slice (some ⟨B8, 0, none⟩) 1 1) 1 (sigC (sA 0)) rfl hsrc9.out (by decide) (by decide) (Nat.le_of_lt (row_lt G39.out)) ?_
        intro v10 w10 hb10 hg10 ho10 hn10
        show K (Act.put _ (some 26) v10) w10
        have K10 := Lib.hid (K9.out.grown hg10 (fun j hj => by have hj' : some B3 = some j := hj; simp only [Option.some.injEq] at hj'; exact .inr (by omega)))
        have YP10 : Hid (w10.heap[B2]? = some (.cells PA1 40 (0, 0))) := (hg10.block B2 (row_lt YP9.out) (fun e => by have e' : some B2 = some B3 := e; simp only [Option.some.injEq] at e'; omega)).trans YP9.out
        have HB10 := Lib.hid hb10
        have hS10 : w10.heap[B1]? = some (.cells #[.slice pa 2 pc, .slice wa 3 wcp, .int .i64 2] 24 (0, 0)) := K10.out.row GK.out
        clear hb10 hg10 ho10 hn10 hb9
        refine hK.out _ _ hS10 (fun hHeld => ?_)
        clear hK K
        try simp only [Act.put, List.setIfInBounds_toArray, List.set_cons_succ, List.set_cons_zero]
        refine wpAnyH_take (i := 8) (oi := ⟨some 27, _, _, _, _, _⟩) (v := .pointer (some ⟨B2, 33, none⟩)) rfl (by kernel_rfl) (by kernel_rfl) (by kernel_rfl) (fun _ _ _ h => h) (Or.inl ⟨by kernel_rfl, fun w' hS => by go_simp⟩) (by assumption) ?_
        try simp only [Act.put, List.setIfInBounds_toArray, List.set_cons_succ, List.set_cons_zero]
        refine wpAnyH_ready (rs := [9]) (by kernel_rfl) (by simp) ?_
        refine AllReadyH.cons (o := _) rfl (fun K hK => ?_) AllReadyH.nil
        have hv1 : v10.oneCell' = true := by obtain ⟨_, _, e, _⟩ := HB10.out.form; rw [e]; rfl
        refine step_put (v := v10) (g := B2) (o := 33) (C := PA1) (T := 40) (by kernel_rfl) rfl rfl hv1 Tryd.isz38 YP10.out (by rw [hp1z.out]; decide) ?_
        intro wn Yn kn
        have KN := Lib.hid (K10.out.trans' kn (fun i hi e => by omega))
        rw [← hpa1, PS.out] at Yn
        have HSn : HSigs wn v10 [sA 1, sA 0] := (HSigs.of_buf (l := [sA 1, sA 0]) (by simpa using HB10.out) (fun s hs => by
          simp only [List.mem_cons, List.not_mem_nil, or_false] at hs
          rcases hs with rfl | rfl
          · exact hs1.out
          · exact hs0.out) (by decide)).keptS kn (fun q e => by have := (HB10.out.lt q e).1; omega)
        have hS11 : wn.heap[B1]? = some (.cells #[.slice pa 2 pc, .slice wa 3 wcp, .int .i64 2] 24 (0, 0)) := KN.out.row GK.out
        refine hK.out _ _ hS11 (fun hHeld => ?_)
        clear hK K
        try simp only [Act.put, List.setIfInBounds_toArray, List.set_cons_succ, List.set_cons_zero]
        refine wpAnyH_done (by kernel_rfl) ?_ _
        go_wp2_with fail
        go_meet
        exact ⟨rfl, v10, hv1, HSn, Yn, KN.out⟩
      · skip
        go_simp
        refine HS2.out.mono ?_
        rintro e w8 ⟨rfl, k8⟩
        have K8 := Lib.hid (K7.out.trans k8)
        have YP8 := Lib.hid (k8.row YP7.out)
        have G38 := Lib.hid (k8.row G37.out)
        have hS8 : w8.heap[B1]? = some (.cells #[.slice pa 2 pc, .slice wa 3 wcp, .int .i64 2] 24 (0, 0)) := K8.out.row GK.out
        clear k8
        go_wp2_with fail
        refine hK.out _ _ hS8 (fun hHeld => ?_)
        clear hK K
        try simp only [Act.put, List.setIfInBounds_toArray, List.set_cons_succ, List.set_cons_zero]
        refine wpAnyH_take (i := 5) (oi := ⟨some 24, _, _, _, _, _⟩) (v := .agg (sigC (0, kSign kFew 0 3 (h1 9))).toArray) rfl (by kernel_rfl) (by kernel_rfl) (by kernel_rfl) (fun _ _ _ h => h) (yields49b (k := 0) (tag := kSign kFew 0 3 (h1 9)) rfl hl0.out) (by assumption) ?_
        try simp only [Act.put, List.setIfInBounds_toArray, List.set_cons_succ, List.set_cons_zero]
        refine wpAnyH_ready (rs := [1, 6]) (by kernel_rfl) (by simp) ?_
        refine AllReadyH.cons (o := _) rfl (fun K hK => ?_) (AllReadyH.cons (o := _) rfl (fun K hK => ?_) (AllReadyH.nil))
        · skip
          have c33 := row_cell YP8.out P1.out.c33
          go_simp
          clear c33
          refine hK.out _ _ hS8 (fun hHeld => ?_)
          clear hK K
          try simp only [Act.put, List.setIfInBounds_toArray, List.set_cons_succ, List.set_cons_zero]
          refine wpAnyH_ready (rs := [6]) (by kernel_rfl) (by simp) ?_
          refine AllReadyH.cons (o := _) rfl (fun K hK => ?_) AllReadyH.nil
          refine step_slice38 (C := (sigC (sA 0)).toArray) rfl hc0.out ?_
          have k9 := (Kept.refl (fun _ => False) w8).alloc (.cells (sigC (sA 0)).toArray 49)
          have K9 := Lib.hid (K8.out.trans k9)
          have YP9 := Lib.hid (k9.row YP8.out)
          have G39 := Lib.hid (k9.row G38.out)
          have hS9 : (w8.alloc (.cells (sigC (sA 0)).toArray 49)).heap[B1]? = some (.cells #[.slice pa 2 pc, .slice wa 3 wcp, .int .i64 2] 24 (0, 0)) := K9.out.row GK.out
          have hsrc9 : Hid (Src Tryd.prog 33 38 (.slice (some ⟨w8.heap.size, 0, none⟩) 1 1) 1 (sigC (sA 0)) (w8.alloc (.cells (sigC (sA 0)).toArray 49))) := by
            have h := Rd.of_block (heap_alloc_new w8 (.cells (sigC (sA 0)).toArray 49)) 33 1 1 (by rw [hc0.out]; decide)
            rw [List.toList_toArray, List.take_of_length_le (Nat.le_of_eq (sigC_len hs0.out.1))] at h
            refine h.src Tryd.underlying38 (fun u hu => ?_)
            rcases List.mem_cons.1 hu with rfl | hu
            · rfl
            · exact bys_one _ u hu
          clear k9
          refine hK.out _ _ hS9 (fun hHeld => ?_)
          clear hK K
          try simp only [Act.put, List.setIfInBounds_toArray, List.set_cons_succ, List.set_cons_zero]
          generalize w8.alloc (.cells (sigC (sA 0)).toArray 49) = w9 at *
          generalize w8.heap.size = B8 at *
          refine wpAnyH_ready (rs := [7]) (by kernel_rfl) (by simp) ?_
          refine AllReadyH.cons (o := _) rfl (fun K hK => ?_) AllReadyH.nil
          obtain ⟨i49, hi, hsz, hby, hz⟩ := info49'
          have hb9 : Buf w9 B3 49 33 (.slice (some ⟨B3, 0, none⟩) 1 1) 1 (sigC (sA 1)) :=
            ⟨sigC_len hs1.out.1, .inr ⟨B3, 1, _, rfl, Nat.le_refl _, G39.out, Nat.le_refl _, by decide, by rw [hc1.out]; decide, by simp; exact List.take_of_length_le (Nat.le_of_eq (sigC_len hs1.out.1))⟩⟩
          refine step_append_buf _ rfl (.tmp 20) (.tmp 25) 38 38 rfl B3 49 i49 (.agg Z49z) 33 40 Tryd.underlying38 hi hz hsz hby rfl (by decide) (.slice (some ⟨B3, 0, none⟩) 1 1) 1 (sigC (sA 1)) rfl hb9 (.slice (some ⟨B8, 0, none⟩) 1 1) 1 (sigC (sA 0)) rfl hsrc9.out (by decide) (by decide) (Nat.le_of_lt (row_lt G39.out)) ?_
          intro v10 w10 hb10 hg10 ho10 hn10
          show K (Act.put _ (some 26) v10) w10
          have K10 := Lib.hid (K9.out.grown hg10 (fun j hj => by have hj' : some B3 = some j := hj; simp only [Option.some.injEq] at hj'; exact .inr (by omega)))
          have YP10 : Hid (w10.heap[B2]? = some (.cells PA1 40 (0, 0))) := (hg10.block B2 (row_lt YP9.out) (fun e => by have e' : some B2 = some B3 := e; simp only [Option.some.injEq] at e'; omega)).trans YP9.out
          have HB10 := Lib.hid hb10
          have hS10 : w10.heap[B1]? = some (.cells #[.slice pa 2 pc, .slice wa 3 wcp, .int .i64 2] 24 (0, 0)) := K10.out.row GK.out
          clear hb10 hg10 ho10 hn10 hb9
          refine hK.out _ _ hS10 (fun hHeld => ?_)
          clear hK K
          try simp only [Act.put, List.setIfInBounds_toArray, List.set_cons_succ, List.set_cons_zero]
          refine wpAnyH_take (i := 8) (oi := ⟨some 27, _, _, _, _, _⟩) (v := .pointer (some ⟨B2, 33, none⟩)) rfl (by kernel_rfl) (by kernel_rfl) (by kernel_rfl) (fun _ _ _ h => h) (Or.inl ⟨by kernel_rfl, fun w' hS => by go_simp⟩) (by assumption) ?_
          try simp only [Act.put, List.setIfInBounds_toArray, List.set_cons_succ, List.set_cons_zero]
          refine wpAnyH_ready (rs := [9]) (by kernel_rfl) (by simp) ?_
          refine AllReadyH.cons (o := _) rfl (fun K hK => ?_) AllReadyH.nil
          have hv1 : v10.oneCell' = true := by obtain ⟨_, _, e, _⟩ := HB10.out.form; rw [e]; rfl
          refine step_put (v := v10) (g := B2) (o := 33) (C := PA1) (T := 40) (by kernel_rfl) rfl rfl hv1 Tryd.isz38 YP10.out (by rw [hp1z.out]; decide) ?_
          intro wn Yn kn
          have KN := Lib.hid (K10.out.trans' kn (fun i hi e => by omega))
          rw [← hpa1, PS.out] at Yn
          have HSn : HSigs wn v10 [sA 1, sA 0] := (HSigs.of_buf (l := [sA 1, sA 0]) (by simpa using HB10.out) (fun s hs => by
            simp only [List.mem_cons, List.not_mem_nil, or_false] at hs
            rcases hs with rfl | rfl
            · exact hs1.out
            · exact hs0.out) (by decide)).keptS kn (fun q e => by have := (HB10.out.lt q e).1; omega)
          have hS11 : wn.heap[B1]? = some (.cells #[.slice pa 2 pc, .slice wa 3 wcp, .int .i64 2] 24 (0, 0)) := KN.out.row GK.out
          refine hK.out _ _ hS11 (fun hHeld => ?_)
          clear hK K
          try simp only [Act.put, List.setIfInBounds_toArray, List.set_cons_succ, List.set_cons_zero]
          refine wpAnyH_done (by kernel_rfl) ?_ _
          go_wp2_with fail
          go_meet
          exact ⟨rfl, v10, hv1, HSn, Yn, KN.out⟩
        · skip
          refine step_slice38 (C := (sigC (sA 0)).toArray) rfl hc0.out ?_
          have k9 := (Kept.refl (fun _ => False) w8).alloc (.cells (sigC (sA 0)).toArray 49)
          have K9 := Lib.hid (K8.out.trans k9)
          have YP9 := Lib.hid (k9.row YP8.out)
          have G39 := Lib.hid (k9.row G38.out)
          have hS9 : (w8.alloc (.cells (sigC (sA 0)).toArray 49)).heap[B1]? = some (.cells #[.slice pa 2 pc, .slice wa 3 wcp, .int .i64 2] 24 (0, 0)) := K9.out.row GK.out
          have hsrc9 : Hid (Src Tryd.prog 33 38 (.slice (some ⟨w8.heap.size, 0, none⟩) 1 1) 1 (sigC (sA 0)) (w8.alloc (.cells (sigC (sA 0)).toArray 49))) := by
            have h := Rd.of_block (heap_alloc_new w8 (.cells (sigC (sA 0)).toArray 49)) 33 1 1 (by rw [hc0.out]; decide)
            rw [List.toList_toArray, List.take_of_length_le (Nat.le_of_eq (sigC_len hs0.out.1))] at h
            refine h.src Tryd.underlying38 (fun u hu => ?_)
            rcases List.mem_cons.1 hu with rfl | hu
            · rfl
            · exact bys_one _ u hu
          clear k9
          refine hK.out _ _ hS9 (fun hHeld => ?_)
          clear hK K
          try simp only [Act.put, List.setIfInBounds_toArray, List.set_cons_succ, List.set_cons_zero]
          generalize w8.alloc (.cells (sigC (sA 0)).toArray 49) = w9 at *
          generalize w8.heap.size = B8 at *
          refine wpAnyH_ready (rs := [1]) (by kernel_rfl) (by simp) ?_
          refine AllReadyH.cons (o := _) rfl (fun K hK => ?_) AllReadyH.nil
          have c33 := row_cell YP9.out P1.out.c33
          go_simp
          clear c33
          refine hK.out _ _ hS9 (fun hHeld => ?_)
          clear hK K
          try simp only [Act.put, List.setIfInBounds_toArray, List.set_cons_succ, List.set_cons_zero]
          refine wpAnyH_ready (rs := [7]) (by kernel_rfl) (by simp) ?_
          refine AllReadyH.cons (o := _) rfl (fun K hK => ?_) AllReadyH.nil
          obtain ⟨i49, hi, hsz, hby, hz⟩ := info49'
          have hb9 : Buf w9 B3 49 33 (.slice (some ⟨B3, 0, none⟩) 1 1) 1 (sigC (sA 1)) :=
            ⟨sigC_len hs1.out.1, .inr ⟨B3, 1, _, rfl, Nat.le_refl _, G39.out, Nat.le_refl _, by decide, by rw [hc1.out]; decide, by simp; exact List.take_of_length_le (Nat.le_of_eq (sigC_len hs1.out.1))⟩⟩
          refine step_append_buf _ rfl (.tmp 20) (.tmp 25) 38 38 rfl B3 49 i49 (.agg Z49z) 33 40 Tryd.underlying38 hi hz hsz hby rfl (by decide) (.slice (some ⟨B3, 0, none⟩) 1 1) 1 (sigC (sA 1)) rfl hb9 (.slice (some ⟨B8, 0, none⟩) 1 1) 1 (sigC (sA 0)) rfl hsrc9.out (by decide) (by decide) (Nat.le_of_lt (row_lt G39.out)) ?_
          intro v10 w10 hb10 hg10 ho10 hn10
          show K (Act.put _ (some 26) v10) w10
          have K10 := Lib.hid (K9.out.grown hg10 (fun j hj => by have hj' : some B3 = some j := hj; simp only [Option.some.injEq] at hj'; exact .inr (by omega)))
          have YP10 : Hid (w10.heap[B2]? = some (.cells PA1 40 (0, 0))) := (hg10.block B2 (row_lt YP9.out) (fun e => by have e' : some B2 = some B3 := e; simp only [Option.some.injEq] at e'; omega)).trans YP9.out
          have HB10 := Lib.hid hb10
          have hS10 : w10.heap[B1]? = some (.cells #[.slice pa 2 pc, .slice wa 3 wcp, .int .i64 2] 24 (0, 0)) := K10.out.row GK.out
          clear hb10 hg10 ho10 hn10 hb9
          refine hK.out _ _ hS10 (fun hHeld => ?_)
          clear hK K
          try simp only [Act.put, List.setIfInBounds_toArray, List.set_cons_succ, List.set_cons_zero]
          refine wpAnyH_take (i := 8) (oi := ⟨some 27, _, _, _, _, _⟩) (v := .pointer (some ⟨B2, 33, none⟩)) rfl (by kernel_rfl) (by kernel_rfl) (by kernel_rfl) (fun _ _ _ h => h) (Or.inl ⟨by kernel_rfl, fun w' hS => by go_simp⟩) (by assumption) ?_
          try simp only [Act.put, List.setIfInBounds_toArray, List.set_cons_succ, List.set_cons_zero]
          refine wpAnyH_ready (rs := [9]) (by kernel_rfl) (by simp) ?_
          refine AllReadyH.cons (o := _) rfl (fun K hK => ?_) AllReadyH.nil
          have hv1 : v10.oneCell' = true := by obtain ⟨_, _, e, _⟩ := HB10.out.form; rw [e]; rfl
          refine step_put (v := v10) (g := B2) (o := 33) (C := PA1) (T := 40) (by kernel_rfl) rfl rfl hv1 Tryd.isz38 YP10.out (by rw [hp1z.out]; decide) ?_
          intro wn Yn kn
          have KN := Lib.hid (K10.out.trans' kn (fun i hi e => by omega))
          rw [← hpa1, PS.out] at Yn
          have HSn : HSigs wn v10 [sA 1, sA 0] := (HSigs.of_buf (l := [sA 1, sA 0]) (by simpa using HB10.out) (fun s hs => by
            simp only [List.mem_cons, List.not_mem_nil, or_false] at hs
            rcases hs with rfl | rfl
            · exact hs1.out
            · exact hs0.out) (by decide)).keptS kn (fun q e => by have := (HB10.out.lt q e).1; omega)
          have hS11 : wn.heap[B1]? = some (.cells #[.slice pa 2 pc, .slice wa 3 wcp, .int .i64 2] 24 (0, 0)) := KN.out.row GK.out
          refine hK.out _ _ hS11 (fun hHeld => ?_)
          clear hK K
          try simp only [Act.put, List.setIfInBounds_toArray, List.set_cons_succ, List.set_cons_zero]
          refine wpAnyH_done (by kernel_rfl) ?_ _
          go_wp2_with fail
          go_meet
          exact ⟨rfl, v10, hv1, HSn, Yn, KN.out⟩
  case rest =>
    obtain ⟨rfl, sv, hsv, HS8, YP8, K8⟩ := hcut
    have GK8 := Lib.hid (K8.out.row GK.out)
    have HK8 := Lib.hid (HKK.out.kept K8.out)
    have HL8 := Lib.hid (HL0.out.kept (KK.out.trans K8.out))
    have P2 := Lib.hid (P9.out sv hsv)
    have hp2z := Lib.hid P2.out.size
    have HC2 := Lib.hid (f_check (.slice pa 2 pc) (.slice wa 3 wcp) sv kFew 3 (ptA 3 (h1 9) sv) (h1 9) [sA 1, sA 0] wc HL8.out HK8.out P2.out HS8.out)
    have hck2 : kCheck kFew 3 (h1 9) [sA 1, sA 0] = 0 := check2 3 (h1 9) (by decide) (by decide)
    rw [hck2, hneed] at HC2
    have c0 := row_cell (k := 0) GK8.out rfl
    have c1 := row_cell (k := 1) GK8.out rfl
    have c2 := row_cell (k := 2) GK8.out rfl
    have hrp := range_row YP8.out
    have HRP := Lib.hid hrp
    generalize hpa2 : ptA 3 (h1 9) sv = PA2 at *
    clear hrp hpa1
    go_wp2_with (first | fail | ((with_reducible refine load40 (C := PA2) (g := B2) (o := 0) ?_ HRP.out hp2z.out ?_); rfl))
    refine HC2.out.mono ?_
    rintro e w9 ⟨rfl, k9⟩
    have K9 := Lib.hid (K8.out.trans k9)
    clear k9 c0 c1 c2 HRP HC2 hck2 GK8 HK8 HL8 HS8 YP8 K8 P2 hp2z
    go_upto_region 7 with (fail)
    have hraz : Hid (rA.size = 109) := (rA_in w9).size
    have hrao : Hid (rA.all (·.oneCell') = true) := (rA_in w9).one
    have zr := Lib.hid (heap_alloc_new w9 (.cells Z30 30))
    obtain ⟨yr, kr⟩ := alloc_set w9 Z30 rA 30
    have YR := Lib.hid yr
    have K10 := Lib.hid (K9.out.trans kr)
    clear yr kr
    go_upto_region 8 with (first | fail | (with_reducible refine build30r ?_) | (with_reducible refine alloc30 ?_) | ((with_reducible refine store30 (C := rA) ?_ ?_ zr.out Z30_size hraz.out hrao.out ?_); rfl; rfl))
    generalize (w9.alloc (.cells Z30 30)).setRow w9.heap.size rA = w10 at *
    have hB5 : wk.heap.size ≤ w9.heap.size := K9.out.size
    generalize hB5e : w9.heap.size = B5 at *
    clear zr K9
    have GK10 := Lib.hid (K10.out.row GK.out)
    have HK10 := Lib.hid (HKK.out.kept K10.out)
    have HL10 := Lib.hid (HL0.out.kept (KK.out.trans K10.out))
    have HT := Lib.hid (f_receipt (.slice pa 2 pc) (.slice wa 3 wcp) kFew rA (xA true z32n) w10 HL10.out HK10.out (rA_in w10) ⟨by decide, by decide⟩ ⟨by decide, by decide⟩)
    rw [hneed] at HT
    have htA : Hid (kRec kFew (xA true z32n) = tA) := rfl
    rw [htA.out] at HT
    have htz : Hid ((ints .u8 tA).size = 32) := by show _ = _; rw [ints_size]; exact tA_len
    have hto := Lib.hid (ints_one .u8 tA)
    have hrT : Hid (puts rA 10 (ints .u8 tA).toList = rT) := rfl
    have c0 := row_cell (k := 0) GK10.out rfl
    have c1 := row_cell (k := 1) GK10.out rfl
    have c2 := row_cell (k := 2) GK10.out rfl
    have hrp := range_row YR.out
    have HRP := Lib.hid hrp
    generalize ints .u8 tA = TA at *
    clear hrp htA
    go_wp2_with (first | fail | ((with_reducible refine load30 (C := rA) (g := B5) (o := 0) ?_ HRP.out hraz.out ?_); rfl))
    refine HT.out.mono ?_
    rintro e w11 ⟨rfl, k11⟩
    have K11 := Lib.hid (K10.out.trans k11)
    have YR11 := Lib.hid (k11.row YR.out)
    clear k11 c0 c1 c2 HRP HT GK10 HK10 HL10 YR K10
    have h42 : Hid (10 + 32 ≤ rA.size) := by show _ ≤ _; rw [hraz.out]; decide
    go_upto_region 9 with (first | fail | ((with_reducible refine put26 (C := TA) (g := B5) (o := 10) ?_ ?_ htz.out hto.out YR11.out h42.out ?_); rfl; rfl; intro w12 yy12 kk12))
    rw [hrT.out] at yy12
    have YR12 := Lib.hid yy12
    have K12 := Lib.hid (K11.out.trans' kk12 (fun i hi e => by omega))
    clear yy12 kk12 YR11 K11 h42 hraz hrao htz hto hrT
    have hrtz : Hid (rT.size = 109) := (rT_in w12).size
    have hrto : Hid (rT.all (·.oneCell') = true) := (rT_in w12).one
    have zf := Lib.hid (heap_alloc_new w12 (.cells Z30 30))
    obtain ⟨yf, kf⟩ := alloc_set w12 Z30 rT 30
    have YF := Lib.hid yf
    have K13 := Lib.hid (K12.out.trans kf)
    have YR13 := Lib.hid (kf.row YR12.out)
    have hrp := range_row YR12.out
    have HRP := Lib.hid hrp
    have hB56 : B5 < w12.heap.size := row_lt YR12.out
    clear yf kf hrp
    go_upto_region 10 with (first | fail | ((with_reducible refine load30 (C := rT) (g := B5) (o := 0) ?_ HRP.out hrtz.out ?_); rfl) | (with_reducible refine alloc30 ?_) | ((with_reducible refine store30 (C := rT) ?_ ?_ zf.out Z30_size hrtz.out hrto.out ?_); rfl; rfl))
    generalize (w12.alloc (.cells Z30 30)).setRow w12.heap.size rT = w13 at *
    generalize hB6e : w12.heap.size = B6 at *
    clear zf HRP YR12
    have c6 := row_cell YF.out (rT_in w13).c6
    have f6 := free_of_block (j := 6) YF.out
    have hBk : wk.heap.size ≤ w12.heap.size := K12.out.size
    go_upto_region 11 with (fail)
    have yf14 := setCell_block YF.out (k := 6) (.bool false)
    have hrF : rT.setIfInBounds 6 (.bool false) = rF := rfl
    rw [hrF] at yf14
    have YF14 := Lib.hid yf14
    have K14 := Lib.hid (K13.out.setCell (p := ⟨B6, 6, none⟩) (.inr (by show wk.heap.size ≤ B6; omega)) (.bool false))
    have YR14 : Hid ((w13.setCell ⟨B6, 6, none⟩ (.bool false)).heap[B5]? = some (.cells rT 30 (0, 0))) := (setCell_heap_other _ _ _ _ (by show B5 ≠ B6; omega)).trans YR13.out
    generalize w13.setCell ⟨B6, 6, none⟩ (.bool false) = w14 at *
    clear yf14 hrF c6 f6 YF K13 YR13 K12
    have hrfz : Hid (rF.size = 109) := (rF_in w14).size
    have k14d := (Kept.refl (fun _ => False) w14).drew
    have K15 := Lib.hid (K14.out.drew)
    have hS15 : w14.drew.heap[B1]? = some (.cells #[.slice pa 2 pc, .slice wa 3 wcp, .int .i64 2] 24 (0, 0)) ∧ w14.drew.heap[B5]? = some (.cells rT 30 (0, 0)) ∧ w14.drew.heap[B6]? = some (.cells rF 30 (0, 0)) := ⟨K15.out.row GK.out, k14d.row YR14.out, k14d.row YF14.out⟩
    refine wp_region_held_drew (S := fun w' => w'.heap[B1]? = some (.cells #[.slice pa 2 pc, .slice wa 3 wcp, .int .i64 2] 24 (0, 0)) ∧ w'.heap[B5]? = some (.cells rT 30 (0, 0)) ∧ w'.heap[B6]? = some (.cells rF 30 (0, 0))) (by kernel_rfl) hS15 (fun hHeld => ?_)
    clear k14d YR14 YF14 K14
    generalize w14.drew = w15 at *
    have HIK : Hid (∀ wz, Kept (fun _ => False) wk wz → KyIn wz (.slice pa 2 pc) (.slice wa 3 wcp) kFew) := fun wz kz => HKK.out.kept kz
    have HIL : Hid (∀ wz, Kept (fun _ => False) wk wz → Laid wz) := fun wz kz => HL0.out.kept (KK.out.trans kz)
    have hne : Hid ((!decide (kPart kFew 0 1 = kPart kFew 0 2)) = true) := by show _ = _; rw [decide_eq_false kPart_ne]; rfl
    have hp01 := Lib.hid (kPart_len kFew 0 1)
    have hp02 := Lib.hid (kPart_len kFew 0 2)
    refine wpAnyH_take (i := 0) (oi := ⟨some 38, _, _, _, _, _⟩) (v := .int .i64 8) rfl (by kernel_rfl) (by kernel_rfl) (by kernel_rfl) (fun _ _ _ h => h) (Or.inl ⟨by kernel_rfl, fun w' hS => by go_simp⟩) (by assumption) ?_
    try simp only [Act.put, List.setIfInBounds_toArray, List.set_cons_succ, List.set_cons_zero]
    refine wpAnyH_take (i := 1) (oi := ⟨some 39, _, _, _, _, _⟩) (v := .bool true) rfl (by kernel_rfl) (by kernel_rfl) (by kernel_rfl) (fun _ _ _ h => h) (Or.inl ⟨by kernel_rfl, fun w' hS => by go_simp⟩) (by assumption) ?_
    try simp only [Act.put, List.setIfInBounds_toArray, List.set_cons_succ, List.set_cons_zero]
    refine wpAnyH_take (i := 2) (oi := ⟨some 40, _, _, _, _, _⟩) (v := .bool true) rfl (by kernel_rfl) (by kernel_rfl) (by kernel_rfl) (fun _ _ _ h => h) (Or.inl ⟨by kernel_rfl, fun w' hS => by go_simp⟩) (by assumption) ?_
    try simp only [Act.put, List.setIfInBounds_toArray, List.set_cons_succ, List.set_cons_zero]
    refine wpAnyH_take (i := 3) (oi := ⟨some 41, _, _, _, _, _⟩) (v := .int .i64 0) rfl (by kernel_rfl) (by kernel_rfl) (by kernel_rfl) (fun _ _ _ h => h) (Or.inl ⟨by kernel_rfl, fun w' hS => by go_simp⟩) (by assumption) ?_
    try simp only [Act.put, List.setIfInBounds_toArray, List.set_cons_succ, List.set_cons_zero]
    refine wpAnyH_take (i := 4) (oi := ⟨some 42, _, _, _, _, _⟩) (v := .bool true) rfl (by kernel_rfl) (by kernel_rfl) (by kernel_rfl) (fun _ _ _ h => h) (Or.inl ⟨by kernel_rfl, fun w' hS => by go_simp⟩) (by assumption) ?_
    try simp only [Act.put, List.setIfInBounds_toArray, List.set_cons_succ, List.set_cons_zero]
    refine wpAnyH_take (i := 5) (oi := ⟨some 43, _, _, _, _, _⟩) (v := .bool true) rfl (by kernel_rfl) (by kernel_rfl) (by kernel_rfl) (fun _ _ _ h => h) (Or.inl ⟨by kernel_rfl, fun w' hS => by go_simp⟩) (by assumption) ?_
    try simp only [Act.put, List.setIfInBounds_toArray, List.set_cons_succ, List.set_cons_zero]
    refine wpAnyH_take (i := 6) (oi := ⟨some 44, _, _, _, _, _⟩) (v := .bool true) rfl (by kernel_rfl) (by kernel_rfl) (by kernel_rfl) (fun _ _ _ h => h) (Or.inl ⟨by kernel_rfl, fun w' hS => by go_simp⟩) (by assumption) ?_
    try simp only [Act.put, List.setIfInBounds_toArray, List.set_cons_succ, List.set_cons_zero]
    refine wpAnyH_take (i := 7) (oi := ⟨some 45, _, _, _, _, _⟩) (v := .agg #[.slice pa 2 pc, .slice wa 3 wcp, .int .i64 2]) rfl (by kernel_rfl) (by kernel_rfl) (by kernel_rfl) (fun _ _ _ h => h) (Or.inl ⟨by kernel_rfl, fun w' hS => by have c0 := row_cell (k := 0) hS.1 rfl; have c1 := row_cell (k := 1) hS.1 rfl; have c2 := row_cell (k := 2) hS.1 rfl; go_simp⟩) (by assumption) ?_
    try simp only [Act.put, List.setIfInBounds_toArray, List.set_cons_succ, List.set_cons_zero]
    refine wpAnyH_ready (rs := [8]) (by kernel_rfl) (by simp) ?_
    refine AllReadyH.cons (o := _) rfl (fun K hK => ?_) AllReadyH.nil
    have HF := f_may (.slice pa 2 pc) (.slice wa 3 wcp) kFew _ (HIK.out _ K15.out)
    rw [kMay_few, hneed] at HF
    have HFH := Lib.hid HF
    clear HF
    go_simp
    refine HFH.out.mono ?_
    rintro e w16 ⟨rfl, k16⟩
    have K16 := Lib.hid (K15.out.trans k16)
    have hS16 : w16.heap[B1]? = some (.cells #[.slice pa 2 pc, .slice wa 3 wcp, .int .i64 2] 24 (0, 0)) ∧ w16.heap[B5]? = some (.cells rT 30 (0, 0)) ∧ w16.heap[B6]? = some (.cells rF 30 (0, 0)) := ⟨k16.row hS15.1, k16.row hS15.2.1, k16.row hS15.2.2⟩
    clear k16 HFH
    go_wp2_with fail
    refine hK.out _ _ hS16 (fun hHeld => ?_)
    clear hK K
    try simp only [Act.put, List.setIfInBounds_toArray, List.set_cons_succ, List.set_cons_zero]
    refine wpAnyH_take (i := 9) (oi := ⟨some 47, _, _, _, _, _⟩) (v := .bool true) rfl (by kernel_rfl) (by kernel_rfl) (by kernel_rfl) (fun _ _ _ h => h) (Or.inl ⟨by kernel_rfl, fun w' hS => by go_simp⟩) (by assumption) ?_
    try simp only [Act.put, List.setIfInBounds_toArray, List.set_cons_succ, List.set_cons_zero]
    refine wpAnyH_take (i := 10) (oi := ⟨some 48, _, _, _, _, _⟩) (v := .bool true) rfl (by kernel_rfl) (by kernel_rfl) (by kernel_rfl) (fun _ _ _ h => h) (Or.inl ⟨by kernel_rfl, fun w' hS => by go_simp⟩) (by assumption) ?_
    try simp only [Act.put, List.setIfInBounds_toArray, List.set_cons_succ, List.set_cons_zero]
    refine wpAnyH_take (i := 11) (oi := ⟨some 49, _, _, _, _, _⟩) (v := .agg #[.slice pa 2 pc, .slice wa 3 wcp, .int .i64 2]) rfl (by kernel_rfl) (by kernel_rfl) (by kernel_rfl) (fun _ _ _ h => h) (Or.inl ⟨by kernel_rfl, fun w' hS => by have c0 := row_cell (k := 0) hS.1 rfl; have c1 := row_cell (k := 1) hS.1 rfl; have c2 := row_cell (k := 2) hS.1 rfl; go_simp⟩) (by assumption) ?_
    try simp only [Act.put, List.setIfInBounds_toArray, List.set_cons_succ, List.set_cons_zero]
    refine wpAnyH_take (i := 12) (oi := ⟨some 50, _, _, _, _, _⟩) (v := .agg rT) rfl (by kernel_rfl) (by kernel_rfl) (by kernel_rfl) (fun _ _ _ h => h) (yields30 (C := rT) (g := B5) (o := 0) (by kernel_rfl) rfl (fun w hS => range_row hS.2.1) hrtz.out) (by assumption) ?_
    try simp only [Act.put, List.setIfInBounds_toArray, List.set_cons_succ, List.set_cons_zero]
    refine wpAnyH_ready (rs := [13]) (by kernel_rfl) (by simp) ?_
    refine AllReadyH.cons (o := _) rfl (fun K hK => ?_) AllReadyH.nil
    have HF := f_holds (.slice pa 2 pc) (.slice wa 3 wcp) kFew rT (xA true tA) tA w16 (HIL.out _ K16.out) (HIK.out _ K16.out) (rT_in _) ⟨by decide, by decide⟩ ⟨by decide, by decide⟩ (by decide) rfl tA_all
    rw [holds_xA, hneed] at HF
    have HFH := Lib.hid HF
    clear HF
    go_simp
    refine HFH.out.mono ?_
    rintro e w17 ⟨rfl, k17⟩
    have K17 := Lib.hid (K16.out.trans k17)
    have hS17 : w17.heap[B1]? = some (.cells #[.slice pa 2 pc, .slice wa 3 wcp, .int .i64 2] 24 (0, 0)) ∧ w17.heap[B5]? = some (.cells rT 30 (0, 0)) ∧ w17.heap[B6]? = some (.cells rF 30 (0, 0)) := ⟨k17.row hS16.1, k17.row hS16.2.1, k17.row hS16.2.2⟩
    clear k17 HFH
    go_wp2_with fail
    refine hK.out _ _ hS17 (fun hHeld => ?_)
    clear hK K
    try simp only [Act.put, List.setIfInBounds_toArray, List.set_cons_succ, List.set_cons_zero]
    refine wpAnyH_take (i := 14) (oi := ⟨some 52, _, _, _, _, _⟩) (v := .bool true) rfl (by kernel_rfl) (by kernel_rfl) (by kernel_rfl) (fun _ _ _ h => h) (Or.inl ⟨by kernel_rfl, fun w' hS => by go_simp⟩) (by assumption) ?_
    try simp only [Act.put, List.setIfInBounds_toArray, List.set_cons_succ, List.set_cons_zero]
    refine wpAnyH_take (i := 15) (oi := ⟨some 53, _, _, _, _, _⟩) (v := .bool true) rfl (by kernel_rfl) (by kernel_rfl) (by kernel_rfl) (fun _ _ _ h => h) (Or.inl ⟨by kernel_rfl, fun w' hS => by go_simp⟩) (by assumption) ?_
    try simp only [Act.put, List.setIfInBounds_toArray, List.set_cons_succ, List.set_cons_zero]
    refine wpAnyH_take (i := 16) (oi := ⟨some 54, _, _, _, _, _⟩) (v := .agg #[.slice pa 2 pc, .slice wa 3 wcp, .int .i64 2]) rfl (by kernel_rfl) (by kernel_rfl) (by kernel_rfl) (fun _ _ _ h => h) (Or.inl ⟨by kernel_rfl, fun w' hS => by have c0 := row_cell (k := 0) hS.1 rfl; have c1 := row_cell (k := 1) hS.1 rfl; have c2 := row_cell (k := 2) hS.1 rfl; go_simp⟩) (by assumption) ?_
    try simp only [Act.put, List.setIfInBounds_toArray, List.set_cons_succ, List.set_cons_zero]
    refine wpAnyH_take (i := 17) (oi := ⟨some 55, _, _, _, _, _⟩) (v := .agg rF) rfl (by kernel_rfl) (by kernel_rfl) (by kernel_rfl) (fun _ _ _ h => h) (yields30 (C := rF) (g := B6) (o := 0) (by kernel_rfl) rfl (fun w hS => range_row hS.2.2) hrfz.out) (by assumption) ?_
    try simp only [Act.put, List.setIfInBounds_toArray, List.set_cons_succ, List.set_cons_zero]
    refine wpAnyH_ready (rs := [18]) (by kernel_rfl) (by simp) ?_
    refine AllReadyH.cons (o := _) rfl (fun K hK => ?_) AllReadyH.nil
    have HF := f_holds (.slice pa 2 pc) (.slice wa 3 wcp) kFew rF (xA false tA) tA w17 (HIL.out _ K17.out) (HIK.out _ K17.out) (rF_in _) ⟨by decide, by decide⟩ ⟨by decide, by decide⟩ (by decide) rfl tA_all
    rw [holds_yA, hneed] at HF
    have HFH := Lib.hid HF
    clear HF
    go_simp
    refine HFH.out.mono ?_
    rintro e w18 ⟨rfl, k18⟩
    have K18 := Lib.hid (K17.out.trans k18)
    have hS18 : w18.heap[B1]? = some (.cells #[.slice pa 2 pc, .slice wa 3 wcp, .int .i64 2] 24 (0, 0)) ∧ w18.heap[B5]? = some (.cells rT 30 (0, 0)) ∧ w18.heap[B6]? = some (.cells rF 30 (0, 0)) := ⟨k18.row hS17.1, k18.row hS17.2.1, k18.row hS17.2.2⟩
    clear k18 HFH
    go_wp2_with fail
    refine hK.out _ _ hS18 (fun hHeld => ?_)
    clear hK K
    try simp only [Act.put, List.setIfInBounds_toArray, List.set_cons_succ, List.set_cons_zero]
    refine wpAnyH_take (i := 19) (oi := ⟨some 57, _, _, _, _, _⟩) (v := .bool true) rfl (by kernel_rfl) (by kernel_rfl) (by kernel_rfl) (fun _ _ _ h => h) (Or.inl ⟨by kernel_rfl, fun w' hS => by go_simp⟩) (by assumption) ?_
    try simp only [Act.put, List.setIfInBounds_toArray, List.set_cons_succ, List.set_cons_zero]
    refine wpAnyH_take (i := 20) (oi := ⟨some 58, _, _, _, _, _⟩) (v := .bool true) rfl (by kernel_rfl) (by kernel_rfl) (by kernel_rfl) (fun _ _ _ h => h) (Or.inl ⟨by kernel_rfl, fun w' hS => by go_simp⟩) (by assumption) ?_
    try simp only [Act.put, List.setIfInBounds_toArray, List.set_cons_succ, List.set_cons_zero]
    refine wpAnyH_take (i := 21) (oi := ⟨some 59, _, _, _, _, _⟩) (v := .bool true) rfl (by kernel_rfl) (by kernel_rfl) (by kernel_rfl) (fun _ _ _ h => h) (Or.inl ⟨by kernel_rfl, fun w' hS => by go_simp⟩) (by assumption) ?_
    try simp only [Act.put, List.setIfInBounds_toArray, List.set_cons_succ, List.set_cons_zero]
    refine wpAnyH_take (i := 22) (oi := ⟨some 60, _, _, _, _, _⟩) (v := .agg #[.slice pa 2 pc, .slice wa 3 wcp, .int .i64 2]) rfl (by kernel_rfl) (by kernel_rfl) (by kernel_rfl) (fun _ _ _ h => h) (Or.inl ⟨by kernel_rfl, fun w' hS => by have c0 := row_cell (k := 0) hS.1 rfl; have c1 := row_cell (k := 1) hS.1 rfl; have c2 := row_cell (k := 2) hS.1 rfl; go_simp⟩) (by assumption) ?_
    try simp only [Act.put, List.setIfInBounds_toArray, List.set_cons_succ, List.set_cons_zero]
    refine wpAnyH_take (i := 24) (oi := ⟨some 62, _, _, _, _, _⟩) (v := .agg #[.slice pa 2 pc, .slice wa 3 wcp, .int .i64 2]) rfl (by kernel_rfl) (by kernel_rfl) (by kernel_rfl) (fun _ _ _ h => h) (Or.inl ⟨by kernel_rfl, fun w' hS => by have c0 := row_cell (k := 0) hS.1 rfl; have c1 := row_cell (k := 1) hS.1 rfl; have c2 := row_cell (k := 2) hS.1 rfl; go_simp⟩) (by assumption) ?_
    try simp only [Act.put, List.setIfInBounds_toArray, List.set_cons_succ, List.set_cons_zero]
    refine wpAnyH_ready (rs := [23]) (by kernel_rfl) (by simp) ?_
    refine AllReadyH.cons (o := _) rfl (fun K hK => ?_) AllReadyH.nil
    have HF := f_part (.slice pa 2 pc) (.slice wa 3 wcp) kFew 0 1 w18 (HIL.out _ K18.out) (HIK.out _ K18.out)
    rw [hneed] at HF
    have HFH := Lib.hid HF
    clear HF
    go_simp
    refine HFH.out.mono ?_
    rintro e w19 ⟨rfl, k19⟩
    have K19 := Lib.hid (K18.out.trans k19)
    have hS19 : w19.heap[B1]? = some (.cells #[.slice pa 2 pc, .slice wa 3 wcp, .int .i64 2] 24 (0, 0)) ∧ w19.heap[B5]? = some (.cells rT 30 (0, 0)) ∧ w19.heap[B6]? = some (.cells rF 30 (0, 0)) := ⟨k19.row hS18.1, k19.row hS18.2.1, k19.row hS18.2.2⟩
    clear k19 HFH
    go_wp2_with fail
    refine hK.out _ _ hS19 (fun hHeld => ?_)
    clear hK K
    try simp only [Act.put, List.setIfInBounds_toArray, List.set_cons_succ, List.set_cons_zero]
    refine wpAnyH_ready (rs := [25]) (by kernel_rfl) (by simp) ?_
    refine AllReadyH.cons (o := _) rfl (fun K hK => ?_) AllReadyH.nil
    have HF := f_part (.slice pa 2 pc) (.slice wa 3 wcp) kFew 0 2 w19 (HIL.out _ K19.out) (HIK.out _ K19.out)
    rw [hneed] at HF
    have HFH := Lib.hid HF
    clear HF
    go_simp
    refine HFH.out.mono ?_
    rintro e w20 ⟨rfl, k20⟩
    have K20 := Lib.hid (K19.out.trans k20)
    have hS20 : w20.heap[B1]? = some (.cells #[.slice pa 2 pc, .slice wa 3 wcp, .int .i64 2] 24 (0, 0)) ∧ w20.heap[B5]? = some (.cells rT 30 (0, 0)) ∧ w20.heap[B6]? = some (.cells rF 30 (0, 0)) := ⟨k20.row hS19.1, k20.row hS19.2.1, k20.row hS19.2.2⟩
    clear k20 HFH
    go_wp2_with fail
    refine hK.out _ _ hS20 (fun hHeld => ?_)
    clear hK K
    try simp only [Act.put, List.setIfInBounds_toArray, List.set_cons_succ, List.set_cons_zero]
    refine wpAnyH_take (i := 26) (oi := ⟨some 64, _, _, _, _, _⟩) (v := .bool true) rfl (by kernel_rfl) (by kernel_rfl) (by kernel_rfl) (fun _ _ _ h => h) (yieldsNe26 hne.out hp01.out hp02.out (by kernel_rfl) rfl rfl) (by assumption) ?_
    try simp only [Act.put, List.setIfInBounds_toArray, List.set_cons_succ, List.set_cons_zero]
    refine wpAnyH_take (i := 27) (oi := ⟨some 65, _, _, _, _, _⟩) (v := .bool true) rfl (by kernel_rfl) (by kernel_rfl) (by kernel_rfl) (fun _ _ _ h => h) (Or.inl ⟨by kernel_rfl, fun w' hS => by go_simp⟩) (by assumption) ?_
    try simp only [Act.put, List.setIfInBounds_toArray, List.set_cons_succ, List.set_cons_zero]
    refine wpAnyH_take (i := 28) (oi := ⟨some 66, _, _, _, _, _⟩) (v := .bool true) rfl (by kernel_rfl) (by kernel_rfl) (by kernel_rfl) (fun _ _ _ h => h) (Or.inl ⟨by kernel_rfl, fun w' hS => by go_simp⟩) (by assumption) ?_
    try simp only [Act.put, List.setIfInBounds_toArray, List.set_cons_succ, List.set_cons_zero]
    refine wpAnyH_take (i := 29) (oi := ⟨some 67, _, _, _, _, _⟩) (v := .agg #[.slice pa 2 pc, .slice wa 3 wcp, .int .i64 2]) rfl (by kernel_rfl) (by kernel_rfl) (by kernel_rfl) (fun _ _ _ h => h) (Or.inl ⟨by kernel_rfl, fun w' hS => by have c0 := row_cell (k := 0) hS.1 rfl; have c1 := row_cell (k := 1) hS.1 rfl; have c2 := row_cell (k := 2) hS.1 rfl; go_simp⟩) (by assumption) ?_
    try simp only [Act.put, List.setIfInBounds_toArray, List.set_cons_succ, List.set_cons_zero]
    refine wpAnyH_take (i := 31) (oi := ⟨some 69, _, _, _, _, _⟩) (v := .agg (ints .u8 z32n)) rfl (by kernel_rfl) (by kernel_rfl) (by kernel_rfl) (fun _ _ _ h => h) (Or.inl ⟨by kernel_rfl, fun w' hS => by go_simp; rfl⟩) (by assumption) ?_
    try simp only [Act.put, List.setIfInBounds_toArray, List.set_cons_succ, List.set_cons_zero]
    refine wpAnyH_ready (rs := [30]) (by kernel_rfl) (by simp) ?_
    refine AllReadyH.cons (o := _) rfl (fun K hK => ?_) AllReadyH.nil
    have HF := f_part (.slice pa 2 pc) (.slice wa 3 wcp) kFew 2 0 w20 (HIL.out _ K20.out) (HIK.out _ K20.out)
    rw [kPart_none, hneed] at HF
    have HFH := Lib.hid HF
    clear HF
    go_simp
    refine HFH.out.mono ?_
    rintro e w21 ⟨rfl, k21⟩
    have K21 := Lib.hid (K20.out.trans k21)
    have hS21 : w21.heap[B1]? = some (.cells #[.slice pa 2 pc, .slice wa 3 wcp, .int .i64 2] 24 (0, 0)) ∧ w21.heap[B5]? = some (.cells rT 30 (0, 0)) ∧ w21.heap[B6]? = some (.cells rF 30 (0, 0)) := ⟨k21.row hS20.1, k21.row hS20.2.1, k21.row hS20.2.2⟩
    clear k21 HFH
    go_wp2_with fail
    refine hK.out _ _ hS21 (fun hHeld => ?_)
    clear hK K
    try simp only [Act.put, List.setIfInBounds_toArray, List.set_cons_succ, List.set_cons_zero]
    refine wpAnyH_take (i := 32) (oi := ⟨some 70, _, _, _, _, _⟩) (v := .bool true) rfl (by kernel_rfl) (by kernel_rfl) (by kernel_rfl) (fun _ _ _ h => h) (yieldsEq26 (l := z32n) (m := z32n) (decide_eq_true rfl) rfl rfl (by kernel_rfl) rfl rfl) (by assumption) ?_
    try simp only [Act.put, List.setIfInBounds_toArray, List.set_cons_succ, List.set_cons_zero]
    refine wpAnyH_take (i := 33) (oi := ⟨some 71, _, _, _, _, _⟩) (v := .bool true) rfl (by kernel_rfl) (by kernel_rfl) (by kernel_rfl) (fun _ _ _ h => h) (Or.inl ⟨by kernel_rfl, fun w' hS => by go_simp⟩) (by assumption) ?_
    try simp only [Act.put, List.setIfInBounds_toArray, List.set_cons_succ, List.set_cons_zero]
    refine wpAnyH_take (i := 34) (oi := ⟨some 0, _, _, _, _, _⟩) (v := .bool true) rfl (by kernel_rfl) (by kernel_rfl) (by kernel_rfl) (fun _ _ _ h => h) (Or.inl ⟨by kernel_rfl, fun w' hS => by go_simp⟩) (by assumption) ?_
    try simp only [Act.put, List.setIfInBounds_toArray, List.set_cons_succ, List.set_cons_zero]
    refine wpAnyH_done (by kernel_rfl) ?_ _
    have KF := Lib.hid (KK.out.trans K21.out)
    go_wp2_with fail
    go_ret
    exact BPost.mk rfl KF.out
end Go.Proofs.YtklmhegmombegaaDoor
