/-
  The laws' example of books. Conditions: none.
-/
import Derived.Test.YtklmhegmombegaaDoorBkM
set_option linter.unusedVariables false
set_option linter.unusedSimpArgs false
namespace Go.Proofs.YtklmhegmombegaaDoor.Re
open Go Go.RowKit Go.Proofs.YtklmhegmombegaaDoor.Re.Plain Go.Proofs.YtklmhegmombegaaDoor
theorem stp_of_block {w : World} {b : Nat} {p q : Int} {t : TypeId} {fz : Nat × Nat} (h : w.heap[b]? = some (.cells #[.int .i64 p, .int .i64 q] t fz)) : Stp w (.slice (some ⟨b, 0, none⟩) 1 1) [(p, q)] := by
  refine ⟨⟨rfl, some ⟨b, 0, none⟩, 1, rfl, .inr ⟨_, rfl, fun j u hu => ?_⟩⟩, fun k e => ?_⟩
  · rw [Addr.add_none, Nat.zero_add, cell_of_row _ _ j _ _ _ h]
    simpa [flat2] using hu
  · cases e; exact (Array.getElem?_eq_some_iff.1 h).1

def xR : Rx := { Rx.zero with kind := 6, part := 1, epoch := 1 }
def xB : Rx := { Rx.zero with kind := 1, steps := [(1, 1)] }
def xI : Rx := { Rx.zero with kind := 2, seq := 1, tr := 1 }
def xC : Rx := { Rx.zero with kind := 3, seq := 2, tr := 1, good := true, part := 1, epoch := 1 }
def xE : Rx := { Rx.zero with kind := 5, seq := 3, nd := 2 }
def cR : Array Value := ((Z30.setIfInBounds 0 (.int .i64 6)).setIfInBounds 8 (.int .i64 1)).setIfInBounds 9 (.int .i64 1)
def cB (v : Value) : Array Value := (Z30.setIfInBounds 0 (.int .i64 1)).setIfInBounds 42 v
def cI : Array Value := ((Z30.setIfInBounds 0 (.int .i64 2)).setIfInBounds 2 (.int .i64 1)).setIfInBounds 4 (.int .i64 1)
def cC : Array Value := (((((Z30.setIfInBounds 0 (.int .i64 3)).setIfInBounds 2 (.int .i64 2)).setIfInBounds 4 (.int .i64 1)).setIfInBounds 6 (.bool true)).setIfInBounds 8 (.int .i64 1)).setIfInBounds 9 (.int .i64 1)
def cE : Array Value := ((Z30.setIfInBounds 0 (.int .i64 5)).setIfInBounds 2 (.int .i64 3)).setIfInBounds 7 (.int .i64 2)
theorem in_R (w : World) : RecIn w cR xR := (((RecIn.zero w).set_kind 6).set_part 1).set_epoch 1
theorem in_B {w : World} {v : Value} (h : HoldsSt w v [(1, 1)]) : RecIn w (cB v) xB := ((RecIn.zero w).set_kind 1).set_steps h
theorem in_I (w : World) : RecIn w cI xI := (((RecIn.zero w).set_kind 2).set_seq 1).set_tr 1
theorem in_C (w : World) : RecIn w cC xC := ((((((RecIn.zero w).set_kind 3).set_seq 2).set_tr 1).set_good true).set_part 1).set_epoch 1
theorem in_E (w : World) : RecIn w cE xE := (((RecIn.zero w).set_kind 5).set_seq 3).set_nd 2
def lX : List Rx := [xR, xB, xI, xC, xE]
def bA : Bk := (bgo Bk.zero xR 2).getD Bk.zero
set_option maxRecDepth 100000 in
theorem go_R : (bgo Bk.zero xR 2).isSome = true := by kernel_rfl
set_option maxRecDepth 100000 in
theorem go_R2 : (bgo bA xR 2).isSome = false := by kernel_rfl
set_option maxRecDepth 100000 in
theorem of_n : (bookOf lX 2).2 = 5 := by kernel_rfl
set_option maxRecDepth 100000 in
theorem of_rep : repL (bookOf lX 2).1.sagas = [(2, 0)] := by kernel_rfl
set_option maxRecDepth 100000 in
theorem of_t : (bookOf [xB, xI, xC, xE] 2).2 = 2 := by kernel_rfl
set_option maxRecDepth 100000 in
theorem of_same : sameBk (bookOf lX 2).1 (bookOf lX 2).1 = true := by kernel_rfl
set_option maxRecDepth 100000 in
theorem of_not : sameBk bA (bookOf lX 2).1 = false := by kernel_rfl
theorem of_clean : cleanB [(2, 0)] = true := by kernel_rfl
theorem BGood.of {lim : Int} : ∀ (l : List Rx) (b : Bk) (k : Nat), BGood lim.toNat b → BGood lim.toNat (ofFrom lim b k l).1 := by
  intro l
  induction l with
  | nil => intro b k h; exact h
  | cons x l ih =>
    intro b k h
    rw [ofFrom]
    cases hb : bgo b x lim with
    | none => exact h
    | some c => exact ih c (k + 1) (h.go hb)
theorem good_bookOf (l : List Rx) (lim : Int) : BGood lim.toNat (bookOf l lim).1 := BGood.of l _ _ (BGood.zero _)
theorem GoodS.len {lim : Nat} {s : Sg} (h : GoodS lim s) : s.steps.length ≤ 6 := (mayB_len h.choose_spec.1).2
theorem GoodS.okay {lim : Nat} {s : Sg} (h : GoodS lim s) (h9 : lim ≤ 9) : Okay s := by
  obtain ⟨n, h1, h2⟩ := h
  exact h2.okay h1 h9
section
variable {ops : Array Oper} {rest : List Oper} {dst : Option Tmp} {ty : TypeId} {pos : String} {aft : Array Edge} {a : Act} {w : World} {Q : Exit → Act → World → Prop}
theorem buildR (h : wpList Tryd.prog ops Q rest (a.put dst (.agg cR)) w) : wpList Tryd.prog ops Q (⟨dst, .build 30 #[(0, .const (.int .i64 6)), (8, .const (.int .i64 1)), (9, .const (.int .i64 1))], ty, pos, aft, none⟩ :: rest) a w := by
  refine wpList_plain rfl fun K hK => ?_
  go_simp
  exact hK _ _ h
theorem buildB {x : Nat} {p : Option Addr} {n c : Nat} (hx : a.tmps[x]?.getD undef = .slice p n c) (h : wpList Tryd.prog ops Q rest (a.put dst (.agg (cB (.slice p n c)))) w) : wpList Tryd.prog ops Q (⟨dst, .build 30 #[(0, .const (.int .i64 1)), (11, .tmp x)], ty, pos, aft, none⟩ :: rest) a w := by
  refine wpList_plain rfl fun K hK => ?_
  go_simp
  exact hK _ _ h
theorem buildI (h : wpList Tryd.prog ops Q rest (a.put dst (.agg cI)) w) : wpList Tryd.prog ops Q (⟨dst, .build 30 #[(0, .const (.int .i64 2)), (2, .const (.int .i64 1)), (4, .const (.int .i64 1))], ty, pos, aft, none⟩ :: rest) a w := by
  refine wpList_plain rfl fun K hK => ?_
  go_simp
  exact hK _ _ h
theorem buildC (h : wpList Tryd.prog ops Q rest (a.put dst (.agg cC)) w) : wpList Tryd.prog ops Q (⟨dst, .build 30 #[(0, .const (.int .i64 3)), (2, .const (.int .i64 2)), (4, .const (.int .i64 1)), (6, .const (.bool true)), (8, .const (.int .i64 1)), (9, .const (.int .i64 1))], ty, pos, aft, none⟩ :: rest) a w := by
  refine wpList_plain rfl fun K hK => ?_
  go_simp
  exact hK _ _ h
theorem buildE (h : wpList Tryd.prog ops Q rest (a.put dst (.agg cE)) w) : wpList Tryd.prog ops Q (⟨dst, .build 30 #[(0, .const (.int .i64 5)), (2, .const (.int .i64 3)), (7, .const (.int .i64 2))], ty, pos, aft, none⟩ :: rest) a w := by
  refine wpList_plain rfl fun K hK => ?_
  go_simp
  exact hK _ _ h
theorem build88 (h : wpList Tryd.prog ops Q rest (a.put dst (.agg Z88)) w) : wpList Tryd.prog ops Q (⟨dst, .build 88 #[], ty, pos, aft, none⟩ :: rest) a w := by
  refine wpList_plain rfl fun K hK => ?_
  go_simp
  exact hK _ _ h
theorem wpList_on {op : Op} {gd : Option (Nat × Bool)} (hw : Region.wanted ⟨dst, op, ty, pos, aft, gd⟩ (yielded ops a.tmps) = true) (h : wpList Tryd.prog ops Q (⟨dst, op, ty, pos, aft, none⟩ :: rest) a w) : wpList Tryd.prog ops Q (⟨dst, op, ty, pos, aft, gd⟩ :: rest) a w := by
  unfold wpList at h ⊢
  rw [if_pos hw]
  rw [if_pos (by simp [Region.wanted])] at h
  exact h
theorem load88g {x : Operand} {g : Nat} {C : Array Value} {gd : Option (Nat × Bool)} (hw : Region.wanted ⟨dst, .load 88 x, ty, pos, aft, gd⟩ (yielded ops a.tmps) = true) (hx : a.eval x = .pointer (some ⟨g, 0, none⟩)) (hg : w.heap[g]? = some (.cells C 88 (0, 0))) (hC : C.size = 5)
    (h : wpList Tryd.prog ops Q rest (a.put dst (.agg C)) w) : wpList Tryd.prog ops Q (⟨dst, .load 88 x, ty, pos, aft, gd⟩ :: rest) a w := wpList_on hw (load88 hx hg hC h)
set_option maxRecDepth 100000 in
/-- A slice of five records. -/
theorem five41 {x0 x1 x2 x3 x4 : Operand} {C0 C1 C2 C3 C4 : Array Value} (h0 : a.eval x0 = .agg C0) (h1 : a.eval x1 = .agg C1) (h2 : a.eval x2 = .agg C2) (h3 : a.eval x3 = .agg C3) (h4 : a.eval x4 = .agg C4)
    (s0 : C0.size = 109) (s1 : C1.size = 109) (s2 : C2.size = 109) (s3 : C3.size = 109) (s4 : C4.size = 109)
    (h : wpList Tryd.prog ops Q rest (a.put dst (.slice (some ⟨w.heap.size, 0, none⟩) 5 5)) (w.alloc (.cells (C0.toList ++ (C1.toList ++ (C2.toList ++ (C3.toList ++ C4.toList)))).toArray 30))) : wpList Tryd.prog ops Q (⟨dst, .buildSlice 81 5 #[(0, x0), (1, x1), (2, x2), (3, x3), (4, x4)], ty, pos, aft, none⟩ :: rest) a w := by
  obtain ⟨i, z, hi, hs, _, hz, hzs⟩ := info30'
  refine wpList_buildSlice (P := Tryd.prog) (o := ⟨dst, .buildSlice 81 5 #[(0, x0), (1, x1), (2, x2), (3, x3), (4, x4)], ty, pos, aft, none⟩) rfl 81 30 5 #[(0, x0), (1, x1), (2, x2), (3, x3), (4, x4)] rfl _ i z Tryd.underlying81 hi hz (by rw [hs]; decide) (by rw [hs]; decide) ?_ h
  rw [hs]
  have := Great.fill_whole (s := 109) (by decide) [.agg C0, .agg C1, .agg C2, .agg C3, .agg C4] ((Array.range (5 * 109)).map (z.cells[· % z.cells.size]!)) (by simp [Value.cells, s0, s1, s2, s3, s4]) (by simp)
  simp only [Array.toList_map, List.map_cons, List.map_nil, h0, h1, h2, h3, h4, List.zipIdx_cons, List.zipIdx_nil, List.flatMap_cons, List.flatMap_nil, Value.cells, List.append_nil, Nat.zero_add] at this ⊢
  exact this
end

theorem go_R' : bgo Bk.zero xR 2 = some bA := by
  have h := go_R
  cases e : bgo Bk.zero xR 2 with
  | none => rw [e] at h; cases h
  | some c => simp [bA, e]
theorem go_R2' : bgo bA xR 2 = none := by
  have h := go_R2
  cases e : bgo bA xR 2 with
  | none => rfl
  | some c => rw [e] at h; cases h
theorem good_A : BGood (2 : Int).toNat bA := (BGood.zero _).go go_R'
theorem holds_five {w : World} {g : Nat} {v : Value} (h : w.heap[g]? = some (.cells (cR.toList ++ ((cB v).toList ++ (cI.toList ++ (cC.toList ++ cE.toList)))).toArray 30 (0, 0))) (hv : HoldsSt w v [(1, 1)]) :
    HoldsRs w (.slice (some ⟨g, 0, none⟩) 5 5) [(cR, xR), (cB v, xB), (cI, xI), (cC, xC), (cE, xE)] := by
  refine ⟨⟨by simp [frc, (in_R w).size, (in_B hv).size, (in_I w).size, (in_C w).size, (in_E w).size], some ⟨g, 0, none⟩, 5, rfl, .inr ⟨_, rfl, fun j u hu => ?_⟩⟩, by simp [maxLen], ?_⟩
  · rw [Addr.add_none, Nat.zero_add, cell_of_row _ _ j _ _ _ h]
    simpa [frc] using hu
  · intro p hp
    simp only [List.mem_cons, List.not_mem_nil, or_false] at hp
    rcases hp with rfl | rfl | rfl | rfl | rfl
    · exact in_R w
    · exact in_B hv
    · exact in_I w
    · exact in_C w
    · exact in_E w
theorem holds_four {w : World} {g : Nat} {v : Value} (h : w.heap[g]? = some (.cells (cR.toList ++ ((cB v).toList ++ (cI.toList ++ (cC.toList ++ cE.toList)))).toArray 30 (0, 0))) (hv : HoldsSt w v [(1, 1)]) :
    HoldsRs w (.slice (some ⟨g, 109, none⟩) 4 4) [(cB v, xB), (cI, xI), (cC, xC), (cE, xE)] := by
  have hR : cR.toList.length = 109 := by simpa using (in_R w).size
  refine ⟨⟨by simp [frc, (in_B hv).size, (in_I w).size, (in_C w).size, (in_E w).size], some ⟨g, 109, none⟩, 4, rfl, .inr ⟨_, rfl, fun j u hu => ?_⟩⟩, by simp [maxLen], ?_⟩
  · rw [Addr.add_none, cell_of_row _ _ (109 + j) _ _ _ h, List.getElem?_toArray, List.getElem?_append_right (by omega), hR, Nat.add_sub_cancel_left]
    simpa [frc] using hu
  · intro p hp
    simp only [List.mem_cons, List.not_mem_nil, or_false] at hp
    rcases hp with rfl | rfl | rfl | rfl
    · exact in_B hv
    · exact in_I w
    · exact in_C w
    · exact in_E w

set_option maxRecDepth 100000 in
set_option maxHeartbeats 8000000 in
theorem f_alive12 (w : World) : Calls Tryd.prog 45 #[] w fun e w' => e = .returned (.bool true) ∧ Kept (fun _ => False) w w' := by
  have z0 := Lib.hid (heap_alloc_new w (.cells Z30 30))
  obtain ⟨y0, k0⟩ := alloc_set w Z30 cR 30
  have Y0 := Lib.hid y0
  have K0 := Lib.hid k0
  clear y0 k0
  go_enter Tryd.func45, Tryd.ntmps45
  go_upto_region 2 with (first | fail | (with_reducible refine buildR ?_) | (with_reducible refine alloc30 ?_) | ((with_reducible refine store30 (C := cR) ?_ ?_ z0.out rfl (in_R w).size (in_R w).one ?_); rfl; rfl))
  generalize ((w.alloc (.cells Z30 30)).setRow w.heap.size cR) = u1 at *
  have HG1 := f_bgo Bk.zero (.slice none 0 0) [] cR xR 2 u1 (in_R u1) (BkIn.nil _) rfl (BGood.zero _) (by decide)
  rw [go_R'] at HG1
  have HG1 := Lib.hid HG1
  go_wp2_with (first | fail | (with_reducible refine build88 ?_) | ((with_reducible refine load30 (C := cR) (g := w.heap.size) (o := 0) ?_ (range_row Y0.out) (in_R w).size ?_); rfl))
  refine HG1.out.mono ?_
  rintro e w1 ⟨sA, ssA, rfl, hbA, hmA, -, k1⟩
  clear HG1 z0
  obtain ⟨aA, cA, rfl⟩ := hbA.form
  have hone := Lib.hid (bkC_one bA.ep aA ssA.length cA)
  have z1 := Lib.hid (heap_alloc_new w1 (.cells Z88 88))
  obtain ⟨y1, k1'⟩ := alloc_set w1 Z88 (bkC bA.ep (.slice aA ssA.length cA)) 88
  have Y1 := Lib.hid y1
  have R1 := Lib.hid ((k1.trans k1').row Y0.out)
  have K1 := Lib.hid (K0.out.trans (k1.trans k1'))
  have B1 := Lib.hid (hbA.kept k1')
  have M1 := Lib.hid hmA
  clear y1 k1' k1 hbA hmA Y0 K0
  simp only [Option.getD_some, Option.isSome_some] at *
  go_upto_region 3 with (first | fail | (with_reducible refine alloc88 ?_) | ((with_reducible refine store88 ?_ ?_ z1.out rfl (bkC_size _ _) hone.out ?_); rfl; rfl))
  generalize ((w1.alloc (.cells Z88 88)).setRow w1.heap.size (bkC bA.ep (.slice aA ssA.length cA))) = u2 at *
  generalize w1.heap.size = g1 at *
  clear z1
  have HG2 := f_bgo bA (.slice aA ssA.length cA) ssA cR xR 2 u2 (in_R u2) B1.out M1.out good_A (by decide)
  rw [go_R2'] at HG2
  have HG2 := Lib.hid HG2
  go_wp2_with (first | fail | ((with_reducible refine load88 (g := g1) ?_ Y1.out (bkC_size _ _) ?_); rfl) | ((with_reducible refine load30 (C := cR) (g := w.heap.size) (o := 0) ?_ (range_row R1.out) (in_R w).size ?_); rfl))
  refine HG2.out.mono ?_
  rintro e w2 ⟨sB, ssB, rfl, hbB, hmB, -, k2⟩
  obtain ⟨aB, cB', rfl⟩ := hbB.form
  clear HG2
  simp only [Option.getD_none, Option.isSome_none] at *
  have hone2 := Lib.hid (bkC_one bA.ep aB ssB.length cB')
  have z2 := Lib.hid (heap_alloc_new w2 (.cells Z88 88))
  obtain ⟨y2, k2'⟩ := alloc_set w2 Z88 (bkC bA.ep (.slice aB ssB.length cB')) 88
  have R2 := Lib.hid ((k2.trans k2').row R1.out)
  have K2 := Lib.hid (K1.out.trans (k2.trans k2'))
  have B2 := Lib.hid (B1.out.kept (k2.trans k2'))
  have Y2 := Lib.hid ((k2.trans k2').row Y1.out)
  clear y2 k2' k2 hbB hmB R1 K1 B1 Y1
  go_upto_region 4 with (first | fail | (with_reducible refine alloc88 ?_) | ((with_reducible refine store88 ?_ ?_ z2.out rfl (bkC_size _ _) hone2.out ?_); rfl; rfl))
  generalize ((w2.alloc (.cells Z88 88)).setRow w2.heap.size (bkC bA.ep (.slice aB ssB.length cB'))) = u3 at *
  clear z2 hone2
  have kst := Lib.hid (((Kept.refl (fun _ => False) u3).alloc (.cells #[.int .i64 1, .int .i64 1] 115)))
  have hst := Lib.hid (stp_of_block (heap_alloc_new u3 (.cells #[.int .i64 1, .int .i64 1] 115)))
  go_upto_region 5 with (first | fail | (with_reducible refine buildB rfl ?_) | (with_reducible refine buildI ?_) | (with_reducible refine buildC ?_) | (with_reducible refine buildE ?_) | ((with_reducible refine five41 (C0 := cR) (C1 := cB (.slice (some ⟨u3.heap.size, 0, none⟩) 1 1)) (C2 := cI) (C3 := cC) (C4 := cE) ?_ ?_ ?_ ?_ ?_ (in_R u3).size rfl (in_I u3).size (in_C u3).size (in_E u3).size ?_); rfl; rfl; rfl; rfl; rfl) | ((with_reducible refine load30 (C := cR) (g := w.heap.size) (o := 0) ?_ (range_row R2.out) (in_R w).size ?_); rfl))
  obtain ⟨i60, zz60⟩ := info96'
  have HV := Lib.hid (Kept.refl (fun _ => False) ((u3.alloc (.cells #[.int .i64 1, .int .i64 1] 115)).alloc (.cells (cR.toList ++ ((cB (.slice (some ⟨u3.heap.size, 0, none⟩) 1 1)).toList ++ (cI.toList ++ (cC.toList ++ cE.toList)))).toArray 30)))
  have kf := ((Kept.refl (fun _ => False) (u3.alloc (.cells #[.int .i64 1, .int .i64 1] 115))).alloc (.cells (cR.toList ++ ((cB (.slice (some ⟨u3.heap.size, 0, none⟩) 1 1)).toList ++ (cI.toList ++ (cC.toList ++ cE.toList)))).toArray 30))
  have hf := heap_alloc_new (u3.alloc (.cells #[.int .i64 1, .int .i64 1] 115)) (.cells (cR.toList ++ ((cB (.slice (some ⟨u3.heap.size, 0, none⟩) 1 1)).toList ++ (cI.toList ++ (cC.toList ++ cE.toList)))).toArray 30)
  have hs5 : (u3.alloc (.cells #[.int .i64 1, .int .i64 1] 115)).heap.size = u3.heap.size + 1 := by unfold World.alloc; exact Array.size_push _
  have hh5 : HoldsSt ((u3.alloc (.cells #[.int .i64 1, .int .i64 1] 115)).alloc (.cells (cR.toList ++ ((cB (.slice (some ⟨u3.heap.size, 0, none⟩) 1 1)).toList ++ (cI.toList ++ (cC.toList ++ cE.toList)))).toArray 30)) (.slice (some ⟨u3.heap.size, 0, none⟩) 1 1) [(1, 1)] := HoldsSt.kept ⟨_, _, rfl, by simp [maxLen], fun _ => hst.out⟩ kf
  have F5 := Lib.hid (holds_five hf hh5)
  have F4 := Lib.hid (holds_four hf hh5)
  have kf2 := kst.out.trans kf
  have R3 := Lib.hid (kf2.row R2.out)
  have K3 := Lib.hid (K2.out.trans kf2)
  have B3 := Lib.hid (B2.out.kept kf2)
  have Y3 := Lib.hid (kf2.row Y2.out)
  rw [hs5] at F5 F4
  clear HV kf hf hh5 kf2 hst kst R2 K2 B2 Y2 zz60
  generalize ((u3.alloc (.cells #[.int .i64 1, .int .i64 1] 115)).alloc (.cells (cR.toList ++ ((cB (.slice (some ⟨u3.heap.size, 0, none⟩) 1 1)).toList ++ (cI.toList ++ (cC.toList ++ cE.toList)))).toArray 30)) = u5 at *
  generalize cB (.slice (some ⟨u3.heap.size, 0, none⟩) 1 1) = CB at *
  generalize u3.heap.size + 1 = gl at *
  clear hs5
  obtain ⟨bC, hC1, hC2, hC3, hC4, hC5⟩ : ∃ b : Bk, bookOf lX 2 = (b, 5) ∧ repL b.sagas = [(2, 0)] ∧ sameBk b b = true ∧ sameBk bA b = false ∧ BGood (2 : Int).toNat b := ⟨(bookOf lX 2).1, Prod.ext rfl of_n, of_rep, of_same, of_not, good_bookOf _ _⟩
  have HO := f_bof _ _ 2 u5 F5.out (by simp) (by simp [xR, xB, xI, xC, xE, Rx.zero])
  rw [show List.map (fun x => x.2) [(cR, xR), (CB, xB), (cI, xI), (cC, xC), (cE, xE)] = lX from rfl, hC1] at HO
  have HO := Lib.hid HO
  go_wp2_with fail
  refine HO.out.mono ?_
  rintro e w3 ⟨sC, ssC, rfl, hbC, hmC, -, k5⟩
  obtain ⟨aC, cC', rfl⟩ := hbC.form
  clear HO
  dsimp only at *
  have hone5 := Lib.hid (bkC_one bC.ep aC ssC.length cC')
  have z5 := Lib.hid (heap_alloc_new w3 (.cells Z88 88))
  obtain ⟨y5, k5'⟩ := alloc_set w3 Z88 (bkC bC.ep (.slice aC ssC.length cC')) 88
  have k55 := k5.trans k5'
  have K5 := Lib.hid (K3.out.trans k55)
  have B5 := Lib.hid (B3.out.kept k55)
  have Y5 := Lib.hid (k55.row Y3.out)
  have P5 := Lib.hid (F5.out.kept k55)
  have Q5 := Lib.hid (F4.out.kept k55)
  have C5 := Lib.hid (hbC.kept k5')
  have X5 := Lib.hid y5
  have MC := Lib.hid hmC
  have HC2 := Lib.hid hC2
  have HC3 := Lib.hid hC3
  have HC4 := Lib.hid hC4
  have HC5 := Lib.hid hC5
  clear y5 k5 k5' k55 K3 B3 Y3 R3 hbC hmC hC1 hC2 hC3 hC4 hC5 F5 F4
  go_upto_region 6 with (first | fail | (with_reducible refine alloc88 ?_) | ((with_reducible refine store88 ?_ ?_ z5.out rfl (bkC_size _ _) hone5.out ?_); rfl; rfl))
  generalize ((w3.alloc (.cells Z88 88)).setRow w3.heap.size (bkC bC.ep (.slice aC ssC.length cC'))) = u6 at *
  generalize w3.heap.size = g5 at *
  clear z5 hone5
  have HR6 := f_report bC _ ssC u6 C5.out MC.out (fun p hp => GoodS.okay (lim := 2) (HC5.out.sagas p.1 (MC.out ▸ List.mem_map_of_mem hp)) (by decide))
  rw [HC2.out] at HR6
  have HR6 := Lib.hid HR6
  go_wp2_with (first | fail | ((with_reducible refine load88 (g := g5) ?_ X5.out (bkC_size _ _) ?_); rfl))
  refine HR6.out.mono ?_
  rintro e w6 ⟨vr, rfl, hbr, k6⟩
  clear HR6
  have stR : Stp w6 vr [(2, 0)] := ⟨hbr.rd, fun k e => (hbr.lt k e).2⟩
  obtain ⟨gr, capr, curr, rfl, -, hgr, -, -, htr⟩ := hbr.pos (by decide)
  have K6 := Lib.hid (K5.out.trans k6)
  have B6 := Lib.hid (B5.out.kept k6)
  have Y6 := Lib.hid (k6.row Y5.out)
  have P6 := Lib.hid (P5.out.kept k6)
  have Q6 := Lib.hid (Q5.out.kept k6)
  have C6 := Lib.hid (C5.out.kept k6)
  have X6 := Lib.hid (k6.row X5.out)
  have S6 := Lib.hid stR
  clear K5 B5 Y5 P5 Q5 C5 X5 k6 stR hbr hgr htr
  have HO7 := f_bof _ _ 2 w6 Q6.out (by simp) (by simp [xR, xB, xI, xC, xE, Rx.zero])
  obtain ⟨bD, hD1⟩ : ∃ b : Bk, bookOf [xB, xI, xC, xE] 2 = (b, 2) := ⟨(bookOf [xB, xI, xC, xE] 2).1, Prod.ext rfl of_t⟩
  rw [show List.map (fun x => x.2) [(CB, xB), (cI, xI), (cC, xC), (cE, xE)] = [xB, xI, xC, xE] from rfl, hD1] at HO7
  have HO7 := Lib.hid HO7
  clear hD1
  go_wp2_with fail
  refine HO7.out.mono ?_
  rintro e w7 ⟨sD, ssD, rfl, hbD, hmD, -, k7⟩
  obtain ⟨aD, cD', rfl⟩ := hbD.form
  clear HO7
  dsimp only at *
  have hone7 := Lib.hid (bkC_one bD.ep aD ssD.length cD')
  have z7 := Lib.hid (heap_alloc_new w7 (.cells Z88 88))
  obtain ⟨y7, k7'⟩ := alloc_set w7 Z88 (bkC bD.ep (.slice aD ssD.length cD')) 88
  have k77 := k7.trans k7'
  have K7 := Lib.hid (K6.out.trans k77)
  have B7 := Lib.hid (B6.out.kept k77)
  have Y7 := Lib.hid (k77.row Y6.out)
  have P7 := Lib.hid (P6.out.kept k77)
  have C7 := Lib.hid (C6.out.kept k77)
  have X7 := Lib.hid (k77.row X6.out)
  have S7 := Lib.hid (S6.out.kept k77)
  clear y7 k7 k7' k77 K6 B6 Y6 P6 Q6 C6 X6 S6 hbD hmD
  go_upto_region 8 with (first | fail | (with_reducible refine alloc88 ?_) | ((with_reducible refine store88 ?_ ?_ z7.out rfl (bkC_size _ _) hone7.out ?_); rfl; rfl))
  generalize ((w7.alloc (.cells Z88 88)).setRow w7.heap.size (bkC bD.ep (.slice aD ssD.length cD'))) = u8 at *
  generalize w7.heap.size = g7 at *
  clear z7 hone7
  have hcell : u8.cell? ⟨gr, 0, none⟩ = some (.int .i64 2) := by
    obtain ⟨b, o, c', ev, hc⟩ := S7.out.rd.addr (by decide)
    simp only [Value.slice.injEq, Option.some.injEq, Addr.mk.injEq] at ev
    obtain ⟨⟨rfl, rfl, -⟩, -, -⟩ := ev
    exact hc 0 _ rfl
  have HCl := f_clean _ _ u8 S7.out (by decide)
  rw [of_clean] at HCl
  have HCl := Lib.hid HCl
  go_wp2_with fail
  refine HCl.out.mono ?_
  rintro e w9 ⟨rfl, k9⟩
  clear HCl hcell
  have hok : ∀ p ∈ ssC, p.1.steps.length ≤ 1000000 := fun p hp => by
    have := GoodS.len (lim := 2) (HC5.out.sagas p.1 (MC.out ▸ List.mem_map_of_mem hp))
    omega
  have hokA : ∀ p ∈ ssA, p.1.steps.length ≤ 1000000 := fun p hp => by
    have := GoodS.len (lim := 2) (good_A.sagas p.1 (M1.out ▸ List.mem_map_of_mem hp))
    omega
  have HS1 := f_bksame bC bC _ _ ssC ssC w9 (C7.out.kept k9) (C7.out.kept k9) MC.out MC.out hok
  rw [HC3.out] at HS1
  have HS1 := Lib.hid HS1
  have X9 := Lib.hid (k9.row X7.out)
  have K9 := Lib.hid (K7.out.trans k9)
  have L9 := Lib.hid k9
  clear K7 k9 X7
  go_wp2_with (first | fail | ((with_reducible refine load88g (g := g5) ?_ ?_ X9.out (bkC_size _ _) ?_); rfl; rfl))
  refine HS1.out.mono ?_
  rintro e w10 ⟨rfl, k10⟩
  clear HS1
  have K10 := Lib.hid (K9.out.trans k10)
  have L10 := Lib.hid (L9.out.trans k10)
  have X10 := Lib.hid (k10.row X9.out)
  have Y10 := Lib.hid (L10.out.row Y7.out)
  clear k10 X9 L9 K9 Y7
  have HS2 := f_bksame bA bC _ _ ssA ssC w10 (B7.out.kept L10.out) (C7.out.kept L10.out) M1.out MC.out hokA
  rw [HC4.out] at HS2
  have HS2 := Lib.hid HS2
  go_wp2_with (first | fail | ((with_reducible refine load88g (g := g1) ?_ ?_ Y10.out (bkC_size _ _) ?_); rfl; rfl) | ((with_reducible refine load88g (g := g5) ?_ ?_ X10.out (bkC_size _ _) ?_); rfl; rfl))
  refine HS2.out.mono ?_
  rintro e w11 ⟨rfl, k11⟩
  clear HS2 X10 Y10
  have K11 := Lib.hid (K10.out.trans k11)
  have L11 := Lib.hid (L10.out.trans k11)
  clear k11 K10 L10
  have HL := f_lines _ _ _ _ w11 (S7.out.kept L11.out) (S7.out.kept L11.out) (by decide)
  rw [show decide ([((2 : Int), (0 : Int))] = [(2, 0)]) = true from rfl] at HL
  have HL := Lib.hid HL
  go_wp2_with fail
  refine HL.out.mono ?_
  rintro e w12 ⟨rfl, k12⟩
  clear HL
  have K12 := Lib.hid (K11.out.trans k12)
  have L12 := Lib.hid (L11.out.trans k12)
  clear k12 K11 L11
  have HN := f_only _ _ 0 w12 (P7.out.kept L12.out) (by simp)
  rw [show onlyR 0 [(cR, xR), (CB, xB), (cI, xI), (cC, xC), (cE, xE)] = [(CB, xB), (cI, xI), (cC, xC), (cE, xE)] from rfl] at HN
  have HN := Lib.hid HN
  go_wp2_with fail
  refine HN.out.mono ?_
  rintro e w13 ⟨vo, rfl, hbo, k13⟩
  obtain ⟨go', capo, -, rfl, -, -, -, -, -⟩ := hbo.pos (by simp)
  have K13 := Lib.hid (K12.out.trans k13)
  clear HN k13 hbo K12 L12
  go_wp2_with fail
  go_ret
  exact ⟨rfl, K13.out⟩
end Go.Proofs.YtklmhegmombegaaDoor.Re
