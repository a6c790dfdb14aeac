/-
  Calls as whole values in memory; the receipt that a call says (43, 44). Conditions: as each theorem says.
  The reference's receipt that a call says (44). Conditions: as each theorem says.
-/
import Derived.Test.YtklmhegmombegaaDoorPaD
set_option linter.unusedVariables false
set_option linter.unusedSimpArgs false
set_option maxRecDepth 100000
namespace Go.Proofs.YtklmhegmombegaaDoor
open Go Go.RowKit Plain
open Go.Proofs.YtklmhegmombegaaDoor.Re (RecIn hbs)
open Go.Proofs.YtklmhegmombegaaDoor.Re.Plain (Rx rightB)

/-- A call of zeros. -/
def zCl : Cl := ⟨0, 0, 0, false, 0, 0, false, false, 0, z32n⟩
def Z59 : Array Value := clC zCl
theorem zCl_len : zCl.tag.length = 32 := by rfl
theorem Z59_size : Z59.size = 41 := clC_size zCl_len
theorem clC_one (c : Cl) : (clC c).all (·.oneCell') = true := by
  rw [Array.all_eq_true_iff_forall_mem]
  intro x hx
  simp only [clC, Array.mem_append, List.mem_toArray] at hx
  rcases hx with hx | hx
  · simp only [List.mem_cons, List.not_mem_nil, or_false] at hx
    rcases hx with rfl | rfl | rfl | rfl | rfl | rfl | rfl | rfl | rfl <;> rfl
  · exact bys_one _ x hx
theorem clC_tag {c : Cl} {j : Nat} {v : Value} (hv : (bys c.tag)[j]? = some v) : (clC c)[9 + j]? = some v := by
  unfold clC
  rw [Array.getElem?_append_right (by simp)]
  simpa using hv
theorem range_tag {w : World} {g : Nat} {c : Cl} {t : TypeId} (hg : w.heap[g]? = some (.cells (clC c) t (0, 0))) : w.rangeAt g 9 (ints .u8 c.tag).toList := by
  intro j v hv
  rw [ints_toList] at hv
  exact row_cell hg (clC_tag hv)
theorem clC_put {c : Cl} {T : List Nat} (hc : c.tag.length = 32) (hT : T.length = 32) : puts (clC c) 9 (ints .u8 T).toList = clC { c with tag := T } := by
  apply Array.ext_getElem?
  intro i
  have hz : (ints .u8 T).toList.length = 32 := by rw [ints_toList]; simp [hT]
  by_cases h1 : i < 9
  · rw [puts_out _ _ _ _ (.inl h1)]
    simp only [clC]
    rw [Array.getElem?_append_left (by simpa using h1), Array.getElem?_append_left (by simpa using h1)]
  · by_cases h2 : i < 41
    · have hj : i - 9 < (bys T).length := by rw [bys_len, hT]; omega
      have hv : (ints .u8 T).toList[i - 9]? = some (bys T)[i - 9] := by rw [ints_toList]; exact List.getElem?_eq_getElem hj
      have := puts_in (ints .u8 T).toList (clC c) 9 (by rw [hz, clC_size hc]; decide) (i - 9) _ hv
      rw [show 9 + (i - 9) = i by omega] at this
      rw [this]
      have h3 := clC_tag (c := { c with tag := T }) (j := i - 9) (List.getElem?_eq_getElem hj)
      rw [show 9 + (i - 9) = i by omega] at h3
      rw [h3]
    · rw [Array.getElem?_eq_none (by rw [puts_size, clC_size hc]; omega), Array.getElem?_eq_none (by rw [clC_size hT]; omega)]
section
variable {ops : Array Oper} {rest : List Oper} {dst : Option Tmp} {ty : TypeId} {pos : String} {aft : Array Edge} {gd : Option (Nat × Bool)} {a : Act} {w : World} {Q : Exit → Act → World → Prop} {K : Act → World → Prop} {E : Prop} {S : World → Prop} {x y : Operand} {g o : Nat} {C cur : Array Value}

/-! ## Type 59: 41 cells -/
theorem Tryd.isz59 : (Tryd.prog.info? 59).map (·.size) = some 41 := by kernel_rfl
theorem load59 (hx : a.eval x = .pointer (some ⟨g, o, none⟩)) (hc : w.rangeAt g o C.toList) (hC : C.size = 41)
    (h : wpList Tryd.prog ops Q rest (a.put dst (.agg C)) w) : wpList Tryd.prog ops Q (⟨dst, .load 59 x, ty, pos, aft, none⟩ :: rest) a w := by
  have := wpList_load_mid (P := Tryd.prog) (ops := ops) (rest := rest) (op := ⟨dst, .load 59 x, ty, pos, aft, none⟩) (a := a) (w := w) (Q := Q) rfl 59 x rfl g o hx C.toList _ hc Tryd.underlying59 rfl (by rw [Tryd.isz59]; simp [hC])
  simp only [Array.toArray_toList] at this
  exact this h
theorem load59g (hw : Region.wanted ⟨dst, .load 59 x, ty, pos, aft, gd⟩ (yielded ops a.tmps) = true) (hx : a.eval x = .pointer (some ⟨g, o, none⟩)) (hc : w.rangeAt g o C.toList) (hC : C.size = 41)
    (h : wpList Tryd.prog ops Q rest (a.put dst (.agg C)) w) : wpList Tryd.prog ops Q (⟨dst, .load 59 x, ty, pos, aft, gd⟩ :: rest) a w := wpList_on hw (load59 hx hc hC h)
theorem store59 {old : Array Value} {t' : TypeId} (hx : a.eval x = .pointer (some ⟨g, 0, none⟩)) (hy : a.eval y = .agg C) (hg : w.heap[g]? = some (.cells old t' (0, 0))) (ho : old.size = 41) (hC : C.size = 41) (h1 : C.all (·.oneCell') = true)
    (h : wpList Tryd.prog ops Q rest (a.put dst undef) (w.setRow g C)) : wpList Tryd.prog ops Q (⟨dst, .store 59 x y, ty, pos, aft, none⟩ :: rest) a w :=
  wpList_store_row (P := Tryd.prog) (o := ⟨dst, .store 59 x y, ty, pos, aft, none⟩) rfl 59 x y rfl g C hx hy t' old hg (by rw [Tryd.isz59, hC]) (by rw [ho, hC]) h1 h
theorem put59 {t' : TypeId} (hx : a.eval x = .pointer (some ⟨g, o, none⟩)) (hy : a.eval y = .agg C) (hC : C.size = 41) (h1 : C.all (·.oneCell') = true) (hg : w.heap[g]? = some (.cells cur t' (0, 0))) (ho : o + 41 ≤ cur.size)
    (h : ∀ w', w'.heap[g]? = some (.cells (puts cur o C.toList) t' (0, 0)) → Kept (fun i => i = g) w w' → wpList Tryd.prog ops Q rest (a.put dst undef) w') :
    wpList Tryd.prog ops Q (⟨dst, .store 59 x y, ty, pos, aft, none⟩ :: rest) a w := by
  refine wpList_store_mid (P := Tryd.prog) rfl 59 x y rfl g o _ hx hy (fun j hj => ?_) (by rw [Tryd.isz59, hC]) h1 ?_
  · refine ⟨?_, free_of_block hg⟩
    rw [cell_of_block hg (by omega)]; rfl
  · exact h _ (setCells_block _ _ _ _ hg) (setCells_kept _ _ _)
theorem yields59 (hw : Region.wanted ⟨dst, .load 59 x, ty, pos, aft, gd⟩ (yielded ops a.tmps) = true) (hx : a.eval x = .pointer (some ⟨g, o, none⟩)) (hg : ∀ w, S w → w.rangeAt g o C.toList) (hC : C.size = 41) :
    YieldsIf Tryd.prog ops S ⟨dst, .load 59 x, ty, pos, aft, gd⟩ (.agg C) a := by
  refine .inl ⟨hw, fun w hS => ?_⟩
  have hl := run_loadAt_mid (P := Tryd.prog) w g o 59 C.toList _ (hg w hS) Tryd.underlying59 rfl (by rw [Tryd.isz59]; simp [hC])
  rw [Array.toArray_toList] at hl
  unfold execOp
  simp only [hx, Sem.run_bind, hl, Result.andThen_ok, Sem.run_pure]
theorem step_store59 {t' : TypeId} (hw : Region.wanted ⟨dst, .store 59 x y, ty, pos, aft, gd⟩ (yielded ops a.tmps) = true) (hx : a.eval x = .pointer (some ⟨g, o, none⟩)) (hy : a.eval y = .agg C) (hC : C.size = 41) (h1 : C.all (·.oneCell') = true) (hg : w.heap[g]? = some (.cells cur t' (0, 0))) (ho : o + 41 ≤ cur.size)
    (h : ∀ w', w'.heap[g]? = some (.cells (puts cur o C.toList) t' (0, 0)) → Kept (fun i => i = g) w w' → K (a.put dst undef) w') :
    if Region.wanted ⟨dst, .store 59 x y, ty, pos, aft, gd⟩ (yielded ops a.tmps) = true then Oper.wp Tryd.prog ⟨dst, .store 59 x y, ty, pos, aft, gd⟩ a w K Q else E := by
  rw [if_pos hw]
  refine wp_store_mid (P := Tryd.prog) 59 x y rfl g o _ hx hy (fun j hj => ?_) (by rw [Tryd.isz59, hC]) h1 ?_
  · refine ⟨?_, free_of_block hg⟩
    rw [cell_of_block hg (by omega)]; rfl
  · exact h _ (setCells_block _ _ _ _ hg) (setCells_kept _ _ _)
theorem alloc59 (h : wpList Tryd.prog ops Q rest (a.put dst (.pointer (some ⟨w.heap.size, 0, none⟩))) (w.alloc (.cells Z59 59))) : wpList Tryd.prog ops Q (⟨dst, .alloc 59, ty, pos, aft, none⟩ :: rest) a w := by
  refine wpList_plain rfl fun K hK => ?_
  go_simp
  exact hK _ _ h
theorem build59 (h : wpList Tryd.prog ops Q rest (a.put dst (.agg Z59)) w) : wpList Tryd.prog ops Q (⟨dst, .build 59 #[], ty, pos, aft, none⟩ :: rest) a w := by
  refine wpList_plain rfl fun K hK => ?_
  go_simp
  exact hK _ _ h
theorem built59 {s t u p q e : Int} {b f h : Bool} : Tryd.prog.built 59 [(0, .int .i64 s), (1, .int .i64 t), (2, .int .i64 u), (3, .bool b), (4, .int .i64 p), (5, .int .i64 q), (6, .bool f), (7, .bool h), (8, .int .i64 e)] = some (clC ⟨s, t, u, b, p, q, f, h, e, z32n⟩) := by kernel_rfl
/-- A record that a call says. -/
def rcP (c : Cl) (seq : Int) : Array Value := puts (((((((((Re.Z30.setIfInBounds 0 (.int .i64 3)).setIfInBounds 1 (.int .i64 c.saga)).setIfInBounds 2 (.int .i64 seq)).setIfInBounds 3 (.int .i64 c.step)).setIfInBounds 4 (.int .i64 c.try_)).setIfInBounds 5 (.bool c.back)).setIfInBounds 6 (.bool c.good)).setIfInBounds 8 (.int .i64 c.part)).setIfInBounds 9 (.int .i64 c.epoch)) 10 (ints .u8 c.tag).toList
theorem built30p {s q t u p e : Int} {b h : Bool} {f : Bool} {kd : Int} : ∀ (tag : List Nat), tag.length = 32 → Tryd.prog.built 30 [(0, .int .i64 3), (1, .int .i64 s), (2, .int .i64 q), (3, .int .i64 t), (4, .int .i64 u), (5, .bool b), (6, .bool h), (8, .int .i64 p), (9, .int .i64 e), (10, .agg (ints .u8 tag))] = some (rcP ⟨s, t, u, b, p, kd, f, h, e, tag⟩ q)
  | [d0, d1, d2, d3, d4, d5, d6, d7, d8, d9, d10, d11, d12, d13, d14, d15, d16, d17, d18, d19, d20, d21, d22, d23, d24, d25, d26, d27, d28, d29, d30, d31], _ => by kernel_rfl
theorem build30p {c : Cl} {seq : Int} (hl : c.tag.length = 32) {x1 x2 x3 x4 x5 x6 x8 x9 x10 : Operand} (h1 : a.eval x1 = .int .i64 c.saga) (h2 : a.eval x2 = .int .i64 seq) (h3 : a.eval x3 = .int .i64 c.step) (h4 : a.eval x4 = .int .i64 c.try_) (h5 : a.eval x5 = .bool c.back) (h6 : a.eval x6 = .bool c.good) (h8 : a.eval x8 = .int .i64 c.part) (h9 : a.eval x9 = .int .i64 c.epoch) (h10 : a.eval x10 = .agg (ints .u8 c.tag))
    (h : wpList Tryd.prog ops Q rest (a.put dst (.agg (rcP c seq))) w) : wpList Tryd.prog ops Q (⟨dst, .build 30 #[(0, .const (.int .i64 3)), (1, x1), (2, x2), (3, x3), (4, x4), (5, x5), (6, x6), (8, x8), (9, x9), (10, x10)], ty, pos, aft, none⟩ :: rest) a w := by
  refine wpList_buildTo (P := Tryd.prog) rfl 30 _ rfl dst rfl (rcP c seq) ?_ h
  simp only [List.map_toArray, List.map_cons, List.map_nil, h1, h2, h3, h4, h5, h6, h8, h9, h10]
  exact built30p (f := c.answer) (kd := c.kind) c.tag hl
end
theorem results_59 {fn : Func} {p t : Tmp} (h : fn.results = #[.cell p 59, .tmp t]) (tmps : Array Value) (w : World) (g : Nat) {C : Array Value} {ty : TypeId} {fr : Nat × Nat} {v : Value}
    (hg : w.heap[g]? = some (.cells C ty fr)) (hC : C.size = 41) (hp : tmps.getD p undef = .pointer (some ⟨g, 0, none⟩)) (hv : tmps.getD t undef = v := by rfl) :
    (results fn tmps).run Tryd.prog w = .ok (.tuple #[.agg C, v]) w := by
  have hp' : tmps[p]?.getD undef = .pointer (some ⟨g, 0, none⟩) := by simpa using hp
  have hv' : tmps[t]?.getD undef = v := by simpa using hv
  simp [results, h, hp', hv', asAddr, run_loadVar_row (P := Tryd.prog) w g ty 59 C fr _ hg Tryd.underlying59 rfl (by rw [Tryd.isz59, hC])]
theorem results_59s {fn : Func} {p : Tmp} (h : fn.results = #[.cell p 59]) (tmps : Array Value) (w : World) (g : Nat) {C : Array Value} {ty : TypeId} {fr : Nat × Nat}
    (hg : w.heap[g]? = some (.cells C ty fr)) (hC : C.size = 41) (hp : tmps.getD p undef = .pointer (some ⟨g, 0, none⟩)) :
    (results fn tmps).run Tryd.prog w = .ok (.agg C) w := by
  have hp' : tmps[p]?.getD undef = .pointer (some ⟨g, 0, none⟩) := by simpa using hp
  simp [results, h, hp', asAddr, run_loadVar_row (P := Tryd.prog) w g ty 59 C fr _ hg Tryd.underlying59 rfl (by rw [Tryd.isz59, hC])]
/-- The receipt that a call says. -/
def tRec (c : Cl) (seq : Int) : Rx := if c.answer = true then { Re.Plain.Rx.zero with kind := 3, saga := c.saga, seq := seq, step := c.step, tr := c.try_, bk := c.back, good := c.good, part := c.part, epoch := c.epoch, tag := c.tag.map fun (n : Nat) => (n : Int) } else Re.Plain.Rx.zero
def recC (c : Cl) (seq : Int) : Array Value := if c.answer = true then rcP c seq else Z30
theorem rcP_in (w : World) {c : Cl} (hl : c.tag.length = 32) (seq : Int) : RecIn w (rcP c seq) { Re.Plain.Rx.zero with kind := 3, saga := c.saga, seq := seq, step := c.step, tr := c.try_, bk := c.back, good := c.good, part := c.part, epoch := c.epoch, tag := c.tag.map fun (n : Nat) => (n : Int) } := by
  have h0 := Re.RecIn.zero w
  have h1 : RecIn w _ { Re.Plain.Rx.zero with kind := 3 } := h0.set_kind 3
  clear h0
  have h2 : RecIn w _ { Re.Plain.Rx.zero with kind := 3, saga := c.saga } := h1.set_saga c.saga
  clear h1
  have h3 : RecIn w _ { Re.Plain.Rx.zero with kind := 3, saga := c.saga, seq := seq } := h2.set_seq seq
  clear h2
  have h4 : RecIn w _ { Re.Plain.Rx.zero with kind := 3, saga := c.saga, seq := seq, step := c.step } := h3.set_step c.step
  clear h3
  have h5 : RecIn w _ { Re.Plain.Rx.zero with kind := 3, saga := c.saga, seq := seq, step := c.step, tr := c.try_ } := h4.set_tr c.try_
  clear h4
  have h6 : RecIn w _ { Re.Plain.Rx.zero with kind := 3, saga := c.saga, seq := seq, step := c.step, tr := c.try_, bk := c.back } := h5.set_bk c.back
  clear h5
  have h7 : RecIn w _ { Re.Plain.Rx.zero with kind := 3, saga := c.saga, seq := seq, step := c.step, tr := c.try_, bk := c.back, good := c.good } := h6.set_good c.good
  clear h6
  have h8 : RecIn w _ { Re.Plain.Rx.zero with kind := 3, saga := c.saga, seq := seq, step := c.step, tr := c.try_, bk := c.back, good := c.good, part := c.part } := h7.set_part c.part
  clear h7
  have h9 : RecIn w _ { Re.Plain.Rx.zero with kind := 3, saga := c.saga, seq := seq, step := c.step, tr := c.try_, bk := c.back, good := c.good, part := c.part, epoch := c.epoch } := h8.set_epoch c.epoch
  clear h8
  have h := h9.set_tag (l := c.tag.map fun (n : Nat) => (n : Int)) (by simp [hl])
  rw [puts_re, hbs_bys] at h
  exact h
theorem recC_in (w : World) {c : Cl} (hl : c.tag.length = 32) (seq : Int) : RecIn w (recC c seq) (tRec c seq) := by
  unfold recC tRec
  split
  · exact rcP_in w hl seq
  · exact Re.RecIn.zero w
theorem recC_size {c : Cl} (hl : c.tag.length = 32) (seq : Int) : (recC c seq).size = 109 := (recC_in default hl seq).size
theorem recC_one {c : Cl} (hl : c.tag.length = 32) (seq : Int) : (recC c seq).all (·.oneCell') = true := (recC_in default hl seq).one
set_option maxHeartbeats 4000000 in
theorem f_preceipt (c : Cl) (seq : Int) (w : World) (hl : c.tag.length = 32) : Calls Tryd.prog 43 #[.agg (clC c), .int .i64 seq] w (RPost (.agg (recC c seq)) w) := by
  have k1 := ((Kept.refl (fun _ => False) w).alloc (.cells (clC c) 59)).alloc (.cells Z30 30)
  have gc := heap_alloc2_old w (.cells (clC c) 59) (.cells Z30 30)
  have gz := heap_alloc2_new w (.cells (clC c) 59) (.cells Z30 30)
  have c0 := row_cell (k := 0) gc (v := .int .i64 c.saga) (by simp [clC])
  have c1 := row_cell (k := 1) gc (v := .int .i64 c.step) (by simp [clC])
  have c2 := row_cell (k := 2) gc (v := .int .i64 c.try_) (by simp [clC])
  have c3 := row_cell (k := 3) gc (v := .bool c.back) (by simp [clC])
  have c4 := row_cell (k := 4) gc (v := .int .i64 c.part) (by simp [clC])
  have c6 := row_cell (k := 6) gc (v := .bool c.answer) (by simp [clC])
  have c7 := row_cell (k := 7) gc (v := .bool c.good) (by simp [clC])
  have c8 := row_cell (k := 8) gc (v := .int .i64 c.epoch) (by simp [clC])
  have HT := Lib.hid (range_tag gc)
  have GZ := Lib.hid gz
  have K1 := Lib.hid k1
  have HZ := Lib.hid (recC_size hl seq)
  have HO := Lib.hid (recC_one hl seq)
  have HLT : Hid ((ints .u8 c.tag).size = 32) := by show _ = _; rw [ints_size, hl]
  have HL := Lib.hid hl
  clear gc gz k1 hl
  go_enter Tryd.func43, Tryd.ntmps43
  go_upto_region 1 with (first | fail | (with_reducible refine alloc30 ?_))
  generalize (w.alloc (.cells (clC c) 59)).alloc (.cells Z30 30) = w1 at *
  cases ha : c.answer with
  | false =>
    rw [ha] at c6
    have E : Hid (recC c seq = Z30) := by show _ = _; simp [recC, ha]
    rw [E.out] at HZ HO
    clear ha
    go_wp2_with (first | fail | (with_reducible refine Re.build30 ?_) | ((with_reducible refine store30 (C := Z30) ?_ ?_ GZ.out Z30_size HZ.out HO.out ?_); rfl; rfl))
    exact bodyPost_ret (results_30 rfl _ _ _ (setRow_heap _ _ _ _ _ _ GZ.out) Z30_size rfl) rfl (RPost.mk (by rw [E.out]) (K1.out.setRow (by omega) _))
  | true =>
    rw [ha] at c6
    have E : Hid (recC c seq = rcP c seq) := by show _ = _; simp [recC, ha]
    rw [E.out] at HZ HO
    clear ha
    go_wp2_with (first | fail | ((with_reducible refine load26 (C := ints .u8 c.tag) (g := w.heap.size) (o := 9) ?_ HT.out HLT.out ?_); rfl) | ((with_reducible refine build30p (c := c) (seq := seq) HL.out ?_ ?_ ?_ ?_ ?_ ?_ ?_ ?_ ?_ ?_); rfl; rfl; rfl; rfl; rfl; rfl; rfl; rfl; rfl) | ((with_reducible refine store30 (C := rcP c seq) ?_ ?_ GZ.out Z30_size HZ.out HO.out ?_); rfl; rfl))
    exact bodyPost_ret (results_30 rfl _ _ _ (setRow_heap _ _ _ _ _ _ GZ.out) HZ.out rfl) rfl (RPost.mk (by rw [E.out]) (K1.out.setRow (by omega) _))
end Go.Proofs.YtklmhegmombegaaDoor
namespace Go.Proofs.YtklmhegmombegaaDoor
open Go Go.RowKit Plain
set_option maxHeartbeats 8000000 in
theorem f_rpreceipt (c : Cl) (seq : Int) (w : World) (hl : c.tag.length = 32) : Calls Tryd.prog 44 #[.agg (clC c), .int .i64 seq] w (RPost (.agg (recC c seq)) w) := by
  have k1 := (((Kept.refl (fun _ => False) w).alloc (.cells (clC c) 59)).alloc (.cells Z30 30)).alloc (.cells Z30 30)
  obtain ⟨gc, gz, gy⟩ := heap_alloc3 w (.cells (clC c) 59) (.cells Z30 30) (.cells Z30 30)
  have c6 := row_cell (k := 6) gc (v := .bool c.answer) (by simp [clC])
  have GC0 := Lib.hid gc
  have GZ0 := Lib.hid gz
  have Y0 := Lib.hid gy
  have K0 := Lib.hid k1
  have HZ := Lib.hid (recC_size hl seq)
  have HO := Lib.hid (recC_one hl seq)
  have HLT : Hid ((ints .u8 c.tag).size = 32) := by show _ = _; rw [ints_size, hl]
  have HLO := Lib.hid (ints_one .u8 c.tag)
  clear gc gz gy k1 hl
  go_enter Tryd.func44, Tryd.ntmps44
  go_upto_region 2 with (first | fail | (with_reducible refine alloc30 ?_))
  generalize ((w.alloc (.cells (clC c) 59)).alloc (.cells Z30 30)).alloc (.cells Z30 30) = v0 at *
  cases ha : c.answer with
  | false =>
    rw [ha] at c6
    have E : Hid (recC c seq = Z30) := by show _ = _; simp [recC, ha]
    rw [E.out] at HZ HO
    clear ha
    go_wp2_with (first | fail | ((with_reducible refine load30 (C := Z30) (g := w.heap.size + 1 + 1) (o := 0) ?_ (range_row Y0.out) HZ.out ?_); rfl) | ((with_reducible refine store30 (C := Z30) ?_ ?_ GZ0.out Z30_size HZ.out HO.out ?_); rfl; rfl))
    exact bodyPost_ret (results_30 rfl _ _ _ (setRow_heap _ _ _ _ _ _ GZ0.out) Z30_size rfl) rfl (RPost.mk (by rw [E.out]) (K0.out.setRow (by omega) _))
  | true =>
    rw [ha] at c6
    have E : Hid (recC c seq = rcP c seq) := by show _ = _; simp [recC, ha]
    rw [E.out] at HZ HO
    clear ha
    go_upto_region 4 with (fail)
    clear c6
    have cy := row_cell (k := 0) Y0.out (v := .int .i64 0) rfl
    have fy := free_of_block (j := 0) Y0.out
    go_upto_region 5 with (fail)
    clear cy fy
    have ks := (Kept.refl (fun i => i = w.heap.size + 1 + 1) v0).setCell (p := ⟨w.heap.size + 1 + 1, 0, none⟩) (.inl rfl) (.int .i64 3)
    have Y1 := Lib.hid (setCell_block (k := 0) Y0.out (.int .i64 3))
    have GC1 := Lib.hid (ks.rowS (by omega) GC0.out)
    have GZ1 := Lib.hid (ks.rowS (by omega) GZ0.out)
    have K1 := Lib.hid (K0.out.trans' ks (fun i hi e => by omega))
    clear ks GC0 GZ0 K0 Y0
    generalize v0.setCell ⟨w.heap.size + 1 + 1, 0, none⟩ (.int .i64 3) = v1 at *
    have cy := row_cell (k := 1) Y1.out (v := .int .i64 0) rfl
    have fy := free_of_block (j := 1) Y1.out
    have cc := row_cell (k := 0) GC1.out (v := .int .i64 c.saga) (by simp [clC])
    go_upto_region 6 with (fail)
    clear cy fy cc
    have ks := (Kept.refl (fun i => i = w.heap.size + 1 + 1) v1).setCell (p := ⟨w.heap.size + 1 + 1, 1, none⟩) (.inl rfl) (.int .i64 c.saga)
    have Y2 := Lib.hid (setCell_block (k := 1) Y1.out (.int .i64 c.saga))
    have GC2 := Lib.hid (ks.rowS (by omega) GC1.out)
    have GZ2 := Lib.hid (ks.rowS (by omega) GZ1.out)
    have K2 := Lib.hid (K1.out.trans' ks (fun i hi e => by omega))
    clear ks GC1 GZ1 K1 Y1
    generalize v1.setCell ⟨w.heap.size + 1 + 1, 1, none⟩ (.int .i64 c.saga) = v2 at *
    have cy := row_cell (k := 2) Y2.out (v := .int .i64 0) rfl
    have fy := free_of_block (j := 2) Y2.out
    go_upto_region 7 with (fail)
    clear cy fy
    have ks := (Kept.refl (fun i => i = w.heap.size + 1 + 1) v2).setCell (p := ⟨w.heap.size + 1 + 1, 2, none⟩) (.inl rfl) (.int .i64 seq)
    have Y3 := Lib.hid (setCell_block (k := 2) Y2.out (.int .i64 seq))
    have GC3 := Lib.hid (ks.rowS (by omega) GC2.out)
    have GZ3 := Lib.hid (ks.rowS (by omega) GZ2.out)
    have K3 := Lib.hid (K2.out.trans' ks (fun i hi e => by omega))
    clear ks GC2 GZ2 K2 Y2
    generalize v2.setCell ⟨w.heap.size + 1 + 1, 2, none⟩ (.int .i64 seq) = v3 at *
    have cy := row_cell (k := 3) Y3.out (v := .int .i64 0) rfl
    have fy := free_of_block (j := 3) Y3.out
    have cc := row_cell (k := 1) GC3.out (v := .int .i64 c.step) (by simp [clC])
    go_upto_region 8 with (fail)
    clear cy fy cc
    have ks := (Kept.refl (fun i => i = w.heap.size + 1 + 1) v3).setCell (p := ⟨w.heap.size + 1 + 1, 3, none⟩) (.inl rfl) (.int .i64 c.step)
    have Y4 := Lib.hid (setCell_block (k := 3) Y3.out (.int .i64 c.step))
    have GC4 := Lib.hid (ks.rowS (by omega) GC3.out)
    have GZ4 := Lib.hid (ks.rowS (by omega) GZ3.out)
    have K4 := Lib.hid (K3.out.trans' ks (fun i hi e => by omega))
    clear ks GC3 GZ3 K3 Y3
    generalize v3.setCell ⟨w.heap.size + 1 + 1, 3, none⟩ (.int .i64 c.step) = v4 at *
    have cy := row_cell (k := 4) Y4.out (v := .int .i64 0) rfl
    have fy := free_of_block (j := 4) Y4.out
    have cc := row_cell (k := 2) GC4.out (v := .int .i64 c.try_) (by simp [clC])
    go_upto_region 9 with (fail)
    clear cy fy cc
    have ks := (Kept.refl (fun i => i = w.heap.size + 1 + 1) v4).setCell (p := ⟨w.heap.size + 1 + 1, 4, none⟩) (.inl rfl) (.int .i64 c.try_)
    have Y5 := Lib.hid (setCell_block (k := 4) Y4.out (.int .i64 c.try_))
    have GC5 := Lib.hid (ks.rowS (by omega) GC4.out)
    have GZ5 := Lib.hid (ks.rowS (by omega) GZ4.out)
    have K5 := Lib.hid (K4.out.trans' ks (fun i hi e => by omega))
    clear ks GC4 GZ4 K4 Y4
    generalize v4.setCell ⟨w.heap.size + 1 + 1, 4, none⟩ (.int .i64 c.try_) = v5 at *
    have cy := row_cell (k := 5) Y5.out (v := .bool false) rfl
    have fy := free_of_block (j := 5) Y5.out
    have cc := row_cell (k := 3) GC5.out (v := .bool c.back) (by simp [clC])
    go_upto_region 10 with (fail)
    clear cy fy cc
    have ks := (Kept.refl (fun i => i = w.heap.size + 1 + 1) v5).setCell (p := ⟨w.heap.size + 1 + 1, 5, none⟩) (.inl rfl) (.bool c.back)
    have Y6 := Lib.hid (setCell_block (k := 5) Y5.out (.bool c.back))
    have GC6 := Lib.hid (ks.rowS (by omega) GC5.out)
    have GZ6 := Lib.hid (ks.rowS (by omega) GZ5.out)
    have K6 := Lib.hid (K5.out.trans' ks (fun i hi e => by omega))
    clear ks GC5 GZ5 K5 Y5
    generalize v5.setCell ⟨w.heap.size + 1 + 1, 5, none⟩ (.bool c.back) = v6 at *
    have cy := row_cell (k := 6) Y6.out (v := .bool false) rfl
    have fy := free_of_block (j := 6) Y6.out
    have cc := row_cell (k := 7) GC6.out (v := .bool c.good) (by simp [clC])
    go_upto_region 11 with (fail)
    clear cy fy cc
    have ks := (Kept.refl (fun i => i = w.heap.size + 1 + 1) v6).setCell (p := ⟨w.heap.size + 1 + 1, 6, none⟩) (.inl rfl) (.bool c.good)
    have Y7 := Lib.hid (setCell_block (k := 6) Y6.out (.bool c.good))
    have GC7 := Lib.hid (ks.rowS (by omega) GC6.out)
    have GZ7 := Lib.hid (ks.rowS (by omega) GZ6.out)
    have K7 := Lib.hid (K6.out.trans' ks (fun i hi e => by omega))
    clear ks GC6 GZ6 K6 Y6
    generalize v6.setCell ⟨w.heap.size + 1 + 1, 6, none⟩ (.bool c.good) = v7 at *
    have cy := row_cell (k := 8) Y7.out (v := .int .i64 0) rfl
    have fy := free_of_block (j := 8) Y7.out
    have cc := row_cell (k := 4) GC7.out (v := .int .i64 c.part) (by simp [clC])
    go_upto_region 12 with (fail)
    clear cy fy cc
    have ks := (Kept.refl (fun i => i = w.heap.size + 1 + 1) v7).setCell (p := ⟨w.heap.size + 1 + 1, 8, none⟩) (.inl rfl) (.int .i64 c.part)
    have Y8 := Lib.hid (setCell_block (k := 8) Y7.out (.int .i64 c.part))
    have GC8 := Lib.hid (ks.rowS (by omega) GC7.out)
    have GZ8 := Lib.hid (ks.rowS (by omega) GZ7.out)
    have K8 := Lib.hid (K7.out.trans' ks (fun i hi e => by omega))
    clear ks GC7 GZ7 K7 Y7
    generalize v7.setCell ⟨w.heap.size + 1 + 1, 8, none⟩ (.int .i64 c.part) = v8 at *
    have cy := row_cell (k := 9) Y8.out (v := .int .i64 0) rfl
    have fy := free_of_block (j := 9) Y8.out
    have cc := row_cell (k := 8) GC8.out (v := .int .i64 c.epoch) (by simp [clC])
    go_upto_region 13 with (fail)
    clear cy fy cc
    have ks := (Kept.refl (fun i => i = w.heap.size + 1 + 1) v8).setCell (p := ⟨w.heap.size + 1 + 1, 9, none⟩) (.inl rfl) (.int .i64 c.epoch)
    have Y9 := Lib.hid (setCell_block (k := 9) Y8.out (.int .i64 c.epoch))
    have GC9 := Lib.hid (ks.rowS (by omega) GC8.out)
    have GZ9 := Lib.hid (ks.rowS (by omega) GZ8.out)
    have K9 := Lib.hid (K8.out.trans' ks (fun i hi e => by omega))
    clear ks GC8 GZ8 K8 Y8
    generalize v8.setCell ⟨w.heap.size + 1 + 1, 9, none⟩ (.int .i64 c.epoch) = v9 at *
    have hy := Lib.hid (show 10 + 32 ≤ (((((((((Z30.setIfInBounds 0 (.int .i64 3)).setIfInBounds 1 (.int .i64 c.saga)).setIfInBounds 2 (.int .i64 seq)).setIfInBounds 3 (.int .i64 c.step)).setIfInBounds 4 (.int .i64 c.try_)).setIfInBounds 5 (.bool c.back)).setIfInBounds 6 (.bool c.good)).setIfInBounds 8 (.int .i64 c.part)).setIfInBounds 9 (.int .i64 c.epoch)).size by simp only [Array.size_setIfInBounds]; decide)
    have HT := Lib.hid (range_tag GC9.out)
    go_upto_region 14 with (first | fail | ((with_reducible refine load26 (C := ints .u8 c.tag) (g := w.heap.size) (o := 9) ?_ HT.out HLT.out ?_); rfl) | ((with_reducible refine put26 (C := ints .u8 c.tag) (g := w.heap.size + 1 + 1) (o := 10) ?_ ?_ HLT.out HLO.out Y9.out hy.out ?_); rfl; rfl; intro wx gx kx))
    have YX : Hid (wx.heap[w.heap.size + 1 + 1]? = some (.cells (rcP c seq) 30 (0, 0))) := gx
    have GZX := Lib.hid (kx.rowS (by omega) GZ9.out)
    have KX := Lib.hid (K9.out.trans' kx (fun i hi e => by omega))
    clear gx kx hy HT Y9 GC9 GZ9 K9
    go_wp2_with (first | fail | ((with_reducible refine load30 (C := rcP c seq) (g := w.heap.size + 1 + 1) (o := 0) ?_ (range_row YX.out) HZ.out ?_); rfl) | ((with_reducible refine store30 (C := rcP c seq) ?_ ?_ GZX.out Z30_size HZ.out HO.out ?_); rfl; rfl))
    exact bodyPost_ret (results_30 rfl _ _ _ (setRow_heap _ _ _ _ _ _ GZX.out) HZ.out rfl) rfl (RPost.mk (by rw [E.out]) (KX.out.setRow (by omega) _))
end Go.Proofs.YtklmhegmombegaaDoor
