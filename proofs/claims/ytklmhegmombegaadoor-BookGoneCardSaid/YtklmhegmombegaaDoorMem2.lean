/-
  Checkpoints, signatures, records as whole values in memory. Conditions: as each theorem says.
-/
import Derived.Test.YtklmhegmombegaaDoorOfA
set_option linter.unusedVariables false
set_option linter.unusedSimpArgs false
namespace Go.Proofs.YtklmhegmombegaaDoor
open Go Go.RowKit Plain

section
variable {ops : Array Oper} {rest : List Oper} {dst : Option Tmp} {ty : TypeId} {pos : String} {aft : Array Edge} {gd : Option (Nat × Bool)} {a : Act} {w : World} {Q : Exit → Act → World → Prop} {K : Act → World → Prop} {E : Prop} {S : World → Prop} {x y : Operand} {g o : Nat} {C cur : Array Value}

/-! ## Type 40: 34 cells -/
theorem Tryd.isz40 : (Tryd.prog.info? 40).map (·.size) = some 34 := by kernel_rfl
theorem load40 (hx : a.eval x = .pointer (some ⟨g, o, none⟩)) (hc : w.rangeAt g o C.toList) (hC : C.size = 34)
    (h : wpList Tryd.prog ops Q rest (a.put dst (.agg C)) w) : wpList Tryd.prog ops Q (⟨dst, .load 40 x, ty, pos, aft, none⟩ :: rest) a w := by
  have := wpList_load_mid (P := Tryd.prog) (ops := ops) (rest := rest) (op := ⟨dst, .load 40 x, ty, pos, aft, none⟩) (a := a) (w := w) (Q := Q) rfl 40 x rfl g o hx C.toList _ hc Tryd.underlying40 rfl (by rw [Tryd.isz40]; simp [hC])
  simp only [Array.toArray_toList] at this
  exact this h
theorem load40g (hw : Region.wanted ⟨dst, .load 40 x, ty, pos, aft, gd⟩ (yielded ops a.tmps) = true) (hx : a.eval x = .pointer (some ⟨g, o, none⟩)) (hc : w.rangeAt g o C.toList) (hC : C.size = 34)
    (h : wpList Tryd.prog ops Q rest (a.put dst (.agg C)) w) : wpList Tryd.prog ops Q (⟨dst, .load 40 x, ty, pos, aft, gd⟩ :: rest) a w := wpList_on hw (load40 hx hc hC h)
theorem store40 {old : Array Value} {t' : TypeId} (hx : a.eval x = .pointer (some ⟨g, 0, none⟩)) (hy : a.eval y = .agg C) (hg : w.heap[g]? = some (.cells old t' (0, 0))) (ho : old.size = 34) (hC : C.size = 34) (h1 : C.all (·.oneCell') = true)
    (h : wpList Tryd.prog ops Q rest (a.put dst undef) (w.setRow g C)) : wpList Tryd.prog ops Q (⟨dst, .store 40 x y, ty, pos, aft, none⟩ :: rest) a w :=
  wpList_store_row (P := Tryd.prog) (o := ⟨dst, .store 40 x y, ty, pos, aft, none⟩) rfl 40 x y rfl g C hx hy t' old hg (by rw [Tryd.isz40, hC]) (by rw [ho, hC]) h1 h
theorem put40 {t' : TypeId} (hx : a.eval x = .pointer (some ⟨g, o, none⟩)) (hy : a.eval y = .agg C) (hC : C.size = 34) (h1 : C.all (·.oneCell') = true) (hg : w.heap[g]? = some (.cells cur t' (0, 0))) (ho : o + 34 ≤ cur.size)
    (h : ∀ w', w'.heap[g]? = some (.cells (puts cur o C.toList) t' (0, 0)) → Kept (fun i => i = g) w w' → wpList Tryd.prog ops Q rest (a.put dst undef) w') :
    wpList Tryd.prog ops Q (⟨dst, .store 40 x y, ty, pos, aft, none⟩ :: rest) a w := by
  refine wpList_store_mid (P := Tryd.prog) rfl 40 x y rfl g o _ hx hy (fun j hj => ?_) (by rw [Tryd.isz40, hC]) h1 ?_
  · refine ⟨?_, free_of_block hg⟩
    rw [cell_of_block hg (by omega)]; rfl
  · exact h _ (setCells_block _ _ _ _ hg) (setCells_kept _ _ _)
theorem yields40 (hw : Region.wanted ⟨dst, .load 40 x, ty, pos, aft, gd⟩ (yielded ops a.tmps) = true) (hx : a.eval x = .pointer (some ⟨g, o, none⟩)) (hg : ∀ w, S w → w.rangeAt g o C.toList) (hC : C.size = 34) :
    YieldsIf Tryd.prog ops S ⟨dst, .load 40 x, ty, pos, aft, gd⟩ (.agg C) a := by
  refine .inl ⟨hw, fun w hS => ?_⟩
  have hl := run_loadAt_mid (P := Tryd.prog) w g o 40 C.toList _ (hg w hS) Tryd.underlying40 rfl (by rw [Tryd.isz40]; simp [hC])
  rw [Array.toArray_toList] at hl
  unfold execOp
  simp only [hx, Sem.run_bind, hl, Result.andThen_ok, Sem.run_pure]
theorem step_store40 {t' : TypeId} (hw : Region.wanted ⟨dst, .store 40 x y, ty, pos, aft, gd⟩ (yielded ops a.tmps) = true) (hx : a.eval x = .pointer (some ⟨g, o, none⟩)) (hy : a.eval y = .agg C) (hC : C.size = 34) (h1 : C.all (·.oneCell') = true) (hg : w.heap[g]? = some (.cells cur t' (0, 0))) (ho : o + 34 ≤ cur.size)
    (h : ∀ w', w'.heap[g]? = some (.cells (puts cur o C.toList) t' (0, 0)) → Kept (fun i => i = g) w w' → K (a.put dst undef) w') :
    if Region.wanted ⟨dst, .store 40 x y, ty, pos, aft, gd⟩ (yielded ops a.tmps) = true then Oper.wp Tryd.prog ⟨dst, .store 40 x y, ty, pos, aft, gd⟩ a w K Q else E := by
  rw [if_pos hw]
  refine wp_store_mid (P := Tryd.prog) 40 x y rfl g o _ hx hy (fun j hj => ?_) (by rw [Tryd.isz40, hC]) h1 ?_
  · refine ⟨?_, free_of_block hg⟩
    rw [cell_of_block hg (by omega)]; rfl
  · exact h _ (setCells_block _ _ _ _ hg) (setCells_kept _ _ _)

/-! ## Type 49: 33 cells -/
theorem Tryd.isz49 : (Tryd.prog.info? 49).map (·.size) = some 33 := by kernel_rfl
theorem load49 (hx : a.eval x = .pointer (some ⟨g, o, none⟩)) (hc : w.rangeAt g o C.toList) (hC : C.size = 33)
    (h : wpList Tryd.prog ops Q rest (a.put dst (.agg C)) w) : wpList Tryd.prog ops Q (⟨dst, .load 49 x, ty, pos, aft, none⟩ :: rest) a w := by
  have := wpList_load_mid (P := Tryd.prog) (ops := ops) (rest := rest) (op := ⟨dst, .load 49 x, ty, pos, aft, none⟩) (a := a) (w := w) (Q := Q) rfl 49 x rfl g o hx C.toList _ hc Tryd.underlying49 rfl (by rw [Tryd.isz49]; simp [hC])
  simp only [Array.toArray_toList] at this
  exact this h
theorem load49g (hw : Region.wanted ⟨dst, .load 49 x, ty, pos, aft, gd⟩ (yielded ops a.tmps) = true) (hx : a.eval x = .pointer (some ⟨g, o, none⟩)) (hc : w.rangeAt g o C.toList) (hC : C.size = 33)
    (h : wpList Tryd.prog ops Q rest (a.put dst (.agg C)) w) : wpList Tryd.prog ops Q (⟨dst, .load 49 x, ty, pos, aft, gd⟩ :: rest) a w := wpList_on hw (load49 hx hc hC h)
theorem store49 {old : Array Value} {t' : TypeId} (hx : a.eval x = .pointer (some ⟨g, 0, none⟩)) (hy : a.eval y = .agg C) (hg : w.heap[g]? = some (.cells old t' (0, 0))) (ho : old.size = 33) (hC : C.size = 33) (h1 : C.all (·.oneCell') = true)
    (h : wpList Tryd.prog ops Q rest (a.put dst undef) (w.setRow g C)) : wpList Tryd.prog ops Q (⟨dst, .store 49 x y, ty, pos, aft, none⟩ :: rest) a w :=
  wpList_store_row (P := Tryd.prog) (o := ⟨dst, .store 49 x y, ty, pos, aft, none⟩) rfl 49 x y rfl g C hx hy t' old hg (by rw [Tryd.isz49, hC]) (by rw [ho, hC]) h1 h
theorem put49 {t' : TypeId} (hx : a.eval x = .pointer (some ⟨g, o, none⟩)) (hy : a.eval y = .agg C) (hC : C.size = 33) (h1 : C.all (·.oneCell') = true) (hg : w.heap[g]? = some (.cells cur t' (0, 0))) (ho : o + 33 ≤ cur.size)
    (h : ∀ w', w'.heap[g]? = some (.cells (puts cur o C.toList) t' (0, 0)) → Kept (fun i => i = g) w w' → wpList Tryd.prog ops Q rest (a.put dst undef) w') :
    wpList Tryd.prog ops Q (⟨dst, .store 49 x y, ty, pos, aft, none⟩ :: rest) a w := by
  refine wpList_store_mid (P := Tryd.prog) rfl 49 x y rfl g o _ hx hy (fun j hj => ?_) (by rw [Tryd.isz49, hC]) h1 ?_
  · refine ⟨?_, free_of_block hg⟩
    rw [cell_of_block hg (by omega)]; rfl
  · exact h _ (setCells_block _ _ _ _ hg) (setCells_kept _ _ _)
theorem yields49 (hw : Region.wanted ⟨dst, .load 49 x, ty, pos, aft, gd⟩ (yielded ops a.tmps) = true) (hx : a.eval x = .pointer (some ⟨g, o, none⟩)) (hg : ∀ w, S w → w.rangeAt g o C.toList) (hC : C.size = 33) :
    YieldsIf Tryd.prog ops S ⟨dst, .load 49 x, ty, pos, aft, gd⟩ (.agg C) a := by
  refine .inl ⟨hw, fun w hS => ?_⟩
  have hl := run_loadAt_mid (P := Tryd.prog) w g o 49 C.toList _ (hg w hS) Tryd.underlying49 rfl (by rw [Tryd.isz49]; simp [hC])
  rw [Array.toArray_toList] at hl
  unfold execOp
  simp only [hx, Sem.run_bind, hl, Result.andThen_ok, Sem.run_pure]
theorem step_store49 {t' : TypeId} (hw : Region.wanted ⟨dst, .store 49 x y, ty, pos, aft, gd⟩ (yielded ops a.tmps) = true) (hx : a.eval x = .pointer (some ⟨g, o, none⟩)) (hy : a.eval y = .agg C) (hC : C.size = 33) (h1 : C.all (·.oneCell') = true) (hg : w.heap[g]? = some (.cells cur t' (0, 0))) (ho : o + 33 ≤ cur.size)
    (h : ∀ w', w'.heap[g]? = some (.cells (puts cur o C.toList) t' (0, 0)) → Kept (fun i => i = g) w w' → K (a.put dst undef) w') :
    if Region.wanted ⟨dst, .store 49 x y, ty, pos, aft, gd⟩ (yielded ops a.tmps) = true then Oper.wp Tryd.prog ⟨dst, .store 49 x y, ty, pos, aft, gd⟩ a w K Q else E := by
  rw [if_pos hw]
  refine wp_store_mid (P := Tryd.prog) 49 x y rfl g o _ hx hy (fun j hj => ?_) (by rw [Tryd.isz49, hC]) h1 ?_
  · refine ⟨?_, free_of_block hg⟩
    rw [cell_of_block hg (by omega)]; rfl
  · exact h _ (setCells_block _ _ _ _ hg) (setCells_kept _ _ _)

/-! ## Type 30: 109 cells -/
theorem Tryd.isz30 : (Tryd.prog.info? 30).map (·.size) = some 109 := by kernel_rfl
theorem load30 (hx : a.eval x = .pointer (some ⟨g, o, none⟩)) (hc : w.rangeAt g o C.toList) (hC : C.size = 109)
    (h : wpList Tryd.prog ops Q rest (a.put dst (.agg C)) w) : wpList Tryd.prog ops Q (⟨dst, .load 30 x, ty, pos, aft, none⟩ :: rest) a w := by
  have := wpList_load_mid (P := Tryd.prog) (ops := ops) (rest := rest) (op := ⟨dst, .load 30 x, ty, pos, aft, none⟩) (a := a) (w := w) (Q := Q) rfl 30 x rfl g o hx C.toList _ hc Tryd.underlying30 rfl (by rw [Tryd.isz30]; simp [hC])
  simp only [Array.toArray_toList] at this
  exact this h
theorem load30g (hw : Region.wanted ⟨dst, .load 30 x, ty, pos, aft, gd⟩ (yielded ops a.tmps) = true) (hx : a.eval x = .pointer (some ⟨g, o, none⟩)) (hc : w.rangeAt g o C.toList) (hC : C.size = 109)
    (h : wpList Tryd.prog ops Q rest (a.put dst (.agg C)) w) : wpList Tryd.prog ops Q (⟨dst, .load 30 x, ty, pos, aft, gd⟩ :: rest) a w := wpList_on hw (load30 hx hc hC h)
theorem store30 {old : Array Value} {t' : TypeId} (hx : a.eval x = .pointer (some ⟨g, 0, none⟩)) (hy : a.eval y = .agg C) (hg : w.heap[g]? = some (.cells old t' (0, 0))) (ho : old.size = 109) (hC : C.size = 109) (h1 : C.all (·.oneCell') = true)
    (h : wpList Tryd.prog ops Q rest (a.put dst undef) (w.setRow g C)) : wpList Tryd.prog ops Q (⟨dst, .store 30 x y, ty, pos, aft, none⟩ :: rest) a w :=
  wpList_store_row (P := Tryd.prog) (o := ⟨dst, .store 30 x y, ty, pos, aft, none⟩) rfl 30 x y rfl g C hx hy t' old hg (by rw [Tryd.isz30, hC]) (by rw [ho, hC]) h1 h
theorem put30 {t' : TypeId} (hx : a.eval x = .pointer (some ⟨g, o, none⟩)) (hy : a.eval y = .agg C) (hC : C.size = 109) (h1 : C.all (·.oneCell') = true) (hg : w.heap[g]? = some (.cells cur t' (0, 0))) (ho : o + 109 ≤ cur.size)
    (h : ∀ w', w'.heap[g]? = some (.cells (puts cur o C.toList) t' (0, 0)) → Kept (fun i => i = g) w w' → wpList Tryd.prog ops Q rest (a.put dst undef) w') :
    wpList Tryd.prog ops Q (⟨dst, .store 30 x y, ty, pos, aft, none⟩ :: rest) a w := by
  refine wpList_store_mid (P := Tryd.prog) rfl 30 x y rfl g o _ hx hy (fun j hj => ?_) (by rw [Tryd.isz30, hC]) h1 ?_
  · refine ⟨?_, free_of_block hg⟩
    rw [cell_of_block hg (by omega)]; rfl
  · exact h _ (setCells_block _ _ _ _ hg) (setCells_kept _ _ _)
theorem yields30 (hw : Region.wanted ⟨dst, .load 30 x, ty, pos, aft, gd⟩ (yielded ops a.tmps) = true) (hx : a.eval x = .pointer (some ⟨g, o, none⟩)) (hg : ∀ w, S w → w.rangeAt g o C.toList) (hC : C.size = 109) :
    YieldsIf Tryd.prog ops S ⟨dst, .load 30 x, ty, pos, aft, gd⟩ (.agg C) a := by
  refine .inl ⟨hw, fun w hS => ?_⟩
  have hl := run_loadAt_mid (P := Tryd.prog) w g o 30 C.toList _ (hg w hS) Tryd.underlying30 rfl (by rw [Tryd.isz30]; simp [hC])
  rw [Array.toArray_toList] at hl
  unfold execOp
  simp only [hx, Sem.run_bind, hl, Result.andThen_ok, Sem.run_pure]
theorem step_store30 {t' : TypeId} (hw : Region.wanted ⟨dst, .store 30 x y, ty, pos, aft, gd⟩ (yielded ops a.tmps) = true) (hx : a.eval x = .pointer (some ⟨g, o, none⟩)) (hy : a.eval y = .agg C) (hC : C.size = 109) (h1 : C.all (·.oneCell') = true) (hg : w.heap[g]? = some (.cells cur t' (0, 0))) (ho : o + 109 ≤ cur.size)
    (h : ∀ w', w'.heap[g]? = some (.cells (puts cur o C.toList) t' (0, 0)) → Kept (fun i => i = g) w w' → K (a.put dst undef) w') :
    if Region.wanted ⟨dst, .store 30 x y, ty, pos, aft, gd⟩ (yielded ops a.tmps) = true then Oper.wp Tryd.prog ⟨dst, .store 30 x y, ty, pos, aft, gd⟩ a w K Q else E := by
  rw [if_pos hw]
  refine wp_store_mid (P := Tryd.prog) 30 x y rfl g o _ hx hy (fun j hj => ?_) (by rw [Tryd.isz30, hC]) h1 ?_
  · refine ⟨?_, free_of_block hg⟩
    rw [cell_of_block hg (by omega)]; rfl
  · exact h _ (setCells_block _ _ _ _ hg) (setCells_kept _ _ _)

/-! ## New variables -/
def Z40 : Array Value := (Value.int .i64 0 :: (bys z32n ++ [.slice none 0 0])).toArray
def Z49 : Array Value := (Value.int .i64 0 :: bys z32n).toArray
def Z30 : Array Value := Re.Z30
theorem Z40_size : Z40.size = 34 := by simp [Z40, bys, z32n]
theorem Z49_size : Z49.size = 33 := by simp [Z49, bys, z32n]
theorem Z30_size : Z30.size = 109 := by rfl
theorem alloc40 (h : wpList Tryd.prog ops Q rest (a.put dst (.pointer (some ⟨w.heap.size, 0, none⟩))) (w.alloc (.cells Z40 40))) : wpList Tryd.prog ops Q (⟨dst, .alloc 40, ty, pos, aft, none⟩ :: rest) a w := by
  refine wpList_plain rfl fun K hK => ?_
  go_simp
  exact hK _ _ h
theorem step_alloc40 (hw : Region.wanted ⟨dst, .alloc 40, ty, pos, aft, gd⟩ (yielded ops a.tmps) = true) (h : K (a.put dst (.pointer (some ⟨w.heap.size, 0, none⟩))) (w.alloc (.cells Z40 40))) :
    if Region.wanted ⟨dst, .alloc 40, ty, pos, aft, gd⟩ (yielded ops a.tmps) = true then Oper.wp Tryd.prog ⟨dst, .alloc 40, ty, pos, aft, gd⟩ a w K Q else E := by
  rw [if_pos hw]
  go_simp
  exact h
theorem alloc49 (h : wpList Tryd.prog ops Q rest (a.put dst (.pointer (some ⟨w.heap.size, 0, none⟩))) (w.alloc (.cells Z49 49))) : wpList Tryd.prog ops Q (⟨dst, .alloc 49, ty, pos, aft, none⟩ :: rest) a w := by
  refine wpList_plain rfl fun K hK => ?_
  go_simp
  exact hK _ _ h
theorem step_alloc49 (hw : Region.wanted ⟨dst, .alloc 49, ty, pos, aft, gd⟩ (yielded ops a.tmps) = true) (h : K (a.put dst (.pointer (some ⟨w.heap.size, 0, none⟩))) (w.alloc (.cells Z49 49))) :
    if Region.wanted ⟨dst, .alloc 49, ty, pos, aft, gd⟩ (yielded ops a.tmps) = true then Oper.wp Tryd.prog ⟨dst, .alloc 49, ty, pos, aft, gd⟩ a w K Q else E := by
  rw [if_pos hw]
  go_simp
  exact h
theorem alloc30 (h : wpList Tryd.prog ops Q rest (a.put dst (.pointer (some ⟨w.heap.size, 0, none⟩))) (w.alloc (.cells Z30 30))) : wpList Tryd.prog ops Q (⟨dst, .alloc 30, ty, pos, aft, none⟩ :: rest) a w := by
  refine wpList_plain rfl fun K hK => ?_
  go_simp
  exact hK _ _ h
theorem step_alloc30 (hw : Region.wanted ⟨dst, .alloc 30, ty, pos, aft, gd⟩ (yielded ops a.tmps) = true) (h : K (a.put dst (.pointer (some ⟨w.heap.size, 0, none⟩))) (w.alloc (.cells Z30 30))) :
    if Region.wanted ⟨dst, .alloc 30, ty, pos, aft, gd⟩ (yielded ops a.tmps) = true then Oper.wp Tryd.prog ⟨dst, .alloc 30, ty, pos, aft, gd⟩ a w K Q else E := by
  rw [if_pos hw]
  go_simp
  exact h
end
theorem results_40 {fn : Func} {p : Tmp} (h : fn.results = #[.cell p 40]) (tmps : Array Value) (w : World) (g : Nat) {C : Array Value} {ty : TypeId} {fr : Nat × Nat}
    (hg : w.heap[g]? = some (.cells C ty fr)) (hC : C.size = 34) (hp : tmps.getD p undef = .pointer (some ⟨g, 0, none⟩)) :
    (results fn tmps).run Tryd.prog w = .ok (.agg C) w := by
  have hp' : tmps[p]?.getD undef = .pointer (some ⟨g, 0, none⟩) := by simpa using hp
  simp [results, h, hp', asAddr, run_loadVar_row (P := Tryd.prog) w g ty 40 C fr _ hg Tryd.underlying40 rfl (by rw [Tryd.isz40, hC])]
theorem results_49 {fn : Func} {p : Tmp} (h : fn.results = #[.cell p 49]) (tmps : Array Value) (w : World) (g : Nat) {C : Array Value} {ty : TypeId} {fr : Nat × Nat}
    (hg : w.heap[g]? = some (.cells C ty fr)) (hC : C.size = 33) (hp : tmps.getD p undef = .pointer (some ⟨g, 0, none⟩)) :
    (results fn tmps).run Tryd.prog w = .ok (.agg C) w := by
  have hp' : tmps[p]?.getD undef = .pointer (some ⟨g, 0, none⟩) := by simpa using hp
  simp [results, h, hp', asAddr, run_loadVar_row (P := Tryd.prog) w g ty 49 C fr _ hg Tryd.underlying49 rfl (by rw [Tryd.isz49, hC])]
theorem results_30 {fn : Func} {p : Tmp} (h : fn.results = #[.cell p 30]) (tmps : Array Value) (w : World) (g : Nat) {C : Array Value} {ty : TypeId} {fr : Nat × Nat}
    (hg : w.heap[g]? = some (.cells C ty fr)) (hC : C.size = 109) (hp : tmps.getD p undef = .pointer (some ⟨g, 0, none⟩)) :
    (results fn tmps).run Tryd.prog w = .ok (.agg C) w := by
  have hp' : tmps[p]?.getD undef = .pointer (some ⟨g, 0, none⟩) := by simpa using hp
  simp [results, h, hp', asAddr, run_loadVar_row (P := Tryd.prog) w g ty 30 C fr _ hg Tryd.underlying30 rfl (by rw [Tryd.isz30, hC])]
end Go.Proofs.YtklmhegmombegaaDoor
