/-
  Numbers in memory; whole arrays read, written, made. Conditions: as each theorem says.
-/
import Derived.Test.YtklmhegmombegaaDoorShaA
import Derived.Deep.MidRow
import Derived.Deep.RegionHeld
import Derived.StillTailTactics
import Derived.Deep.DrawnRows
import Derived.Laws.CopyOwn
import Derived.Deep.DeepCutAuto
import Derived.Deep.CutBlock
set_option linter.unusedVariables false
set_option linter.unusedSimpArgs false
namespace Go.Proofs.YtklmhegmombegaaDoor
open Go Go.RowKit Plain

/-- Cells that hold numbers. -/
def ints (k : IntKind) (l : List Nat) : Array Value := (l.map fun (n : Nat) => Value.int k (n : Int)).toArray
theorem ints_size (k : IntKind) (l : List Nat) : (ints k l).size = l.length := by simp [ints]
theorem ints_get (k : IntKind) {l : List Nat} {i : Nat} (h : i < l.length) : (ints k l)[i]? = some (.int k ((l.getD i 0 : Nat) : Int)) := by simp [ints, List.getD_eq_getElem?_getD, List.getElem?_eq_getElem h]
theorem ints_set (k : IntKind) (l : List Nat) (i n : Nat) : (ints k l).setIfInBounds i (.int k (n : Int)) = ints k (l.set i n) := by
  unfold ints
  rw [List.setIfInBounds_toArray, List.map_set]
theorem ints_one (k : IntKind) (l : List Nat) : (ints k l).all (·.oneCell') = true := by
  unfold ints
  simp [Value.oneCell']
theorem ints_toList (k : IntKind) (l : List Nat) : (ints k l).toList = l.map fun (n : Nat) => Value.int k (n : Int) := by simp [ints]
theorem row_cell {w : World} {g k : Nat} {C : Array Value} {t : TypeId} {v : Value} (hg : w.heap[g]? = some (.cells C t (0, 0))) (h : C[k]? = some v) : w.cell? ⟨g, k, none⟩ = some v := (cell_of_row _ _ _ _ _ _ hg).trans h
theorem ints_cell {w : World} {g : Nat} {k : IntKind} {l : List Nat} {t : TypeId} (hg : w.heap[g]? = some (.cells (ints k l) t (0, 0))) {i : Nat} (h : i < l.length) : w.cell? ⟨g, i, none⟩ = some (.int k ((l.getD i 0 : Nat) : Int)) := row_cell hg (ints_get k h)
theorem row_lt {w : World} {g : Nat} {o : Obj} (h : w.heap[g]? = some o) : g < w.heap.size := (Array.getElem?_eq_some_iff.1 h).1
theorem Kept.row {w w' : World} {g : Nat} {o : Obj} (k : Kept (fun _ => False) w w') (h : w.heap[g]? = some o) : w'.heap[g]? = some o := (k.block g (row_lt h) id).trans h
theorem Kept.rowS {S : Nat → Prop} {w w' : World} {g : Nat} {o : Obj} (k : Kept S w w') (hs : ¬ S g) (h : w.heap[g]? = some o) : w'.heap[g]? = some o := (k.block g (row_lt h) hs).trans h
theorem range_row {w : World} {g : Nat} {C : Array Value} {t : TypeId} {fz : Nat × Nat} (hg : w.heap[g]? = some (.cells C t fz)) : w.rangeAt g 0 C.toList := by
  intro j v hv
  rw [Nat.zero_add, cell_of_row w g j C t fz hg]
  simpa using hv
theorem Kept.setRow {S : Nat → Prop} {a w : World} (h : Kept S a w) {g : Nat} (hg : a.heap.size ≤ g) (c : Array Value) : Kept S a (w.setRow g c) :=
  ⟨h.os, h.tape, h.output, by simpa [World.setRow] using h.size, fun k hk hs => (setRow_other w g k c (by omega)).trans (h.block k hk hs)⟩
theorem Kept.setRow' {S : Nat → Prop} {a w : World} (h : Kept S a w) {g : Nat} (hg : S g) (c : Array Value) : Kept S a (w.setRow g c) :=
  ⟨h.os, h.tape, h.output, by simpa [World.setRow] using h.size, fun k hk hs => (setRow_other w g k c (fun e => hs (e ▸ hg))).trans (h.block k hk hs)⟩
theorem alloc_set (w : World) (C0 C : Array Value) (t : TypeId) : ((w.alloc (.cells C0 t)).setRow w.heap.size C).heap[w.heap.size]? = some (.cells C t (0, 0)) ∧ Kept (fun _ => False) w ((w.alloc (.cells C0 t)).setRow w.heap.size C) :=
  ⟨setRow_heap _ _ _ _ _ _ (heap_alloc_new w _), ((Kept.refl _ w).alloc _).setRow (Nat.le_refl _) _⟩
theorem heap_alloc2_old (w : World) (o p : Obj) : ((w.alloc o).alloc p).heap[w.heap.size]? = some o := by
  rw [Below.heap_alloc _ _ _ (by simp)]; exact heap_alloc_new w o
theorem heap_alloc2_new (w : World) (o p : Obj) : ((w.alloc o).alloc p).heap[w.heap.size + 1]? = some p := by
  have := heap_alloc_new (w.alloc o) p
  simpa using this
theorem heap_alloc3 (w : World) (o p q : Obj) : (((w.alloc o).alloc p).alloc q).heap[w.heap.size]? = some o ∧ (((w.alloc o).alloc p).alloc q).heap[w.heap.size + 1]? = some p ∧ (((w.alloc o).alloc p).alloc q).heap[w.heap.size + 1 + 1]? = some q := by
  refine ⟨?_, ?_, ?_⟩
  · rw [Below.heap_alloc _ _ _ (by simp; omega)]; exact heap_alloc2_old _ _ _
  · rw [Below.heap_alloc _ _ _ (by simp)]; exact heap_alloc2_new _ _ _
  · have := heap_alloc2_new (w.alloc o) p q
    simpa using this
/-- Cells written one behind the other. -/
def puts (C : Array Value) (o : Nat) : List Value → Array Value
  | [] => C
  | v :: vs => puts (C.setIfInBounds o v) (o + 1) vs
theorem puts_size (vs : List Value) : ∀ (C : Array Value) (o : Nat), (puts C o vs).size = C.size := by
  induction vs with
  | nil => intro C o; rfl
  | cons v vs ih => intro C o; rw [puts, ih]; simp
theorem puts_out (vs : List Value) : ∀ (C : Array Value) (o i : Nat), i < o ∨ o + vs.length ≤ i → (puts C o vs)[i]? = C[i]? := by
  induction vs with
  | nil => intro C o i _; rfl
  | cons v vs ih =>
    intro C o i h
    rw [puts, ih _ _ _ (by simp only [List.length_cons] at h; omega), Array.getElem?_setIfInBounds_ne (by simp only [List.length_cons] at h; omega)]
theorem puts_in (vs : List Value) : ∀ (C : Array Value) (o : Nat), o + vs.length ≤ C.size → ∀ j v, vs[j]? = some v → (puts C o vs)[o + j]? = some v := by
  induction vs with
  | nil => intro C o _ j v h; cases h
  | cons x vs ih =>
    intro C o hle j v hv
    simp only [List.length_cons] at hle
    cases j with
    | zero =>
      simp only [List.getElem?_cons_zero, Option.some.injEq] at hv
      subst hv
      rw [puts, puts_out _ _ _ _ (by omega), Nat.add_zero, Array.getElem?_setIfInBounds_self_of_lt (by omega)]
    | succ j =>
      simp only [List.getElem?_cons_succ] at hv
      rw [puts, show o + (j + 1) = o + 1 + j by omega]
      exact ih _ _ (by simp; omega) j v hv
theorem setCells_block {b : Nat} {t : TypeId} (vs : List Value) : ∀ (w : World) (o : Nat) (C : Array Value), w.heap[b]? = some (.cells C t (0, 0)) → (w.setCells b o vs).heap[b]? = some (.cells (puts C o vs) t (0, 0)) := by
  induction vs with
  | nil => intro w o C h; exact h
  | cons v vs ih => intro w o C h; exact ih _ _ _ (setCell_block h v)
theorem setCells_kept {b : Nat} (vs : List Value) : ∀ (w : World) (o : Nat), Kept (fun i => i = b) w (w.setCells b o vs) := by
  induction vs with
  | nil => intro w o; exact Kept.refl _ _
  | cons v vs ih => intro w o; exact ((Kept.refl (fun i => i = b) w).setCell (p := ⟨b, o, none⟩) (.inl rfl) v).trans (ih _ _)
theorem puts_all {C D : Array Value} (h : C.size = D.size) : puts C 0 D.toList = D := by
  apply Array.ext
  · rw [puts_size, h]
  · intro i h1 h2
    have h3 := puts_in D.toList C 0 (by simp; omega) i D[i] (by simp [h2])
    rw [Nat.zero_add, Array.getElem?_eq_getElem h1] at h3
    exact Option.some.inj h3
/-- What a function hands back: a value; old memory is as it was. -/
def RPost (v : Value) (w : World) (e : Ending) (w' : World) : Prop := e = .returned v ∧ Kept (fun _ => False) w w'
theorem RPost.mk {v v' : Value} {w w' : World} (h : v' = v) (hk : Kept (fun _ => False) w w') : RPost v w (.returned v') w' := by subst h; exact ⟨rfl, hk⟩
theorem RPost.of_eq {P : Program} {f : FuncId} {args : Array Value} {v : Value} {w : World} (h : Calls P f args w fun e w' => e = .returned v ∧ w = w') : Calls P f args w (RPost v w) :=
  h.mono fun _ _ ⟨h1, h2⟩ => ⟨h1, by subst h2; exact Kept.refl _ _⟩
theorem RPost.of_drew {P : Program} {f : FuncId} {args : Array Value} {v : Value} {w : World} (h : Calls P f args w fun e w' => e = .returned v ∧ ∃ n, w' = w.drewN n) : Calls P f args w (RPost v w) :=
  h.mono fun _ _ ⟨h1, n, h2⟩ => ⟨h1, by subst h2; exact (Kept.refl _ _).drewN n⟩
def BPost (b : Bool) (w : World) (e : Ending) (w' : World) : Prop := e = .returned (.bool b) ∧ Kept (fun _ => False) w w'
theorem BPost.mk {b b' : Bool} {w w' : World} (h : b = b') (hk : Kept (fun _ => False) w w') : BPost b w (.returned (.bool b')) w' := by subst h; exact ⟨rfl, hk⟩

section
variable {ops : Array Oper} {rest : List Oper} {dst : Option Tmp} {ty : TypeId} {pos : String} {aft : Array Edge} {gd : Option (Nat × Bool)} {a : Act} {w : World} {Q : Exit → Act → World → Prop} {K : Act → World → Prop} {E : Prop} {S : World → Prop} {x y : Operand} {g o : Nat} {C cur : Array Value}
theorem wpList_on {op : Op} (hw : Region.wanted ⟨dst, op, ty, pos, aft, gd⟩ (yielded ops a.tmps) = true) (h : wpList Tryd.prog ops Q (⟨dst, op, ty, pos, aft, none⟩ :: rest) a w) : wpList Tryd.prog ops Q (⟨dst, op, ty, pos, aft, gd⟩ :: rest) a w := by
  unfold wpList at h ⊢
  rw [if_pos hw]
  rw [if_pos (by simp [Region.wanted])] at h
  exact h
/-- One cell is written, in a region that draws its order. -/
theorem step_put {v : Value} {t T : TypeId} (hw : Region.wanted ⟨dst, .store t x y, ty, pos, aft, gd⟩ (yielded ops a.tmps) = true) (hx : a.eval x = .pointer (some ⟨g, o, none⟩)) (hy : a.eval y = v) (h1 : v.oneCell' = true) (hi : (Tryd.prog.info? t).map (·.size) = some 1) (hg : w.heap[g]? = some (.cells C T (0, 0))) (ho : o < C.size)
    (h : ∀ w', w'.heap[g]? = some (.cells (C.setIfInBounds o v) T (0, 0)) → Kept (fun i => i = g) w w' → K (a.put dst undef) w') :
    if Region.wanted ⟨dst, .store t x y, ty, pos, aft, gd⟩ (yielded ops a.tmps) = true then Oper.wp Tryd.prog ⟨dst, .store t x y, ty, pos, aft, gd⟩ a w K Q else E := by
  rw [if_pos hw]
  have hf := free_of_block (j := o) hg
  have hc := cell_of_block hg ho
  have e0 : ∀ j, j < ([v] : List Value).length → j = 0 := fun j hj => by simpa using hj
  have hs := run_storeCells_cells (P := Tryd.prog) g o [v] 0 w (fun j hj => by rw [e0 j hj]; simp [hc]) (fun j hj => by rw [e0 j hj]; simpa using hf) (by simpa using h1)
  have hn : v.cells = #[v] := by cases v <;> first | rfl | cases h1
  have hr : (Instr.storeAt t (.pointer (some ⟨g, o, none⟩)) v).run Tryd.prog w = .ok () (w.setCell ⟨g, o, none⟩ v) := by
    cases hq : Tryd.prog.info? t with
    | none => simp [hq] at hi
    | some i =>
      have hsz : i.size = 1 := by simpa [hq] using hi
      simp only [Nat.add_zero] at hs
      simp [Instr.storeAt, Instr.sureAddr, storeVar, sizeOf, typeInfo, hq, hn, hsz, hs, World.setCells]
  unfold Oper.wp execOp
  simp only [hx, hy, Sem.run_bind, Sem.run_pure, Result.andThen_ok, hr]
  exact h _ (setCell_block hg v) ((Kept.refl (fun i => i = g) w).setCell (p := ⟨g, o, none⟩) (.inl rfl) v)
theorem Tryd.isz82 : (Tryd.prog.info? 82).map (·.size) = some 1 := by kernel_rfl
theorem Tryd.isz5 : (Tryd.prog.info? 5).map (·.size) = some 1 := by kernel_rfl
theorem Tryd.isz3 : (Tryd.prog.info? 3).map (·.size) = some 1 := by kernel_rfl
theorem Tryd.isz4 : (Tryd.prog.info? 4).map (·.size) = some 1 := by kernel_rfl

/-! ## Type 173: 8 cells -/
theorem Tryd.isz173 : (Tryd.prog.info? 173).map (·.size) = some 8 := by kernel_rfl
theorem load173 (hx : a.eval x = .pointer (some ⟨g, o, none⟩)) (hc : w.rangeAt g o C.toList) (hC : C.size = 8)
    (h : wpList Tryd.prog ops Q rest (a.put dst (.agg C)) w) : wpList Tryd.prog ops Q (⟨dst, .load 173 x, ty, pos, aft, none⟩ :: rest) a w := by
  have := wpList_load_mid (P := Tryd.prog) (ops := ops) (rest := rest) (op := ⟨dst, .load 173 x, ty, pos, aft, none⟩) (a := a) (w := w) (Q := Q) rfl 173 x rfl g o hx C.toList _ hc Tryd.underlying173 rfl (by rw [Tryd.isz173]; simp [hC])
  simp only [Array.toArray_toList] at this
  exact this h
theorem load173g (hw : Region.wanted ⟨dst, .load 173 x, ty, pos, aft, gd⟩ (yielded ops a.tmps) = true) (hx : a.eval x = .pointer (some ⟨g, o, none⟩)) (hc : w.rangeAt g o C.toList) (hC : C.size = 8)
    (h : wpList Tryd.prog ops Q rest (a.put dst (.agg C)) w) : wpList Tryd.prog ops Q (⟨dst, .load 173 x, ty, pos, aft, gd⟩ :: rest) a w := wpList_on hw (load173 hx hc hC h)
theorem store173 {old : Array Value} {t' : TypeId} (hx : a.eval x = .pointer (some ⟨g, 0, none⟩)) (hy : a.eval y = .agg C) (hg : w.heap[g]? = some (.cells old t' (0, 0))) (ho : old.size = 8) (hC : C.size = 8) (h1 : C.all (·.oneCell') = true)
    (h : wpList Tryd.prog ops Q rest (a.put dst undef) (w.setRow g C)) : wpList Tryd.prog ops Q (⟨dst, .store 173 x y, ty, pos, aft, none⟩ :: rest) a w :=
  wpList_store_row (P := Tryd.prog) (o := ⟨dst, .store 173 x y, ty, pos, aft, none⟩) rfl 173 x y rfl g C hx hy t' old hg (by rw [Tryd.isz173, hC]) (by rw [ho, hC]) h1 h
theorem put173 {t' : TypeId} (hx : a.eval x = .pointer (some ⟨g, o, none⟩)) (hy : a.eval y = .agg C) (hC : C.size = 8) (h1 : C.all (·.oneCell') = true) (hg : w.heap[g]? = some (.cells cur t' (0, 0))) (ho : o + 8 ≤ cur.size)
    (h : ∀ w', w'.heap[g]? = some (.cells (puts cur o C.toList) t' (0, 0)) → Kept (fun i => i = g) w w' → wpList Tryd.prog ops Q rest (a.put dst undef) w') :
    wpList Tryd.prog ops Q (⟨dst, .store 173 x y, ty, pos, aft, none⟩ :: rest) a w := by
  refine wpList_store_mid (P := Tryd.prog) rfl 173 x y rfl g o _ hx hy (fun j hj => ?_) (by rw [Tryd.isz173, hC]) h1 ?_
  · refine ⟨?_, free_of_block hg⟩
    rw [cell_of_block hg (by omega)]; rfl
  · exact h _ (setCells_block _ _ _ _ hg) (setCells_kept _ _ _)
theorem yields173 (hw : Region.wanted ⟨dst, .load 173 x, ty, pos, aft, gd⟩ (yielded ops a.tmps) = true) (hx : a.eval x = .pointer (some ⟨g, o, none⟩)) (hg : ∀ w, S w → w.rangeAt g o C.toList) (hC : C.size = 8) :
    YieldsIf Tryd.prog ops S ⟨dst, .load 173 x, ty, pos, aft, gd⟩ (.agg C) a := by
  refine .inl ⟨hw, fun w hS => ?_⟩
  have hl := run_loadAt_mid (P := Tryd.prog) w g o 173 C.toList _ (hg w hS) Tryd.underlying173 rfl (by rw [Tryd.isz173]; simp [hC])
  rw [Array.toArray_toList] at hl
  unfold execOp
  simp only [hx, Sem.run_bind, hl, Result.andThen_ok, Sem.run_pure]
theorem step_store173 {t' : TypeId} (hw : Region.wanted ⟨dst, .store 173 x y, ty, pos, aft, gd⟩ (yielded ops a.tmps) = true) (hx : a.eval x = .pointer (some ⟨g, o, none⟩)) (hy : a.eval y = .agg C) (hC : C.size = 8) (h1 : C.all (·.oneCell') = true) (hg : w.heap[g]? = some (.cells cur t' (0, 0))) (ho : o + 8 ≤ cur.size)
    (h : ∀ w', w'.heap[g]? = some (.cells (puts cur o C.toList) t' (0, 0)) → Kept (fun i => i = g) w w' → K (a.put dst undef) w') :
    if Region.wanted ⟨dst, .store 173 x y, ty, pos, aft, gd⟩ (yielded ops a.tmps) = true then Oper.wp Tryd.prog ⟨dst, .store 173 x y, ty, pos, aft, gd⟩ a w K Q else E := by
  rw [if_pos hw]
  refine wp_store_mid (P := Tryd.prog) 173 x y rfl g o _ hx hy (fun j hj => ?_) (by rw [Tryd.isz173, hC]) h1 ?_
  · refine ⟨?_, free_of_block hg⟩
    rw [cell_of_block hg (by omega)]; rfl
  · exact h _ (setCells_block _ _ _ _ hg) (setCells_kept _ _ _)

/-! ## Type 180: 64 cells -/
theorem Tryd.isz180 : (Tryd.prog.info? 180).map (·.size) = some 64 := by kernel_rfl
theorem load180 (hx : a.eval x = .pointer (some ⟨g, o, none⟩)) (hc : w.rangeAt g o C.toList) (hC : C.size = 64)
    (h : wpList Tryd.prog ops Q rest (a.put dst (.agg C)) w) : wpList Tryd.prog ops Q (⟨dst, .load 180 x, ty, pos, aft, none⟩ :: rest) a w := by
  have := wpList_load_mid (P := Tryd.prog) (ops := ops) (rest := rest) (op := ⟨dst, .load 180 x, ty, pos, aft, none⟩) (a := a) (w := w) (Q := Q) rfl 180 x rfl g o hx C.toList _ hc Tryd.underlying180 rfl (by rw [Tryd.isz180]; simp [hC])
  simp only [Array.toArray_toList] at this
  exact this h
theorem load180g (hw : Region.wanted ⟨dst, .load 180 x, ty, pos, aft, gd⟩ (yielded ops a.tmps) = true) (hx : a.eval x = .pointer (some ⟨g, o, none⟩)) (hc : w.rangeAt g o C.toList) (hC : C.size = 64)
    (h : wpList Tryd.prog ops Q rest (a.put dst (.agg C)) w) : wpList Tryd.prog ops Q (⟨dst, .load 180 x, ty, pos, aft, gd⟩ :: rest) a w := wpList_on hw (load180 hx hc hC h)
theorem store180 {old : Array Value} {t' : TypeId} (hx : a.eval x = .pointer (some ⟨g, 0, none⟩)) (hy : a.eval y = .agg C) (hg : w.heap[g]? = some (.cells old t' (0, 0))) (ho : old.size = 64) (hC : C.size = 64) (h1 : C.all (·.oneCell') = true)
    (h : wpList Tryd.prog ops Q rest (a.put dst undef) (w.setRow g C)) : wpList Tryd.prog ops Q (⟨dst, .store 180 x y, ty, pos, aft, none⟩ :: rest) a w :=
  wpList_store_row (P := Tryd.prog) (o := ⟨dst, .store 180 x y, ty, pos, aft, none⟩) rfl 180 x y rfl g C hx hy t' old hg (by rw [Tryd.isz180, hC]) (by rw [ho, hC]) h1 h
theorem put180 {t' : TypeId} (hx : a.eval x = .pointer (some ⟨g, o, none⟩)) (hy : a.eval y = .agg C) (hC : C.size = 64) (h1 : C.all (·.oneCell') = true) (hg : w.heap[g]? = some (.cells cur t' (0, 0))) (ho : o + 64 ≤ cur.size)
    (h : ∀ w', w'.heap[g]? = some (.cells (puts cur o C.toList) t' (0, 0)) → Kept (fun i => i = g) w w' → wpList Tryd.prog ops Q rest (a.put dst undef) w') :
    wpList Tryd.prog ops Q (⟨dst, .store 180 x y, ty, pos, aft, none⟩ :: rest) a w := by
  refine wpList_store_mid (P := Tryd.prog) rfl 180 x y rfl g o _ hx hy (fun j hj => ?_) (by rw [Tryd.isz180, hC]) h1 ?_
  · refine ⟨?_, free_of_block hg⟩
    rw [cell_of_block hg (by omega)]; rfl
  · exact h _ (setCells_block _ _ _ _ hg) (setCells_kept _ _ _)
theorem yields180 (hw : Region.wanted ⟨dst, .load 180 x, ty, pos, aft, gd⟩ (yielded ops a.tmps) = true) (hx : a.eval x = .pointer (some ⟨g, o, none⟩)) (hg : ∀ w, S w → w.rangeAt g o C.toList) (hC : C.size = 64) :
    YieldsIf Tryd.prog ops S ⟨dst, .load 180 x, ty, pos, aft, gd⟩ (.agg C) a := by
  refine .inl ⟨hw, fun w hS => ?_⟩
  have hl := run_loadAt_mid (P := Tryd.prog) w g o 180 C.toList _ (hg w hS) Tryd.underlying180 rfl (by rw [Tryd.isz180]; simp [hC])
  rw [Array.toArray_toList] at hl
  unfold execOp
  simp only [hx, Sem.run_bind, hl, Result.andThen_ok, Sem.run_pure]
theorem step_store180 {t' : TypeId} (hw : Region.wanted ⟨dst, .store 180 x y, ty, pos, aft, gd⟩ (yielded ops a.tmps) = true) (hx : a.eval x = .pointer (some ⟨g, o, none⟩)) (hy : a.eval y = .agg C) (hC : C.size = 64) (h1 : C.all (·.oneCell') = true) (hg : w.heap[g]? = some (.cells cur t' (0, 0))) (ho : o + 64 ≤ cur.size)
    (h : ∀ w', w'.heap[g]? = some (.cells (puts cur o C.toList) t' (0, 0)) → Kept (fun i => i = g) w w' → K (a.put dst undef) w') :
    if Region.wanted ⟨dst, .store 180 x y, ty, pos, aft, gd⟩ (yielded ops a.tmps) = true then Oper.wp Tryd.prog ⟨dst, .store 180 x y, ty, pos, aft, gd⟩ a w K Q else E := by
  rw [if_pos hw]
  refine wp_store_mid (P := Tryd.prog) 180 x y rfl g o _ hx hy (fun j hj => ?_) (by rw [Tryd.isz180, hC]) h1 ?_
  · refine ⟨?_, free_of_block hg⟩
    rw [cell_of_block hg (by omega)]; rfl
  · exact h _ (setCells_block _ _ _ _ hg) (setCells_kept _ _ _)

/-! ## Type 26: 32 cells -/
theorem Tryd.isz26 : (Tryd.prog.info? 26).map (·.size) = some 32 := by kernel_rfl
theorem load26 (hx : a.eval x = .pointer (some ⟨g, o, none⟩)) (hc : w.rangeAt g o C.toList) (hC : C.size = 32)
    (h : wpList Tryd.prog ops Q rest (a.put dst (.agg C)) w) : wpList Tryd.prog ops Q (⟨dst, .load 26 x, ty, pos, aft, none⟩ :: rest) a w := by
  have := wpList_load_mid (P := Tryd.prog) (ops := ops) (rest := rest) (op := ⟨dst, .load 26 x, ty, pos, aft, none⟩) (a := a) (w := w) (Q := Q) rfl 26 x rfl g o hx C.toList _ hc Tryd.underlying26 rfl (by rw [Tryd.isz26]; simp [hC])
  simp only [Array.toArray_toList] at this
  exact this h
theorem load26g (hw : Region.wanted ⟨dst, .load 26 x, ty, pos, aft, gd⟩ (yielded ops a.tmps) = true) (hx : a.eval x = .pointer (some ⟨g, o, none⟩)) (hc : w.rangeAt g o C.toList) (hC : C.size = 32)
    (h : wpList Tryd.prog ops Q rest (a.put dst (.agg C)) w) : wpList Tryd.prog ops Q (⟨dst, .load 26 x, ty, pos, aft, gd⟩ :: rest) a w := wpList_on hw (load26 hx hc hC h)
theorem store26 {old : Array Value} {t' : TypeId} (hx : a.eval x = .pointer (some ⟨g, 0, none⟩)) (hy : a.eval y = .agg C) (hg : w.heap[g]? = some (.cells old t' (0, 0))) (ho : old.size = 32) (hC : C.size = 32) (h1 : C.all (·.oneCell') = true)
    (h : wpList Tryd.prog ops Q rest (a.put dst undef) (w.setRow g C)) : wpList Tryd.prog ops Q (⟨dst, .store 26 x y, ty, pos, aft, none⟩ :: rest) a w :=
  wpList_store_row (P := Tryd.prog) (o := ⟨dst, .store 26 x y, ty, pos, aft, none⟩) rfl 26 x y rfl g C hx hy t' old hg (by rw [Tryd.isz26, hC]) (by rw [ho, hC]) h1 h
theorem put26 {t' : TypeId} (hx : a.eval x = .pointer (some ⟨g, o, none⟩)) (hy : a.eval y = .agg C) (hC : C.size = 32) (h1 : C.all (·.oneCell') = true) (hg : w.heap[g]? = some (.cells cur t' (0, 0))) (ho : o + 32 ≤ cur.size)
    (h : ∀ w', w'.heap[g]? = some (.cells (puts cur o C.toList) t' (0, 0)) → Kept (fun i => i = g) w w' → wpList Tryd.prog ops Q rest (a.put dst undef) w') :
    wpList Tryd.prog ops Q (⟨dst, .store 26 x y, ty, pos, aft, none⟩ :: rest) a w := by
  refine wpList_store_mid (P := Tryd.prog) rfl 26 x y rfl g o _ hx hy (fun j hj => ?_) (by rw [Tryd.isz26, hC]) h1 ?_
  · refine ⟨?_, free_of_block hg⟩
    rw [cell_of_block hg (by omega)]; rfl
  · exact h _ (setCells_block _ _ _ _ hg) (setCells_kept _ _ _)
theorem yields26 (hw : Region.wanted ⟨dst, .load 26 x, ty, pos, aft, gd⟩ (yielded ops a.tmps) = true) (hx : a.eval x = .pointer (some ⟨g, o, none⟩)) (hg : ∀ w, S w → w.rangeAt g o C.toList) (hC : C.size = 32) :
    YieldsIf Tryd.prog ops S ⟨dst, .load 26 x, ty, pos, aft, gd⟩ (.agg C) a := by
  refine .inl ⟨hw, fun w hS => ?_⟩
  have hl := run_loadAt_mid (P := Tryd.prog) w g o 26 C.toList _ (hg w hS) Tryd.underlying26 rfl (by rw [Tryd.isz26]; simp [hC])
  rw [Array.toArray_toList] at hl
  unfold execOp
  simp only [hx, Sem.run_bind, hl, Result.andThen_ok, Sem.run_pure]
theorem step_store26 {t' : TypeId} (hw : Region.wanted ⟨dst, .store 26 x y, ty, pos, aft, gd⟩ (yielded ops a.tmps) = true) (hx : a.eval x = .pointer (some ⟨g, o, none⟩)) (hy : a.eval y = .agg C) (hC : C.size = 32) (h1 : C.all (·.oneCell') = true) (hg : w.heap[g]? = some (.cells cur t' (0, 0))) (ho : o + 32 ≤ cur.size)
    (h : ∀ w', w'.heap[g]? = some (.cells (puts cur o C.toList) t' (0, 0)) → Kept (fun i => i = g) w w' → K (a.put dst undef) w') :
    if Region.wanted ⟨dst, .store 26 x y, ty, pos, aft, gd⟩ (yielded ops a.tmps) = true then Oper.wp Tryd.prog ⟨dst, .store 26 x y, ty, pos, aft, gd⟩ a w K Q else E := by
  rw [if_pos hw]
  refine wp_store_mid (P := Tryd.prog) 26 x y rfl g o _ hx hy (fun j hj => ?_) (by rw [Tryd.isz26, hC]) h1 ?_
  · refine ⟨?_, free_of_block hg⟩
    rw [cell_of_block hg (by omega)]; rfl
  · exact h _ (setCells_block _ _ _ _ hg) (setCells_kept _ _ _)

/-! ## New variables -/
def Z173 : Array Value := ints .u32 (List.replicate 8 0)
def Z180 : Array Value := ints .u32 (List.replicate 64 0)
def Z26 : Array Value := ints .u8 (List.replicate 32 0)
theorem Z173_size : Z173.size = 8 := by rw [Z173, ints_size]; rfl
theorem Z180_size : Z180.size = 64 := by rw [Z180, ints_size]; rfl
theorem Z26_size : Z26.size = 32 := by rw [Z26, ints_size]; rfl
theorem alloc173 (h : wpList Tryd.prog ops Q rest (a.put dst (.pointer (some ⟨w.heap.size, 0, none⟩))) (w.alloc (.cells Z173 173))) : wpList Tryd.prog ops Q (⟨dst, .alloc 173, ty, pos, aft, none⟩ :: rest) a w := by
  refine wpList_plain rfl fun K hK => ?_
  go_simp
  exact hK _ _ h
theorem step_alloc173 (hw : Region.wanted ⟨dst, .alloc 173, ty, pos, aft, gd⟩ (yielded ops a.tmps) = true) (h : K (a.put dst (.pointer (some ⟨w.heap.size, 0, none⟩))) (w.alloc (.cells Z173 173))) :
    if Region.wanted ⟨dst, .alloc 173, ty, pos, aft, gd⟩ (yielded ops a.tmps) = true then Oper.wp Tryd.prog ⟨dst, .alloc 173, ty, pos, aft, gd⟩ a w K Q else E := by
  rw [if_pos hw]
  go_simp
  exact h
theorem alloc180 (h : wpList Tryd.prog ops Q rest (a.put dst (.pointer (some ⟨w.heap.size, 0, none⟩))) (w.alloc (.cells Z180 180))) : wpList Tryd.prog ops Q (⟨dst, .alloc 180, ty, pos, aft, none⟩ :: rest) a w := by
  refine wpList_plain rfl fun K hK => ?_
  go_simp
  exact hK _ _ h
theorem step_alloc180 (hw : Region.wanted ⟨dst, .alloc 180, ty, pos, aft, gd⟩ (yielded ops a.tmps) = true) (h : K (a.put dst (.pointer (some ⟨w.heap.size, 0, none⟩))) (w.alloc (.cells Z180 180))) :
    if Region.wanted ⟨dst, .alloc 180, ty, pos, aft, gd⟩ (yielded ops a.tmps) = true then Oper.wp Tryd.prog ⟨dst, .alloc 180, ty, pos, aft, gd⟩ a w K Q else E := by
  rw [if_pos hw]
  go_simp
  exact h
theorem alloc26 (h : wpList Tryd.prog ops Q rest (a.put dst (.pointer (some ⟨w.heap.size, 0, none⟩))) (w.alloc (.cells Z26 26))) : wpList Tryd.prog ops Q (⟨dst, .alloc 26, ty, pos, aft, none⟩ :: rest) a w := by
  refine wpList_plain rfl fun K hK => ?_
  go_simp
  exact hK _ _ h
theorem step_alloc26 (hw : Region.wanted ⟨dst, .alloc 26, ty, pos, aft, gd⟩ (yielded ops a.tmps) = true) (h : K (a.put dst (.pointer (some ⟨w.heap.size, 0, none⟩))) (w.alloc (.cells Z26 26))) :
    if Region.wanted ⟨dst, .alloc 26, ty, pos, aft, gd⟩ (yielded ops a.tmps) = true then Oper.wp Tryd.prog ⟨dst, .alloc 26, ty, pos, aft, gd⟩ a w K Q else E := by
  rw [if_pos hw]
  go_simp
  exact h
end
theorem results_173 {fn : Func} {p : Tmp} (h : fn.results = #[.cell p 173]) (tmps : Array Value) (w : World) (g : Nat) {C : Array Value} {ty : TypeId} {fr : Nat × Nat}
    (hg : w.heap[g]? = some (.cells C ty fr)) (hC : C.size = 8) (hp : tmps.getD p undef = .pointer (some ⟨g, 0, none⟩)) :
    (results fn tmps).run Tryd.prog w = .ok (.agg C) w := by
  have hp' : tmps[p]?.getD undef = .pointer (some ⟨g, 0, none⟩) := by simpa using hp
  simp [results, h, hp', asAddr, run_loadVar_row (P := Tryd.prog) w g ty 173 C fr _ hg Tryd.underlying173 rfl (by rw [Tryd.isz173, hC])]
theorem results_180 {fn : Func} {p : Tmp} (h : fn.results = #[.cell p 180]) (tmps : Array Value) (w : World) (g : Nat) {C : Array Value} {ty : TypeId} {fr : Nat × Nat}
    (hg : w.heap[g]? = some (.cells C ty fr)) (hC : C.size = 64) (hp : tmps.getD p undef = .pointer (some ⟨g, 0, none⟩)) :
    (results fn tmps).run Tryd.prog w = .ok (.agg C) w := by
  have hp' : tmps[p]?.getD undef = .pointer (some ⟨g, 0, none⟩) := by simpa using hp
  simp [results, h, hp', asAddr, run_loadVar_row (P := Tryd.prog) w g ty 180 C fr _ hg Tryd.underlying180 rfl (by rw [Tryd.isz180, hC])]
theorem results_26 {fn : Func} {p : Tmp} (h : fn.results = #[.cell p 26]) (tmps : Array Value) (w : World) (g : Nat) {C : Array Value} {ty : TypeId} {fr : Nat × Nat}
    (hg : w.heap[g]? = some (.cells C ty fr)) (hC : C.size = 32) (hp : tmps.getD p undef = .pointer (some ⟨g, 0, none⟩)) :
    (results fn tmps).run Tryd.prog w = .ok (.agg C) w := by
  have hp' : tmps[p]?.getD undef = .pointer (some ⟨g, 0, none⟩) := by simpa using hp
  simp [results, h, hp', asAddr, run_loadVar_row (P := Tryd.prog) w g ty 26 C fr _ hg Tryd.underlying26 rfl (by rw [Tryd.isz26, hC])]
end Go.Proofs.YtklmhegmombegaaDoor
