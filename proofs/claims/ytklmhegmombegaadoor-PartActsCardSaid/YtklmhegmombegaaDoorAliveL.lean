/-
  Laws for the walk of law 10's example. Conditions: as each theorem says.
-/
import Derived.Test.YtklmhegmombegaaDoorAliveP
set_option linter.unusedVariables false
set_option linter.unusedSimpArgs false
set_option maxRecDepth 100000
namespace Go.Proofs.YtklmhegmombegaaDoor
open Go Go.RowKit Plain
open Go.Proofs.YtklmhegmombegaaDoor.Re (RecIn hbs)
open Go.Proofs.YtklmhegmombegaaDoor.Re.Plain (Rx rightB)

theorem built49 {k : Int} : ∀ (tag : List Nat), tag.length = 32 → Tryd.prog.built 49 [(0, .int .i64 k), (1, .agg (ints .u8 tag))] = some (sigC (k, tag)).toArray
  | [d0, d1, d2, d3, d4, d5, d6, d7, d8, d9, d10, d11, d12, d13, d14, d15, d16, d17, d18, d19, d20, d21, d22, d23, d24, d25, d26, d27, d28, d29, d30, d31], _ => by kernel_rfl
/-- The cells of a checkpoint. -/
def ptA (n : Int) (root : List Nat) (sv : Value) : Array Value := (Value.int .i64 n :: (bys root ++ [sv])).toArray
theorem built40 {k : Int} : ∀ (tag : List Nat), tag.length = 32 → Tryd.prog.built 40 [(0, .int .i64 k), (1, .agg (ints .u8 tag))] = some (ptA k tag (.slice none 0 0))
  | [d0, d1, d2, d3, d4, d5, d6, d7, d8, d9, d10, d11, d12, d13, d14, d15, d16, d17, d18, d19, d20, d21, d22, d23, d24, d25, d26, d27, d28, d29, d30, d31], _ => by kernel_rfl
theorem ptA_in {n : Int} {root : List Nat} {sv : Value} (hl : root.length = 32) (h8 : All8 root) (h1 : sv.oneCell' = true) : PtIn (ptA n root sv) n root sv where
  size := by simp [ptA, bys_len, hl]
  one := by
    rw [Array.all_eq_true_iff_forall_mem]
    intro x hx
    simp only [ptA, List.mem_toArray, List.mem_cons, List.mem_append, List.mem_singleton] at hx
    rcases hx with rfl | hx | hx
    · rfl
    · exact bys_one _ x hx
    · simp only [List.not_mem_nil, or_false] at hx; subst hx; exact h1
  c0 := rfl
  rt := fun j v hv => by
    have hj := (List.getElem?_eq_some_iff.1 hv).1
    rw [ptA, Nat.add_comm, List.getElem?_toArray, List.getElem?_cons_succ, List.getElem?_append_left hj]
    exact hv
  rl := hl
  r8 := h8
  c33 := by
    rw [ptA, List.getElem?_toArray, List.getElem?_cons_succ, List.getElem?_append_right (by rw [bys_len, hl]; decide), bys_len, hl]
    rfl
theorem ptA_set {n : Int} {root : List Nat} {sv sv' : Value} (hl : root.length = 32) : (ptA n root sv).setIfInBounds 33 sv' = ptA n root sv' := by
  unfold ptA
  rw [List.setIfInBounds_toArray, List.set_cons_succ, List.set_append_right _ _ (by rw [bys_len, hl]; decide), bys_len, hl]
  rfl
def Z49z : Array Value := (sigC (0, z32n)).toArray
theorem Tryd.ifull49 : (Tryd.prog.info? 49).map (fun i => (i.size, i.bytes, i.zero)) = some (33, 40, some (.agg Z49z)) := by kernel_rfl
theorem info49' : ∃ i, Tryd.prog.info? 49 = some i ∧ i.size = 33 ∧ i.bytes = 40 ∧ i.zero = some (.agg Z49z) := by
  obtain ⟨i, hi, hb⟩ := Option.map_eq_some_iff.1 Tryd.ifull49
  simp only [Prod.mk.injEq] at hb
  exact ⟨i, hi, hb.1, hb.2.1, hb.2.2⟩
section
variable {ops : Array Oper} {rest : List Oper} {dst : Option Tmp} {ty : TypeId} {pos : String} {aft : Array Edge} {gd : Option (Nat × Bool)} {a : Act} {w : World} {Q : Exit → Act → World → Prop} {K : Act → World → Prop} {E : Prop} {S : World → Prop}
theorem build49 {k : Int} {x : Operand} {tag : List Nat} (hx : a.eval x = .agg (ints .u8 tag)) (hl : tag.length = 32) (h : wpList Tryd.prog ops Q rest (a.put dst (.agg (sigC (k, tag)).toArray)) w) : wpList Tryd.prog ops Q (⟨dst, .build 49 #[(0, .const (.int .i64 k)), (1, x)], ty, pos, aft, none⟩ :: rest) a w := by
  refine wpList_buildTo (P := Tryd.prog) rfl 49 _ rfl dst rfl (sigC (k, tag)).toArray ?_ h
  simp only [List.map_toArray, List.map_cons, List.map_nil, hx]
  exact built49 tag hl
theorem build40 {k : Int} {x : Operand} {tag : List Nat} (hx : a.eval x = .agg (ints .u8 tag)) (hl : tag.length = 32) (h : wpList Tryd.prog ops Q rest (a.put dst (.agg (ptA k tag (.slice none 0 0)))) w) : wpList Tryd.prog ops Q (⟨dst, .build 40 #[(0, .const (.int .i64 k)), (1, x)], ty, pos, aft, none⟩ :: rest) a w := by
  refine wpList_buildTo (P := Tryd.prog) rfl 40 _ rfl dst rfl (ptA k tag (.slice none 0 0)) ?_ h
  simp only [List.map_toArray, List.map_cons, List.map_nil, hx]
  exact built40 tag hl
theorem fill49 {C : Array Value} (hC : C.size = 33) : Instr.fill (fun i => some (i * 33, 33)) ((Array.range (1 * 33)).map ((Value.agg Z49z).cells[· % (Value.agg Z49z).cells.size]!)) [(0, .agg C)] = some C := by
  have := Great.fill_whole (s := 33) (by decide) [.agg C] ((Array.range (1 * 33)).map ((Value.agg Z49z).cells[· % (Value.agg Z49z).cells.size]!)) (by simp [Value.cells, hC]) (by simp)
  simp only [List.zipIdx_cons, List.zipIdx_nil, List.map_cons, List.map_nil, List.flatMap_cons, List.flatMap_nil, Value.cells, List.append_nil, Array.toArray_toList] at this
  exact this
theorem slice38 {x : Operand} {C : Array Value} (hx : a.eval x = .agg C) (hC : C.size = 33)
    (h : wpList Tryd.prog ops Q rest (a.put dst (.slice (some ⟨w.heap.size, 0, none⟩) 1 1)) (w.alloc (.cells C 49))) : wpList Tryd.prog ops Q (⟨dst, .buildSlice 38 1 #[(0, x)], ty, pos, aft, none⟩ :: rest) a w := by
  obtain ⟨i, hi, hs, hb, hz⟩ := info49'
  refine wpList_buildSlice (P := Tryd.prog) (o := ⟨dst, .buildSlice 38 1 #[(0, x)], ty, pos, aft, none⟩) rfl 38 49 1 #[(0, x)] rfl C i (.agg Z49z) Tryd.underlying38 hi hz (by rw [hs]; decide) (by rw [hs]; decide) ?_ h
  rw [hs]
  simp only [List.map_toArray, List.map_cons, List.map_nil, hx]
  exact fill49 hC
/-- The same, in a region that draws its order. -/
theorem step_slice38 {x : Operand} {C : Array Value} (hx : a.eval x = .agg C) (hC : C.size = 33) (h : K (a.put dst (.slice (some ⟨w.heap.size, 0, none⟩) 1 1)) (w.alloc (.cells C 49))) :
    if Region.wanted ⟨dst, .buildSlice 38 1 #[(0, x)], ty, pos, aft, none⟩ (yielded ops a.tmps) = true then Oper.wp Tryd.prog ⟨dst, .buildSlice 38 1 #[(0, x)], ty, pos, aft, none⟩ a w K Q else E := by
  obtain ⟨i, hi, hs, hb, hz⟩ := info49'
  rw [if_pos (by simp [Region.wanted])]
  refine wp_buildSlice (P := Tryd.prog) 38 49 1 #[(0, x)] rfl C i (.agg Z49z) Tryd.underlying38 hi hz (by rw [hs]; decide) (by rw [hs]; decide) ?_ h
  rw [hs]
  simp only [List.map_toArray, List.map_cons, List.map_nil, hx]
  exact fill49 hC
theorem yields49b {k : Int} {x : Operand} {tag : List Nat} (hx : a.eval x = .agg (ints .u8 tag)) (hl : tag.length = 32) : YieldsIf Tryd.prog ops S ⟨dst, .build 49 #[(0, .const (.int .i64 k)), (1, x)], ty, pos, aft, none⟩ (.agg (sigC (k, tag)).toArray) a := by
  refine .inl ⟨by simp [Region.wanted], fun w hS => ?_⟩
  have hr := run_build (P := Tryd.prog) w 49 #[(0, .int .i64 k), (1, .agg (ints .u8 tag))] _ (built49 (k := k) tag hl)
  unfold execOp
  simp only [List.map_toArray, List.map_cons, List.map_nil, hx, Act.eval, Sem.run_bind]
  show Result.andThen (Sem.run Tryd.prog (Instr.build 49 #[(0, .int .i64 k), (1, a.eval x)]) w) _ = _
  rw [hx, hr]
  rfl
/-- Two hashes compared. -/
theorem equal26 (w : World) (xs ys : List Nat) (hx : xs.length = 32) (hy : ys.length = 32) : (Op.equalIn 10000 26 (.agg (ints .u8 xs)) (.agg (ints .u8 ys))).run Tryd.prog w = .ok (decide (xs = ys)) w := by
  have h := Re.equal26 w (xs.map fun (n : Nat) => (n : Int)) (ys.map fun (n : Nat) => (n : Int)) (by simp [hx]) (by simp [hy])
  rw [hbs_nat, hbs_nat] at h
  rw [h]
  congr 1
  rw [Bool.eq_iff_iff]
  simp only [beq_iff_eq, decide_eq_true_eq]
  exact ⟨fun h => List.map_inj_right (fun a b h => by omega) |>.1 h, fun h => by rw [h]⟩
theorem yieldsEq26 {b : Bool} {x y : Operand} {rt : TypeId} {l m : List Nat} (hb : decide (l = m) = b) (hl : l.length = 32) (hm : m.length = 32) (hw : Region.wanted ⟨dst, .binOp .eql 26 x y rt, ty, pos, aft, gd⟩ (yielded ops a.tmps) = true) (hx : a.eval x = .agg (ints .u8 l)) (hy : a.eval y = .agg (ints .u8 m)) :
    YieldsIf Tryd.prog ops S ⟨dst, .binOp .eql 26 x y rt, ty, pos, aft, gd⟩ (.bool b) a := by
  subst hb
  refine .inl ⟨hw, fun w hS => ?_⟩
  have hg : (eqGuard .eql 26 x y (.agg (ints .u8 l)) (.agg (ints .u8 m))).run Tryd.prog w = .ok () w := run_eqGuard_agg w .eql 26 x y _ _ (by kernel_rfl)
  have he := equal26 w l m hl hm
  have hq : (binOp .eql 26 (.agg (ints .u8 l)) (.agg (ints .u8 m))).run Tryd.prog w = .ok (.bool (decide (l = m))) w := by rw [run_eql_struct, he]; rfl
  unfold execOp
  simp only [hx, hy, Sem.run_bind, hg, hq, Result.andThen_ok, Sem.run_pure]
theorem yieldsNe26 {b : Bool} {x y : Operand} {rt : TypeId} {l m : List Nat} (hb : (!decide (l = m)) = b) (hl : l.length = 32) (hm : m.length = 32) (hw : Region.wanted ⟨dst, .binOp .neq 26 x y rt, ty, pos, aft, gd⟩ (yielded ops a.tmps) = true) (hx : a.eval x = .agg (ints .u8 l)) (hy : a.eval y = .agg (ints .u8 m)) :
    YieldsIf Tryd.prog ops S ⟨dst, .binOp .neq 26 x y rt, ty, pos, aft, gd⟩ (.bool b) a := by
  subst hb
  refine .inl ⟨hw, fun w hS => ?_⟩
  have hg : (eqGuard .neq 26 x y (.agg (ints .u8 l)) (.agg (ints .u8 m))).run Tryd.prog w = .ok () w := run_eqGuard_agg w .neq 26 x y _ _ (by kernel_rfl)
  have he := equal26 w l m hl hm
  have hq : (binOp .neq 26 (.agg (ints .u8 l)) (.agg (ints .u8 m))).run Tryd.prog w = .ok (.bool (!decide (l = m))) w := by rw [run_neq_struct, he]; rfl
  unfold execOp
  simp only [hx, hy, Sem.run_bind, hg, hq, Result.andThen_ok, Sem.run_pure]
end
end Go.Proofs.YtklmhegmombegaaDoor
