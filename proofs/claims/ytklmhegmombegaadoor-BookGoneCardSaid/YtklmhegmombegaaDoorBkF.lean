/-
  The contract of the book's table of goers; a map of numbers written and read. Conditions: as each theorem says.
-/
import Derived.Test.YtklmhegmombegaaDoorBkA
import Derived.Carry
import Derived.MapFrom
set_option linter.unusedVariables false
set_option linter.unusedSimpArgs false
namespace Go.Proofs.YtklmhegmombegaaDoor.Re
open Go Go.RowKit Go.Proofs.YtklmhegmombegaaDoor.Re.Plain Go.Proofs.YtklmhegmombegaaDoor

def goerV (f : Nat) : Value := .agg #[.func (.func f) #[] #[]]
def ent (k : Int) (f : Nat) (b : Nat) : MapEntry := ⟨.int .i64 k, goerV f, b⟩
theorem run_insert91 {w : World} {r clock : Nat} {es : Array MapEntry} {k : Int} {v : Value} (hb : w.heap[r]? = some (.map es clock)) (hf : Instr.findNow (.int .i64) (.int .i64 k) es.toList 0 = some none) :
    ∃ w', (Instr.mapUpdate 156 (.map (some r)) (.int .i64 k) v).run Tryd.prog w = .ok () w' ∧ w'.heap[r]? = some (.map (es.push ⟨.int .i64 k, v, clock⟩) (clock + 1)) ∧ Kept (fun i => i = r) w w' := by
  have hk : MapKept.IsKey (.int .i64) (.int .i64 k) := rfl
  have hc : ∀ b, (Instr.checkKey b 10000 3 (.int .i64 k)).run Tryd.prog w = .ok () w := fun b => MapKept.run_checkKey Tryd.underlying3 hk b 9999
  have hs := MapKept.heap_set (o' := .map (es.push ⟨.int .i64 k, v, clock⟩) (clock + 1)) hb
  refine ⟨{ w with heap := w.heap.setIfInBounds r (.map (es.push ⟨.int .i64 k, v, clock⟩) (clock + 1)) }, ?_, hs.1, ⟨rfl, rfl, rfl, by simp, fun i hi h => hs.2 i h⟩⟩
  unfold Instr.mapUpdate
  simp only [Sem.run_bind, run_underlying Tryd.underlying156, Result.andThen_ok, MapKept.run_getObj_map hb, hc, MapKept.run_findKey Tryd.underlying3 hf, MapKept.run_setObj_map _ hb]
theorem run_lookup91 {w : World} {r clock i : Nat} {es : Array MapEntry} {k : Int} {v : Value} (hb : w.heap[r]? = some (.map es clock)) (hf : Instr.findNow (.int .i64) (.int .i64 k) es.toList 0 = some (some (i, v))) :
    (Instr.lookup 156 (.map (some r)) (.int .i64 k) false).run Tryd.prog w = .ok v w := by
  have hk : MapKept.IsKey (.int .i64) (.int .i64 k) := rfl
  have hc : ∀ b, (Instr.checkKey b 10000 3 (.int .i64 k)).run Tryd.prog w = .ok () w := fun b => MapKept.run_checkKey Tryd.underlying3 hk b 9999
  unfold Instr.lookup
  simp only [Sem.run_bind, run_underlying Tryd.underlying156, Result.andThen_ok, MapKept.run_getObj_map hb, Sem.run_pure, hc, MapKept.run_findKey Tryd.underlying3 hf]
  rfl
section
variable {ops : Array Oper} {rest : List Oper} {dst : Option Tmp} {ty : TypeId} {pos : String} {aft : Array Edge} {gd : Option (Nat × Bool)} {a : Act} {w : World} {Q : Exit → Act → World → Prop} {K : Act → World → Prop} {E : Prop}
set_option maxRecDepth 100000 in
theorem make91 (h : wpList Tryd.prog ops Q rest (a.put dst (.map (some w.heap.size))) (w.alloc (.map #[] 0))) : wpList Tryd.prog ops Q (⟨dst, .makeMap 156 none, ty, pos, aft, none⟩ :: rest) a w := by
  refine wpList_plain rfl fun K hK => ?_
  unfold Oper.wp execOp
  simp only [Sem.run_bind, run_makeMap, Result.andThen_ok]
  exact hK _ _ h
set_option maxRecDepth 100000 in
theorem insert91 {m x : Operand} {r clock : Nat} {es : Array MapEntry} {k : Int} {v : Value} (hm : a.eval m = .map (some r)) (hx : a.eval x = v) (hb : w.heap[r]? = some (.map es clock)) (hf : Instr.findNow (.int .i64) (.int .i64 k) es.toList 0 = some none)
    (h : ∀ w', w'.heap[r]? = some (.map (es.push ⟨.int .i64 k, v, clock⟩) (clock + 1)) → Kept (fun i => i = r) w w' → wpList Tryd.prog ops Q rest (a.put dst undef) w') :
    wpList Tryd.prog ops Q (⟨dst, .insert 156 m (.const (.int .i64 k)) x, ty, pos, aft, none⟩ :: rest) a w := by
  refine wpList_plain rfl fun K hK => ?_
  obtain ⟨w', h1, h2, h3⟩ := run_insert91 (v := v) hb hf
  unfold Oper.wp execOp
  have he : a.eval (.const (.int .i64 k)) = .int .i64 k := rfl
  simp only [hm, hx, he, Sem.run_bind, h1, Result.andThen_ok, Sem.run_pure]
  exact hK _ _ (h w' h2 h3)
set_option maxRecDepth 100000 in
theorem step_lookup91 {m x : Operand} {r clock i : Nat} {es : Array MapEntry} {k : Int} {v : Value} (hw : Region.wanted ⟨dst, .lookup 156 m x false, ty, pos, aft, gd⟩ (yielded ops a.tmps) = true) (hm : a.eval m = .map (some r)) (hx : a.eval x = .int .i64 k) (hb : w.heap[r]? = some (.map es clock)) (hf : Instr.findNow (.int .i64) (.int .i64 k) es.toList 0 = some (some (i, v)))
    (h : K (a.put dst v) w) :
    if Region.wanted ⟨dst, .lookup 156 m x false, ty, pos, aft, gd⟩ (yielded ops a.tmps) = true then Oper.wp Tryd.prog ⟨dst, .lookup 156 m x false, ty, pos, aft, gd⟩ a w K Q else E := by
  rw [if_pos hw]
  unfold Oper.wp execOp
  simp only [hm, hx, Sem.run_bind, run_lookup91 hb hf, Result.andThen_ok, Sem.run_pure]
  exact h
end
def goES : Array MapEntry := #[ent 1 124 0, ent 2 125 1, ent 3 126 2, ent 4 125 3, ent 5 125 4, ent 6 127 5]
/-- The table. -/
def GsPost (w : World) (e : Ending) (w' : World) : Prop := ∃ r, e = .returned (.map (some r)) ∧ w.heap.size ≤ r ∧ w'.heap[r]? = some (.map goES 6) ∧ Kept (fun _ => False) w w'
set_option maxRecDepth 100000 in
set_option maxHeartbeats 1000000 in
theorem f_goers (w : World) : Calls Tryd.prog 103 #[] w (GsPost w) := by
  have hn := heap_alloc_new w (.map #[] 0)
  have K0 := Lib.hid ((Kept.refl (fun _ => False) w).alloc (.map #[] 0))
  have H0 := Lib.hid hn
  clear hn
  go_enter Tryd.func103, Tryd.ntmps103
  go_wp2_with (first | fail | (with_reducible refine make91 ?_) | ((with_reducible refine insert91 (k := 1) (v := goerV 124) ?_ ?_ H0.out rfl ?_); rfl; rfl; intro wa ya ka; have H1 := Lib.hid ya; have K1 := Lib.hid ka; clear ya ka) | ((with_reducible refine insert91 (k := 2) (v := goerV 125) ?_ ?_ H1.out rfl ?_); rfl; rfl; intro wb yb kb; have H2 := Lib.hid yb; have K2 := Lib.hid (K1.out.trans kb); clear yb kb) | ((with_reducible refine insert91 (k := 3) (v := goerV 126) ?_ ?_ H2.out rfl ?_); rfl; rfl; intro wc yc kc; have H3 := Lib.hid yc; have K3 := Lib.hid (K2.out.trans kc); clear yc kc) | ((with_reducible refine insert91 (k := 4) (v := goerV 125) ?_ ?_ H3.out rfl ?_); rfl; rfl; intro wd yd kd; have H4 := Lib.hid yd; have K4 := Lib.hid (K3.out.trans kd); clear yd kd) | ((with_reducible refine insert91 (k := 5) (v := goerV 125) ?_ ?_ H4.out rfl ?_); rfl; rfl; intro we ye ke; have H5 := Lib.hid ye; have K5 := Lib.hid (K4.out.trans ke); clear ye ke) | ((with_reducible refine insert91 (k := 6) (v := goerV 127) ?_ ?_ H5.out rfl ?_); rfl; rfl; intro wf yf kf; have H6 := Lib.hid yf; have K6 := Lib.hid (K5.out.trans kf); clear yf kf))
  go_ret
  exact ⟨w.heap.size, rfl, Nat.le_refl _, H6.out, K0.out.trans' K6.out (fun i hi e => by omega)⟩
end Go.Proofs.YtklmhegmombegaaDoor.Re
