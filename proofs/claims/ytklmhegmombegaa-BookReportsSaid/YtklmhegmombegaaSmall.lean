/-
  Contracts of of, turn, pick. Conditions: as each theorem says.
-/
import Derived.Test.YtklmhegmombegaaRec
set_option linter.unusedVariables false
set_option linter.unusedSimpArgs false
namespace Go.Proofs.Ytklmhegmombegaa
open Go Go.RowKit Plain

theorem rec_cells {w : World} {B : Nat} {C : Array Value} {x : Rc} (hC : Recish C x) (h : w.heap[B]? = some (.cells C 41 (0, 0))) :
    w.cell? ⟨B, 0, none⟩ = some (.int .i64 x.kind) ∧ w.cell? ⟨B, 2, none⟩ = some (.int .i64 x.seq) ∧ w.cell? ⟨B, 3, none⟩ = some (.int .i64 x.step) ∧ w.cell? ⟨B, 4, none⟩ = some (.int .i64 x.tr) ∧ w.cell? ⟨B, 5, none⟩ = some (.bool x.bk) ∧
    w.cell? ⟨B, 6, none⟩ = some (.bool x.good) ∧ w.cell? ⟨B, 7, none⟩ = some (.int .i64 x.nd) :=
  ⟨(cell_of_row w B 0 C _ _ h).trans hC.c0, (cell_of_row w B 2 C _ _ h).trans hC.c2, (cell_of_row w B 3 C _ _ h).trans hC.c3, (cell_of_row w B 4 C _ _ h).trans hC.c4, (cell_of_row w B 5 C _ _ h).trans hC.c5, (cell_of_row w B 6 C _ _ h).trans hC.c6, (cell_of_row w B 7 C _ _ h).trans hC.c7⟩

/-- What is told, as a value. -/
def toldV (d : Du) : Value := .agg #[.int .i64 d.kind, .int .i64 d.step, .int .i64 d.tr, .bool d.bk, .int .i64 d.nd]
theorem f_of {C : Array Value} {x : Rc} (hC : Recish C x) (w : World) : Calls Try.prog 46 #[.agg C] w fun e w' => e = .returned (toldV (told x)) ∧ Kept (fun _ => False) w w' := by
  obtain ⟨x0, x2, x3, x4, x5, x6, x7⟩ := rec_cells hC (heap_alloc2_old w (.cells C 41) (.cells #[.int .i64 0, .int .i64 0, .int .i64 0, .bool false, .int .i64 0] 78))
  clear x2 x6
  unfold toldV told
  have hsz := hC.size
  clear hC
  go_enter Try.func46, Try.ntmps46
  go_wp2_with fail
  refine bodyPost_ret (v := .agg #[.int .i64 x.kind, .int .i64 x.step, .int .i64 x.tr, .bool x.bk, .int .i64 x.nd]) (by simp [results, Try.results46, go_sem]) rfl ⟨rfl, ?_⟩
  exact ((Kept.refl _ w).alloc _).alloc _

def turnS (s : Sg) : Sg := { s with phase := 1, tries := 0 }
theorem f_turn (s : Sg) (a : Option Addr) (n c : Nat) (w : World) : Calls Try.prog 63 #[.agg (sgC s (.slice a n c))] w fun e w' => e = .returned (.agg (sgC (turnS s) (.slice a n c))) ∧ Kept (fun _ => False) w w' := by
  unfold sgC turnS
  go_enter Try.func63, Try.ntmps63
  go_wp2_with fail
  refine bodyPost_ret (v := .agg #[.slice a n c, .int .i64 1, .int .i64 s.pos, .int .i64 0, .bool s.wait, .bool s.back, .int .i64 s.done, .int .i64 s.undone, .int .i64 s.may, .int .i64 s.seq]) (by simp [results, Try.results63, go_sem]) rfl ⟨rfl, ?_⟩
  exact ((Kept.refl _ w).alloc _).alloc _

theorem f_pick (a a' : Option Addr) (n c n' c' : Nat) (p q r d u m s p' q' r' d' u' m' s' : Int) (g k g' k' : Bool) (ok : Bool) (w : World) : Calls Try.prog 45 #[.agg #[.slice a n c, .int .i64 p, .int .i64 q, .int .i64 r, .bool g, .bool k, .int .i64 d, .int .i64 u, .int .i64 m, .int .i64 s],
    .agg #[.slice a' n' c', .int .i64 p', .int .i64 q', .int .i64 r', .bool g', .bool k', .int .i64 d', .int .i64 u', .int .i64 m', .int .i64 s'], .bool ok] w fun e w' =>
    e = .returned (.tuple #[if ok = true then .agg #[.slice a' n' c', .int .i64 p', .int .i64 q', .int .i64 r', .bool g', .bool k', .int .i64 d', .int .i64 u', .int .i64 m', .int .i64 s'] else .agg #[.slice a n c, .int .i64 p, .int .i64 q, .int .i64 r, .bool g, .bool k, .int .i64 d, .int .i64 u, .int .i64 m, .int .i64 s], .bool ok]) ∧ Kept (fun _ => False) w w' := by
  cases ok with
  | true =>
    go_enter Try.func45, Try.ntmps45
    go_wp2_with fail
    refine bodyPost_ret (v := .tuple #[.agg #[.slice a' n' c', .int .i64 p', .int .i64 q', .int .i64 r', .bool g', .bool k', .int .i64 d', .int .i64 u', .int .i64 m', .int .i64 s'], .bool true]) (by simp [results, Try.results45, go_sem]) rfl ⟨rfl, ?_⟩
    exact (((Kept.refl _ w).alloc _).alloc _).alloc _
  | false =>
    go_enter Try.func45, Try.ntmps45
    go_wp2_with fail
    refine bodyPost_ret (v := .tuple #[.agg #[.slice a n c, .int .i64 p, .int .i64 q, .int .i64 r, .bool g, .bool k, .int .i64 d, .int .i64 u, .int .i64 m, .int .i64 s], .bool false]) (by simp [results, Try.results45, go_sem]) rfl ⟨rfl, ?_⟩
    exact (((Kept.refl _ w).alloc _).alloc _).alloc _

end Go.Proofs.Ytklmhegmombegaa
