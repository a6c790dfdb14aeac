/-
  What a call makes of what was remembered, in plain Lean. Conditions: as each theorem says.
-/
import Derived.Test.YtklmhegmombegaaDoorPaP
set_option linter.unusedVariables false
set_option linter.unusedSimpArgs false
set_option maxRecDepth 100000
namespace Go.Proofs.YtklmhegmombegaaDoor
open Go Go.RowKit Plain
def hadM (l : List En) (s t : Int) (b : Bool) (m : Nat) : Bool := (l.take m).any fun e => (e.saga == s) && ((e.step == t) && (e.back == b))
def undM (l : List En) (s t : Int) (m : Nat) : Bool := (l.take m).any fun e => ((e.saga == s) && (e.step == t)) && (e.back && e.good)
theorem hadM_succ {l : List En} {m : Nat} (h : m < l.length) (s t : Int) (b : Bool) : hadM l s t b (m + 1) = (hadM l s t b m || ((l[m].saga == s) && ((l[m].step == t) && (l[m].back == b)))) := by
  unfold hadM
  rw [List.take_succ_eq_append_getElem h, List.any_append]
  simp
theorem undM_succ {l : List En} {m : Nat} (h : m < l.length) (s t : Int) : undM l s t (m + 1) = (undM l s t m || (((l[m].saga == s) && (l[m].step == t)) && (l[m].back && l[m].good))) := by
  unfold undM
  rw [List.take_succ_eq_append_getElem h, List.any_append]
  simp
theorem key_beq (e : En) (s t : Int) (b : Bool) : (e.key == (s, t, b)) = ((e.saga == s) && ((e.step == t) && (e.back == b))) := rfl
theorem hadM_all (l : List En) (s t : Int) (b : Bool) : hadM l s t b l.length = (hadE l (s, t, b)).isSome := by
  unfold hadM hadE
  rw [List.take_length, Option.isSome_map, List.isSome_find?]
  rfl
theorem had_of_mem {l : List En} {e : En} (hn : (l.map En.key).Nodup) (he : e ∈ l) : hadE l e.key = some e.good := by
  induction l with
  | nil => cases he
  | cons x l ih =>
    rw [List.map_cons, List.nodup_cons] at hn
    unfold hadE
    rw [List.find?_cons]
    by_cases hx : x.key = e.key
    · have hb : (x.key == e.key) = true := by simpa using hx
      rw [hb]
      rcases List.mem_cons.1 he with rfl | he
      · rfl
      · exact absurd (List.mem_map.2 ⟨e, he, hx.symm⟩) hn.1
    · have hb : (x.key == e.key) = false := by simpa using hx
      rw [hb]
      rcases List.mem_cons.1 he with rfl | he
      · exact absurd rfl hx
      · exact ih hn.2 he
theorem und_all {l : List En} {s t : Int} (hn : (l.map En.key).Nodup) (h : undM l s t l.length = true) : hadE l (s, t, true) = some true := by
  unfold undM at h
  rw [List.take_length, List.any_eq_true] at h
  obtain ⟨e, he, hb⟩ := h
  simp only [Bool.and_eq_true, beq_iff_eq] at hb
  have := had_of_mem hn he
  rw [show e.key = (s, t, true) by simp [En.key, hb.1.1, hb.1.2, hb.2.1], hb.2.2] at this
  exact this
theorem says_match {l : List En} {c : Cl} {rf : Bool} (hn : (l.map En.key).Nodup) {m : Nat} (h : m < l.length) (hk : ((l[m].saga == c.saga) && ((l[m].step == c.step) && (l[m].back == c.back))) = true) : (pSays l c rf).1 = l[m].good := by
  have h1 := had_of_mem hn (List.getElem_mem h)
  simp only [Bool.and_eq_true, beq_iff_eq] at hk
  rw [show l[m].key = (c.saga, c.step, c.back) by simp [En.key, hk.1, hk.2.1, hk.2.2]] at h1
  unfold pSays
  rw [h1]
/-- The three ways. -/
theorem says_ways (l : List En) (c : Cl) (rf : Bool) (hn : (l.map En.key).Nodup) :
    ((hadE l (c.saga, c.step, c.back)).isSome = true ∧ (pSays l c rf).2 = l) ∨
    ((hadE l (c.saga, c.step, c.back)).isSome = false ∧ (pSays l c rf).1 = false ∧ ((pSays l c rf).2 = l ∨ ∃ e, (pSays l c rf).2 = l ++ [e])) ∨
    ((hadE l (c.saga, c.step, c.back)).isSome = false ∧ (pSays l c rf).1 = true ∧ (∃ e, (pSays l c rf).2 = l ++ [e]) ∧ (c.back = false → undM l c.saga c.step l.length = false)) := by
  unfold pSays
  cases hh : hadE l (c.saga, c.step, c.back) with
  | some b => exact .inl ⟨rfl, rfl⟩
  | none =>
    right
    cases hg : pGood l c rf with
    | false =>
      left
      refine ⟨rfl, rfl, ?_⟩
      dsimp only
      split
      · exact .inr ⟨_, rfl⟩
      · exact .inl rfl
    | true =>
      right
      have hnt : pNotes l c rf = true := by simp [pNotes, hg]
      refine ⟨rfl, rfl, ⟨_, by dsimp only; rw [if_pos hnt]⟩, fun hb => ?_⟩
      cases hu : undM l c.saga c.step l.length with
      | false => rfl
      | true =>
        have h1 := und_all hn hu
        simp [pGood, pUndone, hb, h1] at hg
theorem says_again {l : List En} {c : Cl} {rf rg : Bool} (h : (pSays l c rf).1 = true) : (pSays (pSays l c rf).2 c rg).1 = true := by
  have hk : hadE (pSays l c rf).2 (c.saga, c.step, c.back) = some true := by
    unfold pSays at h ⊢
    cases hh : hadE l (c.saga, c.step, c.back) with
    | some b => rw [hh] at h; dsimp only at h ⊢; rw [hh, h]
    | none =>
      rw [hh] at h
      dsimp only at h ⊢
      have hnt : pNotes l c rf = true := by simp [pNotes, h]
      rw [if_pos hnt, had_snoc, hh, h]
      simp [En.key]
  unfold pSays at hk ⊢
  rw [hk]
theorem says_pre (l : List En) (c : Cl) (rf : Bool) {m : Nat} (h : m < l.length) : (pSays l c rf).2[m]? = some l[m] := by
  unfold pSays
  split
  · exact List.getElem?_eq_getElem h
  · dsimp only
    split
    · rw [List.getElem?_append_left h]; exact List.getElem?_eq_getElem h
    · exact List.getElem?_eq_getElem h
theorem take_yes (k : Ky) {n ep : Int} {l : List En} {c : Cl} {rf : Bool} (hi : pIts n c = true) : pTake k n ep l c rf = (tagged k (outC c (pSays l c rf).1 ep), true, (pSays l c rf).2) := by
  unfold pTake
  rw [if_pos hi]
/-- Two entries compared. -/
theorem equal76 (w : World) (e : En) : (Op.equalIn 10000 76 (.agg #[.int .i64 e.saga, .int .i64 e.step, .bool e.back, .bool e.good]) (.agg #[.int .i64 e.saga, .int .i64 e.step, .bool e.back, .bool e.good])).run Tryd.prog w = .ok true w := by
  have u3 := Tryd.underlying3
  have u4 := Tryd.underlying4
  have hS : Tryd.prog.underlying 76 = some (.struct (Tryd.prog.fieldsOf 76)) := by kernel_rfl
  have hp : Tryd.prog.stoodInHeld 76 = false := by kernel_rfl
  rw [show (10000 : Nat) = 9999 + 1 from rfl, run_equalIn_agg w 9999 76 _ _ hS hp]
  simp only [Program.fieldsOf, Tryd.underlying76]
  go_simp
theorem yieldsNe76 {ops : Array Oper} {S : World → Prop} {dst : Option Tmp} {ty rt : TypeId} {pos : String} {aft : Array Edge} {gd : Option (Nat × Bool)} {a : Act} {x y : Operand} (e : En) (hw : Region.wanted ⟨dst, .binOp .neq 76 x y rt, ty, pos, aft, gd⟩ (yielded ops a.tmps) = true) (hx : a.eval x = .agg #[.int .i64 e.saga, .int .i64 e.step, .bool e.back, .bool e.good]) (hy : a.eval y = .agg #[.int .i64 e.saga, .int .i64 e.step, .bool e.back, .bool e.good]) :
    YieldsIf Tryd.prog ops S ⟨dst, .binOp .neq 76 x y rt, ty, pos, aft, gd⟩ (.bool false) a := by
  refine .inl ⟨hw, fun w hS => ?_⟩
  have hg := run_eqGuard_agg (P := Tryd.prog) w .neq 76 x y #[.int .i64 e.saga, .int .i64 e.step, .bool e.back, .bool e.good] #[.int .i64 e.saga, .int .i64 e.step, .bool e.back, .bool e.good] (by kernel_rfl)
  have hq : (binOp .neq 76 (.agg #[.int .i64 e.saga, .int .i64 e.step, .bool e.back, .bool e.good]) (.agg #[.int .i64 e.saga, .int .i64 e.step, .bool e.back, .bool e.good])).run Tryd.prog w = .ok (.bool false) w := by rw [run_neq_struct, equal76]; rfl
  unfold execOp
  simp only [hx, hy, Sem.run_bind, hg, hq, Result.andThen_ok, Sem.run_pure]
theorem Kept.oldC {w w' : World} (k : Kept (fun i => w.heap.size ≤ i) w w') {p : Addr} {v : Value} (h : w.cell? p = some v) : w'.cell? p = some v := (k.cell (World.block_lt_of_cell? w _ h) (Nat.not_le.2 (World.block_lt_of_cell? w _ h))).trans h
theorem Kept.oldR {w w' : World} (k : Kept (fun i => w.heap.size ≤ i) w w') {b o : Nat} {cs : List Value} (h : w.rangeAt b o cs) : w'.rangeAt b o cs := fun j v hv => k.oldC (h j v hv)
end Go.Proofs.YtklmhegmombegaaDoor
