/-
  A participant's map: keys of a saga's step, forth or back. Conditions: as each theorem says.
  The contracts of a participant's Rotate, Epoch. Conditions: as each theorem says.
  The contract of a participant's its (66). Conditions: as each theorem says.
-/
import Derived.Test.YtklmhegmombegaaDoorGreatA
import Derived.Maps.Keyed
import Derived.DeepKeys4
import Derived.MapFrom
import Derived.Deep.QuietTactic
import Derived.BigQuiet
set_option linter.unusedVariables false
set_option linter.unusedSimpArgs false
set_option maxRecDepth 100000
namespace Go.Proofs.YtklmhegmombegaaDoor
open Go Go.RowKit Plain
open Go.WideShapes
theorem pa_laid : laidOutB Tryd.prog = true := by kernel_rfl
theorem K150 : Maps.Keyed Tryd.prog 150 := Maps.Keyed.of_law (deep_law_laid pa_laid (m := 20) (by decide) (of_decide_eq_true (by kernel_rfl)) (by kernel_rfl) (by kernel_rfl))
/-- A key. -/
def keyV (s t : Int) (b : Bool) : Value := .agg #[.int .i64 s, .int .i64 t, .bool b]
theorem W64.wf {n : Int} (h : W64 n) : (Lit.int .i64 n).wf = true := by
  have e1 : IntKind.i64.min = -9223372036854775808 := rfl
  have e2 : IntKind.i64.max = 9223372036854775807 := rfl
  simp [Lit.wf, e1, e2, h.1, h.2]
theorem kl3 {n : Int} (h : W64 n) (d : Nat) : Tryd.prog.keyLits (d + 1) 3 [.int .i64 n] = some [.int .i64 n] := by simp [Program.keyLits, Tryd.underlying3, h.wf]
theorem kl4 (b : Bool) (d : Nat) : Tryd.prog.keyLits (d + 1) 4 [.bool b] = some [.bool b] := by simp [Program.keyLits, Tryd.underlying4]
theorem key150 (s t : Int) (b : Bool) (hs : W64 s) (ht : W64 t) : ∃ l, keyOf Tryd.prog 150 (keyV s t b) = some l := by
  have h1 : Tryd.prog.keyType 150 = true := by kernel_rfl
  have h2 : Value.formed Tryd.prog 150 (Value.agg #[.int .i64 s, .int .i64 t, .bool b]) = true := by
    have c1 : Tryd.prog.cellsOf 150 = 3 := by kernel_rfl
    simp [Value.formed, Tryd.underlying150, c1]
  have h3 : Tryd.prog.keyLits 223 150 [.int .i64 s, .int .i64 t, .bool b] = some [.int .i64 s, .int .i64 t, .bool b] := by
    have c1 : Tryd.prog.cellsOf 150 = 3 := by kernel_rfl
    have c2 : Tryd.prog.cellsOf 3 = 1 := by kernel_rfl
    have c3 : Tryd.prog.cellsOf 4 = 1 := by kernel_rfl
    unfold Program.keyLits
    rw [Tryd.underlying150]
    simp [c1, c2, c3, kl3 hs 221, kl3 ht 221, kl4 b 221]
  have h4 : Tryd.prog.types.size = 222 := by kernel_rfl
  refine ⟨.string (keyBytes [.int .i64 s, .int .i64 t, .bool b]), ?_⟩
  unfold keyV
  simp only [keyOf, Tryd.underlying150, h1, h2, h4, Value.cells]
  rw [show 222 + 1 = 223 from rfl, h3]
  rfl
theorem keyV_inj {s t s' t' : Int} {b b' : Bool} (h : keyV s t b = keyV s' t' b') : s = s' ∧ t = t' ∧ b = b' := by
  simpa [keyV] using h
/-- What a participant remembers. -/
structure En where
  saga : Int
  step : Int
  back : Bool
  good : Bool
def En.key (e : En) : Int × Int × Bool := (e.saga, e.step, e.back)
def En.fit (e : En) : Prop := W64 e.saga ∧ W64 e.step
/-- The entries of its map. -/
def mapE (l : List En) (c : Nat) : List MapEntry := l.zipIdx c |>.map fun p => ⟨keyV p.1.saga p.1.step p.1.back, .bool p.1.good, p.2⟩
/-- What its map says of a key. -/
def hadE (l : List En) (k : Int × Int × Bool) : Option Bool := (l.find? fun e => e.key == k).map (·.good)
theorem mapE_mem {l : List En} {c : Nat} {e : MapEntry} (h : e ∈ mapE l c) : ∃ x ∈ l, e.key = keyV x.saga x.step x.back ∧ e.val = .bool x.good := by
  obtain ⟨p, hp, rfl⟩ := List.mem_map.1 h
  exact ⟨p.1, (List.mem_zipIdx hp).2.2 ▸ List.getElem_mem _, rfl, rfl⟩
theorem mapE_of {l : List En} {c : Nat} {x : En} (h : x ∈ l) : ∃ e ∈ mapE l c, e.key = keyV x.saga x.step x.back ∧ e.val = .bool x.good := by
  obtain ⟨i, hi, rfl⟩ := List.mem_iff_getElem.1 h
  refine ⟨⟨keyV l[i].saga l[i].step l[i].back, .bool l[i].good, c + i⟩, List.mem_map.2 ⟨(l[i], c + i), ?_, rfl⟩, rfl, rfl⟩
  rw [List.mem_iff_getElem]
  exact ⟨i, by simpa using hi, by simp⟩
theorem find_had {l : List En} (w : World) (c : Nat) {s t : Int} {b : Bool} (hl : ∀ e ∈ l, e.fit) (hn : (l.map En.key).Nodup) (hs : W64 s) (ht : W64 t) :
    (hadE l (s, t, b) = none ∧ (Instr.findKey 150 (keyV s t b) (mapE l c)).run Tryd.prog w = .ok none w) ∨ ∃ g j, hadE l (s, t, b) = some g ∧ (Instr.findKey 150 (keyV s t b) (mapE l c)).run Tryd.prog w = .ok (some (j, .bool g)) w := by
  obtain ⟨lx, hlx⟩ := key150 s t b hs ht
  rcases K150.find w hlx (mapE l c) (fun e he => by
    obtain ⟨x, hx, hk, _⟩ := mapE_mem he
    rw [hk]; exact key150 _ _ _ (hl x hx).1 (hl x hx).2) with ⟨h1, h2⟩ | ⟨j, e, h1, h2, h3⟩
  · refine .inl ⟨?_, h1⟩
    unfold hadE
    rw [List.find?_eq_none.2, Option.map_none]
    intro x hx hk
    obtain ⟨e, he, hke, _⟩ := mapE_of (c := c) hx
    simp only [En.key, beq_iff_eq, Prod.mk.injEq] at hk
    exact h2 e he (by rw [hke, hk.1, hk.2.1, hk.2.2])
  · obtain ⟨x, hx, hk, hv⟩ := mapE_mem (List.mem_of_getElem? h2)
    rw [hk] at h3
    obtain ⟨e1, e2, e3⟩ := keyV_inj h3
    refine .inr ⟨x.good, j, ?_, by rw [← hv]; exact h1⟩
    unfold hadE
    cases hf : l.find? (fun e => e.key == (s, t, b)) with
    | none =>
      have := List.find?_eq_none.1 hf x hx
      simp [En.key, e1, e2, e3] at this
    | some y =>
      have hy := List.find?_some hf
      have hym := List.mem_of_find?_eq_some hf
      simp only [beq_iff_eq] at hy
      have hxk : x.key = (s, t, b) := by simp [En.key, e1, e2, e3]
      have : x = y := by
        obtain ⟨i1, h1, rfl⟩ := List.mem_iff_getElem.1 hx
        obtain ⟨i2, h2, rfl⟩ := List.mem_iff_getElem.1 hym
        have hp := List.pairwise_iff_getElem.1 hn
        rcases Nat.lt_trichotomy i1 i2 with h | h | h
        · exact absurd (show (l.map En.key)[i1]'(by simpa using h1) = (l.map En.key)[i2]'(by simpa using h2) by rw [List.getElem_map, List.getElem_map, hxk, hy]) (hp i1 i2 (by simpa using h1) (by simpa using h2) h)
        · subst h; rfl
        · exact absurd (show (l.map En.key)[i2]'(by simpa using h2) = (l.map En.key)[i1]'(by simpa using h1) by rw [List.getElem_map, List.getElem_map, hxk, hy]) (hp i2 i1 (by simpa using h2) (by simpa using h1) h)
      rw [this]; rfl
/-- The participant's map, in memory. -/
def MapIn (w : World) (r : Nat) (l : List En) : Prop := w.heap[r]? = some (.map (mapE l 0).toArray l.length)
theorem run_look116 {w : World} {r : Nat} {l : List En} {s t : Int} {b : Bool} (hb : MapIn w r l) (hl : ∀ e ∈ l, e.fit) (hn : (l.map En.key).Nodup) (hs : W64 s) (ht : W64 t) (ok : Bool) :
    (Instr.lookup 116 (.map (some r)) (keyV s t b) ok).run Tryd.prog w = .ok (if ok then .tuple #[.bool ((hadE l (s, t, b)).getD false), .bool (hadE l (s, t, b)).isSome] else .bool ((hadE l (s, t, b)).getD false)) w := by
  obtain ⟨lx, hlx⟩ := key150 s t b hs ht
  have hc := fun em => K150.check w em hlx
  have hu : Tryd.prog.underlying 116 = some (.map 150 4) := by kernel_rfl
  have hz : (zeroValue 4).run Tryd.prog w = .ok (.bool false) w := by kernel_rfl
  unfold Instr.lookup
  rcases find_had w 0 hl hn hs ht (b := b) with ⟨h1, h2⟩ | ⟨g, j, h1, h2⟩
  · rw [h1]
    simp only [Sem.run_bind, run_underlying hu, Result.andThen_ok, MapKept.run_getObj_map hb, Sem.run_pure, hc, h2, hz]
    cases ok <;> rfl
  · rw [h1]
    simp only [Sem.run_bind, run_underlying hu, Result.andThen_ok, MapKept.run_getObj_map hb, Sem.run_pure, hc, h2]
    cases ok <;> rfl
theorem run_note116 {w : World} {r : Nat} {l : List En} (x : En) (hb : MapIn w r l) (hl : ∀ e ∈ l, e.fit) (hn : (l.map En.key).Nodup) (hx : x.fit) (hno : hadE l x.key = none) :
    ∃ w', (Instr.mapUpdate 116 (.map (some r)) (keyV x.saga x.step x.back) (.bool x.good)).run Tryd.prog w = .ok () w' ∧ MapIn w' r (l ++ [x]) ∧ Kept (fun i => i = r) w w' := by
  obtain ⟨lx, hlx⟩ := key150 x.saga x.step x.back hx.1 hx.2
  have hc := fun em => K150.check w em hlx
  have hst := K150.stays w hlx
  have hu : Tryd.prog.underlying 116 = some (.map 150 4) := by kernel_rfl
  have hf : (Instr.findKey 150 (keyV x.saga x.step x.back) (mapE l 0)).run Tryd.prog w = .ok none w := by
    rcases find_had w 0 hl hn hx.1 hx.2 (b := x.back) with ⟨h1, h2⟩ | ⟨g, j, h1, h2⟩
    · exact h2
    · rw [show (x.saga, x.step, x.back) = x.key from rfl, hno] at h1; cases h1
  have e1 : (mapE l 0).toArray.push ⟨keyV x.saga x.step x.back, .bool x.good, l.length⟩ = (mapE (l ++ [x]) 0).toArray := by simp [mapE, List.zipIdx_append]
  have hs := MapKept.heap_set (o' := .map ((mapE l 0).toArray.push ⟨keyV x.saga x.step x.back, .bool x.good, l.length⟩) (l.length + 1)) hb
  refine ⟨{ w with heap := w.heap.setIfInBounds r (.map ((mapE l 0).toArray.push ⟨keyV x.saga x.step x.back, .bool x.good, l.length⟩) (l.length + 1)) }, ?_, ?_, ⟨rfl, rfl, rfl, by simp, fun i hi h => hs.2 i h⟩⟩
  · unfold Instr.mapUpdate
    simp only [Sem.run_bind, run_underlying hu, Result.andThen_ok, MapKept.run_getObj_map hb, hc, hf, hst, MapKept.run_setObj_map _ hb]
  · unfold MapIn
    rw [← e1, List.length_append]
    exact hs.1
section
variable {ops : Array Oper} {rest : List Oper} {dst : Option Tmp} {ty : TypeId} {pos : String} {aft : Array Edge} {gd : Option (Nat × Bool)} {a : Act} {w : World} {Q : Exit → Act → World → Prop} {K : Act → World → Prop} {E : Prop} {S : World → Prop}
theorem yields_look116 {m x : Operand} {ok : Bool} {r : Nat} {l : List En} {s t : Int} {b : Bool} (hw : Region.wanted ⟨dst, .lookup 116 m x ok, ty, pos, aft, gd⟩ (yielded ops a.tmps) = true) (hm : a.eval m = .map (some r)) (hx : a.eval x = keyV s t b) (hb : ∀ w, S w → MapIn w r l) (hl : ∀ e ∈ l, e.fit) (hn : (l.map En.key).Nodup) (hs : W64 s) (ht : W64 t) :
    YieldsIf Tryd.prog ops S ⟨dst, .lookup 116 m x ok, ty, pos, aft, gd⟩ (if ok then .tuple #[.bool ((hadE l (s, t, b)).getD false), .bool (hadE l (s, t, b)).isSome] else .bool ((hadE l (s, t, b)).getD false)) a := by
  refine .inl ⟨hw, fun w hS => ?_⟩
  have h := run_look116 (hb w hS) hl hn hs ht (b := b) ok
  unfold execOp
  simp only [hm, hx, Sem.run_bind, h, Result.andThen_ok, Sem.run_pure]
theorem step_note116 {m x y : Operand} {r : Nat} {l : List En} (e : En) (hw : Region.wanted ⟨dst, .mapUpdate 116 m x y, ty, pos, aft, gd⟩ (yielded ops a.tmps) = true) (hm : a.eval m = .map (some r)) (hx : a.eval x = keyV e.saga e.step e.back) (hy : a.eval y = .bool e.good) (hb : MapIn w r l) (hl : ∀ e ∈ l, e.fit) (hn : (l.map En.key).Nodup) (he : e.fit) (hno : hadE l e.key = none)
    (h : ∀ w', MapIn w' r (l ++ [e]) → Kept (fun i => i = r) w w' → K (a.put dst undef) w') :
    if Region.wanted ⟨dst, .mapUpdate 116 m x y, ty, pos, aft, gd⟩ (yielded ops a.tmps) = true then Oper.wp Tryd.prog ⟨dst, .mapUpdate 116 m x y, ty, pos, aft, gd⟩ a w K Q else E := by
  rw [if_pos hw]
  obtain ⟨w', hr, h1, h2⟩ := run_note116 e hb hl hn he hno
  unfold Oper.wp execOp
  simp only [hm, hx, hy, Sem.run_bind, hr, Result.andThen_ok, Sem.run_pure]
  exact h w' h1 h2
end
end Go.Proofs.YtklmhegmombegaaDoor
namespace Go.Proofs.YtklmhegmombegaaDoor
open Go Go.RowKit Plain
/-- The cells of a participant. -/
def paC (pv wv : Value) (need n ep : Int) (r : Nat) (sv : Value) : Array Value := #[pv, wv, .int .i64 need, .int .i64 n, .int .i64 ep, .map (some r), sv]
theorem f_epoch (g r : Nat) (pv wv sv : Value) (need n ep : Int) (w : World) (hg : w.heap[g]? = some (.cells (paC pv wv need n ep r sv) 118 (0, 0))) : Calls Tryd.prog 38 #[.pointer (some ⟨g, 0, none⟩)] w fun e w' => e = .returned (.int .i64 ep) ∧ w' = w := by
  have c4 : w.cell? ⟨g, 4, none⟩ = some (.int .i64 ep) := row_cell (k := 4) hg rfl
  go_enter Tryd.func38, Tryd.ntmps38
  go_wp2_with fail
  go_ret
  exact ⟨rfl, rfl⟩
theorem f_epoch_nil (w : World) : Calls Tryd.prog 38 #[.pointer none] w fun e w' => e = .returned (.int .i64 0) ∧ w' = w := by
  go_enter Tryd.func38, Tryd.ntmps38
  go_wp2_with fail
  go_ret
  exact ⟨rfl, rfl⟩
theorem f_rotate_nil (w : World) : Calls Tryd.prog 37 #[.pointer none] w fun e w' => e = .returned (.bool false) ∧ w' = w := by
  go_enter Tryd.func37, Tryd.ntmps37
  go_wp2_with fail
  go_ret
  exact ⟨rfl, rfl⟩
theorem f_rotate (g r : Nat) (pv wv sv : Value) (need n ep : Int) (w : World) (hg : w.heap[g]? = some (.cells (paC pv wv need n ep r sv) 118 (0, 0))) (h0 : 0 ≤ ep) : Calls Tryd.prog 37 #[.pointer (some ⟨g, 0, none⟩)] w fun e w' => e = .returned (.bool (decide (ep < 400))) ∧ w'.heap[g]? = some (.cells (paC pv wv need n (if ep < 400 then ep + 1 else ep) r sv) 118 (0, 0)) ∧ Kept (fun i => i = g) w w' := by
  have c4 : w.cell? ⟨g, 4, none⟩ = some (.int .i64 ep) := row_cell (k := 4) hg rfl
  have f4 := free_of_block (j := 4) hg
  by_cases h : ep < 400
  · have d : decide (400 ≤ ep) = false := decide_eq_false (by omega)
    have e1 := IntWalk.i64_in (ep + 1) (by omega)
    have HG := Lib.hid hg
    rw [if_pos h, decide_eq_true h]
    clear hg
    go_enter Tryd.func37, Tryd.ntmps37
    go_wp2_with fail
    go_ret
    exact ⟨rfl, setCell_block HG.out _, (Kept.refl (fun i => i = g) w).setCell (p := ⟨g, 4, none⟩) (.inl rfl) _⟩
  · have d : decide (400 ≤ ep) = true := decide_eq_true (by omega)
    rw [if_neg h, decide_eq_false h]
    have HG := Lib.hid hg
    clear hg
    go_enter Tryd.func37, Tryd.ntmps37
    go_wp2_with fail
    go_ret
    exact ⟨rfl, HG.out, Kept.refl _ _⟩
theorem f_pwithin (n lo hi : Int) (w : World) : Calls Tryd.prog 100 #[.int .i64 n, .int .i64 lo, .int .i64 hi] w fun e w' => e = .returned (.bool (Re.wi n lo hi)) ∧ w = w' := by
  unfold Re.wi
  by_cases h : lo ≤ n
  · have h1 : decide (lo ≤ n) = true := by simpa using h
    go_enter Tryd.func100, Tryd.ntmps100
    go_wp2_with fail
    go_ret
    exact ⟨by simp [h], rfl⟩
  · have h1 : decide (lo ≤ n) = false := by simpa using h
    go_enter Tryd.func100, Tryd.ntmps100
    go_wp2_with fail
    go_ret
    exact ⟨by simp, rfl⟩
theorem f_pwithin_is {n lo hi : Int} {b : Bool} (h : Re.wi n lo hi = b) (w : World) : Calls Tryd.prog 100 #[.int .i64 n, .int .i64 lo, .int .i64 hi] w fun e w' => e = .returned (.bool b) ∧ w = w' := by
  subst h; exact f_pwithin n lo hi w
/-- A call. -/
structure Cl where
  saga : Int
  step : Int
  try_ : Int
  back : Bool
  part : Int
  kind : Int
  answer : Bool
  good : Bool
  epoch : Int
  tag : List Nat
/-- Its cells. -/
def clC (c : Cl) : Array Value := (#[.int .i64 c.saga, .int .i64 c.step, .int .i64 c.try_, .bool c.back, .int .i64 c.part, .int .i64 c.kind, .bool c.answer, .bool c.good, .int .i64 c.epoch] : Array Value) ++ (bys c.tag).toArray
theorem clC_size {c : Cl} (h : c.tag.length = 32) : (clC c).size = 41 := by simp [clC, bys_len, h]
end Go.Proofs.YtklmhegmombegaaDoor
namespace Go.Proofs.YtklmhegmombegaaDoor
open Go Go.RowKit Plain
open Go.Proofs.YtklmhegmombegaaDoor.Re (wi)
theorem pw_any {n lo hi : Int} {b : Bool} (h : Re.wi n lo hi = b) (w : World) : Calls Tryd.prog 100 #[.int .i64 n, .int .i64 lo, .int .i64 hi] w fun e w' => e = .returned (.bool b) ∧ w' = w := (f_pwithin_is h w).mono fun _ _ h => ⟨h.1, h.2.symm⟩
/-- Is a call a participant's? -/
def pIts (n : Int) (c : Cl) : Bool := !c.answer && ((c.part == n) && (wi c.saga 0 11 && (wi c.step 0 5 && (wi c.kind 1 3 && wi c.try_ 1 9))))
set_option maxHeartbeats 4000000 in
theorem f_its (g r : Nat) (pv wv sv : Value) (need n ep : Int) (c : Cl) (w : World) (hg : w.heap[g]? = some (.cells (paC pv wv need n ep r sv) 118 (0, 0))) : Calls Tryd.prog 66 #[.pointer (some ⟨g, 0, none⟩), .agg (clC c)] w (BPost (pIts n c) w) := by
  have k1 := (Kept.refl (fun _ => False) w).alloc (.cells (clC c) 59)
  have gc := heap_alloc_new w (.cells (clC c) 59)
  have gp := k1.row hg
  have K1 := Lib.hid k1
  have HE : Hid (pIts n c = (!c.answer && ((c.part == n) && (wi c.saga 0 11 && (wi c.step 0 5 && (wi c.kind 1 3 && wi c.try_ 1 9)))))) := rfl
  have c0 := row_cell (k := 0) gc (v := .int .i64 c.saga) (by simp [clC])
  have c1 := row_cell (k := 1) gc (v := .int .i64 c.step) (by simp [clC])
  have c2 := row_cell (k := 2) gc (v := .int .i64 c.try_) (by simp [clC])
  have c4 := row_cell (k := 4) gc (v := .int .i64 c.part) (by simp [clC])
  have c5 := row_cell (k := 5) gc (v := .int .i64 c.kind) (by simp [clC])
  have c6 := row_cell (k := 6) gc (v := .bool c.answer) (by simp [clC])
  have p3 := row_cell (k := 3) gp (v := .int .i64 n) rfl
  clear k1 gc gp hg
  generalize pIts n c = res at *
  go_enter Tryd.func66, Tryd.ntmps66
  go_upto_region 1 with (fail)
  generalize w.alloc (.cells (clC c) 59) = w1 at *
  cases ha : c.answer with
  | true =>
    rw [ha] at c6
    rw [ha] at HE
    clear ha
    go_quiet (fail)
    go_wp2_with fail
    go_ret
    exact BPost.mk HE.out (K1.out.drewN _)
  | false =>
    rw [ha] at c6 HE
    clear ha
    cases h1 : (c.part == n) with
    | false =>
      rw [h1] at HE
      go_quiet ((go_at_call 100; exact Calls.quiet_of_same (pw_any (by assumption) _)))
      go_wp2_with fail
      go_ret
      exact BPost.mk HE.out (K1.out.drewN _)
    | true =>
      rw [h1] at HE
      cases h2 : wi c.saga 0 11 with
      | false =>
        rw [h2] at HE
        go_quiet ((go_at_call 100; exact Calls.quiet_of_same (pw_any (by assumption) _)))
        go_wp2_with fail
        go_ret
        exact BPost.mk HE.out (K1.out.drewN _)
      | true =>
        rw [h2] at HE
        cases h3 : wi c.step 0 5 with
        | false =>
          rw [h3] at HE
          go_quiet ((go_at_call 100; exact Calls.quiet_of_same (pw_any (by assumption) _)))
          go_wp2_with fail
          go_ret
          exact BPost.mk HE.out (K1.out.drewN _)
        | true =>
          rw [h3] at HE
          cases h4 : wi c.kind 1 3 with
          | false =>
            rw [h4] at HE
            go_quiet ((go_at_call 100; exact Calls.quiet_of_same (pw_any (by assumption) _)))
            go_wp2_with fail
            go_ret
            exact BPost.mk HE.out (K1.out.drewN _)
          | true =>
            rw [h4] at HE
            cases h5 : wi c.try_ 1 9 with
            | false =>
              rw [h5] at HE
              go_quiet ((go_at_call 100; exact Calls.quiet_of_same (pw_any (by assumption) _)))
              go_wp2_with fail
              go_ret
              exact BPost.mk HE.out (K1.out.drewN _)
            | true =>
              rw [h5] at HE
              go_quiet ((go_at_call 100; exact Calls.quiet_of_same (pw_any (by assumption) _)))
              go_wp2_with fail
              go_ret
              exact BPost.mk HE.out (K1.out.drewN _)
end Go.Proofs.YtklmhegmombegaaDoor
