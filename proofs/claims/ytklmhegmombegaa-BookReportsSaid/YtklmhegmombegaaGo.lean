/-
  The contract of the saga's Go. Conditions: as each theorem says.
-/
import Derived.Test.YtklmhegmombegaaLap
import Derived.Laws.StructEq
set_option linter.unusedVariables false
set_option linter.unusedSimpArgs false
namespace Go.Proofs.Ytklmhegmombegaa
open Go Go.RowKit Plain

/-- A saga behind a record, or as it was. -/
def GoPost (s : Sg) (v : Value) (x : Rc) (lim : Nat) (w : World) (e : Ending) (w' : World) : Prop :=
  e = .returned (match go s x lim with
    | some t => .tuple #[.agg (sgC t v), .bool true]
    | none => .tuple #[.agg (sgC s v), .bool false]) ∧ Kept (fun _ => False) w w'
theorem GoPost.no {s : Sg} {v : Value} {x : Rc} {lim : Nat} {w w' : World} {C : Array Value} (h : go s x lim = none) (hC : C = sgC s v) (hk : Kept (fun _ => False) w w') : GoPost s v x lim w (.returned (.tuple #[.agg C, .bool false])) w' := by
  subst hC; exact ⟨by rw [h], hk⟩
theorem GoPost.yes {s t : Sg} {v : Value} {x : Rc} {lim : Nat} {w w' : World} {C : Array Value} (h : go s x lim = some t) (hC : C = sgC t v) (hk : Kept (fun _ => False) w w') : GoPost s v x lim w (.returned (.tuple #[.agg C, .bool true])) w' := by
  subst hC; exact ⟨by rw [h], hk⟩
theorem results_go {fn : Func} {p t : Tmp} (h : fn.results = #[.cell p 27, .tmp t]) (tmps : Array Value) (w : World) (g : Nat) {C : Array Value} {ty : TypeId} {fr : Nat × Nat} {v : Value}
    (hg : w.heap[g]? = some (.cells C ty fr)) (hC : C.size = 10) (hp : tmps.getD p undef = .pointer (some ⟨g, 0, none⟩)) (hv : tmps.getD t undef = v := by rfl) :
    (results fn tmps).run Try.prog w = .ok (.tuple #[.agg C, v]) w := by
  have hp' : tmps[p]?.getD undef = .pointer (some ⟨g, 0, none⟩) := by simpa using hp
  have hv' : tmps[t]?.getD undef = v := by simpa using hv
  simp [results, h, hp', hv', asAddr, run_loadVar_row (P := Try.prog) w g ty 27 C fr _ hg Try.underlying27 rfl (by rw [Try.isz27, hC])]

/-- Two tellings compared. -/
theorem eql78 (d e : Du) (w : World) : (binOp .eql 78 (toldV d) (toldV e)).run Try.prog w = .ok (.bool (decide (d = e))) w := by
  have u3 := Try.underlying3
  have u4 := Try.underlying4
  have hS : Try.prog.underlying 78 = some (.struct (Try.prog.fieldsOf 78)) := by kernel_rfl
  have hp : Try.prog.stoodInHeld 78 = false := by kernel_rfl
  unfold toldV
  rw [run_eql_struct, show (10000 : Nat) = 9999 + 1 from rfl, run_equalIn_agg w 9999 78 _ _ hS hp]
  simp only [Program.fieldsOf, Try.underlying78]
  go_simp
  obtain ⟨a, b, c, f, g⟩ := d
  obtain ⟨a', b', c', f', g'⟩ := e
  simp only [Du.mk.injEq]
  by_cases h1 : a = a' <;> by_cases h2 : b = b' <;> by_cases h3 : c = c' <;> by_cases h4 : f = f' <;> by_cases h5 : g = g' <;> simp [h1, h2, h3, h4, h5]

set_option maxRecDepth 100000 in
set_option maxHeartbeats 2000000 in
/-- It does not go: another's number; no steps; it is over. -/
theorem f_go_no (s : Sg) (v : Value) (C : Array Value) (x : Rc) (lim : Nat) (w : World) (hC : Recish C x) (hs : Stp w v s.steps) (hn : x.seq ≠ s.seq ∨ s.steps = [] ∨ over s = true) :
    Calls Try.prog 22 #[.agg (sgC s v), .agg C, .int .i64 lim] w (GoPost s v x lim w) := by
  have E : Hid (go s x lim = none) := by show go s x lim = none; rw [go, if_pos hn]
  obtain ⟨h0, h1, h2⟩ := heap_alloc3 w (.cells (sgC s v) 27) (.cells C 41) (.cells Z27 27)
  have K3 := (((Kept.refl (fun _ => False) w).alloc (.cells (sgC s v) 27)).alloc (.cells C 41)).alloc (.cells Z27 27)
  have HH : Hid (∀ {w1 : World}, Kept (fun _ => False) (((w.alloc (.cells (sgC s v) 27)).alloc (.cells C 41)).alloc (.cells Z27 27)) w1 → w1.heap[w.heap.size]? = some (.cells (sgC s v) 27 (0, 0)) ∧ w1.heap[w.heap.size + 1]? = some (.cells C 41 (0, 0)) ∧ w1.heap[w.heap.size + 1 + 1]? = some (.cells Z27 27 (0, 0))) :=
    fun k => ⟨(k.block _ (by simp; omega) id).trans h0, (k.block _ (by simp) id).trans h1, (k.block _ (by simp) id).trans h2⟩
  have HF : Hid (∀ {w1 : World}, Kept (fun _ => False) (((w.alloc (.cells (sgC s v) 27)).alloc (.cells C 41)).alloc (.cells Z27 27)) w1 → Kept (fun _ => False) w (w1.setRow (w.heap.size + 1 + 1) (sgC s v))) := fun k => (K3.trans k).setRow (by omega) _
  obtain ⟨a, c, rfl⟩ := hs.form
  have hsz := hC.size
  obtain ⟨x0, x2, x3, x4, x5, x6, x7⟩ := rec_cells hC (HH.out (Kept.refl _ _)).2.1
  have X := Lib.hid hC
  clear h0 h1 h2 K3 hs hC x0 x3 x4 x5 x6 x7
  obtain ⟨st, ph, po, tr, wt, bk, dn, un, my, sq⟩ := s
  unfold sgC Z27 at *
  dsimp only at *
  have h6 := Lib.hid (HH.out (Kept.refl _ _)).2.2
  have k6 := Lib.hid (HF.out (Kept.refl _ _))
  by_cases hq : x.seq = sq
  · have q1 : (x.seq == (sq : Int)) = true := by rw [beq_iff_eq]; exact hq
    have q2 : (x.seq != (sq : Int)) = false := by rw [bne, q1]; rfl
    by_cases h0 : st = []
    · have hl0 : ((st.length : Int) == 0) = true := by rw [h0]; rfl
      clear hn hq HH HF h0
      go_enter Try.func22, Try.ntmps22
      go_wp2_with (first | fail | ((with_reducible refine store27 (C := #[.slice a st.length c, .int .i64 ph, .int .i64 po, .int .i64 tr, .bool wt, .bool bk, .int .i64 dn, .int .i64 un, .int .i64 my, .int .i64 sq]) ?_ ?_ h6.out (ten _ _ _ _ _ _ _ _ _ _) (ten _ _ _ _ _ _ _ _ _ _) (one10 _ _ _ _ _ _ _ _ _ _ _ _) ?_); rfl; rfl))
      exact bodyPost_ret (results_go rfl _ _ _ (setRow_heap _ _ _ _ _ _ h6.out) rfl rfl) rfl (GoPost.no E.out rfl k6.out)
    · have hl0 : ((st.length : Int) == 0) = false := by rw [beq_eq_false_iff_ne]; have := List.length_pos_iff.2 h0; omega
      have ho : over ⟨st, ph, po, tr, wt, bk, dn, un, my, sq⟩ = true := by
        rcases hn with h | h | h
        · exact absurd hq h
        · exact absurd h h0
        · exact h
      have HO : Hid (∀ w1, Calls Try.prog 24 #[.agg #[.slice a st.length c, .int .i64 ph, .int .i64 po, .int .i64 tr, .bool wt, .bool bk, .int .i64 dn, .int .i64 un, .int .i64 my, .int .i64 sq]] w1 fun e w' => e = .returned (.bool true) ∧ Kept (fun _ => False) w1 w') := fun w1 => by
        have := f_over ⟨st, ph, po, tr, wt, bk, dn, un, my, sq⟩ (.slice a st.length c) w1
        rw [ho] at this; exact this
      clear hn hq ho h0
      go_enter Try.func22, Try.ntmps22
      go_wp2_with fail
      refine (HO.out _).mono ?_
      rintro e w1 ⟨rfl, k1⟩
      have h6 := Lib.hid (HH.out k1).2.2
      have k6 := Lib.hid (HF.out k1)
      obtain ⟨b0, b1, b2, b3, b4, b5, b6, b7, b8, b9⟩ := cells10 (HH.out k1).1
      clear HH HF k1
      go_wp2_with (first | fail | ((with_reducible refine store27 (C := #[.slice a st.length c, .int .i64 ph, .int .i64 po, .int .i64 tr, .bool wt, .bool bk, .int .i64 dn, .int .i64 un, .int .i64 my, .int .i64 sq]) ?_ ?_ h6.out (ten _ _ _ _ _ _ _ _ _ _) (ten _ _ _ _ _ _ _ _ _ _) (one10 _ _ _ _ _ _ _ _ _ _ _ _) ?_); rfl; rfl))
      exact bodyPost_ret (results_go rfl _ _ _ (setRow_heap _ _ _ _ _ _ h6.out) rfl rfl) rfl (GoPost.no E.out rfl k6.out)
  · have q1 : (x.seq == (sq : Int)) = false := by rw [beq_eq_false_iff_ne]; exact hq
    have q2 : (x.seq != (sq : Int)) = true := by rw [bne, q1]; rfl
    clear hn hq HH HF
    go_enter Try.func22, Try.ntmps22
    go_wp2_with (first | fail | ((with_reducible refine store27 (C := #[.slice a st.length c, .int .i64 ph, .int .i64 po, .int .i64 tr, .bool wt, .bool bk, .int .i64 dn, .int .i64 un, .int .i64 my, .int .i64 sq]) ?_ ?_ h6.out (ten _ _ _ _ _ _ _ _ _ _) (ten _ _ _ _ _ _ _ _ _ _) (one10 _ _ _ _ _ _ _ _ _ _ _ _) ?_); rfl; rfl))
    exact bodyPost_ret (results_go rfl _ _ _ (setRow_heap _ _ _ _ _ _ h6.out) rfl rfl) rfl (GoPost.no E.out rfl k6.out)
end Go.Proofs.Ytklmhegmombegaa
