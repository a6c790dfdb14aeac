/-
  What came in: calls, acts; the laws' few (33). Conditions: as each theorem says.
-/
import Derived.Test.YtklmhegmombegaaDoorPaK
import Derived.Test.YtklmhegmombegaaDoorArgB
set_option linter.unusedVariables false
set_option linter.unusedSimpArgs false
set_option maxRecDepth 100000
namespace Go.Proofs.YtklmhegmombegaaDoor
open Go Go.RowKit Go.ChangeShapes Go.WideShapes Go.ChangeAt Plain
instance : Inhabited Cl := ⟨zCl⟩
/-- What the numbers of a call that came in are. -/
structure ClFit (c : Cl) : Prop where
  tagl : c.tag.length = 32
  tag8 : All8 c.tag
  saga : W64 c.saga
  step : W64 c.step
  try_ : W64 c.try_
  part : W64 c.part
  kind : W64 c.kind
  epoch : W64 c.epoch
section
variable {H : Type} {enc : TypeId × Value → H} {w : World}
theorem cells59 : Tryd.prog.cellsOf 59 = 41 := by kernel_rfl
theorem cells69 : Tryd.prog.cellsOf 69 = 43 := by kernel_rfl
theorem Reads.call {cs : List Value} (hl : cs.length = 41) (h : Reads enc Tryd.prog w 59 cs) : ∃ c : Cl, ClFit c ∧ cs = (clC c).toList := by
  have r0 : Reads enc Tryd.prog w 3 ((cs.drop 0).take (Tryd.prog.cellsOf 3)) := h.field Tryd.underlying59 (i := 0) rfl
  have r1 : Reads enc Tryd.prog w 3 ((cs.drop 1).take (Tryd.prog.cellsOf 3)) := h.field Tryd.underlying59 (i := 1) rfl
  have r2 : Reads enc Tryd.prog w 3 ((cs.drop 2).take (Tryd.prog.cellsOf 3)) := h.field Tryd.underlying59 (i := 2) rfl
  have r3 : Reads enc Tryd.prog w 4 ((cs.drop 3).take (Tryd.prog.cellsOf 4)) := h.field Tryd.underlying59 (i := 3) rfl
  have r4 : Reads enc Tryd.prog w 3 ((cs.drop 4).take (Tryd.prog.cellsOf 3)) := h.field Tryd.underlying59 (i := 4) rfl
  have r5 : Reads enc Tryd.prog w 3 ((cs.drop 5).take (Tryd.prog.cellsOf 3)) := h.field Tryd.underlying59 (i := 5) rfl
  have r6 : Reads enc Tryd.prog w 4 ((cs.drop 6).take (Tryd.prog.cellsOf 4)) := h.field Tryd.underlying59 (i := 6) rfl
  have r7 : Reads enc Tryd.prog w 4 ((cs.drop 7).take (Tryd.prog.cellsOf 4)) := h.field Tryd.underlying59 (i := 7) rfl
  have r8 : Reads enc Tryd.prog w 3 ((cs.drop 8).take (Tryd.prog.cellsOf 3)) := h.field Tryd.underlying59 (i := 8) rfl
  have r9 : Reads enc Tryd.prog w 26 ((cs.drop 9).take (Tryd.prog.cellsOf 26)) := h.field Tryd.underlying59 (i := 9) rfl
  rw [cells3'] at r0 r1 r2 r4 r5 r8
  rw [cells4'] at r3 r6 r7
  rw [cells26] at r9
  obtain ⟨z0, e0, q0⟩ := Reads.int Tryd.underlying3 r0
  obtain ⟨z1, e1, q1⟩ := Reads.int Tryd.underlying3 r1
  obtain ⟨z2, e2, q2⟩ := Reads.int Tryd.underlying3 r2
  obtain ⟨z3, e3⟩ := Reads.bool Tryd.underlying4 r3
  obtain ⟨z4, e4, q4⟩ := Reads.int Tryd.underlying3 r4
  obtain ⟨z5, e5, q5⟩ := Reads.int Tryd.underlying3 r5
  obtain ⟨z6, e6⟩ := Reads.bool Tryd.underlying4 r6
  obtain ⟨z7, e7⟩ := Reads.bool Tryd.underlying4 r7
  obtain ⟨z8, e8, q8⟩ := Reads.int Tryd.underlying3 r8
  obtain ⟨t, ht, h8, e9⟩ := r9.hashN
  refine ⟨⟨z0, z1, z2, z3, z4, z5, z6, z7, z8, t⟩, ⟨ht, h8, W64.of_wf q0, W64.of_wf q1, W64.of_wf q2, W64.of_wf q4, W64.of_wf q5, W64.of_wf q8⟩, ?_⟩
  have p0 := piece e0
  have p1 := piece e1
  have p2 := piece e2
  have p3 := piece e3
  have p4 := piece e4
  have p5 := piece e5
  have p6 := piece e6
  have p7 := piece e7
  have p8 := piece e8
  rcases cs with _ | ⟨a0, _ | ⟨a1, _ | ⟨a2, _ | ⟨a3, _ | ⟨a4, _ | ⟨a5, _ | ⟨a6, _ | ⟨a7, _ | ⟨a8, cs⟩⟩⟩⟩⟩⟩⟩⟩⟩
  all_goals simp only [List.length_nil, List.length_cons] at hl
  all_goals try omega
  simp only [List.getElem?_cons_zero, List.getElem?_cons_succ, Option.some.injEq] at p0 p1 p2 p3 p4 p5 p6 p7 p8
  simp only [List.drop_succ_cons, List.drop_zero] at e9
  rw [List.take_of_length_le (by omega)] at e9
  rw [p0, p1, p2, p3, p4, p5, p6, p7, p8, e9]
  simp [clC]
/-- A call that came in. -/
def IsCl (v : Value) : Prop := ∃ c, v = .agg (clC c) ∧ ClFit c
theorem IsCl.of {W : World} {base : Nat} {v : Value} {d : DataW H} {p : List MemPlace} (ho : Value.okWide Tryd.prog W .any base 59 v)
    (h : DataW.Trod enc Tryd.prog W 0 (fun _ => true) true 59 v d p) : IsCl v := by
  obtain ⟨⟨cs⟩, rfl, hz⟩ := okWide_struct Tryd.underlying59 ho
  have h' : Reads enc Tryd.prog W 59 cs := Reads.of_trod h
  rw [cells59] at hz
  obtain ⟨c, hf, e⟩ := Reads.call (by simpa using hz) h'
  exact ⟨c, by rw [e], hf⟩
/-- Calls that came in. -/
def IsCls (w : World) (v : Value) : Prop :=
  ∃ (a : Option Addr) (n c : Nat) (q : Nat → Cl), v = .slice a n c ∧ n ≤ maxLen ∧ (n = 0 ∨ ∃ b o, a = some ⟨b, o, none⟩ ∧ ∀ i, i < n → ClFit (q i) ∧ w.rangeAt b (o + i * 41) (clC (q i)).toList)
theorem IsCls.of {W : World} {base : Nat} {v : Value} {d : DataW H} {p : List MemPlace} (ho : Value.okWide Tryd.prog W .any base 79 v)
    (h : DataW.Trod enc Tryd.prog W 0 (fun _ => true) true 79 v d p) : IsCls W v := by
  obtain ⟨a0, len, cap, rfl⟩ := okWide_slice Tryd.underlying79 ho
  obtain ⟨a, n, c, F, hcs, _, _, hm, hF⟩ := open_elems Tryd.underlying79 cells59 (by decide) (Reads.of_trod h)
  have hcs' : Value.slice a0 len cap = .slice a n c := by simpa [Value.cells] using hcs
  rw [hcs']
  rcases hF with h0 | ⟨b, o, rfl, hx⟩
  · exact ⟨a, n, c, fun _ => zCl, rfl, hm, .inl h0⟩
  have each : ∀ i, i < n → ∃ x : Cl, ClFit x ∧ W.rangeAt b (o + i * 41) (clC x).toList := by
    intro i hi
    obtain ⟨hl, hr, hc⟩ := hx i hi
    obtain ⟨x, hf, e⟩ := Reads.call hl hr
    refine ⟨x, hf, fun j v hv => ?_⟩
    rw [← e] at hv
    rw [hc j (by rw [← hl]; exact (List.getElem?_eq_some_iff.1 hv).1)]
    exact hv
  obtain ⟨q, hq⟩ := Deep.choose_lt each
  exact ⟨_, n, c, q, rfl, hm, .inr ⟨b, o, rfl, hq⟩⟩
/-- Acts that came in. -/
def IsPActs (w : World) (v : Value) : Prop :=
  ∃ (a : Option Addr) (n c : Nat) (K : Nat → Int) (q : Nat → Cl) (R : Nat → Bool), v = .slice a n c ∧ n ≤ maxLen ∧ (n = 0 ∨ ∃ b o, a = some ⟨b, o, none⟩ ∧
    ∀ i, i < n → w.cell? ⟨b, o + i * 43, none⟩ = some (.int .i64 (K i)) ∧ ClFit (q i) ∧ w.rangeAt b (o + i * 43 + 1) (clC (q i)).toList ∧ w.cell? ⟨b, o + i * 43 + 42, none⟩ = some (.bool (R i)))
theorem IsPActs.of {W : World} {base : Nat} {v : Value} {d : DataW H} {p : List MemPlace} (ho : Value.okWide Tryd.prog W .any base 53 v)
    (h : DataW.Trod enc Tryd.prog W 0 (fun _ => true) true 53 v d p) : IsPActs W v := by
  obtain ⟨a0, len, cap, rfl⟩ := okWide_slice Tryd.underlying53 ho
  obtain ⟨a, n, c, F, hcs, _, _, hm, hF⟩ := open_elems Tryd.underlying53 cells69 (by decide) (Reads.of_trod h)
  have hcs' : Value.slice a0 len cap = .slice a n c := by simpa [Value.cells] using hcs
  rw [hcs']
  rcases hF with h0 | ⟨b, o, rfl, hx⟩
  · exact ⟨a, n, c, fun _ => 0, fun _ => zCl, fun _ => false, rfl, hm, .inl h0⟩
  have each : ∀ i, i < n → ∃ x : Int × Cl × Bool, W.cell? ⟨b, o + i * 43, none⟩ = some (.int .i64 x.1) ∧ ClFit x.2.1 ∧ W.rangeAt b (o + i * 43 + 1) (clC x.2.1).toList ∧ W.cell? ⟨b, o + i * 43 + 42, none⟩ = some (.bool x.2.2) := by
    intro i hi
    obtain ⟨hl, hr, hc⟩ := hx i hi
    have r0 : Reads enc Tryd.prog W 3 (((F i).drop 0).take (Tryd.prog.cellsOf 3)) := hr.field Tryd.underlying69 (i := 0) rfl
    have r1 : Reads enc Tryd.prog W 59 (((F i).drop 1).take (Tryd.prog.cellsOf 59)) := hr.field Tryd.underlying69 (i := 1) rfl
    have r2 : Reads enc Tryd.prog W 4 (((F i).drop 42).take (Tryd.prog.cellsOf 4)) := hr.field Tryd.underlying69 (i := 2) rfl
    rw [cells3'] at r0
    rw [cells59] at r1
    rw [cells4'] at r2
    obtain ⟨k, e0, _⟩ := Reads.int Tryd.underlying3 r0
    obtain ⟨rf, e2⟩ := Reads.bool Tryd.underlying4 r2
    have hl1 : (((F i).drop 1).take 41).length = 41 := by simp [hl]
    obtain ⟨x, hf, e1⟩ := Reads.call hl1 r1
    have p0 := piece e0
    have p2 := piece e2
    refine ⟨(k, x, rf), ?_, hf, ?_, ?_⟩
    · have := hc 0 (by decide)
      rw [Nat.add_zero, p0] at this
      exact this
    · intro j u hu
      rw [← e1] at hu
      have hj : j < 41 := by
        have := (List.getElem?_eq_some_iff.1 hu).1
        simp [hl] at this; omega
      have := hc (1 + j) (by omega)
      rw [← Nat.add_assoc] at this
      rw [this]
      simpa [hj, Nat.add_comm] using hu
    · have := hc 42 (by decide)
      rw [p2] at this
      exact this
  obtain ⟨q, hq⟩ := Deep.choose_lt each
  exact ⟨_, n, c, fun i => (q i).1, fun i => (q i).2.1, fun i => (q i).2.2, rfl, hm, .inr ⟨b, o, rfl, hq⟩⟩
end
/-- Are keys and acts few? -/
def fewB (np nw n : Nat) : Bool := decide (np ≤ 20) && (decide (nw ≤ 20) && decide (n ≤ 60))
theorem f_pfew (pa wa la : Option Addr) (np pc nw wc ln lc : Nat) (nd : Int) (w : World) : Calls Tryd.prog 33 #[.agg #[.slice pa np pc, .slice wa nw wc, .int .i64 nd], .slice la ln lc] w (BPost (fewB np nw ln) w) := by
  have k1 := Lib.hid ((Kept.refl (fun _ => False) w).alloc (.cells #[.slice pa np pc, .slice wa nw wc, .int .i64 nd] 24))
  by_cases h1 : np ≤ 20
  · have d1 : decide ((np : Int) ≤ 20) = true := decide_eq_true (by omega)
    have d1' : decide (np ≤ 20) = true := decide_eq_true h1
    by_cases h2 : nw ≤ 20
    · have d2 : decide ((nw : Int) ≤ 20) = true := decide_eq_true (by omega)
      have d2' : decide (nw ≤ 20) = true := decide_eq_true h2
      by_cases h3 : ln ≤ 60
      · have d3 : decide ((ln : Int) ≤ 60) = true := decide_eq_true (by omega)
        have d3' : decide (ln ≤ 60) = true := decide_eq_true h3
        have E : Hid (fewB np nw ln = true) := by show _ = _; simp [fewB, h1, h2, h3]
        clear h1 h2 h3
        go_enter Tryd.func33, Tryd.ntmps33
        go_wp2_with fail
        go_ret
        exact BPost.mk E.out k1.out
      · have d3 : decide ((ln : Int) ≤ 60) = false := decide_eq_false (by omega)
        have d3' : decide (ln ≤ 60) = false := decide_eq_false h3
        have E : Hid (fewB np nw ln = false) := by show _ = _; simp [fewB, h3]
        clear h1 h2 h3
        go_enter Tryd.func33, Tryd.ntmps33
        go_wp2_with fail
        go_ret
        exact BPost.mk E.out k1.out
    · have d2 : decide ((nw : Int) ≤ 20) = false := decide_eq_false (by omega)
      have d2' : decide (nw ≤ 20) = false := decide_eq_false h2
      have E : Hid (fewB np nw ln = false) := by show _ = _; simp [fewB, h2]
      clear h1 h2
      go_enter Tryd.func33, Tryd.ntmps33
      go_wp2_with fail
      go_ret
      exact BPost.mk E.out k1.out
  · have d1 : decide ((np : Int) ≤ 20) = false := decide_eq_false (by omega)
    have d1' : decide (np ≤ 20) = false := decide_eq_false h1
    have E : Hid (fewB np nw ln = false) := by show _ = _; simp [fewB, h1]
    clear h1
    go_enter Tryd.func33, Tryd.ntmps33
    go_wp2_with fail
    go_ret
    exact BPost.mk E.out k1.out
end Go.Proofs.YtklmhegmombegaaDoor
