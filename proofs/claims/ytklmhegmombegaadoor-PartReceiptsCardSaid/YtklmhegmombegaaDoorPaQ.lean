/-
  Two records that hold the same, with neither steps nor data (ref04.Same). Conditions: as each theorem says.
-/
import Derived.Test.YtklmhegmombegaaDoorPaP
set_option linter.unusedVariables false
set_option linter.unusedSimpArgs false
set_option maxRecDepth 100000
namespace Go.Proofs.YtklmhegmombegaaDoor.Re
open Go Go.RowKit Go.Proofs.YtklmhegmombegaaDoor.Re.Plain
section
variable {ops : Array Oper} {rest : List Oper} {dst : Option Tmp} {ty rt : TypeId} {pos : String} {aft : Array Edge} {a : Act} {w : World} {Q : Exit → Act → World → Prop} {x y : Operand}
theorem eq39 {l : List Int} {gd : Option (Nat × Bool)} (hw : Region.wanted ⟨dst, .binOp .eql 26 x y rt, ty, pos, aft, gd⟩ (yielded ops a.tmps) = true) (hl : l.length = 32) (hx : a.eval x = .agg (hbs l).toArray) (hy : a.eval y = .agg (hbs l).toArray)
    (h : wpList Tryd.prog ops Q rest (a.put dst (.bool true)) w) : wpList Tryd.prog ops Q (⟨dst, .binOp .eql 26 x y rt, ty, pos, aft, gd⟩ :: rest) a w := by
  refine wpList_on hw ?_
  refine wpList_plain rfl fun K hK => ?_
  have hg : (eqGuard .eql 26 x y (.agg (hbs l).toArray) (.agg (hbs l).toArray)).run Tryd.prog w = .ok () w := run_eqGuard_agg w .eql 26 x y _ _ (by kernel_rfl)
  have he := equal26 w l l hl hl
  have hq : (binOp .eql 26 (.agg (hbs l).toArray) (.agg (hbs l).toArray)).run Tryd.prog w = .ok (.bool true) w := by rw [run_eql_struct, he]; simp
  unfold Oper.wp execOp
  simp only [hx, hy, Sem.run_bind, hg, hq, Result.andThen_ok, Sem.run_pure]
  exact hK _ _ h
theorem load26g {g o : Nat} {C : Array Value} {l : List Int} {gd : Option (Nat × Bool)} (hw : Region.wanted ⟨dst, .load 26 x, ty, pos, aft, gd⟩ (yielded ops a.tmps) = true) (hx : a.eval x = .pointer (some ⟨g, o, none⟩)) (hg : w.heap[g]? = some (.cells C 30 (0, 0))) (hl : l.length = 32) (hC : At C o (hbs l))
    (h : wpList Tryd.prog ops Q rest (a.put dst (.agg (hbs l).toArray)) w) : wpList Tryd.prog ops Q (⟨dst, .load 26 x, ty, pos, aft, gd⟩ :: rest) a w := wpList_on hw (load26 hx hg hl hC h)
end

/-- Two slices of steps, of an empty one nothing else is known. -/
theorem f_rsteps0 (a b : Option Addr) (c d : Nat) (w : World) : Calls Tryd.prog 73 #[.slice a 0 c, .slice b 0 d] w (BPost true w) := by
  go_enter Tryd.func73, Tryd.ntmps73
  go_wp2
  go_loopw [5] (fun i wr => i = .int .i64 0 ∧ Kept (fun _ => False) w wr) (fun i _ => 0)
  case atStart => exact ⟨rfl, Kept.refl _ _⟩
  case round =>
    obtain ⟨rfl, K⟩ := hrel
    go_wp2
    go_ret
    exact BPost.mk rfl K
/-- Two slices of bytes, of an empty one nothing else is known. -/
theorem f_rbytes0 (a b : Option Addr) (c d : Nat) (w : World) : Calls Tryd.prog 74 #[.slice a 0 c, .slice b 0 d] w (BPost true w) := by
  go_enter Tryd.func74, Tryd.ntmps74
  go_wp2
  go_loopw [5] (fun i wr => i = .int .i64 0 ∧ Kept (fun _ => False) w wr) (fun i _ => 0)
  case atStart => exact ⟨rfl, Kept.refl _ _⟩
  case round =>
    obtain ⟨rfl, K⟩ := hrel
    go_wp2
    go_ret
    exact BPost.mk rfl K
set_option maxRecDepth 100000 in
set_option maxHeartbeats 8000000 in
/-- Two records that hold the same. -/
theorem f_rrec (C D : Array Value) (x : Rx) (w : World) (h : RecIn w C x) (k : RecIn w D x) (hl : x.steps = []) (hdl : x.data = []) : Calls Tryd.prog 42 #[.agg C, .agg D] w (BPost true w) := by
  have g0 := heap_alloc2_old w (.cells C 30) (.cells D 30)
  have g1 := heap_alloc2_new w (.cells C 30) (.cells D 30)
  have K2 := Lib.hid (((Kept.refl (fun _ => False) w).alloc (.cells C 30)).alloc (.cells D 30))
  have G0 := Lib.hid g0
  have G1 := Lib.hid g1
  obtain ⟨v, hv, hst⟩ := h.st
  obtain ⟨v', hv', hst'⟩ := k.st
  obtain ⟨u, hu, hda⟩ := h.da
  obtain ⟨u', hu', hda'⟩ := k.da
  have HS : Hid (∀ w', Kept (fun _ => False) w w' → Calls Tryd.prog 73 #[v, v'] w' (BPost true w')) := fun w' kk => by
    obtain ⟨a, c, rfl, -, -⟩ := hst
    obtain ⟨a', c', rfl, -, -⟩ := hst'
    rw [hl]
    exact f_rsteps0 a a' c c' w'
  have HD : Hid (∀ w', Kept (fun _ => False) w w' → Calls Tryd.prog 74 #[u, u'] w' (BPost true w')) := fun w' kk => by
    obtain ⟨a, c, rfl, -, -, -⟩ := hda
    obtain ⟨a', c', rfl, -, -, -⟩ := hda'
    rw [hdl]
    exact f_rbytes0 a a' c c' w'
  have H := Lib.hid h
  have K := Lib.hid k
  obtain ⟨a, c, rfl, -, -⟩ := hst
  obtain ⟨a', c', rfl, -, -⟩ := hst'
  obtain ⟨b, d, rfl, -, -, -⟩ := hda
  obtain ⟨b', d', rfl, -, -, -⟩ := hda'
  have HV := Lib.hid hv
  have HV' := Lib.hid hv'
  have HU := Lib.hid hu
  have HU' := Lib.hid hu'
  clear h k hv hv' hu hu' g0 g1 hl hdl
  generalize hw2 : (w.alloc (.cells C 30)).alloc (.cells D 30) = w2 at *
  have x0 := row_cell G0.out H.out.c0
  have x1 := row_cell G0.out H.out.c1
  have x2 := row_cell G0.out H.out.c2
  have x3 := row_cell G0.out H.out.c3
  have x4 := row_cell G0.out H.out.c4
  have x5 := row_cell G0.out H.out.c5
  have x6 := row_cell G0.out H.out.c6
  have x7 := row_cell G0.out H.out.c7
  have x8 := row_cell G0.out H.out.c8
  have x9 := row_cell G0.out H.out.c9
  have y0 := row_cell G1.out K.out.c0
  have y1 := row_cell G1.out K.out.c1
  have y2 := row_cell G1.out K.out.c2
  have y3 := row_cell G1.out K.out.c3
  have y4 := row_cell G1.out K.out.c4
  have y5 := row_cell G1.out K.out.c5
  have y6 := row_cell G1.out K.out.c6
  have y7 := row_cell G1.out K.out.c7
  have y8 := row_cell G1.out K.out.c8
  have y9 := row_cell G1.out K.out.c9
  have xs := row_cell G0.out HV.out
  have ys := row_cell G1.out HV'.out
  have HX := Lib.hid hw2
  clear hw2
  subst w2
  go_enter Tryd.func42, Tryd.ntmps42
  go_wp2_with (first | fail | ((with_reducible refine load26g (l := x.tag) (o := 10) (by kernel_rfl) ?_ G0.out H.out.tagl H.out.tag ?_); rfl) | ((with_reducible refine load26g (l := x.tag) (o := 10) (by kernel_rfl) ?_ G1.out K.out.tagl K.out.tag ?_); rfl) | ((with_reducible refine eq39 (l := x.tag) (by kernel_rfl) H.out.tagl ?_ ?_ ?_); rfl; rfl))
  refine (HS.out _ K2.out).mono ?_
  rintro e w3 ⟨rfl, k3⟩
  clear x0 x1 x2 x3 x4 x5 x6 x7 x8 x9 y0 y1 y2 y3 y4 y5 y6 y7 y8 y9 xs ys HS
  have K3 := Lib.hid (K2.out.trans k3)
  have P0 := Lib.hid (k3.row G0.out)
  have P1 := Lib.hid (k3.row G1.out)
  have xd := row_cell P0.out HU.out
  have yd := row_cell P1.out HU'.out
  clear k3 K2 G0 G1
  go_wp2_with fail
  refine (HD.out _ K3.out).mono ?_
  rintro e w4 ⟨rfl, k4⟩
  clear xd yd HD
  have K4 := Lib.hid (K3.out.trans k4)
  have Q0 := Lib.hid (k4.row P0.out)
  have Q1 := Lib.hid (k4.row P1.out)
  have xg := row_cell Q0.out H.out.c76
  have yg := row_cell Q1.out K.out.c76
  clear k4 K3 P0 P1
  go_wp2_with (first | fail | ((with_reducible refine load26g (l := x.salt) (o := 44) (by kernel_rfl) ?_ Q0.out H.out.saltl H.out.salt ?_); rfl) | ((with_reducible refine load26g (l := x.salt) (o := 44) (by kernel_rfl) ?_ Q1.out K.out.saltl K.out.salt ?_); rfl) | ((with_reducible refine eq39 (l := x.salt) (by kernel_rfl) H.out.saltl ?_ ?_ ?_); rfl; rfl) | ((with_reducible refine load26g (l := x.com) (o := 77) (by kernel_rfl) ?_ Q0.out H.out.coml H.out.com ?_); rfl) | ((with_reducible refine load26g (l := x.com) (o := 77) (by kernel_rfl) ?_ Q1.out K.out.coml K.out.com ?_); rfl) | ((with_reducible refine eq39 (l := x.com) (by kernel_rfl) H.out.coml ?_ ?_ ?_); rfl; rfl))
  go_ret
  exact BPost.mk rfl K4.out
end Go.Proofs.YtklmhegmombegaaDoor.Re
