/-
  The walk of PartActs (10). Conditions: as each theorem says.
-/
import Derived.Test.YtklmhegmombegaaDoorPbB
import Derived.Deep.DeepCutAuto
import Derived.Deep.LoopGhost
set_option linter.unusedVariables false
set_option linter.unusedSimpArgs false
set_option maxRecDepth 100000
namespace Go.Proofs.YtklmhegmombegaaDoor
open Go Go.RowKit Plain
/-- A participant, and the reference's. -/
structure Duo (w0 w : World) (g r z : Nat) (pv wv sa sb : Value) (k : Ky) (n ea eb : Int) (la lb : List En) : Prop where
  a : Pa w0 w g r pv wv sa k n ea la
  b : Pr w0 w z pv wv sb k n eb lb
  nv : ∀ i, sa.ownBlock = some i → sb.ownBlock ≠ some i
section
variable {w0 w w' : World} {g r z : Nat} {pv wv sa sb : Value} {k : Ky} {n ea eb : Int} {la lb : List En}
theorem Duo.same (h : Duo w0 w g r z pv wv sa sb k n ea eb la lb) (kk : Kept (fun _ => False) w w') : Duo w0 w' g r z pv wv sa sb k n ea eb la lb := ⟨h.a.same kk, h.b.same kk, h.nv⟩
theorem Duo.free (h : Duo w0 w g r z pv wv sa sb k n ea eb la lb) {i : Nat} (hi : sb.ownBlock = some i) : ¬ PaS g r sa i := by
  rintro (rfl | rfl | e)
  · exact h.b.buf.ne_of_type h.a.blk (by decide) hi
  · rcases h.b.buf.2 with ⟨rfl, _⟩ | ⟨j, cap, cur, rfl, _, hg, _⟩
    · simp [Value.ownBlock] at hi
    · simp [Value.ownBlock] at hi
      subst hi
      have := h.a.map.symm.trans hg
      simp at this
  · exact h.nv i e hi
theorem Duo.zg (h : Duo w0 w g r z pv wv sa sb k n ea eb la lb) : ¬ PaS g r sa z := h.a.other h.b.blk (by decide) (by decide)
/-- The participant has moved on. -/
theorem Duo.movA {ea' : Int} {la' : List En} {sa' : Value} (h : Duo w0 w g r z pv wv sa sb k n ea eb la lb) (ha : Pa w0 w' g r pv wv sa' k n ea' la') (kk : Kept (PaS g r sa) w w') (ho : sa'.ownBlock = sa.ownBlock ∨ ∀ i, sa'.ownBlock = some i → w.heap.size ≤ i) : Duo w0 w' g r z pv wv sa' sb k n ea' eb la' lb :=
  ⟨ha, h.b.next kk h.zg (fun i hi => h.free hi) (fun i _ hi => h.a.loS i hi), fun i hi hb => by
    rcases ho with ho | ho
    · exact h.nv i (ho ▸ hi) hb
    · exact absurd (h.b.buf.lt i hb).2 (Nat.not_lt.2 (ho i hi))⟩
/-- The reference's has moved on. -/
theorem Duo.movB {eb' : Int} {lb' : List En} {sb' : Value} (h : Duo w0 w g r z pv wv sa sb k n ea eb la lb) (hb : Pr w0 w' z pv wv sb' k n eb' lb') (kk : Kept (fun i => i = z) w w') (ho : sb' = sb ∨ ∀ i, sb'.ownBlock = some i → w.heap.size ≤ i) : Duo w0 w' g r z pv wv sa sb' k n ea eb' la lb' :=
  ⟨h.a.next kk (fun i hi e => h.zg (by have e' : i = z := e; rw [← e']; exact hi)) (fun i _ e => by have e' : i = z := e; rw [e']; exact h.b.lo), hb, fun i hi hbb => by
    rcases ho with ho | ho
    · exact h.nv i hi (ho ▸ hbb)
    · exact absurd (h.a.buf.lt i hi).2 (Nat.not_lt.2 (ho i hbb))⟩
/-- A block of another type is written. -/
theorem Duo.away (h : Duo w0 w g r z pv wv sa sb k n ea eb la lb) {j : Nat} {C : Array Value} (hj : w.heap[j]? = some (.cells C 59 (0, 0))) (hlo : w0.heap.size ≤ j) (kk : Kept (fun i => i = j) w w') : Duo w0 w' g r z pv wv sa sb k n ea eb la lb :=
  ⟨h.a.next kk (fun i hi e => h.a.other hj (by decide) (by decide) (by have e' : i = j := e; rw [← e']; exact hi)) (fun i _ e => by have e' : i = j := e; rw [e']; exact hlo),
   h.b.next kk (fun e => by have e' : z = j := e; have := h.b.blk.symm.trans (e' ▸ hj); simp at this) (fun i hi e => by have e' : i = j := e; exact h.b.buf.ne_of_type hj (by decide) (e' ▸ hi)) (fun i _ e => by have e' : i = j := e; rw [e']; exact hlo), h.nv⟩
theorem Duo.epB (h : Duo w0 w g r z pv wv sa sb k n ea eb la lb) (e : Int) : Duo w0 (w.setCell ⟨z, 4, none⟩ (.int .i64 e)) g r z pv wv sa sb k n ea e la lb := by
  have kk : Kept (fun i => i = z) w (w.setCell ⟨z, 4, none⟩ (.int .i64 e)) := (Kept.refl (fun i => i = z) w).setCell (p := ⟨z, 4, none⟩) (.inl rfl) _
  refine h.movB ⟨?_, h.b.buf.kept kk (fun i hi e => h.b.vg (by have e' : i = z := e; rw [← e']; exact hi)), h.b.keys, h.b.laid, h.b.kept.trans' kk (fun i _ e => by have e' : i = z := e; rw [e']; exact h.b.lo), h.b.lo⟩ kk (.inl rfl)
  exact setCell_block (k := 4) h.b.blk (.int .i64 e)
theorem Duo.rowA (h : Duo w0 w g r z pv wv sa sb k n ea eb la lb) {j : Nat} {C : Array Value} (hj : w.heap[j]? = some (.cells C 59 (0, 0))) (kk : Kept (PaS g r sa) w w') : w'.heap[j]? = some (.cells C 59 (0, 0)) := kk.rowS (h.a.other hj (by decide) (by decide)) hj
theorem Duo.rowB (h : Duo w0 w g r z pv wv sa sb k n ea eb la lb) {j : Nat} {C : Array Value} (hj : w.heap[j]? = some (.cells C 59 (0, 0))) (kk : Kept (fun i => i = z) w w') : w'.heap[j]? = some (.cells C 59 (0, 0)) := kk.rowS (fun e => by have e' : j = z := e; have := h.b.blk.symm.trans (e' ▸ hj); simp at this) hj
end
section
variable {ops : Array Oper} {rest : List Oper} {dst : Option Tmp} {ty : TypeId} {pos : String} {aft : Array Edge} {a : Act} {w : World} {Q : Exit → Act → World → Prop} {x y : Operand} {C : Array Value}
theorem build59g {gd : Option (Nat × Bool)} (hw : Region.wanted ⟨dst, .build 59 #[], ty, pos, aft, gd⟩ (yielded ops a.tmps) = true) (h : wpList Tryd.prog ops Q rest (a.put dst (.agg Z59)) w) : wpList Tryd.prog ops Q (⟨dst, .build 59 #[], ty, pos, aft, gd⟩ :: rest) a w := wpList_on hw (build59 h)
theorem eql59g {gd : Option (Nat × Bool)} {rt : TypeId} {c : Cl} (hC : C = clC c) (hf : ClFit c) (hw : Region.wanted ⟨dst, .binOp .eql 59 x y rt, ty, pos, aft, gd⟩ (yielded ops a.tmps) = true) (hx : a.eval x = .agg C) (hy : a.eval y = .agg C) (h : wpList Tryd.prog ops Q rest (a.put dst (.bool true)) w) : wpList Tryd.prog ops Q (⟨dst, .binOp .eql 59 x y rt, ty, pos, aft, gd⟩ :: rest) a w := by
  subst hC
  refine wpList_on hw ?_
  refine wpList_plain rfl fun K hK => ?_
  have hg := run_eqGuard_agg (P := Tryd.prog) w .eql 59 x y (clC c) (clC c) (by kernel_rfl)
  have hq : (binOp .eql 59 (.agg (clC c)) (.agg (clC c))).run Tryd.prog w = .ok (.bool true) w := by rw [run_eql_struct, eq59_self hf]; rfl
  unfold Oper.wp execOp
  simp only [hx, hy, Sem.run_bind, hg, hq, Result.andThen_ok, Sem.run_pure]
  exact hK _ _ h
theorem neq59p {rt : TypeId} {c : Cl} (hC : C = clC c) (hf : ClFit c) (hx : a.eval x = .agg C) (hy : a.eval y = .agg C) (h : wpList Tryd.prog ops Q rest (a.put dst (.bool false)) w) : wpList Tryd.prog ops Q (⟨dst, .binOp .neq 59 x y rt, ty, pos, aft, none⟩ :: rest) a w := by
  subst hC
  refine wpList_plain rfl fun K hK => ?_
  have hg := run_eqGuard_agg (P := Tryd.prog) w .neq 59 x y (clC c) (clC c) (by kernel_rfl)
  have hq : (binOp .neq 59 (.agg (clC c)) (.agg (clC c))).run Tryd.prog w = .ok (.bool false) w := by rw [run_neq_struct, eq59_self hf]; rfl
  unfold Oper.wp execOp
  simp only [hx, hy, Sem.run_bind, hg, hq, Result.andThen_ok, Sem.run_pure]
  exact hK _ _ h
end
theorem step_alloc59 {ops : Array Oper} {dst : Option Tmp} {ty : TypeId} {pos : String} {aft : Array Edge} {gd : Option (Nat × Bool)} {a : Act} {w : World} {Q : Exit → Act → World → Prop} {K : Act → World → Prop} {E : Prop} (hw : Region.wanted ⟨dst, .alloc 59, ty, pos, aft, gd⟩ (yielded ops a.tmps) = true) (h : K (a.put dst (.pointer (some ⟨w.heap.size, 0, none⟩))) (w.alloc (.cells Z59 59))) :
    if Region.wanted ⟨dst, .alloc 59, ty, pos, aft, gd⟩ (yielded ops a.tmps) = true then Oper.wp Tryd.prog ⟨dst, .alloc 59, ty, pos, aft, gd⟩ a w K Q else E := by
  rw [if_pos hw]
  go_simp
  exact h
theorem f_its_nil (c : Cl) (w : World) : Calls Tryd.prog 66 #[.pointer none, .agg (clC c)] w (BPost false w) := by
  have k1 := Lib.hid ((Kept.refl (fun _ => False) w).alloc (.cells (clC c) 59))
  go_enter Tryd.func66, Tryd.ntmps66
  go_upto_region 1 with (fail)
  generalize w.alloc (.cells (clC c) 59) = w1 at *
  go_quiet (fail)
  go_wp2_with fail
  go_ret
  exact BPost.mk rfl (k1.out.drewN _)
set_option maxHeartbeats 4000000 in
theorem f_take_nil (c : Cl) (refuse : Bool) (w : World) (hc : c.tag.length = 32) : Calls Tryd.prog 36 #[.pointer none, .agg (clC c), .bool refuse] w (RPost (.tuple #[.agg (clC zCl), .bool false]) w) := by
  have k1 := (((Kept.refl (fun _ => False) w).alloc (.cells #[.pointer none] 55)).alloc (.cells (clC c) 59)).alloc (.cells Z59 59)
  obtain ⟨gb, gc, gz⟩ := heap_alloc3 w (.cells #[.pointer none] 55) (.cells (clC c) 59) (.cells Z59 59)
  have GC := Lib.hid gc
  have GZ := Lib.hid gz
  have K1 := Lib.hid k1
  have HC := Lib.hid (clC_size hc)
  have HI := Lib.hid (f_its_nil c (((w.alloc (.cells #[.pointer none] 55)).alloc (.cells (clC c) 59)).alloc (.cells Z59 59)))
  have cb := row_cell (k := 0) gb (v := .pointer none) rfl
  clear k1 gb gc gz hc
  go_enter_defers Tryd.func36, Tryd.ntmps36
  go_upto_region 1 with (first | fail | (with_reducible refine alloc59 ?_))
  generalize (((w.alloc (.cells #[.pointer none] 55)).alloc (.cells (clC c) 59)).alloc (.cells Z59 59)) = w1 at *
  go_wp2_with (first | fail | ((with_reducible refine load59 (C := clC c) (g := w.heap.size + 1) (o := 0) ?_ (range_row GC.out) HC.out ?_); rfl))
  refine HI.out.mono ?_
  rintro e w2 ⟨rfl, k2⟩
  have GZ2 := Lib.hid (k2.row GZ.out)
  have K2 := Lib.hid (K1.out.trans k2)
  clear k2
  go_wp2_with (first | fail | (with_reducible refine build59 ?_) | ((with_reducible refine store59 (C := Z59) ?_ ?_ GZ2.out Z59_size Z59_size Z59_one ?_); rfl; rfl))
  exact ⟨_, results_59 rfl _ _ _ (setRow_heap _ _ _ _ _ _ GZ2.out) Z59_size rfl rfl, RPost.mk rfl (K2.out.setRow (by omega) _)⟩
set_option maxHeartbeats 4000000 in
theorem long10 (pa wa la : Option Addr) (np pc nw wc ln lc : Nat) (nd n : Int) (w : World) (hL : Laid w) (h : fewB np nw ln = false) : Calls Tryd.prog 10 #[.agg #[.slice pa np pc, .slice wa nw wc, .int .i64 nd], .int .i64 n, .slice la ln lc] w (BPost true w) := by
  have k1 := (Kept.refl (fun _ => False) w).alloc (.cells #[.slice pa np pc, .slice wa nw wc, .int .i64 nd] 24)
  have G1 := Lib.hid (heap_alloc_new w (.cells #[.slice pa np pc, .slice wa nw wc, .int .i64 nd] 24))
  have K1 := Lib.hid k1
  have HA := Lib.hid (f_palive _ (hL.kept k1))
  have HH := Lib.hid h
  clear k1 hL h
  go_enter Tryd.func10, Tryd.ntmps10
  go_upto_region 1 with (fail)
  generalize w.alloc (.cells #[.slice pa np pc, .slice wa nw wc, .int .i64 nd] 24) = w1 at *
  go_wp2_with fail
  refine HA.out.mono ?_
  rintro e w2 ⟨rfl, k2⟩
  have K2 := Lib.hid (K1.out.trans k2)
  have G2 := k2.row G1.out
  have c0 := row_cell (k := 0) G2 (v := .slice pa np pc) rfl
  have c1 := row_cell (k := 1) G2 (v := .slice wa nw wc) rfl
  have c2 := row_cell (k := 2) G2 (v := .int .i64 nd) rfl
  have HF := f_pfew pa wa la np pc nw wc ln lc nd w2
  rw [HH.out] at HF
  have HFH := Lib.hid HF
  clear k2 G2 G1 K1 HA HF
  go_wp2_with fail
  refine HFH.out.mono ?_
  rintro e w3 ⟨rfl, k3⟩
  clear c0 c1 c2
  go_wp2_with fail
  go_ret
  exact BPost.mk rfl (K2.out.trans k3)

set_option maxHeartbeats 32000000 in
theorem c_acts (pv wv : Value) (k : Ky) (n : Int) (la : Option Addr) (ln lc : Nat) (Kd : Nat → Int) (q : Nat → Cl) (R : Nat → Bool) (w : World) (hL : Laid w) (hk : KyIn w pv wv k) (hfw : fewB k.parts.length k.wits.length ln = true)
    (hq : ln = 0 ∨ ∃ b o, la = some ⟨b, o, none⟩ ∧ ∀ i, i < ln → w.cell? ⟨b, o + i * 43, none⟩ = some (.int .i64 (Kd i)) ∧ ClFit (q i) ∧ w.rangeAt b (o + i * 43 + 1) (clC (q i)).toList ∧ w.cell? ⟨b, o + i * 43 + 42, none⟩ = some (.bool (R i))) :
    Calls Tryd.prog 10 #[.agg #[pv, wv, .int .i64 k.need], .int .i64 n, .slice la ln lc] w (BPost true w) := by
  obtain ⟨pa, pc, rfl⟩ := hk.parts.form
  obtain ⟨wa, wcp, rfl⟩ := hk.wits.form
  have k1 := (Kept.refl (fun _ => False) w).alloc (.cells #[.slice pa k.parts.length pc, .slice wa k.wits.length wcp, .int .i64 k.need] 24)
  have G1 := Lib.hid (heap_alloc_new w (.cells #[.slice pa k.parts.length pc, .slice wa k.wits.length wcp, .int .i64 k.need] 24))
  have K1 := Lib.hid k1
  have HA := Lib.hid (f_palive _ (hL.kept k1))
  have HK1 := Lib.hid (hk.kept k1)
  have HL1 := Lib.hid (hL.kept k1)
  have HKw := Lib.hid hk
  have HLw := Lib.hid hL
  have HQ := Lib.hid hq
  have HFW := Lib.hid hfw
  have HLN : Hid (ln ≤ 60) := by
    show _ ≤ _
    simp only [fewB, Bool.and_eq_true, decide_eq_true_eq] at hfw
    exact hfw.2.2
  clear k1 hL hk hq hfw
  go_enter Tryd.func10, Tryd.ntmps10
  go_upto_region 1 with (fail)
  generalize w.alloc (.cells #[.slice pa k.parts.length pc, .slice wa k.wits.length wcp, .int .i64 k.need] 24) = w1 at *
  go_wp2_with fail
  refine HA.out.mono ?_
  rintro e w2 ⟨rfl, k2⟩
  have K2 := Lib.hid (K1.out.trans k2)
  have G2 := Lib.hid (k2.row G1.out)
  have HK2 := Lib.hid (HK1.out.kept k2)
  have HL2 := Lib.hid (HL1.out.kept k2)
  have c0 := row_cell (k := 0) G2.out (v := .slice pa k.parts.length pc) rfl
  have c1 := row_cell (k := 1) G2.out (v := .slice wa k.wits.length wcp) rfl
  have c2 := row_cell (k := 2) G2.out (v := .int .i64 k.need) rfl
  have HF := f_pfew pa wa la k.parts.length pc k.wits.length wcp ln lc k.need w2
  rw [HFW.out] at HF
  have HFH := Lib.hid HF
  clear HF k2 G1 K1 HA HK1 HL1
  go_wp2_with fail
  refine HFH.out.mono ?_
  rintro e w3 ⟨rfl, k3⟩
  have K3 := Lib.hid (K2.out.trans k3)
  have G3 := Lib.hid (k3.row G2.out)
  have HK3 := Lib.hid (HK2.out.kept k3)
  have HL3 := Lib.hid (HL2.out.kept k3)
  clear k3 c0 c1 c2 K2 G2 HK2 HL2 HFH
  have c0 := row_cell (k := 0) G3.out (v := .slice pa k.parts.length pc) rfl
  have c1 := row_cell (k := 1) G3.out (v := .slice wa k.wits.length wcp) rfl
  have c2 := row_cell (k := 2) G3.out (v := .int .i64 k.need) rfl
  cases hkn : kKnown k n 0 with
  | false =>
    have HN := Lib.hid (f_new_no (.slice pa k.parts.length pc) (.slice wa k.wits.length wcp) k n w3 HK3.out hkn)
    have HKN := Lib.hid hkn
    clear hkn
    go_wp2_with fail
    refine HN.out.mono ?_
    rintro e w4 ⟨rfl, k4⟩
    have K4 := Lib.hid (K3.out.trans k4)
    have G4 := Lib.hid (k4.row G3.out)
    have HR := f_rknown (.slice pa k.parts.length pc) (.slice wa k.wits.length wcp) k n 0 w4 (HK3.out.kept k4)
    rw [HKN.out] at HR
    have HRH := Lib.hid HR
    clear HR k4 c0 c1 c2 K3 G3 HK3 HL3 HN HKN
    have c0 := row_cell (k := 0) G4.out (v := .slice pa k.parts.length pc) rfl
    have c1 := row_cell (k := 1) G4.out (v := .slice wa k.wits.length wcp) rfl
    have c2 := row_cell (k := 2) G4.out (v := .int .i64 k.need) rfl
    go_wp2_with fail
    refine HRH.out.mono ?_
    rintro e w5 ⟨rfl, k5⟩
    have K5 := Lib.hid (K4.out.trans k5)
    have HTN := Lib.hid (f_take_nil zCl false w5 zCl_len)
    clear c0 c1 c2 k5 K4 G4 HRH
    go_wp2_with (first | fail | (with_reducible refine build59 ?_))
    refine HTN.out.mono ?_
    rintro e w6 ⟨rfl, k6⟩
    have K6 := Lib.hid ((K5.out.trans k6).alloc (.cells Z59 59))
    have HS6 := Lib.hid (K5.out.trans k6).size
    have GZ := Lib.hid (heap_alloc_new w6 (.cells Z59 59))
    clear k6 K5 HTN
    go_upto_region 8 with (first | fail | (with_reducible refine alloc59 ?_) | ((with_reducible refine store59 (C := Z59) ?_ ?_ GZ.out Z59_size Z59_size Z59_one ?_); rfl; rfl))
    have GY := Lib.hid (setRow_heap _ _ _ Z59 _ _ GZ.out)
    have K7 := Lib.hid (K6.out.setRow HS6.out Z59)
    clear K6 GZ HS6
    generalize (w6.alloc (.cells Z59 59)).setRow w6.heap.size Z59 = w7 at *
    generalize w6.heap.size = b8 at *
    have HRN := Lib.hid (f_rotate_nil w7)
    have HEN := Lib.hid (f_epoch_nil w7)
    have HNN := Lib.hid (f_entries_nil w7)
    go_wp2_with (first | fail | ((with_reducible refine load59g (C := Z59) (g := b8) (o := 0) ?_ ?_ (range_row GY.out) Z59_size ?_); kernel_rfl; rfl) | ((with_reducible refine build59g ?_ ?_); kernel_rfl) | ((with_reducible refine eql59g (C := Z59) (c := zCl) (show Z59 = clC zCl from rfl) zCl_fit ?_ ?_ ?_ ?_); kernel_rfl; rfl; rfl))
    refine HRN.out.mono ?_
    rintro e wa ⟨rfl, rfl⟩
    go_wp2_with fail
    refine HEN.out.mono ?_
    rintro e wb ⟨rfl, rfl⟩
    go_wp2_with fail
    refine HNN.out.mono ?_
    rintro e wc ⟨v, rfl, hbv, kc⟩
    obtain ⟨av, cv, rfl, _⟩ := hbv.form
    have K8 := Lib.hid (K7.out.trans kc)
    clear hbv kc
    go_wp2_with fail
    go_ret
    exact BPost.mk rfl K8.out
  | true =>
    have HKN := Lib.hid hkn
    have HN := Lib.hid (f_new_yes (.slice pa k.parts.length pc) (.slice wa k.wits.length wcp) k n w3 HL3.out HK3.out hkn)
    clear hkn
    go_wp2_with fail
    refine HN.out.mono ?_
    rintro e w4 ⟨g, r, rfl, hp4, k4, hg⟩
    have K4 := Lib.hid (K3.out.trans k4)
    have G4 := Lib.hid (k4.row G3.out)
    have HP4 := Lib.hid (hp4.base (K3.out.mono fun _ _ e => e.elim) HKw.out HLw.out)
    have HR := f_rknown (.slice pa k.parts.length pc) (.slice wa k.wits.length wcp) k n 0 w4 (HK3.out.kept k4)
    rw [HKN.out] at HR
    have HRH := Lib.hid HR
    clear HR k4 hp4 hg c0 c1 c2 K3 G3 HK3 HL3 HN
    have c0 := row_cell (k := 0) G4.out (v := .slice pa k.parts.length pc) rfl
    have c1 := row_cell (k := 1) G4.out (v := .slice wa k.wits.length wcp) rfl
    have c2 := row_cell (k := 2) G4.out (v := .int .i64 k.need) rfl
    go_wp2_with fail
    refine HRH.out.mono ?_
    rintro e w5 ⟨rfl, k5⟩
    have K5 := Lib.hid (K4.out.trans k5)
    have G5 := Lib.hid (k5.row G4.out)
    have HP5 := Lib.hid (HP4.out.same k5)
    clear c0 c1 c2 k5 K4 G4 HP4 HRH
    have c0 := row_cell (k := 0) G5.out (v := .slice pa k.parts.length pc) rfl
    have c1 := row_cell (k := 1) G5.out (v := .slice wa k.wits.length wcp) rfl
    have c2 := row_cell (k := 2) G5.out (v := .int .i64 k.need) rfl
    go_upto_region 10 with (fail)
    have HD6 : Hid (Duo w (w5.alloc (.cells (prC (.slice pa k.parts.length pc) (.slice wa k.wits.length wcp) k.need n 0 (.slice none 0 0)) 67)) g r w5.heap.size (.slice pa k.parts.length pc) (.slice wa k.wits.length wcp) (.slice none 0 0) (.slice none 0 0) k n 0 0 [] []) :=
      ⟨HP5.out.same ((Kept.refl _ _).alloc _), ⟨heap_alloc_new _ _, Buf.nil _ _ _ _, HKw.out, HLw.out, (K5.out.alloc _).mono (fun _ _ e => e.elim), K5.out.size⟩, fun i hi => by simp [Value.ownBlock] at hi⟩
    change Code.wp _ _ _ _ (w5.alloc (.cells (prC (.slice pa k.parts.length pc) (.slice wa k.wits.length wcp) k.need n 0 (.slice none 0 0)) 67))
    clear c0 c1 c2 K5 G5 HP5
    generalize w5.alloc (.cells (prC (.slice pa k.parts.length pc) (.slice wa k.wits.length wcp) k.need n 0 (.slice none 0 0)) 67) = w6 at *
    generalize w5.heap.size = z at *
    go_wp2_with fail
    go_loopg [11] ln (fun gk s11 wr => ∃ j : Nat, j ≤ ln ∧ gk = ln - j ∧ s11 = .int .i64 j ∧ Hid (∃ sv sz l ep, Duo w wr g r z (.slice pa k.parts.length pc) (.slice wa k.wits.length wcp) sv sz k n ep ep l l ∧ l.length ≤ j ∧ 0 ≤ ep ∧ ep ≤ 400))
    case atStart => exact ⟨0, Nat.zero_le _, rfl, rfl, _, _, [], 0, HD6.out, Nat.le_refl _, by decide, by decide⟩
    case round =>
      obtain ⟨j, hj, hgk, rfl, HXX⟩ := hrel
      have HGK := Lib.hid hgk
      obtain ⟨sv, sz, l, ep, hd, hll, he0, he4⟩ := HXX.out
      have HDr := Lib.hid hd
      have HLL := Lib.hid hll
      have HEP := Lib.hid (And.intro he0 he4)
      clear HXX hd hll HD6 hgk he0 he4
      by_cases hlt : j < ln
      · obtain ⟨b, o, rfl, hx⟩ : ∃ b o, la = some ⟨b, o, none⟩ ∧ ∀ i, i < ln → w.cell? ⟨b, o + i * 43, none⟩ = some (.int .i64 (Kd i)) ∧ ClFit (q i) ∧ w.rangeAt b (o + i * 43 + 1) (clC (q i)).toList ∧ w.cell? ⟨b, o + i * 43 + 42, none⟩ = some (.bool (R i)) := by
          rcases HQ.out with h | h
          · omega
          · exact h
        obtain ⟨hKd, hfit, hrg, hrf⟩ := hx j hlt
        have HRG := Lib.hid hrg
        have HRF := Lib.hid hrf
        have HFT := Lib.hid hfit
        have hkd := HDr.out.a.kept.oldC hKd
        clear hx hfit hrg hrf hKd
        cases h1 : (Kd j == 1) with
        | true =>
          clear HRG HRF
          have HNE : Hid (z ≠ g) := fun e => HDr.out.zg (.inl e)
          by_cases h4 : ep < 400
          · have d4 : decide (ep < 400) = true := decide_eq_true h4
            have h4H := Lib.hid h4
            have kd := (Kept.refl (fun _ => False) wr).drew
            have HDd := Lib.hid (HDr.out.same kd)
            have HPR := f_prot w g r (.slice pa k.parts.length pc) (.slice wa k.wits.length wcp) sv k n ep l _ HDd.out.a HEP.out.1
            rw [d4, if_pos h4] at HPR
            have HPRH := Lib.hid HPR
            clear kd HDr HPR h4
            go_upto_region 14 with (fail)
            refine wp_region_held_drew (S := fun w' => Kept (fun i => i = g) wr.drew w') (by kernel_rfl) (Kept.refl _ _) (fun hHeld => ?_)
            generalize wr.drew = wd at *
            have hS0 : Kept (fun i => i = g) wd wd := Kept.refl _ _
            refine wpAnyH_take (i := 0) (oi := ⟨some 78, _, _, _, _, _⟩) (v := .pointer (some ⟨g, 0, none⟩)) rfl (by kernel_rfl) (by kernel_rfl) (by kernel_rfl) (fun _ _ _ h => h) (Or.inl ⟨by kernel_rfl, fun w' hS => by go_simp⟩) (by assumption) ?_
            try simp only [Act.put, List.setIfInBounds_toArray, List.set_cons_succ, List.set_cons_zero]
            refine wpAnyH_take (i := 2) (oi := ⟨some 80, _, _, _, _, _⟩) (v := .pointer (some ⟨z, 0, none⟩)) rfl (by kernel_rfl) (by kernel_rfl) (by kernel_rfl) (fun _ _ _ h => h) (Or.inl ⟨by kernel_rfl, fun w' hS => by go_simp⟩) (by assumption) ?_
            try simp only [Act.put, List.setIfInBounds_toArray, List.set_cons_succ, List.set_cons_zero]
            refine wpAnyH_take (i := 3) (oi := ⟨some 81, _, _, _, _, _⟩) (v := .pointer (some ⟨z, 0, none⟩)) rfl (by kernel_rfl) (by kernel_rfl) (by kernel_rfl) (fun _ _ _ h => h) (Or.inl ⟨by kernel_rfl, fun w' hS => by go_simp⟩) (by assumption) ?_
            try simp only [Act.put, List.setIfInBounds_toArray, List.set_cons_succ, List.set_cons_zero]
            refine wpAnyH_take (i := 4) (oi := ⟨some 82, _, _, _, _, _⟩) (v := .pointer (some ⟨z, 4, none⟩)) rfl (by kernel_rfl) (by kernel_rfl) (by kernel_rfl) (fun _ _ _ h => h) (Or.inl ⟨by kernel_rfl, fun w' hS => by go_simp⟩) (by assumption) ?_
            try simp only [Act.put, List.setIfInBounds_toArray, List.set_cons_succ, List.set_cons_zero]
            refine wpAnyH_take (i := 5) (oi := ⟨some 83, _, _, _, _, _⟩) (v := .int .i64 ep) rfl (by kernel_rfl) (by kernel_rfl) (by kernel_rfl) (fun _ _ _ h => h) (Or.inl ⟨by kernel_rfl, fun w' hS => by have c := row_cell (k := 4) (hS.rowS HNE.out HDd.out.b.blk) (v := .int .i64 ep) (rfl); go_simp⟩) (by assumption) ?_
            try simp only [Act.put, List.setIfInBounds_toArray, List.set_cons_succ, List.set_cons_zero]
            refine wpAnyH_take (i := 6) (oi := ⟨some 84, _, _, _, _, _⟩) (v := .bool true) rfl (by kernel_rfl) (by kernel_rfl) (by kernel_rfl) (fun _ _ _ h => h) (Or.inl ⟨by kernel_rfl, fun w' hS => by have t0 := d4; go_simp⟩) (by assumption) ?_
            try simp only [Act.put, List.setIfInBounds_toArray, List.set_cons_succ, List.set_cons_zero]
            refine wpAnyH_ready (rs := [1]) (by kernel_rfl) (by simp) ?_
            refine AllReadyH.cons (o := ⟨some 79, _, _, _, _, _⟩) rfl (fun K hK => ?_) AllReadyH.nil
            go_simp
            refine HPRH.out.mono ?_
            rintro e w1 ⟨rfl, hpa, kk⟩
            have hS1 : Kept (fun i => i = g) wd w1 := kk
            have HD1 := Lib.hid (HDd.out.movA hpa (kk.mono (fun _ _ e => .inl e)) (.inl rfl))
            clear hpa kk
            go_wp2_with fail
            refine hK.out _ _ hS1 (fun hHeld => ?_)
            clear hK K
            try simp only [Act.put, List.setIfInBounds_toArray, List.set_cons_succ, List.set_cons_zero]
            refine wpAnyH_take (i := 7) (oi := ⟨some 85, _, _, _, _, _⟩) (v := .bool false) rfl (by kernel_rfl) (by kernel_rfl) (by kernel_rfl) (fun _ _ _ h => h) (Or.inl ⟨by kernel_rfl, fun w' hS => by go_simp⟩) (by assumption) ?_
            try simp only [Act.put, List.setIfInBounds_toArray, List.set_cons_succ, List.set_cons_zero]
            refine wpAnyH_done (by kernel_rfl) ?_ _
            clear hS0 hS1 hHeld HPRH HDd
            have c4 := row_cell (k := 4) HD1.out.b.blk (v := .int .i64 ep) rfl
            have f4 := free_of_block (j := 4) HD1.out.b.blk
            have he0 := HEP.out.1
            have he4 := h4H.out
            go_upto_region 22 with (fail)
            clear he0 he4
            have HD2 := Lib.hid (HD1.out.epB (ep + 1))
            clear c4 f4 HD1
            generalize w1.setCell ⟨z, 4, none⟩ (.int .i64 (ep + 1)) = w2 at *
            have kd := (Kept.refl (fun _ => False) w2).drew
            have HDt := Lib.hid (HD2.out.same kd)
            have HLJ : Hid (l.length ≤ j + 1) := by have := HLL.out; show _ ≤ _; omega
            have HLM : Hid (l.length ≤ 1000) := by have := HLJ.out; have := HLN.out; show _ ≤ _; omega
            have HEQ : Hid (0 ≤ ep + 1 ∧ ep + 1 ≤ 400) := ⟨by have := HEP.out.1; omega, by have := h4H.out; omega⟩
            obtain ⟨az, cz, rfl, _⟩ := HDt.out.b.buf.form
            clear kd HD2
            go_upto_region 22 with (fail)
            refine wp_region_held_drew (S := fun w' => Kept (fun _ => False) w2.drew w') (by kernel_rfl) (Kept.refl _ _) (fun hHeld => ?_)
            generalize w2.drew = wd at *
            have hS0 : Kept (fun _ => False) wd wd := Kept.refl _ _
            refine wpAnyH_take (i := 0) (oi := ⟨some 136, _, _, _, _, _⟩) (v := .pointer (some ⟨g, 0, none⟩)) rfl (by kernel_rfl) (by kernel_rfl) (by kernel_rfl) (fun _ _ _ h => h) (Or.inl ⟨by kernel_rfl, fun w' hS => by go_simp⟩) (by assumption) ?_
            try simp only [Act.put, List.setIfInBounds_toArray, List.set_cons_succ, List.set_cons_zero]
            refine wpAnyH_take (i := 2) (oi := ⟨some 138, _, _, _, _, _⟩) (v := .pointer (some ⟨z, 0, none⟩)) rfl (by kernel_rfl) (by kernel_rfl) (by kernel_rfl) (fun _ _ _ h => h) (Or.inl ⟨by kernel_rfl, fun w' hS => by go_simp⟩) (by assumption) ?_
            try simp only [Act.put, List.setIfInBounds_toArray, List.set_cons_succ, List.set_cons_zero]
            refine wpAnyH_take (i := 3) (oi := ⟨some 139, _, _, _, _, _⟩) (v := .pointer (some ⟨z, 0, none⟩)) rfl (by kernel_rfl) (by kernel_rfl) (by kernel_rfl) (fun _ _ _ h => h) (Or.inl ⟨by kernel_rfl, fun w' hS => by go_simp⟩) (by assumption) ?_
            try simp only [Act.put, List.setIfInBounds_toArray, List.set_cons_succ, List.set_cons_zero]
            refine wpAnyH_take (i := 4) (oi := ⟨some 140, _, _, _, _, _⟩) (v := .pointer (some ⟨z, 4, none⟩)) rfl (by kernel_rfl) (by kernel_rfl) (by kernel_rfl) (fun _ _ _ h => h) (Or.inl ⟨by kernel_rfl, fun w' hS => by go_simp⟩) (by assumption) ?_
            try simp only [Act.put, List.setIfInBounds_toArray, List.set_cons_succ, List.set_cons_zero]
            refine wpAnyH_take (i := 5) (oi := ⟨some 141, _, _, _, _, _⟩) (v := .int .i64 (ep + 1)) rfl (by kernel_rfl) (by kernel_rfl) (by kernel_rfl) (fun _ _ _ h => h) (Or.inl ⟨by kernel_rfl, fun w' hS => by have c := row_cell (k := 4) (hS.row HDt.out.b.blk) (v := .int .i64 (ep + 1)) (rfl); go_simp⟩) (by assumption) ?_
            try simp only [Act.put, List.setIfInBounds_toArray, List.set_cons_succ, List.set_cons_zero]
            refine wpAnyH_ready (rs := [1]) (by kernel_rfl) (by simp) ?_
            refine AllReadyH.cons (o := ⟨some 137, _, _, _, _, _⟩) rfl (fun K hK => ?_) AllReadyH.nil
            go_simp
            refine (f_pepoch w g r (.slice pa k.parts.length pc) (.slice wa k.wits.length wcp) sv k n (ep + 1) l wd HDt.out.a).mono ?_
            rintro e wd1 ⟨rfl, rfl⟩
            go_wp2_with fail
            refine hK.out _ _ hS0 (fun hHeld => ?_)
            clear hK K
            try simp only [Act.put, List.setIfInBounds_toArray, List.set_cons_succ, List.set_cons_zero]
            refine wpAnyH_take (i := 6) (oi := ⟨some 142, _, _, _, _, _⟩) (v := .bool false) rfl (by kernel_rfl) (by kernel_rfl) (by kernel_rfl) (fun _ _ _ h => h) (Or.inl ⟨by kernel_rfl, fun w' hS => by go_simp⟩) (by assumption) ?_
            try simp only [Act.put, List.setIfInBounds_toArray, List.set_cons_succ, List.set_cons_zero]
            refine wpAnyH_take (i := 7) (oi := ⟨some 143, _, _, _, _, _⟩) (v := .bool false) rfl (by kernel_rfl) (by kernel_rfl) (by kernel_rfl) (fun _ _ _ h => h) (Or.inl ⟨by kernel_rfl, fun w' hS => by go_simp⟩) (by assumption) ?_
            try simp only [Act.put, List.setIfInBounds_toArray, List.set_cons_succ, List.set_cons_zero]
            refine wpAnyH_take (i := 8) (oi := ⟨some 144, _, _, _, _, _⟩) (v := .pointer (some ⟨g, 0, none⟩)) rfl (by kernel_rfl) (by kernel_rfl) (by kernel_rfl) (fun _ _ _ h => h) (Or.inl ⟨by kernel_rfl, fun w' hS => by go_simp⟩) (by assumption) ?_
            try simp only [Act.put, List.setIfInBounds_toArray, List.set_cons_succ, List.set_cons_zero]
            refine wpAnyH_take (i := 10) (oi := ⟨some 146, _, _, _, _, _⟩) (v := .pointer (some ⟨z, 0, none⟩)) rfl (by kernel_rfl) (by kernel_rfl) (by kernel_rfl) (fun _ _ _ h => h) (Or.inl ⟨by kernel_rfl, fun w' hS => by go_simp⟩) (by assumption) ?_
            try simp only [Act.put, List.setIfInBounds_toArray, List.set_cons_succ, List.set_cons_zero]
            refine wpAnyH_take (i := 11) (oi := ⟨some 147, _, _, _, _, _⟩) (v := .pointer (some ⟨z, 0, none⟩)) rfl (by kernel_rfl) (by kernel_rfl) (by kernel_rfl) (fun _ _ _ h => h) (Or.inl ⟨by kernel_rfl, fun w' hS => by go_simp⟩) (by assumption) ?_
            try simp only [Act.put, List.setIfInBounds_toArray, List.set_cons_succ, List.set_cons_zero]
            refine wpAnyH_take (i := 12) (oi := ⟨some 148, _, _, _, _, _⟩) (v := .pointer (some ⟨z, 5, none⟩)) rfl (by kernel_rfl) (by kernel_rfl) (by kernel_rfl) (fun _ _ _ h => h) (Or.inl ⟨by kernel_rfl, fun w' hS => by go_simp⟩) (by assumption) ?_
            try simp only [Act.put, List.setIfInBounds_toArray, List.set_cons_succ, List.set_cons_zero]
            refine wpAnyH_take (i := 13) (oi := ⟨some 149, _, _, _, _, _⟩) (v := .slice az l.length cz) rfl (by kernel_rfl) (by kernel_rfl) (by kernel_rfl) (fun _ _ _ h => h) (Or.inl ⟨by kernel_rfl, fun w' hS => by have c := row_cell (k := 5) (hS.row HDt.out.b.blk) (v := .slice az l.length cz) (rfl); go_simp⟩) (by assumption) ?_
            try simp only [Act.put, List.setIfInBounds_toArray, List.set_cons_succ, List.set_cons_zero]
            refine wpAnyH_ready (rs := [9]) (by kernel_rfl) (by simp) ?_
            refine AllReadyH.cons (o := ⟨some 145, _, _, _, _, _⟩) rfl (fun K hK => ?_) AllReadyH.nil
            go_simp
            refine (f_entries w g r (.slice pa k.parts.length pc) (.slice wa k.wits.length wcp) sv k n (ep + 1) l wd1 HDt.out.a HLM.out).mono ?_
            rintro e wd2 ⟨v, rfl, hbv, kv⟩
            obtain ⟨av, cv, rfl, _⟩ := hbv.form
            have HBV := Lib.hid hbv
            have KV := Lib.hid kv
            have hS1 : Kept (fun _ => False) wd1 wd2 := kv
            clear hbv
            go_wp2_with fail
            refine hK.out _ _ hS1 (fun hHeld => ?_)
            clear hK K
            try simp only [Act.put, List.setIfInBounds_toArray, List.set_cons_succ, List.set_cons_zero]
            refine wpAnyH_ready (rs := [14]) (by kernel_rfl) (by simp) ?_
            refine AllReadyH.cons (o := ⟨some 150, _, _, _, _, _⟩) rfl (fun K hK => ?_) AllReadyH.nil
            go_simp
            refine (f_rents _ _ _ _ l wd2 HBV.out (HDt.out.b.buf.kept KV.out (fun _ _ e => e)) HLM.out).mono ?_
            rintro e wd3 ⟨rfl, ke⟩
            have hS2 : Kept (fun _ => False) wd1 wd3 := hS1.trans ke
            clear ke
            go_wp2_with fail
            refine hK.out _ _ hS2 (fun hHeld => ?_)
            clear hK K
            try simp only [Act.put, List.setIfInBounds_toArray, List.set_cons_succ, List.set_cons_zero]
            refine wpAnyH_take (i := 15) (oi := ⟨some 151, _, _, _, _, _⟩) (v := .bool false) rfl (by kernel_rfl) (by kernel_rfl) (by kernel_rfl) (fun _ _ _ h => h) (Or.inl ⟨by kernel_rfl, fun w' hS => by go_simp⟩) (by assumption) ?_
            try simp only [Act.put, List.setIfInBounds_toArray, List.set_cons_succ, List.set_cons_zero]
            refine wpAnyH_take (i := 16) (oi := ⟨some 152, _, _, _, _, _⟩) (v := .bool false) rfl (by kernel_rfl) (by kernel_rfl) (by kernel_rfl) (fun _ _ _ h => h) (Or.inl ⟨by kernel_rfl, fun w' hS => by go_simp⟩) (by assumption) ?_
            try simp only [Act.put, List.setIfInBounds_toArray, List.set_cons_succ, List.set_cons_zero]
            refine wpAnyH_done (by kernel_rfl) ?_ _
            have HDe := Lib.hid (HDt.out.same hS2)
            clear hS0 hS1 hS2 hHeld KV HBV HDt
            have hln60 := HLN.out
            go_wp2_with fail
            have hgk := HGK.out
            go_roundg (ln - (j + 1))
            case measure => omega
            case rel => exact ⟨j + 1, by omega, rfl, by go_num, _, _, _, _, HDe.out, HLJ.out, HEQ.out.1, HEQ.out.2⟩
          · have d4 : decide (ep < 400) = false := decide_eq_false h4
            have h4H := Lib.hid h4
            have kd := (Kept.refl (fun _ => False) wr).drew
            have HDd := Lib.hid (HDr.out.same kd)
            have HPR := f_prot w g r (.slice pa k.parts.length pc) (.slice wa k.wits.length wcp) sv k n ep l _ HDd.out.a HEP.out.1
            rw [d4, if_neg h4] at HPR
            have HPRH := Lib.hid HPR
            clear kd HDr HPR h4
            go_upto_region 14 with (fail)
            refine wp_region_held_drew (S := fun w' => Kept (fun i => i = g) wr.drew w') (by kernel_rfl) (Kept.refl _ _) (fun hHeld => ?_)
            generalize wr.drew = wd at *
            have hS0 : Kept (fun i => i = g) wd wd := Kept.refl _ _
            refine wpAnyH_take (i := 0) (oi := ⟨some 78, _, _, _, _, _⟩) (v := .pointer (some ⟨g, 0, none⟩)) rfl (by kernel_rfl) (by kernel_rfl) (by kernel_rfl) (fun _ _ _ h => h) (Or.inl ⟨by kernel_rfl, fun w' hS => by go_simp⟩) (by assumption) ?_
            try simp only [Act.put, List.setIfInBounds_toArray, List.set_cons_succ, List.set_cons_zero]
            refine wpAnyH_take (i := 2) (oi := ⟨some 80, _, _, _, _, _⟩) (v := .pointer (some ⟨z, 0, none⟩)) rfl (by kernel_rfl) (by kernel_rfl) (by kernel_rfl) (fun _ _ _ h => h) (Or.inl ⟨by kernel_rfl, fun w' hS => by go_simp⟩) (by assumption) ?_
            try simp only [Act.put, List.setIfInBounds_toArray, List.set_cons_succ, List.set_cons_zero]
            refine wpAnyH_take (i := 3) (oi := ⟨some 81, _, _, _, _, _⟩) (v := .pointer (some ⟨z, 0, none⟩)) rfl (by kernel_rfl) (by kernel_rfl) (by kernel_rfl) (fun _ _ _ h => h) (Or.inl ⟨by kernel_rfl, fun w' hS => by go_simp⟩) (by assumption) ?_
            try simp only [Act.put, List.setIfInBounds_toArray, List.set_cons_succ, List.set_cons_zero]
            refine wpAnyH_take (i := 4) (oi := ⟨some 82, _, _, _, _, _⟩) (v := .pointer (some ⟨z, 4, none⟩)) rfl (by kernel_rfl) (by kernel_rfl) (by kernel_rfl) (fun _ _ _ h => h) (Or.inl ⟨by kernel_rfl, fun w' hS => by go_simp⟩) (by assumption) ?_
            try simp only [Act.put, List.setIfInBounds_toArray, List.set_cons_succ, List.set_cons_zero]
            refine wpAnyH_take (i := 5) (oi := ⟨some 83, _, _, _, _, _⟩) (v := .int .i64 ep) rfl (by kernel_rfl) (by kernel_rfl) (by kernel_rfl) (fun _ _ _ h => h) (Or.inl ⟨by kernel_rfl, fun w' hS => by have c := row_cell (k := 4) (hS.rowS HNE.out HDd.out.b.blk) (v := .int .i64 ep) (rfl); go_simp⟩) (by assumption) ?_
            try simp only [Act.put, List.setIfInBounds_toArray, List.set_cons_succ, List.set_cons_zero]
            refine wpAnyH_take (i := 6) (oi := ⟨some 84, _, _, _, _, _⟩) (v := .bool false) rfl (by kernel_rfl) (by kernel_rfl) (by kernel_rfl) (fun _ _ _ h => h) (Or.inl ⟨by kernel_rfl, fun w' hS => by have t0 := d4; go_simp⟩) (by assumption) ?_
            try simp only [Act.put, List.setIfInBounds_toArray, List.set_cons_succ, List.set_cons_zero]
            refine wpAnyH_ready (rs := [1]) (by kernel_rfl) (by simp) ?_
            refine AllReadyH.cons (o := ⟨some 79, _, _, _, _, _⟩) rfl (fun K hK => ?_) AllReadyH.nil
            go_simp
            refine HPRH.out.mono ?_
            rintro e w1 ⟨rfl, hpa, kk⟩
            have hS1 : Kept (fun i => i = g) wd w1 := kk
            have HD1 := Lib.hid (HDd.out.movA hpa (kk.mono (fun _ _ e => .inl e)) (.inl rfl))
            clear hpa kk
            go_wp2_with fail
            refine hK.out _ _ hS1 (fun hHeld => ?_)
            clear hK K
            try simp only [Act.put, List.setIfInBounds_toArray, List.set_cons_succ, List.set_cons_zero]
            refine wpAnyH_take (i := 7) (oi := ⟨some 85, _, _, _, _, _⟩) (v := .bool false) rfl (by kernel_rfl) (by kernel_rfl) (by kernel_rfl) (fun _ _ _ h => h) (Or.inl ⟨by kernel_rfl, fun w' hS => by go_simp⟩) (by assumption) ?_
            try simp only [Act.put, List.setIfInBounds_toArray, List.set_cons_succ, List.set_cons_zero]
            refine wpAnyH_done (by kernel_rfl) ?_ _
            clear hS0 hS1 hHeld HPRH HDd
            have c4 := row_cell (k := 4) HD1.out.b.blk (v := .int .i64 ep) rfl
            go_upto_region 22 with (fail)
            clear c4
            have kd := (Kept.refl (fun _ => False) w1).drew
            have HDt := Lib.hid (HD1.out.same kd)
            have HLJ : Hid (l.length ≤ j + 1) := by have := HLL.out; show _ ≤ _; omega
            have HLM : Hid (l.length ≤ 1000) := by have := HLJ.out; have := HLN.out; show _ ≤ _; omega
            have HEQ : Hid (0 ≤ ep ∧ ep ≤ 400) := HEP.out
            obtain ⟨az, cz, rfl, _⟩ := HDt.out.b.buf.form
            clear kd HD1
            go_upto_region 22 with (fail)
            refine wp_region_held_drew (S := fun w' => Kept (fun _ => False) w1.drew w') (by kernel_rfl) (Kept.refl _ _) (fun hHeld => ?_)
            generalize w1.drew = wd at *
            have hS0 : Kept (fun _ => False) wd wd := Kept.refl _ _
            refine wpAnyH_take (i := 0) (oi := ⟨some 136, _, _, _, _, _⟩) (v := .pointer (some ⟨g, 0, none⟩)) rfl (by kernel_rfl) (by kernel_rfl) (by kernel_rfl) (fun _ _ _ h => h) (Or.inl ⟨by kernel_rfl, fun w' hS => by go_simp⟩) (by assumption) ?_
            try simp only [Act.put, List.setIfInBounds_toArray, List.set_cons_succ, List.set_cons_zero]
            refine wpAnyH_take (i := 2) (oi := ⟨some 138, _, _, _, _, _⟩) (v := .pointer (some ⟨z, 0, none⟩)) rfl (by kernel_rfl) (by kernel_rfl) (by kernel_rfl) (fun _ _ _ h => h) (Or.inl ⟨by kernel_rfl, fun w' hS => by go_simp⟩) (by assumption) ?_
            try simp only [Act.put, List.setIfInBounds_toArray, List.set_cons_succ, List.set_cons_zero]
            refine wpAnyH_take (i := 3) (oi := ⟨some 139, _, _, _, _, _⟩) (v := .pointer (some ⟨z, 0, none⟩)) rfl (by kernel_rfl) (by kernel_rfl) (by kernel_rfl) (fun _ _ _ h => h) (Or.inl ⟨by kernel_rfl, fun w' hS => by go_simp⟩) (by assumption) ?_
            try simp only [Act.put, List.setIfInBounds_toArray, List.set_cons_succ, List.set_cons_zero]
            refine wpAnyH_take (i := 4) (oi := ⟨some 140, _, _, _, _, _⟩) (v := .pointer (some ⟨z, 4, none⟩)) rfl (by kernel_rfl) (by kernel_rfl) (by kernel_rfl) (fun _ _ _ h => h) (Or.inl ⟨by kernel_rfl, fun w' hS => by go_simp⟩) (by assumption) ?_
            try simp only [Act.put, List.setIfInBounds_toArray, List.set_cons_succ, List.set_cons_zero]
            refine wpAnyH_take (i := 5) (oi := ⟨some 141, _, _, _, _, _⟩) (v := .int .i64 ep) rfl (by kernel_rfl) (by kernel_rfl) (by kernel_rfl) (fun _ _ _ h => h) (Or.inl ⟨by kernel_rfl, fun w' hS => by have c := row_cell (k := 4) (hS.row HDt.out.b.blk) (v := .int .i64 ep) (rfl); go_simp⟩) (by assumption) ?_
            try simp only [Act.put, List.setIfInBounds_toArray, List.set_cons_succ, List.set_cons_zero]
            refine wpAnyH_ready (rs := [1]) (by kernel_rfl) (by simp) ?_
            refine AllReadyH.cons (o := ⟨some 137, _, _, _, _, _⟩) rfl (fun K hK => ?_) AllReadyH.nil
            go_simp
            refine (f_pepoch w g r (.slice pa k.parts.length pc) (.slice wa k.wits.length wcp) sv k n ep l wd HDt.out.a).mono ?_
            rintro e wd1 ⟨rfl, rfl⟩
            go_wp2_with fail
            refine hK.out _ _ hS0 (fun hHeld => ?_)
            clear hK K
            try simp only [Act.put, List.setIfInBounds_toArray, List.set_cons_succ, List.set_cons_zero]
            refine wpAnyH_take (i := 6) (oi := ⟨some 142, _, _, _, _, _⟩) (v := .bool false) rfl (by kernel_rfl) (by kernel_rfl) (by kernel_rfl) (fun _ _ _ h => h) (Or.inl ⟨by kernel_rfl, fun w' hS => by go_simp⟩) (by assumption) ?_
            try simp only [Act.put, List.setIfInBounds_toArray, List.set_cons_succ, List.set_cons_zero]
            refine wpAnyH_take (i := 7) (oi := ⟨some 143, _, _, _, _, _⟩) (v := .bool false) rfl (by kernel_rfl) (by kernel_rfl) (by kernel_rfl) (fun _ _ _ h => h) (Or.inl ⟨by kernel_rfl, fun w' hS => by go_simp⟩) (by assumption) ?_
            try simp only [Act.put, List.setIfInBounds_toArray, List.set_cons_succ, List.set_cons_zero]
            refine wpAnyH_take (i := 8) (oi := ⟨some 144, _, _, _, _, _⟩) (v := .pointer (some ⟨g, 0, none⟩)) rfl (by kernel_rfl) (by kernel_rfl) (by kernel_rfl) (fun _ _ _ h => h) (Or.inl ⟨by kernel_rfl, fun w' hS => by go_simp⟩) (by assumption) ?_
            try simp only [Act.put, List.setIfInBounds_toArray, List.set_cons_succ, List.set_cons_zero]
            refine wpAnyH_take (i := 10) (oi := ⟨some 146, _, _, _, _, _⟩) (v := .pointer (some ⟨z, 0, none⟩)) rfl (by kernel_rfl) (by kernel_rfl) (by kernel_rfl) (fun _ _ _ h => h) (Or.inl ⟨by kernel_rfl, fun w' hS => by go_simp⟩) (by assumption) ?_
            try simp only [Act.put, List.setIfInBounds_toArray, List.set_cons_succ, List.set_cons_zero]
            refine wpAnyH_take (i := 11) (oi := ⟨some 147, _, _, _, _, _⟩) (v := .pointer (some ⟨z, 0, none⟩)) rfl (by kernel_rfl) (by kernel_rfl) (by kernel_rfl) (fun _ _ _ h => h) (Or.inl ⟨by kernel_rfl, fun w' hS => by go_simp⟩) (by assumption) ?_
            try simp only [Act.put, List.setIfInBounds_toArray, List.set_cons_succ, List.set_cons_zero]
            refine wpAnyH_take (i := 12) (oi := ⟨some 148, _, _, _, _, _⟩) (v := .pointer (some ⟨z, 5, none⟩)) rfl (by kernel_rfl) (by kernel_rfl) (by kernel_rfl) (fun _ _ _ h => h) (Or.inl ⟨by kernel_rfl, fun w' hS => by go_simp⟩) (by assumption) ?_
            try simp only [Act.put, List.setIfInBounds_toArray, List.set_cons_succ, List.set_cons_zero]
            refine wpAnyH_take (i := 13) (oi := ⟨some 149, _, _, _, _, _⟩) (v := .slice az l.length cz) rfl (by kernel_rfl) (by kernel_rfl) (by kernel_rfl) (fun _ _ _ h => h) (Or.inl ⟨by kernel_rfl, fun w' hS => by have c := row_cell (k := 5) (hS.row HDt.out.b.blk) (v := .slice az l.length cz) (rfl); go_simp⟩) (by assumption) ?_
            try simp only [Act.put, List.setIfInBounds_toArray, List.set_cons_succ, List.set_cons_zero]
            refine wpAnyH_ready (rs := [9]) (by kernel_rfl) (by simp) ?_
            refine AllReadyH.cons (o := ⟨some 145, _, _, _, _, _⟩) rfl (fun K hK => ?_) AllReadyH.nil
            go_simp
            refine (f_entries w g r (.slice pa k.parts.length pc) (.slice wa k.wits.length wcp) sv k n ep l wd1 HDt.out.a HLM.out).mono ?_
            rintro e wd2 ⟨v, rfl, hbv, kv⟩
            obtain ⟨av, cv, rfl, _⟩ := hbv.form
            have HBV := Lib.hid hbv
            have KV := Lib.hid kv
            have hS1 : Kept (fun _ => False) wd1 wd2 := kv
            clear hbv
            go_wp2_with fail
            refine hK.out _ _ hS1 (fun hHeld => ?_)
            clear hK K
            try simp only [Act.put, List.setIfInBounds_toArray, List.set_cons_succ, List.set_cons_zero]
            refine wpAnyH_ready (rs := [14]) (by kernel_rfl) (by simp) ?_
            refine AllReadyH.cons (o := ⟨some 150, _, _, _, _, _⟩) rfl (fun K hK => ?_) AllReadyH.nil
            go_simp
            refine (f_rents _ _ _ _ l wd2 HBV.out (HDt.out.b.buf.kept KV.out (fun _ _ e => e)) HLM.out).mono ?_
            rintro e wd3 ⟨rfl, ke⟩
            have hS2 : Kept (fun _ => False) wd1 wd3 := hS1.trans ke
            clear ke
            go_wp2_with fail
            refine hK.out _ _ hS2 (fun hHeld => ?_)
            clear hK K
            try simp only [Act.put, List.setIfInBounds_toArray, List.set_cons_succ, List.set_cons_zero]
            refine wpAnyH_take (i := 15) (oi := ⟨some 151, _, _, _, _, _⟩) (v := .bool false) rfl (by kernel_rfl) (by kernel_rfl) (by kernel_rfl) (fun _ _ _ h => h) (Or.inl ⟨by kernel_rfl, fun w' hS => by go_simp⟩) (by assumption) ?_
            try simp only [Act.put, List.setIfInBounds_toArray, List.set_cons_succ, List.set_cons_zero]
            refine wpAnyH_take (i := 16) (oi := ⟨some 152, _, _, _, _, _⟩) (v := .bool false) rfl (by kernel_rfl) (by kernel_rfl) (by kernel_rfl) (fun _ _ _ h => h) (Or.inl ⟨by kernel_rfl, fun w' hS => by go_simp⟩) (by assumption) ?_
            try simp only [Act.put, List.setIfInBounds_toArray, List.set_cons_succ, List.set_cons_zero]
            refine wpAnyH_done (by kernel_rfl) ?_ _
            have HDe := Lib.hid (HDt.out.same hS2)
            clear hS0 hS1 hS2 hHeld KV HBV HDt
            have hln60 := HLN.out
            go_wp2_with fail
            have hgk := HGK.out
            go_roundg (ln - (j + 1))
            case measure => omega
            case rel => exact ⟨j + 1, by omega, rfl, by go_num, _, _, _, _, HDe.out, HLJ.out, HEQ.out.1, HEQ.out.2⟩
        | false =>
          go_upto_region 18 with (fail)
          clear hkd
          obtain ⟨C0, hC0⟩ : ∃ C0, C0 = clC (q j) := ⟨_, rfl⟩
          obtain ⟨X, hX⟩ : ∃ X, X = pTake k n ep l (q j) (R j) := ⟨_, rfl⟩
          obtain ⟨xc, xb, xl⟩ := X
          obtain ⟨C1, hC1⟩ : ∃ C1, C1 = clC xc := ⟨_, rfl⟩
          have hl1000 : l.length ≤ 1000 := by have := HLL.out; have := HLN.out; omega
          have hw64 : W64 ep := ⟨by have := HEP.out.1; omega, by have := HEP.out.2; omega⟩
          have hXf : ClFit xc := by have := take_fit (k := k) (n := n) (l := l) (rf := R j) HFT.out hw64; rw [← hX] at this; exact this
          have hXl : xl.length ≤ l.length + 1 := by have := take_grow k n ep l (q j) (R j); rw [← hX] at this; exact this
          have HTK := fun (wq : World) (s1 : Value) (hp : Pa w wq g r (.slice pa k.parts.length pc) (.slice wa k.wits.length wcp) s1 k n ep l) => f_take w g r (.slice pa k.parts.length pc) (.slice wa k.wits.length wcp) s1 k n ep l (q j) (R j) wq hp HFT.out.tagl hl1000
          have HRK := fun (wq : World) (s1 : Value) (hp : Pr w wq z (.slice pa k.parts.length pc) (.slice wa k.wits.length wcp) s1 k n ep l) => f_rtake w z (.slice pa k.parts.length pc) (.slice wa k.wits.length wcp) s1 k n ep l (q j) (R j) wq hp HFT.out.tagl hl1000
          unfold takeV at HTK HRK
          rw [← hC0, ← hX] at HTK HRK
          dsimp only at HTK HRK
          rw [← hC1] at HTK HRK
          rw [← hC0] at HRG
          have hz0 : Hid (C0.size = 41) := by show _ = _; rw [hC0]; exact clC_size HFT.out.tagl
          have hz1 : Hid (C1.size = 41) := by show _ = _; rw [hC1]; exact clC_size hXf.tagl
          have ho1 : Hid (C1.all (·.oneCell') = true) := by show _ = _; rw [hC1]; exact clC_one _
          have HTKH := Lib.hid HTK
          have HRKH := Lib.hid HRK
          have HC1 := Lib.hid hC1
          have HXF := Lib.hid hXf
          have HXL := Lib.hid hXl
          clear hC0 HTK HRK hX hC1 hXf hXl hl1000 hw64
          go_cut [12, 13] (fun s12 s13 wx => ∃ B : Nat, s12 = .pointer (some ⟨B, 0, none⟩) ∧ s13 = .bool xb ∧ Hid (wx.heap[B]? = some (.cells C1 59 (0, 0))) ∧ Hid (∃ sx, Duo w wx g r z (.slice pa k.parts.length pc) (.slice wa k.wits.length wcp) sx sz k n ep ep xl l))
          case first =>
            have kd := (Kept.refl (fun _ => False) wr).drew
            have HDd := Lib.hid (HDr.out.same kd)
            refine wp_region_held_drew (S := fun w' => Kept (fun i => w.heap.size ≤ i) w w') (by kernel_rfl) HDd.out.a.kept (fun hHeld => ?_)
            clear kd HDr
            generalize wr.drew = wd at *
            have hzz := Lib.hid (show 0 + 41 ≤ Z59.size by rw [Z59_size]; decide)
            have hSd := HDd.out.a.kept
            refine wpAnyH_take (i := 0) (oi := ⟨some 99, _, _, _, _, _⟩) (v := .pointer (some ⟨g, 0, none⟩)) rfl (by kernel_rfl) (by kernel_rfl) (by kernel_rfl) (fun _ _ _ h => h) (Or.inl ⟨by kernel_rfl, fun w' hS => by go_simp⟩) (by assumption) ?_
            try simp only [Act.put, List.setIfInBounds_toArray, List.set_cons_succ, List.set_cons_zero]
            refine wpAnyH_take (i := 1) (oi := ⟨some 100, _, _, _, _, _⟩) (v := .slice (some ⟨b, o, none⟩) ln lc) rfl (by kernel_rfl) (by kernel_rfl) (by kernel_rfl) (fun _ _ _ h => h) (Or.inl ⟨by kernel_rfl, fun w' hS => by go_simp⟩) (by assumption) ?_
            try simp only [Act.put, List.setIfInBounds_toArray, List.set_cons_succ, List.set_cons_zero]
            refine wpAnyH_take (i := 2) (oi := ⟨some 101, _, _, _, _, _⟩) (v := .int .i64 j) rfl (by kernel_rfl) (by kernel_rfl) (by kernel_rfl) (fun _ _ _ h => h) (Or.inl ⟨by kernel_rfl, fun w' hS => by go_simp⟩) (by assumption) ?_
            try simp only [Act.put, List.setIfInBounds_toArray, List.set_cons_succ, List.set_cons_zero]
            refine wpAnyH_take (i := 3) (oi := ⟨some 102, _, _, _, _, _⟩) (v := .pointer (some ⟨b, o + j * 43, none⟩)) rfl (by kernel_rfl) (by kernel_rfl) (by kernel_rfl) (fun _ _ _ h => h) (Or.inl ⟨by kernel_rfl, fun w' hS => by go_simp⟩) (by assumption) ?_
            try simp only [Act.put, List.setIfInBounds_toArray, List.set_cons_succ, List.set_cons_zero]
            refine wpAnyH_take (i := 4) (oi := ⟨some 103, _, _, _, _, _⟩) (v := .pointer (some ⟨b, o + j * 43 + 1, none⟩)) rfl (by kernel_rfl) (by kernel_rfl) (by kernel_rfl) (fun _ _ _ h => h) (Or.inl ⟨by kernel_rfl, fun w' hS => by go_simp⟩) (by assumption) ?_
            try simp only [Act.put, List.setIfInBounds_toArray, List.set_cons_succ, List.set_cons_zero]
            refine wpAnyH_take (i := 5) (oi := ⟨some 104, _, _, _, _, _⟩) (v := .agg C0) rfl (by kernel_rfl) (by kernel_rfl) (by kernel_rfl) (fun _ _ _ h => h) (yields59 (C := C0) (g := b) (o := o + j * 43 + 1) (by kernel_rfl) rfl (fun w' hS => hS.oldR HRG.out) hz0.out) (by assumption) ?_
            try simp only [Act.put, List.setIfInBounds_toArray, List.set_cons_succ, List.set_cons_zero]
            refine wpAnyH_take (i := 6) (oi := ⟨some 105, _, _, _, _, _⟩) (v := .slice (some ⟨b, o, none⟩) ln lc) rfl (by kernel_rfl) (by kernel_rfl) (by kernel_rfl) (fun _ _ _ h => h) (Or.inl ⟨by kernel_rfl, fun w' hS => by go_simp⟩) (by assumption) ?_
            try simp only [Act.put, List.setIfInBounds_toArray, List.set_cons_succ, List.set_cons_zero]
            refine wpAnyH_take (i := 7) (oi := ⟨some 106, _, _, _, _, _⟩) (v := .int .i64 j) rfl (by kernel_rfl) (by kernel_rfl) (by kernel_rfl) (fun _ _ _ h => h) (Or.inl ⟨by kernel_rfl, fun w' hS => by go_simp⟩) (by assumption) ?_
            try simp only [Act.put, List.setIfInBounds_toArray, List.set_cons_succ, List.set_cons_zero]
            refine wpAnyH_take (i := 8) (oi := ⟨some 107, _, _, _, _, _⟩) (v := .pointer (some ⟨b, o + j * 43, none⟩)) rfl (by kernel_rfl) (by kernel_rfl) (by kernel_rfl) (fun _ _ _ h => h) (Or.inl ⟨by kernel_rfl, fun w' hS => by go_simp⟩) (by assumption) ?_
            try simp only [Act.put, List.setIfInBounds_toArray, List.set_cons_succ, List.set_cons_zero]
            refine wpAnyH_take (i := 9) (oi := ⟨some 108, _, _, _, _, _⟩) (v := .pointer (some ⟨b, o + j * 43 + 42, none⟩)) rfl (by kernel_rfl) (by kernel_rfl) (by kernel_rfl) (fun _ _ _ h => h) (Or.inl ⟨by kernel_rfl, fun w' hS => by go_simp⟩) (by assumption) ?_
            try simp only [Act.put, List.setIfInBounds_toArray, List.set_cons_succ, List.set_cons_zero]
            refine wpAnyH_take (i := 10) (oi := ⟨some 109, _, _, _, _, _⟩) (v := .bool (R j)) rfl (by kernel_rfl) (by kernel_rfl) (by kernel_rfl) (fun _ _ _ h => h) (Or.inl ⟨by kernel_rfl, fun w' hS => by have c := hS.oldC HRF.out; go_simp⟩) (by assumption) ?_
            try simp only [Act.put, List.setIfInBounds_toArray, List.set_cons_succ, List.set_cons_zero]
            refine wpAnyH_ready (rs := [11, 15]) (by kernel_rfl) (by simp) ?_
            refine AllReadyH.cons (o := ⟨some 110, _, _, _, _, _⟩) rfl (fun K hK => ?_) ?_
            · skip
              have HQ0 := HTKH.out wd _ HDd.out.a
              go_simp
              refine HQ0.mono ?_
              rintro e wt ⟨rfl, svt, hpt, kt, hot⟩
              have HDt := Lib.hid (HDd.out.movA hpt kt hot)
              have hSt := HDt.out.a.kept
              clear HQ0 kt hot hpt
              go_wp2_with fail
              refine hK.out _ _ hSt (fun hHeld => ?_)
              clear hK K
              try simp only [Act.put, List.setIfInBounds_toArray, List.set_cons_succ, List.set_cons_zero]
              refine wpAnyH_take (i := 12) (oi := ⟨some 98, _, _, _, _, _⟩) (v := .tuple #[.agg C1, .bool xb]) rfl (by kernel_rfl) (by kernel_rfl) (by kernel_rfl) (fun _ _ _ h => h) (Or.inl ⟨by kernel_rfl, fun w' hS => by go_simp⟩) (by assumption) ?_
              try simp only [Act.put, List.setIfInBounds_toArray, List.set_cons_succ, List.set_cons_zero]
              refine wpAnyH_take (i := 13) (oi := ⟨some 111, _, _, _, _, _⟩) (v := .agg C1) rfl (by kernel_rfl) (by kernel_rfl) (by kernel_rfl) (fun _ _ _ h => h) (Or.inl ⟨by kernel_rfl, fun w' hS => by go_simp⟩) (by assumption) ?_
              try simp only [Act.put, List.setIfInBounds_toArray, List.set_cons_succ, List.set_cons_zero]
              refine wpAnyH_take (i := 14) (oi := ⟨some 112, _, _, _, _, _⟩) (v := .bool xb) rfl (by kernel_rfl) (by kernel_rfl) (by kernel_rfl) (fun _ _ _ h => h) (Or.inl ⟨by kernel_rfl, fun w' hS => by go_simp⟩) (by assumption) ?_
              try simp only [Act.put, List.setIfInBounds_toArray, List.set_cons_succ, List.set_cons_zero]
              refine wpAnyH_ready (rs := [15]) (by kernel_rfl) (by simp) ?_
              refine AllReadyH.cons (o := ⟨some 12, _, _, _, _, _⟩) rfl (fun K hK => ?_) AllReadyH.nil
              have ka := (Kept.refl (fun _ => False) wt).alloc (.cells Z59 59)
              have zA := Lib.hid (heap_alloc_new wt (.cells Z59 59))
              have HDa := Lib.hid (HDt.out.same ka)
              have hSa := HDa.out.a.kept
              have HBA : Hid (w.heap.size ≤ wt.heap.size) := HDt.out.a.kept.size
              clear ka
              refine step_alloc59 (by kernel_rfl) ?_
              refine hK.out _ _ hSa (fun hHeld => ?_)
              clear hK K
              try simp only [Act.put, List.setIfInBounds_toArray, List.set_cons_succ, List.set_cons_zero]
              generalize hwA : wt.alloc (.cells Z59 59) = wA at *
              generalize wt.heap.size = BA at *
              refine wpAnyH_ready (rs := [16]) (by kernel_rfl) (by simp) ?_
              refine AllReadyH.cons (o := ⟨none, _, _, _, _, _⟩) rfl (fun K hK => ?_) AllReadyH.nil
              refine step_store59 (C := C1) (g := BA) (o := 0) (by kernel_rfl) rfl rfl hz1.out ho1.out zA.out hzz.out ?_
              intro wz gz kz
              rw [puts_all (Z59_size.trans hz1.out.symm)] at gz
              have YZ := Lib.hid gz
              have HDz := Lib.hid (HDa.out.away zA.out HBA.out kz)
              have hSz := HDz.out.a.kept
              clear gz kz
              refine hK.out _ _ hSz (fun hHeld => ?_)
              clear hK K
              try simp only [Act.put, List.setIfInBounds_toArray, List.set_cons_succ, List.set_cons_zero]
              refine wpAnyH_take (i := 17) (oi := ⟨some 13, _, _, _, _, _⟩) (v := .bool xb) rfl (by kernel_rfl) (by kernel_rfl) (by kernel_rfl) (fun _ _ _ h => h) (Or.inl ⟨by kernel_rfl, fun w' hS => by go_simp⟩) (by assumption) ?_
              try simp only [Act.put, List.setIfInBounds_toArray, List.set_cons_succ, List.set_cons_zero]
              refine wpAnyH_done (by kernel_rfl) ?_ _
              clear hSz hSa hSt hHeld
              go_wp2_with fail
              go_meet
              exact ⟨BA, rfl, rfl, YZ, ⟨_, HDz.out⟩⟩
            · refine AllReadyH.cons (o := ⟨some 12, _, _, _, _, _⟩) rfl (fun K hK => ?_) AllReadyH.nil
              have ka := (Kept.refl (fun _ => False) wd).alloc (.cells Z59 59)
              have zA := Lib.hid (heap_alloc_new wd (.cells Z59 59))
              have HDa := Lib.hid (HDd.out.same ka)
              have hSa := HDa.out.a.kept
              have HBA : Hid (w.heap.size ≤ wd.heap.size) := HDd.out.a.kept.size
              clear ka
              refine step_alloc59 (by kernel_rfl) ?_
              refine hK.out _ _ hSa (fun hHeld => ?_)
              clear hK K
              try simp only [Act.put, List.setIfInBounds_toArray, List.set_cons_succ, List.set_cons_zero]
              generalize hwA : wd.alloc (.cells Z59 59) = wA at *
              generalize wd.heap.size = BA at *
              refine wpAnyH_ready (rs := [11]) (by kernel_rfl) (by simp) ?_
              refine AllReadyH.cons (o := ⟨some 110, _, _, _, _, _⟩) rfl (fun K hK => ?_) AllReadyH.nil
              have HQ0 := HTKH.out wA _ HDa.out.a
              go_simp
              refine HQ0.mono ?_
              rintro e wt ⟨rfl, svt, hpt, kt, hot⟩
              have HDt := Lib.hid (HDa.out.movA hpt kt hot)
              have hSt := HDt.out.a.kept
              have zB := Lib.hid (HDa.out.rowA zA.out kt)
              clear HQ0 kt hot hpt
              go_wp2_with fail
              refine hK.out _ _ hSt (fun hHeld => ?_)
              clear hK K
              try simp only [Act.put, List.setIfInBounds_toArray, List.set_cons_succ, List.set_cons_zero]
              refine wpAnyH_take (i := 12) (oi := ⟨some 98, _, _, _, _, _⟩) (v := .tuple #[.agg C1, .bool xb]) rfl (by kernel_rfl) (by kernel_rfl) (by kernel_rfl) (fun _ _ _ h => h) (Or.inl ⟨by kernel_rfl, fun w' hS => by go_simp⟩) (by assumption) ?_
              try simp only [Act.put, List.setIfInBounds_toArray, List.set_cons_succ, List.set_cons_zero]
              refine wpAnyH_take (i := 13) (oi := ⟨some 111, _, _, _, _, _⟩) (v := .agg C1) rfl (by kernel_rfl) (by kernel_rfl) (by kernel_rfl) (fun _ _ _ h => h) (Or.inl ⟨by kernel_rfl, fun w' hS => by go_simp⟩) (by assumption) ?_
              try simp only [Act.put, List.setIfInBounds_toArray, List.set_cons_succ, List.set_cons_zero]
              refine wpAnyH_take (i := 14) (oi := ⟨some 112, _, _, _, _, _⟩) (v := .bool xb) rfl (by kernel_rfl) (by kernel_rfl) (by kernel_rfl) (fun _ _ _ h => h) (Or.inl ⟨by kernel_rfl, fun w' hS => by go_simp⟩) (by assumption) ?_
              try simp only [Act.put, List.setIfInBounds_toArray, List.set_cons_succ, List.set_cons_zero]
              refine wpAnyH_ready (rs := [16]) (by kernel_rfl) (by simp) ?_
              refine AllReadyH.cons (o := ⟨none, _, _, _, _, _⟩) rfl (fun K hK => ?_) AllReadyH.nil
              refine step_store59 (C := C1) (g := BA) (o := 0) (by kernel_rfl) rfl rfl hz1.out ho1.out zB.out hzz.out ?_
              intro wz gz kz
              rw [puts_all (Z59_size.trans hz1.out.symm)] at gz
              have YZ := Lib.hid gz
              have HDz := Lib.hid (HDt.out.away zB.out HBA.out kz)
              have hSz := HDz.out.a.kept
              clear gz kz
              refine hK.out _ _ hSz (fun hHeld => ?_)
              clear hK K
              try simp only [Act.put, List.setIfInBounds_toArray, List.set_cons_succ, List.set_cons_zero]
              refine wpAnyH_take (i := 17) (oi := ⟨some 13, _, _, _, _, _⟩) (v := .bool xb) rfl (by kernel_rfl) (by kernel_rfl) (by kernel_rfl) (fun _ _ _ h => h) (Or.inl ⟨by kernel_rfl, fun w' hS => by go_simp⟩) (by assumption) ?_
              try simp only [Act.put, List.setIfInBounds_toArray, List.set_cons_succ, List.set_cons_zero]
              refine wpAnyH_done (by kernel_rfl) ?_ _
              clear hSz hSa hSt hHeld
              go_wp2_with fail
              go_meet
              exact ⟨BA, rfl, rfl, YZ, ⟨_, HDz.out⟩⟩
          case rest =>
            obtain ⟨B1, rfl, rfl, YB, HDX⟩ := hcut
            obtain ⟨sx, hdx⟩ := HDX.out
            have HDx := Lib.hid hdx
            have HTKH := HRKH
            clear HDX hdx HDr HRKH
            go_upto_region 19 with (fail)
            go_cut [14, 15] (fun s14 s15 wx => ∃ B : Nat, s14 = .pointer (some ⟨B, 0, none⟩) ∧ s15 = .bool xb ∧ Hid (wx.heap[B1]? = some (.cells C1 59 (0, 0))) ∧ Hid (wx.heap[B]? = some (.cells C1 59 (0, 0))) ∧ Hid (∃ sy, Duo w wx g r z (.slice pa k.parts.length pc) (.slice wa k.wits.length wcp) sx sy k n ep ep xl xl))
            case first =>
              have kd := (Kept.refl (fun _ => False) wc).drew
              have HDd := Lib.hid (HDx.out.same kd)
              have YBd := Lib.hid (kd.row YB.out)
              clear YB
              refine wp_region_held_drew (S := fun w' => Kept (fun i => w.heap.size ≤ i) w w') (by kernel_rfl) HDd.out.a.kept (fun hHeld => ?_)
              clear kd HDx
              generalize wc.drew = wd at *
              have hzz := Lib.hid (show 0 + 41 ≤ Z59.size by rw [Z59_size]; decide)
              have hSd := HDd.out.a.kept
              refine wpAnyH_take (i := 0) (oi := ⟨some 114, _, _, _, _, _⟩) (v := .pointer (some ⟨z, 0, none⟩)) rfl (by kernel_rfl) (by kernel_rfl) (by kernel_rfl) (fun _ _ _ h => h) (Or.inl ⟨by kernel_rfl, fun w' hS => by go_simp⟩) (by assumption) ?_
              try simp only [Act.put, List.setIfInBounds_toArray, List.set_cons_succ, List.set_cons_zero]
              refine wpAnyH_take (i := 1) (oi := ⟨some 115, _, _, _, _, _⟩) (v := .slice (some ⟨b, o, none⟩) ln lc) rfl (by kernel_rfl) (by kernel_rfl) (by kernel_rfl) (fun _ _ _ h => h) (Or.inl ⟨by kernel_rfl, fun w' hS => by go_simp⟩) (by assumption) ?_
              try simp only [Act.put, List.setIfInBounds_toArray, List.set_cons_succ, List.set_cons_zero]
              refine wpAnyH_take (i := 2) (oi := ⟨some 116, _, _, _, _, _⟩) (v := .int .i64 j) rfl (by kernel_rfl) (by kernel_rfl) (by kernel_rfl) (fun _ _ _ h => h) (Or.inl ⟨by kernel_rfl, fun w' hS => by go_simp⟩) (by assumption) ?_
              try simp only [Act.put, List.setIfInBounds_toArray, List.set_cons_succ, List.set_cons_zero]
              refine wpAnyH_take (i := 3) (oi := ⟨some 117, _, _, _, _, _⟩) (v := .pointer (some ⟨b, o + j * 43, none⟩)) rfl (by kernel_rfl) (by kernel_rfl) (by kernel_rfl) (fun _ _ _ h => h) (Or.inl ⟨by kernel_rfl, fun w' hS => by go_simp⟩) (by assumption) ?_
              try simp only [Act.put, List.setIfInBounds_toArray, List.set_cons_succ, List.set_cons_zero]
              refine wpAnyH_take (i := 4) (oi := ⟨some 118, _, _, _, _, _⟩) (v := .pointer (some ⟨b, o + j * 43 + 1, none⟩)) rfl (by kernel_rfl) (by kernel_rfl) (by kernel_rfl) (fun _ _ _ h => h) (Or.inl ⟨by kernel_rfl, fun w' hS => by go_simp⟩) (by assumption) ?_
              try simp only [Act.put, List.setIfInBounds_toArray, List.set_cons_succ, List.set_cons_zero]
              refine wpAnyH_take (i := 5) (oi := ⟨some 119, _, _, _, _, _⟩) (v := .agg C0) rfl (by kernel_rfl) (by kernel_rfl) (by kernel_rfl) (fun _ _ _ h => h) (yields59 (C := C0) (g := b) (o := o + j * 43 + 1) (by kernel_rfl) rfl (fun w' hS => hS.oldR HRG.out) hz0.out) (by assumption) ?_
              try simp only [Act.put, List.setIfInBounds_toArray, List.set_cons_succ, List.set_cons_zero]
              refine wpAnyH_take (i := 6) (oi := ⟨some 120, _, _, _, _, _⟩) (v := .slice (some ⟨b, o, none⟩) ln lc) rfl (by kernel_rfl) (by kernel_rfl) (by kernel_rfl) (fun _ _ _ h => h) (Or.inl ⟨by kernel_rfl, fun w' hS => by go_simp⟩) (by assumption) ?_
              try simp only [Act.put, List.setIfInBounds_toArray, List.set_cons_succ, List.set_cons_zero]
              refine wpAnyH_take (i := 7) (oi := ⟨some 121, _, _, _, _, _⟩) (v := .int .i64 j) rfl (by kernel_rfl) (by kernel_rfl) (by kernel_rfl) (fun _ _ _ h => h) (Or.inl ⟨by kernel_rfl, fun w' hS => by go_simp⟩) (by assumption) ?_
              try simp only [Act.put, List.setIfInBounds_toArray, List.set_cons_succ, List.set_cons_zero]
              refine wpAnyH_take (i := 8) (oi := ⟨some 122, _, _, _, _, _⟩) (v := .pointer (some ⟨b, o + j * 43, none⟩)) rfl (by kernel_rfl) (by kernel_rfl) (by kernel_rfl) (fun _ _ _ h => h) (Or.inl ⟨by kernel_rfl, fun w' hS => by go_simp⟩) (by assumption) ?_
              try simp only [Act.put, List.setIfInBounds_toArray, List.set_cons_succ, List.set_cons_zero]
              refine wpAnyH_take (i := 9) (oi := ⟨some 123, _, _, _, _, _⟩) (v := .pointer (some ⟨b, o + j * 43 + 42, none⟩)) rfl (by kernel_rfl) (by kernel_rfl) (by kernel_rfl) (fun _ _ _ h => h) (Or.inl ⟨by kernel_rfl, fun w' hS => by go_simp⟩) (by assumption) ?_
              try simp only [Act.put, List.setIfInBounds_toArray, List.set_cons_succ, List.set_cons_zero]
              refine wpAnyH_take (i := 10) (oi := ⟨some 124, _, _, _, _, _⟩) (v := .bool (R j)) rfl (by kernel_rfl) (by kernel_rfl) (by kernel_rfl) (fun _ _ _ h => h) (Or.inl ⟨by kernel_rfl, fun w' hS => by have c := hS.oldC HRF.out; go_simp⟩) (by assumption) ?_
              try simp only [Act.put, List.setIfInBounds_toArray, List.set_cons_succ, List.set_cons_zero]
              refine wpAnyH_ready (rs := [11, 15]) (by kernel_rfl) (by simp) ?_
              refine AllReadyH.cons (o := ⟨some 125, _, _, _, _, _⟩) rfl (fun K hK => ?_) ?_
              · skip
                have HQ0 := HTKH.out wd _ HDd.out.b
                go_simp
                refine HQ0.mono ?_
                rintro e wt ⟨rfl, svt, hpt, kt, hot⟩
                have HDt := Lib.hid (HDd.out.movB hpt kt hot)
                have hSt := HDt.out.a.kept
                have YBdt := Lib.hid (HDd.out.rowB YBd.out kt)
                clear HQ0 kt hot hpt
                go_wp2_with fail
                refine hK.out _ _ hSt (fun hHeld => ?_)
                clear hK K
                try simp only [Act.put, List.setIfInBounds_toArray, List.set_cons_succ, List.set_cons_zero]
                refine wpAnyH_take (i := 12) (oi := ⟨some 113, _, _, _, _, _⟩) (v := .tuple #[.agg C1, .bool xb]) rfl (by kernel_rfl) (by kernel_rfl) (by kernel_rfl) (fun _ _ _ h => h) (Or.inl ⟨by kernel_rfl, fun w' hS => by go_simp⟩) (by assumption) ?_
                try simp only [Act.put, List.setIfInBounds_toArray, List.set_cons_succ, List.set_cons_zero]
                refine wpAnyH_take (i := 13) (oi := ⟨some 126, _, _, _, _, _⟩) (v := .agg C1) rfl (by kernel_rfl) (by kernel_rfl) (by kernel_rfl) (fun _ _ _ h => h) (Or.inl ⟨by kernel_rfl, fun w' hS => by go_simp⟩) (by assumption) ?_
                try simp only [Act.put, List.setIfInBounds_toArray, List.set_cons_succ, List.set_cons_zero]
                refine wpAnyH_take (i := 14) (oi := ⟨some 127, _, _, _, _, _⟩) (v := .bool xb) rfl (by kernel_rfl) (by kernel_rfl) (by kernel_rfl) (fun _ _ _ h => h) (Or.inl ⟨by kernel_rfl, fun w' hS => by go_simp⟩) (by assumption) ?_
                try simp only [Act.put, List.setIfInBounds_toArray, List.set_cons_succ, List.set_cons_zero]
                refine wpAnyH_ready (rs := [15]) (by kernel_rfl) (by simp) ?_
                refine AllReadyH.cons (o := ⟨some 14, _, _, _, _, _⟩) rfl (fun K hK => ?_) AllReadyH.nil
                have ka := (Kept.refl (fun _ => False) wt).alloc (.cells Z59 59)
                have zA := Lib.hid (heap_alloc_new wt (.cells Z59 59))
                have HDa := Lib.hid (HDt.out.same ka)
                have hSa := HDa.out.a.kept
                have HBA : Hid (w.heap.size ≤ wt.heap.size) := HDt.out.a.kept.size
                have YBdta := Lib.hid (ka.row YBdt.out)
                have HYN : Hid (B1 ≠ wt.heap.size) := Nat.ne_of_lt (row_lt YBdt.out)
                clear ka
                refine step_alloc59 (by kernel_rfl) ?_
                refine hK.out _ _ hSa (fun hHeld => ?_)
                clear hK K
                try simp only [Act.put, List.setIfInBounds_toArray, List.set_cons_succ, List.set_cons_zero]
                generalize hwA : wt.alloc (.cells Z59 59) = wA at *
                generalize wt.heap.size = BA at *
                refine wpAnyH_ready (rs := [16]) (by kernel_rfl) (by simp) ?_
                refine AllReadyH.cons (o := ⟨none, _, _, _, _, _⟩) rfl (fun K hK => ?_) AllReadyH.nil
                refine step_store59 (C := C1) (g := BA) (o := 0) (by kernel_rfl) rfl rfl hz1.out ho1.out zA.out hzz.out ?_
                intro wz gz kz
                rw [puts_all (Z59_size.trans hz1.out.symm)] at gz
                have YZ := Lib.hid gz
                have HDz := Lib.hid (HDa.out.away zA.out HBA.out kz)
                have hSz := HDz.out.a.kept
                have YBz := Lib.hid (kz.rowS HYN.out YBdta.out)
                clear gz kz
                refine hK.out _ _ hSz (fun hHeld => ?_)
                clear hK K
                try simp only [Act.put, List.setIfInBounds_toArray, List.set_cons_succ, List.set_cons_zero]
                refine wpAnyH_take (i := 17) (oi := ⟨some 15, _, _, _, _, _⟩) (v := .bool xb) rfl (by kernel_rfl) (by kernel_rfl) (by kernel_rfl) (fun _ _ _ h => h) (Or.inl ⟨by kernel_rfl, fun w' hS => by go_simp⟩) (by assumption) ?_
                try simp only [Act.put, List.setIfInBounds_toArray, List.set_cons_succ, List.set_cons_zero]
                refine wpAnyH_done (by kernel_rfl) ?_ _
                clear hSz hSa hSt hHeld
                go_wp2_with fail
                go_meet
                exact ⟨BA, rfl, rfl, YBz, YZ, ⟨_, HDz.out⟩⟩
              · refine AllReadyH.cons (o := ⟨some 14, _, _, _, _, _⟩) rfl (fun K hK => ?_) AllReadyH.nil
                have ka := (Kept.refl (fun _ => False) wd).alloc (.cells Z59 59)
                have zA := Lib.hid (heap_alloc_new wd (.cells Z59 59))
                have HDa := Lib.hid (HDd.out.same ka)
                have hSa := HDa.out.a.kept
                have HBA : Hid (w.heap.size ≤ wd.heap.size) := HDd.out.a.kept.size
                have YBda := Lib.hid (ka.row YBd.out)
                have HYN : Hid (B1 ≠ wd.heap.size) := Nat.ne_of_lt (row_lt YBd.out)
                clear ka
                refine step_alloc59 (by kernel_rfl) ?_
                refine hK.out _ _ hSa (fun hHeld => ?_)
                clear hK K
                try simp only [Act.put, List.setIfInBounds_toArray, List.set_cons_succ, List.set_cons_zero]
                generalize hwA : wd.alloc (.cells Z59 59) = wA at *
                generalize wd.heap.size = BA at *
                refine wpAnyH_ready (rs := [11]) (by kernel_rfl) (by simp) ?_
                refine AllReadyH.cons (o := ⟨some 125, _, _, _, _, _⟩) rfl (fun K hK => ?_) AllReadyH.nil
                have HQ0 := HTKH.out wA _ HDa.out.b
                go_simp
                refine HQ0.mono ?_
                rintro e wt ⟨rfl, svt, hpt, kt, hot⟩
                have HDt := Lib.hid (HDa.out.movB hpt kt hot)
                have hSt := HDt.out.a.kept
                have zB := Lib.hid (HDa.out.rowB zA.out kt)
                have YBdat := Lib.hid (HDa.out.rowB YBda.out kt)
                clear HQ0 kt hot hpt
                go_wp2_with fail
                refine hK.out _ _ hSt (fun hHeld => ?_)
                clear hK K
                try simp only [Act.put, List.setIfInBounds_toArray, List.set_cons_succ, List.set_cons_zero]
                refine wpAnyH_take (i := 12) (oi := ⟨some 113, _, _, _, _, _⟩) (v := .tuple #[.agg C1, .bool xb]) rfl (by kernel_rfl) (by kernel_rfl) (by kernel_rfl) (fun _ _ _ h => h) (Or.inl ⟨by kernel_rfl, fun w' hS => by go_simp⟩) (by assumption) ?_
                try simp only [Act.put, List.setIfInBounds_toArray, List.set_cons_succ, List.set_cons_zero]
                refine wpAnyH_take (i := 13) (oi := ⟨some 126, _, _, _, _, _⟩) (v := .agg C1) rfl (by kernel_rfl) (by kernel_rfl) (by kernel_rfl) (fun _ _ _ h => h) (Or.inl ⟨by kernel_rfl, fun w' hS => by go_simp⟩) (by assumption) ?_
                try simp only [Act.put, List.setIfInBounds_toArray, List.set_cons_succ, List.set_cons_zero]
                refine wpAnyH_take (i := 14) (oi := ⟨some 127, _, _, _, _, _⟩) (v := .bool xb) rfl (by kernel_rfl) (by kernel_rfl) (by kernel_rfl) (fun _ _ _ h => h) (Or.inl ⟨by kernel_rfl, fun w' hS => by go_simp⟩) (by assumption) ?_
                try simp only [Act.put, List.setIfInBounds_toArray, List.set_cons_succ, List.set_cons_zero]
                refine wpAnyH_ready (rs := [16]) (by kernel_rfl) (by simp) ?_
                refine AllReadyH.cons (o := ⟨none, _, _, _, _, _⟩) rfl (fun K hK => ?_) AllReadyH.nil
                refine step_store59 (C := C1) (g := BA) (o := 0) (by kernel_rfl) rfl rfl hz1.out ho1.out zB.out hzz.out ?_
                intro wz gz kz
                rw [puts_all (Z59_size.trans hz1.out.symm)] at gz
                have YZ := Lib.hid gz
                have HDz := Lib.hid (HDt.out.away zB.out HBA.out kz)
                have hSz := HDz.out.a.kept
                have YBz := Lib.hid (kz.rowS HYN.out YBdat.out)
                clear gz kz
                refine hK.out _ _ hSz (fun hHeld => ?_)
                clear hK K
                try simp only [Act.put, List.setIfInBounds_toArray, List.set_cons_succ, List.set_cons_zero]
                refine wpAnyH_take (i := 17) (oi := ⟨some 15, _, _, _, _, _⟩) (v := .bool xb) rfl (by kernel_rfl) (by kernel_rfl) (by kernel_rfl) (fun _ _ _ h => h) (Or.inl ⟨by kernel_rfl, fun w' hS => by go_simp⟩) (by assumption) ?_
                try simp only [Act.put, List.setIfInBounds_toArray, List.set_cons_succ, List.set_cons_zero]
                refine wpAnyH_done (by kernel_rfl) ?_ _
                clear hSz hSa hSt hHeld
                go_wp2_with fail
                go_meet
                exact ⟨BA, rfl, rfl, YBz, YZ, ⟨_, HDz.out⟩⟩
            case rest =>
              obtain ⟨B2, rfl, rfl, YB1, YB2, HDX⟩ := hcut
              obtain ⟨sy, hdx⟩ := HDX.out
              have HDy := Lib.hid hdx
              clear HDX hdx HDx HTKH YB
              go_upto_region 22 with (first | fail | ((with_reducible refine load59 (C := C1) (g := B1) (o := 0) ?_ (range_row YB1.out) hz1.out ?_); rfl) | ((with_reducible refine load59 (C := C1) (g := B2) (o := 0) ?_ (range_row YB2.out) hz1.out ?_); rfl) | ((with_reducible refine neq59p (C := C1) (c := xc) HC1.out HXF.out ?_ ?_ ?_); rfl; rfl))
              clear YB1 YB2
              have kd := (Kept.refl (fun _ => False) wc).drew
              have HDt := Lib.hid (HDy.out.same kd)
              have HLJ : Hid (xl.length ≤ j + 1) := by have := HLL.out; have := HXL.out; show _ ≤ _; omega
              have HLM : Hid (xl.length ≤ 1000) := by have := HLJ.out; have := HLN.out; show _ ≤ _; omega
              have HEQ : Hid (0 ≤ ep ∧ ep ≤ 400) := HEP.out
              obtain ⟨az, cz, rfl, _⟩ := HDt.out.b.buf.form
              clear kd HDy
              go_upto_region 22 with (fail)
              refine wp_region_held_drew (S := fun w' => Kept (fun _ => False) wc.drew w') (by kernel_rfl) (Kept.refl _ _) (fun hHeld => ?_)
              generalize wc.drew = wd at *
              have hS0 : Kept (fun _ => False) wd wd := Kept.refl _ _
              refine wpAnyH_take (i := 0) (oi := ⟨some 136, _, _, _, _, _⟩) (v := .pointer (some ⟨g, 0, none⟩)) rfl (by kernel_rfl) (by kernel_rfl) (by kernel_rfl) (fun _ _ _ h => h) (Or.inl ⟨by kernel_rfl, fun w' hS => by go_simp⟩) (by assumption) ?_
              try simp only [Act.put, List.setIfInBounds_toArray, List.set_cons_succ, List.set_cons_zero]
              refine wpAnyH_take (i := 2) (oi := ⟨some 138, _, _, _, _, _⟩) (v := .pointer (some ⟨z, 0, none⟩)) rfl (by kernel_rfl) (by kernel_rfl) (by kernel_rfl) (fun _ _ _ h => h) (Or.inl ⟨by kernel_rfl, fun w' hS => by go_simp⟩) (by assumption) ?_
              try simp only [Act.put, List.setIfInBounds_toArray, List.set_cons_succ, List.set_cons_zero]
              refine wpAnyH_take (i := 3) (oi := ⟨some 139, _, _, _, _, _⟩) (v := .pointer (some ⟨z, 0, none⟩)) rfl (by kernel_rfl) (by kernel_rfl) (by kernel_rfl) (fun _ _ _ h => h) (Or.inl ⟨by kernel_rfl, fun w' hS => by go_simp⟩) (by assumption) ?_
              try simp only [Act.put, List.setIfInBounds_toArray, List.set_cons_succ, List.set_cons_zero]
              refine wpAnyH_take (i := 4) (oi := ⟨some 140, _, _, _, _, _⟩) (v := .pointer (some ⟨z, 4, none⟩)) rfl (by kernel_rfl) (by kernel_rfl) (by kernel_rfl) (fun _ _ _ h => h) (Or.inl ⟨by kernel_rfl, fun w' hS => by go_simp⟩) (by assumption) ?_
              try simp only [Act.put, List.setIfInBounds_toArray, List.set_cons_succ, List.set_cons_zero]
              refine wpAnyH_take (i := 5) (oi := ⟨some 141, _, _, _, _, _⟩) (v := .int .i64 ep) rfl (by kernel_rfl) (by kernel_rfl) (by kernel_rfl) (fun _ _ _ h => h) (Or.inl ⟨by kernel_rfl, fun w' hS => by have c := row_cell (k := 4) (hS.row HDt.out.b.blk) (v := .int .i64 ep) (rfl); go_simp⟩) (by assumption) ?_
              try simp only [Act.put, List.setIfInBounds_toArray, List.set_cons_succ, List.set_cons_zero]
              refine wpAnyH_ready (rs := [1]) (by kernel_rfl) (by simp) ?_
              refine AllReadyH.cons (o := ⟨some 137, _, _, _, _, _⟩) rfl (fun K hK => ?_) AllReadyH.nil
              go_simp
              refine (f_pepoch w g r (.slice pa k.parts.length pc) (.slice wa k.wits.length wcp) sx k n ep xl wd HDt.out.a).mono ?_
              rintro e wd1 ⟨rfl, rfl⟩
              go_wp2_with fail
              refine hK.out _ _ hS0 (fun hHeld => ?_)
              clear hK K
              try simp only [Act.put, List.setIfInBounds_toArray, List.set_cons_succ, List.set_cons_zero]
              refine wpAnyH_take (i := 6) (oi := ⟨some 142, _, _, _, _, _⟩) (v := .bool false) rfl (by kernel_rfl) (by kernel_rfl) (by kernel_rfl) (fun _ _ _ h => h) (Or.inl ⟨by kernel_rfl, fun w' hS => by go_simp⟩) (by assumption) ?_
              try simp only [Act.put, List.setIfInBounds_toArray, List.set_cons_succ, List.set_cons_zero]
              refine wpAnyH_take (i := 7) (oi := ⟨some 143, _, _, _, _, _⟩) (v := .bool false) rfl (by kernel_rfl) (by kernel_rfl) (by kernel_rfl) (fun _ _ _ h => h) (Or.inl ⟨by kernel_rfl, fun w' hS => by go_simp⟩) (by assumption) ?_
              try simp only [Act.put, List.setIfInBounds_toArray, List.set_cons_succ, List.set_cons_zero]
              refine wpAnyH_take (i := 8) (oi := ⟨some 144, _, _, _, _, _⟩) (v := .pointer (some ⟨g, 0, none⟩)) rfl (by kernel_rfl) (by kernel_rfl) (by kernel_rfl) (fun _ _ _ h => h) (Or.inl ⟨by kernel_rfl, fun w' hS => by go_simp⟩) (by assumption) ?_
              try simp only [Act.put, List.setIfInBounds_toArray, List.set_cons_succ, List.set_cons_zero]
              refine wpAnyH_take (i := 10) (oi := ⟨some 146, _, _, _, _, _⟩) (v := .pointer (some ⟨z, 0, none⟩)) rfl (by kernel_rfl) (by kernel_rfl) (by kernel_rfl) (fun _ _ _ h => h) (Or.inl ⟨by kernel_rfl, fun w' hS => by go_simp⟩) (by assumption) ?_
              try simp only [Act.put, List.setIfInBounds_toArray, List.set_cons_succ, List.set_cons_zero]
              refine wpAnyH_take (i := 11) (oi := ⟨some 147, _, _, _, _, _⟩) (v := .pointer (some ⟨z, 0, none⟩)) rfl (by kernel_rfl) (by kernel_rfl) (by kernel_rfl) (fun _ _ _ h => h) (Or.inl ⟨by kernel_rfl, fun w' hS => by go_simp⟩) (by assumption) ?_
              try simp only [Act.put, List.setIfInBounds_toArray, List.set_cons_succ, List.set_cons_zero]
              refine wpAnyH_take (i := 12) (oi := ⟨some 148, _, _, _, _, _⟩) (v := .pointer (some ⟨z, 5, none⟩)) rfl (by kernel_rfl) (by kernel_rfl) (by kernel_rfl) (fun _ _ _ h => h) (Or.inl ⟨by kernel_rfl, fun w' hS => by go_simp⟩) (by assumption) ?_
              try simp only [Act.put, List.setIfInBounds_toArray, List.set_cons_succ, List.set_cons_zero]
              refine wpAnyH_take (i := 13) (oi := ⟨some 149, _, _, _, _, _⟩) (v := .slice az xl.length cz) rfl (by kernel_rfl) (by kernel_rfl) (by kernel_rfl) (fun _ _ _ h => h) (Or.inl ⟨by kernel_rfl, fun w' hS => by have c := row_cell (k := 5) (hS.row HDt.out.b.blk) (v := .slice az xl.length cz) (rfl); go_simp⟩) (by assumption) ?_
              try simp only [Act.put, List.setIfInBounds_toArray, List.set_cons_succ, List.set_cons_zero]
              refine wpAnyH_ready (rs := [9]) (by kernel_rfl) (by simp) ?_
              refine AllReadyH.cons (o := ⟨some 145, _, _, _, _, _⟩) rfl (fun K hK => ?_) AllReadyH.nil
              go_simp
              refine (f_entries w g r (.slice pa k.parts.length pc) (.slice wa k.wits.length wcp) sx k n ep xl wd1 HDt.out.a HLM.out).mono ?_
              rintro e wd2 ⟨v, rfl, hbv, kv⟩
              obtain ⟨av, cv, rfl, _⟩ := hbv.form
              have HBV := Lib.hid hbv
              have KV := Lib.hid kv
              have hS1 : Kept (fun _ => False) wd1 wd2 := kv
              clear hbv
              go_wp2_with fail
              refine hK.out _ _ hS1 (fun hHeld => ?_)
              clear hK K
              try simp only [Act.put, List.setIfInBounds_toArray, List.set_cons_succ, List.set_cons_zero]
              refine wpAnyH_ready (rs := [14]) (by kernel_rfl) (by simp) ?_
              refine AllReadyH.cons (o := ⟨some 150, _, _, _, _, _⟩) rfl (fun K hK => ?_) AllReadyH.nil
              go_simp
              refine (f_rents _ _ _ _ xl wd2 HBV.out (HDt.out.b.buf.kept KV.out (fun _ _ e => e)) HLM.out).mono ?_
              rintro e wd3 ⟨rfl, ke⟩
              have hS2 : Kept (fun _ => False) wd1 wd3 := hS1.trans ke
              clear ke
              go_wp2_with fail
              refine hK.out _ _ hS2 (fun hHeld => ?_)
              clear hK K
              try simp only [Act.put, List.setIfInBounds_toArray, List.set_cons_succ, List.set_cons_zero]
              refine wpAnyH_take (i := 15) (oi := ⟨some 151, _, _, _, _, _⟩) (v := .bool false) rfl (by kernel_rfl) (by kernel_rfl) (by kernel_rfl) (fun _ _ _ h => h) (Or.inl ⟨by kernel_rfl, fun w' hS => by go_simp⟩) (by assumption) ?_
              try simp only [Act.put, List.setIfInBounds_toArray, List.set_cons_succ, List.set_cons_zero]
              refine wpAnyH_take (i := 16) (oi := ⟨some 152, _, _, _, _, _⟩) (v := .bool false) rfl (by kernel_rfl) (by kernel_rfl) (by kernel_rfl) (fun _ _ _ h => h) (Or.inl ⟨by kernel_rfl, fun w' hS => by go_simp⟩) (by assumption) ?_
              try simp only [Act.put, List.setIfInBounds_toArray, List.set_cons_succ, List.set_cons_zero]
              refine wpAnyH_done (by kernel_rfl) ?_ _
              have HDe := Lib.hid (HDt.out.same hS2)
              clear hS0 hS1 hS2 hHeld KV HBV HDt
              have hln60 := HLN.out
              go_wp2_with fail
              have hgk := HGK.out
              go_roundg (ln - (j + 1))
              case measure => omega
              case rel => exact ⟨j + 1, by omega, rfl, by go_num, _, _, _, _, HDe.out, HLJ.out, HEQ.out.1, HEQ.out.2⟩
      · go_wp2_with fail
        go_ret
        exact BPost.mk rfl (HDr.out.a.kept.mono (fun i hi e => by omega))
end Go.Proofs.YtklmhegmombegaaDoor
