/-
  The reference's participant in memory; the contracts of its Has (102), Its (70), c2 (72), and of Entries (41). Conditions: as each theorem says.
-/
import Derived.Test.YtklmhegmombegaaDoorPaN
import Derived.Test.YtklmhegmombegaaDoorRsI
import Derived.Deep.LoopGhost
set_option linter.unusedVariables false
set_option linter.unusedSimpArgs false
set_option maxRecDepth 100000
namespace Go.Proofs.YtklmhegmombegaaDoor
open Go Go.RowKit Plain
open Go.Proofs.YtklmhegmombegaaDoor.Re (wi)
/-- The cells of the reference's participant. -/
def prC (pv wv : Value) (need n ep : Int) (sv : Value) : Array Value := #[pv, wv, .int .i64 need, .int .i64 n, .int .i64 ep, sv]
/-- The reference's participant, made behind the world w0. -/
structure Pr (w0 w : World) (g : Nat) (pv wv sv : Value) (k : Ky) (n ep : Int) (l : List En) : Prop where
  blk : w.heap[g]? = some (.cells (prC pv wv k.need n ep sv) 67 (0, 0))
  buf : Buf w w0.heap.size 76 4 sv l.length (ensC l)
  keys : KyIn w0 pv wv k
  laid : Laid w0
  kept : Kept (fun i => w0.heap.size ≤ i) w0 w
  lo : w0.heap.size ≤ g
section
variable {w0 w w' : World} {g : Nat} {pv wv sv : Value} {k : Ky} {n ep : Int} {l : List En}
theorem Pr.vg (h : Pr w0 w g pv wv sv k n ep l) : sv.ownBlock ≠ some g := h.buf.ne_of_type h.blk (by decide)
theorem Pr.keysNow (h : Pr w0 w g pv wv sv k n ep l) : KyIn w pv wv k := h.keys.old h.kept
theorem Pr.laidNow (h : Pr w0 w g pv wv sv k n ep l) : Laid w := h.laid.old h.kept
/-- It stands where what it owns stays. -/
theorem Pr.next {S : Nat → Prop} (h : Pr w0 w g pv wv sv k n ep l) (kk : Kept S w w') (h1 : ¬ S g) (h2 : ∀ i, sv.ownBlock = some i → ¬ S i) (hlo : ∀ i, i < w.heap.size → S i → w0.heap.size ≤ i) : Pr w0 w' g pv wv sv k n ep l :=
  ⟨(kk.block g (row_lt h.blk) h1).trans h.blk, h.buf.kept kk h2, h.keys, h.laid,
   ⟨kk.os.trans h.kept.os, kk.tape.trans h.kept.tape, kk.output.trans h.kept.output, Nat.le_trans h.kept.size kk.size, fun i hi hn => (kk.block i (Nat.lt_of_lt_of_le hi h.kept.size) (fun hS => hn (hlo i (Nat.lt_of_lt_of_le hi h.kept.size) hS))).trans (h.kept.block i hi hn)⟩, h.lo⟩
theorem Pr.same (h : Pr w0 w g pv wv sv k n ep l) (kk : Kept (fun _ => False) w w') : Pr w0 w' g pv wv sv k n ep l := h.next kk (fun e => e) (fun _ _ e => e) (fun _ _ e => e.elim)
end
/-- What Has says. -/
def hasI : Option Bool → Int
  | none => 0
  | some false => 1
  | some true => 2
theorem had_take {l : List En} {j : Nat} (hj : j < l.length) {key : Int × Int × Bool} (h0 : hadE (l.take j) key = none) : (l[j].key = key → hadE l key = some l[j].good) ∧ (l[j].key ≠ key → hadE (l.take (j + 1)) key = none) := by
  have e1 : l = l.take j ++ (l[j] :: l.drop (j + 1)) := by simp
  unfold hadE at h0 ⊢
  rw [Option.map_eq_none_iff] at h0
  constructor
  · intro hk
    have : l.find? (fun e => e.key == key) = some l[j] := by
      have e2 := congrArg (List.find? fun e => e.key == key) e1
      rw [e2, List.find?_append, h0]
      simp only [Option.none_or, List.find?_cons, hk, beq_self_eq_true]
    rw [this]; rfl
  · intro hk
    rw [List.take_succ_eq_append_getElem hj, List.find?_append, h0]
    simp [hk]
theorem row4 {w : World} {b : Nat} {e : En} (h : w.heap[b]? = some (.cells (enC e).toArray 76 (0, 0))) : w.cell? ⟨b, 0, none⟩ = some (.int .i64 e.saga) ∧ w.cell? ⟨b, 1, none⟩ = some (.int .i64 e.step) ∧ w.cell? ⟨b, 2, none⟩ = some (.bool e.back) ∧ w.cell? ⟨b, 3, none⟩ = some (.bool e.good) :=
  ⟨row_cell (k := 0) h rfl, row_cell (k := 1) h rfl, row_cell (k := 2) h rfl, row_cell (k := 3) h rfl⟩
set_option maxHeartbeats 8000000 in
theorem f_rhas (w0 : World) (g : Nat) (pv wv sv : Value) (k : Ky) (n ep : Int) (l : List En) (s t : Int) (b : Bool) (w : World) (h : Pr w0 w g pv wv sv k n ep l) (hl : l.length ≤ 1000) :
    Calls Tryd.prog 102 #[.pointer (some ⟨g, 0, none⟩), .int .i64 s, .int .i64 t, .bool b] w (RPost (.int .i64 (hasI (hadE l (s, t, b)))) w) := by
  have HB := Lib.hid h.buf
  have HG := Lib.hid h.blk
  have HL := Lib.hid hl
  obtain ⟨a, cap, rfl, _⟩ := h.buf.form
  clear h hl
  go_enter Tryd.func102, Tryd.ntmps102
  go_wp2_with fail
  go_loopg [9] l.length (fun gk s9 wr => ∃ j : Nat, j ≤ l.length ∧ gk = l.length - j ∧ s9 = .int .i64 j ∧ Hid (hadE (l.take j) (s, t, b) = none) ∧ Hid (Kept (fun _ => False) w wr))
  case atStart => exact ⟨0, Nat.zero_le _, rfl, rfl, rfl, Kept.refl _ _⟩
  case round =>
    obtain ⟨j, hj, hgk, rfl, HN, HK⟩ := hrel
    have HGK := Lib.hid hgk
    have hl1000 := HL.out
    have c5 := row_cell (k := 5) (HK.out.row HG.out) (v := .slice a l.length cap) rfl
    clear hgk
    by_cases hlt : j < l.length
    · obtain ⟨gb, _, _, ea, _, _, _, _, _⟩ := HB.out.pos (by omega)
      simp only [Value.slice.injEq] at ea
      obtain ⟨rfl, _, rfl⟩ := ea
      have hc := fun (jj : Nat) (v : Value) (hv : (enC l[j])[jj]? = some v) => (HB.out.kept HK.out (fun _ _ e => e)) |> fun hb => en_cell hb rfl hlt hv
      have hHT := had_take hlt HN.out
      generalize he : l[j] = e at hc hHT
      have d0 : wr.cell? ⟨gb, j * 4, none⟩ = some (.int .i64 e.saga) := hc 0 (.int .i64 e.saga) rfl
      have d1 := hc 1 (.int .i64 e.step) rfl
      have d2 := hc 2 (.bool e.back) rfl
      have d3 := hc 3 (.bool e.good) rfl
      have HT := Lib.hid hHT
      clear hc hHT he
      have HTE := Lib.hid (show En.key e = (e.saga, e.step, e.back) from rfl)
      cases h1 : (e.saga == s) with
      | false =>
        go_wp2_with fail
        have hgk := HGK.out
        go_roundg (l.length - (j + 1))
        case measure => omega
        case rel => exact ⟨j + 1, by omega, rfl, by go_num, HT.out.2 (by rw [HTE.out]; simp_all), HK.out.alloc _⟩
      | true =>
        cases h2 : (e.step == t) with
        | false =>
          go_wp2_with fail
          have hgk := HGK.out
          go_roundg (l.length - (j + 1))
          case measure => omega
          case rel => exact ⟨j + 1, by omega, rfl, by go_num, HT.out.2 (by rw [HTE.out]; simp_all), HK.out.alloc _⟩
        | true =>
          cases h3 : (e.back == b) with
          | false =>
            go_wp2_with fail
            have hgk := HGK.out
            go_roundg (l.length - (j + 1))
            case measure => omega
            case rel => exact ⟨j + 1, by omega, rfl, by go_num, HT.out.2 (by rw [HTE.out]; simp_all), HK.out.alloc _⟩
          | true =>
            have hx := Lib.hid (HT.out.1 (by rw [HTE.out]; simp_all))
            cases h4 : e.good with
            | false =>
              rw [h4] at d3
              go_wp2_with fail
              go_ret
              exact RPost.mk (by rw [hx.out, h4]; rfl) (HK.out.alloc _)
            | true =>
              rw [h4] at d3
              go_wp2_with fail
              go_ret
              exact RPost.mk (by rw [hx.out, h4]; rfl) (HK.out.alloc _)
    · obtain rfl : j = l.length := by omega
      have hn : hadE l (s, t, b) = none := by have := HN.out; rwa [List.take_length] at this
      have HNN := Lib.hid hn
      clear hn
      go_wp2_with fail
      go_ret
      exact RPost.mk (by rw [HNN.out]; rfl) HK.out
theorem clC_set6 (c : Cl) (b : Bool) : (clC c).setIfInBounds 6 (.bool b) = clC { c with answer := b } := by simp [clC]
theorem clC_set7 (c : Cl) (b : Bool) : (clC c).setIfInBounds 7 (.bool b) = clC { c with good := b } := by simp [clC]
theorem clC_set8 (c : Cl) (b : Int) : (clC c).setIfInBounds 8 (.int .i64 b) = clC { c with epoch := b } := by simp [clC]
set_option maxHeartbeats 4000000 in
theorem f_rc2 (c : Cl) (w : World) (hc : c.tag.length = 32) : Calls Tryd.prog 72 #[.agg (clC c)] w (RPost (.agg (clC { c with answer := false })) w) := by
  have k1 := ((Kept.refl (fun _ => False) w).alloc (.cells (clC c) 59)).alloc (.cells Z59 59)
  have GC := Lib.hid (heap_alloc2_old w (.cells (clC c) 59) (.cells Z59 59))
  have GZ := Lib.hid (heap_alloc2_new w (.cells (clC c) 59) (.cells Z59 59))
  have K1 := Lib.hid k1
  have HC := Lib.hid hc
  have f6 := free_of_block (j := 6) GC.out
  have c6 := row_cell (k := 6) GC.out (v := .bool c.answer) (by simp [clC])
  clear k1 hc
  go_enter Tryd.func72, Tryd.ntmps72
  go_upto_region 1 with (first | fail | (with_reducible refine alloc59 ?_))
  generalize (w.alloc (.cells (clC c) 59)).alloc (.cells Z59 59) = w1 at *
  go_upto_region 2 with (fail)
  have g2 := setCell_block (k := 6) GC.out (.bool false)
  rw [clC_set6] at g2
  have GC2 := Lib.hid g2
  have GZ2 := Lib.hid ((setCell_heap_other w1 ⟨w.heap.size, 6, none⟩ (.bool false) (w.heap.size + 1) (by simp)).trans GZ.out)
  have K2 := Lib.hid (K1.out.setCell (p := ⟨w.heap.size, 6, none⟩) (.inr (Nat.le_refl _)) (.bool false))
  have HZ := Lib.hid (clC_size (c := { c with answer := false }) HC.out)
  have HO := Lib.hid (clC_one { c with answer := false })
  clear g2 f6 c6 GC GZ K1
  generalize w1.setCell ⟨w.heap.size, 6, none⟩ (.bool false) = w2 at *
  generalize clC { c with answer := false } = C2 at *
  go_wp2_with (first | fail | ((with_reducible refine load59 (C := C2) (g := w.heap.size) (o := 0) ?_ (range_row GC2.out) HZ.out ?_); rfl) | ((with_reducible refine store59 (C := C2) ?_ ?_ GZ2.out Z59_size HZ.out HO.out ?_); rfl; rfl))
  exact bodyPost_ret (results_59s rfl _ _ _ (setRow_heap _ _ _ _ _ _ GZ2.out) HZ.out rfl) rfl (RPost.mk rfl (K2.out.setRow (by omega) _))
/-- Is a call its, by the reference's tests? -/
def rIts (n : Int) (c : Cl) : Bool := !c.answer && ((c.part == n) && (decide (0 ≤ c.saga) && (decide (c.saga < 12) && (decide (0 ≤ c.step) && (decide (c.step < 6) && (decide (1 ≤ c.kind) && (decide (c.kind ≤ 3) && (decide (1 ≤ c.try_) && decide (c.try_ ≤ 9)))))))))
theorem rIts_eq (n : Int) (c : Cl) : pIts n c = rIts n c := by
  have e1 : decide (c.saga ≤ 11) = decide (c.saga < 12) := decide_eq_decide.2 (by omega)
  have e2 : decide (c.step ≤ 5) = decide (c.step < 6) := decide_eq_decide.2 (by omega)
  unfold pIts rIts wi
  rw [e1, e2]
  simp only [Bool.and_assoc]
set_option maxHeartbeats 4000000 in
theorem f_rits (w0 : World) (g : Nat) (pv wv sv : Value) (k : Ky) (n ep : Int) (l : List En) (c : Cl) (w : World) (h : Pr w0 w g pv wv sv k n ep l) :
    Calls Tryd.prog 70 #[.pointer (some ⟨g, 0, none⟩), .agg (clC c)] w (RPost (.bool (pIts n c)) w) := by
  have k1 := (Kept.refl (fun _ => False) w).alloc (.cells (clC c) 59)
  have gc := heap_alloc_new w (.cells (clC c) 59)
  have cN := row_cell (k := 3) (k1.row h.blk) (v := .int .i64 n) rfl
  have c0 := row_cell (k := 0) gc (v := .int .i64 c.saga) (by simp [clC])
  have c1 := row_cell (k := 1) gc (v := .int .i64 c.step) (by simp [clC])
  have c2 := row_cell (k := 2) gc (v := .int .i64 c.try_) (by simp [clC])
  have c4 := row_cell (k := 4) gc (v := .int .i64 c.part) (by simp [clC])
  have c5 := row_cell (k := 5) gc (v := .int .i64 c.kind) (by simp [clC])
  have c6 := row_cell (k := 6) gc (v := .bool c.answer) (by simp [clC])
  have K1 := Lib.hid k1
  clear h k1 gc
  rw [rIts_eq]
  go_enter Tryd.func70, Tryd.ntmps70
  go_upto_region 1 with (fail)
  generalize w.alloc (.cells (clC c) 59) = w1 at *
  unfold rIts
  cases hA : c.answer with
  | true =>
    rw [hA] at c6
    go_quiet (fail)
    go_wp2_with fail
    go_ret
    exact RPost.mk (congrArg Value.bool (show false = rIts n c by unfold rIts; simp only [hA, Bool.not_true, Bool.not_false, Bool.false_and, Bool.true_and])) (K1.out.drewN _)
  | false =>
    rw [hA] at c6
    cases d0 : (c.part == n) with
    | false =>
      go_quiet (fail)
      go_wp2_with fail
      go_ret
      exact RPost.mk (congrArg Value.bool (show false = rIts n c by unfold rIts; simp only [hA, d0, Bool.not_true, Bool.not_false, Bool.false_and, Bool.true_and])) (K1.out.drewN _)
    | true =>
      cases d1 : decide (0 ≤ c.saga) with
      | false =>
        go_quiet (fail)
        go_wp2_with fail
        go_ret
        exact RPost.mk (congrArg Value.bool (show false = rIts n c by unfold rIts; simp only [hA, d0, d1, Bool.not_true, Bool.not_false, Bool.false_and, Bool.true_and])) (K1.out.drewN _)
      | true =>
        cases d2 : decide (c.saga < 12) with
        | false =>
          go_quiet (fail)
          go_wp2_with fail
          go_ret
          exact RPost.mk (congrArg Value.bool (show false = rIts n c by unfold rIts; simp only [hA, d0, d1, d2, Bool.not_true, Bool.not_false, Bool.false_and, Bool.true_and])) (K1.out.drewN _)
        | true =>
          cases d3 : decide (0 ≤ c.step) with
          | false =>
            go_quiet (fail)
            go_wp2_with fail
            go_ret
            exact RPost.mk (congrArg Value.bool (show false = rIts n c by unfold rIts; simp only [hA, d0, d1, d2, d3, Bool.not_true, Bool.not_false, Bool.false_and, Bool.true_and])) (K1.out.drewN _)
          | true =>
            cases d4 : decide (c.step < 6) with
            | false =>
              go_quiet (fail)
              go_wp2_with fail
              go_ret
              exact RPost.mk (congrArg Value.bool (show false = rIts n c by unfold rIts; simp only [hA, d0, d1, d2, d3, d4, Bool.not_true, Bool.not_false, Bool.false_and, Bool.true_and])) (K1.out.drewN _)
            | true =>
              cases d5 : decide (1 ≤ c.kind) with
              | false =>
                go_quiet (fail)
                go_wp2_with fail
                go_ret
                exact RPost.mk (congrArg Value.bool (show false = rIts n c by unfold rIts; simp only [hA, d0, d1, d2, d3, d4, d5, Bool.not_true, Bool.not_false, Bool.false_and, Bool.true_and])) (K1.out.drewN _)
              | true =>
                cases d6 : decide (c.kind ≤ 3) with
                | false =>
                  go_quiet (fail)
                  go_wp2_with fail
                  go_ret
                  exact RPost.mk (congrArg Value.bool (show false = rIts n c by unfold rIts; simp only [hA, d0, d1, d2, d3, d4, d5, d6, Bool.not_true, Bool.not_false, Bool.false_and, Bool.true_and])) (K1.out.drewN _)
                | true =>
                  cases d7 : decide (1 ≤ c.try_) with
                  | false =>
                    go_quiet (fail)
                    go_wp2_with fail
                    go_ret
                    exact RPost.mk (congrArg Value.bool (show false = rIts n c by unfold rIts; simp only [hA, d0, d1, d2, d3, d4, d5, d6, d7, Bool.not_true, Bool.not_false, Bool.false_and, Bool.true_and])) (K1.out.drewN _)
                  | true =>
                    cases d8 : decide (c.try_ ≤ 9) with
                    | false =>
                      go_quiet (fail)
                      go_wp2_with fail
                      go_ret
                      exact RPost.mk (congrArg Value.bool (show false = rIts n c by unfold rIts; simp only [hA, d0, d1, d2, d3, d4, d5, d6, d7, d8, Bool.not_true, Bool.not_false, Bool.false_and, Bool.true_and])) (K1.out.drewN _)
                    | true =>
                      go_quiet (fail)
                      go_wp2_with fail
                      go_ret
                      exact RPost.mk (congrArg Value.bool (show true = rIts n c by unfold rIts; simp only [hA, d0, d1, d2, d3, d4, d5, d6, d7, d8, Bool.not_true, Bool.not_false, Bool.false_and, Bool.true_and])) (K1.out.drewN _)
theorem Kept.keepC {w w' : World} (k : Kept (fun _ => False) w w') {p : Addr} {v : Value} (h : w.cell? p = some v) : w'.cell? p = some v := (k.cell (World.block_lt_of_cell? w _ h) (fun e => e)).trans h
theorem Kept.oldC {w w' : World} (k : Kept (fun i => w.heap.size ≤ i) w w') {p : Addr} {v : Value} (h : w.cell? p = some v) : w'.cell? p = some v := (k.cell (World.block_lt_of_cell? w _ h) (Nat.not_le.2 (World.block_lt_of_cell? w _ h))).trans h
theorem Kept.oldR {w w' : World} (k : Kept (fun i => w.heap.size ≤ i) w w') {b o : Nat} {cs : List Value} (h : w.rangeAt b o cs) : w'.rangeAt b o cs := fun j v hv => k.oldC (h j v hv)
section
variable {ops : Array Oper} {rest : List Oper} {dst : Option Tmp} {ty : TypeId} {pos : String} {aft : Array Edge} {a : Act} {w : World} {Q : Exit → Act → World → Prop}
/-- Two entries compared. -/
theorem equal76 (w : World) (e : En) : (Op.equalIn 10000 76 (.agg #[.int .i64 e.saga, .int .i64 e.step, .bool e.back, .bool e.good]) (.agg #[.int .i64 e.saga, .int .i64 e.step, .bool e.back, .bool e.good])).run Tryd.prog w = .ok true w := by
  have u3 := Tryd.underlying3
  have u4 := Tryd.underlying4
  have hS : Tryd.prog.underlying 76 = some (.struct (Tryd.prog.fieldsOf 76)) := by kernel_rfl
  have hp : Tryd.prog.stoodInHeld 76 = false := by kernel_rfl
  rw [show (10000 : Nat) = 9999 + 1 from rfl, run_equalIn_agg w 9999 76 _ _ hS hp]
  simp only [Program.fieldsOf, Tryd.underlying76]
  go_simp
end
theorem yieldsNe76 {ops : Array Oper} {S : World → Prop} {dst : Option Tmp} {ty rt : TypeId} {pos : String} {aft : Array Edge} {gd : Option (Nat × Bool)} {a : Act} {x y : Operand} (e : En) (hw : Region.wanted ⟨dst, .binOp .neq 76 x y rt, ty, pos, aft, gd⟩ (yielded ops a.tmps) = true) (hx : a.eval x = .agg #[.int .i64 e.saga, .int .i64 e.step, .bool e.back, .bool e.good]) (hy : a.eval y = .agg #[.int .i64 e.saga, .int .i64 e.step, .bool e.back, .bool e.good]) :
    YieldsIf Tryd.prog ops S ⟨dst, .binOp .neq 76 x y rt, ty, pos, aft, gd⟩ (.bool false) a := by
  refine .inl ⟨hw, fun w hS => ?_⟩
  have hg := run_eqGuard_agg (P := Tryd.prog) w .neq 76 x y #[.int .i64 e.saga, .int .i64 e.step, .bool e.back, .bool e.good] #[.int .i64 e.saga, .int .i64 e.step, .bool e.back, .bool e.good] (by kernel_rfl)
  have hq : (binOp .neq 76 (.agg #[.int .i64 e.saga, .int .i64 e.step, .bool e.back, .bool e.good]) (.agg #[.int .i64 e.saga, .int .i64 e.step, .bool e.back, .bool e.good])).run Tryd.prog w = .ok (.bool false) w := by rw [run_neq_struct, equal76]; rfl
  unfold execOp
  simp only [hx, hy, Sem.run_bind, hg, hq, Result.andThen_ok, Sem.run_pure]
set_option maxHeartbeats 8000000 in
theorem f_rents (va vb : Value) (ba bb : Nat) (l : List En) (w : World) (ha : Buf w ba 76 4 va l.length (ensC l)) (hb : Buf w bb 76 4 vb l.length (ensC l)) (hl : l.length ≤ 1000) :
    Calls Tryd.prog 41 #[va, vb] w (RPost (.bool true) w) := by
  obtain ⟨aa, ca, rfl, _⟩ := ha.form
  obtain ⟨ab, cb, rfl, _⟩ := hb.form
  have HA := Lib.hid ha
  have HB := Lib.hid hb
  have HL := Lib.hid hl
  clear ha hb hl
  go_enter Tryd.func41, Tryd.ntmps41
  go_wp2_with fail
  go_loopg [5] l.length (fun gk s5 wr => ∃ j : Nat, j ≤ l.length ∧ gk = l.length - j ∧ s5 = .int .i64 j ∧ Hid (Kept (fun _ => False) w wr))
  case atStart => exact ⟨0, Nat.zero_le _, rfl, rfl, Kept.refl _ _⟩
  case round =>
    obtain ⟨j, hj, hgk, rfl, HK⟩ := hrel
    have HGK := Lib.hid hgk
    have hl1000 := HL.out
    clear hgk
    by_cases hlt : j < l.length
    · obtain ⟨ga, _, _, ea, _, _, _, _, _⟩ := HA.out.pos (by omega)
      simp only [Value.slice.injEq] at ea
      obtain ⟨rfl, _, rfl⟩ := ea
      obtain ⟨gb, _, _, eb, _, _, _, _, _⟩ := HB.out.pos (by omega)
      simp only [Value.slice.injEq] at eb
      obtain ⟨rfl, _, rfl⟩ := eb
      have hca := fun (jj : Nat) (v : Value) (hv : (enC l[j])[jj]? = some v) => en_cell (HA.out.kept HK.out (fun _ _ e => e)) rfl hlt hv
      have hcb := fun (jj : Nat) (v : Value) (hv : (enC l[j])[jj]? = some v) => en_cell (HB.out.kept HK.out (fun _ _ e => e)) rfl hlt hv
      generalize l[j] = e at hca hcb
      have W0 : Hid (wr.cell? ⟨ga, j * 4, none⟩ = some (.int .i64 e.saga)) := hca 0 (.int .i64 e.saga) rfl
      have W1 := Lib.hid (hca 1 (.int .i64 e.step) rfl)
      have W2 := Lib.hid (hca 2 (.bool e.back) rfl)
      have W3 := Lib.hid (hca 3 (.bool e.good) rfl)
      have N0 : Hid (wr.cell? ⟨gb, j * 4, none⟩ = some (.int .i64 e.saga)) := hcb 0 (.int .i64 e.saga) rfl
      have N1 := Lib.hid (hcb 1 (.int .i64 e.step) rfl)
      have N2 := Lib.hid (hcb 2 (.bool e.back) rfl)
      have N3 := Lib.hid (hcb 3 (.bool e.good) rfl)
      clear hca hcb
      go_upto_region 6 with (fail)
      have hrd := (Kept.refl (fun _ => False) wr).drew
      have HRD := Lib.hid hrd
      clear hrd
      refine wp_region_held_drew (S := fun w' => Kept (fun _ => False) wr.drew w') (by kernel_rfl) (Kept.refl _ _) (fun hHeld => ?_)
      have hSy : Kept (fun _ => False) wr.drew wr.drew := Kept.refl _ _
      refine wpAnyH_take (i := 0) (oi := ⟨some 17, _, _, _, _, _⟩) (v := .slice (some ⟨ga, 0, none⟩) l.length ca) rfl (by kernel_rfl) (by kernel_rfl) (by kernel_rfl) (fun _ _ _ h => h) (Or.inl ⟨by kernel_rfl, fun w' hS => by go_simp⟩) (by assumption) ?_
      try simp only [Act.put, List.setIfInBounds_toArray, List.set_cons_succ, List.set_cons_zero]
      refine wpAnyH_take (i := 1) (oi := ⟨some 18, _, _, _, _, _⟩) (v := .int .i64 j) rfl (by kernel_rfl) (by kernel_rfl) (by kernel_rfl) (fun _ _ _ h => h) (Or.inl ⟨by kernel_rfl, fun w' hS => by go_simp⟩) (by assumption) ?_
      try simp only [Act.put, List.setIfInBounds_toArray, List.set_cons_succ, List.set_cons_zero]
      refine wpAnyH_take (i := 2) (oi := ⟨some 19, _, _, _, _, _⟩) (v := .pointer (some ⟨ga, j * 4, none⟩)) rfl (by kernel_rfl) (by kernel_rfl) (by kernel_rfl) (fun _ _ _ h => h) (Or.inl ⟨by kernel_rfl, fun w' hS => by go_simp⟩) (by assumption) ?_
      try simp only [Act.put, List.setIfInBounds_toArray, List.set_cons_succ, List.set_cons_zero]
      refine wpAnyH_take (i := 3) (oi := ⟨some 20, _, _, _, _, _⟩) (v := .agg #[.int .i64 e.saga, .int .i64 e.step, .bool e.back, .bool e.good]) rfl (by kernel_rfl) (by kernel_rfl) (by kernel_rfl) (fun _ _ _ h => h) (Or.inl ⟨by kernel_rfl, fun w' hS => by have c0 := hS.keepC (HRD.out.keepC W0.out); have c1 := hS.keepC (HRD.out.keepC W1.out); have c2 := hS.keepC (HRD.out.keepC W2.out); have c3 := hS.keepC (HRD.out.keepC W3.out); go_simp⟩) (by assumption) ?_
      try simp only [Act.put, List.setIfInBounds_toArray, List.set_cons_succ, List.set_cons_zero]
      refine wpAnyH_take (i := 4) (oi := ⟨some 21, _, _, _, _, _⟩) (v := .slice (some ⟨gb, 0, none⟩) l.length cb) rfl (by kernel_rfl) (by kernel_rfl) (by kernel_rfl) (fun _ _ _ h => h) (Or.inl ⟨by kernel_rfl, fun w' hS => by go_simp⟩) (by assumption) ?_
      try simp only [Act.put, List.setIfInBounds_toArray, List.set_cons_succ, List.set_cons_zero]
      refine wpAnyH_take (i := 5) (oi := ⟨some 22, _, _, _, _, _⟩) (v := .int .i64 j) rfl (by kernel_rfl) (by kernel_rfl) (by kernel_rfl) (fun _ _ _ h => h) (Or.inl ⟨by kernel_rfl, fun w' hS => by go_simp⟩) (by assumption) ?_
      try simp only [Act.put, List.setIfInBounds_toArray, List.set_cons_succ, List.set_cons_zero]
      refine wpAnyH_take (i := 6) (oi := ⟨some 23, _, _, _, _, _⟩) (v := .pointer (some ⟨gb, j * 4, none⟩)) rfl (by kernel_rfl) (by kernel_rfl) (by kernel_rfl) (fun _ _ _ h => h) (Or.inl ⟨by kernel_rfl, fun w' hS => by go_simp⟩) (by assumption) ?_
      try simp only [Act.put, List.setIfInBounds_toArray, List.set_cons_succ, List.set_cons_zero]
      refine wpAnyH_take (i := 7) (oi := ⟨some 24, _, _, _, _, _⟩) (v := .agg #[.int .i64 e.saga, .int .i64 e.step, .bool e.back, .bool e.good]) rfl (by kernel_rfl) (by kernel_rfl) (by kernel_rfl) (fun _ _ _ h => h) (Or.inl ⟨by kernel_rfl, fun w' hS => by have c0 := hS.keepC (HRD.out.keepC N0.out); have c1 := hS.keepC (HRD.out.keepC N1.out); have c2 := hS.keepC (HRD.out.keepC N2.out); have c3 := hS.keepC (HRD.out.keepC N3.out); go_simp⟩) (by assumption) ?_
      try simp only [Act.put, List.setIfInBounds_toArray, List.set_cons_succ, List.set_cons_zero]
      refine wpAnyH_take (i := 8) (oi := ⟨some 25, _, _, _, _, _⟩) (v := .bool false) rfl (by kernel_rfl) (by kernel_rfl) (by kernel_rfl) (fun _ _ _ h => h) (yieldsNe76 e (by kernel_rfl) rfl rfl) (by assumption) ?_
      try simp only [Act.put, List.setIfInBounds_toArray, List.set_cons_succ, List.set_cons_zero]
      refine wpAnyH_done (by kernel_rfl) ?_ _
      have KY := Lib.hid (HK.out.trans HRD.out)
      clear hHeld hSy
      go_wp2_with fail
      have hgk := HGK.out
      go_roundg (l.length - (j + 1))
      case measure => omega
      case rel => exact ⟨j + 1, by omega, rfl, by go_num, KY.out⟩
    · obtain rfl : j = l.length := by omega
      go_wp2_with fail
      go_ret
      exact RPost.mk rfl HK.out
end Go.Proofs.YtklmhegmombegaaDoor
