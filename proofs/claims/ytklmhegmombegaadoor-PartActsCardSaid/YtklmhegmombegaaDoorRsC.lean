/-
  The contract of the reference's Turn. Conditions: as the theorem says.
-/
import Derived.Test.YtklmhegmombegaaDoorRsB
set_option linter.unusedVariables false
set_option linter.unusedSimpArgs false
set_option maxRecDepth 100000
namespace Go.Proofs.YtklmhegmombegaaDoor
open Go Go.RowKit Plain
def Z184 : Array Value := ints .u64 (List.replicate 64 0)
def Z186 : Array Value := ints .u64 (List.replicate 8 0)
theorem Z184_size : Z184.size = 64 := by rw [Z184, ints_size]; rfl
theorem Z186_size : Z186.size = 8 := by rw [Z186, ints_size]; rfl
theorem Tryd.isz140 : (Tryd.prog.info? 140).map (·.size) = some 1 := by kernel_rfl
section
variable {ops : Array Oper} {rest : List Oper} {dst : Option Tmp} {ty : TypeId} {pos : String} {aft : Array Edge} {gd : Option (Nat × Bool)} {a : Act} {w : World} {Q : Exit → Act → World → Prop} {K : Act → World → Prop} {E : Prop} {S : World → Prop} {x y : Operand} {g o : Nat} {C cur : Array Value}

/-! ## Type 186: 8 cells -/
theorem Tryd.isz186 : (Tryd.prog.info? 186).map (·.size) = some 8 := by kernel_rfl
theorem load186 (hx : a.eval x = .pointer (some ⟨g, o, none⟩)) (hc : w.rangeAt g o C.toList) (hC : C.size = 8)
    (h : wpList Tryd.prog ops Q rest (a.put dst (.agg C)) w) : wpList Tryd.prog ops Q (⟨dst, .load 186 x, ty, pos, aft, none⟩ :: rest) a w := by
  have := wpList_load_mid (P := Tryd.prog) (ops := ops) (rest := rest) (op := ⟨dst, .load 186 x, ty, pos, aft, none⟩) (a := a) (w := w) (Q := Q) rfl 186 x rfl g o hx C.toList _ hc Tryd.underlying186 rfl (by rw [Tryd.isz186]; simp [hC])
  simp only [Array.toArray_toList] at this
  exact this h
theorem load186g (hw : Region.wanted ⟨dst, .load 186 x, ty, pos, aft, gd⟩ (yielded ops a.tmps) = true) (hx : a.eval x = .pointer (some ⟨g, o, none⟩)) (hc : w.rangeAt g o C.toList) (hC : C.size = 8)
    (h : wpList Tryd.prog ops Q rest (a.put dst (.agg C)) w) : wpList Tryd.prog ops Q (⟨dst, .load 186 x, ty, pos, aft, gd⟩ :: rest) a w := wpList_on hw (load186 hx hc hC h)
theorem store186 {old : Array Value} {t' : TypeId} (hx : a.eval x = .pointer (some ⟨g, 0, none⟩)) (hy : a.eval y = .agg C) (hg : w.heap[g]? = some (.cells old t' (0, 0))) (ho : old.size = 8) (hC : C.size = 8) (h1 : C.all (·.oneCell') = true)
    (h : wpList Tryd.prog ops Q rest (a.put dst undef) (w.setRow g C)) : wpList Tryd.prog ops Q (⟨dst, .store 186 x y, ty, pos, aft, none⟩ :: rest) a w :=
  wpList_store_row (P := Tryd.prog) (o := ⟨dst, .store 186 x y, ty, pos, aft, none⟩) rfl 186 x y rfl g C hx hy t' old hg (by rw [Tryd.isz186, hC]) (by rw [ho, hC]) h1 h
theorem put186 {t' : TypeId} (hx : a.eval x = .pointer (some ⟨g, o, none⟩)) (hy : a.eval y = .agg C) (hC : C.size = 8) (h1 : C.all (·.oneCell') = true) (hg : w.heap[g]? = some (.cells cur t' (0, 0))) (ho : o + 8 ≤ cur.size)
    (h : ∀ w', w'.heap[g]? = some (.cells (puts cur o C.toList) t' (0, 0)) → Kept (fun i => i = g) w w' → wpList Tryd.prog ops Q rest (a.put dst undef) w') :
    wpList Tryd.prog ops Q (⟨dst, .store 186 x y, ty, pos, aft, none⟩ :: rest) a w := by
  refine wpList_store_mid (P := Tryd.prog) rfl 186 x y rfl g o _ hx hy (fun j hj => ?_) (by rw [Tryd.isz186, hC]) h1 ?_
  · refine ⟨?_, free_of_block hg⟩
    rw [cell_of_block hg (by omega)]; rfl
  · exact h _ (setCells_block _ _ _ _ hg) (setCells_kept _ _ _)
theorem yields186 (hw : Region.wanted ⟨dst, .load 186 x, ty, pos, aft, gd⟩ (yielded ops a.tmps) = true) (hx : a.eval x = .pointer (some ⟨g, o, none⟩)) (hg : ∀ w, S w → w.rangeAt g o C.toList) (hC : C.size = 8) :
    YieldsIf Tryd.prog ops S ⟨dst, .load 186 x, ty, pos, aft, gd⟩ (.agg C) a := by
  refine .inl ⟨hw, fun w hS => ?_⟩
  have hl := run_loadAt_mid (P := Tryd.prog) w g o 186 C.toList _ (hg w hS) Tryd.underlying186 rfl (by rw [Tryd.isz186]; simp [hC])
  rw [Array.toArray_toList] at hl
  unfold execOp
  simp only [hx, Sem.run_bind, hl, Result.andThen_ok, Sem.run_pure]
theorem step_store186 {t' : TypeId} (hw : Region.wanted ⟨dst, .store 186 x y, ty, pos, aft, gd⟩ (yielded ops a.tmps) = true) (hx : a.eval x = .pointer (some ⟨g, o, none⟩)) (hy : a.eval y = .agg C) (hC : C.size = 8) (h1 : C.all (·.oneCell') = true) (hg : w.heap[g]? = some (.cells cur t' (0, 0))) (ho : o + 8 ≤ cur.size)
    (h : ∀ w', w'.heap[g]? = some (.cells (puts cur o C.toList) t' (0, 0)) → Kept (fun i => i = g) w w' → K (a.put dst undef) w') :
    if Region.wanted ⟨dst, .store 186 x y, ty, pos, aft, gd⟩ (yielded ops a.tmps) = true then Oper.wp Tryd.prog ⟨dst, .store 186 x y, ty, pos, aft, gd⟩ a w K Q else E := by
  rw [if_pos hw]
  refine wp_store_mid (P := Tryd.prog) 186 x y rfl g o _ hx hy (fun j hj => ?_) (by rw [Tryd.isz186, hC]) h1 ?_
  · refine ⟨?_, free_of_block hg⟩
    rw [cell_of_block hg (by omega)]; rfl
  · exact h _ (setCells_block _ _ _ _ hg) (setCells_kept _ _ _)
theorem alloc184 (h : wpList Tryd.prog ops Q rest (a.put dst (.pointer (some ⟨w.heap.size, 0, none⟩))) (w.alloc (.cells Z184 184))) : wpList Tryd.prog ops Q (⟨dst, .alloc 184, ty, pos, aft, none⟩ :: rest) a w := by
  refine wpList_plain rfl fun K hK => ?_
  go_simp
  exact hK _ _ h
theorem alloc186 (h : wpList Tryd.prog ops Q rest (a.put dst (.pointer (some ⟨w.heap.size, 0, none⟩))) (w.alloc (.cells Z186 186))) : wpList Tryd.prog ops Q (⟨dst, .alloc 186, ty, pos, aft, none⟩ :: rest) a w := by
  refine wpList_plain rfl fun K hK => ?_
  go_simp
  exact hK _ _ h
theorem build186 {x0 x1 x2 x3 x4 x5 x6 x7 : Operand} {l : List Nat} {s0 s1 s2 s3 s4 s5 s6 s7 : Nat} (hl : l = [s0, s1, s2, s3, s4, s5, s6, s7]) (h0 : a.eval x0 = .int .u64 (s0 : Int)) (h1 : a.eval x1 = .int .u64 (s1 : Int)) (h2 : a.eval x2 = .int .u64 (s2 : Int)) (h3 : a.eval x3 = .int .u64 (s3 : Int)) (h4 : a.eval x4 = .int .u64 (s4 : Int)) (h5 : a.eval x5 = .int .u64 (s5 : Int)) (h6 : a.eval x6 = .int .u64 (s6 : Int)) (h7 : a.eval x7 = .int .u64 (s7 : Int))
    (h : wpList Tryd.prog ops Q rest (a.put dst (.agg (ints .u64 l))) w) : wpList Tryd.prog ops Q (⟨dst, .build 186 #[(0, x0), (1, x1), (2, x2), (3, x3), (4, x4), (5, x5), (6, x6), (7, x7)], ty, pos, aft, none⟩ :: rest) a w := by
  subst hl
  refine wpList_buildTo (P := Tryd.prog) rfl 186 _ rfl dst rfl _ ?_ h
  simp only [List.map_toArray, List.map_cons, List.map_nil, h0, h1, h2, h3, h4, h5, h6, h7]
  kernel_rfl
end
namespace Plain
def t8 (x : Nat) : Nat := x * 256
theorem or_disj {a b i : Nat} (h : b < 2 ^ i) : 2 ^ i * a ||| b = 2 ^ i * a + b := (Nat.two_pow_add_eq_or_of_lt h a).symm
theorem be_sum {z0 z1 z2 z3 : Nat} (h0 : z0 < 256) (h1 : z1 < 256) (h2 : z2 < 256) (h3 : z3 < 256) : p64 (t8 (p64 (t8 (p64 (t8 z0) z1)) z2)) z3 = o32 (o32 (o32 (l32 z0 24) (l32 z1 16)) (l32 z2 8)) z3 := by
  have e0 : l32 z0 24 = 2 ^ 24 * z0 := by unfold l32; omega
  have e1 : l32 z1 16 = 2 ^ 16 * z1 := by unfold l32; omega
  have e2 : l32 z2 8 = 2 ^ 8 * z2 := by unfold l32; omega
  rw [e0, e1, e2]
  unfold o32 p64 t8
  rw [or_disj (show 2 ^ 16 * z1 < 2 ^ 24 by omega)]
  rw [show 2 ^ 24 * z0 + 2 ^ 16 * z1 = 2 ^ 16 * (2 ^ 8 * z0 + z1) by omega, or_disj (show 2 ^ 8 * z2 < 2 ^ 16 by omega)]
  rw [show 2 ^ 16 * (2 ^ 8 * z0 + z1) + 2 ^ 8 * z2 = 2 ^ 8 * (2 ^ 8 * (2 ^ 8 * z0 + z1) + z2) by omega, or_disj (show z3 < 2 ^ 8 by omega)]
  omega
theorem p64_lt {a b n : Nat} (h : a + b < n) : p64 a b < n := h
/-- One of the later words. -/
theorem wd_sum (m1 w7 m2 w16 : Nat) : m32 (p64 (p64 (p64 m1 w7) m2) w16) = a32 (a32 (a32 m1 w7) m2) w16 := by unfold m32 p64 a32; omega
theorem one_sum (s7 tr ch k w : Nat) : m32 (p64 (p64 (p64 (p64 s7 tr) ch) k) w) = a32 (a32 (a32 (a32 s7 tr) ch) k) w := by unfold m32 p64 a32; omega
theorem two_sum (tr mj : Nat) : m32 (p64 tr mj) = a32 tr mj := rfl
end Plain
theorem j_mul8 {x : Nat} (h : x < 4294967296) : IntKind.u64.wrap ((x : Int) * 256) = ((t8 x : Nat) : Int) := by rw [IntKind.wrap_u64]; unfold t8; omega
theorem j_u64 {x : Nat} (h : x < 4294967296) : IntKind.u64.wrap (x : Int) = (x : Int) := by rw [IntKind.wrap_u64]; omega
theorem j_u32 {x : Nat} (h : x < 4294967296) : IntKind.u32.wrap (x : Int) = (x : Int) := by rw [IntKind.wrap_u32']; omega
theorem take_set {h : List Nat} {q : Nat} (hq : q < h.length) (h8 : q < 8) : (h.take q ++ List.replicate (8 - q) 0).set q (h.getD q 0) = h.take (q + 1) ++ List.replicate (8 - (q + 1)) 0 := by
  rw [List.set_append_right _ _ (by simp; omega)]
  obtain ⟨r, hr⟩ : ∃ r, 8 - q = r + 1 := ⟨7 - q, by omega⟩
  rw [hr, List.replicate_succ, show q - (h.take q).length = 0 by simp; omega, List.set_cons_zero, show 8 - (q + 1) = r by omega, List.take_add_one, List.getElem?_eq_getElem hq, List.getD_eq_getElem?_getD, List.getElem?_eq_getElem hq, List.append_assoc]
  rfl

set_option maxHeartbeats 8000000 in
theorem f_rturn (v : Value) (h b : List Nat) (w : World) (hL : Laid w) (hh : h.length = 8) (hA : All32 h) (hb : HBytes w v b) (hl : b.length = 64) : Calls Tryd.prog 123 #[.agg (ints .u32 h), v] w (RPost (.agg (ints .u32 (turn h b))) w) := by
  obtain ⟨gh, gr, gw⟩ := heap_alloc3 w (.cells (ints .u32 h) 173) (.cells Z173 173) (.cells Z184 184)
  have KA := Lib.hid ((((Kept.refl (fun _ => False) w).alloc (.cells (ints .u32 h) 173)).alloc (.cells Z173 173)).alloc (.cells Z184 184))
  obtain ⟨bb, oo, cc, rfl, hlt, hcell⟩ := hb.addr (by omega)
  have hb8 := hb.2.1
  rw [hl] at hcell ⊢
  have HC := Lib.hid hcell
  have HB := Lib.hid hb8
  have HLL := Lib.hid hL
  have HA := Lib.hid hA
  have HH := Lib.hid hh
  have hlz := hL.size
  have GH := Lib.hid gh
  have GR := Lib.hid gr
  have GW := Lib.hid gw
  clear hb hcell hb8 hL hA hh gh gr gw
  go_enter Tryd.func123, Tryd.ntmps123
  go_wp2_with (first | fail | (with_reducible refine alloc173 ?_) | (with_reducible refine alloc184 ?_))
  generalize ((w.alloc (.cells (ints .u32 h) 173)).alloc (.cells Z173 173)).alloc (.cells Z184 184) = w3 at *
  have hs3 : w.heap.size + 1 + 1 < w3.heap.size := row_lt GW.out
  go_loopw [6] (fun i wr => ∃ k : Nat, k ≤ 64 ∧ i = .int .i64 k ∧ Hid (wr.heap[w.heap.size + 1 + 1]? = some (.cells (ints .u64 (sch b k ++ List.replicate (64 - k) 0)) 184 (0, 0))) ∧ Kept (fun j => j = w.heap.size + 1 + 1) w3 wr) (fun i _ => 64 - (intOf i).toNat)
  case atStart => exact ⟨0, by omega, rfl, GW.out, Kept.refl _ _⟩
  case round =>
    obtain ⟨k, hk, rfl, HR, K⟩ := hrel
    have KR := Lib.hid K
    have kc := fun (i : Nat) (hi : i < 64) => (K.cell (p := ⟨bb, oo + i, none⟩) (by show bb < _; omega) (by show ¬ (bb = _); omega)).trans ((KA.out.cell (p := ⟨bb, oo + i, none⟩) hlt id).trans (HC.out i hi))
    by_cases hlt2 : k < 64
    · by_cases h16 : k < 16
      · have b0 := kc (4 * k) (by omega)
        have b1 := kc (4 * k + 1) (by omega)
        have b2 := kc (4 * k + 2) (by omega)
        have b3 := kc (4 * k + 3) (by omega)
        have l0 := HB.out.getD (4 * k)
        have l1 := HB.out.getD (4 * k + 1)
        have l2 := HB.out.getD (4 * k + 2)
        have l3 := HB.out.getD (4 * k + 3)
        have HW : Hid (wd b (sch b k) k = be4 b k) := if_pos h16
        have HBE : Hid (be4 b k = p64 (t8 (p64 (t8 (p64 (t8 (b.getD (4 * k) 0)) (b.getD (4 * k + 1) 0))) (b.getD (4 * k + 2) 0))) (b.getD (4 * k + 3) 0)) := (be_sum l0 l1 l2 l3).symm
        generalize b.getD (4 * k) 0 = z0 at *
        generalize b.getD (4 * k + 1) 0 = z1 at *
        generalize b.getD (4 * k + 2) 0 = z2 at *
        generalize b.getD (4 * k + 3) 0 = z3 at *
        have u0 := j_u64 (x := z0) (by omega)
        have u1 := j_u64 (x := z1) (by omega)
        have u2 := j_u64 (x := z2) (by omega)
        have u3 := j_u64 (x := z3) (by omega)
        have y0 : t8 z0 < 65536 := by unfold t8; omega
        have s0 := j_mul8 (x := z0) (by omega)
        have a0 := j_add (a := t8 z0) (b := z1) (by omega)
        have y1 : p64 (t8 z0) z1 < 65536 := by unfold p64 t8; omega
        have s1 := j_mul8 (x := p64 (t8 z0) z1) (by omega)
        have y2 : t8 (p64 (t8 z0) z1) < 16777216 := by unfold t8 at *; omega
        have a1 := j_add (a := t8 (p64 (t8 z0) z1)) (b := z2) (by omega)
        have y3 : p64 (t8 (p64 (t8 z0) z1)) z2 < 16777216 := by unfold p64 t8; omega
        have s2 := j_mul8 (x := p64 (t8 (p64 (t8 z0) z1)) z2) (by omega)
        have y4 : t8 (p64 (t8 (p64 (t8 z0) z1)) z2) < 4294967296 := by unfold t8 at *; omega
        have a2 := j_add (a := t8 (p64 (t8 (p64 (t8 z0) z1)) z2)) (b := z3) (by omega)
        have rc : wr.cell? ⟨w.heap.size + 1 + 1, k, none⟩ = some (.int .u64 (((sch b k ++ List.replicate (64 - k) 0).getD k 0 : Nat) : Int)) := ints_cell HR.out (by simp [sch_len]; omega)
        have rf := free_of_block (j := k) HR.out
        have w0 : IntKind.i64.wrap (4 * (k : Int)) = 4 * (k : Int) := IntWalk.i64_in _ (by omega)
        have w1 : IntKind.i64.wrap (4 * (k : Int) + 1) = 4 * (k : Int) + 1 := IntWalk.i64_in _ (by omega)
        have w2' : IntKind.i64.wrap (4 * (k : Int) + 2) = 4 * (k : Int) + 2 := IntWalk.i64_in _ (by omega)
        have w3' : IntKind.i64.wrap (4 * (k : Int) + 3) = 4 * (k : Int) + 3 := IntWalk.i64_in _ (by omega)
        have n0 : (4 * (k : Int)).toNat = 4 * k := by omega
        have n1 : (4 * (k : Int) + 1).toNat = 4 * k + 1 := by omega
        have n2 : (4 * (k : Int) + 2).toNat = 4 * k + 2 := by omega
        have n3 : (4 * (k : Int) + 3).toNat = 4 * k + 3 := by omega
        have p0 : 0 ≤ 4 * (k : Int) := by omega
        have p1 : 0 ≤ 4 * (k : Int) + 1 := by omega
        have p2 : 0 ≤ 4 * (k : Int) + 2 := by omega
        have p3 : 0 ≤ 4 * (k : Int) + 3 := by omega
        have m0 : 4 * (k : Int) < 64 := by omega
        have m1 : 4 * (k : Int) + 1 < 64 := by omega
        have m2 : 4 * (k : Int) + 2 < 64 := by omega
        have m3 : 4 * (k : Int) + 3 < 64 := by omega
        clear kc K
        go_upto_region 8 with (fail)
        clear y0 y1 y2 y3 y4
        go_still_tail 34, (by kernel_rfl)
        change wpList _ _ _ _ _ wr.drew
        clear w0 w1 w2' w3' n0 n1 n2 n3 p0 p1 p2 p3 m0 m1 m2 m3 s0 s1 s2 u0 u1 u2 u3 a0 a1 a2 b0 b1 b2 b3
        have rcd : wr.drew.cell? ⟨w.heap.size + 1 + 1, k, none⟩ = some (.int .u64 (((sch b k ++ List.replicate (64 - k) 0).getD k 0 : Nat) : Int)) := rc
        have rfd : wr.drew.frozen? ⟨w.heap.size + 1 + 1, k, none⟩ = false := rf
        have HK' : Hid (wr.drew.heap[w.heap.size + 1 + 1]? = some (.cells (ints .u64 (sch b k ++ List.replicate (64 - k) 0)) 184 (0, 0))) := HR.out
        have KD : Hid (Kept (fun j => j = w.heap.size + 1 + 1) w3 wr.drew) := KR.out.drew
        clear rc rf HR KR
        generalize wr.drew = wd2 at *
        go_wp2_with fail
        have HS : Hid ((wd2.setCell ⟨w.heap.size + 1 + 1, k, none⟩ (.int .u64 ((be4 b k : Nat) : Int))).heap[w.heap.size + 1 + 1]? = some (.cells (ints .u64 (sch b (k + 1) ++ List.replicate (64 - (k + 1)) 0)) 184 (0, 0))) := by
          show _ = _
          rw [setCell_block HK'.out, ints_set, ← HW.out, sch_set b hlt2]
        have KS := Lib.hid (KD.out.setCell (p := ⟨w.heap.size + 1 + 1, k, none⟩) (.inl rfl) (.int .u64 ((be4 b k : Nat) : Int)))
        rw [HBE.out] at HS KS
        go_roundw
        case rel => exact ⟨k + 1, by omega, by go_num, HS.out, KS.out⟩
        case measure => simp [intOf]; omega
      · have l0 := (sch_all HB.out k).getD (k - 2)
        have l1 := (sch_all HB.out k).getD (k - 7)
        have l2 := (sch_all HB.out k).getD (k - 15)
        have l3 := (sch_all HB.out k).getD (k - 16)
        have hlen : (sch b k ++ List.replicate (64 - k) 0).length = 64 := by simp [sch_len]; omega
        have c0 := ints_cell HR.out (i := k - 2) (by omega)
        have c1 := ints_cell HR.out (i := k - 7) (by omega)
        have c2 := ints_cell HR.out (i := k - 15) (by omega)
        have c3 := ints_cell HR.out (i := k - 16) (by omega)
        rw [sch_at b _ (by omega)] at c0 c1 c2 c3
        have HW : Hid (wd b (sch b k) k = a32 (a32 (a32 (mvd ((sch b k).getD (k - 2) 0) 17 19 10) ((sch b k).getD (k - 7) 0)) (mvd ((sch b k).getD (k - 15) 0) 7 18 3)) ((sch b k).getD (k - 16) 0)) := if_neg h16
        generalize (sch b k).getD (k - 2) 0 = z0 at *
        generalize (sch b k).getD (k - 7) 0 = z1 at *
        generalize (sch b k).getD (k - 15) 0 = z2 at *
        generalize (sch b k).getD (k - 16) 0 = z3 at *
        rw [← wd_sum] at HW
        have rc : wr.cell? ⟨w.heap.size + 1 + 1, k, none⟩ = some (.int .u64 (((sch b k ++ List.replicate (64 - k) 0).getD k 0 : Nat) : Int)) := ints_cell HR.out (by simp [sch_len]; omega)
        have rf := free_of_block (j := k) HR.out
        have n0 : ((k : Int) - 2).toNat = k - 2 := by omega
        have n1 : ((k : Int) - 7).toNat = k - 7 := by omega
        have n2 : ((k : Int) - 15).toNat = k - 15 := by omega
        have n3 : ((k : Int) - 16).toNat = k - 16 := by omega
        have p0 : 0 ≤ (k : Int) - 2 := by omega
        have p1 : 0 ≤ (k : Int) - 7 := by omega
        have p2 : 0 ≤ (k : Int) - 15 := by omega
        have p3 : 0 ≤ (k : Int) - 16 := by omega
        have m0 : (k : Int) - 2 < 64 := by omega
        have m1 : (k : Int) - 7 < 64 := by omega
        have m2 : (k : Int) - 15 < 64 := by omega
        have m3 : (k : Int) - 16 < 64 := by omega
        have v0 : IntKind.i64.wrap ((k : Int) - 2) = (k : Int) - 2 := IntWalk.i64_in _ (by omega)
        have v1 : IntKind.i64.wrap ((k : Int) - 7) = (k : Int) - 7 := IntWalk.i64_in _ (by omega)
        have v2 : IntKind.i64.wrap ((k : Int) - 15) = (k : Int) - 15 := IntWalk.i64_in _ (by omega)
        have v3 : IntKind.i64.wrap ((k : Int) - 16) = (k : Int) - 16 := IntWalk.i64_in _ (by omega)
        have o0 : 2 ≤ (k : Int) := by omega
        have o1 : 7 ≤ (k : Int) := by omega
        have o2 : 15 ≤ (k : Int) := by omega
        have o3 : 16 ≤ (k : Int) := by omega
        have hk16 : ¬ ((k : Int) < 16) := by omega
        clear kc K
        go_upto_region 9 with (fail)
        go_quiet (fail)
        have rcd : (wr.drewN nq).cell? ⟨w.heap.size + 1 + 1, k, none⟩ = some (.int .u64 (((sch b k ++ List.replicate (64 - k) 0).getD k 0 : Nat) : Int)) := rc
        have rfd : (wr.drewN nq).frozen? ⟨w.heap.size + 1 + 1, k, none⟩ = false := rf
        have c1d : (wr.drewN nq).cell? ⟨w.heap.size + 1 + 1, k - 7, none⟩ = some (.int .u64 (z1 : Nat)) := c1
        have c3d : (wr.drewN nq).cell? ⟨w.heap.size + 1 + 1, k - 16, none⟩ = some (.int .u64 (z3 : Nat)) := c3
        have HK' : Hid ((wr.drewN nq).heap[w.heap.size + 1 + 1]? = some (.cells (ints .u64 (sch b k ++ List.replicate (64 - k) 0)) 184 (0, 0))) := HR.out
        have KD : Hid (Kept (fun j => j = w.heap.size + 1 + 1) w3 (wr.drewN nq)) := KR.out.drewN nq
        clear rc rf c0 c1 c2 c3 HR KR n0 n2 p0 p2 m0 m2 v0 v2 o0 o2
        generalize wr.drewN nq = wq at *
        have x0 := j_xor (rot_lt (n := 17) l0) (rot_lt (n := 19) l0)
        have x1 := j_xor (x32_lt (rot_lt (n := 17) l0) (rot_lt (n := 19) l0)) (r32_lt (n := 10) l0)
        have x2 := j_xor (rot_lt (n := 7) l2) (rot_lt (n := 18) l2)
        have x3 := j_xor (x32_lt (rot_lt (n := 7) l2) (rot_lt (n := 18) l2)) (r32_lt (n := 3) l2)
        have q0 : x32 (x32 (rot z0 17) (rot z0 19)) (r32 z0 10) < 4294967296 := mvd_lt l0
        have q2 : x32 (x32 (rot z2 7) (rot z2 18)) (r32 z2 3) < 4294967296 := mvd_lt l2
        have HMV0 : Hid (mvd z0 17 19 10 = x32 (x32 (rot z0 17) (rot z0 19)) (r32 z0 10)) := rfl
        have HMV2 : Hid (mvd z2 7 18 3 = x32 (x32 (rot z2 7) (rot z2 18)) (r32 z2 3)) := rfl
        rw [HMV0.out, HMV2.out] at HW
        have a0 := j_add (a := x32 (x32 (rot z0 17) (rot z0 19)) (r32 z0 10)) (b := z1) (by omega)
        have y0 : p64 (x32 (x32 (rot z0 17) (rot z0 19)) (r32 z0 10)) z1 < 8589934592 := p64_lt (by omega)
        have a1 := j_add (a := p64 (x32 (x32 (rot z0 17) (rot z0 19)) (r32 z0 10)) z1) (b := x32 (x32 (rot z2 7) (rot z2 18)) (r32 z2 3)) (by omega)
        have y1 : p64 (p64 (x32 (x32 (rot z0 17) (rot z0 19)) (r32 z0 10)) z1) (x32 (x32 (rot z2 7) (rot z2 18)) (r32 z2 3)) < 12884901888 := p64_lt (by omega)
        have a2 := j_add (a := p64 (p64 (x32 (x32 (rot z0 17) (rot z0 19)) (r32 z0 10)) z1) (x32 (x32 (rot z2 7) (rot z2 18)) (r32 z2 3))) (b := z3) (by omega)
        have r0 := j_rem (p64 (p64 (p64 (x32 (x32 (rot z0 17) (rot z0 19)) (r32 z0 10)) z1) (x32 (x32 (rot z2 7) (rot z2 18)) (r32 z2 3))) z3)
        clear y0 y1 q0 q2 HMV0 HMV2
        go_upto_region 10 with (fail)
        refine wp_region_still_tail 29 (by kernel_rfl) (by kernel_rfl) ?_
        simp only [List.take_succ_cons, List.take_zero, List.drop_succ_cons, List.drop_zero]
        repeat still_step
        still_call (f_rright z0 17 _ l0 (by decide) (by decide))
        repeat still_step
        still_call (f_rright z0 19 _ l0 (by decide) (by decide))
        repeat still_step
        still_call (f_rshift z0 10 _ (by decide))
        repeat still_step
        still_call (f_rright z2 7 _ l2 (by decide) (by decide))
        repeat still_step
        still_call (f_rright z2 18 _ l2 (by decide) (by decide))
        repeat still_step
        still_call (f_rshift z2 3 _ (by decide))
        repeat still_step
        try refine wpStill_nil ?_
        change wpList _ _ _ _ _ wq.drew
        clear n1 n3 p1 p3 m1 m3 v1 v3 o1 o3 x0 x1 x2 x3 a0 a1 a2 r0 c1d c3d
        have rcdd : wq.drew.cell? ⟨w.heap.size + 1 + 1, k, none⟩ = some (.int .u64 (((sch b k ++ List.replicate (64 - k) 0).getD k 0 : Nat) : Int)) := rcd
        have rfdd : wq.drew.frozen? ⟨w.heap.size + 1 + 1, k, none⟩ = false := rfd
        have HK2 : Hid (wq.drew.heap[w.heap.size + 1 + 1]? = some (.cells (ints .u64 (sch b k ++ List.replicate (64 - k) 0)) 184 (0, 0))) := HK'.out
        have KD2 : Hid (Kept (fun j => j = w.heap.size + 1 + 1) w3 wq.drew) := KD.out.drew
        clear rcd rfd HK' KD
        generalize wq.drew = wp at *
        have HS : Hid ((wp.setCell ⟨w.heap.size + 1 + 1, k, none⟩ (.int .u64 ((wd b (sch b k) k : Nat) : Int))).heap[w.heap.size + 1 + 1]? = some (.cells (ints .u64 (sch b (k + 1) ++ List.replicate (64 - (k + 1)) 0)) 184 (0, 0))) := by
          show _ = _
          rw [setCell_block HK2.out, ints_set, sch_set b hlt2]
        have KS := Lib.hid (KD2.out.setCell (p := ⟨w.heap.size + 1 + 1, k, none⟩) (.inl rfl) (.int .u64 ((wd b (sch b k) k : Nat) : Int)))
        rw [HW.out] at HS KS
        go_wp2_with fail
        go_roundw
        case rel => exact ⟨k + 1, by omega, by go_num, HS.out, KS.out⟩
        case measure => simp [intOf]; omega
    · obtain rfl : k = 64 := by omega
      rw [show ((64 : Nat) : Int) = (64 : Int) from rfl]
      have HW : Hid (wr.heap[w.heap.size + 1 + 1]? = some (.cells (ints .u64 (sch b 64)) 184 (0, 0))) := by
        have h := HR.out
        rw [Nat.sub_self, List.replicate_zero, List.append_nil] at h
        exact h
      have GHw := Lib.hid (K.rowS (by omega) GH.out)
      have GRw := Lib.hid (K.rowS (by omega) GR.out)
      have K4 : Hid (Kept (fun _ => False) w wr) := KA.out.trans' (T := fun j => j = w.heap.size + 1 + 1) K (fun j hj e => by omega)
      have hsw : w.heap.size + 1 + 1 < wr.heap.size := row_lt HR.out
      clear kc K HR KR
      have gS := Lib.hid (heap_alloc_new wr (.cells Z186 186))
      have kS := (Kept.refl (fun _ => False) wr).alloc (.cells Z186 186)
      have HW5 := Lib.hid (kS.row HW.out)
      have GH5 := Lib.hid (kS.row GHw.out)
      have GR5 := Lib.hid (kS.row GRw.out)
      have K5 := Lib.hid (K4.out.trans kS)
      clear kS HW GHw GRw K4
      go_wp2_with (first | fail | (with_reducible refine alloc186 ?_))
      generalize wr.alloc (.cells Z186 186) = w5 at *
      generalize hBe : wr.heap.size = B at *
      have hsB : B < w5.heap.size := row_lt gS.out
      go_loopw [10] (fun i wq => ∃ q : Nat, q ≤ 8 ∧ i = .int .i64 q ∧ Hid (wq.heap[B]? = some (.cells (ints .u64 (h.take q ++ List.replicate (8 - q) 0)) 186 (0, 0))) ∧ Kept (fun j => j = B) w5 wq) (fun i _ => 8 - (intOf i).toNat)
      case atStart => exact ⟨0, by omega, rfl, gS.out, Kept.refl _ _⟩
      case round =>
        rename World => wq
        obtain ⟨q, hq, rfl, HR, K⟩ := hrel
        have KR := Lib.hid K
        by_cases hlt8 : q < 8
        · have ch := ints_cell (K.rowS (by omega) GH5.out) (i := q) (by rw [HH.out]; exact hlt8)
          have cs := ints_cell HR.out (i := q) (by simp [HH.out]; omega)
          have fs := free_of_block (j := q) HR.out
          have hx := HA.out.getD q
          have HST : Hid ((h.take q ++ List.replicate (8 - q) 0).set q (h.getD q 0) = h.take (q + 1) ++ List.replicate (8 - (q + 1)) 0) := take_set (by rw [HH.out]; exact hlt8) (by omega)
          generalize h.getD q 0 = x at ch HST hx
          have e1 := j_u64 hx
          have hq8 : (q : Int) < 8 := by omega
          clear K
          go_wp2_with fail
          have HF : Hid ((wq.setCell ⟨B, q, none⟩ (.int .u64 ((x : Nat) : Int))).heap[B]? = some (.cells (ints .u64 (h.take (q + 1) ++ List.replicate (8 - (q + 1)) 0)) 186 (0, 0))) := by
            show _ = _
            rw [setCell_block HR.out, ints_set, HST.out]
          have KF := Lib.hid (KR.out.setCell (p := ⟨B, q, none⟩) (.inl rfl) (.int .u64 ((x : Nat) : Int)))
          clear ch cs fs e1
          go_roundw
          case rel => exact ⟨q + 1, by omega, by go_num, HF.out, KF.out⟩
          case measure => simp [intOf]; omega
        · obtain rfl : q = 8 := by omega
          rw [show ((8 : Nat) : Int) = (8 : Int) from rfl]
          have HS0 : Hid (wq.heap[B]? = some (.cells (ints .u64 h) 186 (0, 0))) := by
            have e := HR.out
            rw [List.take_of_length_le (by rw [HH.out]; decide), Nat.sub_self, List.replicate_zero, List.append_nil] at e
            exact e
          have HW6 := Lib.hid (K.rowS (by omega) HW5.out)
          have GH6 := Lib.hid (K.rowS (by omega) GH5.out)
          have GR6 := Lib.hid (K.rowS (by omega) GR5.out)
          have K6 : Hid (Kept (fun _ => False) w wq) := K5.out.trans' (T := fun j => j = B) K (fun j hj e => by omega)
          have hsq : B < wq.heap.size := row_lt HR.out
          clear K HR KR HW5 GH5 GR5 K5
          go_wp2_with fail
          go_loopw [11] (fun i wy => ∃ t : Nat, t ≤ 64 ∧ i = .int .i64 t ∧ Hid (wy.heap[B]? = some (.cells (ints .u64 (rnds (sch b 64) h t)) 186 (0, 0))) ∧ Kept (fun j => j = B) wq wy) (fun i _ => 64 - (intOf i).toNat)
          case atStart => exact ⟨0, by omega, rfl, HS0.out, Kept.refl _ _⟩
          case round =>
            rename World => wy
            obtain ⟨t, ht, rfl, HR, K⟩ := hrel
            have KR := Lib.hid K
            by_cases hlt : t < 64
            · have HST : Hid (rnds (sch b 64) h (t + 1) = rnd (rnds (sch b 64) h t) (K256.getD t 0) ((sch b 64).getD t 0)) := rfl
              obtain ⟨s0, s1, s2, s3, s4, s5, s6, s7, hs⟩ := eight' (rnds_len (W := sch b 64) HH.out t)
              have hall := rnds_all (W := sch b 64) HA.out t
              rw [hs] at hall HST HR
              have b0 := hall s0 (by simp)
              have b1 := hall s1 (by simp)
              have b2 := hall s2 (by simp)
              have b3 := hall s3 (by simp)
              have b4 := hall s4 (by simp)
              have b5 := hall s5 (by simp)
              have b6 := hall s6 (by simp)
              have b7 := hall s7 (by simp)
              have c0 := ints_cell HR.out (i := 0) (by simp)
              have c1 := ints_cell HR.out (i := 1) (by simp)
              have c2 := ints_cell HR.out (i := 2) (by simp)
              have c3 := ints_cell HR.out (i := 3) (by simp)
              have c4 := ints_cell HR.out (i := 4) (by simp)
              have c5 := ints_cell HR.out (i := 5) (by simp)
              have c6 := ints_cell HR.out (i := 6) (by simp)
              have c7 := ints_cell HR.out (i := 7) (by simp)
              simp only [List.getD_cons_zero, List.getD_cons_succ] at c0 c1 c2 c3 c4 c5 c6 c7
              have ck := (K.cell (p := ⟨1, t, none⟩) (by show 1 < _; omega) (by show ¬ (1 = _); omega)).trans ((K6.out.cell (p := ⟨1, t, none⟩) hlz id).trans (HLL.out.k t hlt))
              have cw := ints_cell (K.rowS (by omega) HW6.out) (i := t) (by rw [sch_len]; exact hlt)
              have bw := (sch_all HB.out 64).getD t
              have bk := K256_all.getD t
              generalize K256.getD t 0 = kt at ck HST bk
              generalize (sch b 64).getD t 0 = wt at cw HST bw
              have htz : (t : Int) < 64 := by omega
              clear hall K
              go_upto_region 19 with (fail)
              go_quiet (fail)
              have HRd : Hid ((wy.drewN nq).heap[B]? = some (.cells (ints .u64 [s0, s1, s2, s3, s4, s5, s6, s7]) 186 (0, 0))) := HR.out
              have KRd : Hid (Kept (fun j => j = B) wq (wy.drewN nq)) := KR.out.drewN nq
              have ckd : (wy.drewN nq).cell? ⟨1, t, none⟩ = some (.int .u32 (kt : Nat)) := ck
              have cwd : (wy.drewN nq).cell? ⟨w.heap.size + 1 + 1, t, none⟩ = some (.int .u64 (wt : Nat)) := cw
              have hcd : ∀ i, (wy.drewN nq).cell? ⟨B, i, none⟩ = wy.cell? ⟨B, i, none⟩ := fun i => rfl
              rw [← hcd] at c0 c1 c2 c3 c4 c5 c6 c7
              clear hcd HR KR ck cw
              generalize wy.drewN nq = w7 at *
              have e1 := j_and b4 b5
              have e2 := j_not b4
              have e3 := j_and (c32_lt s4) b6
              have e4 := j_xor (n32_lt (b := s5) b4) (n32_lt (b := s6) (c32_lt s4))
              have e5 := j_and b0 b1
              have e6 := j_and b0 b2
              have e7 := j_xor (n32_lt (b := s1) b0) (n32_lt (b := s2) b0)
              have e8 := j_and b1 b2
              have e9 := j_xor (x32_lt (n32_lt (b := s1) b0) (n32_lt (b := s2) b0)) (n32_lt (b := s2) b1)
              go_upto_region 22 with (fail)
              clear e1 e2 e3 e4 e5 e6 e7 e8 e9
              have hch : x32 (n32 s4 s5) (n32 (c32 s4) s6) < 4294967296 := x32_lt (n32_lt b4) (n32_lt (c32_lt s4))
              have hmj : x32 (x32 (n32 s0 s1) (n32 s0 s2)) (n32 s1 s2) < 4294967296 := x32_lt (x32_lt (n32_lt b0) (n32_lt b0)) (n32_lt b1)
              have HO0 : Hid (one [s0, s1, s2, s3, s4, s5, s6, s7] kt wt = a32 (a32 (a32 (a32 s7 (trn s4 6 11 25)) (x32 (n32 s4 s5) (n32 (c32 s4) s6))) kt) wt) := rfl
              have HT0 : Hid (two [s0, s1, s2, s3, s4, s5, s6, s7] = a32 (trn s0 2 13 22) (x32 (x32 (n32 s0 s1) (n32 s0 s2)) (n32 s1 s2))) := rfl
              have HTR : Hid (trn s4 6 11 25 = x32 (x32 (rot s4 6) (rot s4 11)) (rot s4 25)) := rfl
              have HTR2 : Hid (trn s0 2 13 22 = x32 (x32 (rot s0 2) (rot s0 13)) (rot s0 22)) := rfl
              have htr : x32 (x32 (rot s4 6) (rot s4 11)) (rot s4 25) < 4294967296 := x32_lt (x32_lt (rot_lt b4) (rot_lt b4)) (rot_lt b4)
              have htr2 : x32 (x32 (rot s0 2) (rot s0 13)) (rot s0 22) < 4294967296 := x32_lt (x32_lt (rot_lt b0) (rot_lt b0)) (rot_lt b0)
              rw [HTR.out, ← one_sum] at HO0
              rw [HTR2.out, ← two_sum] at HT0
              clear HTR HTR2
              generalize x32 (n32 s4 s5) (n32 (c32 s4) s6) = ch at *
              generalize x32 (x32 (n32 s0 s1) (n32 s0 s2)) (n32 s1 s2) = mj at *
              have x1 := j_xor (rot_lt (n := 6) b4) (rot_lt (n := 11) b4)
              have x2 := j_xor (x32_lt (rot_lt (n := 6) b4) (rot_lt (n := 11) b4)) (rot_lt (n := 25) b4)
              have e1 := j_add (a := s7) (b := x32 (x32 (rot s4 6) (rot s4 11)) (rot s4 25)) (by omega)
              have y1 : p64 s7 (x32 (x32 (rot s4 6) (rot s4 11)) (rot s4 25)) < 8589934592 := p64_lt (by omega)
              have e2 := j_add (a := p64 s7 (x32 (x32 (rot s4 6) (rot s4 11)) (rot s4 25))) (b := ch) (by omega)
              have y2 : p64 (p64 s7 (x32 (x32 (rot s4 6) (rot s4 11)) (rot s4 25))) ch < 12884901888 := p64_lt (by omega)
              have e3 := j_add (a := p64 (p64 s7 (x32 (x32 (rot s4 6) (rot s4 11)) (rot s4 25))) ch) (b := kt) (by omega)
              have y3 : p64 (p64 (p64 s7 (x32 (x32 (rot s4 6) (rot s4 11)) (rot s4 25))) ch) kt < 17179869184 := p64_lt (by omega)
              have e4 := j_add (a := p64 (p64 (p64 s7 (x32 (x32 (rot s4 6) (rot s4 11)) (rot s4 25))) ch) kt) (b := wt) (by omega)
              have e5 := j_rem (p64 (p64 (p64 (p64 s7 (x32 (x32 (rot s4 6) (rot s4 11)) (rot s4 25))) ch) kt) wt)
              have uk := j_u64 bk
              clear y1 y2 y3
              go_quiet ((first | (go_at_call 134; exact Calls.quiet_of_same (f_rright s4 _ _ b4 (by decide) (by decide)))))
              clear x1 x2 e1 e2 e3 e4 e5 uk
              have hon := m32_lt (p64 (p64 (p64 (p64 s7 (x32 (x32 (rot s4 6) (rot s4 11)) (rot s4 25))) ch) kt) wt)
              generalize m32 (p64 (p64 (p64 (p64 s7 (x32 (x32 (rot s4 6) (rot s4 11)) (rot s4 25))) ch) kt) wt) = one1 at *
              have HRe : Hid ((w7.drewN nq).heap[B]? = some (.cells (ints .u64 [s0, s1, s2, s3, s4, s5, s6, s7]) 186 (0, 0))) := HRd.out
              have KRe : Hid (Kept (fun j => j = B) wq (w7.drewN nq)) := KRd.out.drewN nq
              have hcd : ∀ i, (w7.drewN nq).cell? ⟨B, i, none⟩ = w7.cell? ⟨B, i, none⟩ := fun i => rfl
              rw [← hcd] at c0 c1 c2 c3 c4 c5 c6
              clear hcd HRd KRd ckd cwd c7
              generalize w7.drewN nq = w8 at *
              have x1 := j_xor (rot_lt (n := 2) b0) (rot_lt (n := 13) b0)
              have x2 := j_xor (x32_lt (rot_lt (n := 2) b0) (rot_lt (n := 13) b0)) (rot_lt (n := 22) b0)
              have e1 := j_add (a := x32 (x32 (rot s0 2) (rot s0 13)) (rot s0 22)) (b := mj) (by omega)
              have e2 := j_rem (p64 (x32 (x32 (rot s0 2) (rot s0 13)) (rot s0 22)) mj)
              go_wp2_with fail
              refine (f_rright s0 2 _ b0 (by decide) (by decide)).mono ?_
              rintro e wz ⟨rfl, hwz⟩
              rw [hwz]
              clear hwz
              go_wp2_with fail
              refine (f_rright s0 13 _ b0 (by decide) (by decide)).mono ?_
              rintro e wz ⟨rfl, hwz⟩
              rw [hwz]
              clear hwz
              go_wp2_with fail
              refine (f_rright s0 22 _ b0 (by decide) (by decide)).mono ?_
              rintro e wz ⟨rfl, hwz⟩
              rw [hwz]
              clear hwz
              go_upto_region 24 with fail
              clear x1 x2 e1 e2
              have htw := m32_lt (p64 (x32 (x32 (rot s0 2) (rot s0 13)) (rot s0 22)) mj)
              generalize m32 (p64 (x32 (x32 (rot s0 2) (rot s0 13)) (rot s0 22)) mj) = two1 at *
              have e1 := j_add (a := one1) (b := two1) (by omega)
              have e2 := j_rem (p64 one1 two1)
              have e3 := j_add (a := s3) (b := one1) (by omega)
              have e4 := j_rem (p64 s3 one1)
              have HNEW : Hid (rnds (sch b 64) h (t + 1) = [m32 (p64 one1 two1), s0, s1, s2, m32 (p64 s3 one1), s4, s5, s6]) := by
                show _ = _
                rw [HST.out]
                unfold rnd
                rw [HO0.out, HT0.out]
                rfl
              have hnz : Hid ((ints .u64 (rnds (sch b 64) h (t + 1))).size = 8) := by show _ = _; rw [ints_size]; exact rnds_len HH.out _
              have hno := Lib.hid (ints_one .u64 (rnds (sch b 64) h (t + 1)))
              have hoz : Hid ((ints .u64 [s0, s1, s2, s3, s4, s5, s6, s7]).size = 8) := by rfl
              go_wp2_with (first | fail | ((with_reducible refine build186 (l := rnds (sch b 64) h (t + 1)) (s0 := m32 (p64 one1 two1)) (s1 := s0) (s2 := s1) (s3 := s2) (s4 := m32 (p64 s3 one1)) (s5 := s4) (s6 := s5) (s7 := s6) HNEW.out ?_ ?_ ?_ ?_ ?_ ?_ ?_ ?_ ?_); rfl; rfl; rfl; rfl; rfl; rfl; rfl; rfl) | ((with_reducible refine store186 (C := ints .u64 (rnds (sch b 64) h (t + 1))) ?_ ?_ HRe.out hoz.out hnz.out hno.out ?_); rfl; rfl))
              have HF : Hid ((w8.setRow B (ints .u64 (rnds (sch b 64) h (t + 1)))).heap[B]? = some (.cells (ints .u64 (rnds (sch b 64) h (t + 1))) 186 (0, 0))) := setRow_heap _ _ _ _ _ _ HRe.out
              have KF := Lib.hid (KRe.out.setRow' (g := B) rfl (ints .u64 (rnds (sch b 64) h (t + 1))))
              clear c0 c1 c2 c3 c4 c5 c6 e1 e2 e3 e4 HRe KRe
              go_roundw
              case rel => exact ⟨t + 1, by omega, by go_num, HF.out, KF.out⟩
              case measure => simp [intOf]; omega
            · obtain rfl : t = 64 := by omega
              rw [show ((64 : Nat) : Int) = (64 : Int) from rfl]
              have GH7 := Lib.hid (K.rowS (by omega) GH6.out)
              have GR7 := Lib.hid (K.rowS (by omega) GR6.out)
              have K7 : Hid (Kept (fun _ => False) w wy) := K6.out.trans' (T := fun j => j = B) K (fun j hj e => by omega)
              have HRL := Lib.hid (rnds_len (W := sch b 64) HH.out 64)
              have HRA := Lib.hid (rnds_all (W := sch b 64) HA.out 64)
              have HTN : Hid (turn h b = List.zipWith a32 h (rnds (sch b 64) h 64)) := rfl
              generalize rnds (sch b 64) h 64 = R at *
              clear K KR HW6 GH6 GR6 K6
              go_wp2_with fail
              go_loopw [18] (fun j wz => ∃ i : Nat, i ≤ 8 ∧ j = .int .i64 i ∧ Hid (wz.heap[w.heap.size]? = some (.cells (ints .u32 (mixL h R i)) 173 (0, 0))) ∧ Kept (fun j => j = w.heap.size) wy wz) (fun j _ => 8 - (intOf j).toNat)
              case atStart => exact ⟨0, by omega, rfl, GH7.out, Kept.refl _ _⟩
              case round =>
                rename World => wz
                obtain ⟨i, hi, rfl, HM, KK⟩ := hrel
                have KQ := Lib.hid KK
                by_cases hlt8 : i < 8
                · have hml := mixL_len (i := i) HH.out HRL.out (by omega)
                  have c2 := ints_cell HM.out (i := i) (by omega)
                  rw [mixL_at HH.out HRL.out hlt8] at c2
                  have c5 := ints_cell (KK.rowS (by omega) HR.out) (i := i) (by rw [HRL.out]; exact hlt8)
                  have HST : Hid ((mixL h R i).set i (a32 (h.getD i 0) (R.getD i 0)) = mixL h R (i + 1)) := mixL_set HH.out HRL.out hlt8
                  have f2 := free_of_block (j := i) HM.out
                  have bx := HA.out.getD i
                  have by' := HRA.out.getD i
                  generalize h.getD i 0 = x at *
                  generalize R.getD i 0 = y at *
                  have ux := j_u64 bx
                  have e1 := j_add (a := x) (b := y) (by omega)
                  have e2 := j_rem (p64 x y)
                  have ev := j_u32 (m32_lt (p64 x y))
                  have hi8 : (i : Int) < 8 := by omega
                  clear KK hml
                  go_upto_region 28 with (fail)
                  go_still_tail 11, (by kernel_rfl)
                  change wpList _ _ _ _ _ wz.drew
                  have c2d : wz.drew.cell? ⟨w.heap.size, i, none⟩ = some (.int .u32 ((x : Nat) : Int)) := c2
                  have f2d : wz.drew.frozen? ⟨w.heap.size, i, none⟩ = false := f2
                  have HMd : Hid (wz.drew.heap[w.heap.size]? = some (.cells (ints .u32 (mixL h R i)) 173 (0, 0))) := HM.out
                  have KQd := Lib.hid KQ.out.drew
                  clear c2 c5 f2 HM KQ e1 e2 ev ux
                  generalize wz.drew = wd at *
                  go_wp2_with fail
                  have HF : Hid ((wd.setCell ⟨w.heap.size, i, none⟩ (.int .u32 ((m32 (p64 x y) : Nat) : Int))).heap[w.heap.size]? = some (.cells (ints .u32 (mixL h R (i + 1))) 173 (0, 0))) := by
                    show _ = _
                    rw [setCell_block HMd.out _, ints_set, p64_a32, HST.out]
                  have KF := Lib.hid (KQd.out.setCell (p := ⟨w.heap.size, i, none⟩) (.inl rfl) (.int .u32 ((m32 (p64 x y) : Nat) : Int)))
                  clear c2d f2d HMd KQd
                  go_roundw
                  case rel => exact ⟨i + 1, by omega, by go_num, HF.out, KF.out⟩
                  case measure => simp [intOf]; omega
                · obtain rfl : i = 8 := by omega
                  rw [show ((8 : Nat) : Int) = (8 : Int) from rfl]
                  have HF : Hid (wz.heap[w.heap.size]? = some (.cells (ints .u32 (turn h b)) 173 (0, 0))) := by
                    have := HM.out
                    rw [mixL_all HH.out HRL.out, ← HTN.out] at this
                    exact this
                  have G4q := Lib.hid (KK.rowS (by omega) GR7.out)
                  have hsz2 := Lib.hid (show (ints .u32 (turn h b)).size = 8 by rw [ints_size, turn_len HH.out])
                  have hone2 := Lib.hid (ints_one .u32 (turn h b))
                  have KF : Hid (Kept (fun _ => False) w wz) := K7.out.trans' (T := fun j => j = w.heap.size) KK (fun j hj e => by omega)
                  clear KK
                  go_wp2_with (first | fail | ((with_reducible refine load173 (C := ints .u32 (turn h b)) (g := w.heap.size) (o := 0) ?_ (range_row HF.out) hsz2.out ?_); rfl) | ((with_reducible refine store173 (C := ints .u32 (turn h b)) ?_ ?_ G4q.out Z173_size hsz2.out hone2.out ?_); rfl; rfl))
                  exact bodyPost_ret (results_173 rfl _ _ _ (setRow_heap _ _ _ _ _ _ G4q.out) hsz2.out rfl) rfl (RPost.mk rfl (KF.out.setRow (by omega) _))
end Go.Proofs.YtklmhegmombegaaDoor
