/-
  The contract of sha's schedule. Conditions: as the theorem says.
-/
import Derived.Test.YtklmhegmombegaaDoorMem
import Derived.IntWalk
set_option linter.unusedVariables false
set_option linter.unusedSimpArgs false
namespace Go.Proofs.YtklmhegmombegaaDoor
open Go Go.RowKit Plain

/-- The bytes that a slice holds. -/
def HBytes (w : World) (v : Value) (l : List Nat) : Prop := Rd w 1 v l.length (l.map fun (n : Nat) => Value.int .u8 (n : Int)) ∧ All8 l ∧ l.length ≤ maxLen ∧ ∀ k, v.ownBlock = some k → l ≠ [] → k < w.heap.size
theorem HBytes.kept {w w' : World} {v : Value} {l : List Nat} (h : HBytes w v l) (k : Kept (fun _ => False) w w') : HBytes w' v l :=
  ⟨h.1.kept k (fun _ _ h => h), h.2.1, h.2.2.1, fun j e hn => Nat.lt_of_lt_of_le (h.2.2.2 j e hn) k.size⟩
theorem HBytes.form {w : World} {v : Value} {l : List Nat} (h : HBytes w v l) : ∃ a c, v = .slice a l.length c := by obtain ⟨⟨_, a, c, e, _⟩, _⟩ := h; exact ⟨a, c, e⟩
/-- What stands at its address. -/
theorem HBytes.addr {w : World} {v : Value} {l : List Nat} (h : HBytes w v l) (hl : 0 < l.length) : ∃ b o c, v = .slice (some ⟨b, o, none⟩) l.length c ∧ b < w.heap.size ∧ ∀ i, i < l.length → w.cell? ⟨b, o + i, none⟩ = some (.int .u8 ((l.getD i 0 : Nat) : Int)) := by
  obtain ⟨b, o, c, e, hc⟩ := h.1.addr (by omega)
  refine ⟨b, o, c, e, h.2.2.2 b (by rw [e]; rfl) (fun e0 => by rw [e0] at hl; exact absurd hl (by decide)), fun i hi => hc i _ ?_⟩
  simp [List.getD_eq_getElem?_getD, List.getElem?_eq_getElem hi]

theorem i_shl24 (x : Nat) : IntKind.u32.wrap ((x : Int) * 16777216) = ((l32 x 24 : Nat) : Int) := by rw [IntKind.wrap_u32']; unfold l32; omega
theorem i_shl16 (x : Nat) : IntKind.u32.wrap ((x : Int) * 65536) = ((l32 x 16 : Nat) : Int) := by rw [IntKind.wrap_u32']; unfold l32; omega
theorem i_shl8 (x : Nat) : IntKind.u32.wrap ((x : Int) * 256) = ((l32 x 8 : Nat) : Int) := by rw [IntKind.wrap_u32']; unfold l32; omega
theorem i_u32 {x : Nat} (h : x < 256) : IntKind.u32.wrap (x : Int) = (x : Int) := by rw [IntKind.wrap_u32']; omega

theorem sch_set (b : List Nat) {k : Nat} (h : k < 64) : (sch b k ++ List.replicate (64 - k) 0).set k (wd b (sch b k) k) = sch b (k + 1) ++ List.replicate (64 - (k + 1)) 0 := by
  obtain ⟨m, hm⟩ : ∃ m, 64 - k = m + 1 := ⟨63 - k, by omega⟩
  rw [hm, show 64 - (k + 1) = m by omega, List.replicate_succ, List.set_append_right _ _ (by rw [sch_len]; exact Nat.le_refl _), sch_len, Nat.sub_self, List.set_cons_zero, sch, List.append_assoc]
  rfl
theorem sch_at (b : List Nat) {k i : Nat} (m : Nat) (h : i < k) : (sch b k ++ List.replicate m 0).getD i 0 = (sch b k).getD i 0 := by
  rw [List.getD_eq_getElem?_getD, List.getD_eq_getElem?_getD, List.getElem?_append_left (by rw [sch_len]; exact h)]
/-- All of a block but one cell is as it was. -/
def But (g k : Nat) (C : Array Value) (t : TypeId) (w w' : World) : Prop := Kept (fun j => j = g) w w' ∧ ∃ D, w'.heap[g]? = some (.cells D t (0, 0)) ∧ D.size = C.size ∧ ∀ i, i ≠ k → D[i]? = C[i]?
theorem But.cell {g k : Nat} {C : Array Value} {t : TypeId} {w w' : World} (h : But g k C t w w') {i : Nat} {v : Value} (hi : i ≠ k) (hc : C[i]? = some v) : w'.cell? ⟨g, i, none⟩ = some v := by
  obtain ⟨_, D, hD, _, hh⟩ := h
  exact row_cell hD ((hh i hi).trans hc)
theorem But.kept {g k : Nat} {C : Array Value} {t : TypeId} {w w' w'' : World} (h : But g k C t w w') (kk : Kept (fun _ => False) w' w'') : But g k C t w w'' := by
  obtain ⟨h1, D, hD, hs, hh⟩ := h
  exact ⟨h1.trans (kk.mono fun _ _ h => h.elim), D, kk.row hD, hs, hh⟩
theorem But.put {g k : Nat} {C : Array Value} {t : TypeId} {w w' w'' : World} (h : But g k C t w w') {D : Array Value} {v : Value} (hD : w'.heap[g]? = some (.cells D t (0, 0))) (hy : w''.heap[g]? = some (.cells (D.setIfInBounds k v) t (0, 0))) (kk : Kept (fun i => i = g) w' w'') :
    But g k C t w w'' ∧ w''.heap[g]? = some (.cells (C.setIfInBounds k v) t (0, 0)) := by
  obtain ⟨h1, D', hD', hs, hh⟩ := h
  rw [hD] at hD'
  simp only [Option.some.injEq, Obj.cells.injEq, and_true, true_and] at hD'
  subst hD'
  refine ⟨⟨h1.trans kk, _, hy, by simp [hs], fun i hi => by rw [Array.getElem?_setIfInBounds_ne (Ne.symm hi)]; exact hh i hi⟩, ?_⟩
  rw [hy]
  congr 2
  apply Array.ext_getElem?
  intro i
  by_cases e : i = k
  · subst e
    rw [Array.getElem?_setIfInBounds, Array.getElem?_setIfInBounds, hs]; simp
  · rw [Array.getElem?_setIfInBounds_ne (Ne.symm e), Array.getElem?_setIfInBounds_ne (Ne.symm e)]; exact hh i e
theorem f_moved' (x a b c : Nat) (w : World) (hx : x < 4294967296) (ha : 1 ≤ a ∧ a ≤ 31) (hb : 1 ≤ b ∧ b ≤ 31) (hc : 1 ≤ c ∧ c ≤ 31) : Calls Tryd.prog 140 #[.int .u32 x, .int .i64 a, .int .i64 b, .int .i64 c] w (RPost (.int .u32 (mvd x a b c : Nat)) w) := RPost.of_drew (f_moved x a b c w hx ha hb hc)
set_option maxRecDepth 100000 in
set_option maxHeartbeats 4000000 in
theorem f_sched (v : Value) (b : List Nat) (w : World) (hb : HBytes w v b) (hl : b.length = 64) : Calls Tryd.prog 132 #[v] w (RPost (.agg (ints .u32 (sch b 64))) w) := by
  obtain ⟨bb, oo, cc, rfl, hlt, hcell⟩ := hb.addr (by omega)
  have hb8 := hb.2.1
  rw [hl] at hcell ⊢
  have HC := Lib.hid hcell
  have HB := Lib.hid hb8
  have g2 := Lib.hid (heap_alloc2_old w (.cells Z180 180) (.cells Z180 180))
  have g3 := Lib.hid (heap_alloc2_new w (.cells Z180 180) (.cells Z180 180))
  have K0 := Lib.hid (((Kept.refl (fun _ => False) w).alloc (.cells Z180 180)).alloc (.cells Z180 180))
  clear hb hcell hb8
  go_enter Tryd.func132, Tryd.ntmps132
  go_wp2_with (first | fail | (with_reducible refine alloc180 ?_))
  generalize (w.alloc (.cells Z180 180)).alloc (.cells Z180 180) = w2 at *
  have hs2 : w.heap.size + 1 < w2.heap.size := row_lt g3.out
  go_loopw [5] (fun i wr => ∃ k : Nat, k ≤ 64 ∧ i = .int .i64 k ∧ Hid (wr.heap[w.heap.size + 1]? = some (.cells (ints .u32 (sch b k ++ List.replicate (64 - k) 0)) 180 (0, 0))) ∧ Kept (fun j => j = w.heap.size + 1) w2 wr) (fun i _ => 64 - (intOf i).toNat)
  case atStart => exact ⟨0, by omega, rfl, g3.out, Kept.refl _ _⟩
  case round =>
    obtain ⟨k, hk, rfl, HR, K⟩ := hrel
    have KR := Lib.hid K
    have kc := fun (i : Nat) (hi : i < 64) => (K.cell (p := ⟨bb, oo + i, none⟩) (by show bb < _; omega) (by show ¬ (bb = _); omega)).trans ((K0.out.cell (p := ⟨bb, oo + i, none⟩) hlt id).trans (HC.out i hi))
    by_cases hlt2 : k < 64
    · by_cases h16 : k < 16
      · have b0 := kc (4 * k) (by omega)
        have b1 := kc (4 * k + 1) (by omega)
        have b2 := kc (4 * k + 2) (by omega)
        have b3 := kc (4 * k + 3) (by omega)
        have l0 := HB.out.getD (4 * k)
        have l1 := HB.out.getD (4 * k + 1)
        have l2 := HB.out.getD (4 * k + 2)
        have l3 := HB.out.getD (4 * k + 3)
        have HW : Hid (wd b (sch b k) k = be4 b k) := if_pos h16
        have HBE : Hid (be4 b k = o32 (o32 (o32 (l32 (b.getD (4 * k) 0) 24) (l32 (b.getD (4 * k + 1) 0) 16)) (l32 (b.getD (4 * k + 2) 0) 8)) (b.getD (4 * k + 3) 0)) := rfl
        generalize b.getD (4 * k) 0 = z0 at *
        generalize b.getD (4 * k + 1) 0 = z1 at *
        generalize b.getD (4 * k + 2) 0 = z2 at *
        generalize b.getD (4 * k + 3) 0 = z3 at *
        have s0 := i_shl24 z0
        have s1 := i_shl16 z1
        have s2 := i_shl8 z2
        have u0 := i_u32 l0
        have u1 := i_u32 l1
        have u2 := i_u32 l2
        have u3 := i_u32 l3
        have q1 := i_or (l32_lt z0 24) (l32_lt z1 16)
        have q2 := i_or (o32_lt (l32_lt z0 24) (l32_lt z1 16)) (l32_lt z2 8)
        have q3 := i_or (o32_lt (o32_lt (l32_lt z0 24) (l32_lt z1 16)) (l32_lt z2 8)) (show z3 < 4294967296 by omega)
        have rc : wr.cell? ⟨w.heap.size + 1, k, none⟩ = some (.int .u32 (((sch b k ++ List.replicate (64 - k) 0).getD k 0 : Nat) : Int)) := ints_cell HR.out (by simp [sch_len]; omega)
        have rf := free_of_block (j := k) HR.out
        have w0 : IntKind.i64.wrap (4 * (k : Int)) = 4 * (k : Int) := IntWalk.i64_in _ (by omega)
        have w1 : IntKind.i64.wrap (4 * (k : Int) + 1) = 4 * (k : Int) + 1 := IntWalk.i64_in _ (by omega)
        have w2' : IntKind.i64.wrap (4 * (k : Int) + 2) = 4 * (k : Int) + 2 := IntWalk.i64_in _ (by omega)
        have w3 : IntKind.i64.wrap (4 * (k : Int) + 3) = 4 * (k : Int) + 3 := IntWalk.i64_in _ (by omega)
        have n0 : (4 * (k : Int)).toNat = 4 * k := by omega
        have n1 : (4 * (k : Int) + 1).toNat = 4 * k + 1 := by omega
        have n2 : (4 * (k : Int) + 2).toNat = 4 * k + 2 := by omega
        have n3 : (4 * (k : Int) + 3).toNat = 4 * k + 3 := by omega
        have p0 : 0 ≤ 4 * (k : Int) := by omega
        have p1 : 0 ≤ 4 * (k : Int) + 1 := by omega
        have p2 : 0 ≤ 4 * (k : Int) + 2 := by omega
        have p3 : 0 ≤ 4 * (k : Int) + 3 := by omega
        have m0 : 4 * (k : Int) < 64 := by omega
        have m1 : 4 * (k : Int) + 1 < 64 := by omega
        have m2 : 4 * (k : Int) + 2 < 64 := by omega
        have m3 : 4 * (k : Int) + 3 < 64 := by omega
        clear kc K
        go_upto_region 6 with (fail)
        go_still_tail 34, (by kernel_rfl)
        change wpList _ _ _ _ _ wr.drew
        clear w0 w1 w2' w3 n0 n1 n2 n3 p0 p1 p2 p3 m0 m1 m2 m3 s0 s1 s2 u0 u1 u2 u3 q1 q2 q3 b0 b1 b2 b3
        have rcd : wr.drew.cell? ⟨w.heap.size + 1, k, none⟩ = some (.int .u32 (((sch b k ++ List.replicate (64 - k) 0).getD k 0 : Nat) : Int)) := rc
        have rfd : wr.drew.frozen? ⟨w.heap.size + 1, k, none⟩ = false := rf
        have HK' : Hid (wr.drew.heap[w.heap.size + 1]? = some (.cells (ints .u32 (sch b k ++ List.replicate (64 - k) 0)) 180 (0, 0))) := HR.out
        have KD : Hid (Kept (fun j => j = w.heap.size + 1) w2 wr.drew) := KR.out.drew
        clear rc rf HR KR
        generalize wr.drew = wd2 at *
        go_wp2_with fail
        have HS : Hid ((wd2.setCell ⟨w.heap.size + 1, k, none⟩ (.int .u32 ((be4 b k : Nat) : Int))).heap[w.heap.size + 1]? = some (.cells (ints .u32 (sch b (k + 1) ++ List.replicate (64 - (k + 1)) 0)) 180 (0, 0))) := by
          show _ = _
          rw [setCell_block HK'.out, ints_set, ← HW.out, sch_set b hlt2]
        have KS := Lib.hid (KD.out.setCell (p := ⟨w.heap.size + 1, k, none⟩) (.inl rfl) (.int .u32 ((be4 b k : Nat) : Int)))
        rw [HBE.out] at HS KS
        go_roundw
        case rel => exact ⟨k + 1, by omega, by go_num, HS.out, KS.out⟩
        case measure => simp [intOf]; omega
      · have l0 := (sch_all HB.out k).getD (k - 2)
        have l1 := (sch_all HB.out k).getD (k - 7)
        have l2 := (sch_all HB.out k).getD (k - 15)
        have l3 := (sch_all HB.out k).getD (k - 16)
        have hlen : (sch b k ++ List.replicate (64 - k) 0).length = 64 := by simp [sch_len]; omega
        have c0 := ints_get .u32 (l := sch b k ++ List.replicate (64 - k) 0) (i := k - 2) (by omega)
        have c1 := ints_get .u32 (l := sch b k ++ List.replicate (64 - k) 0) (i := k - 7) (by omega)
        have c2 := ints_get .u32 (l := sch b k ++ List.replicate (64 - k) 0) (i := k - 15) (by omega)
        have c3 := ints_get .u32 (l := sch b k ++ List.replicate (64 - k) 0) (i := k - 16) (by omega)
        rw [sch_at b _ (by omega)] at c0 c1 c2 c3
        have HW : Hid (wd b (sch b k) k = a32 (a32 (a32 (mvd ((sch b k).getD (k - 2) 0) 17 19 10) ((sch b k).getD (k - 7) 0)) (mvd ((sch b k).getD (k - 15) 0) 7 18 3)) ((sch b k).getD (k - 16) 0)) := if_neg h16
        generalize (sch b k).getD (k - 2) 0 = z0 at *
        generalize (sch b k).getD (k - 7) 0 = z1 at *
        generalize (sch b k).getD (k - 15) 0 = z2 at *
        generalize (sch b k).getD (k - 16) 0 = z3 at *
        have hS0 : But (w.heap.size + 1) k (ints .u32 (sch b k ++ List.replicate (64 - k) 0)) 180 wr wr.drew := ⟨(Kept.refl _ _).drew, _, HR.out, rfl, fun _ _ => rfl⟩
        have HC0 := Lib.hid c0
        have HC1 := Lib.hid c1
        have HC2 := Lib.hid c2
        have HC3 := Lib.hid c3
        have n0 : ((k : Int) - 2).toNat = k - 2 := by omega
        have n1 : ((k : Int) - 7).toNat = k - 7 := by omega
        have n2 : ((k : Int) - 15).toNat = k - 15 := by omega
        have n3 : ((k : Int) - 16).toNat = k - 16 := by omega
        have p0 : 0 ≤ (k : Int) - 2 := by omega
        have p1 : 0 ≤ (k : Int) - 7 := by omega
        have p2 : 0 ≤ (k : Int) - 15 := by omega
        have p3 : 0 ≤ (k : Int) - 16 := by omega
        have m0 : (k : Int) - 2 < 64 := by omega
        have m1 : (k : Int) - 7 < 64 := by omega
        have m2 : (k : Int) - 15 < 64 := by omega
        have m3 : (k : Int) - 16 < 64 := by omega
        have o0 : 2 ≤ (k : Int) := by omega
        have o1 : 7 ≤ (k : Int) := by omega
        have o2 : 15 ≤ (k : Int) := by omega
        have o3 : 16 ≤ (k : Int) := by omega
        clear kc K c0 c1 c2 c3
        go_upto_region 7 with (fail)
        refine wp_region_held_drew (S := fun w' => But (w.heap.size + 1) k (ints .u32 (sch b k ++ List.replicate (64 - k) 0)) 180 wr w') (by kernel_rfl) hS0 (fun hHeld => ?_)
        refine wpAnyH_take (i := 0) (oi := ⟨some 45, _, _, _, _, _⟩) (v := .int .i64 k) rfl (by kernel_rfl) (by kernel_rfl) (by kernel_rfl) (fun _ _ _ h => h) (Or.inl ⟨by kernel_rfl, fun w' hS => by go_simp⟩) (by assumption) ?_
        try simp only [Act.put, List.setIfInBounds_toArray, List.set_cons_succ, List.set_cons_zero]
        refine wpAnyH_take (i := 1) (oi := ⟨some 46, _, _, _, _, _⟩) (v := .int .i64 k) rfl (by kernel_rfl) (by kernel_rfl) (by kernel_rfl) (fun _ _ _ h => h) (Or.inl ⟨by kernel_rfl, fun w' hS => by go_simp⟩) (by assumption) ?_
        try simp only [Act.put, List.setIfInBounds_toArray, List.set_cons_succ, List.set_cons_zero]
        refine wpAnyH_take (i := 2) (oi := ⟨some 47, _, _, _, _, _⟩) (v := .int .i64 ((k : Int) - 2)) rfl (by kernel_rfl) (by kernel_rfl) (by kernel_rfl) (fun _ _ _ h => h) (Or.inl ⟨by kernel_rfl, fun w' hS => by have e := IntWalk.i64_in ((k : Int) - 2) (by omega); go_simp⟩) (by assumption) ?_
        try simp only [Act.put, List.setIfInBounds_toArray, List.set_cons_succ, List.set_cons_zero]
        refine wpAnyH_take (i := 3) (oi := ⟨some 48, _, _, _, _, _⟩) (v := .pointer (some ⟨w.heap.size + 1, k - 2, none⟩)) rfl (by kernel_rfl) (by kernel_rfl) (by kernel_rfl) (fun _ _ _ h => h) (Or.inl ⟨by kernel_rfl, fun w' hS => by go_simp⟩) (by assumption) ?_
        try simp only [Act.put, List.setIfInBounds_toArray, List.set_cons_succ, List.set_cons_zero]
        refine wpAnyH_take (i := 4) (oi := ⟨some 49, _, _, _, _, _⟩) (v := .int .u32 z0) rfl (by kernel_rfl) (by kernel_rfl) (by kernel_rfl) (fun _ _ _ h => h) (Or.inl ⟨by kernel_rfl, fun w' hS => by have hc := hS.cell (i := k - 2) (by omega) HC0.out; go_simp⟩) (by assumption) ?_
        try simp only [Act.put, List.setIfInBounds_toArray, List.set_cons_succ, List.set_cons_zero]
        refine wpAnyH_take (i := 6) (oi := ⟨some 51, _, _, _, _, _⟩) (v := .int .i64 k) rfl (by kernel_rfl) (by kernel_rfl) (by kernel_rfl) (fun _ _ _ h => h) (Or.inl ⟨by kernel_rfl, fun w' hS => by go_simp⟩) (by assumption) ?_
        try simp only [Act.put, List.setIfInBounds_toArray, List.set_cons_succ, List.set_cons_zero]
        refine wpAnyH_take (i := 7) (oi := ⟨some 52, _, _, _, _, _⟩) (v := .int .i64 ((k : Int) - 7)) rfl (by kernel_rfl) (by kernel_rfl) (by kernel_rfl) (fun _ _ _ h => h) (Or.inl ⟨by kernel_rfl, fun w' hS => by have e := IntWalk.i64_in ((k : Int) - 7) (by omega); go_simp⟩) (by assumption) ?_
        try simp only [Act.put, List.setIfInBounds_toArray, List.set_cons_succ, List.set_cons_zero]
        refine wpAnyH_take (i := 8) (oi := ⟨some 53, _, _, _, _, _⟩) (v := .pointer (some ⟨w.heap.size + 1, k - 7, none⟩)) rfl (by kernel_rfl) (by kernel_rfl) (by kernel_rfl) (fun _ _ _ h => h) (Or.inl ⟨by kernel_rfl, fun w' hS => by go_simp⟩) (by assumption) ?_
        try simp only [Act.put, List.setIfInBounds_toArray, List.set_cons_succ, List.set_cons_zero]
        refine wpAnyH_take (i := 9) (oi := ⟨some 54, _, _, _, _, _⟩) (v := .int .u32 z1) rfl (by kernel_rfl) (by kernel_rfl) (by kernel_rfl) (fun _ _ _ h => h) (Or.inl ⟨by kernel_rfl, fun w' hS => by have hc := hS.cell (i := k - 7) (by omega) HC1.out; go_simp⟩) (by assumption) ?_
        try simp only [Act.put, List.setIfInBounds_toArray, List.set_cons_succ, List.set_cons_zero]
        refine wpAnyH_take (i := 11) (oi := ⟨some 56, _, _, _, _, _⟩) (v := .int .i64 k) rfl (by kernel_rfl) (by kernel_rfl) (by kernel_rfl) (fun _ _ _ h => h) (Or.inl ⟨by kernel_rfl, fun w' hS => by go_simp⟩) (by assumption) ?_
        try simp only [Act.put, List.setIfInBounds_toArray, List.set_cons_succ, List.set_cons_zero]
        refine wpAnyH_take (i := 12) (oi := ⟨some 57, _, _, _, _, _⟩) (v := .int .i64 ((k : Int) - 15)) rfl (by kernel_rfl) (by kernel_rfl) (by kernel_rfl) (fun _ _ _ h => h) (Or.inl ⟨by kernel_rfl, fun w' hS => by have e := IntWalk.i64_in ((k : Int) - 15) (by omega); go_simp⟩) (by assumption) ?_
        try simp only [Act.put, List.setIfInBounds_toArray, List.set_cons_succ, List.set_cons_zero]
        refine wpAnyH_take (i := 13) (oi := ⟨some 58, _, _, _, _, _⟩) (v := .pointer (some ⟨w.heap.size + 1, k - 15, none⟩)) rfl (by kernel_rfl) (by kernel_rfl) (by kernel_rfl) (fun _ _ _ h => h) (Or.inl ⟨by kernel_rfl, fun w' hS => by go_simp⟩) (by assumption) ?_
        try simp only [Act.put, List.setIfInBounds_toArray, List.set_cons_succ, List.set_cons_zero]
        refine wpAnyH_take (i := 14) (oi := ⟨some 59, _, _, _, _, _⟩) (v := .int .u32 z2) rfl (by kernel_rfl) (by kernel_rfl) (by kernel_rfl) (fun _ _ _ h => h) (Or.inl ⟨by kernel_rfl, fun w' hS => by have hc := hS.cell (i := k - 15) (by omega) HC2.out; go_simp⟩) (by assumption) ?_
        try simp only [Act.put, List.setIfInBounds_toArray, List.set_cons_succ, List.set_cons_zero]
        refine wpAnyH_take (i := 17) (oi := ⟨some 62, _, _, _, _, _⟩) (v := .int .i64 k) rfl (by kernel_rfl) (by kernel_rfl) (by kernel_rfl) (fun _ _ _ h => h) (Or.inl ⟨by kernel_rfl, fun w' hS => by go_simp⟩) (by assumption) ?_
        try simp only [Act.put, List.setIfInBounds_toArray, List.set_cons_succ, List.set_cons_zero]
        refine wpAnyH_take (i := 18) (oi := ⟨some 63, _, _, _, _, _⟩) (v := .int .i64 ((k : Int) - 16)) rfl (by kernel_rfl) (by kernel_rfl) (by kernel_rfl) (fun _ _ _ h => h) (Or.inl ⟨by kernel_rfl, fun w' hS => by have e := IntWalk.i64_in ((k : Int) - 16) (by omega); go_simp⟩) (by assumption) ?_
        try simp only [Act.put, List.setIfInBounds_toArray, List.set_cons_succ, List.set_cons_zero]
        refine wpAnyH_take (i := 19) (oi := ⟨some 64, _, _, _, _, _⟩) (v := .pointer (some ⟨w.heap.size + 1, k - 16, none⟩)) rfl (by kernel_rfl) (by kernel_rfl) (by kernel_rfl) (fun _ _ _ h => h) (Or.inl ⟨by kernel_rfl, fun w' hS => by go_simp⟩) (by assumption) ?_
        try simp only [Act.put, List.setIfInBounds_toArray, List.set_cons_succ, List.set_cons_zero]
        refine wpAnyH_take (i := 20) (oi := ⟨some 65, _, _, _, _, _⟩) (v := .int .u32 z3) rfl (by kernel_rfl) (by kernel_rfl) (by kernel_rfl) (fun _ _ _ h => h) (Or.inl ⟨by kernel_rfl, fun w' hS => by have hc := hS.cell (i := k - 16) (by omega) HC3.out; go_simp⟩) (by assumption) ?_
        try simp only [Act.put, List.setIfInBounds_toArray, List.set_cons_succ, List.set_cons_zero]
        refine wpAnyH_ready (rs := [5]) (by kernel_rfl) (by simp) ?_
        refine AllReadyH.cons (o := _) rfl (fun K hK => ?_) AllReadyH.nil
        go_simp
        refine (f_moved' z0 17 19 10 _ l0 (by decide) (by decide) (by decide)).mono ?_
        rintro e wx1 ⟨rfl, kx1⟩
        go_wp2_with fail
        have hS1 := hS0.kept kx1
        refine hK.out _ _ hS1 (fun hHeld => ?_)
        clear hK K
        try simp only [Act.put, List.setIfInBounds_toArray, List.set_cons_succ, List.set_cons_zero]
        refine wpAnyH_take (i := 10) (oi := ⟨some 55, _, _, _, _, _⟩) (v := .int .u32 ((a32 (mvd z0 17 19 10) z1 : Nat) : Int)) rfl (by kernel_rfl) (by kernel_rfl) (by kernel_rfl) (fun _ _ _ h => h) (Or.inl ⟨by kernel_rfl, fun w' hS => by have e := i_add (mvd z0 17 19 10) z1; go_simp⟩) (by assumption) ?_
        try simp only [Act.put, List.setIfInBounds_toArray, List.set_cons_succ, List.set_cons_zero]
        refine wpAnyH_ready (rs := [15]) (by kernel_rfl) (by simp) ?_
        refine AllReadyH.cons (o := _) rfl (fun K hK => ?_) AllReadyH.nil
        go_simp
        refine (f_moved' z2 7 18 3 _ l2 (by decide) (by decide) (by decide)).mono ?_
        rintro e wx2 ⟨rfl, kx2⟩
        go_wp2_with fail
        have hS2 := hS1.kept kx2
        refine hK.out _ _ hS2 (fun hHeld => ?_)
        clear hK K
        try simp only [Act.put, List.setIfInBounds_toArray, List.set_cons_succ, List.set_cons_zero]
        refine wpAnyH_take (i := 16) (oi := ⟨some 61, _, _, _, _, _⟩) (v := .int .u32 ((a32 (a32 (mvd z0 17 19 10) z1) (mvd z2 7 18 3) : Nat) : Int)) rfl (by kernel_rfl) (by kernel_rfl) (by kernel_rfl) (fun _ _ _ h => h) (Or.inl ⟨by kernel_rfl, fun w' hS => by have e := i_add (a32 (mvd z0 17 19 10) z1) (mvd z2 7 18 3); go_simp⟩) (by assumption) ?_
        try simp only [Act.put, List.setIfInBounds_toArray, List.set_cons_succ, List.set_cons_zero]
        refine wpAnyH_take (i := 21) (oi := ⟨some 66, _, _, _, _, _⟩) (v := .int .u32 ((a32 (a32 (a32 (mvd z0 17 19 10) z1) (mvd z2 7 18 3)) z3 : Nat) : Int)) rfl (by kernel_rfl) (by kernel_rfl) (by kernel_rfl) (fun _ _ _ h => h) (Or.inl ⟨by kernel_rfl, fun w' hS => by have e := i_add (a32 (a32 (mvd z0 17 19 10) z1) (mvd z2 7 18 3)) z3; go_simp⟩) (by assumption) ?_
        try simp only [Act.put, List.setIfInBounds_toArray, List.set_cons_succ, List.set_cons_zero]
        refine wpAnyH_take (i := 22) (oi := ⟨some 67, _, _, _, _, _⟩) (v := .pointer (some ⟨w.heap.size + 1, k, none⟩)) rfl (by kernel_rfl) (by kernel_rfl) (by kernel_rfl) (fun _ _ _ h => h) (Or.inl ⟨by kernel_rfl, fun w' hS => by go_simp⟩) (by assumption) ?_
        try simp only [Act.put, List.setIfInBounds_toArray, List.set_cons_succ, List.set_cons_zero]
        refine wpAnyH_ready (rs := [23]) (by kernel_rfl) (by simp) ?_
        refine AllReadyH.cons (o := _) rfl (fun K hK => ?_) AllReadyH.nil
        obtain ⟨D, hD, hDs, -⟩ := id hS2.2
        refine step_put (v := .int .u32 ((a32 (a32 (a32 (mvd z0 17 19 10) z1) (mvd z2 7 18 3)) z3 : Nat) : Int)) (g := w.heap.size + 1) (o := k) (C := D) (T := 180) (by kernel_rfl) rfl rfl rfl Tryd.isz82 hD (by rw [hDs, ints_size]; omega) ?_
        intro wn Yn kn
        obtain ⟨hS3, hY3⟩ := hS2.put hD Yn kn
        refine hK.out _ _ hS3 (fun hHeld => ?_)
        clear hK K
        try simp only [Act.put, List.setIfInBounds_toArray, List.set_cons_succ, List.set_cons_zero]
        refine wpAnyH_done (by kernel_rfl) ?_ _
        have HS : Hid (wn.heap[w.heap.size + 1]? = some (.cells (ints .u32 (sch b (k + 1) ++ List.replicate (64 - (k + 1)) 0)) 180 (0, 0))) := by
          show _ = _
          rw [hY3, ints_set, ← HW.out, sch_set b hlt2]
        have KS : Hid (Kept (fun j => j = w.heap.size + 1) w2 wn) := KR.out.trans hS3.1
        clear hS0 hS1 hS2 hS3 hY3 Yn kn hD hDs kx1 kx2 n0 n1 n2 n3 p0 p1 p2 p3 m0 m1 m2 m3 o0 o1 o2 o3
        go_wp2_with fail
        go_roundw
        case rel => exact ⟨k + 1, by omega, by go_num, HS.out, KS.out⟩
        case measure => simp [intOf]; omega
    · obtain rfl : k = 64 := by omega
      have HL : Hid (wr.heap[w.heap.size + 1]? = some (.cells (ints .u32 (sch b 64)) 180 (0, 0))) := by
        have h := HR.out
        rw [Nat.sub_self, List.replicate_zero, List.append_nil] at h
        exact h
      have HZ : Hid (wr.heap[w.heap.size]? = some (.cells Z180 180 (0, 0))) := K.rowS (by omega) g2.out
      have hsz : (ints .u32 (sch b 64)).size = 64 := by rw [ints_size, sch_len]
      have hone := ints_one .u32 (sch b 64)
      have HSZ := Lib.hid hsz
      have HON := Lib.hid hone
      have KF : Hid (Kept (fun _ => False) w wr) := K0.out.trans' (T := fun j => j = w.heap.size + 1) K (fun j hj e => by omega)
      clear kc K hsz hone
      go_wp2_with (first | fail | ((with_reducible refine load180 (C := ints .u32 (sch b 64)) (g := w.heap.size + 1) (o := 0) ?_ (range_row HL.out) HSZ.out ?_); rfl) | ((with_reducible refine store180 (C := ints .u32 (sch b 64)) ?_ ?_ HZ.out Z180_size HSZ.out HON.out ?_); rfl; rfl))
      exact bodyPost_ret (results_180 rfl _ _ _ (setRow_heap _ _ _ _ _ _ HZ.out) HSZ.out rfl) rfl (RPost.mk rfl (KF.out.setRow (Nat.le_refl _) _))
end Go.Proofs.YtklmhegmombegaaDoor

