/-
  The contract of sha's Turn. Conditions: as the theorem says.
-/
import Derived.Test.YtklmhegmombegaaDoorShaB
set_option linter.unusedVariables false
set_option linter.unusedSimpArgs false
namespace Go.Proofs.YtklmhegmombegaaDoor
open Go Go.RowKit Plain

/-- What the package's variables hold. -/
structure Laid (w : World) : Prop where
  first : ∀ i, i < 8 → w.cell? ⟨0, i, none⟩ = some (.int .u32 ((H256.getD i 0 : Nat) : Int))
  k : ∀ i, i < 64 → w.cell? ⟨1, i, none⟩ = some (.int .u32 ((K256.getD i 0 : Nat) : Int))
theorem Laid.size {w : World} (h : Laid w) : 1 < w.heap.size := World.block_lt_of_cell? w ⟨1, 0, none⟩ (h.k 0 (by decide))
theorem Laid.kept {w w' : World} (h : Laid w) (k : Kept (fun _ => False) w w') : Laid w' :=
  ⟨fun i hi => (k.cell (p := ⟨0, i, none⟩) (by have := h.size; show 0 < _; omega) id).trans (h.first i hi), fun i hi => (k.cell (p := ⟨1, i, none⟩) h.size id).trans (h.k i hi)⟩
theorem xor_ones {a : Nat} (h : a < 4294967296) : 4294967295 ^^^ a = c32 a := by
  have e := congrArg BitVec.toNat (BitVec.allOnes_xor (x := BitVec.ofNat 32 a))
  rw [BitVec.toNat_xor, BitVec.toNat_not, BitVec.toNat_ofNat, Nat.mod_eq_of_lt h] at e
  exact e
theorem i_not {a : Nat} (h : a < 4294967296) : bits .xor .u32 4294967295 (a : Int) = ((c32 a : Nat) : Int) := by
  have := u32_xor_nat 4294967295 a (by decide) h
  rw [xor_ones h] at this
  exact this
theorem f_turned' (x a b c : Nat) (w : World) (hx : x < 4294967296) (ha : 1 ≤ a ∧ a ≤ 31) (hb : 1 ≤ b ∧ b ≤ 31) (hc : 1 ≤ c ∧ c ≤ 31) : Calls Tryd.prog 133 #[.int .u32 x, .int .i64 a, .int .i64 b, .int .i64 c] w fun e w' => e = .returned (.int .u32 (trn x a b c : Nat)) ∧ w' = w := (f_turned x a b c w hx ha hb hc).mono fun _ _ h => ⟨h.1, h.2.symm⟩
/-- A copy in a row, in a region that draws its order. -/
theorem step_copy {ops : Array Oper} {o : Oper} {a : Act} {w : World} {K : Act → World → Prop} {Q : Exit → Act → World → Prop} {E : Prop} (hgd : o.guard = none) (d s : Operand) (dT sT : TypeId)
    (ho : o.op = .call { callee := .builtin .copy, args := #[d, s], argTypes := #[dT, sT] }) (elem : TypeId) (hu : Tryd.prog.underlying dT = some (.slice elem)) (hsz : (Tryd.prog.info? elem).map (·.size) = some 1)
    (ad : Addr) (dLen dCap sLen sCap : Nat) (g off : Nat) (hd : a.eval d = .slice (some ⟨g, off, none⟩) dLen dCap) (hs : a.eval s = .slice (some ad) sLen sCap)
    (cur : Array Value) (t : TypeId) (hg : w.heap[g]? = some (.cells cur t (0, 0))) (cs : List Value) (hn : cs.length = Nat.min sLen dLen)
    (hsrc : ∀ j v, cs[j]? = some v → w.cell? (ad.add j) = some v)
    (hfit : off + cs.length ≤ cur.size) (h1 : ∀ v ∈ cs, v.oneCell' = true)
    (h : K (a.put o.dst (goInt cs.length)) (w.setRow g (cur.toList.take off ++ cs ++ cur.toList.drop (off + cs.length)).toArray)) :
    if Region.wanted o (yielded ops a.tmps) = true then Oper.wp Tryd.prog o a w K Q else E := by
  have hw : Region.wanted o (yielded ops a.tmps) = true := by simp [Region.wanted, hgd]
  rw [if_pos hw]
  have hrun := run_copy_row (P := Tryd.prog) w dT sT o.type elem g off dLen dCap ad sLen sCap cur t cs hu hsz hg hn hsrc hfit h1
  unfold Oper.wp
  simp [execOp, ho, resolve, invoke, builtin, hd, hs, hrun, Result.andThen]
  show K _ _
  simpa using h
/-- An element of an array of 64 numbers. -/
theorem run_index180 {l : List Nat} {t n : Nat} (ht : t < 64) (hc : (ints .u32 l)[t]? = some (.int .u32 (n : Int))) (w : World) : (Instr.index 180 (.agg (ints .u32 l)) (.int .i64 (t : Int))).run Tryd.prog w = .ok (.int .u32 (n : Int)) w := by
  have e1 := Tryd.underlying180
  have e2 := Tryd.underlying82
  have h1 : (0 : Int) ≤ t := by omega
  have h2 : (t : Int) < 64 := by omega
  have hs : (sizeOf 82).run Tryd.prog w = .ok 1 w := by go_simp
  simp [Instr.index, asIntOf, run_underlying e1, h1, h2, hs, part, isAgg, run_underlying e2, hc]
  intro h; omega

/-- The first i of the sums, and the rest as it was. -/
def mixL (h R : List Nat) (i : Nat) : List Nat := (List.zipWith a32 h R).take i ++ h.drop i
theorem mixL_len {h R : List Nat} {i : Nat} (hh : h.length = 8) (hR : R.length = 8) (hi : i ≤ 8) : (mixL h R i).length = 8 := by simp [mixL, hh, hR]; omega
theorem mixL_at {h R : List Nat} {i : Nat} (hh : h.length = 8) (hR : R.length = 8) (hi : i < 8) : (mixL h R i).getD i 0 = h.getD i 0 := by
  have hl : ((List.zipWith a32 h R).take i).length = i := by simp [hh, hR]; omega
  rw [List.getD_eq_getElem?_getD, List.getD_eq_getElem?_getD, mixL, List.getElem?_append_right (by omega), hl, Nat.sub_self, List.getElem?_drop, Nat.add_zero]
theorem mixL_set {h R : List Nat} {i : Nat} (hh : h.length = 8) (hR : R.length = 8) (hi : i < 8) : (mixL h R i).set i (a32 (h.getD i 0) (R.getD i 0)) = mixL h R (i + 1) := by
  have hl : ((List.zipWith a32 h R).take i).length = i := by simp [hh, hR]; omega
  have hz : i < (List.zipWith a32 h R).length := by simp [hh, hR]; omega
  have e : (List.zipWith a32 h R)[i]'hz = a32 (h.getD i 0) (R.getD i 0) := by
    rw [List.getElem_zipWith, List.getD_eq_getElem?_getD, List.getD_eq_getElem?_getD, List.getElem?_eq_getElem (by omega), List.getElem?_eq_getElem (by omega)]; rfl
  unfold mixL
  rw [List.set_append_right _ _ (by omega), hl, Nat.sub_self, List.drop_eq_getElem_cons (show i < h.length by omega), List.set_cons_zero, ← List.take_append_getElem hz, e, List.append_assoc]
  rfl
theorem mixL_all {h R : List Nat} (hh : h.length = 8) (hR : R.length = 8) : mixL h R 8 = List.zipWith a32 h R := by
  unfold mixL
  rw [List.take_of_length_le (by simp [hh, hR]), List.drop_of_length_le (by omega), List.append_nil]
set_option maxRecDepth 100000 in
set_option maxHeartbeats 8000000 in
theorem f_turn (v : Value) (h b : List Nat) (w : World) (hL : Laid w) (hh : h.length = 8) (hA : All32 h) (hb : HBytes w v b) (hl : b.length = 64) : Calls Tryd.prog 121 #[.agg (ints .u32 h), v] w (RPost (.agg (ints .u32 (turn h b))) w) := by
  obtain ⟨g2, g4, g5⟩ := heap_alloc3 w (.cells (ints .u32 h) 173) (.cells Z173 173) (.cells Z173 173)
  have KA := Lib.hid (((Kept.refl (fun _ => False) w).alloc (.cells (ints .u32 h) 173)).alloc (.cells Z173 173))
  have hsz := Lib.hid (show (ints .u32 h).size = 8 by rw [ints_size, hh])
  have hone := Lib.hid (ints_one .u32 h)
  obtain ⟨a, c, rfl⟩ := hb.form
  have HB := Lib.hid hb
  have HLL := Lib.hid hL
  have HA := Lib.hid hA
  have HH := Lib.hid hh
  have hlz := hL.size
  have g20 := Lib.hid (heap_alloc2_old w (.cells (ints .u32 h) 173) (.cells Z173 173))
  have g40 := Lib.hid (heap_alloc2_new w (.cells (ints .u32 h) 173) (.cells Z173 173))
  have hz : Hid (((w.alloc (.cells (ints .u32 h) 173)).alloc (.cells Z173 173)).heap.size = w.heap.size + 1 + 1) := by show _ = _; simp
  rw [hl]
  have HLN := Lib.hid hl
  clear hb hL hA hh g2 g4 g5 hl
  go_enter Tryd.func121, Tryd.ntmps121
  go_upto_region 3 with (first | fail | (with_reducible refine alloc173 ?_))
  generalize (w.alloc (.cells (ints .u32 h) 173)).alloc (.cells Z173 173) = u at *
  have z5 := Lib.hid (heap_alloc_new u (.cells Z173 173))
  obtain ⟨y5, k5⟩ := alloc_set u Z173 (ints .u32 h) 173
  have Y5 := Lib.hid y5
  have K5 := Lib.hid k5
  clear y5 k5
  go_upto_region 4 with (first | fail | ((with_reducible refine load173 (C := ints .u32 h) (g := w.heap.size) (o := 0) ?_ (range_row g20.out) hsz.out ?_); rfl) | (with_reducible refine alloc173 ?_) | ((with_reducible refine store173 (C := ints .u32 h) ?_ ?_ z5.out Z173_size hsz.out hone.out ?_); rfl; rfl))
  generalize (u.alloc (.cells Z173 173)).setRow u.heap.size (ints .u32 h) = u2 at *
  rw [hz.out] at Y5 ⊢
  have G2 := Lib.hid (K5.out.row g20.out)
  have G4 := Lib.hid (K5.out.row g40.out)
  have K2 := Lib.hid (KA.out.trans K5.out)
  clear z5 K5 hz g20 g40 KA
  have HSC := Lib.hid (f_sched _ b u2 (HB.out.kept K2.out) HLN.out)
  rw [HLN.out] at HSC
  go_wp2_with fail
  refine HSC.out.mono ?_
  rintro e w3 ⟨rfl, k3⟩
  have G2' := Lib.hid (k3.row G2.out)
  have G4' := Lib.hid (k3.row G4.out)
  have G5' := Lib.hid (k3.row Y5.out)
  have K3 := Lib.hid (K2.out.trans k3)
  clear k3 HSC G2 G4 Y5 K2
  go_wp2_with fail
  have HIX : Hid (∀ t, t < 64 → (ints .u32 (sch b 64))[t]? = some (.int .u32 (((sch b 64).getD t 0 : Nat) : Int))) := fun t ht => ints_get .u32 (by rw [sch_len]; exact ht)
  have hs3 : w.heap.size + 1 + 1 < w3.heap.size := row_lt G5'.out
  go_loopw [18] (fun i wr => ∃ t : Nat, t ≤ 64 ∧ i = .int .i64 t ∧ Hid (wr.heap[w.heap.size + 1 + 1]? = some (.cells (ints .u32 (rnds (sch b 64) h t)) 173 (0, 0))) ∧ Kept (fun j => j = w.heap.size + 1 + 1) w3 wr) (fun i _ => 64 - (intOf i).toNat)
  case atStart => exact ⟨0, by omega, rfl, G5'.out, Kept.refl _ _⟩
  case round =>
    obtain ⟨t, ht, rfl, HR, K⟩ := hrel
    have KR := Lib.hid K
    by_cases hlt : t < 64
    · have HST : Hid (rnds (sch b 64) h (t + 1) = rnd (rnds (sch b 64) h t) (K256.getD t 0) ((sch b 64).getD t 0)) := rfl
      obtain ⟨s0, s1, s2, s3, s4, s5, s6, s7, hs⟩ := eight' (rnds_len (W := sch b 64) HH.out t)
      have hall := rnds_all (W := sch b 64) HA.out t
      rw [hs] at hall HST HR
      have b0 := hall s0 (by simp)
      have b1 := hall s1 (by simp)
      have b2 := hall s2 (by simp)
      have b4 := hall s4 (by simp)
      have b5 := hall s5 (by simp)
      have b6 := hall s6 (by simp)
      have c0 := ints_cell HR.out (i := 0) (by simp)
      have c1 := ints_cell HR.out (i := 1) (by simp)
      have c2 := ints_cell HR.out (i := 2) (by simp)
      have c3 := ints_cell HR.out (i := 3) (by simp)
      have c4 := ints_cell HR.out (i := 4) (by simp)
      have c5 := ints_cell HR.out (i := 5) (by simp)
      have c6 := ints_cell HR.out (i := 6) (by simp)
      have c7 := ints_cell HR.out (i := 7) (by simp)
      simp only [List.getD_cons_zero, List.getD_cons_succ] at c0 c1 c2 c3 c4 c5 c6 c7
      have ck := (K.cell (p := ⟨1, t, none⟩) (by show 1 < _; omega) (by show ¬ (1 = _); omega)).trans ((K3.out.cell (p := ⟨1, t, none⟩) hlz id).trans (HLL.out.k t hlt))
      have ix := fun w' => run_index180 (l := sch b 64) hlt (HIX.out t hlt) w'
      have bk := K256_all.getD t
      generalize K256.getD t 0 = kt at ck HST bk
      generalize (sch b 64).getD t 0 = wt at ix HST
      have e1 := i_add s7 (trn s4 6 11 25)
      have e2 := i_and b4 b5
      have e3 : bits .xor .u32 (if IntKind.u32.signed = true then -1 else IntKind.u32.max) (s4 : Int) = ((c32 s4 : Nat) : Int) := i_not b4
      have e4 := i_and (c32_lt s4) b6
      have e5 := i_xor (n32_lt (b := s5) b4) (n32_lt (b := s6) (c32_lt s4))
      have e6 := i_add (a32 s7 (trn s4 6 11 25)) (x32 (n32 s4 s5) (n32 (c32 s4) s6))
      have e7 := i_add (a32 (a32 s7 (trn s4 6 11 25)) (x32 (n32 s4 s5) (n32 (c32 s4) s6))) kt
      have e8 := i_add (a32 (a32 (a32 s7 (trn s4 6 11 25)) (x32 (n32 s4 s5) (n32 (c32 s4) s6))) kt) wt
      have htz : (t : Int) < 64 := by omega
      clear hall K
      go_upto_region 7 with (fail)
      go_quiet ((go_at_call 133; exact Calls.quiet_of_same (f_turned' s4 _ _ _ _ b4 (by decide) (by decide) (by decide))))
      clear e1 e2 e3 e4 e5 e6 e7 e8 ck
      have HO : Hid (one [s0, s1, s2, s3, s4, s5, s6, s7] kt wt = a32 (a32 (a32 (a32 s7 (trn s4 6 11 25)) (x32 (n32 s4 s5) (n32 (c32 s4) s6))) kt) wt) := rfl
      generalize a32 (a32 (a32 (a32 s7 (trn s4 6 11 25)) (x32 (n32 s4 s5) (n32 (c32 s4) s6))) kt) wt = one1 at *
      have hcd : ∀ i, (wr.drewN nq).cell? ⟨w.heap.size + 1 + 1, i, none⟩ = wr.cell? ⟨w.heap.size + 1 + 1, i, none⟩ := fun i => rfl
      have HRd : Hid ((wr.drewN nq).heap[w.heap.size + 1 + 1]? = some (.cells (ints .u32 [s0, s1, s2, s3, s4, s5, s6, s7]) 173 (0, 0))) := HR.out
      have KRd : Hid (Kept (fun j => j = w.heap.size + 1 + 1) w3 (wr.drewN nq)) := KR.out.drewN nq
      rw [← hcd] at c0 c1 c2 c3 c4
      clear hcd c5 c6 c7 HR KR ix
      generalize wr.drewN nq = wq at *
      have e1 := i_and b0 b1
      have e2 := i_and b0 b2
      have e3 := i_xor (n32_lt (b := s1) b0) (n32_lt (b := s2) b0)
      have e4 := i_and b1 b2
      have e5 := i_xor (x32_lt (n32_lt (b := s1) b0) (n32_lt (b := s2) b0)) (n32_lt (b := s2) b1)
      have e6 := i_add (trn s0 2 13 22) (x32 (x32 (n32 s0 s1) (n32 s0 s2)) (n32 s1 s2))
      go_upto_region 8 with (fail)
      go_quiet ((go_at_call 133; exact Calls.quiet_of_same (f_turned' s0 _ _ _ _ b0 (by decide) (by decide) (by decide))))
      clear e1 e2 e3 e4 e5 e6
      have HT : Hid (two [s0, s1, s2, s3, s4, s5, s6, s7] = a32 (trn s0 2 13 22) (x32 (x32 (n32 s0 s1) (n32 s0 s2)) (n32 s1 s2))) := rfl
      generalize a32 (trn s0 2 13 22) (x32 (x32 (n32 s0 s1) (n32 s0 s2)) (n32 s1 s2)) = two1 at *
      have HRe : Hid ((wq.drewN nq).heap[w.heap.size + 1 + 1]? = some (.cells (ints .u32 [s0, s1, s2, s3, s4, s5, s6, s7]) 173 (0, 0))) := HRd.out
      have KRe : Hid (Kept (fun j => j = w.heap.size + 1 + 1) w3 (wq.drewN nq)) := KRd.out.drewN nq
      clear HRd KRd c0 c1 c2 c3 c4
      generalize wq.drewN nq = wp at *
      have hS0 : True := trivial
      have HHD : Hid (wp.drew.heap[w.heap.size + 1 + 1]? = some (.cells (ints .u32 [s0, s1, s2, s3, s4, s5, s6, s7]) 173 (0, 0))) := HRe.out
      have KHD : Hid (Kept (fun j => j = w.heap.size + 1 + 1) w3 wp.drew) := KRe.out.drew
      clear HRe KRe
      go_upto_region 9 with (fail)
      refine wp_region_held_drew (S := fun w' => True) (by kernel_rfl) hS0 (fun hHeld => ?_)
      generalize wp.drew = wd at *
      refine wpAnyH_take (i := 0) (oi := ⟨some 68, _, _, _, _, _⟩) (v := .slice (some ⟨w.heap.size + 1 + 1, 1, none⟩) 7 7) rfl (by kernel_rfl) (by kernel_rfl) (by kernel_rfl) (fun _ _ _ h => h) (Or.inl ⟨by kernel_rfl, fun w' hS => by go_simp⟩) (by assumption) ?_
      try simp only [Act.put, List.setIfInBounds_toArray, List.set_cons_succ, List.set_cons_zero]
      refine wpAnyH_take (i := 1) (oi := ⟨some 69, _, _, _, _, _⟩) (v := .slice (some ⟨w.heap.size + 1 + 1, 0, none⟩) 7 8) rfl (by kernel_rfl) (by kernel_rfl) (by kernel_rfl) (fun _ _ _ h => h) (Or.inl ⟨by kernel_rfl, fun w' hS => by go_simp⟩) (by assumption) ?_
      try simp only [Act.put, List.setIfInBounds_toArray, List.set_cons_succ, List.set_cons_zero]
      refine wpAnyH_ready (rs := [2]) (by kernel_rfl) (by simp) ?_
      refine AllReadyH.cons (o := _) rfl (fun K hK => ?_) AllReadyH.nil
      refine step_copy rfl (.tmp 68) (.tmp 69) 183 183 rfl 82 Tryd.underlying183 Tryd.isz82 ⟨w.heap.size + 1 + 1, 0, none⟩ 7 7 7 8 (w.heap.size + 1 + 1) 1 rfl rfl (ints .u32 [s0, s1, s2, s3, s4, s5, s6, s7]) 173 HHD.out ([s0, s1, s2, s3, s4, s5, s6].map fun (n : Nat) => Value.int .u32 (n : Int)) rfl (fun j v hv => ?_) (by simp [ints]) (fun v hv => by obtain ⟨n, _, rfl⟩ := List.mem_map.1 hv; rfl) ?_
      · rw [Addr.add_none, Nat.zero_add]
        refine (row_cell HHD.out ?_)
        have hj : j < 7 := by have := (List.getElem?_eq_some_iff.1 hv).1; simpa using this
        rw [← hv]
        unfold ints
        have h7 : j = 0 ∨ j = 1 ∨ j = 2 ∨ j = 3 ∨ j = 4 ∨ j = 5 ∨ j = 6 := by omega
        rcases h7 with rfl | rfl | rfl | rfl | rfl | rfl | rfl <;> rfl
      have hrow : Hid ((wd.setRow (w.heap.size + 1 + 1) ((ints .u32 [s0, s1, s2, s3, s4, s5, s6, s7]).toList.take 1 ++ ([s0, s1, s2, s3, s4, s5, s6].map fun (n : Nat) => Value.int .u32 (n : Int)) ++ (ints .u32 [s0, s1, s2, s3, s4, s5, s6, s7]).toList.drop (1 + ([s0, s1, s2, s3, s4, s5, s6].map fun (n : Nat) => Value.int .u32 (n : Int)).length)).toArray).heap[w.heap.size + 1 + 1]? = some (.cells (ints .u32 [s0, s0, s1, s2, s3, s4, s5, s6]) 173 (0, 0))) := setRow_heap _ _ _ _ _ _ HHD.out
      have hkr := Lib.hid (KHD.out.setRow' (g := w.heap.size + 1 + 1) rfl ((ints .u32 [s0, s1, s2, s3, s4, s5, s6, s7]).toList.take 1 ++ ([s0, s1, s2, s3, s4, s5, s6].map fun (n : Nat) => Value.int .u32 (n : Int)) ++ (ints .u32 [s0, s1, s2, s3, s4, s5, s6, s7]).toList.drop (1 + ([s0, s1, s2, s3, s4, s5, s6].map fun (n : Nat) => Value.int .u32 (n : Int)).length)).toArray)
      generalize wd.setRow (w.heap.size + 1 + 1) _ = w9 at *
      clear HHD KHD
      refine hK.out _ _ trivial (fun hHeld => ?_)
      clear hK K
      try simp only [Act.put, List.setIfInBounds_toArray, List.set_cons_succ, List.set_cons_zero]
      refine wpAnyH_done (by kernel_rfl) ?_ _
      have d0 := ints_cell hrow.out (i := 0) (by simp)
      have d4 := ints_cell hrow.out (i := 4) (by simp)
      simp only [List.getD_cons_zero, List.getD_cons_succ] at d0 d4
      have f0 := free_of_block (j := 0) hrow.out
      have f4 := free_of_block (j := 4) hrow.out
      have e1 := i_add s3 one1
      have e2 := i_add one1 two1
      go_wp2_with fail
      have HF : Hid (((w9.setCell ⟨w.heap.size + 1 + 1, 4, none⟩ (.int .u32 ((a32 s3 one1 : Nat) : Int))).setCell ⟨w.heap.size + 1 + 1, 0, none⟩ (.int .u32 ((a32 one1 two1 : Nat) : Int))).heap[w.heap.size + 1 + 1]? = some (.cells (ints .u32 (rnds (sch b 64) h (t + 1))) 173 (0, 0))) := by
        show _ = _
        rw [setCell_block (setCell_block hrow.out _) _, ints_set, ints_set, HST.out]
        unfold rnd
        rw [HO.out, HT.out]
        rfl
      have KF := Lib.hid ((hkr.out.setCell (p := ⟨w.heap.size + 1 + 1, 4, none⟩) (.inl rfl) (.int .u32 ((a32 s3 one1 : Nat) : Int))).setCell (p := ⟨w.heap.size + 1 + 1, 0, none⟩) (.inl rfl) (.int .u32 ((a32 one1 two1 : Nat) : Int)))
      clear d0 d4 f0 f4 e1 e2 hrow hkr
      go_roundw
      case rel => exact ⟨t + 1, by omega, by go_num, HF.out, KF.out⟩
      case measure => simp [intOf]; omega
    · obtain rfl : t = 64 := by omega
      rw [show ((64 : Nat) : Int) = (64 : Int) from rfl]
      have G2w := Lib.hid (K.rowS (by omega) G2'.out)
      have G4w := Lib.hid (K.rowS (by omega) G4'.out)
      have K9 : Hid (Kept (fun _ => False) w wr) := K3.out.trans' (T := fun j => j = w.heap.size + 1 + 1) K (fun j hj e => by omega)
      have hRl := rnds_len (W := sch b 64) HH.out 64
      have HRL := Lib.hid hRl
      have HTN : Hid (turn h b = List.zipWith a32 h (rnds (sch b 64) h 64)) := rfl
      have hsw : w.heap.size + 1 + 1 < wr.heap.size := row_lt HR.out
      generalize rnds (sch b 64) h 64 = R at *
      clear K KR hRl
      go_wp2_with fail
      go_loopw [81] (fun j wq => ∃ i : Nat, i ≤ 8 ∧ j = .int .i64 i ∧ Hid (wq.heap[w.heap.size]? = some (.cells (ints .u32 (mixL h R i)) 173 (0, 0))) ∧ Kept (fun j => j = w.heap.size) wr wq) (fun j _ => 8 - (intOf j).toNat)
      case atStart => exact ⟨0, by omega, rfl, G2w.out, Kept.refl _ _⟩
      case round =>
        obtain ⟨i, hi, rfl, HM, KK⟩ := hrel
        have KQ := Lib.hid KK
        by_cases hlt8 : i < 8
        · have hml := mixL_len (i := i) HH.out HRL.out (by omega)
          have c2 := ints_cell HM.out (i := i) (by omega)
          rw [mixL_at HH.out HRL.out hlt8] at c2
          have c5 := ints_cell (KK.rowS (by omega) HR.out) (i := i) (by rw [HRL.out]; exact hlt8)
          have HST : Hid ((mixL h R i).set i (a32 (h.getD i 0) (R.getD i 0)) = mixL h R (i + 1)) := mixL_set HH.out HRL.out hlt8
          have f2 := free_of_block (j := i) HM.out
          generalize h.getD i 0 = x at *
          generalize R.getD i 0 = y at *
          have e1 := i_add x y
          have hi8 : (i : Int) < 8 := by omega
          clear KK hml
          go_upto_region 16 with (fail)
          go_still_tail 7, (by kernel_rfl)
          change wpList _ _ _ _ _ wr.drew
          have c2d : wr.drew.cell? ⟨w.heap.size, i, none⟩ = some (.int .u32 ((x : Nat) : Int)) := c2
          have f2d : wr.drew.frozen? ⟨w.heap.size, i, none⟩ = false := f2
          have HMd : Hid (wr.drew.heap[w.heap.size]? = some (.cells (ints .u32 (mixL h R i)) 173 (0, 0))) := HM.out
          have KQd := Lib.hid KQ.out.drew
          clear c2 c5 f2 HM KQ e1
          generalize wr.drew = wd at *
          go_wp2_with fail
          have HF : Hid ((wd.setCell ⟨w.heap.size, i, none⟩ (.int .u32 ((a32 x y : Nat) : Int))).heap[w.heap.size]? = some (.cells (ints .u32 (mixL h R (i + 1))) 173 (0, 0))) := by
            show _ = _
            rw [setCell_block HMd.out _, ints_set, HST.out]
          have KF := Lib.hid (KQd.out.setCell (p := ⟨w.heap.size, i, none⟩) (.inl rfl) (.int .u32 ((a32 x y : Nat) : Int)))
          clear c2d f2d HMd KQd
          go_roundw
          case rel => exact ⟨i + 1, by omega, by go_num, HF.out, KF.out⟩
          case measure => simp [intOf]; omega
        · obtain rfl : i = 8 := by omega
          have HF : Hid (wr.heap[w.heap.size]? = some (.cells (ints .u32 (turn h b)) 173 (0, 0))) := by
            have := HM.out
            rw [mixL_all HH.out HRL.out, ← HTN.out] at this
            exact this
          have G4q := Lib.hid (KK.rowS (by omega) G4w.out)
          have hsz2 := Lib.hid (show (ints .u32 (turn h b)).size = 8 by rw [ints_size, turn_len HH.out])
          have hone2 := Lib.hid (ints_one .u32 (turn h b))
          have KF : Hid (Kept (fun _ => False) w wr) := K9.out.trans' (T := fun j => j = w.heap.size) KK (fun j hj e => by omega)
          clear KK
          go_wp2_with (first | fail | ((with_reducible refine load173 (C := ints .u32 (turn h b)) (g := w.heap.size) (o := 0) ?_ (range_row HF.out) hsz2.out ?_); rfl) | ((with_reducible refine store173 (C := ints .u32 (turn h b)) ?_ ?_ G4q.out Z173_size hsz2.out hone2.out ?_); rfl; rfl))
          exact bodyPost_ret (results_173 rfl _ _ _ (setRow_heap _ _ _ _ _ _ G4q.out) hsz2.out rfl) rfl (RPost.mk rfl (KF.out.setRow (by omega) _))
end Go.Proofs.YtklmhegmombegaaDoor
