/-
  The contract of the reference's Sum. Conditions: as the theorem says.
-/
import Derived.Test.YtklmhegmombegaaDoorRsC
import Derived.Test.YtklmhegmombegaaDoorBufX
set_option linter.unusedVariables false
set_option linter.unusedSimpArgs false
set_option maxRecDepth 100000
namespace Go.Proofs.YtklmhegmombegaaDoor
open Go Go.RowKit Plain
section
variable {ops : Array Oper} {dst : Option Tmp} {ty : TypeId} {pos : String} {aft : Array Edge} {gd : Option (Nat × Bool)} {a : Act} {w : World} {Q : Exit → Act → World → Prop} {K : Act → World → Prop} {E : Prop} {x : Operand} {g o : Nat} {C : Array Value}
theorem step_load173 (hw : Region.wanted ⟨dst, .load 173 x, ty, pos, aft, gd⟩ (yielded ops a.tmps) = true) (hx : a.eval x = .pointer (some ⟨g, o, none⟩)) (hr : w.rangeAt g o C.toList) (hC : C.size = 8) (h : K (a.put dst (.agg C)) w) :
    if Region.wanted ⟨dst, .load 173 x, ty, pos, aft, gd⟩ (yielded ops a.tmps) = true then Oper.wp Tryd.prog ⟨dst, .load 173 x, ty, pos, aft, gd⟩ a w K Q else E := by
  rw [if_pos hw]
  have hl := run_loadAt_mid (P := Tryd.prog) w g o 173 C.toList _ hr Tryd.underlying173 rfl (by rw [Tryd.isz173]; simp [hC])
  rw [Array.toArray_toList] at hl
  unfold Oper.wp execOp
  simp only [hx, Sem.run_bind, hl, Result.andThen_ok, Sem.run_pure]
  exact h
end
namespace Plain
/-- A hash of which some words, and the last bytes of one, are laid. -/
def inL (l : List Nat) (i j : Nat) : List Nat := (List.range 32).map fun p => if p < 4 * i ∨ (4 * i + 4 - j ≤ p ∧ p < 4 * i + 4) then l.getD p 0 else 0
theorem inL_len (l : List Nat) (i j : Nat) : (inL l i j).length = 32 := by simp [inL]
theorem inL_zero (l : List Nat) : inL l 0 0 = List.replicate 32 0 := by
  unfold inL
  rw [show List.replicate 32 0 = (List.range 32).map fun _ => 0 by rfl]
  refine List.map_congr_left fun p hp => ?_
  rw [if_neg]; omega
theorem inL_set {l : List Nat} {i j : Nat} (hi : i < 8) (hj : j < 4) : (inL l i j).set (4 * i + (3 - j)) (l.getD (4 * i + (3 - j)) 0) = inL l i (j + 1) := by
  apply List.ext_getElem?
  intro p
  rw [List.getElem?_set]
  by_cases hp : p < 32
  · by_cases e : 4 * i + (3 - j) = p
    · subst e
      rw [if_pos rfl, if_pos (by rw [inL_len]; omega)]
      unfold inL
      rw [List.getElem?_map, List.getElem?_range hp, Option.map_some, if_pos]
      omega
    · rw [if_neg e]
      unfold inL
      rw [List.getElem?_map, List.getElem?_map, List.getElem?_range hp, Option.map_some, Option.map_some]
      congr 1
      by_cases h1 : p < 4 * i ∨ (4 * i + 4 - j ≤ p ∧ p < 4 * i + 4)
      · rw [if_pos h1, if_pos (by omega)]
      · rw [if_neg h1, if_neg (by omega)]
  · rw [if_neg (by omega), List.getElem?_eq_none (by rw [inL_len]; omega), List.getElem?_eq_none (by rw [inL_len]; omega)]
theorem inL_next {l : List Nat} {i : Nat} : inL l i 4 = inL l (i + 1) 0 := by
  unfold inL
  refine List.map_congr_left fun p hp => ?_
  by_cases h : p < 4 * i ∨ (4 * i + 4 - 4 ≤ p ∧ p < 4 * i + 4)
  · rw [if_pos h, if_pos (by omega)]
  · rw [if_neg h, if_neg (by omega)]
theorem inL_all {l : List Nat} (hl : l.length = 32) : inL l 8 0 = l := by
  apply List.ext_getElem?
  intro p
  by_cases hp : p < 32
  · unfold inL
    rw [List.getElem?_map, List.getElem?_range hp, Option.map_some, if_pos (by omega), List.getD_eq_getElem?_getD, List.getElem?_eq_getElem (by omega)]
    rfl
  · rw [List.getElem?_eq_none (by rw [inL_len]; omega), List.getElem?_eq_none (by omega)]
def lo8 (y : Nat) : Nat := y % 256
def hi8 (x j : Nat) : Nat := x / 256 ^ j
theorem hi8_zero (x : Nat) : hi8 x 0 = x := by simp [hi8]
theorem lo_hi {x j : Nat} (hj : j < 4) : lo8 (hi8 x j) = x / 2 ^ (24 - 8 * (3 - j)) % 256 := by
  have h : j = 0 ∨ j = 1 ∨ j = 2 ∨ j = 3 := by omega
  rcases h with rfl | rfl | rfl | rfl <;> simp [lo8, hi8]
theorem hi8_le (x j : Nat) : hi8 x j ≤ x := Nat.div_le_self _ _
end Plain
theorem k_lo (y : Nat) : ((y : Int)).tmod 256 = ((lo8 y : Nat) : Int) := by rw [Int.tmod_eq_emod_of_nonneg (by omega)]; unfold lo8; omega
theorem k_lo1 (y : Nat) : ((lo8 y : Nat) : Int) % 256 = ((lo8 y : Nat) : Int) := by unfold lo8; omega
theorem k_lo2 (y : Nat) : IntKind.u8.wrap ((lo8 y : Nat) : Int) = ((lo8 y : Nat) : Int) := by rw [IntKind.wrap_u8]; unfold lo8; omega
theorem k_hi (x j : Nat) : ((hi8 x j : Nat) : Int).tdiv 256 = ((hi8 x (j + 1) : Nat) : Int) := by
  rw [Int.tdiv_eq_ediv_of_nonneg (by omega)]
  unfold hi8
  rw [Nat.pow_succ, ← Nat.div_div_eq_div_mul]
  omega
theorem k_hi' (x j : Nat) : ((hi8 x j : Nat) : Int) / 256 = ((hi8 x (j + 1) : Nat) : Int) := by
  unfold hi8
  rw [Nat.pow_succ, ← Nat.div_div_eq_div_mul]
  omega
theorem k_hi2 {x : Nat} (hx : x < 4294967296) (j : Nat) : IntKind.u32.wrap ((hi8 x j : Nat) : Int) = ((hi8 x j : Nat) : Int) := j_u32 (Nat.lt_of_le_of_lt (hi8_le x j) hx)
theorem sub0 {w : World} {b o k c : Nat} {l : List Nat} (h : HBytes w (.slice (some ⟨b, 0 + o, none⟩) k c) l) : HBytes w (.slice (some ⟨b, o, none⟩) k c) l := by rwa [Nat.zero_add] at h
set_option maxHeartbeats 8000000 in
theorem f_rsum (v : Value) (l : List Nat) (w : World) (hL : Laid w) (hb : HBytes w v l) (hn : l.length ≤ 1000000) : Calls Tryd.prog 97 #[v] w (RPost (.agg (ints .u8 (sha l))) w) := by
  obtain ⟨i5, hi, hsz, hby, hz⟩ := info5'
  obtain ⟨av, cv, rfl⟩ := hb.form
  have k1 := ((Kept.refl (fun _ => False) w).alloc (.cells Z26 26)).alloc (.cells #[] 5)
  have GZ := Lib.hid (heap_alloc2_old w (.cells Z26 26) (.cells #[] 5))
  have g2 := heap_alloc2_new w (.cells Z26 26) (.cells #[] 5)
  have HE : Hid (Buf ((w.alloc (.cells Z26 26)).alloc (.cells #[] 5)) (w.heap.size + 1) 5 1 (.slice (some ⟨w.heap.size + 1, 0, none⟩) 0 0) 0 []) := ⟨rfl, .inr ⟨w.heap.size + 1, 0, #[], rfl, Nat.le_refl _, g2, Nat.le_refl _, by decide, by simp, rfl⟩⟩
  have HX := Lib.hid ((hb.kept k1).src)
  have HW1 : Hid (w.heap.size + 1 ≤ ((w.alloc (.cells Z26 26)).alloc (.cells #[] 5)).heap.size) := by show _ ≤ _; simp
  have K1 := Lib.hid k1
  have HL0 := Lib.hid hL
  have h8 := Lib.hid hb.2.1
  have HLL : Hid (sha l = bytesOf (blocksFrom H256 ((l.length + (fill l.length).length) / 64) (l ++ fill l.length))) := rfl
  have hml : l.length ≤ maxLen := hb.2.2.1
  clear hb hL k1 g2
  generalize hN : l.length = n at *
  go_enter Tryd.func97, Tryd.ntmps97
  go_wp2_with (first | fail | (with_reducible refine alloc26 ?_) | (at_builtin; refine wpList_append_buf _ rfl (.tmp 10) (.tmp 11) 28 28 rfl (w.heap.size + 1) 5 i5 (.int .u8 0) 1 1 Tryd.underlying28 hi hz hsz hby rfl (by decide) _ _ _ rfl HE.out _ _ _ rfl HX.out (by unfold maxLen; omega) (by omega) HW1.out ?_; intro v2 w2 hb2 hg2 ho2 hn2; rw [Nat.zero_add, List.nil_append] at hb2; have HB2 := Lib.hid hb2; obtain ⟨a2, c2, rfl, -⟩ := hb2.form; have K2 := Lib.hid (K1.out.grown hg2 (fun j hj => by have hj' : some (w.heap.size + 1) = some j := hj; simp only [Option.some.injEq] at hj'; exact .inr (by omega))); have GZ2 := Lib.hid ((hg2.block w.heap.size (row_lt GZ.out) (fun e => by have e' : some w.heap.size = some (w.heap.size + 1) := e; simp only [Option.some.injEq] at e'; omega)).trans GZ.out); clear hb2 hg2 ho2 hn2))
  refine (f_rfill n _ (by omega)).mono ?_
  rintro e w3 ⟨v3, rfl, hb3, k3⟩
  have HS3 := Lib.hid ((Buf.bytes hb3 (fill_all n)).src)
  have HF3 := Lib.hid (fill_short n)
  have HB3 := Lib.hid (HB2.out.kept k3 (fun _ _ h => h))
  have K3 := Lib.hid (K2.out.trans k3)
  have GZ3 := Lib.hid (k3.row GZ2.out)
  have HW3 : Hid (w.heap.size + 1 ≤ w3.heap.size) := row_lt GZ3.out
  obtain ⟨a3, c3, rfl, -⟩ := hb3.form
  have hfs := HF3.out
  clear hb3 k3 HB2 K2 GZ2
  generalize hM : (fill n).length = m at *
  go_upto_region 2 with (first | fail | (at_builtin; refine wpList_append_buf _ rfl (.tmp 12) (.tmp 15) 28 28 rfl (w.heap.size + 1) 5 i5 (.int .u8 0) 1 1 Tryd.underlying28 hi hz hsz hby rfl (by decide) _ _ _ rfl HB3.out _ _ _ rfl HS3.out (by unfold maxLen; omega) (by omega) HW3.out ?_; intro v4 w4 hb4 hg4 ho4 hn4; have HB4 := Lib.hid hb4; obtain ⟨a4, c4, rfl, -⟩ := hb4.form; have HG4 := Lib.hid hg4; clear hb4 hg4 ho4 hn4))
  have K4 := Lib.hid (K3.out.grown HG4.out (fun j hj => .inr (by have := (HB3.out.lt j hj).1; omega)))
  obtain ⟨g, hga⟩ : ∃ g, a4 = some ⟨g, 0, none⟩ := buf_some HB4.out (by omega)
  subst hga
  have hgw := HB4.out.lt g rfl
  have HB5 : HBytes w4 (.slice (some ⟨g, 0, none⟩) (n + m) c4) (l ++ fill n) := by
    have h := HB4.out
    rw [← bys_app] at h
    have e : n + m = (l ++ fill n).length := by rw [List.length_append, hN, hM]
    rw [e] at h ⊢
    exact h.bytes (fun x hx => by
      rcases List.mem_append.1 hx with hx | hx
      · exact h8.out x hx
      · exact fill_all n x hx)
  have HBB := Lib.hid HB5
  obtain ⟨cur, hcur, -, hcc, hcm, -, -⟩ := buf_row HB4.out
  have hlen : (l ++ fill n).length = n + m := by rw [List.length_append, hN, hM]
  have HLEN := Lib.hid hlen
  have GZ4 := Lib.hid ((HG4.out.block w.heap.size (row_lt GZ3.out) (fun e => by have := (HB3.out.lt _ e.symm); omega)).trans GZ3.out)
  obtain ⟨N, hN64⟩ : ∃ N, n + m = 64 * N := ⟨(n + m) / 64, by have := pad_len n; rw [hM] at this; omega⟩
  have HN64 := Lib.hid hN64
  have HSH : Hid (sha l = bytesOf (blocksFrom H256 N (l ++ fill n))) := by
    show _ = _
    rw [HLL.out, hN64, Nat.mul_div_cancel_left _ (by decide)]
  have HL4 := Lib.hid (HL0.out.kept K4.out)
  have hLR := Lib.hid (HL4.out.range)
  have zh := Lib.hid (heap_alloc_new w4 (.cells Z173 173))
  obtain ⟨yh, kh⟩ := alloc_set w4 Z173 (ints .u32 H256) 173
  have H5 := Lib.hid yh
  have K45 := Lib.hid kh
  have hHz : Hid ((ints .u32 H256).size = 8) := rfl
  have hHo := Lib.hid (ints_one .u32 H256)
  have hg4 : g < w4.heap.size := hgw.2
  clear yh kh HB4 HB3 HS3 HX HE HG4 K1 HW1 HW3 K3 GZ GZ3 hcur cur HLL HF3 HB5 hgw
  go_wp2_with (first | fail | ((with_reducible refine load173 (C := ints .u32 H256) (g := 0) (o := 0) ?_ hLR.out hHz.out ?_); rfl) | (with_reducible refine alloc173 ?_) | ((with_reducible refine store173 (C := ints .u32 H256) ?_ ?_ zh.out Z173_size hHz.out hHo.out ?_); rfl; rfl))
  generalize (w4.alloc (.cells Z173 173)).setRow w4.heap.size (ints .u32 H256) = w5 at *
  generalize hHe : w4.heap.size = H at *
  have hH5 : H < w5.heap.size := row_lt H5.out
  have hHw : w.heap.size ≤ H := by rw [← hHe]; exact K4.out.size
  clear zh
  go_loopw [5] (fun i wr => ∃ t : Nat, t ≤ N ∧ i = .int .i64 (((64 * t : Nat)) : Int) ∧ Hid (wr.heap[H]? = some (.cells (ints .u32 (blocksFrom H256 t (l ++ fill n))) 173 (0, 0))) ∧ Kept (fun j => j = H) w5 wr) (fun i _ => n + m - (intOf i).toNat)
  case atStart => exact ⟨0, Nat.zero_le _, rfl, H5.out, Kept.refl _ _⟩
  case round =>
    obtain ⟨t, ht, rfl, HR, K⟩ := hrel
    have KR := Lib.hid K
    by_cases hlt : t < N
    · have HST := Lib.hid (blocksFrom_snoc t H256 (l ++ fill n))
      have hbl := blocksFrom_len t H256 (l ++ fill n) rfl
      have hba := blocksFrom_all t H256 (l ++ fill n) H256_all
      have HBL := Lib.hid hbl
      have HBA := Lib.hid hba
      generalize blocksFrom H256 t (l ++ fill n) = S at *
      have HSZ : Hid ((ints .u32 S).size = 8) := by show _ = _; rw [ints_size]; exact hbl
      have KW : Hid (Kept (fun j => j = H) w4 wr) := (K45.out.mono (fun _ _ h => h.elim)).trans K
      have HSUB := Lib.hid (fun (w' : World) (kk : Kept (fun j => j = H) w4 w') => sub0 (HBytes.sub (c' := c4 - 64 * t) (HBB.out.keptS kk (fun j e h => by have e' : some g = some j := e; simp only [Option.some.injEq] at e'; omega)) hlen.symm (j := 64 * t) (k := 64) (by rw [hlen]; omega)))
      have hsl : Hid ((((l ++ fill n).drop (64 * t)).take 64).length = 64) := by show _ = _; rw [List.length_take, List.length_drop, hlen]; omega
      have HLT := Lib.hid (fun (w' : World) (kk : Kept (fun j => j = H) w4 w') => HL4.out.keptS kk (by omega) (by have := HL4.out.size; omega))
      have q1 : (64 * (t : Int)) + 64 ≤ ((n : Int) + (m : Int)) := by omega
      have q2 : 0 ≤ 64 * (t : Int) := by omega
      have q3 : 64 * (t : Int) ≤ 64 * (t : Int) + 64 := by omega
      have q4 : 64 * (t : Int) + 64 ≤ (c4 : Int) := by omega
      have q5 : (64 * (t : Int)).toNat = 64 * t := by omega
      have q6 : (64 * (t : Int) + 64).toNat = 64 * t + 64 := by omega
      have q7 : ¬ (c4 = 64 * t) := by omega
      clear K hba hbl
      go_upto_region 6 with fail
      refine wp_region_held_drew (S := fun w' => True) (by kernel_rfl) trivial (fun hHeld => ?_)
      have HRd : Hid (wr.drew.heap[H]? = some (.cells (ints .u32 S) 173 (0, 0))) := HR.out
      have KWd := Lib.hid (KW.out.drew)
      have KRd := Lib.hid (KR.out.drew)
      clear HR KW KR
      generalize wr.drew = wd at *
      refine wpAnyH_take (i := 1) (oi := ⟨some 26, _, _, _, _, _⟩) (v := .slice (some ⟨g, 0, none⟩) (n + m) c4) rfl (by kernel_rfl) (by kernel_rfl) (by kernel_rfl) (fun _ _ _ h => h) (Or.inl ⟨by kernel_rfl, fun w' hS => by go_simp⟩) (by assumption) ?_
      try simp only [Act.put, List.setIfInBounds_toArray, List.set_cons_succ, List.set_cons_zero]
      refine wpAnyH_take (i := 2) (oi := ⟨some 27, _, _, _, _, _⟩) (v := .int .i64 (64 * (t : Int))) rfl (by kernel_rfl) (by kernel_rfl) (by kernel_rfl) (fun _ _ _ h => h) (Or.inl ⟨by kernel_rfl, fun w' hS => by go_simp⟩) (by assumption) ?_
      try simp only [Act.put, List.setIfInBounds_toArray, List.set_cons_succ, List.set_cons_zero]
      refine wpAnyH_take (i := 3) (oi := ⟨some 28, _, _, _, _, _⟩) (v := .int .i64 (64 * (t : Int))) rfl (by kernel_rfl) (by kernel_rfl) (by kernel_rfl) (fun _ _ _ h => h) (Or.inl ⟨by kernel_rfl, fun w' hS => by go_simp⟩) (by assumption) ?_
      try simp only [Act.put, List.setIfInBounds_toArray, List.set_cons_succ, List.set_cons_zero]
      refine wpAnyH_take (i := 4) (oi := ⟨some 29, _, _, _, _, _⟩) (v := .int .i64 (64 * (t : Int) + 64)) rfl (by kernel_rfl) (by kernel_rfl) (by kernel_rfl) (fun _ _ _ h => h) (Or.inl ⟨by kernel_rfl, fun w' hS => by have e := IntWalk.i64_in (64 * (t : Int) + 64) (by omega); go_simp⟩) (by assumption) ?_
      try simp only [Act.put, List.setIfInBounds_toArray, List.set_cons_succ, List.set_cons_zero]
      refine wpAnyH_take (i := 5) (oi := ⟨some 30, _, _, _, _, _⟩) (v := .slice (some ⟨g, 64 * t, none⟩) 64 (c4 - 64 * t)) rfl (by kernel_rfl) (by kernel_rfl) (by kernel_rfl) (fun _ _ _ h => h) (Or.inl ⟨by kernel_rfl, fun w' hS => by go_simp; first | done | (intro h; exact absurd h q7)⟩) (by assumption) ?_
      try simp only [Act.put, List.setIfInBounds_toArray, List.set_cons_succ, List.set_cons_zero]
      refine wpAnyH_ready (rs := [0]) (by kernel_rfl) (by simp) ?_
      refine AllReadyH.cons (o := _) rfl (fun K hK => ?_) AllReadyH.nil
      refine step_load173 (C := ints .u32 S) (g := H) (o := 0) (by kernel_rfl) rfl (range_row HRd.out) HSZ.out ?_
      refine hK.out _ _ trivial (fun hHeld => ?_)
      clear hK K
      try simp only [Act.put, List.setIfInBounds_toArray, List.set_cons_succ, List.set_cons_zero]
      refine wpAnyH_ready (rs := [6]) (by kernel_rfl) (by simp) ?_
      refine AllReadyH.cons (o := _) rfl (fun K hK => ?_) AllReadyH.nil
      have HT := Lib.hid (f_rturn (.slice (some ⟨g, 64 * t, none⟩) 64 (c4 - 64 * t)) S (((l ++ fill n).drop (64 * t)).take 64) wd (HLT.out _ KWd.out) HBL.out HBA.out (HSUB.out _ KWd.out) hsl.out)
      go_simp
      refine HT.out.mono ?_
      rintro e wx ⟨rfl, kx⟩
      clear HT
      have HRx := Lib.hid (kx.row HRd.out)
      have KRx := Lib.hid (KRd.out.trans (kx.mono (fun _ _ h => h.elim)))
      have HTZ : Hid ((ints .u32 (turn S (((l ++ fill n).drop (64 * t)).take 64))).size = 8) := by show _ = _; rw [ints_size]; exact turn_len HBL.out
      have HTO := Lib.hid (ints_one .u32 (turn S (((l ++ fill n).drop (64 * t)).take 64)))
      clear kx HRd KRd KWd
      go_wp2_with fail
      refine hK.out _ _ trivial (fun hHeld => ?_)
      clear hK K
      try simp only [Act.put, List.setIfInBounds_toArray, List.set_cons_succ, List.set_cons_zero]
      refine wpAnyH_ready (rs := [7]) (by kernel_rfl) (by simp) ?_
      refine AllReadyH.cons (o := _) rfl (fun K hK => ?_) AllReadyH.nil
      refine step_store173 (C := ints .u32 (turn S (((l ++ fill n).drop (64 * t)).take 64))) (g := H) (o := 0) (by kernel_rfl) rfl rfl HTZ.out HTO.out HRx.out (by rw [HSZ.out]; decide) ?_
      intro wn yn kn
      rw [puts_all (by rw [HSZ.out, HTZ.out]), ← HST.out] at yn
      have Yn := Lib.hid yn
      have Kn := Lib.hid (KRx.out.trans kn)
      refine hK.out _ _ trivial (fun hHeld => ?_)
      clear hK K yn kn HRx KRx
      try simp only [Act.put, List.setIfInBounds_toArray, List.set_cons_succ, List.set_cons_zero]
      refine wpAnyH_done (by kernel_rfl) ?_ _
      clear q1 q2 q3 q4 q5 q6 q7
      go_wp2_with fail
      go_roundw
      case rel => exact ⟨t + 1, by omega, by first | (congr 1; done) | (congr 1; omega), Yn.out, Kn.out⟩
      case measure => simp [intOf]; omega
    · obtain rfl : t = N := by omega
      have q1 : ¬ ((64 * (t : Int)) + 64 ≤ ((n : Int) + (m : Int))) := by omega
      have K6 : Hid (Kept (fun _ => False) w wr) := (K4.out.trans K45.out).trans' (T := fun j => j = H) K (fun j hj e => by omega)
      have GZ6 := Lib.hid (K.rowS (by have := row_lt GZ4.out; omega) (K45.out.row GZ4.out))
      have hHl := blocksFrom_len t H256 (l ++ fill n) rfl
      have hHa := blocksFrom_all t H256 (l ++ fill n) H256_all
      have HHL := Lib.hid hHl
      have HHA := Lib.hid hHa
      have HBYL : Hid ((bytesOf (blocksFrom H256 t (l ++ fill n))).length = 32) := by show _ = _; rw [bytesOf_len, hHl]
      generalize blocksFrom H256 t (l ++ fill n) = S at *
      have zo := Lib.hid (heap_alloc_new wr (.cells Z26 26))
      have ko := (Kept.refl (fun _ => False) wr).alloc (.cells Z26 26)
      have H7 := Lib.hid (ko.row HR.out)
      have GZ7 := Lib.hid (ko.row GZ6.out)
      have K7 := Lib.hid (K6.out.trans ko)
      have hHr := row_lt HR.out
      have hZr := row_lt GZ6.out
      clear ko K KR HR GZ6 K6 hHl hHa
      go_wp2_with (first | fail | (with_reducible refine alloc26 ?_))
      generalize wr.alloc (.cells Z26 26) = w7 at *
      generalize hOe : wr.heap.size = O at *
      have hO7 : O < w7.heap.size := row_lt zo.out
      go_loopw [7] (fun i wy => ∃ q : Nat, q ≤ 8 ∧ i = .int .i64 (q : Int) ∧ Hid (wy.heap[O]? = some (.cells (ints .u8 (inL (bytesOf S) q 0)) 26 (0, 0))) ∧ Kept (fun j => j = O) w7 wy) (fun i _ => 8 - (intOf i).toNat)
      case atStart => exact ⟨0, by omega, rfl, by rw [inL_zero]; exact zo.out, Kept.refl _ _⟩
      case round =>
        rename World => wy
        obtain ⟨q, hq, rfl, HO, K⟩ := hrel
        have KR := Lib.hid K
        by_cases hlt8 : q < 8
        · have cs := ints_cell (K.rowS (by omega) H7.out) (i := q) (by rw [HHL.out]; exact hlt8)
          have hx := HHA.out.getD q
          have HBG := Lib.hid (fun j (hj : j < 4) => (bytesOf_get S q (3 - j) (by omega) (by rw [HHL.out]; exact hlt8)).trans (lo_hi (x := S.getD q 0) hj).symm)
          generalize S.getD q 0 = x at *
          have hq8 : (q : Int) < 8 := by omega
          have hz := hi8_zero x
          clear K
          go_wp2_with fail
          go_loopw [8, 9] (fun y i wz => ∃ j : Nat, j ≤ 4 ∧ i = .int .i64 (3 - (j : Int)) ∧ y = .int .u32 ((hi8 x j : Nat) : Int) ∧ Hid (wz.heap[O]? = some (.cells (ints .u8 (inL (bytesOf S) q j)) 26 (0, 0))) ∧ Kept (fun j => j = O) wy wz) (fun _ i _ => (intOf i + 1).toNat)
          case atStart => exact ⟨0, by omega, rfl, by rw [hi8_zero], HO.out, Kept.refl _ _⟩
          case round =>
            rename World => wz
            obtain ⟨j, hj, rfl, rfl, HP, KK⟩ := hrel
            have KQ := Lib.hid KK
            by_cases hlt4 : j < 4
            · obtain ⟨r, hr⟩ : ∃ r, r + j = 3 := ⟨3 - j, by omega⟩
              have er : (3 : Int) - (j : Int) = (r : Int) := by omega
              rw [er]
              have HST := Lib.hid (inL_set (l := bytesOf S) hlt8 hlt4)
              rw [HBG.out j hlt4, show 3 - j = r by omega] at HST
              have co := ints_cell HP.out (i := 4 * q + r) (by rw [inL_len]; omega)
              have fo := free_of_block (j := 4 * q + r) HP.out
              have e1 := k_lo (hi8 x j)
              have e2 := k_lo1 (hi8 x j)
              have e3 := k_lo2 (hi8 x j)
              have e4 := k_hi x j
              have e5 := k_hi' x j
              have e6 := k_hi2 hx (j + 1)
              have e7 : IntKind.i64.wrap (4 * (q : Int) + (r : Int)) = 4 * (q : Int) + (r : Int) := IntWalk.i64_in _ (by omega)
              have e8 : (4 * (q : Int) + (r : Int)).toNat = 4 * q + r := by omega
              have e9 : 4 * (q : Int) + (r : Int) < 32 := by omega
              have e10 : 0 ≤ 4 * (q : Int) + (r : Int) := by omega
              have e11 : IntKind.i64.wrap (4 * (q : Int)) = 4 * (q : Int) := IntWalk.i64_in _ (by omega)
              have hr0 : (0 : Int) ≤ (r : Int) := by omega
              clear KK er
              go_wp2_with fail
              have HF : Hid ((wz.setCell ⟨O, 4 * q + r, none⟩ (.int .u8 ((lo8 (hi8 x j) : Nat) : Int))).heap[O]? = some (.cells (ints .u8 (inL (bytesOf S) q (j + 1))) 26 (0, 0))) := by
                show _ = _
                rw [setCell_block HP.out, ints_set, HST.out]
              have KF := Lib.hid (KQ.out.setCell (p := ⟨O, 4 * q + r, none⟩) (.inl rfl) (.int .u8 ((lo8 (hi8 x j) : Nat) : Int)))
              clear co fo e1 e2 e3 e4 e5 e6 e7 e8 e9 e10 e11
              go_roundw
              case rel => exact ⟨j + 1, by omega, by first | (congr 1; done) | (congr 1; omega), rfl, HF.out, KF.out⟩
              case measure => simp [intOf]
            · obtain rfl : j = 4 := by omega
              have HF : Hid (wz.heap[O]? = some (.cells (ints .u8 (inL (bytesOf S) (q + 1) 0)) 26 (0, 0))) := by
                have h := HP.out
                rw [inL_next] at h
                exact h
              have KF := Lib.hid (KR.out.trans KK)
              clear KK KQ HP hz
              go_wp2_with fail
              go_roundw
              case rel => exact ⟨q + 1, by omega, by go_num, HF.out, KF.out⟩
              case measure => simp [intOf]; omega
        · obtain rfl : q = 8 := by omega
          rw [show ((8 : Nat) : Int) = (8 : Int) from rfl]
          have HF : Hid (wy.heap[O]? = some (.cells (ints .u8 (sha l)) 26 (0, 0))) := by
            have h := HO.out
            rw [inL_all HBYL.out, ← HSH.out] at h
            exact h
          have GZ8 := Lib.hid (K.rowS (by omega) GZ7.out)
          have K8 : Hid (Kept (fun _ => False) w wy) := K7.out.trans' (T := fun j => j = O) K (fun j hj e => by have := K7.out.size; omega)
          have hs26 := Lib.hid (show (ints .u8 (sha l)).size = 32 by rw [ints_size, sha_len])
          have ho26 := Lib.hid (ints_one .u8 (sha l))
          clear K KR
          go_wp2_with (first | fail | ((with_reducible refine load26 (C := ints .u8 (sha l)) (g := O) (o := 0) ?_ (range_row HF.out) hs26.out ?_); rfl) | ((with_reducible refine store26 (C := ints .u8 (sha l)) ?_ ?_ GZ8.out Z26_size hs26.out ho26.out ?_); rfl; rfl))
          exact bodyPost_ret (results_26 rfl _ _ _ (setRow_heap _ _ _ _ _ _ GZ8.out) hs26.out rfl) rfl (RPost.mk rfl (K8.out.setRow (Nat.le_refl _) _))
end Go.Proofs.YtklmhegmombegaaDoor
