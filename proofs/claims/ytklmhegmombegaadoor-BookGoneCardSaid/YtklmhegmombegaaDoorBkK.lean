/-
  Contracts of the reference's Same of books, of Report. Conditions: as each theorem says.
-/
import Derived.Test.YtklmhegmombegaaDoorBkJ
set_option linter.unusedVariables false
set_option linter.unusedSimpArgs false
namespace Go.Proofs.YtklmhegmombegaaDoor.Re
open Go Go.RowKit Go.Proofs.YtklmhegmombegaaDoor.Re.Plain Go.Proofs.YtklmhegmombegaaDoor
attribute [local go_sem] equal85 guard85n guard85e

namespace Plain
def lineOf (s : Sg) : Int × Int := ((s.phase : Int), (missing s : Int))
def repL (l : List Sg) : List (Int × Int) := l.map lineOf
end Plain
theorem Tryd.ifull96 : (Tryd.prog.info? 96).map (fun i => (i.size, i.bytes, i.zero)) = some (2, 16, some (.agg #[.int .i64 0, .int .i64 0])) := by kernel_rfl
theorem info96' : ∃ i, Tryd.prog.info? 96 = some i ∧ i.size = 2 ∧ i.bytes = 16 ∧ i.zero = some (.agg #[.int .i64 0, .int .i64 0]) := by
  obtain ⟨i, hi, hb⟩ := Option.map_eq_some_iff.1 Tryd.ifull96
  simp only [Prod.mk.injEq] at hb
  exact ⟨i, hi, hb.1, hb.2.1, hb.2.2⟩
set_option maxRecDepth 100000 in
/-- A slice of one line is made, in a region that draws its order. -/
theorem step_one60 {ops : Array Oper} {dst : Option Tmp} {ty : TypeId} {pos : String} {aft : Array Edge} {gd : Option (Nat × Bool)} {a : Act} {w : World} {Q : Exit → Act → World → Prop} {K : Act → World → Prop} {E : Prop} {x : Operand} {C : Array Value} (hw : Region.wanted ⟨dst, .buildSlice 92 1 #[(0, x)], ty, pos, aft, gd⟩ (yielded ops a.tmps) = true) (hx : a.eval x = .agg C) (hC : C.size = 2)
    (h : K (a.put dst (.slice (some ⟨w.heap.size, 0, none⟩) 1 1)) (w.alloc (.cells C 96))) :
    if Region.wanted ⟨dst, .buildSlice 92 1 #[(0, x)], ty, pos, aft, gd⟩ (yielded ops a.tmps) = true then Oper.wp Tryd.prog ⟨dst, .buildSlice 92 1 #[(0, x)], ty, pos, aft, gd⟩ a w K Q else E := by
  rw [if_pos hw]
  obtain ⟨i, hi, hs, _, hz⟩ := info96'
  refine wp_buildSlice (P := Tryd.prog) 92 96 1 #[(0, x)] rfl C i _ Tryd.underlying92 hi hz (by rw [hs]; decide) (by rw [hs]; decide) ?_ h
  rw [hs]
  have := Great.fill_whole (s := 2) (by decide) [.agg C] ((Array.range (1 * 2)).map ((Value.agg #[.int .i64 0, .int .i64 0]).cells[· % (Value.agg #[.int .i64 0, .int .i64 0]).cells.size]!)) (by simp [Value.cells, hC]) (by simp)
  simp only [Array.toList_map, List.map_cons, List.map_nil, hx, List.zipIdx_cons, List.zipIdx_nil, List.flatMap_cons, List.flatMap_nil, Value.cells, Array.toArray_toList, List.append_nil] at this ⊢
  exact this
/-- Lines are handed back, in new memory. -/
def RpPost (l : List (Int × Int)) (w : World) (e : Ending) (w' : World) : Prop := ∃ v, e = .returned v ∧ Buf w' w.heap.size 96 2 v l.length (flat2 l) ∧ Kept (fun _ => False) w w'
theorem flat2_snoc (l : List (Int × Int)) (p q : Int) : flat2 (l ++ [(p, q)]) = flat2 l ++ [.int .i64 p, .int .i64 q] := by simp [flat2]
set_option maxRecDepth 100000 in
set_option maxHeartbeats 8000000 in
theorem f_report (b : Bk) (sv : Value) (ss : List (Sg × Value)) (w : World) (hs : BkIn w sv ss) (hms : ss.map (·.1) = b.sagas) (hok : ∀ p ∈ ss, Okay p.1) : Calls Tryd.prog 50 #[.agg (bkC b.ep sv)] w (RpPost (repL b.sagas) w) := by
  have g0 := heap_alloc_new w (.cells (bkC b.ep sv) 88)
  have K1 := Lib.hid ((Kept.refl (fun _ => False) w).alloc (.cells (bkC b.ep sv) 88))
  obtain ⟨a, c, rfl⟩ := hs.form
  have HS := Lib.hid (hs.kept K1.out)
  have hls := hs.len
  have b4 := row_cell g0 (show (bkC b.ep (.slice a ss.length c))[4]? = some (.slice a ss.length c) from rfl)
  have HM := Lib.hid hms
  have HOK := Lib.hid hok
  clear hs hms hok g0
  go_enter Tryd.func50, Tryd.ntmps50
  go_wp2_with fail
  clear b4
  generalize w.alloc (.cells (bkC b.ep (.slice a ss.length c)) 88) = w2 at *
  generalize hLL : repL (ss.map (·.1)) = LL at *
  go_loopw [3, 9] (fun v i wr => ∃ k : Nat, k ≤ ss.length ∧ i = .int .i64 k ∧ Buf wr w2.heap.size 96 2 v k (flat2 (LL.take k)) ∧ Kept (fun _ => False) w2 wr) (fun _ i _ => ss.length - (intOf i).toNat)
  case atStart => exact ⟨0, Nat.zero_le _, rfl, Buf.nil _ _ _ _, Kept.refl _ _⟩
  case round =>
    obtain ⟨k, hk, rfl, hbuf, K⟩ := hrel
    have HBF := Lib.hid hbuf
    have KR := Lib.hid K
    obtain ⟨av, cv, rfl, _⟩ := hbuf.form
    have hvlt := Lib.hid hbuf.lt
    clear hbuf
    by_cases hlt : k < ss.length
    · obtain ⟨b1, o1, c1, e1, r1⟩ := (HS.out.kept K).rd.elem (by decide) (fsg_all _) hlt
      simp only [Value.slice.injEq, true_and] at e1
      obtain ⟨rfl, rfl⟩ := e1
      have hs1 := (HS.out.kept K).st ss[k] (List.getElem_mem _)
      have hok := HOK.out ss[k] (List.getElem_mem _)
      have HTK : Hid (LL.take (k + 1) = LL.take k ++ [lineOf ss[k].1]) := by
        show _ = _
        subst hLL
        have hkl : k < (repL (ss.map (·.1))).length := by simpa [repL] using hlt
        rw [← List.take_append_getElem hkl]; simp [repL]
      generalize ss[k] = p at r1 hs1 hok HTK
      obtain ⟨s, vs⟩ := p
      dsimp only at hs1 hok HTK
      obtain ⟨ax, cx, hvs⟩ := hs1.form
      have hso : (sgC s vs).all (·.oneCell') = true := by rw [hvs]; exact sgC_one s ax _ cx
      have HMS := Lib.hid (fun w' => f_missing s vs w' hok)
      have hr1 : Hid (wr.rangeAt b1 (o1 + k * 10) (sgC s vs).toList) := r1
      have hso' := Lib.hid hso
      have z0 := Lib.hid (heap_alloc_new wr (.cells Z133 133))
      obtain ⟨y0, k0⟩ := alloc_set wr Z133 (sgC s vs) 133
      have Y0 := Lib.hid y0
      have K0 := Lib.hid k0
      clear r1 hs1 hok hso K hvs y0 k0
      go_upto_region 5 with (first | fail | ((with_reducible refine load133 (C := sgC s vs) (g := b1) (o := o1 + k * 10) ?_ hr1.out (sgC_size _ _) ?_); rfl) | (with_reducible refine alloc133 ?_) | ((with_reducible refine store133 (C := sgC s vs) ?_ ?_ z0.out hz133 (sgC_size _ _) hso'.out ?_); rfl; rfl))
      generalize (wr.alloc (.cells Z133 133)).setRow wr.heap.size (sgC s vs) = w5 at Y0 K0 ⊢
      clear z0
      have hd : Kept (fun _ => False) w5 w5.drew := (Kept.refl _ _).drew
      have HB5 := Lib.hid (HBF.out.kept K0.out (fun _ _ h => h))
      have hY : Hid (∀ {w' : World}, Kept (fun j => (Value.slice av k cv).ownBlock = some j) w5 w' → w'.heap[wr.heap.size]? = some (.cells (sgC s vs) 133 (0, 0))) := fun kk => (kk.block _ (row_lt Y0.out) (fun e => by have := (hvlt.out _ e).2; omega)).trans Y0.out
      have hm : ∀ {w' : World}, Kept (fun _ => False) w5 w' → Kept (fun j => (Value.slice av k cv).ownBlock = some j) w5 w' := fun kk => kk.mono fun _ _ h => h.elim
      refine wp_region_held_drew (S := fun w' => Kept (fun j => (Value.slice av k cv).ownBlock = some j) w5 w') (by kernel_rfl) (hm hd) (fun hHeld => ?_)
      refine wpAnyH_take (i := 0) (oi := ⟨some 13, _, _, _, _, _⟩) (v := .slice av k cv) rfl (by kernel_rfl) (by kernel_rfl) (by kernel_rfl) (fun _ _ _ h => h) (Or.inl ⟨by kernel_rfl, fun w' hS => by go_simp⟩) (by assumption) ?_
      try simp only [Act.put, List.setIfInBounds_toArray, List.set_cons_succ, List.set_cons_zero]
      refine wpAnyH_take (i := 1) (oi := ⟨some 14, _, _, _, _, _⟩) (v := .pointer (some ⟨wr.heap.size, 1, none⟩)) rfl (by kernel_rfl) (by kernel_rfl) (by kernel_rfl) (fun _ _ _ h => h) (Or.inl ⟨by kernel_rfl, fun w' hS => by go_simp⟩) (by assumption) ?_
      try simp only [Act.put, List.setIfInBounds_toArray, List.set_cons_succ, List.set_cons_zero]
      refine wpAnyH_take (i := 2) (oi := ⟨some 15, _, _, _, _, _⟩) (v := .int .i64 s.phase) rfl (by kernel_rfl) (by kernel_rfl) (by kernel_rfl) (fun _ _ _ h => h) (Or.inl ⟨by kernel_rfl, fun w' hS => by have hc := row_cell (hY.out hS) (show (sgC s vs)[1]? = some (.int .i64 s.phase) from rfl); go_simp⟩) (by assumption) ?_
      try simp only [Act.put, List.setIfInBounds_toArray, List.set_cons_succ, List.set_cons_zero]
      refine wpAnyH_take (i := 3) (oi := ⟨some 16, _, _, _, _, _⟩) (v := .agg (sgC s vs)) rfl (by kernel_rfl) (by kernel_rfl) (by kernel_rfl) (fun _ _ _ h => h) (yields133 (g := wr.heap.size) (by kernel_rfl) rfl (fun w' hS => hY.out hS) (sgC_size _ _)) (by assumption) ?_
      try simp only [Act.put, List.setIfInBounds_toArray, List.set_cons_succ, List.set_cons_zero]
      refine wpAnyH_ready (rs := [4]) (by kernel_rfl) (by simp) ?_
      refine AllReadyH.cons (o := _) rfl (fun K hK => ?_) AllReadyH.nil
      go_simp
      refine (HMS.out _).mono ?_
      rintro e wx1 ⟨rfl, kx1⟩
      go_wp2_with fail
      have hS1 := hd.trans kx1
      refine hK.out _ _ (hm hS1) (fun hHeld => ?_)
      clear hK K
      try simp only [Act.put, List.setIfInBounds_toArray, List.set_cons_succ, List.set_cons_zero]
      refine wpAnyH_take (i := 5) (oi := ⟨some 18, _, _, _, _, _⟩) (v := .agg #[.int .i64 s.phase, .int .i64 (missing s)]) rfl (by kernel_rfl) (by kernel_rfl) (by kernel_rfl) (fun _ _ _ h => h) (Or.inl ⟨by kernel_rfl, fun w' hS => by go_simp⟩) (by assumption) ?_
      try simp only [Act.put, List.setIfInBounds_toArray, List.set_cons_succ, List.set_cons_zero]
      refine wpAnyH_ready (rs := [6]) (by kernel_rfl) (by simp) ?_
      refine AllReadyH.cons (o := _) rfl (fun K hK => ?_) AllReadyH.nil
      refine step_one60 (C := #[.int .i64 s.phase, .int .i64 (missing s)]) (by kernel_rfl) rfl rfl ?_
      have hS3 := hS1.alloc (.cells #[.int .i64 s.phase, .int .i64 (missing s)] 96)
      have hgn := heap_alloc_new wx1 (.cells #[.int .i64 s.phase, .int .i64 (missing s)] 96)
      have hsrc : Src Tryd.prog 2 92 (.slice (some ⟨wx1.heap.size, 0, none⟩) 1 1) 1 [.int .i64 s.phase, .int .i64 (missing s)] (wx1.alloc (.cells #[.int .i64 s.phase, .int .i64 (missing s)] 96)) := by
        have h := Rd.of_block hgn 2 1 1 (by simp)
        exact h.src Tryd.underlying92 (fun u hu => by simp at hu; rcases hu with rfl | rfl <;> rfl)
      have hbuf2 := HB5.out.kept hS3 (fun _ _ h => h)
      refine hK.out _ _ (hm hS3) (fun hHeld => ?_)
      clear hK K
      try simp only [Act.put, List.setIfInBounds_toArray, List.set_cons_succ, List.set_cons_zero]
      refine wpAnyH_ready (rs := [7]) (by kernel_rfl) (by simp) ?_
      refine AllReadyH.cons (o := _) rfl (fun K hK => ?_) AllReadyH.nil
      obtain ⟨i, hi, hsz, hby, hz⟩ := info96'
      have hszz := K0.out.size
      have hszr := KR.out.size
      refine step_append_buf _ rfl (.tmp 13) (.tmp 19) 92 92 rfl w2.heap.size 96 i _ 2 16 Tryd.underlying92 hi hz hsz hby rfl (by decide) (.slice av k cv) k (flat2 (LL.take k)) rfl hbuf2 _ _ _ rfl hsrc (by unfold maxLen; omega) (by omega) (by have h1 := hS3.size; omega) ?_
      intro v2 wx4 hb4 hg4 ho4 hn4
      have hS4 : Kept (fun j => (Value.slice av k cv).ownBlock = some j) w5 wx4 := (hm hS3).grown hg4 (fun j hj => .inl hj)
      refine hK.out _ _ hS4 (fun hHeld => ?_)
      clear hK K
      try simp only [Act.put, List.setIfInBounds_toArray, List.set_cons_succ, List.set_cons_zero]
      refine wpAnyH_take (i := 8) (oi := ⟨some 3, _, _, _, _, _⟩) (v := v2) rfl (by kernel_rfl) (by kernel_rfl) (by kernel_rfl) (fun _ _ _ h => h) (Or.inl ⟨by kernel_rfl, fun w' hS => by go_simp⟩) (by assumption) ?_
      try simp only [Act.put, List.setIfInBounds_toArray, List.set_cons_succ, List.set_cons_zero]
      refine wpAnyH_done (by kernel_rfl) ?_ _
      have HB6 : Hid (Buf wx4 w2.heap.size 96 2 v2 (k + 1) (flat2 (LL.take (k + 1)))) := by
        show Buf _ _ _ _ _ _ _
        rw [HTK.out, show lineOf s = ((s.phase : Int), (missing s : Int)) from rfl, flat2_snoc]; exact hb4
      have KF : Hid (Kept (fun _ => False) w2 wx4) := (KR.out.trans K0.out).trans' hS4 (fun j hj e => by have := (hvlt.out _ e).1; omega)
      clear hb4 hg4 ho4 hn4 hS4 hbuf2 hsrc hgn hS3 hS1 hd kx1
      go_wp2_with fail
      go_roundw
      case rel => exact ⟨k + 1, by omega, by go_num, HB6.out, KF.out⟩
      case measure => simp [intOf]; omega
    · obtain rfl : k = ss.length := by omega
      have hfin : Hid (LL.take ss.length = repL b.sagas) := by
        show _ = _
        subst hLL
        rw [List.take_of_length_le (by simp [repL]), HM.out]
      have hlen : Hid (ss.length = (repL b.sagas).length) := by show _ = _; rw [← HM.out]; simp [repL]
      clear K
      go_wp2_with fail
      go_ret
      have hb := HBF.out
      rw [hfin.out] at hb
      refine ⟨_, rfl, ?_, K1.out.trans KR.out⟩
      rw [← hlen.out]
      exact hb.mono K1.out.size
end Go.Proofs.YtklmhegmombegaaDoor.Re

