/-
  Contracts of the reference's Report, Bytes, Same of records, Recs, Only. Conditions: as each theorem says.
-/
import Derived.Test.YtklmhegmombegaaBkT
import Derived.Test.YtklmhegmombegaaBkM
set_option linter.unusedVariables false
set_option linter.unusedSimpArgs false
namespace Go.Proofs.Ytklmhegmombegaa
open Go Go.RowKit Plain

set_option maxRecDepth 100000 in
set_option maxHeartbeats 8000000 in
theorem f_rreport (b : Bk) (sv : Value) (ss : List (Sg × Value)) (w : World) (hs : BkIn w sv ss) (hms : ss.map (·.1) = b.sagas) (hok : ∀ p ∈ ss, Okay p.1) (hdi : ∀ p ∈ ss, DoneIn p.1) : Calls Try.prog 29 #[.agg (bkC b.ep sv)] w (RpPost (repL b.sagas) w) := by
  have g0 := heap_alloc_new w (.cells (bkC b.ep sv) 54)
  have K1 := Lib.hid ((Kept.refl (fun _ => False) w).alloc (.cells (bkC b.ep sv) 54))
  obtain ⟨a, c, rfl⟩ := hs.form
  have HS := Lib.hid (hs.kept K1.out)
  have hls := hs.len
  have G0 := Lib.hid g0
  have HM := Lib.hid hms
  have HOK := Lib.hid hok
  have HDI := Lib.hid hdi
  clear hs hms hok hdi g0
  go_enter Try.func29, Try.ntmps29
  go_wp2_with fail
  generalize w.alloc (.cells (bkC b.ep (.slice a ss.length c)) 54) = w2 at *
  have hg2 : w.heap.size < w2.heap.size := row_lt G0.out
  generalize hLL : repL (ss.map (·.1)) = LL at *
  have HLL := Lib.hid hLL
  clear hLL
  go_loopw [3, 4] (fun v i wr => ∃ k : Nat, k ≤ ss.length ∧ i = .int .i64 k ∧ Buf wr w2.heap.size 60 2 v k (flat2 (LL.take k)) ∧ Kept (fun _ => False) w2 wr) (fun _ i _ => ss.length - (intOf i).toNat)
  case atStart => exact ⟨0, Nat.zero_le _, rfl, Buf.nil _ _ _ _, Kept.refl _ _⟩
  case round =>
    obtain ⟨k, hk, rfl, hbuf, K⟩ := hrel
    have HBF := Lib.hid hbuf
    have KR := Lib.hid K
    obtain ⟨av, cv, rfl, _⟩ := hbuf.form
    have hvlt := Lib.hid hbuf.lt
    have b4 := row_cell (K.row G0.out) (show (bkC b.ep (.slice a ss.length c))[4]? = some (.slice a ss.length c) from rfl)
    clear hbuf
    by_cases hlt : k < ss.length
    · obtain ⟨b1, o1, c1, e1, r1⟩ := (HS.out.kept K).rd.elem (by decide) (fsg_all _) hlt
      simp only [Value.slice.injEq, true_and] at e1
      obtain ⟨rfl, rfl⟩ := e1
      have hbl : b1 < wr.heap.size := Nat.lt_of_lt_of_le (HS.out.lt b1 rfl) K.size
      have hs1 := (HS.out.kept K).st ss[k] (List.getElem_mem _)
      have hok := HOK.out ss[k] (List.getElem_mem _)
      have hdi := HDI.out ss[k] (List.getElem_mem _)
      have HTK : Hid (LL.take (k + 1) = LL.take k ++ [lineOf ss[k].1]) := by
        show _ = _
        have hLL := HLL.out
        subst hLL
        have hkl : k < (repL (ss.map (·.1))).length := by simpa [repL] using hlt
        rw [← List.take_append_getElem hkl]; simp [repL]
      generalize ss[k] = p at r1 hs1 hok hdi HTK
      obtain ⟨s, vs⟩ := p
      dsimp only at hs1 hok hdi HTK
      have HMS := Lib.hid (fun w' (kk : Kept (fun _ => False) wr w') => f_rmissing s vs w' hok (hs1.kept kk) hdi)
      have hr1 : Hid (wr.rangeAt b1 (o1 + k * 10) (sgC s vs).toList) := r1
      have hown : Hid (∀ {j : Nat}, (Value.slice av k cv).ownBlock = some j → w2.heap.size ≤ j) := fun e => (hvlt.out _ e).1
      have hb1w : b1 < w2.heap.size := HS.out.lt b1 rfl
      clear r1 hs1 hok hdi
      have HR : Hid (∀ {w' : World}, Kept (fun j => (Value.slice av k cv).ownBlock = some j) wr w' → w'.cell? ⟨w.heap.size, 4, none⟩ = some (.slice (some ⟨b1, o1, none⟩) ss.length c) ∧ w'.rangeAt b1 (o1 + k * 10) (sgC s vs).toList) := fun kk =>
        ⟨row_cell ((kk.block _ (Nat.lt_of_lt_of_le hg2 KR.out.size) (fun e => by have := hown.out e; omega)).trans (KR.out.row G0.out)) (k := 4) rfl, fun j u hu => (kk.cell (p := ⟨b1, o1 + k * 10 + j, none⟩) hbl (fun e => by have h1 : w2.heap.size ≤ b1 := hown.out e; omega)).trans (hr1.out j u hu)⟩
      clear K
      go_upto_region 5 with (fail)
      clear b4
      have hd : Kept (fun _ => False) wr wr.drew := (Kept.refl _ _).drew
      have hm : ∀ {w' : World}, Kept (fun _ => False) wr w' → Kept (fun j => (Value.slice av k cv).ownBlock = some j) wr w' := fun kk => kk.mono fun _ _ h => h.elim
      refine wp_region_held_drew (S := fun w' => Kept (fun j => (Value.slice av k cv).ownBlock = some j) wr w') (by kernel_rfl) (hm hd) (fun hHeld => ?_)
      refine wpAnyH_take (i := 0) (oi := ⟨some 12, _, _, _, _, _⟩) (v := .slice av k cv) rfl (by kernel_rfl) (by kernel_rfl) (by kernel_rfl) (fun _ _ _ h => h) (Or.inl ⟨by kernel_rfl, fun w' hS => by go_simp⟩) (by assumption) ?_
      try simp only [Act.put, List.setIfInBounds_toArray, List.set_cons_succ, List.set_cons_zero]
      refine wpAnyH_take (i := 1) (oi := ⟨some 13, _, _, _, _, _⟩) (v := .pointer (some ⟨w.heap.size, 4, none⟩)) rfl (by kernel_rfl) (by kernel_rfl) (by kernel_rfl) (fun _ _ _ h => h) (Or.inl ⟨by kernel_rfl, fun w' hS => by go_simp⟩) (by assumption) ?_
      try simp only [Act.put, List.setIfInBounds_toArray, List.set_cons_succ, List.set_cons_zero]
      refine wpAnyH_take (i := 2) (oi := ⟨some 14, _, _, _, _, _⟩) (v := .slice (some ⟨b1, o1, none⟩) ss.length c) rfl (by kernel_rfl) (by kernel_rfl) (by kernel_rfl) (fun _ _ _ h => h) (Or.inl ⟨by kernel_rfl, fun w' hS => by have hc := (HR.out hS).1; go_simp⟩) (by assumption) ?_
      try simp only [Act.put, List.setIfInBounds_toArray, List.set_cons_succ, List.set_cons_zero]
      refine wpAnyH_take (i := 3) (oi := ⟨some 15, _, _, _, _, _⟩) (v := .int .i64 k) rfl (by kernel_rfl) (by kernel_rfl) (by kernel_rfl) (fun _ _ _ h => h) (Or.inl ⟨by kernel_rfl, fun w' hS => by go_simp⟩) (by assumption) ?_
      try simp only [Act.put, List.setIfInBounds_toArray, List.set_cons_succ, List.set_cons_zero]
      refine wpAnyH_take (i := 4) (oi := ⟨some 16, _, _, _, _, _⟩) (v := .pointer (some ⟨b1, o1 + k * 10, none⟩)) rfl (by kernel_rfl) (by kernel_rfl) (by kernel_rfl) (fun _ _ _ h => h) (Or.inl ⟨by kernel_rfl, fun w' hS => by go_simp⟩) (by assumption) ?_
      try simp only [Act.put, List.setIfInBounds_toArray, List.set_cons_succ, List.set_cons_zero]
      refine wpAnyH_take (i := 5) (oi := ⟨some 17, _, _, _, _, _⟩) (v := .pointer (some ⟨b1, o1 + k * 10 + 1, none⟩)) rfl (by kernel_rfl) (by kernel_rfl) (by kernel_rfl) (fun _ _ _ h => h) (Or.inl ⟨by kernel_rfl, fun w' hS => by go_simp⟩) (by assumption) ?_
      try simp only [Act.put, List.setIfInBounds_toArray, List.set_cons_succ, List.set_cons_zero]
      refine wpAnyH_take (i := 6) (oi := ⟨some 18, _, _, _, _, _⟩) (v := .int .i64 s.phase) rfl (by kernel_rfl) (by kernel_rfl) (by kernel_rfl) (fun _ _ _ h => h) (Or.inl ⟨by kernel_rfl, fun w' hS => by have hc := (HR.out hS).2 1 (.int .i64 s.phase) rfl; go_simp⟩) (by assumption) ?_
      try simp only [Act.put, List.setIfInBounds_toArray, List.set_cons_succ, List.set_cons_zero]
      refine wpAnyH_take (i := 7) (oi := ⟨some 19, _, _, _, _, _⟩) (v := .pointer (some ⟨w.heap.size, 4, none⟩)) rfl (by kernel_rfl) (by kernel_rfl) (by kernel_rfl) (fun _ _ _ h => h) (Or.inl ⟨by kernel_rfl, fun w' hS => by go_simp⟩) (by assumption) ?_
      try simp only [Act.put, List.setIfInBounds_toArray, List.set_cons_succ, List.set_cons_zero]
      refine wpAnyH_take (i := 8) (oi := ⟨some 20, _, _, _, _, _⟩) (v := .slice (some ⟨b1, o1, none⟩) ss.length c) rfl (by kernel_rfl) (by kernel_rfl) (by kernel_rfl) (fun _ _ _ h => h) (Or.inl ⟨by kernel_rfl, fun w' hS => by have hc := (HR.out hS).1; go_simp⟩) (by assumption) ?_
      try simp only [Act.put, List.setIfInBounds_toArray, List.set_cons_succ, List.set_cons_zero]
      refine wpAnyH_take (i := 9) (oi := ⟨some 21, _, _, _, _, _⟩) (v := .int .i64 k) rfl (by kernel_rfl) (by kernel_rfl) (by kernel_rfl) (fun _ _ _ h => h) (Or.inl ⟨by kernel_rfl, fun w' hS => by go_simp⟩) (by assumption) ?_
      try simp only [Act.put, List.setIfInBounds_toArray, List.set_cons_succ, List.set_cons_zero]
      refine wpAnyH_take (i := 10) (oi := ⟨some 22, _, _, _, _, _⟩) (v := .pointer (some ⟨b1, o1 + k * 10, none⟩)) rfl (by kernel_rfl) (by kernel_rfl) (by kernel_rfl) (fun _ _ _ h => h) (Or.inl ⟨by kernel_rfl, fun w' hS => by go_simp⟩) (by assumption) ?_
      try simp only [Act.put, List.setIfInBounds_toArray, List.set_cons_succ, List.set_cons_zero]
      refine wpAnyH_take (i := 11) (oi := ⟨some 23, _, _, _, _, _⟩) (v := .agg (sgC s vs)) rfl (by kernel_rfl) (by kernel_rfl) (by kernel_rfl) (fun _ _ _ h => h) (yields27o (g := b1) (o := o1 + k * 10) (by kernel_rfl) rfl (fun w' hS => (HR.out hS).2) (sgC_size _ _)) (by assumption) ?_
      try simp only [Act.put, List.setIfInBounds_toArray, List.set_cons_succ, List.set_cons_zero]
      refine wpAnyH_ready (rs := [12]) (by kernel_rfl) (by simp) ?_
      refine AllReadyH.cons (o := _) rfl (fun K hK => ?_) AllReadyH.nil
      go_simp
      refine (HMS.out _ hd).mono ?_
      rintro e wx1 ⟨rfl, kx1⟩
      go_wp2_with fail
      have hS1 := hd.trans kx1
      refine hK.out _ _ (hm hS1) (fun hHeld => ?_)
      clear hK K
      try simp only [Act.put, List.setIfInBounds_toArray, List.set_cons_succ, List.set_cons_zero]
      refine wpAnyH_take (i := 13) (oi := ⟨some 25, _, _, _, _, _⟩) (v := .agg #[.int .i64 s.phase, .int .i64 (missing s)]) rfl (by kernel_rfl) (by kernel_rfl) (by kernel_rfl) (fun _ _ _ h => h) (Or.inl ⟨by kernel_rfl, fun w' hS => by go_simp⟩) (by assumption) ?_
      try simp only [Act.put, List.setIfInBounds_toArray, List.set_cons_succ, List.set_cons_zero]
      refine wpAnyH_ready (rs := [14]) (by kernel_rfl) (by simp) ?_
      refine AllReadyH.cons (o := _) rfl (fun K hK => ?_) AllReadyH.nil
      refine step_one60 (C := #[.int .i64 s.phase, .int .i64 (missing s)]) (by kernel_rfl) rfl rfl ?_
      have hS3 := hS1.alloc (.cells #[.int .i64 s.phase, .int .i64 (missing s)] 60)
      have hgn := heap_alloc_new wx1 (.cells #[.int .i64 s.phase, .int .i64 (missing s)] 60)
      have hsrc : Src Try.prog 2 57 (.slice (some ⟨wx1.heap.size, 0, none⟩) 1 1) 1 [.int .i64 s.phase, .int .i64 (missing s)] (wx1.alloc (.cells #[.int .i64 s.phase, .int .i64 (missing s)] 60)) := by
        have h := Rd.of_block hgn 2 1 1 (by simp)
        exact h.src Try.underlying57 (fun u hu => by simp at hu; rcases hu with rfl | rfl <;> rfl)
      have hbuf2 := HBF.out.kept hS3 (fun _ _ h => h)
      refine hK.out _ _ (hm hS3) (fun hHeld => ?_)
      clear hK K
      try simp only [Act.put, List.setIfInBounds_toArray, List.set_cons_succ, List.set_cons_zero]
      refine wpAnyH_ready (rs := [15]) (by kernel_rfl) (by simp) ?_
      refine AllReadyH.cons (o := _) rfl (fun K hK => ?_) AllReadyH.nil
      obtain ⟨i, hi, hsz, hby, hz⟩ := info60'
      have hszr := KR.out.size
      refine step_append_buf _ rfl (.tmp 12) (.tmp 26) 57 57 rfl w2.heap.size 60 i _ 2 16 Try.underlying57 hi hz hsz hby rfl (by decide) (.slice av k cv) k (flat2 (LL.take k)) rfl hbuf2 _ _ _ rfl hsrc (by unfold maxLen; omega) (by omega) (by have h1 := hS3.size; omega) ?_
      intro v2 wx4 hb4 hg4 ho4 hn4
      have hS4 : Kept (fun j => (Value.slice av k cv).ownBlock = some j) wr wx4 := (hm hS3).grown hg4 (fun j hj => .inl hj)
      refine hK.out _ _ hS4 (fun hHeld => ?_)
      clear hK K
      try simp only [Act.put, List.setIfInBounds_toArray, List.set_cons_succ, List.set_cons_zero]
      refine wpAnyH_take (i := 16) (oi := ⟨some 3, _, _, _, _, _⟩) (v := v2) rfl (by kernel_rfl) (by kernel_rfl) (by kernel_rfl) (fun _ _ _ h => h) (Or.inl ⟨by kernel_rfl, fun w' hS => by go_simp⟩) (by assumption) ?_
      try simp only [Act.put, List.setIfInBounds_toArray, List.set_cons_succ, List.set_cons_zero]
      refine wpAnyH_done (by kernel_rfl) ?_ _
      have HB6 : Hid (Buf wx4 w2.heap.size 60 2 v2 (k + 1) (flat2 (LL.take (k + 1)))) := by
        show Buf _ _ _ _ _ _ _
        rw [HTK.out, show lineOf s = ((s.phase : Int), (missing s : Int)) from rfl, flat2_snoc]; exact hb4
      have KF : Hid (Kept (fun _ => False) w2 wx4) := KR.out.trans' hS4 (fun j hj e => by have := hown.out e; omega)
      clear hb4 hg4 ho4 hn4 hS4 hbuf2 hsrc hgn hS3 hS1 hd kx1
      go_wp2_with fail
      go_roundw
      case rel => exact ⟨k + 1, by omega, by go_num, HB6.out, KF.out⟩
      case measure => simp [intOf]; omega
    · obtain rfl : k = ss.length := by omega
      have hfin : Hid (LL.take ss.length = repL b.sagas) := by
        show _ = _
        have hLL := HLL.out
        subst hLL
        rw [List.take_of_length_le (by simp [repL]), HM.out]
      have hlen : Hid (ss.length = (repL b.sagas).length) := by show _ = _; rw [← HM.out]; simp [repL]
      clear K
      go_wp2_with fail
      go_ret
      have hb := HBF.out
      rw [hfin.out] at hb
      refine ⟨_, rfl, ?_, K1.out.trans KR.out⟩
      rw [← hlen.out]
      exact hb.mono K1.out.size
set_option maxRecDepth 100000 in
set_option maxHeartbeats 8000000 in
theorem f_ronly (v : Value) (rs : List (Array Value × Rx)) (n : Int) (w : World) (hR : HoldsRs w v rs) (hl : rs.length ≤ 1000000) : Calls Try.prog 37 #[v, .int .i64 n] w (OnPost (onlyR n rs) w) := by
  obtain ⟨i, z, hi, hsz, hby, hz, hzs⟩ := info41'
  obtain ⟨a, c, rfl⟩ := hR.form
  have HR := Lib.hid hR
  clear hR
  go_enter Try.func37, Try.ntmps37
  go_wp2_with fail
  go_loopw [5, 6] (fun v j wr => ∃ k : Nat, k ≤ rs.length ∧ j = .int .i64 k ∧ Buf wr w.heap.size 41 109 v (onlyR n (rs.take k)).length ((onlyR n (rs.take k)).flatMap frc) ∧ Kept (fun _ => False) w wr) (fun _ j _ => rs.length - (intOf j).toNat)
  case atStart => exact ⟨0, Nat.zero_le _, rfl, Buf.nil _ _ _ _, Kept.refl _ _⟩
  case round =>
    obtain ⟨k, hk, rfl, hbuf, K⟩ := hrel
    have HBF := Lib.hid hbuf
    have KR := Lib.hid K
    obtain ⟨av, cv, rfl, hcv, _⟩ := hbuf.form
    have hlk : (onlyR n (rs.take k)).length ≤ k := Nat.le_trans (List.length_filter_le _ _) (by simp; omega)
    clear hbuf
    by_cases hlt : k < rs.length
    · obtain ⟨b1, o1, c1, e1, r1⟩ := (HR.out.kept K).elem hlt
      simp only [Value.slice.injEq, true_and] at e1
      obtain ⟨rfl, rfl⟩ := e1
      have hrec := (HR.out.kept K).rin rs[k] (List.getElem_mem _)
      have HTK : Hid (onlyR n (rs.take (k + 1)) = if onlyB n rs[k].2 = true then onlyR n (rs.take k) ++ [rs[k]] else onlyR n (rs.take k)) := by
        show _ = _
        rw [← List.take_append_getElem hlt, onlyR_snoc]
      generalize rs[k] = p at r1 hrec HTK
      obtain ⟨C, x⟩ := p
      dsimp only at r1 hrec HTK
      have hr1 := Lib.hid r1
      have HC := Lib.hid hrec
      have x0 : wr.cell? ⟨b1, o1 + k * 109, none⟩ = some (.int .i64 x.kind) := by
        have h := r1 0 (.int .i64 x.kind) (by have := hrec.c0; simpa using this)
        simpa using h
      have x1 : wr.cell? ⟨b1, o1 + k * 109 + 1, none⟩ = some (.int .i64 x.saga) := r1 1 _ (by have := hrec.c1; simpa using this)
      generalize hL : onlyR n (rs.take k) = L at *
      clear r1 hrec K hL
      have EB : Hid (onlyB n x = (decide (1 ≤ x.kind) && (decide (x.kind ≤ 5) && (x.saga == n)))) := rfl
      by_cases hob : onlyB n x = true
      · have h3 : (1 ≤ x.kind ∧ x.kind ≤ 5) ∧ x.saga = n := by
          rw [EB.out] at hob; simpa [and_assoc] using hob
        obtain ⟨⟨h1, h2⟩, h3⟩ := h3
        have t1 : 0 < x.kind := by omega
        have t2 : x.kind < 6 := by omega
        have t3 : (x.saga == n) = true := by rw [beq_iff_eq]; exact h3
        rw [if_pos hob] at HTK
        clear hob h3 EB
        have hn1 := heap_alloc_new wr (.cells C 41)
        have hsrc : Src Try.prog 109 49 (.slice (some ⟨wr.heap.size, 0, none⟩) 1 1) 1 C.toList (wr.alloc (.cells C 41)) := by
          have h := Rd.of_block hn1 109 1 1 (by rw [HC.out.size]; decide)
          rw [List.take_of_length_le (by simp [HC.out.size])] at h
          exact h.src Try.underlying49 (fun u hu => Array.all_eq_true_iff_forall_mem.1 HC.out.one u (by simpa using hu))
        have hbuf2 : Buf (wr.alloc (.cells C 41)) w.heap.size 41 109 (.slice av L.length cv) L.length (L.flatMap frc) := HBF.out.kept (S := fun _ => False) ((Kept.refl _ wr).alloc _) (fun _ _ h => h)
        have HSR := Lib.hid hsrc
        have HB2 := Lib.hid hbuf2
        have hws : w.heap.size ≤ (wr.alloc (.cells C 41)).heap.size := Nat.le_trans KR.out.size ((Kept.refl (fun _ => False) wr).alloc (.cells C 41)).size
        have HWS := Lib.hid hws
        clear hn1 hsrc hbuf2 hws
        go_wp2_with (first | fail | ((with_reducible refine load41 (C := C) (g := b1) (o := o1 + k * 109) ?_ hr1.out HC.out.size ?_); rfl) | ((with_reducible refine one41 (C := C) ?_ HC.out.size ?_); rfl) | (at_builtin; refine wpList_append_buf _ rfl (.tmp 36) (.tmp 41) 49 49 rfl w.heap.size 41 i z 109 224 Try.underlying49 hi hz hsz hby hzs (by decide) (.slice av L.length cv) L.length (L.flatMap frc) rfl HB2.out _ _ _ rfl HSR.out (by unfold maxLen; omega) (by omega) HWS.out ?_; intro v' w' hb' hg' ho' hn'; have HB3 := Lib.hid hb'; have HG3 := Lib.hid hg'; clear hb' hg' ho' hn'))
        have HB4 : Hid (Buf w' w.heap.size 41 109 v' (onlyR n (rs.take (k + 1))).length ((onlyR n (rs.take (k + 1))).flatMap frc)) := by
          show Buf _ _ _ _ _ _ _
          rw [HTK.out, List.flatMap_append, List.length_append]
          simpa [frc] using HB3.out
        have KF : Hid (Kept (fun _ => False) w w') := (KR.out.alloc (.cells C 41)).grown HG3.out (fun j hj => .inr (HB2.out.lt j hj).1)
        go_roundw
        case rel => exact ⟨k + 1, by omega, by go_num, HB4.out, KF.out⟩
        case measure => simp [intOf]; omega
      · rw [if_neg hob] at HTK
        have HB4 : Hid (Buf wr w.heap.size 41 109 (.slice av L.length cv) (onlyR n (rs.take (k + 1))).length ((onlyR n (rs.take (k + 1))).flatMap frc)) := by
          show Buf _ _ _ _ _ _ _
          rw [HTK.out]
          exact HBF.out
        by_cases h1 : x.kind < 1
        · have t1 : x.kind ≤ 0 := by omega
          clear hob EB h1
          go_wp2_with fail
          go_roundw
          case rel => exact ⟨k + 1, by omega, by go_num, HB4.out, KR.out⟩
          case measure => simp [intOf]; omega
        have t1 : 0 < x.kind := by omega
        by_cases h2 : 5 < x.kind
        · have t2 : 6 ≤ x.kind := by omega
          clear hob EB h1 h2
          go_wp2_with fail
          go_roundw
          case rel => exact ⟨k + 1, by omega, by go_num, HB4.out, KR.out⟩
          case measure => simp [intOf]; omega
        have t2 : x.kind < 6 := by omega
        have t3 : (x.saga == n) = false := by
          rw [beq_eq_false_iff_ne]
          intro h3
          apply hob
          rw [EB.out, decide_eq_true (by omega), decide_eq_true (by omega), h3]; simp
        clear hob EB h1 h2
        go_wp2_with fail
        go_roundw
        case rel => exact ⟨k + 1, by omega, by go_num, HB4.out, KR.out⟩
        case measure => simp [intOf]; omega
    · obtain rfl : k = rs.length := by omega
      have hfin : Hid (rs.take rs.length = rs) := List.take_of_length_le (Nat.le_refl _)
      clear K hlk
      rw [hfin.out] at HBF ⊢
      go_wp2_with fail
      go_ret
      exact ⟨_, rfl, HBF.out, KR.out⟩
end Go.Proofs.Ytklmhegmombegaa
