/-
  No record goes twice: 'Rows.BookTwiceSaid', for every input. Conditions: none.
-/
import Derived.Test.YtklmhegmombegaaArg3
import Derived.Test.YtklmhegmombegaaBkN
import Derived.Test.YtklmhegmombegaaBkP
import Derived.Test.YtklmhegmombegaaRows
import Derived.OwnWalk
import Derived.ProofKit
import Derived.OpenShut
import Derived.ShutString
import Derived.ChangeOld
import Derived.Below
namespace Go.Proofs.Ytklmhegmombegaa.bookTwice
open Go Go.ChangeShapes Go.WideShapes Go.ChangeAt Go.RowKit Plain
set_option linter.unusedVariables false
set_option linter.unusedSimpArgs false
theorem own : ownKnob Try.prog.godebug = none := by kernel_rfl
theorem laidOut : laidOutB Try.prog = true := by kernel_rfl

theorem zip_self {l : List Sg} : ∀ p ∈ l.zip l, p.1 = p.2 := by
  induction l with
  | nil => intro p hp; cases hp
  | cons s l ih =>
    intro p hp
    rw [List.zip_cons_cons, List.mem_cons] at hp
    rcases hp with rfl | hp
    · rfl
    · exact ih p hp
theorem sameBk_self (b : Bk) : sameBk b b = true := by
  unfold sameBk sameL
  rw [beq_self_eq_true, Bool.true_and, decide_eq_true rfl, Bool.true_and, List.all_eq_true]
  intro p hp
  rw [zip_self p hp]
  exact sameB_self _
theorem greatL_not {l : List Rx} (h : greatL l = false) : l.length ≤ 150 ∧ ∀ x ∈ l, x.steps.length ≤ 30 := by
  unfold greatL at h
  rw [Bool.or_eq_false_iff, decide_eq_false_iff_not] at h
  refine ⟨by omega, fun x hx => ?_⟩
  have h2 := List.any_eq_false.1 h.2 x hx
  unfold greatB at h2
  simp only [Bool.or_eq_true, decide_eq_true_eq, not_or] at h2
  omega
theorem wrap_nat {m : Nat} (h : m ≤ 1000000) : IntKind.i64.wrap (m : Int) = m := by
  rw [IntKind.wrap_i64]; omega
theorem yields41o {ops : Array Oper} {S : World → Prop} {dst : Option Tmp} {ty : TypeId} {pos : String} {aft : Array Edge} {gd : Option (Nat × Bool)} {a : Act} {x : Operand} {g o : Nat} {C : Array Value} (hw : Region.wanted ⟨dst, .load 41 x, ty, pos, aft, gd⟩ (yielded ops a.tmps) = true) (hx : a.eval x = .pointer (some ⟨g, o, none⟩)) (hg : ∀ w, S w → w.rangeAt g o C.toList) (hC : C.size = 109) :
    YieldsIf Try.prog ops S ⟨dst, .load 41 x, ty, pos, aft, gd⟩ (.agg C) a := by
  refine .inl ⟨hw, fun w hS => ?_⟩
  have hl := run_loadAt_mid (P := Try.prog) w g o 41 C.toList _ (hg w hS) Try.underlying41 rfl (by rw [Try.isz41]; simp [hC])
  rw [Array.toArray_toList] at hl
  unfold execOp
  simp only [hx, Sem.run_bind, hl, Result.andThen_ok, Sem.run_pure]
theorem step_alloc54 {ops : Array Oper} {dst : Option Tmp} {ty : TypeId} {pos : String} {aft : Array Edge} {gd : Option (Nat × Bool)} {a : Act} {w : World} {K : Act → World → Prop} {Q : Exit → Act → World → Prop} {E : Prop} (hw : Region.wanted ⟨dst, .alloc 54, ty, pos, aft, gd⟩ (yielded ops a.tmps) = true) (h : K (a.put dst (.pointer (some ⟨w.heap.size, 0, none⟩))) (w.alloc (.cells Z54 54))) :
    if Region.wanted ⟨dst, .alloc 54, ty, pos, aft, gd⟩ (yielded ops a.tmps) = true then Oper.wp Try.prog ⟨dst, .alloc 54, ty, pos, aft, gd⟩ a w K Q else E := by
  rw [if_pos hw]
  go_simp
  exact h
set_option maxRecDepth 100000 in
set_option maxHeartbeats 8000000 in
theorem walk (w : World) (v0 : Value) (w0 : IsRecs w v0) (a1 : Int) (w1 : (Lit.int .i64 a1).wf = true) :
    Calls Try.prog 11 #[v0, .int .i64 a1] w fun e w' => e = .returned (.bool true) ∧ Below w.heap.size w w' := by
  obtain ⟨rs, hR⟩ := w0
  obtain ⟨a, c, rfl⟩ := hR.form
  clear w1
  have HAL := Lib.hid (f_alive12 w)
  have HGR := Lib.hid (fun w' (k : Kept (fun _ => False) w w') => f_great _ rs w' (hR.kept k))
  cases hg : greatL (rs.map (·.2)) with
  | true =>
    rw [hg] at HGR
    clear hR hg
    go_enter Try.func11, Try.ntmps11
    go_wp2_with fail
    refine HAL.out.mono ?_
    rintro e w1 ⟨rfl, k1⟩
    go_wp2_with fail
    refine (HGR.out _ k1).mono ?_
    rintro e w2 ⟨rfl, k2⟩
    have KF := Lib.hid (k1.trans k2)
    go_wp2_with fail
    go_ret
    exact ⟨rfl, KF.out.below (Nat.le_refl _) (fun k h => h.elim)⟩
  | false =>
    rw [hg] at HGR
    obtain ⟨hl0, hs0⟩ := greatL_not hg
    rw [List.length_map] at hl0
    have hs1 : ∀ p ∈ rs, p.2.steps.length ≤ 1000000 := fun p hp => by have := hs0 p.2 (List.mem_map_of_mem hp); omega
    have HST := Lib.hid hs1
    obtain ⟨b, n, hbn⟩ : ∃ b n, bookOf (rs.map (·.2)) a1 = (b, n) := ⟨_, _, rfl⟩
    have hle : n ≤ rs.length := by have := bookOf_le (rs.map (·.2)) a1; rw [hbn, List.length_map] at this; exact this
    have htw : ∀ m x, n = m + 1 → (rs.map (·.2))[m]? = some x → bgo b x a1 = none := fun m x hm hx => by
      have := book_twice (l := rs.map (·.2)) (lim := a1) (x := x) (by rw [hbn]; show 0 < n; omega) (by rw [hbn]; show (rs.map (·.2))[n - 1]? = _; rw [hm, Nat.add_sub_cancel]; exact hx)
      rw [hbn] at this; exact this
    have hgd : BGood a1.toNat b := by have := good_bookOf (rs.map (·.2)) a1; rw [hbn] at this; exact this
    have HOF : Hid (∀ w', Kept (fun _ => False) w w' → Calls Try.prog 27 #[.slice a rs.length c, .int .i64 a1] w' (OfPost (b, n) w')) := fun w' k => by
      have := f_bof _ rs a1 w' (hR.kept k) (by omega) hs1
      rw [hbn] at this; exact this
    have HR := Lib.hid hR
    have HTW := Lib.hid htw
    have HGD := Lib.hid hgd
    clear hR hg hs0 hs1 hbn htw hgd
    go_enter Try.func11, Try.ntmps11
    go_wp2_with fail
    refine HAL.out.mono ?_
    rintro e w1 ⟨rfl, k1⟩
    go_wp2_with fail
    refine (HGR.out _ k1).mono ?_
    rintro e w2 ⟨rfl, k2⟩
    have K2 := Lib.hid (k1.trans k2)
    clear k1 k2 HAL HGR
    go_wp2_with fail
    refine (HOF.out _ K2.out).mono ?_
    rintro e w3 ⟨sv, ss, rfl, hb3, hm3, ho3, k3⟩
    obtain ⟨av, cv, rfl⟩ := hb3.form
    dsimp only at *
    have hone := Lib.hid (bkC_one b.ep av ss.length cv)
    have z3 := Lib.hid (heap_alloc_new w3 (.cells Z54 54))
    obtain ⟨y3, k3'⟩ := alloc_set w3 Z54 (bkC b.ep (.slice av ss.length cv)) 54
    have K3 := Lib.hid (K2.out.trans (k3.trans k3'))
    have Y3 := Lib.hid y3
    have B3 := Lib.hid (hb3.kept k3')
    have M3 := Lib.hid hm3
    have hsz3 : w.heap.size ≤ w3.heap.size := (K2.out.trans k3).size
    clear y3 k3 k3' hb3 hm3 ho3 K2 HOF
    rcases Nat.eq_zero_or_pos n with rfl | hn
    · go_upto_region 6 with (first | fail | (with_reducible refine alloc54 ?_) | ((with_reducible refine store54 ?_ ?_ z3.out rfl (bkC_size _ _) hone.out ?_); rfl; rfl))
      clear z3
      generalize ((w3.alloc (.cells Z54 54)).setRow w3.heap.size (bkC b.ep (.slice av ss.length cv))) = u at *
      go_wp2_with fail
      go_ret
      exact ⟨rfl, K3.out.below (Nat.le_refl _) (fun k h => h.elim)⟩
    · obtain ⟨m, rfl⟩ : ∃ m, n = m + 1 := ⟨n - 1, by omega⟩
      have hne : (((m + 1 : Nat) : Int) == 0) = false := by simp; omega
      have hsub : ((m + 1 : Nat) : Int) - 1 = m := by omega
      have hwr : IntKind.i64.wrap (m : Int) = m := wrap_nat (by omega)
      generalize ((m + 1 : Nat) : Int) = N at hne hsub ⊢
      go_upto_region 6 with (first | fail | (with_reducible refine alloc54 ?_) | ((with_reducible refine store54 ?_ ?_ z3.out rfl (bkC_size _ _) hone.out ?_); rfl; rfl))
      clear z3
      generalize ((w3.alloc (.cells Z54 54)).setRow w3.heap.size (bkC b.ep (.slice av ss.length cv))) = u at *
      generalize w3.heap.size = g3 at *
      have hlt : m < rs.length := by omega
      obtain ⟨bs, os, cs, ev, hr⟩ := HR.out.elem hlt
      simp only [Value.slice.injEq, true_and] at ev
      obtain ⟨rfl, rfl⟩ := ev
      have hrin := HR.out.rin rs[m] (List.getElem_mem _)
      have hno := HTW.out m rs[m].2 rfl (by rw [List.getElem?_map, List.getElem?_eq_getElem hlt]; rfl)
      have hxl := HST.out rs[m] (List.getElem_mem _)
      have hbl : bs < w.heap.size := World.block_lt_of_cell? w _ (hr 0 _ (List.getElem?_eq_getElem (by have := hrin.size; simpa using (show 0 < rs[m].1.size by omega))))
      generalize rs[m] = q at hr hrin hno hxl
      obtain ⟨C, x⟩ := q
      dsimp only at hr hrin hno hxl
      have HX := Lib.hid hrin
      have HRG : Hid (w.rangeAt bs (os + m * 109) C.toList) := hr
      have HGO : Hid (∀ w', Kept (fun _ => False) u w' → Calls Try.prog 39 #[.agg (bkC b.ep (.slice av ss.length cv)), .agg C, .int .i64 a1] w' (BgPost none b (.slice av ss.length cv) ss w')) := fun w' k => by
        have := f_bgo b _ ss C x a1 w' (hrin.kept (K3.out.trans k)) (B3.out.kept k) M3.out HGD.out hxl
        rw [hno] at this; exact this
      have HLE : Hid (∀ p ∈ ss, p.1.steps.length ≤ 1000000) := fun p hp => by
        have := GoodS.len (lim := a1.toNat) (HGD.out.sagas p.1 (M3.out ▸ List.mem_map_of_mem hp))
        omega
      clear hr hrin hno hxl HTW HST HR HGD
      go_upto_region 8 with (fail)
      have hrw : Hid (∀ {w' : World}, Kept (fun _ => False) u w' → w'.heap[g3]? = some (.cells (bkC b.ep (.slice av ss.length cv)) 54 (0, 0)) ∧ w'.rangeAt bs (os + m * 109) C.toList ∧ Kept (fun _ => False) w w') :=
        fun k => ⟨k.row Y3.out, fun j v hv => ((K3.out.trans k).cell (p := ⟨bs, os + m * 109 + j, none⟩) hbl id).trans (HRG.out j v hv), K3.out.trans k⟩
      have hd : Kept (fun _ => False) u u.drew := (Kept.refl _ _).drew
      have hg3 : g3 < u.heap.size := row_lt Y3.out
      have hmi : m * 109 + 109 ≤ rs.length * 109 := by omega
      refine wp_region_held_drew (S := fun w' => Kept (fun _ => False) u w') (by kernel_rfl) hd (fun hHeld => ?_)
      refine wpAnyH_take (i := 0) (oi := ⟨some 22, _, _, _, _, _⟩) (v := .agg (bkC b.ep (.slice av ss.length cv))) rfl (by kernel_rfl) (by kernel_rfl) (by kernel_rfl) (fun _ _ _ h => h) (yields54 (g := g3) (by kernel_rfl) rfl (fun w' hS => (hrw.out hS).1) (bkC_size _ _)) (by assumption) ?_
      try simp only [Act.put, List.setIfInBounds_toArray, List.set_cons_succ, List.set_cons_zero]
      refine wpAnyH_take (i := 1) (oi := ⟨some 23, _, _, _, _, _⟩) (v := .slice (some ⟨bs, os, none⟩) rs.length c) rfl (by kernel_rfl) (by kernel_rfl) (by kernel_rfl) (fun _ _ _ h => h) (Or.inl ⟨by kernel_rfl, fun w' hS => by go_simp⟩) (by assumption) ?_
      try simp only [Act.put, List.setIfInBounds_toArray, List.set_cons_succ, List.set_cons_zero]
      refine wpAnyH_take (i := 2) (oi := ⟨some 24, _, _, _, _, _⟩) (v := .int .i64 N) rfl (by kernel_rfl) (by kernel_rfl) (by kernel_rfl) (fun _ _ _ h => h) (Or.inl ⟨by kernel_rfl, fun w' hS => by go_simp⟩) (by assumption) ?_
      try simp only [Act.put, List.setIfInBounds_toArray, List.set_cons_succ, List.set_cons_zero]
      refine wpAnyH_take (i := 3) (oi := ⟨some 25, _, _, _, _, _⟩) (v := .int .i64 m) rfl (by kernel_rfl) (by kernel_rfl) (by kernel_rfl) (fun _ _ _ h => h) (Or.inl ⟨by kernel_rfl, fun w' hS => by go_simp⟩) (by assumption) ?_
      try simp only [Act.put, List.setIfInBounds_toArray, List.set_cons_succ, List.set_cons_zero]
      refine wpAnyH_take (i := 4) (oi := ⟨some 26, _, _, _, _, _⟩) (v := .pointer (some ⟨bs, os + m * 109, none⟩)) rfl (by kernel_rfl) (by kernel_rfl) (by kernel_rfl) (fun _ _ _ h => h) (Or.inl ⟨by kernel_rfl, fun w' hS => by go_simp⟩) (by assumption) ?_
      try simp only [Act.put, List.setIfInBounds_toArray, List.set_cons_succ, List.set_cons_zero]
      refine wpAnyH_take (i := 5) (oi := ⟨some 27, _, _, _, _, _⟩) (v := .agg C) rfl (by kernel_rfl) (by kernel_rfl) (by kernel_rfl) (fun _ _ _ h => h) (yields41o (g := bs) (o := os + m * 109) (by kernel_rfl) rfl (fun w' hS => (hrw.out hS).2.1) HX.out.size) (by assumption) ?_
      try simp only [Act.put, List.setIfInBounds_toArray, List.set_cons_succ, List.set_cons_zero]
      refine wpAnyH_take (i := 6) (oi := ⟨some 28, _, _, _, _, _⟩) (v := .int .i64 a1) rfl (by kernel_rfl) (by kernel_rfl) (by kernel_rfl) (fun _ _ _ h => h) (Or.inl ⟨by kernel_rfl, fun w' hS => by go_simp⟩) (by assumption) ?_
      try simp only [Act.put, List.setIfInBounds_toArray, List.set_cons_succ, List.set_cons_zero]
      refine wpAnyH_ready (rs := [7, 11]) (by kernel_rfl) (by simp) ?_
      refine AllReadyH.cons (o := _) rfl (fun K hK => ?_) (AllReadyH.cons (o := _) rfl (fun K hK => ?_) AllReadyH.nil)
      · -- the call first
        go_simp
        refine (HGO.out _ hd).mono ?_
        rintro e wx1 ⟨sv', ss', rfl, hb4, hm4, ho4, kx1⟩
        obtain ⟨av2, cv2, rfl⟩ := hb4.form
        simp only [Option.getD_none, Option.isSome_none] at *
        go_wp2_with fail
        have hS1 := hd.trans kx1
        refine hK.out _ _ hS1 (fun hHeld => ?_)
        clear hK K
        try simp only [Act.put, List.setIfInBounds_toArray, List.set_cons_succ, List.set_cons_zero]
        refine wpAnyH_take (i := 8) (oi := ⟨some 21, _, _, _, _, _⟩) (v := .tuple #[.agg (bkC b.ep (.slice av2 ss'.length cv2)), .bool false]) rfl (by kernel_rfl) (by kernel_rfl) (by kernel_rfl) (fun _ _ _ h => h) (Or.inl ⟨by kernel_rfl, fun w' hS => by go_simp⟩) (by assumption) ?_
        try simp only [Act.put, List.setIfInBounds_toArray, List.set_cons_succ, List.set_cons_zero]
        refine wpAnyH_take (i := 9) (oi := ⟨some 30, _, _, _, _, _⟩) (v := .agg (bkC b.ep (.slice av2 ss'.length cv2))) rfl (by kernel_rfl) (by kernel_rfl) (by kernel_rfl) (fun _ _ _ h => h) (Or.inl ⟨by kernel_rfl, fun w' hS => by go_simp⟩) (by assumption) ?_
        try simp only [Act.put, List.setIfInBounds_toArray, List.set_cons_succ, List.set_cons_zero]
        refine wpAnyH_take (i := 10) (oi := ⟨some 31, _, _, _, _, _⟩) (v := .bool false) rfl (by kernel_rfl) (by kernel_rfl) (by kernel_rfl) (fun _ _ _ h => h) (Or.inl ⟨by kernel_rfl, fun w' hS => by go_simp⟩) (by assumption) ?_
        try simp only [Act.put, List.setIfInBounds_toArray, List.set_cons_succ, List.set_cons_zero]
        refine wpAnyH_ready (rs := [11]) (by kernel_rfl) (by simp) ?_
        refine AllReadyH.cons (o := _) rfl (fun K hK => ?_) AllReadyH.nil
        refine step_alloc54 (by kernel_rfl) ?_
        obtain ⟨B8, hB8e⟩ : ∃ B8, wx1.heap.size = B8 := ⟨_, rfl⟩
        have hS2 := hS1.alloc (.cells Z54 54)
        have G8 := heap_alloc_new wx1 (.cells Z54 54)
        have hsz1 : u.heap.size ≤ wx1.heap.size := hS1.size
        have hb5 := hb4.kept ((Kept.refl (fun _ => False) wx1).alloc (.cells Z54 54))
        have hlt5 := hb4.own
        rw [hB8e] at G8 hsz1 hlt5 ⊢
        refine hK.out _ _ hS2 (fun hHeld => ?_)
        clear hK K
        try simp only [Act.put, List.setIfInBounds_toArray, List.set_cons_succ, List.set_cons_zero]
        refine wpAnyH_ready (rs := [12]) (by kernel_rfl) (by simp) ?_
        refine AllReadyH.cons (o := _) rfl (fun K hK => ?_) AllReadyH.nil
        refine step_store54 (g := B8) (C := bkC b.ep (.slice av2 ss'.length cv2)) (cur := Z54) (by kernel_rfl) rfl rfl (bkC_size _ _) (bkC_one _ _ _ _) G8 rfl ?_
        intro wn Yn kn
        rw [puts_all (by rfl)] at Yn
        have hSn : Kept (fun _ => False) u wn := hS2.trans' (T := fun j => j = B8) kn (fun j hj e => by omega)
        refine hK.out _ _ hSn (fun hHeld => ?_)
        clear hK K
        try simp only [Act.put, List.setIfInBounds_toArray, List.set_cons_succ, List.set_cons_zero]
        refine wpAnyH_take (i := 13) (oi := ⟨some 8, _, _, _, _, _⟩) (v := .bool false) rfl (by kernel_rfl) (by kernel_rfl) (by kernel_rfl) (fun _ _ _ h => h) (Or.inl ⟨by kernel_rfl, fun w' hS => by go_simp⟩) (by assumption) ?_
        try simp only [Act.put, List.setIfInBounds_toArray, List.set_cons_succ, List.set_cons_zero]
        refine wpAnyH_done (by kernel_rfl) ?_ _
        have hbn : BkIn wn (.slice av2 ss'.length cv2) ss' := hb5.keep (S := fun j => j = B8) kn (fun i hi e => by have := hlt5 i hi; omega)
        clear hb5 hlt5 hb4 ho4 hB8e hS1 hS2 kx1
        have HS9 := Lib.hid (f_rbksame b b (.slice av ss.length cv) (.slice av2 ss'.length cv2) ss ss' wn (B3.out.kept hSn) hbn M3.out hm4 HLE.out)
        rw [sameBk_self b] at HS9
        have Y8 := Lib.hid Yn
        have Y9 := Lib.hid (hSn.row Y3.out)
        have K9 := Lib.hid (K3.out.trans hSn)
        clear hSn kn Yn hrw HGO hm4 hbn
        go_wp2_with (first | fail | ((with_reducible refine load54g (g := g3) ?_ ?_ Y9.out (bkC_size _ _) ?_); rfl; rfl) | ((with_reducible refine load54g (g := B8) ?_ ?_ Y8.out (bkC_size _ _) ?_); rfl; rfl))
        refine HS9.out.mono ?_
        rintro e w10 ⟨rfl, k10⟩
        have KF := Lib.hid (K9.out.trans k10)
        go_wp2_with fail
        go_ret
        exact ⟨rfl, KF.out.below (Nat.le_refl _) (fun k h => h.elim)⟩
      · -- the variable first
        refine step_alloc54 (by kernel_rfl) ?_
        obtain ⟨B8, hB8e⟩ : ∃ B8, u.drew.heap.size = B8 := ⟨_, rfl⟩
        have hS1 := hd.alloc (.cells Z54 54)
        have G8' := heap_alloc_new u.drew (.cells Z54 54)
        have hsz1 : u.heap.size ≤ u.drew.heap.size := hd.size
        have hbx : u.drew.heap.size < (u.drew.alloc (.cells Z54 54)).heap.size := row_lt G8'
        rw [hB8e] at G8' hsz1 hbx ⊢
        refine hK.out _ _ hS1 (fun hHeld => ?_)
        clear hK K
        try simp only [Act.put, List.setIfInBounds_toArray, List.set_cons_succ, List.set_cons_zero]
        refine wpAnyH_ready (rs := [7]) (by kernel_rfl) (by simp) ?_
        refine AllReadyH.cons (o := _) rfl (fun K hK => ?_) AllReadyH.nil
        go_simp
        refine (HGO.out _ hS1).mono ?_
        rintro e wx1 ⟨sv', ss', rfl, hb4, hm4, ho4, kx1⟩
        obtain ⟨av2, cv2, rfl⟩ := hb4.form
        simp only [Option.getD_none, Option.isSome_none] at *
        go_wp2_with fail
        have hS2 := hS1.trans kx1
        refine hK.out _ _ hS2 (fun hHeld => ?_)
        clear hK K
        try simp only [Act.put, List.setIfInBounds_toArray, List.set_cons_succ, List.set_cons_zero]
        have G8 := kx1.row G8'
        clear G8'
        refine wpAnyH_take (i := 8) (oi := ⟨some 21, _, _, _, _, _⟩) (v := .tuple #[.agg (bkC b.ep (.slice av2 ss'.length cv2)), .bool false]) rfl (by kernel_rfl) (by kernel_rfl) (by kernel_rfl) (fun _ _ _ h => h) (Or.inl ⟨by kernel_rfl, fun w' hS => by go_simp⟩) (by assumption) ?_
        try simp only [Act.put, List.setIfInBounds_toArray, List.set_cons_succ, List.set_cons_zero]
        refine wpAnyH_take (i := 9) (oi := ⟨some 30, _, _, _, _, _⟩) (v := .agg (bkC b.ep (.slice av2 ss'.length cv2))) rfl (by kernel_rfl) (by kernel_rfl) (by kernel_rfl) (fun _ _ _ h => h) (Or.inl ⟨by kernel_rfl, fun w' hS => by go_simp⟩) (by assumption) ?_
        try simp only [Act.put, List.setIfInBounds_toArray, List.set_cons_succ, List.set_cons_zero]
        refine wpAnyH_take (i := 10) (oi := ⟨some 31, _, _, _, _, _⟩) (v := .bool false) rfl (by kernel_rfl) (by kernel_rfl) (by kernel_rfl) (fun _ _ _ h => h) (Or.inl ⟨by kernel_rfl, fun w' hS => by go_simp⟩) (by assumption) ?_
        try simp only [Act.put, List.setIfInBounds_toArray, List.set_cons_succ, List.set_cons_zero]
        refine wpAnyH_ready (rs := [12]) (by kernel_rfl) (by simp) ?_
        refine AllReadyH.cons (o := _) rfl (fun K hK => ?_) AllReadyH.nil
        refine step_store54 (g := B8) (C := bkC b.ep (.slice av2 ss'.length cv2)) (cur := Z54) (by kernel_rfl) rfl rfl (bkC_size _ _) (bkC_one _ _ _ _) G8 rfl ?_
        intro wn Yn kn
        rw [puts_all (by rfl)] at Yn
        have hSn : Kept (fun _ => False) u wn := hS2.trans' (T := fun j => j = B8) kn (fun j hj e => by omega)
        refine hK.out _ _ hSn (fun hHeld => ?_)
        clear hK K
        try simp only [Act.put, List.setIfInBounds_toArray, List.set_cons_succ, List.set_cons_zero]
        refine wpAnyH_take (i := 13) (oi := ⟨some 8, _, _, _, _, _⟩) (v := .bool false) rfl (by kernel_rfl) (by kernel_rfl) (by kernel_rfl) (fun _ _ _ h => h) (Or.inl ⟨by kernel_rfl, fun w' hS => by go_simp⟩) (by assumption) ?_
        try simp only [Act.put, List.setIfInBounds_toArray, List.set_cons_succ, List.set_cons_zero]
        refine wpAnyH_done (by kernel_rfl) ?_ _
        have hbn : BkIn wn (.slice av2 ss'.length cv2) ss' := hb4.keep (S := fun j => j = B8) kn (fun i hi e => by
          rcases ho4 i hi with h | h
          · have := B3.out.own i h; omega
          · omega)
        clear hb4 ho4 hB8e hS1 hS2 kx1 hbx
        have HS9 := Lib.hid (f_rbksame b b (.slice av ss.length cv) (.slice av2 ss'.length cv2) ss ss' wn (B3.out.kept hSn) hbn M3.out hm4 HLE.out)
        rw [sameBk_self b] at HS9
        have Y8 := Lib.hid Yn
        have Y9 := Lib.hid (hSn.row Y3.out)
        have K9 := Lib.hid (K3.out.trans hSn)
        clear hSn kn Yn hrw HGO hm4 hbn
        go_wp2_with (first | fail | ((with_reducible refine load54g (g := g3) ?_ ?_ Y9.out (bkC_size _ _) ?_); rfl; rfl) | ((with_reducible refine load54g (g := B8) ?_ ?_ Y8.out (bkC_size _ _) ?_); rfl; rfl))
        refine HS9.out.mono ?_
        rintro e w10 ⟨rfl, k10⟩
        have KF := Lib.hid (K9.out.trans k10)
        go_wp2_with fail
        go_ret
        exact ⟨rfl, KF.out.below (Nat.le_refl _) (fun k h => h.elim)⟩
set_option maxRecDepth 100000 in
theorem lifted (os : Os) (started : os.Started) (H : Type) (enc : TypeId × Value → H) :
    ReturnsInHanded {} Try.checked os 11 .any (Rows.bookTwiceSpec.pre6 enc Try.prog Try.f11 Rows.bookTwiceRow.domain false) (Rows.bookTwiceSpec.post enc Try.prog Try.f11 false true false false) := by
  refine returnsInHanded_of_change (C := Try.checked) own started (by kernel_rfl) Try.func11
    (ChangeSpec.witness6 (enc := enc) (C := Try.checked) false ⟨#[], #[.slice none 0 0, .int .i64 0], []⟩ 8 (by kernel_rfl) (by kernel_rfl) (by kernel_rfl) (by kernel_rfl)) ?_
  intro W base args ds gs before hval0 hW hcnd _
  have hval : ∀ (j : Nat) t v, Try.f11.params[j]? = some t → args[j]? = some v → Value.okWide Try.prog W .any base t v := hval0
  have hW' := hW
  obtain ⟨p, q, hA0, hV, rfl, hfz, hnd⟩ := hW
  have hA : DataW.TrodAll enc Try.prog W 0 (fun _ => true) true Try.f11.params.toList args.toList ds p := hA0
  rw [Try.params11] at hA hval
  obtain ⟨v0, vs0, d0, ds0, p0, q0, hargs, rfl, rfl, h0, r0⟩ := trodAll_cons hA
  obtain ⟨v1, vs1, d1, ds1, p1, q1, rfl, rfl, rfl, h1, r1⟩ := trodAll_cons r0
  obtain ⟨rfl, rfl, rfl⟩ := trodAll_nil r1
  obtain rfl : args = #[v0, v1] := by cases args; simp_all
  obtain ⟨rfl, rfl⟩ := trodVars_none hV
  have k0 := h0
  have lt0 : ∀ x ∈ p0, x.block < W.heap.size := by obtain ⟨m, hm⟩ := k0; exact DataW.trod_lt m _ _ _ hm
  have w0 := IsRecs.of (hval 0 49 v0 rfl rfl) h0
  obtain ⟨a1, rfl, rfl, rfl, w1⟩ := open_int Try.underlying3 (hval 1 3 v1 rfl rfl) h1
  clear hA0 hval0
  refine (walk W v0 w0 a1 w1).mono fun e W' ⟨he, bel⟩ => ?_
  subst he
  exact ⟨_, rfl, _, _, _, [], _, [], hW', trodAll_mk1 (shut_bool Try.underlying4 _), (trodAll_cons_mk (Below.trod laidOut (by kernel_rfl) (of_decide_eq_true (by kernel_rfl)) k0 bel lt0) (trodAll_cons_mk (shut_int Try.underlying3 w1) trodAll_mk0)), rfl, bel.frame _, fun h => by cases h⟩

theorem over : Rows.bookTwiceRow.holds Try.pinned (OpenSpec.ofChange Rows.bookTwiceSpec) :=
  OpenClaim.holds_of_wide 11 Try.f11 rfl rfl rfl rfl rfl rfl rfl ⟨rfl, rfl, rfl, rfl, rfl⟩ rfl rfl rfl rfl rfl (by kernel_rfl) Try.func11 (by kernel_rfl)
    (of_decide_eq_true (by kernel_rfl)) (by unfold Func.isWrapper; first | (rw [if_pos (by decide +kernel)]; kernel_rfl) | (rw [if_neg (by decide +kernel)]; exact ⟨rfl, rfl⟩))
    (fun os started H enc _ => lifted os started H enc)

theorem proved : Rows.BookTwiceSaid := over
#print axioms proved
end Go.Proofs.Ytklmhegmombegaa.bookTwice
