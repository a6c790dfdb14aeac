/-
  The contract of the book's begin. Conditions: as each theorem says.
-/
import Derived.Test.YtklmhegmombegaaDoorBkA
set_option linter.unusedVariables false
set_option linter.unusedSimpArgs false
namespace Go.Proofs.YtklmhegmombegaaDoor.Re
open Go Go.RowKit Go.Proofs.YtklmhegmombegaaDoor.Re.Plain Go.Proofs.YtklmhegmombegaaDoor
/-- May's answer where there are none, or too many. -/
theorem f_mayno (a : Option Addr) (n c : Nat) (w : World) (hn : ¬ (1 ≤ n ∧ n ≤ 6)) : Calls Tryd.prog 136 #[.slice a n c] w (BPost false w) := by
  have hwi : wi (n : Int) 1 6 = false := wi_false (by omega)
  have HW := Lib.hid hwi
  clear hwi hn
  go_enter Tryd.func136, Tryd.ntmps136
  go_wp2_with fail
  refine (f_within_is HW.out _).mono ?_
  rintro e w1 ⟨rfl, rfl⟩
  go_wp2_with fail
  go_ret
  exact BPost.mk rfl (Kept.refl _ _)

namespace Plain
def bbegin (b : Bk) (x : Rx) : Option Bk := if x.saga = b.sagas.length ∧ b.sagas.length < 12 ∧ mayB x.steps = true then some { b with sagas := b.sagas ++ [new x.steps] } else none
end Plain
/-- May, of steps that a record holds. -/
theorem HoldsSt.may {w : World} {v : Value} {l : List (Int × Int)} (h : HoldsSt w v l) : Calls Tryd.prog 136 #[v] w (BPost (mayB l) w) := by
  obtain ⟨a, c, rfl, hm, hs⟩ := h
  by_cases hn : 1 ≤ l.length ∧ l.length ≤ 6
  · exact f_may _ l w (hs (by intro h0; rw [h0] at hn; simp at hn)) (by omega)
  · have : mayB l = false := by simp [mayB, hn]
    rw [this]
    exact f_mayno a l.length c w hn
theorem HoldsSt.stp {w : World} {v : Value} {l : List (Int × Int)} (h : HoldsSt w v l) (hm : mayB l = true) : Stp w v l := by
  obtain ⟨a, c, rfl, _, hs⟩ := h
  exact hs (ne_nil hm)
/-- A book that a saga is put to, in new memory. -/
theorem begin_end {b : Bk} {w w5 : World} {sv v' vn : Value} {ss : List (Sg × Value)} {l : List (Int × Int)} {r : Option Bk} {X : Array Value}
    (hr : r = some { b with sagas := b.sagas ++ [new l] }) (hb : ss.map (·.1) = b.sagas) (HB : BkIn w sv ss) (hl : ss.length ≤ 12)
    (hbuf : Buf w5 (w.heap.size + 1 + 1 + 1) 133 10 v' (ss.length + 1) (ss.flatMap fsg ++ (sgC (new l) vn).toList)) (hst : Stp w5 vn l) (hvn : ∀ k, vn.ownBlock = some k → w.heap.size + 1 + 1 + 1 ≤ k) (RK : Kept (fun _ => False) w w5) :
    BgPost r b sv ss w (.returned (.tuple #[.agg (bkC b.ep v'), .bool true])) (w5.setRow (w.heap.size + 1 + 1) X) := by
  subst hr
  have hf : (ss ++ [(new l, vn)]).flatMap fsg = ss.flatMap fsg ++ (sgC (new l) vn).toList := by rw [List.flatMap_append]; simp [fsg]
  have hl2 : (ss ++ [(new l, vn)]).length = ss.length + 1 := by simp
  have hst2 : ∀ p ∈ ss ++ [(new l, vn)], Stp w5 p.2 p.1.steps := fun p hp => by
    rcases List.mem_append.1 hp with h | h
    · exact (HB.st p h).kept RK
    · obtain rfl : p = (new l, vn) := by simpa using h
      exact hst
  have hbk : BkIn w5 v' (ss ++ [(new l, vn)]) := Buf.bkIn (base := w.heap.size + 1 + 1 + 1) (by rw [hl2, hf]; exact hbuf) (by omega) hst2
  have hown : ∀ k, Own v' (ss ++ [(new l, vn)]) k → Own sv ss k ∨ w.heap.size + 1 + 1 + 1 ≤ k := fun k hk => by
    rcases hk with hk | ⟨p, hp, hk⟩
    · exact .inr (hbuf.lt k hk).1
    · rcases List.mem_append.1 hp with h | h
      · exact .inl (.inr ⟨p, h, hk⟩)
      · obtain rfl : p = (new l, vn) := by simpa using h
        exact .inr (hvn k hk)
  refine ⟨_, _, rfl, hbk.keep (S := fun j => j = w.heap.size + 1 + 1) ⟨rfl, rfl, rfl, by simp [World.setRow], fun j _ hs => setRow_other _ _ _ _ hs⟩ (fun j hj e => ?_), ?_, fun k hk => ?_, RK.setRow (by omega) _⟩
  · rcases hown j hj with h | h
    · have := HB.own j h; omega
    · omega
  · simp [hb]
  · rcases hown k hk with h | h
    · exact .inl h
    · right; omega
section
variable {ops : Array Oper} {dst : Option Tmp} {ty : TypeId} {pos : String} {aft : Array Edge} {gd : Option (Nat × Bool)} {a : Act} {w : World} {Q : Exit → Act → World → Prop} {K : Act → World → Prop} {E : Prop}
set_option maxRecDepth 100000 in
/-- A slice of one saga is made, in a region that draws its order. -/
theorem step_one27 {x : Operand} {C : Array Value} (hw : Region.wanted ⟨dst, .buildSlice 86 1 #[(0, x)], ty, pos, aft, gd⟩ (yielded ops a.tmps) = true) (hx : a.eval x = .agg C) (hC : C.size = 10) (h1 : C.all (·.oneCell') = true)
    (h : K (a.put dst (.slice (some ⟨w.heap.size, 0, none⟩) 1 1)) (w.alloc (.cells C 133))) :
    if Region.wanted ⟨dst, .buildSlice 86 1 #[(0, x)], ty, pos, aft, gd⟩ (yielded ops a.tmps) = true then Oper.wp Tryd.prog ⟨dst, .buildSlice 86 1 #[(0, x)], ty, pos, aft, gd⟩ a w K Q else E := by
  rw [if_pos hw]
  obtain ⟨i, z, hi, hs, _, hz, hzs⟩ := info133'
  refine wp_buildSlice (P := Tryd.prog) 86 133 1 #[(0, x)] rfl C i z Tryd.underlying86 hi hz (by rw [hs]; decide) (by rw [hs]; decide) ?_ h
  rw [hs]
  have := Great.fill_whole (s := 10) (by decide) [.agg C] ((Array.range (1 * 10)).map (z.cells[· % z.cells.size]!)) (by simp [Value.cells, hC]) (by simp)
  simp only [Array.toList_map, List.map_cons, List.map_nil, hx, List.zipIdx_cons, List.zipIdx_nil, List.flatMap_cons, List.flatMap_nil, Value.cells, Array.toArray_toList, List.append_nil] at this ⊢
  exact this
/-- One cell of a book is written, in a region that draws its order. -/
theorem step_putT {x y : Operand} {g o : Nat} {C : Array Value} {v : Value} {t T : TypeId} (hw : Region.wanted ⟨dst, .store t x y, ty, pos, aft, gd⟩ (yielded ops a.tmps) = true) (hx : a.eval x = .pointer (some ⟨g, o, none⟩)) (hy : a.eval y = v) (h1 : v.oneCell' = true) (hi : (Tryd.prog.info? t).map (·.size) = some 1) (hg : w.heap[g]? = some (.cells C T (0, 0))) (ho : o < C.size)
    (h : ∀ w', w'.heap[g]? = some (.cells (C.setIfInBounds o v) T (0, 0)) → Kept (fun i => i = g) w w' → K (a.put dst undef) w') :
    if Region.wanted ⟨dst, .store t x y, ty, pos, aft, gd⟩ (yielded ops a.tmps) = true then Oper.wp Tryd.prog ⟨dst, .store t x y, ty, pos, aft, gd⟩ a w K Q else E := by
  rw [if_pos hw]
  have hf := free_of_block (j := o) hg
  have hc := cell_of_block hg ho
  have e0 : ∀ j, j < ([v] : List Value).length → j = 0 := fun j hj => by simpa using hj
  have hs := run_storeCells_cells (P := Tryd.prog) g o [v] 0 w (fun j hj => by rw [e0 j hj]; simp [hc]) (fun j hj => by rw [e0 j hj]; simpa using hf) (by simpa using h1)
  have hn : v.cells = #[v] := by cases v <;> first | rfl | cases h1
  have hr : (Instr.storeAt t (.pointer (some ⟨g, o, none⟩)) v).run Tryd.prog w = .ok () (w.setCell ⟨g, o, none⟩ v) := by
    cases hq : Tryd.prog.info? t with
    | none => simp [hq] at hi
    | some i =>
      have hsz : i.size = 1 := by simpa [hq] using hi
      simp only [Nat.add_zero] at hs
      simp [Instr.storeAt, Instr.sureAddr, storeVar, sizeOf, typeInfo, hq, hn, hsz, hs, World.setCells]
  unfold Oper.wp execOp
  simp only [hx, hy, Sem.run_bind, Sem.run_pure, Result.andThen_ok, hr]
  exact h _ (setCell_block hg v) ((Kept.refl (fun i => i = g) w).setCell (p := ⟨g, o, none⟩) (.inl rfl) v)
end
theorem Stp.keepS {w w' : World} {v : Value} {l : List (Int × Int)} {S : Nat → Prop} (h : Stp w v l) (k : Kept S w w') (hs : ∀ i, v.ownBlock = some i → ¬ S i) : Stp w' v l := ⟨h.rd.kept k hs, fun i e => Nat.lt_of_lt_of_le (h.lt i e) k.size⟩
set_option maxRecDepth 100000 in
set_option maxHeartbeats 8000000 in
theorem f_begin (b : Bk) (sv : Value) (ss : List (Sg × Value)) (C : Array Value) (x : Rx) (lim : Int) (w : World) (hX : RecIn w C x) (hB : BkIn w sv ss) (hb : ss.map (·.1) = b.sagas) :
    Calls Tryd.prog 124 #[.agg (bkC b.ep sv), .agg C, .int .i64 lim] w (BgPost (bbegin b x) b sv ss w) := by
  obtain ⟨g0, g1, g2⟩ := heap_alloc3 w (.cells (bkC b.ep sv) 88) (.cells C 30) (.cells Z88 88)
  have K3 := (((Kept.refl (fun _ => False) w).alloc (.cells (bkC b.ep sv) 88)).alloc (.cells C 30)).alloc (.cells Z88 88)
  obtain ⟨a, c, rfl⟩ := hB.form
  have hls := hB.len
  obtain ⟨vs, hvs, hhs⟩ := hX.st
  have x1 := row_cell g1 hX.c1
  have b4 := row_cell g0 (show (bkC b.ep (.slice a ss.length c))[4]? = some (.slice a ss.length c) from rfl)
  have x42 := row_cell g1 hvs
  have G0 := Lib.hid g0
  have G1 := Lib.hid g1
  have G2 := Lib.hid g2
  have HK := Lib.hid K3
  have HB := Lib.hid hB
  have HBS := Lib.hid hb
  have HHS := Lib.hid hhs
  have HVS := Lib.hid hvs
  have hone := Lib.hid (bkC_one b.ep a ss.length c)
  have E0 : Hid (bbegin b x = if x.saga = ss.length ∧ ss.length < 12 ∧ mayB x.steps = true then some { b with sagas := b.sagas ++ [new x.steps] } else none) := by
    show _ = _
    unfold bbegin; rw [← hb, List.length_map]
  obtain ⟨vf, hvf⟩ : ∃ (p : Option Addr × Nat), vs = .slice p.1 x.steps.length p.2 := by obtain ⟨a, c, e, _⟩ := hhs; exact ⟨(a, c), e⟩
  have HMY := Lib.hid (fun w' (k : Kept (fun _ => False) w w') => (hhs.kept k).may)
  have NOF : Hid (∀ {w1 : World}, bbegin b x = none → Kept (fun _ => False) w w1 → w1.heap[w.heap.size]? = some (.cells (bkC b.ep (.slice a ss.length c)) 88 (0, 0)) → True) := fun _ _ _ => trivial
  clear g0 g1 g2 K3 hX hB hb hhs hvs NOF
  subst hvf
  by_cases hx : ¬ (x.saga = ss.length)
  · have E : Hid (bbegin b x = none) := E0.out.trans (if_neg (fun h => hx h.1))
    have t1 : (x.saga == (ss.length : Int)) = false := by rw [beq_eq_false_iff_ne]; exact hx
    have t2 : (x.saga != (ss.length : Int)) = true := by rw [bne, t1]; rfl
    clear hx
    go_enter Tryd.func124, Tryd.ntmps124
    go_upto_region 1 with (first | fail | (with_reducible refine alloc88 ?_))
    generalize ((w.alloc (.cells (bkC b.ep (.slice a ss.length c)) 88)).alloc (.cells C 30)).alloc (.cells Z88 88) = w2 at *
    go_wp2_with (first | fail | ((with_reducible refine load88 (g := w.heap.size) ?_ G0.out (bkC_size _ _) ?_); rfl) | ((with_reducible refine store88 ?_ ?_ G2.out rfl (bkC_size _ _) hone.out ?_); rfl; rfl))
    exact bodyPost_ret (results_88 rfl _ _ _ (setRow_heap _ _ _ _ _ _ G2.out) (bkC_size _ _) rfl) rfl (BgPost.no E.out HBS.out HB.out HK.out _ (by omega) _)
  have hxe := Decidable.not_not.1 hx
  have t1 : (x.saga == (ss.length : Int)) = true := by rw [beq_iff_eq]; exact hxe
  have t2 : (x.saga != (ss.length : Int)) = false := by rw [bne, t1]; rfl
  have HXE := Lib.hid hxe
  clear hxe hx
  by_cases hx : 12 ≤ ss.length
  · have E : Hid (bbegin b x = none) := E0.out.trans (if_neg (fun h => by omega))
    have t3 : decide (12 ≤ (ss.length : Int)) = true := by simpa using (by omega : (12 : Int) ≤ ss.length)
    clear hx
    go_enter Tryd.func124, Tryd.ntmps124
    go_upto_region 1 with (first | fail | (with_reducible refine alloc88 ?_))
    generalize ((w.alloc (.cells (bkC b.ep (.slice a ss.length c)) 88)).alloc (.cells C 30)).alloc (.cells Z88 88) = w2 at *
    go_wp2_with (first | fail | ((with_reducible refine load88 (g := w.heap.size) ?_ G0.out (bkC_size _ _) ?_); rfl) | ((with_reducible refine store88 ?_ ?_ G2.out rfl (bkC_size _ _) hone.out ?_); rfl; rfl))
    exact bodyPost_ret (results_88 rfl _ _ _ (setRow_heap _ _ _ _ _ _ G2.out) (bkC_size _ _) rfl) rfl (BgPost.no E.out HBS.out HB.out HK.out _ (by omega) _)
  have hl12 : ss.length < 12 := by omega
  clear hx
  cases hmy : mayB x.steps with
  | false =>
    have hx : True := trivial
    have E : Hid (bbegin b x = none) := E0.out.trans (if_neg (fun h => by rw [hmy] at h; exact absurd h.2.2 (by decide)))
    rw [hmy] at HMY
    clear hmy
    clear hx
    go_enter Tryd.func124, Tryd.ntmps124
    go_upto_region 1 with (first | fail | (with_reducible refine alloc88 ?_))
    generalize ((w.alloc (.cells (bkC b.ep (.slice a ss.length c)) 88)).alloc (.cells C 30)).alloc (.cells Z88 88) = w2 at *
    go_wp2_with fail
    refine (HMY.out _ HK.out).mono ?_
    rintro e w3 ⟨rfl, k3⟩
    replace G0 := Lib.hid (k3.row G0.out)
    replace G2 := Lib.hid (k3.row G2.out)
    replace HK := Lib.hid (HK.out.trans k3)
    clear k3 x1 b4 x42
    go_wp2_with (first | fail | ((with_reducible refine load88 (g := w.heap.size) ?_ G0.out (bkC_size _ _) ?_); rfl) | ((with_reducible refine store88 ?_ ?_ G2.out rfl (bkC_size _ _) hone.out ?_); rfl; rfl))
    exact bodyPost_ret (results_88 rfl _ _ _ (setRow_heap _ _ _ _ _ _ G2.out) (bkC_size _ _) rfl) rfl (BgPost.no E.out HBS.out HB.out HK.out _ (by omega) _)
  | true =>
    have E : Hid (bbegin b x = some { b with sagas := b.sagas ++ [new x.steps] }) := E0.out.trans (if_pos ⟨HXE.out, hl12, hmy⟩)
    rw [hmy] at HMY
    have HNEW := Lib.hid (fun w' (k : Kept (fun _ => False) w w') => f_new (.slice vf.1 x.steps.length vf.2) x.steps w' ((HHS.out.kept k).stp hmy) (by have := mayB_len hmy; omega))
    have HNO : Hid (newOf x.steps = new x.steps) := by show newOf x.steps = _; rw [newOf, if_pos hmy]
    clear hmy E0
    rw [HNO.out] at HNEW
    go_enter Tryd.func124, Tryd.ntmps124
    go_upto_region 1 with (first | fail | (with_reducible refine alloc88 ?_))
    generalize ((w.alloc (.cells (bkC b.ep (.slice a ss.length c)) 88)).alloc (.cells C 30)).alloc (.cells Z88 88) = w2 at *
    go_wp2_with fail
    refine (HMY.out _ HK.out).mono ?_
    rintro e w3 ⟨rfl, k3⟩
    replace G0 := Lib.hid (k3.row G0.out)
    replace G1 := Lib.hid (k3.row G1.out)
    replace G2 := Lib.hid (k3.row G2.out)
    replace HK := Lib.hid (HK.out.trans k3)
    clear k3 x1 b4 x42
    go_upto_region 3 with (fail)
    have h3 : w.heap.size + 1 + 1 < w3.heap.size := row_lt G2.out
    have hrw : Hid (∀ {w' : World}, Kept (fun _ => False) w3 w' → w'.heap[w.heap.size]? = some (.cells (bkC b.ep (.slice a ss.length c)) 88 (0, 0)) ∧ w'.heap[w.heap.size + 1]? = some (.cells C 30 (0, 0)) ∧ w'.heap[w.heap.size + 1 + 1]? = some (.cells Z88 88 (0, 0)) ∧ Kept (fun _ => False) w w') := fun k => ⟨k.row G0.out, k.row G1.out, k.row G2.out, HK.out.trans k⟩
    have hd : Kept (fun _ => False) w3 w3.drew := (Kept.refl _ _).drew
    refine wp_region_held_drew (S := fun w' => Kept (fun j => j = w.heap.size) w3 w') (by kernel_rfl) (hd.mono fun _ _ h => h.elim) (fun hHeld => ?_)
    refine wpAnyH_take (i := 0) (oi := ⟨some 27, _, _, _, _, _⟩) (v := .pointer (some ⟨w.heap.size, 4, none⟩)) rfl (by kernel_rfl) (by kernel_rfl) (by kernel_rfl) (fun _ _ _ h => h) (Or.inl ⟨by kernel_rfl, fun w' hS => by go_simp⟩) (by assumption) ?_
    try simp only [Act.put, List.setIfInBounds_toArray, List.set_cons_succ, List.set_cons_zero]
    refine wpAnyH_take (i := 3) (oi := ⟨some 30, _, _, _, _, _⟩) (v := .pointer (some ⟨w.heap.size + 1, 42, none⟩)) rfl (by kernel_rfl) (by kernel_rfl) (by kernel_rfl) (fun _ _ _ h => h) (Or.inl ⟨by kernel_rfl, fun w' hS => by go_simp⟩) (by assumption) ?_
    try simp only [Act.put, List.setIfInBounds_toArray, List.set_cons_succ, List.set_cons_zero]
    have hX42 : Hid (∀ {w' : World}, Kept (fun j => j = w.heap.size) w3 w' → w'.cell? ⟨w.heap.size + 1, 42, none⟩ = some (.slice vf.1 x.steps.length vf.2)) := fun k => (k.cell (p := ⟨w.heap.size + 1, 42, none⟩) (by show w.heap.size + 1 < w3.heap.size; omega) (by show ¬ (w.heap.size + 1 = w.heap.size); omega)).trans (row_cell G1.out HVS.out)
    refine wpAnyH_take (i := 4) (oi := ⟨some 31, _, _, _, _, _⟩) (v := .slice vf.1 x.steps.length vf.2) rfl (by kernel_rfl) (by kernel_rfl) (by kernel_rfl) (fun _ _ _ h => h) (Or.inl ⟨by kernel_rfl, fun w' hS => by have hc := hX42.out hS; go_simp⟩) (by assumption) ?_
    try simp only [Act.put, List.setIfInBounds_toArray, List.set_cons_succ, List.set_cons_zero]
    refine wpAnyH_ready (rs := [1]) (by kernel_rfl) (by simp) ?_
    refine AllReadyH.cons (o := _) rfl (fun K hK => ?_) AllReadyH.nil
    have hc := row_cell (hrw.out hd).1 (show (bkC b.ep (.slice a ss.length c))[4]? = some (.slice a ss.length c) from rfl)
    go_simp
    clear hc
    refine hK.out _ _ (hd.mono fun _ _ h => h.elim) (fun hHeld => ?_)
    clear hK K
    try simp only [Act.put, List.setIfInBounds_toArray, List.set_cons_succ, List.set_cons_zero]
    refine wpAnyH_ready (rs := [2]) (by kernel_rfl) (by simp) ?_
    refine AllReadyH.cons (o := _) rfl (fun K hK => ?_) AllReadyH.nil
    go_simp
    refine (f_cloneS _ ss _ (HB.out.kept (hrw.out hd).2.2.2)).mono ?_
    rintro e wx1 ⟨v', rfl, hbuf, kx1⟩
    go_wp2_with fail
    have hS1 := hd.trans kx1
    refine hK.out _ _ (hS1.mono fun _ _ h => h.elim) (fun hHeld => ?_)
    clear hK K
    try simp only [Act.put, List.setIfInBounds_toArray, List.set_cons_succ, List.set_cons_zero]
    refine wpAnyH_ready (rs := [5]) (by kernel_rfl) (by simp) ?_
    refine AllReadyH.cons (o := _) rfl (fun K hK => ?_) AllReadyH.nil
    go_simp
    refine (HNEW.out _ (hrw.out hS1).2.2.2).mono ?_
    rintro e wx2 ⟨a5, c5, rfl, hs5, hfr5, kx2⟩
    have hst5 : (new x.steps).steps = x.steps := rfl
    rw [hst5] at hs5 hfr5 ⊢
    go_wp2_with fail
    have hS2 := hS1.trans kx2
    refine hK.out _ _ (hS2.mono fun _ _ h => h.elim) (fun hHeld => ?_)
    clear hK K
    try simp only [Act.put, List.setIfInBounds_toArray, List.set_cons_succ, List.set_cons_zero]
    refine wpAnyH_ready (rs := [6]) (by kernel_rfl) (by simp) ?_
    refine AllReadyH.cons (o := _) rfl (fun K hK => ?_) AllReadyH.nil
    refine step_one27 (C := sgC (new x.steps) (.slice a5 x.steps.length c5)) (by kernel_rfl) rfl (sgC_size _ _) (sgC_one _ _ _ _) ?_
    have hS3 := hS2.alloc (.cells (sgC (new x.steps) (.slice a5 x.steps.length c5)) 133)
    have hgn := heap_alloc_new wx2 (.cells (sgC (new x.steps) (.slice a5 x.steps.length c5)) 133)
    have hsrc : Src Tryd.prog 10 86 (.slice (some ⟨wx2.heap.size, 0, none⟩) 1 1) 1 (sgC (new x.steps) (.slice a5 x.steps.length c5)).toList (wx2.alloc (.cells (sgC (new x.steps) (.slice a5 x.steps.length c5)) 133)) := by
      have h := Rd.of_block hgn 10 1 1 (by rw [sgC_size]; decide)
      rw [List.take_of_length_le (by simp [sgC])] at h
      exact h.src Tryd.underlying86 (fun u hu => Array.all_eq_true_iff_forall_mem.1 (sgC_one _ _ _ _) u (by simpa using hu))
    have hbase : w.heap.size + 1 + 1 + 1 ≤ w3.drew.heap.size := h3
    have hbuf2 : Buf (wx2.alloc (.cells (sgC (new x.steps) (.slice a5 x.steps.length c5)) 133)) (w.heap.size + 1 + 1 + 1) 133 10 v' ss.length (ss.flatMap fsg) := (hbuf.mono hbase).kept (S := fun _ => False) (kx2.alloc _) (fun _ _ h => h)
    refine hK.out _ _ (hS3.mono fun _ _ h => h.elim) (fun hHeld => ?_)
    clear hK K
    try simp only [Act.put, List.setIfInBounds_toArray, List.set_cons_succ, List.set_cons_zero]
    refine wpAnyH_ready (rs := [7]) (by kernel_rfl) (by simp) ?_
    refine AllReadyH.cons (o := _) rfl (fun K hK => ?_) AllReadyH.nil
    obtain ⟨i, z, hi, hsz, hby, hz, hzs⟩ := info133'
    refine step_append_buf _ rfl (.tmp 29) (.tmp 33) 86 86 rfl (w.heap.size + 1 + 1 + 1) 133 i z 10 88 Tryd.underlying86 hi hz hsz hby hzs (by decide) v' ss.length (ss.flatMap fsg) rfl hbuf2 _ _ _ rfl hsrc (by unfold maxLen; omega) (by omega) (by have h1 := hS3.size; omega) ?_
    intro v2 wx4 hb4 hg4 ho4 hn4
    have hS4 : Kept (fun _ => False) w3 wx4 := hS3.grown hg4 (fun k hk => .inr (by have h1 := (hbuf.lt k hk).1; exact h1))
    have hst4 : Stp wx4 (.slice a5 x.steps.length c5) x.steps := (hs5.alloc _).keepS (S := fun k => v'.ownBlock = some k) ⟨hg4.os, hg4.tape, hg4.output, hg4.size, fun k hk hs => hg4.block k hk (fun e => hs e.symm)⟩ (fun k e e' => by have h1 := hfr5 k e; have h2 := (hbuf.lt k e').2; omega)
    have hvn : ∀ k, (Value.slice a5 x.steps.length c5).ownBlock = some k → w.heap.size + 1 + 1 + 1 ≤ k := fun k e => by have h1 := hfr5 k e; have h2 := hS1.size; omega
    refine hK.out _ _ (hS4.mono fun _ _ h => h.elim) (fun hHeld => ?_)
    clear hK K
    try simp only [Act.put, List.setIfInBounds_toArray, List.set_cons_succ, List.set_cons_zero]
    refine wpAnyH_take (i := 8) (oi := ⟨some 35, _, _, _, _, _⟩) (v := .pointer (some ⟨w.heap.size, 4, none⟩)) rfl (by kernel_rfl) (by kernel_rfl) (by kernel_rfl) (fun _ _ _ h => h) (Or.inl ⟨by kernel_rfl, fun w' hS => by go_simp⟩) (by assumption) ?_
    try simp only [Act.put, List.setIfInBounds_toArray, List.set_cons_succ, List.set_cons_zero]
    refine wpAnyH_ready (rs := [9]) (by kernel_rfl) (by simp) ?_
    refine AllReadyH.cons (o := _) rfl (fun K hK => ?_) AllReadyH.nil
    obtain ⟨a2, c2, rfl, _⟩ := hb4.form
    refine step_putT (g := w.heap.size) (o := 4) (v := .slice a2 (ss.length + 1) c2) (by kernel_rfl) rfl rfl rfl (by kernel_rfl) (hrw.out hS4).1 (by rw [bkC_size]; decide) ?_
    intro wn Yn kn
    refine hK.out _ _ (Kept.trans (hS4.mono fun _ _ h => h.elim) kn) (fun hHeld => ?_)
    clear hK K
    try simp only [Act.put, List.setIfInBounds_toArray, List.set_cons_succ, List.set_cons_zero]
    refine wpAnyH_done (by kernel_rfl) ?_ _
    have Y := Lib.hid (show wn.heap[w.heap.size]? = some (.cells (bkC b.ep (.slice a2 (ss.length + 1) c2)) 88 (0, 0)) from Yn)
    have R2 := Lib.hid ((kn.block _ (row_lt (hrw.out hS4).2.2.1) (by omega)).trans (hrw.out hS4).2.2.1)
    have RK : Hid (Kept (fun _ => False) w wn) := (hrw.out hS4).2.2.2.trans' kn (fun j hj e => by omega)
    have HBF : Hid (Buf wn (w.heap.size + 1 + 1 + 1) 133 10 (.slice a2 (ss.length + 1) c2) (ss.length + 1) (ss.flatMap fsg ++ (sgC (new x.steps) (.slice a5 x.steps.length c5)).toList)) := hb4.kept kn (fun k e e' => by have := (hb4.lt k e).1; omega)
    have HSN : Hid (Stp wn (.slice a5 x.steps.length c5) x.steps) := hst4.keepS kn (fun k e e' => by have := hvn k e; omega)
    have HVN := Lib.hid hvn
    have one2 := Lib.hid (bkC_one b.ep a2 (ss.length + 1) c2)
    clear Yn kn hb4 hg4 ho4 hn4 hst4 hvn hbuf hbuf2 hsrc hgn hs5 hfr5 kx1 kx2 hS1 hS2 hS3 hS4 hrw hX42 HNEW HMY
    go_wp2_with (first | fail | ((with_reducible refine load88 (g := w.heap.size) ?_ Y.out (bkC_size _ _) ?_); rfl) | ((with_reducible refine store88 ?_ ?_ R2.out rfl (bkC_size _ _) one2.out ?_); rfl; rfl))
    exact bodyPost_ret (results_88 rfl _ _ _ (setRow_heap _ _ _ _ _ _ R2.out) (bkC_size _ _) rfl) rfl (begin_end E.out HBS.out HB.out (by omega) HBF.out HSN.out HVN.out RK.out)
end Go.Proofs.YtklmhegmombegaaDoor.Re
