/-
  The contract of the book's call. Conditions: as each theorem says.
-/
import Derived.Test.YtklmhegmombegaaDoorBkA
set_option linter.unusedVariables false
set_option linter.unusedSimpArgs false
namespace Go.Proofs.YtklmhegmombegaaDoor.Re
open Go Go.RowKit Go.Proofs.YtklmhegmombegaaDoor.Re.Plain Go.Proofs.YtklmhegmombegaaDoor

namespace Plain
def bcall (b : Bk) (x : Rx) (lim : Nat) : Option Bk := match b.sagas[x.saga.toNat]? with
  | some s => (match go s x.rc lim with
    | some t => some { b with sagas := b.sagas.set x.saga.toNat t }
    | none => none)
  | none => none
theorem bcall_out {b : Bk} {x : Rx} {lim : Nat} (h : b.sagas.length ≤ x.saga.toNat) : bcall b x lim = none := by
  unfold bcall; rw [List.getElem?_eq_none h]
theorem bcall_in {b : Bk} {x : Rx} {lim i : Nat} {s : Sg} (hx : x.saga = i) (hs : b.sagas[i]? = some s) : bcall b x lim = if (goR s x.rc lim).2 = true then some { b with sagas := b.sagas.set i (goR s x.rc lim).1 } else none := by
  have : x.saga.toNat = i := by omega
  unfold bcall goR; rw [this, hs]
  dsimp only
  cases go s x.rc lim <;> rfl
end Plain
/-- A saga is written, in a plain region. -/
theorem put133 {ops : Array Oper} {rest : List Oper} {dst : Option Tmp} {ty : TypeId} {pos : String} {aft : Array Edge} {a : Act} {w : World} {Q : Exit → Act → World → Prop} {x y : Operand} {g o : Nat} {C cur : Array Value} {t : TypeId} (hx : a.eval x = .pointer (some ⟨g, o, none⟩)) (hy : a.eval y = .agg C) (hC : C.size = 10) (h1 : C.all (·.oneCell') = true) (hg : w.heap[g]? = some (.cells cur t (0, 0))) (ho : o + 10 ≤ cur.size)
    (h : ∀ w', w'.heap[g]? = some (.cells (puts cur o C.toList) t (0, 0)) → Kept (fun i => i = g) w w' → wpList Tryd.prog ops Q rest (a.put dst undef) w') :
    wpList Tryd.prog ops Q (⟨dst, .store 133 x y, ty, pos, aft, none⟩ :: rest) a w := by
  refine wpList_store_mid (P := Tryd.prog) rfl 133 x y rfl g o _ hx hy (fun j hj => ?_) (by rw [Tryd.isz133, hC]) h1 ?_
  · refine ⟨?_, free_of_block hg⟩
    rw [cell_of_block hg (by omega)]; rfl
  · exact h _ (setCells_block _ _ _ _ hg) (setCells_kept _ _ _)
theorem fsg_all (l : List (Sg × Value)) : ∀ p ∈ l, (fsg p).length = 10 := fun p _ => fsg_len p
/-- A book whose saga i has turned, in new memory. -/
theorem call_end {b : Bk} {w w5 wz : World} {sv : Value} {ss : List (Sg × Value)} {i g cap : Nat} {cur : Array Value} {s t : Sg} {vs : Value} {r : Option Bk} {X : Array Value} {base : Nat}
    (hr : r = some { b with sagas := b.sagas.set i t }) (hb : ss.map (·.1) = b.sagas) (HB : BkIn w sv ss) (hlt : i < ss.length) (hpi : ss[i]? = some (s, vs)) (hts : t.steps = s.steps) (hst : Stp w vs s.steps)
    (hbuf : Buf w5 base 133 10 (.slice (some ⟨g, 0, none⟩) ss.length cap) ss.length (ss.flatMap fsg)) (hg : w.heap.size + 1 + 1 < g) (hcs : ss.length * 10 ≤ cur.size) (hcc : cap * 10 ≤ cur.size) (hnc : ss.length ≤ cap) (hct : cur.toList.take (ss.length * 10) = ss.flatMap fsg)
    (RG : wz.heap[g]? = some (.cells (puts cur (i * 10) (sgC t vs).toList) 133 (0, 0))) (RK : Kept (fun _ => False) w wz) :
    BgPost r b sv ss w (.returned (.tuple #[.agg (bkC b.ep (.slice (some ⟨g, 0, none⟩) ss.length cap)), .bool true])) (wz.setRow (w.heap.size + 1 + 1) X) := by
  subst hr
  have hm : cap ≤ maxLen := by
    obtain ⟨_, hh | ⟨g', cap', cur', e, _, _, _, hm, _⟩⟩ := hbuf
    · cases hh.1
    · cases e; exact hm
  have hl2 : (ss.set i (t, vs)).length = ss.length := List.length_set
  have hbuf2 : Buf wz w.heap.size 133 10 (.slice (some ⟨g, 0, none⟩) (ss.set i (t, vs)).length cap) (ss.set i (t, vs)).length ((ss.set i (t, vs)).flatMap fsg) := by
    refine ⟨by rw [flat_len _ (fsg_all _)], .inr ⟨g, cap, _, rfl, by omega, RG, by rw [hl2]; exact hnc, hm, by rw [puts_size]; exact hcc, ?_⟩⟩
    rw [hl2]
    exact flat_set (f := fsg) (s := 10) (y := (t, vs)) (by decide) (fsg_all ss) (fsg_len _) hlt cur hct hcs
  have hst2 : ∀ p ∈ ss.set i (t, vs), Stp wz p.2 p.1.steps := fun p hp => by
    rcases List.mem_or_eq_of_mem_set hp with h | h
    · exact (HB.st p h).kept RK
    · subst h
      show Stp wz vs t.steps
      rw [hts]
      exact hst.kept RK
  have hbk : BkIn wz (.slice (some ⟨g, 0, none⟩) (ss.set i (t, vs)).length cap) (ss.set i (t, vs)) := hbuf2.bkIn (by rw [hl2]; exact HB.len) hst2
  have hown : ∀ k, Own (.slice (some ⟨g, 0, none⟩) (ss.set i (t, vs)).length cap) (ss.set i (t, vs)) k → Own sv ss k ∨ w.heap.size + 1 + 1 < k := fun k hk => by
    rcases hk with hk | ⟨p, hp, hk⟩
    · cases hk; right; omega
    · left; right
      rcases List.mem_or_eq_of_mem_set hp with h | h
      · exact ⟨p, h, hk⟩
      · subst h; exact ⟨(s, vs), List.mem_of_getElem? hpi, hk⟩
  rw [hl2] at hbk hown
  refine ⟨_, ss.set i (t, vs), rfl, hbk.keep (S := fun j => j = w.heap.size + 1 + 1) ⟨rfl, rfl, rfl, by simp [World.setRow], fun j _ hs => setRow_other _ _ _ _ hs⟩ (fun j hj e => ?_), ?_, fun k hk => ?_, RK.setRow (by omega) _⟩
  · rcases hown j hj with h | h
    · have := HB.own j h; omega
    · omega
  · rw [List.map_set]
    show (ss.map (·.1)).set i t = b.sagas.set i t
    rw [hb]
  · rcases hown k hk with h | h
    · exact .inl h
    · right; omega
set_option maxRecDepth 100000 in
set_option maxHeartbeats 8000000 in
theorem f_call (b : Bk) (sv : Value) (ss : List (Sg × Value)) (C : Array Value) (x : Rx) (lim : Nat) (w : World) (hX : RecIn w C x) (hB : BkIn w sv ss) (hb : ss.map (·.1) = b.sagas) (hx : 0 ≤ x.saga) (hg : ∀ s ∈ b.sagas, GoodS lim s) (h1 : 1 ≤ lim) (h9 : lim ≤ 9) :
    Calls Tryd.prog 125 #[.agg (bkC b.ep sv), .agg C, .int .i64 lim] w (BgPost (bcall b x lim) b sv ss w) := by
  obtain ⟨g0, g1, g2⟩ := heap_alloc3 w (.cells (bkC b.ep sv) 88) (.cells C 30) (.cells Z88 88)
  have K3 := (((Kept.refl (fun _ => False) w).alloc (.cells (bkC b.ep sv) 88)).alloc (.cells C 30)).alloc (.cells Z88 88)
  obtain ⟨a, c, rfl⟩ := hB.form
  have hlb : ss.length = b.sagas.length := by rw [← hb, List.length_map]
  have hls := hB.len
  have x1 := row_cell g1 hX.c1
  have b4 := row_cell g0 (show (bkC b.ep (.slice a ss.length c))[4]? = some (.slice a ss.length c) from rfl)
  have G0 := Lib.hid g0
  have G1 := Lib.hid g1
  have G2 := Lib.hid g2
  have HK := Lib.hid K3
  have HX := Lib.hid hX
  have HB := Lib.hid hB
  have HBS := Lib.hid hb
  have HG := Lib.hid hg
  have hone := Lib.hid (bkC_one b.ep a ss.length c)
  obtain ⟨i, hi⟩ : ∃ i : Nat, x.saga = i := ⟨x.saga.toNat, by omega⟩
  have HI := Lib.hid hi
  rw [hi] at x1
  clear g0 g1 g2 K3 hX hB hb hg hx hi
  by_cases hge : ss.length ≤ i
  · have E : Hid (bcall b x lim = none) := bcall_out (by rw [HI.out]; omega)
    clear hlb
    go_enter Tryd.func125, Tryd.ntmps125
    go_upto_region 1 with (first | fail | (with_reducible refine alloc88 ?_))
    generalize ((w.alloc (.cells (bkC b.ep (.slice a ss.length c)) 88)).alloc (.cells C 30)).alloc (.cells Z88 88) = w2 at *
    go_wp2_with (first | fail | ((with_reducible refine load88 (g := w.heap.size) ?_ G0.out (bkC_size _ _) ?_); rfl) | ((with_reducible refine store88 ?_ ?_ G2.out rfl (bkC_size _ _) hone.out ?_); rfl; rfl))
    exact bodyPost_ret (results_88 rfl _ _ _ (setRow_heap _ _ _ _ _ _ G2.out) (bkC_size _ _) rfl) rfl (BgPost.no E.out HBS.out HB.out HK.out _ (by omega) _)
  · have hlt : i < ss.length := by omega
    obtain ⟨bs, os, cs, ev, hr⟩ := HB.out.rd.elem (by decide) (fsg_all _) hlt
    simp only [Value.slice.injEq, true_and] at ev
    obtain ⟨rfl, rfl⟩ := ev
    have hst := HB.out.st ss[i] (List.getElem_mem _)
    have hgs := HG.out ss[i].1 (by rw [← HBS.out]; exact List.mem_map_of_mem (List.getElem_mem _))
    have hbi : b.sagas[i]? = some ss[i].1 := by rw [← HBS.out, List.getElem?_map, List.getElem?_eq_getElem hlt]; rfl
    have hrange : Hid (w.rangeAt bs (os + i * 10) (sgC ss[i].1 ss[i].2).toList) := hr
    have hbl : bs < w.heap.size := HB.out.lt bs rfl
    have E0 : Hid (bcall b x lim = _) := bcall_in HI.out hbi
    have HSI : Hid (∀ t, ss.set i (t, ss[i].2) = ss.set i (t, ss[i].2)) := fun _ => rfl
    have hpi := List.getElem?_eq_getElem hlt
    generalize ss[i] = q at hrange hst hgs E0 hpi
    clear HSI hr hbi
    obtain ⟨s, vs⟩ := q
    dsimp only at hrange hst hgs E0
    obtain ⟨av, cv, hvs⟩ := hst.form
    have HST := Lib.hid hst
    have HGS := Lib.hid hgs
    have HPI := Lib.hid hpi
    have hso : Hid (∀ t : Sg, t.steps = s.steps → (sgC t vs).all (·.oneCell') = true) := fun t ht => by rw [hvs]; exact sgC_one t av _ cv
    have hgo := goR_steps s x.rc lim
    have HGO := Lib.hid (fun w' (k : Kept (fun _ => False) w w') => f_goAny s vs C x.rc lim w' HX.out.recish hgs (hst.kept k) h1 h9)
    generalize goR s x.rc lim = r at hgo HGO E0
    obtain ⟨t, okb⟩ := r
    dsimp only at hgo HGO E0
    have HTS := Lib.hid hgo
    clear hst hgs hpi hvs hgo hge hlb
    go_enter Tryd.func125, Tryd.ntmps125
    go_upto_region 1 with (first | fail | (with_reducible refine alloc88 ?_))
    generalize ((w.alloc (.cells (bkC b.ep (.slice (some ⟨bs, os, none⟩) ss.length c)) 88)).alloc (.cells C 30)).alloc (.cells Z88 88) = w2 at *
    have hrw : Hid (∀ {w' : World}, Kept (fun _ => False) w2 w' → w'.heap[w.heap.size]? = some (.cells (bkC b.ep (.slice (some ⟨bs, os, none⟩) ss.length c)) 88 (0, 0)) ∧ w'.heap[w.heap.size + 1]? = some (.cells C 30 (0, 0)) ∧ w'.heap[w.heap.size + 1 + 1]? = some (.cells Z88 88 (0, 0)) ∧ Kept (fun _ => False) w w' ∧ w'.rangeAt bs (os + i * 10) (sgC s vs).toList) :=
      fun k => ⟨k.row G0.out, k.row G1.out, k.row G2.out, HK.out.trans k, fun j u hu => ((HK.out.trans k).cell (p := ⟨bs, os + i * 10 + j, none⟩) hbl id).trans (hrange.out j u hu)⟩
    have h12 : (w2.heap.size : Nat) > w.heap.size + 1 + 1 := row_lt G2.out
    go_upto_region 3 with (fail)
    have hd : Kept (fun _ => False) w2 w2.drew := (Kept.refl _ _).drew
    refine wp_region_held_drew (S := fun w' => Kept (fun _ => False) w2 w') (by kernel_rfl) hd (fun hHeld => ?_)
    refine wpAnyH_take (i := 0) (oi := ⟨some 18, _, _, _, _, _⟩) (v := .pointer (some ⟨w.heap.size, 4, none⟩)) rfl (by kernel_rfl) (by kernel_rfl) (by kernel_rfl) (fun _ _ _ h => h) (Or.inl ⟨by kernel_rfl, fun w' hS => by go_simp⟩) (by assumption) ?_
    try simp only [Act.put, List.setIfInBounds_toArray, List.set_cons_succ, List.set_cons_zero]
    refine wpAnyH_take (i := 1) (oi := ⟨some 19, _, _, _, _, _⟩) (v := .slice (some ⟨bs, os, none⟩) ss.length c) rfl (by kernel_rfl) (by kernel_rfl) (by kernel_rfl) (fun _ _ _ h => h) (Or.inl ⟨by kernel_rfl, fun w' hS => by have hc := row_cell (hrw.out hS).1 (show (bkC b.ep (.slice (some ⟨bs, os, none⟩) ss.length c))[4]? = some (.slice (some ⟨bs, os, none⟩) ss.length c) from rfl); go_simp⟩) (by assumption) ?_
    try simp only [Act.put, List.setIfInBounds_toArray, List.set_cons_succ, List.set_cons_zero]
    refine wpAnyH_take (i := 2) (oi := ⟨some 20, _, _, _, _, _⟩) (v := .pointer (some ⟨w.heap.size + 1, 1, none⟩)) rfl (by kernel_rfl) (by kernel_rfl) (by kernel_rfl) (fun _ _ _ h => h) (Or.inl ⟨by kernel_rfl, fun w' hS => by go_simp⟩) (by assumption) ?_
    try simp only [Act.put, List.setIfInBounds_toArray, List.set_cons_succ, List.set_cons_zero]
    refine wpAnyH_take (i := 3) (oi := ⟨some 21, _, _, _, _, _⟩) (v := .int .i64 i) rfl (by kernel_rfl) (by kernel_rfl) (by kernel_rfl) (fun _ _ _ h => h) (Or.inl ⟨by kernel_rfl, fun w' hS => by have hc := (row_cell (hrw.out hS).2.1 HX.out.c1).trans (by rw [HI.out]); go_simp⟩) (by assumption) ?_
    try simp only [Act.put, List.setIfInBounds_toArray, List.set_cons_succ, List.set_cons_zero]
    refine wpAnyH_take (i := 4) (oi := ⟨some 22, _, _, _, _, _⟩) (v := .pointer (some ⟨bs, os + i * 10, none⟩)) rfl (by kernel_rfl) (by kernel_rfl) (by kernel_rfl) (fun _ _ _ h => h) (Or.inl ⟨by kernel_rfl, fun w' hS => by go_simp⟩) (by assumption) ?_
    try simp only [Act.put, List.setIfInBounds_toArray, List.set_cons_succ, List.set_cons_zero]
    refine wpAnyH_take (i := 5) (oi := ⟨some 23, _, _, _, _, _⟩) (v := .agg (sgC s vs)) rfl (by kernel_rfl) (by kernel_rfl) (by kernel_rfl) (fun _ _ _ h => h) (yields133o (g := bs) (o := os + i * 10) (by kernel_rfl) rfl (fun w' hS => (hrw.out hS).2.2.2.2) (sgC_size _ _)) (by assumption) ?_
    try simp only [Act.put, List.setIfInBounds_toArray, List.set_cons_succ, List.set_cons_zero]
    refine wpAnyH_take (i := 6) (oi := ⟨some 24, _, _, _, _, _⟩) (v := .agg C) rfl (by kernel_rfl) (by kernel_rfl) (by kernel_rfl) (fun _ _ _ h => h) (yields30 (g := w.heap.size + 1) (by kernel_rfl) rfl (fun w' hS => (hrw.out hS).2.1) HX.out.size) (by assumption) ?_
    try simp only [Act.put, List.setIfInBounds_toArray, List.set_cons_succ, List.set_cons_zero]
    refine wpAnyH_take (i := 7) (oi := ⟨some 25, _, _, _, _, _⟩) (v := .int .i64 lim) rfl (by kernel_rfl) (by kernel_rfl) (by kernel_rfl) (fun _ _ _ h => h) (Or.inl ⟨by kernel_rfl, fun w' hS => by go_simp⟩) (by assumption) ?_
    try simp only [Act.put, List.setIfInBounds_toArray, List.set_cons_succ, List.set_cons_zero]
    refine wpAnyH_ready (rs := [8, 12]) (by kernel_rfl) (by simp) ?_
    refine AllReadyH.cons (o := _) rfl (fun K hK => ?_) (AllReadyH.cons (o := _) rfl (fun K hK => ?_) AllReadyH.nil)
    · go_simp
      refine (HGO.out _ (hrw.out hd).2.2.2.1).mono ?_
      rintro e wx1 ⟨rfl, kx1⟩
      go_wp2_with fail
      have hS1 := hd.trans kx1
      refine hK.out _ _ hS1 (fun hHeld => ?_)
      clear hK K
      try simp only [Act.put, List.setIfInBounds_toArray, List.set_cons_succ, List.set_cons_zero]
      refine wpAnyH_take (i := 9) (oi := ⟨some 17, _, _, _, _, _⟩) (v := .tuple #[.agg (sgC t vs), .bool okb]) rfl (by kernel_rfl) (by kernel_rfl) (by kernel_rfl) (fun _ _ _ h => h) (Or.inl ⟨by kernel_rfl, fun w' hS => by go_simp⟩) (by assumption) ?_
      try simp only [Act.put, List.setIfInBounds_toArray, List.set_cons_succ, List.set_cons_zero]
      refine wpAnyH_take (i := 10) (oi := ⟨some 27, _, _, _, _, _⟩) (v := .agg (sgC t vs)) rfl (by kernel_rfl) (by kernel_rfl) (by kernel_rfl) (fun _ _ _ h => h) (Or.inl ⟨by kernel_rfl, fun w' hS => by go_simp⟩) (by assumption) ?_
      try simp only [Act.put, List.setIfInBounds_toArray, List.set_cons_succ, List.set_cons_zero]
      refine wpAnyH_take (i := 11) (oi := ⟨some 28, _, _, _, _, _⟩) (v := .bool okb) rfl (by kernel_rfl) (by kernel_rfl) (by kernel_rfl) (fun _ _ _ h => h) (Or.inl ⟨by kernel_rfl, fun w' hS => by go_simp⟩) (by assumption) ?_
      try simp only [Act.put, List.setIfInBounds_toArray, List.set_cons_succ, List.set_cons_zero]
      refine wpAnyH_ready (rs := [12]) (by kernel_rfl) (by simp) ?_
      refine AllReadyH.cons (o := _) rfl (fun K hK => ?_) AllReadyH.nil
      refine step_alloc133 (by kernel_rfl) ?_
      obtain ⟨B8, hB8e⟩ : ∃ B8, wx1.heap.size = B8 := ⟨_, rfl⟩
      have hS2 := hS1.alloc (.cells Z133 133)
      have G8 := heap_alloc_new wx1 (.cells Z133 133)
      have hsz1 : w2.heap.size ≤ wx1.heap.size := hS1.size
      rw [hB8e] at G8 hsz1 ⊢
      have hB8 : w.heap.size + 1 + 1 < B8 := by omega
      have hB82 : w2.heap.size ≤ B8 := hsz1
      clear hB8e hsz1 kx1
      refine hK.out _ _ hS2 (fun hHeld => ?_)
      clear hK K
      try simp only [Act.put, List.setIfInBounds_toArray, List.set_cons_succ, List.set_cons_zero]
      refine wpAnyH_ready (rs := [13]) (by kernel_rfl) (by simp) ?_
      refine AllReadyH.cons (o := _) rfl (fun K hK => ?_) AllReadyH.nil
      refine step_store133 (g := B8) (o := 0) (C := sgC t vs) (cur := Z133) (by kernel_rfl) rfl rfl (sgC_size _ _) (hso.out t HTS.out) G8 (by decide) ?_
      intro wn Yn kn
      rw [puts_all (by rfl)] at Yn
      have hSn : Kept (fun _ => False) w2 wn := hS2.trans' (T := fun j => j = B8) kn (fun j hj e => by omega)
      refine hK.out _ _ hSn (fun hHeld => ?_)
      clear hK K
      try simp only [Act.put, List.setIfInBounds_toArray, List.set_cons_succ, List.set_cons_zero]
      refine wpAnyH_take (i := 14) (oi := ⟨some 9, _, _, _, _, _⟩) (v := .bool okb) rfl (by kernel_rfl) (by kernel_rfl) (by kernel_rfl) (fun _ _ _ h => h) (Or.inl ⟨by kernel_rfl, fun w' hS => by go_simp⟩) (by assumption) ?_
      try simp only [Act.put, List.setIfInBounds_toArray, List.set_cons_succ, List.set_cons_zero]
      refine wpAnyH_done (by kernel_rfl) ?_ _
      have Y8 := Lib.hid Yn
      have HW : Hid (∀ {w' : World}, Kept (fun _ => False) wn w' → w'.heap[w.heap.size]? = some (.cells (bkC b.ep (.slice (some ⟨bs, os, none⟩) ss.length c)) 88 (0, 0)) ∧ w'.heap[w.heap.size + 1]? = some (.cells C 30 (0, 0)) ∧ w'.heap[w.heap.size + 1 + 1]? = some (.cells Z88 88 (0, 0)) ∧ Kept (fun _ => False) w w' ∧ w'.heap[B8]? = some (.cells (sgC t vs) 133 (0, 0))) := fun k => ⟨(hrw.out (hSn.trans k)).1, (hrw.out (hSn.trans k)).2.1, (hrw.out (hSn.trans k)).2.2.1, (hrw.out (hSn.trans k)).2.2.2.1, k.row Y8.out⟩
      have hB8n : w.heap.size + 1 + 1 < B8 := hB8
      have hwn : B8 < wn.heap.size := row_lt Yn
      clear hSn kn Yn hrw HGO x1 b4
      cases okb with
      | false =>
        have E : Hid (bcall b x lim = none) := E0.out
        have H0 := Lib.hid (HW.out (Kept.refl _ _))
        go_wp2_with (first | fail | ((with_reducible refine load88 (g := w.heap.size) ?_ H0.out.1 (bkC_size _ _) ?_); rfl) | ((with_reducible refine store88 ?_ ?_ H0.out.2.2.1 rfl (bkC_size _ _) hone.out ?_); rfl; rfl))
        exact bodyPost_ret (results_88 rfl _ _ _ (setRow_heap _ _ _ _ _ _ H0.out.2.2.1) (bkC_size _ _) rfl) rfl (BgPost.no E.out HBS.out HB.out H0.out.2.2.2.1 _ (by omega) _)
      | true =>
        have E : Hid (bcall b x lim = some { b with sagas := b.sagas.set i t }) := E0.out
        have H0 := Lib.hid (HW.out (Kept.refl _ _))
        have b4 := row_cell H0.out.1 (show (bkC b.ep (.slice (some ⟨bs, os, none⟩) ss.length c))[4]? = some (.slice (some ⟨bs, os, none⟩) ss.length c) from rfl)
        go_wp2_with fail
        refine (f_cloneS _ ss _ (HB.out.kept H0.out.2.2.2.1)).mono ?_
        rintro e w5 ⟨sv', rfl, hbuf, k5⟩
        obtain ⟨g, cap, cur, rfl, hbg, hgg, hcap, hcsz, hctake⟩ := hbuf.pos (by omega)
        have hp0 : 0 < ss.length := by omega
        obtain ⟨q0, q1, q2, q3, q4⟩ := HW.out k5
        have b4' := row_cell q0 (show (bkC b.ep (.slice (some ⟨bs, os, none⟩) ss.length c))[4]? = some (.slice (some ⟨bs, os, none⟩) ss.length c) from rfl)
        have fz := free_of_block (j := 4) q0
        have z0 := setCell_block (k := 4) q0 (.slice (some ⟨g, 0, none⟩) ss.length cap)
        rw [show (bkC b.ep (.slice (some ⟨bs, os, none⟩) ss.length c)).setIfInBounds 4 (.slice (some ⟨g, 0, none⟩) ss.length cap) = bkC b.ep (.slice (some ⟨g, 0, none⟩) ss.length cap) from rfl] at z0
        have zo : ∀ j, j ≠ w.heap.size → (w5.setCell ⟨w.heap.size, 4, none⟩ (.slice (some ⟨g, 0, none⟩) ss.length cap)).heap[j]? = w5.heap[j]? := fun j hj => setCell_heap_other w5 ⟨w.heap.size, 4, none⟩ _ j hj
        have z1 := (zo _ (by omega)).trans q1
        have z2 := (zo _ (by omega)).trans q2
        have z8 := (zo _ (by omega)).trans q4
        have zg := (zo g (by omega)).trans hgg
        have zk := q3.setCell (p := ⟨w.heap.size, 4, none⟩) (.inr (Nat.le_refl _)) (.slice (some ⟨g, 0, none⟩) ss.length cap)
        have Q0 := Lib.hid z0
        have Q1 := Lib.hid z1
        have Q2 := Lib.hid z2
        have Q8 := Lib.hid z8
        have QG := Lib.hid zg
        have QK := Lib.hid zk
        have HCT := Lib.hid hctake
        have HBUF := Lib.hid hbuf
        have hgb : w.heap.size + 1 + 1 < g := by have h1 := H0.out.2.2.2.1.size; have h2 := row_lt H0.out.2.2.1; omega
        have HCS := Lib.hid (show ss.length * 10 ≤ cur.size by have hle10 : ss.length * 10 ≤ cap * 10 := Nat.mul_le_mul_right _ hcap; omega)
        clear z0 z1 z2 z8 zg zk zo q0 q1 q2 q3 q4 b4 hgg hctake k5 H0 HW Y8 hbuf
        go_upto_region 7 with (fail)
        generalize w5.setCell _ _ = w6 at Q0 Q1 Q2 Q8 QG QK ⊢
        clear b4' fz
        have b4 := row_cell Q0.out (show (bkC b.ep (.slice (some ⟨g, 0, none⟩) ss.length cap))[4]? = some (.slice (some ⟨g, 0, none⟩) ss.length cap) from rfl)
        have x1 := (row_cell Q1.out HX.out.c1).trans (by rw [HI.out])
        have hcap10 : i * 10 + 10 ≤ cur.size := by omega
        go_upto_region 8 with (first | fail | ((with_reducible refine load133 (C := sgC t vs) (g := B8) (o := 0) ?_ (range_row Q8.out) (sgC_size _ _) ?_); rfl) | ((with_reducible refine put133 (g := g) (o := i * 10) (C := sgC t vs) (cur := cur) ?_ ?_ (sgC_size _ _) (hso.out t HTS.out) QG.out hcap10 ?_); rfl; rfl; intro wz Yz kz; have YZ := Lib.hid Yz; have KZ := Lib.hid kz; clear Yz kz))
        have R0 := Lib.hid ((KZ.out.block _ (row_lt Q0.out) (by omega)).trans Q0.out)
        have R2 := Lib.hid ((KZ.out.block _ (row_lt Q2.out) (by omega)).trans Q2.out)
        have RK : Hid (Kept (fun _ => False) w wz) := QK.out.trans' KZ.out (fun j hj e => by omega)
        have RG := YZ
        have one2 := Lib.hid (bkC_one b.ep (some ⟨g, 0, none⟩) ss.length cap)
        clear Q0 Q1 Q2 Q8 QG QK KZ b4 x1
        go_wp2_with (first | fail | ((with_reducible refine load88 (g := w.heap.size) ?_ R0.out (bkC_size _ _) ?_); rfl) | ((with_reducible refine store88 ?_ ?_ R2.out rfl (bkC_size _ _) one2.out ?_); rfl; rfl))
        exact bodyPost_ret (results_88 rfl _ _ _ (setRow_heap _ _ _ _ _ _ R2.out) (bkC_size _ _) rfl) rfl (call_end E.out HBS.out HB.out hlt HPI.out HTS.out HST.out HBUF.out hgb HCS.out hcsz hcap HCT.out RG.out RK.out)
    · refine step_alloc133 (by kernel_rfl) ?_
      obtain ⟨B8, hB8e⟩ : ∃ B8, w2.drew.heap.size = B8 := ⟨_, rfl⟩
      have hS1 := hd.alloc (.cells Z133 133)
      have G8' := heap_alloc_new w2.drew (.cells Z133 133)
      have hsz1 : w2.heap.size ≤ w2.drew.heap.size := hd.size
      rw [hB8e] at G8' hsz1 ⊢
      have hB8 : w.heap.size + 1 + 1 < B8 := by omega
      have hB82 : w2.heap.size ≤ B8 := hsz1
      clear hB8e hsz1
      refine hK.out _ _ hS1 (fun hHeld => ?_)
      clear hK K
      try simp only [Act.put, List.setIfInBounds_toArray, List.set_cons_succ, List.set_cons_zero]
      refine wpAnyH_ready (rs := [8]) (by kernel_rfl) (by simp) ?_
      refine AllReadyH.cons (o := _) rfl (fun K hK => ?_) AllReadyH.nil
      go_simp
      refine (HGO.out _ (hrw.out hS1).2.2.2.1).mono ?_
      rintro e wx1 ⟨rfl, kx1⟩
      go_wp2_with fail
      have hS2 := hS1.trans kx1
      refine hK.out _ _ hS2 (fun hHeld => ?_)
      clear hK K
      try simp only [Act.put, List.setIfInBounds_toArray, List.set_cons_succ, List.set_cons_zero]
      have G8 := kx1.row G8'
      clear G8' kx1
      refine wpAnyH_take (i := 9) (oi := ⟨some 17, _, _, _, _, _⟩) (v := .tuple #[.agg (sgC t vs), .bool okb]) rfl (by kernel_rfl) (by kernel_rfl) (by kernel_rfl) (fun _ _ _ h => h) (Or.inl ⟨by kernel_rfl, fun w' hS => by go_simp⟩) (by assumption) ?_
      try simp only [Act.put, List.setIfInBounds_toArray, List.set_cons_succ, List.set_cons_zero]
      refine wpAnyH_take (i := 10) (oi := ⟨some 27, _, _, _, _, _⟩) (v := .agg (sgC t vs)) rfl (by kernel_rfl) (by kernel_rfl) (by kernel_rfl) (fun _ _ _ h => h) (Or.inl ⟨by kernel_rfl, fun w' hS => by go_simp⟩) (by assumption) ?_
      try simp only [Act.put, List.setIfInBounds_toArray, List.set_cons_succ, List.set_cons_zero]
      refine wpAnyH_take (i := 11) (oi := ⟨some 28, _, _, _, _, _⟩) (v := .bool okb) rfl (by kernel_rfl) (by kernel_rfl) (by kernel_rfl) (fun _ _ _ h => h) (Or.inl ⟨by kernel_rfl, fun w' hS => by go_simp⟩) (by assumption) ?_
      try simp only [Act.put, List.setIfInBounds_toArray, List.set_cons_succ, List.set_cons_zero]
      refine wpAnyH_ready (rs := [13]) (by kernel_rfl) (by simp) ?_
      refine AllReadyH.cons (o := _) rfl (fun K hK => ?_) AllReadyH.nil
      refine step_store133 (g := B8) (o := 0) (C := sgC t vs) (cur := Z133) (by kernel_rfl) rfl rfl (sgC_size _ _) (hso.out t HTS.out) G8 (by decide) ?_
      intro wn Yn kn
      rw [puts_all (by rfl)] at Yn
      have hSn : Kept (fun _ => False) w2 wn := hS2.trans' (T := fun j => j = B8) kn (fun j hj e => by omega)
      refine hK.out _ _ hSn (fun hHeld => ?_)
      clear hK K
      try simp only [Act.put, List.setIfInBounds_toArray, List.set_cons_succ, List.set_cons_zero]
      refine wpAnyH_take (i := 14) (oi := ⟨some 9, _, _, _, _, _⟩) (v := .bool okb) rfl (by kernel_rfl) (by kernel_rfl) (by kernel_rfl) (fun _ _ _ h => h) (Or.inl ⟨by kernel_rfl, fun w' hS => by go_simp⟩) (by assumption) ?_
      try simp only [Act.put, List.setIfInBounds_toArray, List.set_cons_succ, List.set_cons_zero]
      refine wpAnyH_done (by kernel_rfl) ?_ _
      have Y8 := Lib.hid Yn
      have HW : Hid (∀ {w' : World}, Kept (fun _ => False) wn w' → w'.heap[w.heap.size]? = some (.cells (bkC b.ep (.slice (some ⟨bs, os, none⟩) ss.length c)) 88 (0, 0)) ∧ w'.heap[w.heap.size + 1]? = some (.cells C 30 (0, 0)) ∧ w'.heap[w.heap.size + 1 + 1]? = some (.cells Z88 88 (0, 0)) ∧ Kept (fun _ => False) w w' ∧ w'.heap[B8]? = some (.cells (sgC t vs) 133 (0, 0))) := fun k => ⟨(hrw.out (hSn.trans k)).1, (hrw.out (hSn.trans k)).2.1, (hrw.out (hSn.trans k)).2.2.1, (hrw.out (hSn.trans k)).2.2.2.1, k.row Y8.out⟩
      have hB8n : w.heap.size + 1 + 1 < B8 := hB8
      have hwn : B8 < wn.heap.size := row_lt Yn
      clear hSn kn Yn hrw HGO x1 b4
      cases okb with
      | false =>
        have E : Hid (bcall b x lim = none) := E0.out
        have H0 := Lib.hid (HW.out (Kept.refl _ _))
        go_wp2_with (first | fail | ((with_reducible refine load88 (g := w.heap.size) ?_ H0.out.1 (bkC_size _ _) ?_); rfl) | ((with_reducible refine store88 ?_ ?_ H0.out.2.2.1 rfl (bkC_size _ _) hone.out ?_); rfl; rfl))
        exact bodyPost_ret (results_88 rfl _ _ _ (setRow_heap _ _ _ _ _ _ H0.out.2.2.1) (bkC_size _ _) rfl) rfl (BgPost.no E.out HBS.out HB.out H0.out.2.2.2.1 _ (by omega) _)
      | true =>
        have E : Hid (bcall b x lim = some { b with sagas := b.sagas.set i t }) := E0.out
        have H0 := Lib.hid (HW.out (Kept.refl _ _))
        have b4 := row_cell H0.out.1 (show (bkC b.ep (.slice (some ⟨bs, os, none⟩) ss.length c))[4]? = some (.slice (some ⟨bs, os, none⟩) ss.length c) from rfl)
        go_wp2_with fail
        refine (f_cloneS _ ss _ (HB.out.kept H0.out.2.2.2.1)).mono ?_
        rintro e w5 ⟨sv', rfl, hbuf, k5⟩
        obtain ⟨g, cap, cur, rfl, hbg, hgg, hcap, hcsz, hctake⟩ := hbuf.pos (by omega)
        have hp0 : 0 < ss.length := by omega
        obtain ⟨q0, q1, q2, q3, q4⟩ := HW.out k5
        have b4' := row_cell q0 (show (bkC b.ep (.slice (some ⟨bs, os, none⟩) ss.length c))[4]? = some (.slice (some ⟨bs, os, none⟩) ss.length c) from rfl)
        have fz := free_of_block (j := 4) q0
        have z0 := setCell_block (k := 4) q0 (.slice (some ⟨g, 0, none⟩) ss.length cap)
        rw [show (bkC b.ep (.slice (some ⟨bs, os, none⟩) ss.length c)).setIfInBounds 4 (.slice (some ⟨g, 0, none⟩) ss.length cap) = bkC b.ep (.slice (some ⟨g, 0, none⟩) ss.length cap) from rfl] at z0
        have zo : ∀ j, j ≠ w.heap.size → (w5.setCell ⟨w.heap.size, 4, none⟩ (.slice (some ⟨g, 0, none⟩) ss.length cap)).heap[j]? = w5.heap[j]? := fun j hj => setCell_heap_other w5 ⟨w.heap.size, 4, none⟩ _ j hj
        have z1 := (zo _ (by omega)).trans q1
        have z2 := (zo _ (by omega)).trans q2
        have z8 := (zo _ (by omega)).trans q4
        have zg := (zo g (by omega)).trans hgg
        have zk := q3.setCell (p := ⟨w.heap.size, 4, none⟩) (.inr (Nat.le_refl _)) (.slice (some ⟨g, 0, none⟩) ss.length cap)
        have Q0 := Lib.hid z0
        have Q1 := Lib.hid z1
        have Q2 := Lib.hid z2
        have Q8 := Lib.hid z8
        have QG := Lib.hid zg
        have QK := Lib.hid zk
        have HCT := Lib.hid hctake
        have HBUF := Lib.hid hbuf
        have hgb : w.heap.size + 1 + 1 < g := by have h1 := H0.out.2.2.2.1.size; have h2 := row_lt H0.out.2.2.1; omega
        have HCS := Lib.hid (show ss.length * 10 ≤ cur.size by have hle10 : ss.length * 10 ≤ cap * 10 := Nat.mul_le_mul_right _ hcap; omega)
        clear z0 z1 z2 z8 zg zk zo q0 q1 q2 q3 q4 b4 hgg hctake k5 H0 HW Y8 hbuf
        go_upto_region 7 with (fail)
        generalize w5.setCell _ _ = w6 at Q0 Q1 Q2 Q8 QG QK ⊢
        clear b4' fz
        have b4 := row_cell Q0.out (show (bkC b.ep (.slice (some ⟨g, 0, none⟩) ss.length cap))[4]? = some (.slice (some ⟨g, 0, none⟩) ss.length cap) from rfl)
        have x1 := (row_cell Q1.out HX.out.c1).trans (by rw [HI.out])
        have hcap10 : i * 10 + 10 ≤ cur.size := by omega
        go_upto_region 8 with (first | fail | ((with_reducible refine load133 (C := sgC t vs) (g := B8) (o := 0) ?_ (range_row Q8.out) (sgC_size _ _) ?_); rfl) | ((with_reducible refine put133 (g := g) (o := i * 10) (C := sgC t vs) (cur := cur) ?_ ?_ (sgC_size _ _) (hso.out t HTS.out) QG.out hcap10 ?_); rfl; rfl; intro wz Yz kz; have YZ := Lib.hid Yz; have KZ := Lib.hid kz; clear Yz kz))
        have R0 := Lib.hid ((KZ.out.block _ (row_lt Q0.out) (by omega)).trans Q0.out)
        have R2 := Lib.hid ((KZ.out.block _ (row_lt Q2.out) (by omega)).trans Q2.out)
        have RK : Hid (Kept (fun _ => False) w wz) := QK.out.trans' KZ.out (fun j hj e => by omega)
        have RG := YZ
        have one2 := Lib.hid (bkC_one b.ep (some ⟨g, 0, none⟩) ss.length cap)
        clear Q0 Q1 Q2 Q8 QG QK KZ b4 x1
        go_wp2_with (first | fail | ((with_reducible refine load88 (g := w.heap.size) ?_ R0.out (bkC_size _ _) ?_); rfl) | ((with_reducible refine store88 ?_ ?_ R2.out rfl (bkC_size _ _) one2.out ?_); rfl; rfl))
        exact bodyPost_ret (results_88 rfl _ _ _ (setRow_heap _ _ _ _ _ _ R2.out) (bkC_size _ _) rfl) rfl (call_end E.out HBS.out HB.out hlt HPI.out HTS.out HST.out HBUF.out hgb HCS.out hcsz hcap HCT.out RG.out RK.out)
end Go.Proofs.YtklmhegmombegaaDoor.Re
