/-
  The contract of the book's receipt. Conditions: as each theorem says.
-/
import Derived.Test.YtklmhegmombegaaDoorBkC
import Derived.Test.YtklmhegmombegaaDoorBkD
set_option linter.unusedVariables false
set_option linter.unusedSimpArgs false
namespace Go.Proofs.YtklmhegmombegaaDoor.Re
open Go Go.RowKit Go.Proofs.YtklmhegmombegaaDoor.Re.Plain Go.Proofs.YtklmhegmombegaaDoor

namespace Plain
def sPart (l : List (Int × Int)) (i : Nat) : Int := ((l[i]?).map (·.1)).getD 0
def breceipt (b : Bk) (x : Rx) (lim : Nat) : Option Bk := match b.sagas[x.saga.toNat]? with
  | some s => if x.step.toNat < s.steps.length ∧ sPart s.steps x.step.toNat = x.part ∧ b.ep x.part.toNat = x.epoch then bcall b x lim else none
  | none => none
end Plain
set_option maxRecDepth 100000 in
set_option maxHeartbeats 8000000 in
theorem f_receipt (b : Bk) (sv : Value) (ss : List (Sg × Value)) (C : Array Value) (x : Rx) (lim : Nat) (w : World) (hX : RecIn w C x) (hB : BkIn w sv ss) (hb : ss.map (·.1) = b.sagas) (hx : 0 ≤ x.saga) (hg : ∀ s ∈ b.sagas, GoodS lim s) (h1 : 1 ≤ lim) (h9 : lim ≤ 9)
    (hxs : 0 ≤ x.step ∧ x.step ≤ 5) (hxp : 0 ≤ x.part ∧ x.part ≤ 3) :
    Calls Tryd.prog 126 #[.agg (bkC b.ep sv), .agg C, .int .i64 lim] w (BgPost (breceipt b x lim) b sv ss w) := by
  obtain ⟨g0, g1, g2⟩ := heap_alloc3 w (.cells (bkC b.ep sv) 88) (.cells C 30) (.cells Z88 88)
  have K3 := (((Kept.refl (fun _ => False) w).alloc (.cells (bkC b.ep sv) 88)).alloc (.cells C 30)).alloc (.cells Z88 88)
  have HCALL := Lib.hid (fun w' (k : Kept (fun _ => False) w w') => f_call b sv ss C x lim w' (hX.kept k) (hB.kept k) hb hx hg h1 h9)
  obtain ⟨a, c, rfl⟩ := hB.form
  have hls := hB.len
  have x1 := row_cell g1 hX.c1
  have x3 := row_cell g1 hX.c3
  have x8 := row_cell g1 hX.c8
  have x9 := row_cell g1 hX.c9
  have b4 := row_cell g0 (show (bkC b.ep (.slice a ss.length c))[4]? = some (.slice a ss.length c) from rfl)
  have G0 := Lib.hid g0
  have G1 := Lib.hid g1
  have G2 := Lib.hid g2
  have HK := Lib.hid K3
  have HX := Lib.hid hX
  have HB := Lib.hid hB
  have HBS := Lib.hid hb
  have hone := Lib.hid (bkC_one b.ep a ss.length c)
  obtain ⟨i, hi⟩ : ∃ i : Nat, x.saga = i := ⟨x.saga.toNat, by omega⟩
  obtain ⟨k, hk⟩ : ∃ k : Nat, x.step = k := ⟨x.step.toNat, by omega⟩
  obtain ⟨p, hp⟩ : ∃ p : Nat, x.part = p := ⟨x.part.toNat, by omega⟩
  have hp4 : p < 4 := by omega
  have E0 : Hid (breceipt b x lim = match b.sagas[i]? with
    | some s => if k < s.steps.length ∧ sPart s.steps k = (p : Int) ∧ b.ep p = x.epoch then bcall b x lim else none
    | none => none) := by show _ = _; unfold breceipt; rw [hi, hk, hp]; rfl
  have xe := row_cell g0 (show (bkC b.ep (.slice a ss.length c))[p]? = some (.int .i64 (b.ep p)) by
    match p, hp4 with
    | 0, _ => rfl
    | 1, _ => rfl
    | 2, _ => rfl
    | 3, _ => rfl)
  rw [hi] at x1
  rw [hk] at x3
  rw [hp] at x8
  clear g0 g1 g2 K3 hX hB hb hg hx hi hk hp hxs hxp h1 h9
  by_cases hge : ss.length ≤ i
  · have E : Hid (breceipt b x lim = none) := E0.out.trans (by rw [List.getElem?_eq_none (by rw [← HBS.out, List.length_map]; omega)])
    have t1 : decide (ss.length ≤ i) = true := by simpa using hge
    clear E0 xe x3 x8 x9 HCALL hge
    go_enter Tryd.func126, Tryd.ntmps126
    go_upto_region 1 with (first | fail | (with_reducible refine alloc88 ?_))
    generalize ((w.alloc (.cells (bkC b.ep (.slice a ss.length c)) 88)).alloc (.cells C 30)).alloc (.cells Z88 88) = w2 at *
    go_quiet (fail)
    have G0' : Hid ((w2.drewN nq).heap[w.heap.size]? = some (.cells (bkC b.ep (.slice a ss.length c)) 88 (0, 0))) := G0.out
    have G2' : Hid ((w2.drewN nq).heap[w.heap.size + 1 + 1]? = some (.cells Z88 88 (0, 0))) := G2.out
    have K4 := Lib.hid (HK.out.drewN nq)
    clear x1 b4
    go_wp2_with (first | fail | ((with_reducible refine load88 (g := w.heap.size) ?_ G0'.out (bkC_size _ _) ?_); rfl) | ((with_reducible refine store88 ?_ ?_ G2'.out rfl (bkC_size _ _) hone.out ?_); rfl; rfl))
    exact bodyPost_ret (results_88 rfl _ _ _ (setRow_heap _ _ _ _ _ _ G2'.out) (bkC_size _ _) rfl) rfl (BgPost.no E.out HBS.out HB.out K4.out _ (by omega) _)
  · have hlt : i < ss.length := by omega
    have t1 : decide (ss.length ≤ i) = false := by simpa using hlt
    obtain ⟨bs, os, cs, ev, hr⟩ := HB.out.rd.elem (by decide) (fsg_all _) hlt
    simp only [Value.slice.injEq, true_and] at ev
    obtain ⟨rfl, rfl⟩ := ev
    have hst := HB.out.st ss[i] (List.getElem_mem _)
    have hbi : b.sagas[i]? = some ss[i].1 := by rw [← HBS.out, List.getElem?_map, List.getElem?_eq_getElem hlt]; rfl
    rw [hbi] at E0
    have hbl : bs < w.heap.size := HB.out.lt bs rfl
    generalize ss[i] = q at hr hst E0 hbi
    clear hbi
    obtain ⟨s, vs⟩ := q
    dsimp only at hst E0
    obtain ⟨av, cv, rfl⟩ := hst.form
    have hc0 := hr 0 (.slice av s.steps.length cv) rfl
    rw [Nat.add_zero] at hc0
    have xs0 := (HK.out.cell (p := ⟨bs, os + i * 10, none⟩) hbl id).trans hc0
    have HST := Lib.hid (hst.kept HK.out)
    clear hr hc0 hst hge
    by_cases hks : s.steps.length ≤ k
    · have E : Hid (breceipt b x lim = none) := E0.out.trans (if_neg (fun h => by omega))
      have t2 : decide (s.steps.length ≤ k) = true := by simpa using hks
      clear E0 xe x8 x9 HCALL hks
      go_enter Tryd.func126, Tryd.ntmps126
      go_upto_region 1 with (first | fail | (with_reducible refine alloc88 ?_))
      generalize ((w.alloc (.cells (bkC b.ep (.slice (some ⟨bs, os, none⟩) ss.length c)) 88)).alloc (.cells C 30)).alloc (.cells Z88 88) = w2 at *
      go_quiet (fail)
      have G0' : Hid ((w2.drewN nq).heap[w.heap.size]? = some (.cells (bkC b.ep (.slice (some ⟨bs, os, none⟩) ss.length c)) 88 (0, 0))) := G0.out
      have G2' : Hid ((w2.drewN nq).heap[w.heap.size + 1 + 1]? = some (.cells Z88 88 (0, 0))) := G2.out
      have K4 := Lib.hid (HK.out.drewN nq)
      clear x1 b4 xs0 x3
      go_wp2_with (first | fail | ((with_reducible refine load88 (g := w.heap.size) ?_ G0'.out (bkC_size _ _) ?_); rfl) | ((with_reducible refine store88 ?_ ?_ G2'.out rfl (bkC_size _ _) hone.out ?_); rfl; rfl))
      exact bodyPost_ret (results_88 rfl _ _ _ (setRow_heap _ _ _ _ _ _ G2'.out) (bkC_size _ _) rfl) rfl (BgPost.no E.out HBS.out HB.out K4.out _ (by omega) _)
    · have hkl : k < s.steps.length := by omega
      have t2 : decide (s.steps.length ≤ k) = false := by simpa using hkl
      obtain ⟨b2, o2, c2, ev, -, y0, -⟩ := HST.out.kind hkl
      simp only [Value.slice.injEq, true_and] at ev
      obtain ⟨rfl, rfl⟩ := ev
      have hpa : sPart s.steps k = s.steps[k].1 := by rw [sPart, List.getElem?_eq_getElem hkl]; rfl
      rw [← hpa] at y0
      clear hpa hks
      by_cases hpp : ¬ (sPart s.steps k = (p : Int))
      · have E : Hid (breceipt b x lim = none) := E0.out.trans (if_neg (fun h => hpp h.2.1))
        have t3 : (sPart s.steps k == (p : Int)) = false := by rw [beq_eq_false_iff_ne]; exact hpp
        have t3' : (sPart s.steps k != (p : Int)) = true := by rw [bne, t3]; rfl
        clear E0 xe x9 HCALL hpp
        go_enter Tryd.func126, Tryd.ntmps126
        go_upto_region 1 with (first | fail | (with_reducible refine alloc88 ?_))
        generalize ((w.alloc (.cells (bkC b.ep (.slice (some ⟨bs, os, none⟩) ss.length c)) 88)).alloc (.cells C 30)).alloc (.cells Z88 88) = w2 at *
        go_quiet (fail)
        have G0' : Hid ((w2.drewN nq).heap[w.heap.size]? = some (.cells (bkC b.ep (.slice (some ⟨bs, os, none⟩) ss.length c)) 88 (0, 0))) := G0.out
        have G2' : Hid ((w2.drewN nq).heap[w.heap.size + 1 + 1]? = some (.cells Z88 88 (0, 0))) := G2.out
        have K4 := Lib.hid (HK.out.drewN nq)
        clear x1 b4 xs0 x3 x8 y0
        go_wp2_with (first | fail | ((with_reducible refine load88 (g := w.heap.size) ?_ G0'.out (bkC_size _ _) ?_); rfl) | ((with_reducible refine store88 ?_ ?_ G2'.out rfl (bkC_size _ _) hone.out ?_); rfl; rfl))
        exact bodyPost_ret (results_88 rfl _ _ _ (setRow_heap _ _ _ _ _ _ G2'.out) (bkC_size _ _) rfl) rfl (BgPost.no E.out HBS.out HB.out K4.out _ (by omega) _)
      · have hpe := Decidable.not_not.1 hpp
        have t3 : (sPart s.steps k == (p : Int)) = true := by rw [beq_iff_eq]; exact hpe
        have t3' : (sPart s.steps k != (p : Int)) = false := by rw [bne, t3]; rfl
        have HPE := Lib.hid hpe
        clear hpp hpe
        by_cases hee : ¬ (b.ep p = x.epoch)
        · have E : Hid (breceipt b x lim = none) := E0.out.trans (if_neg (fun h => hee h.2.2))
          have t4 : (b.ep p == x.epoch) = false := by rw [beq_eq_false_iff_ne]; exact hee
          have t4' : (b.ep p != x.epoch) = true := by rw [bne, t4]; rfl
          clear E0 HCALL hee
          go_enter Tryd.func126, Tryd.ntmps126
          go_upto_region 1 with (first | fail | (with_reducible refine alloc88 ?_))
          generalize ((w.alloc (.cells (bkC b.ep (.slice (some ⟨bs, os, none⟩) ss.length c)) 88)).alloc (.cells C 30)).alloc (.cells Z88 88) = w2 at *
          go_quiet (fail)
          have G0' : Hid ((w2.drewN nq).heap[w.heap.size]? = some (.cells (bkC b.ep (.slice (some ⟨bs, os, none⟩) ss.length c)) 88 (0, 0))) := G0.out
          have G2' : Hid ((w2.drewN nq).heap[w.heap.size + 1 + 1]? = some (.cells Z88 88 (0, 0))) := G2.out
          have K4 := Lib.hid (HK.out.drewN nq)
          clear x1 b4 xs0 x3 x8 y0 x9 xe
          go_wp2_with (first | fail | ((with_reducible refine load88 (g := w.heap.size) ?_ G0'.out (bkC_size _ _) ?_); rfl) | ((with_reducible refine store88 ?_ ?_ G2'.out rfl (bkC_size _ _) hone.out ?_); rfl; rfl))
          exact bodyPost_ret (results_88 rfl _ _ _ (setRow_heap _ _ _ _ _ _ G2'.out) (bkC_size _ _) rfl) rfl (BgPost.no E.out HBS.out HB.out K4.out _ (by omega) _)
        · have hee' := Decidable.not_not.1 hee
          have E : Hid (breceipt b x lim = bcall b x lim) := E0.out.trans (if_pos ⟨hkl, HPE.out, hee'⟩)
          have t4 : (b.ep p == x.epoch) = true := by rw [beq_iff_eq]; exact hee'
          have t4' : (b.ep p != x.epoch) = false := by rw [bne, t4]; rfl
          clear E0 hee hee'
          go_enter Tryd.func126, Tryd.ntmps126
          go_upto_region 1 with (first | fail | (with_reducible refine alloc88 ?_))
          generalize ((w.alloc (.cells (bkC b.ep (.slice (some ⟨bs, os, none⟩) ss.length c)) 88)).alloc (.cells C 30)).alloc (.cells Z88 88) = w2 at *
          go_quiet (fail)
          have G0' : Hid ((w2.drewN nq).heap[w.heap.size]? = some (.cells (bkC b.ep (.slice (some ⟨bs, os, none⟩) ss.length c)) 88 (0, 0))) := G0.out
          have G1' : Hid ((w2.drewN nq).heap[w.heap.size + 1]? = some (.cells C 30 (0, 0))) := G1.out
          have G2' : Hid ((w2.drewN nq).heap[w.heap.size + 1 + 1]? = some (.cells Z88 88 (0, 0))) := G2.out
          have K4 := Lib.hid (HK.out.drewN nq)
          clear x1 b4 xs0 x3 x8 y0 x9 xe
          go_wp2_with (first | fail | ((with_reducible refine load88 (g := w.heap.size) ?_ G0'.out (bkC_size _ _) ?_); rfl) | ((with_reducible refine load30 (g := w.heap.size + 1) (o := 0) ?_ (range_row G1'.out) HX.out.size ?_); rfl))
          refine (HCALL.out _ K4.out).mono ?_
          rintro e w3 ⟨sv', ss', rfl, hbk, hmap, hown, k3⟩
          obtain ⟨a', c', rfl⟩ := hbk.form
          have R2 := Lib.hid (k3.row G2'.out)
          have RK := Lib.hid (K4.out.trans k3)
          have HBK := Lib.hid hbk
          have HOW := Lib.hid hown
          have HMP := Lib.hid hmap
          have hsz4 : (w2.drewN nq).heap.size = w2.heap.size := rfl
          have h2lt : w.heap.size + 1 + 1 < w2.heap.size := row_lt G2.out
          have one2 := Lib.hid (bkC_one ((bcall b x lim).getD b).ep a' ss'.length c')
          clear hbk hown hmap k3 G0' G1' G2' hsz4
          go_wp2_with (first | fail | ((with_reducible refine store88 ?_ ?_ R2.out rfl (bkC_size _ _) one2.out ?_); rfl; rfl))
          refine bodyPost_ret (results_88 rfl _ _ _ (setRow_heap _ _ _ _ _ _ R2.out) (bkC_size _ _) rfl) rfl ?_
          have hown : ∀ j, Own (.slice a' ss'.length c') ss' j → Own (.slice (some ⟨bs, os, none⟩) ss.length c) ss j ∨ w2.heap.size ≤ j := HOW.out
          refine ⟨_, ss', by rw [E.out]; rfl, HBK.out.keep (S := fun j => j = w.heap.size + 1 + 1) ⟨rfl, rfl, rfl, by simp [World.setRow], fun j _ hs => setRow_other _ _ _ _ hs⟩ (fun j hj e => ?_), by rw [E.out]; exact HMP.out, fun j hj => ?_, RK.out.setRow (by omega) _⟩
          · rcases hown j hj with h | h
            · have := HB.out.own j h; omega
            · omega
          · rcases hown j hj with h | h
            · exact .inl h
            · right; omega
end Go.Proofs.YtklmhegmombegaaDoor.Re
