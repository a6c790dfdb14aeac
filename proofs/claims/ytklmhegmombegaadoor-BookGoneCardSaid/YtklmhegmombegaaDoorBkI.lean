/-
  Contracts of the reference's Great, Steps, Same; of all, and Same, of books. Conditions: as each theorem says.
-/
import Derived.Test.YtklmhegmombegaaDoorBkH
set_option linter.unusedVariables false
set_option linter.unusedSimpArgs false
namespace Go.Proofs.YtklmhegmombegaaDoor.Re
open Go Go.RowKit Go.Proofs.YtklmhegmombegaaDoor.Re.Plain Go.Proofs.YtklmhegmombegaaDoor
attribute [local go_sem] equal115 guard115

namespace Plain
def greatB (x : Rx) : Bool := decide (30 < x.steps.length) || decide (300 < x.data.length)
def greatL (l : List Rx) : Bool := decide (150 < l.length) || l.any greatB
end Plain
set_option maxRecDepth 100000 in
set_option maxHeartbeats 1000000 in
theorem f_great1 (C : Array Value) (x : Rx) (w : World) (h : RecIn w C x) : Calls Tryd.prog 18 #[.agg C] w (BPost (greatB x) w) := by
  have hg := heap_alloc_new w (.cells C 30)
  have KW := Lib.hid ((Kept.refl (fun _ => False) w).alloc (.cells C 30))
  obtain ⟨v, hv, a, c, rfl, _, _⟩ := h.st
  obtain ⟨u, hu, a', c', rfl, _, -, -⟩ := h.da
  have x42 := row_cell hg hv
  have x43 := row_cell hg hu
  have e1 : decide ((30 : Int) < (x.steps.length : Int)) = decide (30 < x.steps.length) := by rw [Bool.eq_iff_iff]; simp; omega
  have e2 : decide ((300 : Int) < (x.data.length : Int)) = decide (300 < x.data.length) := by rw [Bool.eq_iff_iff]; simp; omega
  have E : Hid (greatB x = (decide ((30 : Int) < (x.steps.length : Int)) || decide ((300 : Int) < (x.data.length : Int)))) := by show _ = _; rw [e1, e2]; rfl
  clear hg h hv hu e1 e2
  by_cases h30 : 30 < (x.steps.length : Int)
  · have t1 : decide ((30 : Int) < (x.steps.length : Int)) = true := by simpa using h30
    rw [t1, Bool.true_or] at E
    clear t1
    go_enter Tryd.func18, Tryd.ntmps18
    go_wp2_with fail
    go_ret
    exact BPost.mk E.out KW.out
  · have t1 : decide ((30 : Int) < (x.steps.length : Int)) = false := by simpa using h30
    rw [t1, Bool.false_or] at E
    clear t1
    go_enter Tryd.func18, Tryd.ntmps18
    go_wp2_with fail
    go_ret
    exact BPost.mk (by rw [E.out]) KW.out
set_option maxRecDepth 100000 in
set_option maxHeartbeats 2000000 in
theorem f_great (v : Value) (rs : List (Array Value × Rx)) (w : World) (hR : HoldsRs w v rs) : Calls Tryd.prog 46 #[v] w (BPost (greatL (rs.map (·.2))) w) := by
  obtain ⟨a, c, rfl⟩ := hR.form
  have hlm := hR.len
  have HR := Lib.hid hR
  clear hR
  by_cases h150 : 150 < rs.length
  · have E : Hid (greatL (rs.map (·.2)) = true) := by show _ = _; unfold greatL; rw [List.length_map, decide_eq_true h150]; rfl
    go_enter Tryd.func46, Tryd.ntmps46
    go_wp2_with fail
    go_ret
    exact BPost.mk E.out (Kept.refl _ _)
  · have E0 : Hid (greatL (rs.map (·.2)) = (rs.map (·.2)).any greatB) := by show _ = _; unfold greatL; rw [List.length_map, decide_eq_false h150]; rfl
    go_enter Tryd.func46, Tryd.ntmps46
    go_wp2_with fail
    go_loopw [3] (fun i wr => ∃ k : Nat, k ≤ rs.length ∧ i = .int .i64 k ∧ ((rs.map (·.2)).take k).any greatB = false ∧ Kept (fun _ => False) w wr) (fun i _ => rs.length - (intOf i).toNat)
    case atStart => exact ⟨0, Nat.zero_le _, rfl, rfl, Kept.refl _ _⟩
    case round =>
      obtain ⟨k, hk, rfl, ht, K⟩ := hrel
      have HT := Lib.hid ht
      have KR := Lib.hid K
      clear ht
      by_cases hlt : k < rs.length
      · obtain ⟨bb, oo, cc, ev, hr⟩ := (HR.out.kept K).elem hlt
        simp only [Value.slice.injEq, true_and] at ev
        obtain ⟨rfl, rfl⟩ := ev
        have hrec := (HR.out.kept K).rin rs[k] (List.getElem_mem _)
        have hst : Hid (((rs.map (·.2)).take (k + 1)).any greatB = greatB rs[k].2) := by
          show _ = _
          have hkm : k < (rs.map (·.2)).length := by simpa using hlt
          rw [← List.take_append_getElem hkm, List.any_append, HT.out]; simp
        have hmem : Hid (rs[k].2 ∈ rs.map (·.2)) := List.mem_map_of_mem (List.getElem_mem _)
        generalize rs[k] = q at hr hrec hst hmem
        obtain ⟨C, x⟩ := q
        dsimp only at hr hrec hst hmem
        have HRA := Lib.hid hr
        have hsz := Lib.hid hrec.size
        have HG1 := Lib.hid (f_great1 C x wr hrec)
        clear hr hrec K
        cases hgb : greatB x with
        | true =>
          rw [hgb] at HG1
          have E : Hid (greatL (rs.map (·.2)) = true) := E0.out.trans (by rw [List.any_eq_true]; exact ⟨x, hmem.out, hgb⟩)
          clear hgb
          go_wp2_with (first | fail | ((with_reducible refine load30 (C := C) (g := bb) (o := oo + k * 109) ?_ HRA.out hsz.out ?_); rfl))
          refine HG1.out.mono ?_
          rintro e w1 ⟨rfl, k1⟩
          have KF := Lib.hid (KR.out.trans k1)
          go_wp2_with fail
          go_ret
          exact BPost.mk E.out KF.out
        | false =>
          rw [hgb] at HG1 hst
          clear hgb
          go_wp2_with (first | fail | ((with_reducible refine load30 (C := C) (g := bb) (o := oo + k * 109) ?_ HRA.out hsz.out ?_); rfl))
          refine HG1.out.mono ?_
          rintro e w1 ⟨rfl, k1⟩
          have KF := Lib.hid (KR.out.trans k1)
          go_wp2_with fail
          go_roundw
          case rel => exact ⟨k + 1, by omega, by go_num, hst.out, KF.out⟩
          case measure => simp [intOf]; omega
      · obtain rfl : k = rs.length := by omega
        have E : Hid (greatL (rs.map (·.2)) = false) := E0.out.trans (by have := HT.out; rwa [List.take_of_length_le (by simp)] at this)
        clear K
        go_wp2_with fail
        go_ret
        exact BPost.mk E.out KR.out

set_option maxHeartbeats 2000000 in
theorem f_rsteps (va vb : Value) (l m : List (Int × Int)) (w : World) (ha : Stp w va l) (hb : Stp w vb m) (hll : l.length ≤ 1000000) : Calls Tryd.prog 73 #[va, vb] w (BPost (decide (l = m)) w) := by
  obtain ⟨a, c, rfl⟩ := ha.form
  obtain ⟨b, d, rfl⟩ := hb.form
  by_cases hlen : l.length = m.length
  · have t1 : ((l.length : Int) == m.length) = true := by rw [beq_iff_eq]; omega
    have t2 : ((l.length : Int) != m.length) = false := by rw [bne, t1]; rfl
    have HA := Lib.hid ha
    have HB := Lib.hid hb
    have HL := Lib.hid hlen
    clear ha hb hlen
    go_enter Tryd.func73, Tryd.ntmps73
    go_wp2
    go_loopw [5] (fun i wr => ∃ k : Nat, k ≤ l.length ∧ i = .int .i64 k ∧ l.take k = m.take k ∧ Kept (fun _ => False) w wr) (fun i _ => l.length - (intOf i).toNat)
    case atStart => exact ⟨0, Nat.zero_le _, rfl, rfl, Kept.refl _ _⟩
    case round =>
      obtain ⟨k, hk, rfl, ht, K⟩ := hrel
      have HT := Lib.hid ht
      clear ht
      by_cases hlt : k < l.length
      · have hlm : k < m.length := by have := HL.out; omega
        obtain ⟨b1, o1, c1, e1, x1, x0, -⟩ := (HA.out.kept K).kind hlt
        obtain ⟨b2, o2, c2, e2, y1, y0, -⟩ := (HB.out.kept K).kind hlm
        simp only [Value.slice.injEq, true_and] at e1 e2
        obtain ⟨rfl, rfl⟩ := e1
        obtain ⟨rfl, rfl⟩ := e2
        have k1 : kindAt l k = l[k].2 := by rw [kindAt, List.getElem?_eq_getElem hlt]; rfl
        have k2 : kindAt m k = m[k].2 := by rw [kindAt, List.getElem?_eq_getElem hlm]; rfl
        rw [k1] at x1
        rw [k2] at y1
        clear k1 k2
        generalize hxk : l[k] = x at x1 x0
        generalize hyk : m[k] = y at y1 y0
        have HXK := Lib.hid hxk
        have HYK := Lib.hid hyk
        clear hxk hyk
        obtain ⟨p, q⟩ := x
        obtain ⟨p', q'⟩ := y
        dsimp only at x0 x1 y0 y1
        have hd : ∀ n, Kept (fun _ => False) w (wr.drewN n) := fun n => K.drewN n
        have HD := Lib.hid hd
        clear hd
        by_cases hxy : (p == p' && q == q') = true
        · have hst : l.take (k + 1) = m.take (k + 1) := list_step' HT.out hlt hlm (by rw [HXK.out, HYK.out]; simp at hxy; rw [hxy.1, hxy.2])
          have HST := Lib.hid hst
          clear hst
          go_wp2
          refine wp_region_quiet_lit (by kernel_rfl) (by kernel_rfl) ?_
          repeat (first | ((with_reducible refine quiet_neq115 (p := p) (q := q) (p' := p') (q' := q') ?_ ?_ ?_ ?_); rfl; rfl; rfl; rw [hxy]) | quiet_step (fail))
          refine wpQuiet_nil ?_
          intro _ hw'
          obtain ⟨nq, hw''⟩ := hw'
          subst hw''
          go_wp2
          go_roundw
          case rel => exact ⟨k + 1, by omega, by go_num, HST.out, HD.out _⟩
          case measure => simp [intOf]; omega
        · have hxy : (p == p' && q == q') = false := by simpa using hxy
          have e : decide (l = m) = false := by
            simp only [decide_eq_false_iff_not]
            rintro rfl
            have := HXK.out.symm.trans HYK.out
            simp only [Prod.mk.injEq] at this
            simp [this.1, this.2] at hxy
          have HE := Lib.hid e
          clear e
          go_wp2
          refine wp_region_quiet_lit (by kernel_rfl) (by kernel_rfl) ?_
          repeat (first | ((with_reducible refine quiet_neq115 (p := p) (q := q) (p' := p') (q' := q') ?_ ?_ ?_ ?_); rfl; rfl; rfl; rw [hxy]) | quiet_step (fail))
          refine wpQuiet_nil ?_
          intro _ hw'
          obtain ⟨nq, hw''⟩ := hw'
          subst hw''
          go_wp2
          go_ret
          exact BPost.mk HE.out (HD.out _)
      · have e : l = m := by
          have h := HT.out
          rwa [List.take_of_length_le (by omega), List.take_of_length_le (by have := HL.out; omega)] at h
        have HE := Lib.hid (show decide (l = m) = true by simpa using e)
        clear e
        go_wp2
        go_ret
        exact BPost.mk HE.out K
  · have t1 : ((l.length : Int) == m.length) = false := by rw [beq_eq_false_iff_ne]; omega
    have t2 : ((l.length : Int) != m.length) = true := by rw [bne, t1]; rfl
    have HE := Lib.hid (show decide (l = m) = false by simp only [decide_eq_false_iff_not]; rintro rfl; exact hlen rfl)
    clear hlen ha hb
    go_enter Tryd.func73, Tryd.ntmps73
    go_wp2
    go_ret
    exact BPost.mk HE.out (Kept.refl _ _)


theorem sameB_eq (s t : Sg) : sameB s t = (decide (s.steps = t.steps) && (((s.phase : Int) == t.phase) && (((s.pos : Int) == t.pos) && (((s.tries : Int) == t.tries) && ((s.wait == t.wait) && ((s.back == t.back) && (((s.done : Int) == t.done) && (((s.undone : Int) == t.undone) && (((s.may : Int) == t.may) && ((s.seq : Int) == t.seq)))))))))) := by
  obtain ⟨st, ph, po, tr, wt, bk, dn, un, my, sq⟩ := s
  obtain ⟨st', ph', po', tr', wt', bk', dn', un', my', sq'⟩ := t
  rw [Bool.eq_iff_iff]
  unfold sameB tenOf
  simp only [Bool.and_eq_true, decide_eq_true_eq, beq_iff_eq, List.cons.injEq, and_true]
  constructor
  · rintro ⟨⟨h1, h2, h3, h4, h5, h6, h7, h8, h9, h10⟩, h11⟩
    refine ⟨h11, h1, h2, h3, ?_, ?_, h6, h7, h8, h9⟩
    · cases wt <;> cases wt' <;> first | rfl | (simp [bitI] at h4)
    · cases bk <;> cases bk' <;> first | rfl | (simp [bitI] at h5)
  · rintro ⟨rfl, h1, h2, h3, rfl, rfl, h6, h7, h8, h9⟩
    exact ⟨⟨h1, h2, h3, rfl, rfl, h6, h7, h8, h9, rfl⟩, rfl⟩
end Go.Proofs.YtklmhegmombegaaDoor.Re
