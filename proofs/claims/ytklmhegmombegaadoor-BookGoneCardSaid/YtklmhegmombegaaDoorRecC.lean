/-
  Contracts of rec's ranges and head. Conditions: as each theorem says.
-/
import Derived.Test.YtklmhegmombegaaDoorRecB
set_option linter.unusedVariables false
set_option linter.unusedSimpArgs false
namespace Go.Proofs.YtklmhegmombegaaDoor.Re
open Go Go.RowKit Go.Proofs.YtklmhegmombegaaDoor.Re.Plain

theorem row_cell {w : World} {g k : Nat} {C : Array Value} {t : TypeId} {v : Value} (hg : w.heap[g]? = some (.cells C t (0, 0))) (h : C[k]? = some v) : w.cell? ⟨g, k, none⟩ = some v := (cell_of_row _ _ _ _ _ _ hg).trans h
set_option maxRecDepth 100000 in
set_option maxHeartbeats 4000000 in
theorem f_ranges (C : Array Value) (x : Rx) (w : World) (h : RecIn w C x) : Calls Tryd.prog 90 #[.agg C] w (BPost (rangesB x) w) := by
  have hg := heap_alloc_new w (.cells C 30)
  have KW := Lib.hid ((Kept.refl (fun _ => False) w).alloc (.cells C 30))
  have x0 := row_cell hg h.c0
  have x1 := row_cell hg h.c1
  have x2 := row_cell hg h.c2
  have x3 := row_cell hg h.c3
  have x4 := row_cell hg h.c4
  have x7 := row_cell hg h.c7
  have x8 := row_cell hg h.c8
  have x9 := row_cell hg h.c9
  obtain ⟨v, hv, a, c, rfl, hm, hst⟩ := h.st
  obtain ⟨u, hu, a', c', rfl, hm', -, -⟩ := h.da
  have x42 := row_cell hg hv
  have x43 := row_cell hg hu
  have HST : Hid (x.steps ≠ [] → Stp (w.alloc (.cells C 30)) (.slice a x.steps.length c) x.steps) := fun hne => (hst hne).alloc _
  clear hg h hv hu hst
  have hr : rangesB x = (wi x.saga 0 11 && (wi x.part 0 3 && (wi x.epoch 0 400 &&
    (if x.kind = 1 then wi x.steps.length 1 6 && (!(x.steps.any badStep) && decide (x.data.length ≤ 60))
     else if x.kind = 2 ∨ x.kind = 4 ∨ x.kind = 3 then wi x.seq 1 400 && (wi x.step 0 5 && wi x.tr 1 9)
     else if x.kind = 5 then wi x.seq 1 400 && wi x.nd 2 4
     else decide (x.kind = 6) && decide (1 ≤ x.epoch))))) := rfl
  cases h1 : wi x.saga 0 11 with
  | false =>
    have W1 := Lib.hid h1
    have E : Hid (rangesB x = false) := by show _ = _; rw [hr, h1]; rfl
    clear hr h1
    go_enter Tryd.func90, Tryd.ntmps90
    go_wp2_with fail
    refine (f_rwithin_is W1.out _).mono ?_
    rintro e wz ⟨rfl, rfl⟩
    go_wp2_with fail
    go_ret
    exact BPost.mk E.out KW.out
  | true =>
  have W1 := Lib.hid h1
  rw [h1, Bool.true_and] at hr
  clear h1
  cases h2 : wi x.part 0 3 with
  | false =>
    have W2 := Lib.hid h2
    have E : Hid (rangesB x = false) := by show _ = _; rw [hr, h2]; rfl
    clear hr h2
    go_enter Tryd.func90, Tryd.ntmps90
    go_wp2_with fail
    refine (f_rwithin_is W1.out _).mono ?_
    rintro e wz ⟨rfl, rfl⟩
    go_wp2_with fail
    refine (f_rwithin_is W2.out _).mono ?_
    rintro e wz ⟨rfl, rfl⟩
    go_wp2_with fail
    go_ret
    exact BPost.mk E.out KW.out
  | true =>
  have W2 := Lib.hid h2
  rw [h2, Bool.true_and] at hr
  clear h2
  cases h3 : wi x.epoch 0 400 with
  | false =>
    have W3 := Lib.hid h3
    have E : Hid (rangesB x = false) := by show _ = _; rw [hr, h3]; rfl
    clear hr h3
    go_enter Tryd.func90, Tryd.ntmps90
    go_wp2_with fail
    refine (f_rwithin_is W1.out _).mono ?_
    rintro e wz ⟨rfl, rfl⟩
    go_wp2_with fail
    refine (f_rwithin_is W2.out _).mono ?_
    rintro e wz ⟨rfl, rfl⟩
    go_wp2_with fail
    refine (f_rwithin_is W3.out _).mono ?_
    rintro e wz ⟨rfl, rfl⟩
    go_wp2_with fail
    go_ret
    exact BPost.mk E.out KW.out
  | true =>
  have W3 := Lib.hid h3
  rw [h3, Bool.true_and] at hr
  clear h3
  by_cases k1 : x.kind = 1
  · rw [if_pos k1] at hr
    have t1 : (x.kind == 1) = true := by first | (rw [beq_iff_eq]; omega) | (rw [beq_eq_false_iff_ne]; omega)
    clear k1
    cases h4 : wi (x.steps.length : Int) 1 6 with
    | false =>
      have W4 := Lib.hid h4
      have E : Hid (rangesB x = false) := by show _ = _; rw [hr, h4]; rfl
      clear hr h4
      go_enter Tryd.func90, Tryd.ntmps90
      go_wp2_with fail
      refine (f_rwithin_is W1.out _).mono ?_
      rintro e wz ⟨rfl, rfl⟩
      go_wp2_with fail
      refine (f_rwithin_is W2.out _).mono ?_
      rintro e wz ⟨rfl, rfl⟩
      go_wp2_with fail
      refine (f_rwithin_is W3.out _).mono ?_
      rintro e wz ⟨rfl, rfl⟩
      go_wp2_with fail
      refine (f_rwithin_is W4.out _).mono ?_
      rintro e wz ⟨rfl, rfl⟩
      go_wp2_with fail
      go_ret
      exact BPost.mk E.out KW.out
    | true =>
      have W4 := Lib.hid h4
      rw [h4, Bool.true_and] at hr
      have hll : 1 ≤ x.steps.length ∧ x.steps.length ≤ 6 := by simp [wi] at h4; omega
      have HCF := Lib.hid (f_contains (.slice a x.steps.length c) x.steps _ (HST.out (by intro h0; rw [h0] at hll; simp at hll)) (by omega))
      have X43 : Hid (∀ {w' : World}, Kept (fun _ => False) (w.alloc (.cells C 30)) w' → w'.cell? ⟨w.heap.size, 43, none⟩ = some (.slice a' x.data.length c')) := fun k => (k.cell (p := ⟨w.heap.size, 43, none⟩) (by simp) id).trans x43
      clear h4
      cases h5 : x.steps.any badStep with
      | true =>
        rw [h5] at HCF
        have E : Hid (rangesB x = false) := by show _ = _; rw [hr, h5]; rfl
        clear hr h5
        go_enter Tryd.func90, Tryd.ntmps90
        go_wp2_with fail
        refine (f_rwithin_is W1.out _).mono ?_
        rintro e wz ⟨rfl, rfl⟩
        go_wp2_with fail
        refine (f_rwithin_is W2.out _).mono ?_
        rintro e wz ⟨rfl, rfl⟩
        go_wp2_with fail
        refine (f_rwithin_is W3.out _).mono ?_
        rintro e wz ⟨rfl, rfl⟩
        go_wp2_with fail
        refine (f_rwithin_is W4.out _).mono ?_
        rintro e wz ⟨rfl, rfl⟩
        go_wp2_with fail
        refine HCF.out.mono ?_
        rintro e wc ⟨rfl, kc⟩
        have KC := Lib.hid (KW.out.trans kc)
        have y43 := X43.out kc
        clear kc
        go_wp2_with fail
        go_ret
        exact BPost.mk E.out KC.out
      | false =>
        rw [h5] at HCF
        rw [h5, Bool.not_false, Bool.true_and] at hr
        have hd : decide ((x.data.length : Int) ≤ 60) = decide (x.data.length ≤ 60) := by rw [Bool.eq_iff_iff]; simp; omega
        have HD := Lib.hid hd
        have E : Hid (rangesB x = decide ((x.data.length : Int) ≤ 60)) := by show _ = _; rw [hr, HD.out]
        clear hr h5 hd
        go_enter Tryd.func90, Tryd.ntmps90
        go_wp2_with fail
        refine (f_rwithin_is W1.out _).mono ?_
        rintro e wz ⟨rfl, rfl⟩
        go_wp2_with fail
        refine (f_rwithin_is W2.out _).mono ?_
        rintro e wz ⟨rfl, rfl⟩
        go_wp2_with fail
        refine (f_rwithin_is W3.out _).mono ?_
        rintro e wz ⟨rfl, rfl⟩
        go_wp2_with fail
        refine (f_rwithin_is W4.out _).mono ?_
        rintro e wz ⟨rfl, rfl⟩
        go_wp2_with fail
        refine HCF.out.mono ?_
        rintro e wc ⟨rfl, kc⟩
        have KC := Lib.hid (KW.out.trans kc)
        have y43 := X43.out kc
        clear kc
        go_wp2_with fail
        go_ret
        exact BPost.mk E.out KC.out
  rw [if_neg k1] at hr
  by_cases k2 : x.kind = 2 ∨ x.kind = 4 ∨ x.kind = 3
  · rw [if_pos k2] at hr
    cases h5 : wi x.seq 1 400 with
    | false =>
      have W5 := Lib.hid h5
      rcases k2 with k2 | k2 | k2
      · have t1 : (x.kind == 1) = false := by first | (rw [beq_iff_eq]; omega) | (rw [beq_eq_false_iff_ne]; omega)
        have t2 : (x.kind == 2) = true := by first | (rw [beq_iff_eq]; omega) | (rw [beq_eq_false_iff_ne]; omega)
        clear k1 k2
        have E : Hid (rangesB x = false) := by show _ = _; rw [hr, h5]; rfl
        clear hr h5
        go_enter Tryd.func90, Tryd.ntmps90
        go_wp2_with fail
        refine (f_rwithin_is W1.out _).mono ?_
        rintro e wz ⟨rfl, rfl⟩
        go_wp2_with fail
        refine (f_rwithin_is W2.out _).mono ?_
        rintro e wz ⟨rfl, rfl⟩
        go_wp2_with fail
        refine (f_rwithin_is W3.out _).mono ?_
        rintro e wz ⟨rfl, rfl⟩
        go_wp2_with fail
        refine (f_rwithin_is W5.out _).mono ?_
        rintro e wz ⟨rfl, rfl⟩
        go_wp2_with fail
        go_ret
        exact BPost.mk E.out KW.out
      · have t1 : (x.kind == 1) = false := by first | (rw [beq_iff_eq]; omega) | (rw [beq_eq_false_iff_ne]; omega)
        have t2 : (x.kind == 2) = false := by first | (rw [beq_iff_eq]; omega) | (rw [beq_eq_false_iff_ne]; omega)
        have t4 : (x.kind == 4) = true := by first | (rw [beq_iff_eq]; omega) | (rw [beq_eq_false_iff_ne]; omega)
        clear k1 k2
        have E : Hid (rangesB x = false) := by show _ = _; rw [hr, h5]; rfl
        clear hr h5
        go_enter Tryd.func90, Tryd.ntmps90
        go_wp2_with fail
        refine (f_rwithin_is W1.out _).mono ?_
        rintro e wz ⟨rfl, rfl⟩
        go_wp2_with fail
        refine (f_rwithin_is W2.out _).mono ?_
        rintro e wz ⟨rfl, rfl⟩
        go_wp2_with fail
        refine (f_rwithin_is W3.out _).mono ?_
        rintro e wz ⟨rfl, rfl⟩
        go_wp2_with fail
        refine (f_rwithin_is W5.out _).mono ?_
        rintro e wz ⟨rfl, rfl⟩
        go_wp2_with fail
        go_ret
        exact BPost.mk E.out KW.out
      · have t1 : (x.kind == 1) = false := by first | (rw [beq_iff_eq]; omega) | (rw [beq_eq_false_iff_ne]; omega)
        have t2 : (x.kind == 2) = false := by first | (rw [beq_iff_eq]; omega) | (rw [beq_eq_false_iff_ne]; omega)
        have t4 : (x.kind == 4) = false := by first | (rw [beq_iff_eq]; omega) | (rw [beq_eq_false_iff_ne]; omega)
        have t3 : (x.kind == 3) = true := by first | (rw [beq_iff_eq]; omega) | (rw [beq_eq_false_iff_ne]; omega)
        clear k1 k2
        have E : Hid (rangesB x = false) := by show _ = _; rw [hr, h5]; rfl
        clear hr h5
        go_enter Tryd.func90, Tryd.ntmps90
        go_wp2_with fail
        refine (f_rwithin_is W1.out _).mono ?_
        rintro e wz ⟨rfl, rfl⟩
        go_wp2_with fail
        refine (f_rwithin_is W2.out _).mono ?_
        rintro e wz ⟨rfl, rfl⟩
        go_wp2_with fail
        refine (f_rwithin_is W3.out _).mono ?_
        rintro e wz ⟨rfl, rfl⟩
        go_wp2_with fail
        refine (f_rwithin_is W5.out _).mono ?_
        rintro e wz ⟨rfl, rfl⟩
        go_wp2_with fail
        go_ret
        exact BPost.mk E.out KW.out
    | true =>
    have W5 := Lib.hid h5
    rw [h5, Bool.true_and] at hr
    clear h5
    cases h6 : wi x.step 0 5 with
    | false =>
      have W6 := Lib.hid h6
      rcases k2 with k2 | k2 | k2
      · have t1 : (x.kind == 1) = false := by first | (rw [beq_iff_eq]; omega) | (rw [beq_eq_false_iff_ne]; omega)
        have t2 : (x.kind == 2) = true := by first | (rw [beq_iff_eq]; omega) | (rw [beq_eq_false_iff_ne]; omega)
        clear k1 k2
        have E : Hid (rangesB x = false) := by show _ = _; rw [hr, h6]; rfl
        clear hr h6
        go_enter Tryd.func90, Tryd.ntmps90
        go_wp2_with fail
        refine (f_rwithin_is W1.out _).mono ?_
        rintro e wz ⟨rfl, rfl⟩
        go_wp2_with fail
        refine (f_rwithin_is W2.out _).mono ?_
        rintro e wz ⟨rfl, rfl⟩
        go_wp2_with fail
        refine (f_rwithin_is W3.out _).mono ?_
        rintro e wz ⟨rfl, rfl⟩
        go_wp2_with fail
        refine (f_rwithin_is W5.out _).mono ?_
        rintro e wz ⟨rfl, rfl⟩
        go_wp2_with fail
        refine (f_rwithin_is W6.out _).mono ?_
        rintro e wz ⟨rfl, rfl⟩
        go_wp2_with fail
        go_ret
        exact BPost.mk E.out KW.out
      · have t1 : (x.kind == 1) = false := by first | (rw [beq_iff_eq]; omega) | (rw [beq_eq_false_iff_ne]; omega)
        have t2 : (x.kind == 2) = false := by first | (rw [beq_iff_eq]; omega) | (rw [beq_eq_false_iff_ne]; omega)
        have t4 : (x.kind == 4) = true := by first | (rw [beq_iff_eq]; omega) | (rw [beq_eq_false_iff_ne]; omega)
        clear k1 k2
        have E : Hid (rangesB x = false) := by show _ = _; rw [hr, h6]; rfl
        clear hr h6
        go_enter Tryd.func90, Tryd.ntmps90
        go_wp2_with fail
        refine (f_rwithin_is W1.out _).mono ?_
        rintro e wz ⟨rfl, rfl⟩
        go_wp2_with fail
        refine (f_rwithin_is W2.out _).mono ?_
        rintro e wz ⟨rfl, rfl⟩
        go_wp2_with fail
        refine (f_rwithin_is W3.out _).mono ?_
        rintro e wz ⟨rfl, rfl⟩
        go_wp2_with fail
        refine (f_rwithin_is W5.out _).mono ?_
        rintro e wz ⟨rfl, rfl⟩
        go_wp2_with fail
        refine (f_rwithin_is W6.out _).mono ?_
        rintro e wz ⟨rfl, rfl⟩
        go_wp2_with fail
        go_ret
        exact BPost.mk E.out KW.out
      · have t1 : (x.kind == 1) = false := by first | (rw [beq_iff_eq]; omega) | (rw [beq_eq_false_iff_ne]; omega)
        have t2 : (x.kind == 2) = false := by first | (rw [beq_iff_eq]; omega) | (rw [beq_eq_false_iff_ne]; omega)
        have t4 : (x.kind == 4) = false := by first | (rw [beq_iff_eq]; omega) | (rw [beq_eq_false_iff_ne]; omega)
        have t3 : (x.kind == 3) = true := by first | (rw [beq_iff_eq]; omega) | (rw [beq_eq_false_iff_ne]; omega)
        clear k1 k2
        have E : Hid (rangesB x = false) := by show _ = _; rw [hr, h6]; rfl
        clear hr h6
        go_enter Tryd.func90, Tryd.ntmps90
        go_wp2_with fail
        refine (f_rwithin_is W1.out _).mono ?_
        rintro e wz ⟨rfl, rfl⟩
        go_wp2_with fail
        refine (f_rwithin_is W2.out _).mono ?_
        rintro e wz ⟨rfl, rfl⟩
        go_wp2_with fail
        refine (f_rwithin_is W3.out _).mono ?_
        rintro e wz ⟨rfl, rfl⟩
        go_wp2_with fail
        refine (f_rwithin_is W5.out _).mono ?_
        rintro e wz ⟨rfl, rfl⟩
        go_wp2_with fail
        refine (f_rwithin_is W6.out _).mono ?_
        rintro e wz ⟨rfl, rfl⟩
        go_wp2_with fail
        go_ret
        exact BPost.mk E.out KW.out
    | true =>
    have W6 := Lib.hid h6
    rw [h6, Bool.true_and] at hr
    clear h6
    rcases k2 with k2 | k2 | k2
    · have t1 : (x.kind == 1) = false := by first | (rw [beq_iff_eq]; omega) | (rw [beq_eq_false_iff_ne]; omega)
      have t2 : (x.kind == 2) = true := by first | (rw [beq_iff_eq]; omega) | (rw [beq_eq_false_iff_ne]; omega)
      clear k1 k2
      have E : Hid (rangesB x = wi x.tr 1 9) := by show _ = _; exact hr
      clear hr 
      go_enter Tryd.func90, Tryd.ntmps90
      go_wp2_with fail
      refine (f_rwithin_is W1.out _).mono ?_
      rintro e wz ⟨rfl, rfl⟩
      go_wp2_with fail
      refine (f_rwithin_is W2.out _).mono ?_
      rintro e wz ⟨rfl, rfl⟩
      go_wp2_with fail
      refine (f_rwithin_is W3.out _).mono ?_
      rintro e wz ⟨rfl, rfl⟩
      go_wp2_with fail
      refine (f_rwithin_is W5.out _).mono ?_
      rintro e wz ⟨rfl, rfl⟩
      go_wp2_with fail
      refine (f_rwithin_is W6.out _).mono ?_
      rintro e wz ⟨rfl, rfl⟩
      go_wp2_with fail
      refine (f_rwithin _ _ _ _).mono ?_
      rintro e wz ⟨rfl, rfl⟩
      go_wp2_with fail
      go_ret
      exact BPost.mk E.out KW.out
    · have t1 : (x.kind == 1) = false := by first | (rw [beq_iff_eq]; omega) | (rw [beq_eq_false_iff_ne]; omega)
      have t2 : (x.kind == 2) = false := by first | (rw [beq_iff_eq]; omega) | (rw [beq_eq_false_iff_ne]; omega)
      have t4 : (x.kind == 4) = true := by first | (rw [beq_iff_eq]; omega) | (rw [beq_eq_false_iff_ne]; omega)
      clear k1 k2
      have E : Hid (rangesB x = wi x.tr 1 9) := by show _ = _; exact hr
      clear hr 
      go_enter Tryd.func90, Tryd.ntmps90
      go_wp2_with fail
      refine (f_rwithin_is W1.out _).mono ?_
      rintro e wz ⟨rfl, rfl⟩
      go_wp2_with fail
      refine (f_rwithin_is W2.out _).mono ?_
      rintro e wz ⟨rfl, rfl⟩
      go_wp2_with fail
      refine (f_rwithin_is W3.out _).mono ?_
      rintro e wz ⟨rfl, rfl⟩
      go_wp2_with fail
      refine (f_rwithin_is W5.out _).mono ?_
      rintro e wz ⟨rfl, rfl⟩
      go_wp2_with fail
      refine (f_rwithin_is W6.out _).mono ?_
      rintro e wz ⟨rfl, rfl⟩
      go_wp2_with fail
      refine (f_rwithin _ _ _ _).mono ?_
      rintro e wz ⟨rfl, rfl⟩
      go_wp2_with fail
      go_ret
      exact BPost.mk E.out KW.out
    · have t1 : (x.kind == 1) = false := by first | (rw [beq_iff_eq]; omega) | (rw [beq_eq_false_iff_ne]; omega)
      have t2 : (x.kind == 2) = false := by first | (rw [beq_iff_eq]; omega) | (rw [beq_eq_false_iff_ne]; omega)
      have t4 : (x.kind == 4) = false := by first | (rw [beq_iff_eq]; omega) | (rw [beq_eq_false_iff_ne]; omega)
      have t3 : (x.kind == 3) = true := by first | (rw [beq_iff_eq]; omega) | (rw [beq_eq_false_iff_ne]; omega)
      clear k1 k2
      have E : Hid (rangesB x = wi x.tr 1 9) := by show _ = _; exact hr
      clear hr 
      go_enter Tryd.func90, Tryd.ntmps90
      go_wp2_with fail
      refine (f_rwithin_is W1.out _).mono ?_
      rintro e wz ⟨rfl, rfl⟩
      go_wp2_with fail
      refine (f_rwithin_is W2.out _).mono ?_
      rintro e wz ⟨rfl, rfl⟩
      go_wp2_with fail
      refine (f_rwithin_is W3.out _).mono ?_
      rintro e wz ⟨rfl, rfl⟩
      go_wp2_with fail
      refine (f_rwithin_is W5.out _).mono ?_
      rintro e wz ⟨rfl, rfl⟩
      go_wp2_with fail
      refine (f_rwithin_is W6.out _).mono ?_
      rintro e wz ⟨rfl, rfl⟩
      go_wp2_with fail
      refine (f_rwithin _ _ _ _).mono ?_
      rintro e wz ⟨rfl, rfl⟩
      go_wp2_with fail
      go_ret
      exact BPost.mk E.out KW.out
  rw [if_neg k2] at hr
  by_cases k5 : x.kind = 5
  · rw [if_pos k5] at hr
    have t1 : (x.kind == 1) = false := by first | (rw [beq_iff_eq]; omega) | (rw [beq_eq_false_iff_ne]; omega)
    have t2 : (x.kind == 2) = false := by first | (rw [beq_iff_eq]; omega) | (rw [beq_eq_false_iff_ne]; omega)
    have t4 : (x.kind == 4) = false := by first | (rw [beq_iff_eq]; omega) | (rw [beq_eq_false_iff_ne]; omega)
    have t3 : (x.kind == 3) = false := by first | (rw [beq_iff_eq]; omega) | (rw [beq_eq_false_iff_ne]; omega)
    have t5 : (x.kind == 5) = true := by first | (rw [beq_iff_eq]; omega) | (rw [beq_eq_false_iff_ne]; omega)
    clear k1 k2 k5
    cases h5 : wi x.seq 1 400 with
    | false =>
      have W5 := Lib.hid h5
      have E : Hid (rangesB x = false) := by show _ = _; rw [hr, h5]; rfl
      clear hr h5
      go_enter Tryd.func90, Tryd.ntmps90
      go_wp2_with fail
      refine (f_rwithin_is W1.out _).mono ?_
      rintro e wz ⟨rfl, rfl⟩
      go_wp2_with fail
      refine (f_rwithin_is W2.out _).mono ?_
      rintro e wz ⟨rfl, rfl⟩
      go_wp2_with fail
      refine (f_rwithin_is W3.out _).mono ?_
      rintro e wz ⟨rfl, rfl⟩
      go_wp2_with fail
      refine (f_rwithin_is W5.out _).mono ?_
      rintro e wz ⟨rfl, rfl⟩
      go_wp2_with fail
      go_ret
      exact BPost.mk E.out KW.out
    | true =>
      have W5 := Lib.hid h5
      rw [h5, Bool.true_and] at hr
      clear h5
      have E : Hid (rangesB x = wi x.nd 2 4) := by show _ = _; exact hr
      clear hr 
      go_enter Tryd.func90, Tryd.ntmps90
      go_wp2_with fail
      refine (f_rwithin_is W1.out _).mono ?_
      rintro e wz ⟨rfl, rfl⟩
      go_wp2_with fail
      refine (f_rwithin_is W2.out _).mono ?_
      rintro e wz ⟨rfl, rfl⟩
      go_wp2_with fail
      refine (f_rwithin_is W3.out _).mono ?_
      rintro e wz ⟨rfl, rfl⟩
      go_wp2_with fail
      refine (f_rwithin_is W5.out _).mono ?_
      rintro e wz ⟨rfl, rfl⟩
      go_wp2_with fail
      refine (f_rwithin _ _ _ _).mono ?_
      rintro e wz ⟨rfl, rfl⟩
      go_wp2_with fail
      go_ret
      exact BPost.mk E.out KW.out
  rw [if_neg k5] at hr
  have t1 : (x.kind == 1) = false := by first | (rw [beq_iff_eq]; omega) | (rw [beq_eq_false_iff_ne]; omega)
  have t2 : (x.kind == 2) = false := by first | (rw [beq_iff_eq]; omega) | (rw [beq_eq_false_iff_ne]; omega)
  have t4 : (x.kind == 4) = false := by first | (rw [beq_iff_eq]; omega) | (rw [beq_eq_false_iff_ne]; omega)
  have t3 : (x.kind == 3) = false := by first | (rw [beq_iff_eq]; omega) | (rw [beq_eq_false_iff_ne]; omega)
  have t5 : (x.kind == 5) = false := by first | (rw [beq_iff_eq]; omega) | (rw [beq_eq_false_iff_ne]; omega)
  clear k1 k2 k5
  by_cases k6 : x.kind = 6
  · have t6 : (x.kind == 6) = true := by rw [beq_iff_eq]; exact k6
    rw [show decide (x.kind = 6) = true by simpa using k6, Bool.true_and] at hr
    clear k6
    have E : Hid (rangesB x = decide (1 ≤ x.epoch)) := by show _ = _; exact hr
    clear hr 
    go_enter Tryd.func90, Tryd.ntmps90
    go_wp2_with fail
    refine (f_rwithin_is W1.out _).mono ?_
    rintro e wz ⟨rfl, rfl⟩
    go_wp2_with fail
    refine (f_rwithin_is W2.out _).mono ?_
    rintro e wz ⟨rfl, rfl⟩
    go_wp2_with fail
    refine (f_rwithin_is W3.out _).mono ?_
    rintro e wz ⟨rfl, rfl⟩
    go_wp2_with fail
    go_ret
    exact BPost.mk E.out KW.out
  · have t6 : (x.kind == 6) = false := by rw [beq_eq_false_iff_ne]; exact k6
    rw [show decide (x.kind = 6) = false by simpa using k6, Bool.false_and] at hr
    clear k6
    have E : Hid (rangesB x = false) := by show _ = _; exact hr
    clear hr 
    go_enter Tryd.func90, Tryd.ntmps90
    go_wp2_with fail
    refine (f_rwithin_is W1.out _).mono ?_
    rintro e wz ⟨rfl, rfl⟩
    go_wp2_with fail
    refine (f_rwithin_is W2.out _).mono ?_
    rintro e wz ⟨rfl, rfl⟩
    go_wp2_with fail
    refine (f_rwithin_is W3.out _).mono ?_
    rintro e wz ⟨rfl, rfl⟩
    go_wp2_with fail
    go_ret
    exact BPost.mk E.out KW.out
theorem Tryd.isz167 : (Tryd.prog.info? 167).map (·.size) = some 11 := by kernel_rfl
theorem results_167 {fn : Func} {p : Tmp} (h : fn.results = #[.cell p 167]) (tmps : Array Value) (w : World) (g : Nat) {C : Array Value} {ty : TypeId} {fr : Nat × Nat}
    (hg : w.heap[g]? = some (.cells C ty fr)) (hC : C.size = 11) (hp : tmps.getD p undef = .pointer (some ⟨g, 0, none⟩)) :
    (results fn tmps).run Tryd.prog w = .ok (.agg C) w := by
  have hp' : tmps[p]?.getD undef = .pointer (some ⟨g, 0, none⟩) := by simpa using hp
  simp [results, h, hp', asAddr, run_loadVar_row (P := Tryd.prog) w g ty 167 C fr _ hg Tryd.underlying167 rfl (by rw [Tryd.isz167, hC])]
def Z167 : Array Value := #[.int .i64 0, .int .i64 0, .int .i64 0, .int .i64 0, .int .i64 0, .bool false, .bool false, .bool false, .int .i64 0, .int .i64 0, .int .i64 0]
theorem store167 {ops : Array Oper} {rest : List Oper} {dst : Option Tmp} {ty : TypeId} {pos : String} {aft : Array Edge} {a : Act} {w : World} {Q : Exit → Act → World → Prop} {x y : Operand} {g : Nat} {old C : Array Value} {t : TypeId}
    (hx : a.eval x = .pointer (some ⟨g, 0, none⟩)) (hy : a.eval y = .agg C) (hg : w.heap[g]? = some (.cells old t (0, 0))) (ho : old.size = 11) (hC : C.size = 11) (h1 : C.all (·.oneCell') = true)
    (h : wpList Tryd.prog ops Q rest (a.put dst undef) (w.setRow g C)) : wpList Tryd.prog ops Q (⟨dst, .store 167 x y, ty, pos, aft, none⟩ :: rest) a w :=
  wpList_store_row (P := Tryd.prog) (o := ⟨dst, .store 167 x y, ty, pos, aft, none⟩) rfl 167 x y rfl g C hx hy t old hg (by rw [Tryd.isz167, hC]) (by rw [ho, hC]) h1 h
/-- What a record has beside lists and hashes. -/
def headA (x : Rx) : Array Value := #[.int .i64 x.kind, .int .i64 x.saga, .int .i64 x.seq, .int .i64 x.step, .int .i64 x.tr, .bool x.bk, .bool x.good, .bool x.gone, .int .i64 x.nd, .int .i64 x.part, .int .i64 x.epoch]
def HdPost (x : Rx) (w : World) (e : Ending) (w' : World) : Prop := e = .returned (.agg (headA x)) ∧ Kept (fun _ => False) w w'
set_option maxRecDepth 100000 in
set_option maxHeartbeats 2000000 in
theorem f_head (C : Array Value) (x : Rx) (w : World) (h : RecIn w C x) : Calls Tryd.prog 114 #[.agg C] w (HdPost x w) := by
  have hn := heap_alloc2_new w (.cells C 30) (.cells Z167 167)
  have hg := heap_alloc2_old w (.cells C 30) (.cells Z167 167)
  have K2 := Lib.hid (((Kept.refl (fun _ => False) w).alloc (.cells C 30)).alloc (.cells Z167 167))
  have x0 := row_cell hg h.c0
  have x1 := row_cell hg h.c1
  have x2 := row_cell hg h.c2
  have x3 := row_cell hg h.c3
  have x4 := row_cell hg h.c4
  have x5 := row_cell hg h.c5
  have x6 := row_cell hg h.c6
  have x7 := row_cell hg h.c7
  have x8 := row_cell hg h.c8
  have x9 := row_cell hg h.c9
  have x76 := row_cell hg h.c76
  have HN := Lib.hid hn
  clear hg h hn
  obtain ⟨kd, sg, sq, st, tr, bk, gd, nd, pt, ep, tg, ss, da, sa, gn, cm⟩ := x
  dsimp only at *
  unfold Z167 at *
  go_enter Tryd.func114, Tryd.ntmps114
  go_wp2_with fail
  exact bodyPost_ret (results_167 rfl _ _ _ (heap_alloc2_new w _ _) rfl rfl) rfl ⟨rfl, ((Kept.refl (fun _ => False) w).alloc _).alloc _⟩
end Go.Proofs.YtklmhegmombegaaDoor.Re
