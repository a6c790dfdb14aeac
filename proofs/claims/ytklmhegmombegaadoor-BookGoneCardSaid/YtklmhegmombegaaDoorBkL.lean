/-
  Contracts of Clean, Lines, Only. Conditions: as each theorem says.
-/
import Derived.Test.YtklmhegmombegaaDoorBkK
set_option linter.unusedVariables false
set_option linter.unusedSimpArgs false
namespace Go.Proofs.YtklmhegmombegaaDoor.Re
open Go Go.RowKit Go.Proofs.YtklmhegmombegaaDoor.Re.Plain Go.Proofs.YtklmhegmombegaaDoor

namespace Plain
/-- Is a saga neither Committed nor Compensated? -/
def notDone (q : Int × Int) : Bool := (q.1 != 2) && (q.1 != 3)
def cleanB (l : List (Int × Int)) : Bool := !l.any notDone
def onlyB (n : Int) (x : Rx) : Bool := decide (1 ≤ x.kind) && (decide (x.kind ≤ 5) && (x.saga == n))
end Plain
theorem f_notDone (p q : Int) (w : World) : Calls Tryd.prog 84 #[.agg #[.int .i64 p, .int .i64 q]] w (BPost (notDone (p, q)) w) := by
  have E : Hid (notDone (p, q) = ((p != 2) && (p != 3))) := rfl
  cases h : (p != 2) with
  | false =>
    rw [h] at E
    have h' : (p == 2) = true := by rw [bne, Bool.not_eq_false'] at h; exact h
    go_enter Tryd.func84, Tryd.ntmps84
    go_wp2_with fail
    go_ret
    exact BPost.mk (by rw [E.out]; rfl) ((Kept.refl _ w).alloc _)
  | true =>
    rw [h, Bool.true_and] at E
    have h' : (p == 2) = false := by rw [bne, Bool.not_eq_true'] at h; exact h
    generalize hq : (p != 3) = q3 at E
    go_enter Tryd.func84, Tryd.ntmps84
    go_wp2_with fail
    go_ret
    exact BPost.mk (by rw [E.out]) ((Kept.refl _ w).alloc _)

theorem any_takeL {l : List (Int × Int)} {k : Nat} (hk : k < l.length) (h : (l.take k).any notDone = false) : (l.take (k + 1)).any notDone = notDone l[k] := by
  rw [← List.take_append_getElem hk, List.any_append, h]; simp
set_option maxHeartbeats 2000000 in
/-- Is one of the steps bad? -/
theorem f_indexL (v : Value) (l : List (Int × Int)) (w : World) (hs : Stp w v l) (hl : l.length ≤ 1000000) : Calls Tryd.prog 108 #[v, .func (.func 84) #[] #[]] w fun e w' => (∃ n : Int, e = .returned (.int .i64 n) ∧ -1 ≤ n ∧ n ≤ 1000000 ∧ decide (0 ≤ n) = l.any notDone) ∧ Kept (fun _ => False) w w' := by
  obtain ⟨a, c, rfl⟩ := hs.form
  have HS := Lib.hid hs
  clear hs
  go_enter Tryd.func108, Tryd.ntmps108
  go_wp2_with fail
  go_loopw [8] (fun i wr => ∃ k : Nat, k ≤ l.length ∧ i = .int .i64 k ∧ (l.take k).any notDone = false ∧ Kept (fun _ => False) w wr) (fun i _ => l.length - (intOf i).toNat)
  case atStart => exact ⟨0, Nat.zero_le _, rfl, rfl, Kept.refl _ _⟩
  case round =>
    obtain ⟨k, hk, rfl, ht, K⟩ := hrel
    have HT := Lib.hid ht
    have KR := Lib.hid K
    clear ht
    by_cases hlt : k < l.length
    · obtain ⟨b, o, c', ev, x1, x0, -⟩ := (HS.out.kept K).kind hlt
      simp only [Value.slice.injEq, true_and] at ev
      obtain ⟨rfl, rfl⟩ := ev
      have k1 : kindAt l k = l[k].2 := by rw [kindAt, List.getElem?_eq_getElem hlt]; rfl
      rw [k1] at x1
      have HA := Lib.hid (any_takeL hlt HT.out)
      have HX := Lib.hid (show l[k] ∈ l from List.getElem_mem _)
      clear k1 K
      generalize l[k] = x at x0 x1 HA HX
      obtain ⟨p, q⟩ := x
      dsimp only at x0 x1
      have HB := Lib.hid (f_notDone p q)
      cases hb : notDone (p, q) with
      | true =>
        rw [hb] at HB
        have E : Hid (l.any notDone = true) := by show _ = _; rw [List.any_eq_true]; exact ⟨_, HX.out, hb⟩
        clear hb
        go_wp2_with fail
        refine (HB.out _).mono ?_
        rintro e w1 ⟨rfl, k1⟩
        have KF := Lib.hid (KR.out.trans k1)
        go_wp2_with fail
        go_ret
        exact ⟨⟨_, rfl, by omega, by omega, by rw [E.out]; simp⟩, KF.out⟩
      | false =>
        rw [hb] at HB HA
        clear hb
        go_wp2_with fail
        refine (HB.out _).mono ?_
        rintro e w1 ⟨rfl, k1⟩
        have KF := Lib.hid (KR.out.trans k1)
        go_wp2_with fail
        go_roundw
        case rel => exact ⟨k + 1, by omega, by go_num, HA.out, KF.out⟩
        case measure => simp [intOf]; omega
    · obtain rfl : k = l.length := by omega
      have E : Hid (l.any notDone = false) := by show _ = _; have := HT.out; rwa [List.take_length] at this
      clear K
      go_wp2_with fail
      go_ret
      exact ⟨⟨_, rfl, by omega, by omega, by rw [E.out]; rfl⟩, KR.out⟩
theorem f_containsL (v : Value) (l : List (Int × Int)) (w : World) (hs : Stp w v l) (hl : l.length ≤ 1000000) : Calls Tryd.prog 83 #[v, .func (.func 84) #[] #[]] w (BPost (l.any notDone) w) := by
  have H := Lib.hid (f_indexL v l w hs hl)
  obtain ⟨a, c, rfl⟩ := hs.form
  clear hs
  go_enter Tryd.func83, Tryd.ntmps83
  go_wp2_with fail
  refine H.out.mono ?_
  rintro e w1 ⟨⟨n, rfl, hn, hn2, hd⟩, k1⟩
  have E := Lib.hid hd
  clear hd
  go_wp2_with fail
  go_ret
  exact BPost.mk E.out.symm k1

theorem f_clean (v : Value) (l : List (Int × Int)) (w : World) (hs : Stp w v l) (hl : l.length ≤ 1000000) : Calls Tryd.prog 51 #[v] w (BPost (cleanB l) w) := by
  have H := Lib.hid (f_containsL v l w hs hl)
  obtain ⟨a, c, rfl⟩ := hs.form
  have E : Hid (cleanB l = !l.any notDone) := rfl
  clear hs
  go_enter Tryd.func51, Tryd.ntmps51
  go_wp2_with fail
  refine H.out.mono ?_
  rintro e w1 ⟨rfl, k1⟩
  go_wp2_with fail
  go_ret
  exact BPost.mk E.out k1

/-! ## Lines -/
theorem equal96 (w : World) (p q p' q' : Int) : (Op.equalIn 10000 96 (.agg #[.int .i64 p, .int .i64 q]) (.agg #[.int .i64 p', .int .i64 q'])).run Tryd.prog w = .ok ((p == p') && (q == q')) w := by
  have u3 := Tryd.underlying3
  have hS : Tryd.prog.underlying 96 = some (.struct (Tryd.prog.fieldsOf 96)) := by kernel_rfl
  have hp : Tryd.prog.stoodInHeld 96 = false := by kernel_rfl
  rw [show (10000 : Nat) = 9999 + 1 from rfl, run_equalIn_agg w 9999 96 _ _ hS hp]
  simp only [Program.fieldsOf, Tryd.underlying96]
  go_simp
  by_cases h1 : p = p' <;> by_cases h2 : q = q' <;> simp [h1, h2]
theorem guard96 (w : World) (x y : Operand) (xs ys : Array Value) : (eqGuard .eql 96 x y (.agg xs) (.agg ys)).run Tryd.prog w = .ok () w := run_eqGuard_agg w .eql 96 x y _ _ (by kernel_rfl)
attribute [local go_sem] equal96 guard96
theorem f_line (p q p' q' : Int) (w : World) : Calls Tryd.prog 105 #[.agg #[.int .i64 p, .int .i64 q], .agg #[.int .i64 p', .int .i64 q']] w (BPost ((p == p') && (q == q')) w) := by
  have K2 := Lib.hid (((Kept.refl (fun _ => False) w).alloc (.cells #[.int .i64 p, .int .i64 q] 96)).alloc (.cells #[.int .i64 p', .int .i64 q'] 96))
  by_cases h1 : p = p'
  · subst h1
    by_cases h2 : q = q'
    · subst h2
      have e : ((p == p) && (q == q)) = true := by simp
      rw [e]
      clear e
      go_enter Tryd.func105, Tryd.ntmps105
      go_wp2_with fail
      go_ret
      exact BPost.mk rfl K2.out
    · have e : ((p == p) && (q == q')) = false := by simp [h2]
      rw [e]
      clear e
      go_enter Tryd.func105, Tryd.ntmps105
      go_wp2_with fail
      go_ret
      exact BPost.mk rfl K2.out
  · have e : ((p == p') && (q == q')) = false := by simp [h1]
    rw [e]
    clear e
    go_enter Tryd.func105, Tryd.ntmps105
    go_wp2_with fail
    go_ret
    exact BPost.mk rfl K2.out
set_option maxRecDepth 100000 in
set_option maxHeartbeats 8000000 in
theorem f_allL (va vb : Value) (l m : List (Int × Int)) (w : World) (ha : Stp w va l) (hb : Stp w vb m) (hll : l.length ≤ 1000000) : Calls Tryd.prog 104 #[va, vb, .func (.func 105) #[] #[]] w (BPost (decide (l = m)) w) := by
  obtain ⟨a, c, rfl⟩ := ha.form
  obtain ⟨b, d, rfl⟩ := hb.form
  have HA := Lib.hid ha
  have HB := Lib.hid hb
  clear ha hb
  by_cases hlen : l.length = m.length
  · have t1 : ((l.length : Int) == m.length) = true := by rw [beq_iff_eq]; omega
    have t2 : ((l.length : Int) != m.length) = false := by rw [bne, t1]; rfl
    have HL := Lib.hid hlen
    clear hlen
    go_enter Tryd.func104, Tryd.ntmps104
    go_wp2_with fail
    go_loopw [15] (fun i wr => ∃ k : Nat, k ≤ l.length ∧ i = .int .i64 k ∧ l.take k = m.take k ∧ Kept (fun _ => False) w wr) (fun i _ => l.length - (intOf i).toNat)
    case atStart => exact ⟨0, Nat.zero_le _, rfl, rfl, Kept.refl _ _⟩
    case round =>
      obtain ⟨k, hk, rfl, ht, K⟩ := hrel
      have HT := Lib.hid ht
      have KR := Lib.hid K
      clear ht
      by_cases hlt : k < l.length
      · have hlm : k < m.length := by have := HL.out; omega
        obtain ⟨b1, o1, c1, e1, x1, x0, hb1⟩ := (HA.out.kept K).kind hlt
        obtain ⟨b2, o2, c2, e2, y1, y0, hb2⟩ := (HB.out.kept K).kind hlm
        simp only [Value.slice.injEq, true_and] at e1 e2
        obtain ⟨rfl, rfl⟩ := e1
        obtain ⟨rfl, rfl⟩ := e2
        have k1 : kindAt l k = l[k].2 := by rw [kindAt, List.getElem?_eq_getElem hlt]; rfl
        have k2 : kindAt m k = m[k].2 := by rw [kindAt, List.getElem?_eq_getElem hlm]; rfl
        rw [k1] at x1
        rw [k2] at y1
        clear k1 k2
        have ET : Hid (l[k] = m[k] → l.take (k + 1) = m.take (k + 1)) := fun e => list_step' HT.out hlt hlm e
        have EF : Hid (l[k] ≠ m[k] → decide (l = m) = false) := fun e => by
          simp only [decide_eq_false_iff_not]
          rintro rfl
          exact e rfl
        generalize l[k] = x at x1 x0 ET EF
        generalize m[k] = y at y1 y0 ET EF
        obtain ⟨p, q⟩ := x
        obtain ⟨p', q'⟩ := y
        dsimp only at x0 x1 y0 y1
        have R1 : Hid (∀ {w' : World}, Kept (fun _ => False) wr w' → w'.cell? ⟨b1, o1 + k * 2, none⟩ = some (.int .i64 p) ∧ w'.cell? ⟨b1, o1 + k * 2 + 1, none⟩ = some (.int .i64 q) ∧ w'.cell? ⟨b2, o2 + k * 2, none⟩ = some (.int .i64 p') ∧ w'.cell? ⟨b2, o2 + k * 2 + 1, none⟩ = some (.int .i64 q')) := fun kk => ⟨(kk.cell (p := ⟨b1, o1 + k * 2, none⟩) hb1 id).trans x0, (kk.cell (p := ⟨b1, o1 + k * 2 + 1, none⟩) hb1 id).trans x1, (kk.cell (p := ⟨b2, o2 + k * 2, none⟩) hb2 id).trans y0, (kk.cell (p := ⟨b2, o2 + k * 2 + 1, none⟩) hb2 id).trans y1⟩
        have hd : Kept (fun _ => False) wr wr.drew := (Kept.refl _ _).drew
        have hbq : ((p == p') && (q == q')) = decide ((p, q) = (p', q')) := by rw [Bool.eq_iff_iff]; simp
        have HLN := Lib.hid (fun w' => f_line p q p' q' w')
        rw [hbq] at HLN
        clear x0 x1 y0 y1 K hbq
        by_cases hxy : (p, q) = (p', q')
        · have hdx : decide ((p, q) = (p', q')) = true := by simpa using hxy
          have E := Lib.hid (ET.out hxy)
          rw [hdx] at HLN
          clear ET EF hxy hdx
          go_wp2_with fail
          refine wp_region_held_drew (S := fun w' => Kept (fun _ => False) wr w') (by kernel_rfl) hd (fun hHeld => ?_)
          refine wpAnyH_take (i := 0) (oi := ⟨some 18, _, _, _, _, _⟩) (v := .func (.func 105) #[] #[]) rfl (by kernel_rfl) (by kernel_rfl) (by kernel_rfl) (fun _ _ _ h => h) (Or.inl ⟨by kernel_rfl, fun w' hS => by go_simp⟩) (by assumption) ?_
          try simp only [Act.put, List.setIfInBounds_toArray, List.set_cons_succ, List.set_cons_zero]
          refine wpAnyH_take (i := 1) (oi := ⟨some 19, _, _, _, _, _⟩) (v := .slice (some ⟨b1, o1, none⟩) l.length c) rfl (by kernel_rfl) (by kernel_rfl) (by kernel_rfl) (fun _ _ _ h => h) (Or.inl ⟨by kernel_rfl, fun w' hS => by go_simp⟩) (by assumption) ?_
          try simp only [Act.put, List.setIfInBounds_toArray, List.set_cons_succ, List.set_cons_zero]
          refine wpAnyH_take (i := 2) (oi := ⟨some 20, _, _, _, _, _⟩) (v := .int .i64 k) rfl (by kernel_rfl) (by kernel_rfl) (by kernel_rfl) (fun _ _ _ h => h) (Or.inl ⟨by kernel_rfl, fun w' hS => by go_simp⟩) (by assumption) ?_
          try simp only [Act.put, List.setIfInBounds_toArray, List.set_cons_succ, List.set_cons_zero]
          refine wpAnyH_take (i := 3) (oi := ⟨some 21, _, _, _, _, _⟩) (v := .pointer (some ⟨b1, o1 + k * 2, none⟩)) rfl (by kernel_rfl) (by kernel_rfl) (by kernel_rfl) (fun _ _ _ h => h) (Or.inl ⟨by kernel_rfl, fun w' hS => by go_simp⟩) (by assumption) ?_
          try simp only [Act.put, List.setIfInBounds_toArray, List.set_cons_succ, List.set_cons_zero]
          refine wpAnyH_take (i := 4) (oi := ⟨some 22, _, _, _, _, _⟩) (v := .agg #[.int .i64 p, .int .i64 q]) rfl (by kernel_rfl) (by kernel_rfl) (by kernel_rfl) (fun _ _ _ h => h) (Or.inl ⟨by kernel_rfl, fun w' hS => by have hc := (R1.out hS).1; have hc2 := (R1.out hS).2.1; go_simp⟩) (by assumption) ?_
          try simp only [Act.put, List.setIfInBounds_toArray, List.set_cons_succ, List.set_cons_zero]
          refine wpAnyH_take (i := 5) (oi := ⟨some 23, _, _, _, _, _⟩) (v := .slice (some ⟨b2, o2, none⟩) m.length d) rfl (by kernel_rfl) (by kernel_rfl) (by kernel_rfl) (fun _ _ _ h => h) (Or.inl ⟨by kernel_rfl, fun w' hS => by go_simp⟩) (by assumption) ?_
          try simp only [Act.put, List.setIfInBounds_toArray, List.set_cons_succ, List.set_cons_zero]
          refine wpAnyH_take (i := 6) (oi := ⟨some 24, _, _, _, _, _⟩) (v := .int .i64 k) rfl (by kernel_rfl) (by kernel_rfl) (by kernel_rfl) (fun _ _ _ h => h) (Or.inl ⟨by kernel_rfl, fun w' hS => by go_simp⟩) (by assumption) ?_
          try simp only [Act.put, List.setIfInBounds_toArray, List.set_cons_succ, List.set_cons_zero]
          refine wpAnyH_take (i := 7) (oi := ⟨some 25, _, _, _, _, _⟩) (v := .pointer (some ⟨b2, o2 + k * 2, none⟩)) rfl (by kernel_rfl) (by kernel_rfl) (by kernel_rfl) (fun _ _ _ h => h) (Or.inl ⟨by kernel_rfl, fun w' hS => by go_simp⟩) (by assumption) ?_
          try simp only [Act.put, List.setIfInBounds_toArray, List.set_cons_succ, List.set_cons_zero]
          refine wpAnyH_take (i := 8) (oi := ⟨some 26, _, _, _, _, _⟩) (v := .agg #[.int .i64 p', .int .i64 q']) rfl (by kernel_rfl) (by kernel_rfl) (by kernel_rfl) (fun _ _ _ h => h) (Or.inl ⟨by kernel_rfl, fun w' hS => by have hc := (R1.out hS).2.2.1; have hc2 := (R1.out hS).2.2.2; go_simp⟩) (by assumption) ?_
          try simp only [Act.put, List.setIfInBounds_toArray, List.set_cons_succ, List.set_cons_zero]
          refine wpAnyH_ready (rs := [9]) (by kernel_rfl) (by simp) ?_
          refine AllReadyH.cons (o := _) rfl (fun K hK => ?_) AllReadyH.nil
          go_simp
          refine (HLN.out _).mono ?_
          rintro e wx1 ⟨rfl, kx1⟩
          go_wp2_with fail
          have hS1 := hd.trans kx1
          refine hK.out _ _ hS1 (fun hHeld => ?_)
          clear hK K
          try simp only [Act.put, List.setIfInBounds_toArray, List.set_cons_succ, List.set_cons_zero]
          refine wpAnyH_take (i := 10) (oi := ⟨some 28, _, _, _, _, _⟩) (v := .bool false) rfl (by kernel_rfl) (by kernel_rfl) (by kernel_rfl) (fun _ _ _ h => h) (Or.inl ⟨by kernel_rfl, fun w' hS => by go_simp⟩) (by assumption) ?_
          try simp only [Act.put, List.setIfInBounds_toArray, List.set_cons_succ, List.set_cons_zero]
          refine wpAnyH_done (by kernel_rfl) ?_ _
          have KF := Lib.hid (KR.out.trans hS1)
          clear kx1 hS1 hd
          go_wp2_with fail
          go_roundw
          case rel => exact ⟨k + 1, by omega, by go_num, E.out, KF.out⟩
          case measure => simp [intOf]; omega
        · have hdx : decide ((p, q) = (p', q')) = false := by simpa using hxy
          have E := Lib.hid (EF.out hxy)
          rw [hdx] at HLN
          clear ET EF hxy hdx
          go_wp2_with fail
          refine wp_region_held_drew (S := fun w' => Kept (fun _ => False) wr w') (by kernel_rfl) hd (fun hHeld => ?_)
          refine wpAnyH_take (i := 0) (oi := ⟨some 18, _, _, _, _, _⟩) (v := .func (.func 105) #[] #[]) rfl (by kernel_rfl) (by kernel_rfl) (by kernel_rfl) (fun _ _ _ h => h) (Or.inl ⟨by kernel_rfl, fun w' hS => by go_simp⟩) (by assumption) ?_
          try simp only [Act.put, List.setIfInBounds_toArray, List.set_cons_succ, List.set_cons_zero]
          refine wpAnyH_take (i := 1) (oi := ⟨some 19, _, _, _, _, _⟩) (v := .slice (some ⟨b1, o1, none⟩) l.length c) rfl (by kernel_rfl) (by kernel_rfl) (by kernel_rfl) (fun _ _ _ h => h) (Or.inl ⟨by kernel_rfl, fun w' hS => by go_simp⟩) (by assumption) ?_
          try simp only [Act.put, List.setIfInBounds_toArray, List.set_cons_succ, List.set_cons_zero]
          refine wpAnyH_take (i := 2) (oi := ⟨some 20, _, _, _, _, _⟩) (v := .int .i64 k) rfl (by kernel_rfl) (by kernel_rfl) (by kernel_rfl) (fun _ _ _ h => h) (Or.inl ⟨by kernel_rfl, fun w' hS => by go_simp⟩) (by assumption) ?_
          try simp only [Act.put, List.setIfInBounds_toArray, List.set_cons_succ, List.set_cons_zero]
          refine wpAnyH_take (i := 3) (oi := ⟨some 21, _, _, _, _, _⟩) (v := .pointer (some ⟨b1, o1 + k * 2, none⟩)) rfl (by kernel_rfl) (by kernel_rfl) (by kernel_rfl) (fun _ _ _ h => h) (Or.inl ⟨by kernel_rfl, fun w' hS => by go_simp⟩) (by assumption) ?_
          try simp only [Act.put, List.setIfInBounds_toArray, List.set_cons_succ, List.set_cons_zero]
          refine wpAnyH_take (i := 4) (oi := ⟨some 22, _, _, _, _, _⟩) (v := .agg #[.int .i64 p, .int .i64 q]) rfl (by kernel_rfl) (by kernel_rfl) (by kernel_rfl) (fun _ _ _ h => h) (Or.inl ⟨by kernel_rfl, fun w' hS => by have hc := (R1.out hS).1; have hc2 := (R1.out hS).2.1; go_simp⟩) (by assumption) ?_
          try simp only [Act.put, List.setIfInBounds_toArray, List.set_cons_succ, List.set_cons_zero]
          refine wpAnyH_take (i := 5) (oi := ⟨some 23, _, _, _, _, _⟩) (v := .slice (some ⟨b2, o2, none⟩) m.length d) rfl (by kernel_rfl) (by kernel_rfl) (by kernel_rfl) (fun _ _ _ h => h) (Or.inl ⟨by kernel_rfl, fun w' hS => by go_simp⟩) (by assumption) ?_
          try simp only [Act.put, List.setIfInBounds_toArray, List.set_cons_succ, List.set_cons_zero]
          refine wpAnyH_take (i := 6) (oi := ⟨some 24, _, _, _, _, _⟩) (v := .int .i64 k) rfl (by kernel_rfl) (by kernel_rfl) (by kernel_rfl) (fun _ _ _ h => h) (Or.inl ⟨by kernel_rfl, fun w' hS => by go_simp⟩) (by assumption) ?_
          try simp only [Act.put, List.setIfInBounds_toArray, List.set_cons_succ, List.set_cons_zero]
          refine wpAnyH_take (i := 7) (oi := ⟨some 25, _, _, _, _, _⟩) (v := .pointer (some ⟨b2, o2 + k * 2, none⟩)) rfl (by kernel_rfl) (by kernel_rfl) (by kernel_rfl) (fun _ _ _ h => h) (Or.inl ⟨by kernel_rfl, fun w' hS => by go_simp⟩) (by assumption) ?_
          try simp only [Act.put, List.setIfInBounds_toArray, List.set_cons_succ, List.set_cons_zero]
          refine wpAnyH_take (i := 8) (oi := ⟨some 26, _, _, _, _, _⟩) (v := .agg #[.int .i64 p', .int .i64 q']) rfl (by kernel_rfl) (by kernel_rfl) (by kernel_rfl) (fun _ _ _ h => h) (Or.inl ⟨by kernel_rfl, fun w' hS => by have hc := (R1.out hS).2.2.1; have hc2 := (R1.out hS).2.2.2; go_simp⟩) (by assumption) ?_
          try simp only [Act.put, List.setIfInBounds_toArray, List.set_cons_succ, List.set_cons_zero]
          refine wpAnyH_ready (rs := [9]) (by kernel_rfl) (by simp) ?_
          refine AllReadyH.cons (o := _) rfl (fun K hK => ?_) AllReadyH.nil
          go_simp
          refine (HLN.out _).mono ?_
          rintro e wx1 ⟨rfl, kx1⟩
          go_wp2_with fail
          have hS1 := hd.trans kx1
          refine hK.out _ _ hS1 (fun hHeld => ?_)
          clear hK K
          try simp only [Act.put, List.setIfInBounds_toArray, List.set_cons_succ, List.set_cons_zero]
          refine wpAnyH_take (i := 10) (oi := ⟨some 28, _, _, _, _, _⟩) (v := .bool true) rfl (by kernel_rfl) (by kernel_rfl) (by kernel_rfl) (fun _ _ _ h => h) (Or.inl ⟨by kernel_rfl, fun w' hS => by go_simp⟩) (by assumption) ?_
          try simp only [Act.put, List.setIfInBounds_toArray, List.set_cons_succ, List.set_cons_zero]
          refine wpAnyH_done (by kernel_rfl) ?_ _
          have KF := Lib.hid (KR.out.trans hS1)
          clear kx1 hS1 hd
          go_wp2_with fail
          go_ret
          exact BPost.mk E.out KF.out
      · have e : l = m := by
          have h := HT.out
          rwa [List.take_of_length_le (by omega), List.take_of_length_le (by have := HL.out; omega)] at h
        have HE := Lib.hid (show decide (l = m) = true by simpa using e)
        clear e K
        go_wp2_with fail
        go_ret
        exact BPost.mk HE.out KR.out
  · have t1 : ((l.length : Int) == m.length) = false := by rw [beq_eq_false_iff_ne]; omega
    have t2 : ((l.length : Int) != m.length) = true := by rw [bne, t1]; rfl
    have HE := Lib.hid (show decide (l = m) = false by simp only [decide_eq_false_iff_not]; rintro rfl; exact hlen rfl)
    clear hlen
    go_enter Tryd.func104, Tryd.ntmps104
    go_wp2_with fail
    go_ret
    exact BPost.mk HE.out (Kept.refl _ _)
theorem f_lines (va vb : Value) (l m : List (Int × Int)) (w : World) (ha : Stp w va l) (hb : Stp w vb m) (hll : l.length ≤ 1000000) : Calls Tryd.prog 76 #[va, vb] w (BPost (decide (l = m)) w) := by
  have H := Lib.hid (f_allL va vb l m w ha hb hll)
  obtain ⟨a, c, rfl⟩ := ha.form
  obtain ⟨b, d, rfl⟩ := hb.form
  clear ha hb
  go_enter Tryd.func76, Tryd.ntmps76
  go_wp2_with fail
  refine H.out.mono ?_
  rintro e w1 ⟨rfl, k1⟩
  go_wp2_with fail
  go_ret
  exact BPost.mk rfl k1
end Go.Proofs.YtklmhegmombegaaDoor.Re

