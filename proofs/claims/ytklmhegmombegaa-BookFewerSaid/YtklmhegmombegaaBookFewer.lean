/-
  The first of records that go, go; each more turns one saga, or an epoch, alone: 'Rows.BookFewerSaid', for every input. Conditions: none.
-/
import Derived.Test.YtklmhegmombegaaArg3
import Derived.Test.YtklmhegmombegaaBkN
import Derived.Test.YtklmhegmombegaaBkS
import Derived.Test.YtklmhegmombegaaRows
import Derived.OwnWalk
import Derived.ProofKit
import Derived.OpenShut
import Derived.ShutString
import Derived.ChangeOld
import Derived.Below
namespace Go.Proofs.Ytklmhegmombegaa.bookFewer
open Go Go.ChangeShapes Go.WideShapes Go.ChangeAt Go.RowKit Plain
set_option linter.unusedVariables false
set_option linter.unusedSimpArgs false
theorem own : ownKnob Try.prog.godebug = none := by kernel_rfl
theorem laidOut : laidOutB Try.prog = true := by kernel_rfl

/-- A slice of records that came in, with its capacity. -/
def IsRecsC (w : World) (v : Value) : Prop := IsRecs w v ∧ ∃ a n c, v = .slice a n c ∧ n ≤ c
set_option maxRecDepth 100000 in
theorem IsRecsC.of {H : Type} {enc : TypeId × Value → H} {W : World} {base : Nat} {v : Value} {d : DataW H} {p : List MemPlace} (ho : Value.okWide Try.prog W .any base 49 v)
    (h : DataW.Trod enc Try.prog W 0 (fun _ => true) true 49 v d p) : IsRecsC W v := by
  refine ⟨IsRecs.of ho h, ?_⟩
  obtain ⟨a0, len, cap, rfl⟩ := okWide_slice Try.underlying49 ho
  obtain ⟨a, n, c, F, hcs, hle, hnil, hm, hF⟩ := open_elems Try.underlying49 cells41 (by decide) (Reads.of_trod h)
  have hcs' : Value.slice a0 len cap = .slice a n c := by simpa [Value.cells] using hcs
  exact ⟨a, n, c, hcs', hle⟩
set_option maxRecDepth 100000 in
set_option maxHeartbeats 8000000 in
theorem walk (w : World) (v0 : Value) (w0 : IsRecsC w v0) (a1 : Int) (w1 : (Lit.int .i64 a1).wf = true) (a2 : Int) (w2 : (Lit.int .u8 a2).wf = true) :
    Calls Try.prog 10 #[v0, .int .i64 a1, .int .u8 a2] w fun e w' => e = .returned (.bool true) ∧ Below w.heap.size w w' := by
  obtain ⟨⟨rs, hR⟩, x0, x1, x2, hx, hcap⟩ := w0
  obtain ⟨a, c, rfl⟩ := hR.form
  simp only [Value.slice.injEq] at hx
  obtain ⟨rfl, rfl, rfl⟩ := hx
  have h2 : 0 ≤ a2 ∧ a2 ≤ 255 := by
    have h := w2
    simp [Lit.wf] at h
    have e1 : IntKind.u8.min = 0 := rfl
    have e2 : IntKind.u8.max = 255 := rfl
    omega
  obtain ⟨z, rfl⟩ : ∃ z : Nat, a2 = z := ⟨a2.toNat, by omega⟩
  clear w1 w2
  have HAL := Lib.hid (f_alive12 w)
  have HGR := Lib.hid (fun w' (k : Kept (fun _ => False) w w') => f_great _ rs w' (hR.kept k))
  cases hg : greatL (rs.map (·.2)) with
  | true =>
    rw [hg] at HGR
    clear hR hg
    go_enter Try.func10, Try.ntmps10
    go_wp2_with fail
    refine HAL.out.mono ?_
    rintro e w1 ⟨rfl, k1⟩
    go_wp2_with fail
    refine (HGR.out _ k1).mono ?_
    rintro e w2 ⟨rfl, k2⟩
    have KF := Lib.hid (k1.trans k2)
    go_wp2_with fail
    go_ret
    exact ⟨rfl, KF.out.below (Nat.le_refl _) (fun k h => h.elim)⟩
  | false =>
    rw [hg] at HGR
    obtain ⟨hl0, hs0⟩ := great_not hg
    rw [List.length_map] at hl0
    have hs1 : ∀ p ∈ rs, p.2.steps.length ≤ 1000000 := fun p hp => by have := hs0 p.2 (List.mem_map_of_mem hp); omega
    obtain ⟨b, m, hbm⟩ : ∃ b m, bookOf (rs.map (·.2)) a1 = (b, m) := ⟨_, _, rfl⟩
    have hle : m ≤ rs.length := by have := bookOf_le (rs.map (·.2)) a1; rw [hbm, List.length_map] at this; exact this
    have HOF : Hid (∀ (j : Nat) w', j ≤ rs.length → Kept (fun _ => False) w w' → Calls Try.prog 27 #[.slice a j c, .int .i64 a1] w' (OfPost (bookOf ((rs.map (·.2)).take j) a1) w')) := fun j w' hj k => by
      have hl : (rs.take j).length ≤ 1000000 := by rw [List.length_take]; omega
      have := f_bof _ (rs.take j) a1 w' ((hR.first hj).kept k) hl (fun p hp => hs1 p (List.mem_of_mem_take hp))
      rw [List.map_take] at this; exact this
    have HO0 : Hid (∀ w', Kept (fun _ => False) w w' → Calls Try.prog 27 #[.slice a rs.length c, .int .i64 a1] w' (OfPost (b, m) w')) := fun w' k => by
      have := f_bof _ rs a1 w' (hR.kept k) (by omega) hs1
      rw [hbm] at this; exact this
    have HNX : Hid (∀ k, k < m → ∃ x, bookOf ((rs.map (·.2)).take k) a1 = ((bookOf ((rs.map (·.2)).take k) a1).1, k) ∧ bookOf ((rs.map (·.2)).take (k + 1)) a1 = ((bookOf ((rs.map (·.2)).take (k + 1)) a1).1, k + 1) ∧ Turn a1.toNat (bookOf ((rs.map (·.2)).take k) a1).1 x (bookOf ((rs.map (·.2)).take (k + 1)) a1).1) := fun k hk => book_next (l := rs.map (·.2)) (lim := a1) (k := k) (by rw [hbm]; exact hk)
    have HGO : Hid (∀ k, BGood a1.toNat (bookOf ((rs.map (·.2)).take k) a1).1) := fun k => good_bookOf _ _
    have HCAP := Lib.hid hcap
    have hone : Hid (∀ (B : Bk) (a : Option Addr) (n c : Nat), (bkC B.ep (.slice a n c)).all (·.oneCell') = true) := fun B a n c => bkC_one B.ep a n c
    clear hR hg hs0 hs1 hbm
    go_enter Try.func10, Try.ntmps10
    go_wp2_with fail
    refine HAL.out.mono ?_
    rintro e w1 ⟨rfl, k1⟩
    go_wp2_with fail
    refine (HGR.out _ k1).mono ?_
    rintro e w2 ⟨rfl, k2⟩
    have K2 := Lib.hid (k1.trans k2)
    clear k1 k2 HAL HGR
    go_wp2_with fail
    refine (HO0.out _ K2.out).mono ?_
    rintro e w3 ⟨sv, ss, rfl, hb3, -, -, k3⟩
    obtain ⟨av, cv, rfl⟩ := hb3.form
    dsimp only at *
    have z3 := Lib.hid (heap_alloc_new w3 (.cells Z54 54))
    obtain ⟨y3, k3'⟩ := alloc_set w3 Z54 (bkC b.ep (.slice av ss.length cv)) 54
    have K3 := Lib.hid (K2.out.trans (k3.trans k3'))
    clear y3 k3 k3' hb3 K2 HO0
    go_upto_region 6 with (first | fail | (with_reducible refine alloc54 ?_) | ((with_reducible refine store54 ?_ ?_ z3.out rfl (bkC_size _ _) (hone.out b av ss.length cv) ?_); rfl; rfl))
    clear z3
    generalize ((w3.alloc (.cells Z54 54)).setRow w3.heap.size (bkC b.ep (.slice av ss.length cv))) = u at *
    rcases Nat.eq_zero_or_pos m with rfl | hm
    · have hc0 : 0 ≤ c := Nat.zero_le _
      go_wp2_with fail
      have H0 : Hid (∀ w', Kept (fun _ => False) w w' → Calls Try.prog 27 #[.slice a 0 c, .int .i64 a1] w' (OfPost (Bk.zero, 0) w')) := fun w' k => HOF.out 0 w' (Nat.zero_le _) k
      refine (H0.out _ K3.out).mono ?_
      rintro e w4 ⟨sA, ssA, rfl, hbA, hmA, -, k4⟩
      obtain ⟨aA, cA, rfl⟩ := hbA.form
      have hz : ssA.length = 0 := by
        have := congrArg List.length hmA
        simpa [Bk.zero] using this
      dsimp only at *
      rw [hz]
      have z4 := Lib.hid (heap_alloc_new w4 (.cells Z54 54))
      obtain ⟨y4, k4'⟩ := alloc_set w4 Z54 (bkC Bk.zero.ep (.slice aA 0 cA)) 54
      have KF := Lib.hid (K3.out.trans (k4.trans k4'))
      have b4 := row_cell y4 (show (bkC Bk.zero.ep (.slice aA 0 cA))[4]? = some (.slice aA 0 cA) from rfl)
      clear y4 k4 k4' hbA hmA hz H0
      go_upto_region 10 with (first | fail | (with_reducible refine alloc54 ?_) | ((with_reducible refine store54 ?_ ?_ z4.out rfl (bkC_size _ _) (hone.out Bk.zero aA 0 cA) ?_); rfl; rfl))
      generalize ((w4.alloc (.cells Z54 54)).setRow w4.heap.size (bkC Bk.zero.ep (.slice aA 0 cA))) = u2 at *
      clear z4
      go_wp2_with fail
      go_ret
      exact ⟨rfl, KF.out.below (Nat.le_refl _) (fun k h => h.elim)⟩
    · obtain ⟨k, hkm, hke⟩ : ∃ k : Nat, k < m ∧ ((z : Int) % (m : Int)) = k := ⟨z % m, Nat.mod_lt _ hm, (Int.natCast_emod _ _).symm⟩
      have hmz : ((m : Int) == 0) = false := by simp; omega
      obtain ⟨x, hA1, hB1, hT⟩ := HNX.out k hkm
      have hgA := HGO.out k
      have hgB := HGO.out (k + 1)
      have HA := HOF.out k
      have HB := HOF.out (k + 1)
      rw [hA1] at HA
      rw [hB1] at HB
      generalize (bookOf ((rs.map (·.2)).take k) a1).1 = bA at *
      generalize (bookOf ((rs.map (·.2)).take (k + 1)) a1).1 = bB at *
      have HOA := Lib.hid HA
      have HOB := Lib.hid HB
      have HT := Lib.hid hT
      have HGA := Lib.hid hgA
      have HGB := Lib.hid hgB
      have hkc : k ≤ c := by have := HCAP.out; omega
      have hkc1 : k + 1 ≤ c := by have := HCAP.out; omega
      have hkr : k + 1 ≤ rs.length := by omega
      have HKE := Lib.hid hke
      clear HA HB hT hgA hgB hA1 hB1 HOF HNX HGO hke
      go_upto_region 9 with (fail)
      rw [HKE.out]
      have tk : ((k : Int) != k) = false := by simp
      have tk1 : ((k : Int) + 1 != k + 1) = false := by simp
      go_wp2_with fail
      refine (HOA.out _ (by omega) K3.out).mono ?_
      rintro e w4 ⟨sA, ssA, rfl, hbA, hmA, -, k4⟩
      obtain ⟨aA, cA, rfl⟩ := hbA.form
      dsimp only at *
      have z4 := Lib.hid (heap_alloc_new w4 (.cells Z54 54))
      obtain ⟨y4, k4'⟩ := alloc_set w4 Z54 (bkC bA.ep (.slice aA ssA.length cA)) 54
      have K4 := Lib.hid (K3.out.trans (k4.trans k4'))
      have Y4 := Lib.hid y4
      have A4 := Lib.hid (hbA.kept k4')
      have MA := Lib.hid hmA
      clear y4 k4 k4' hbA hmA K3 HOA
      go_upto_region 10 with (first | fail | (with_reducible refine alloc54 ?_) | ((with_reducible refine store54 ?_ ?_ z4.out rfl (bkC_size _ _) (hone.out bA aA ssA.length cA) ?_); rfl; rfl))
      generalize ((w4.alloc (.cells Z54 54)).setRow w4.heap.size (bkC bA.ep (.slice aA ssA.length cA))) = uA at *
      generalize w4.heap.size = gA at *
      clear z4
      go_wp2_with fail
      refine (HOB.out _ (by omega) K4.out).mono ?_
      rintro e w5 ⟨sB, ssB, rfl, hbB, hmB, -, k5⟩
      obtain ⟨aB, cB, rfl⟩ := hbB.form
      dsimp only at *
      have z5 := Lib.hid (heap_alloc_new w5 (.cells Z54 54))
      obtain ⟨y5, k5'⟩ := alloc_set w5 Z54 (bkC bB.ep (.slice aB ssB.length cB)) 54
      have k55 := k5.trans k5'
      have K5 := Lib.hid (K4.out.trans k55)
      have Y5 := Lib.hid y5
      have YA := Lib.hid (k55.row Y4.out)
      have A5 := Lib.hid (A4.out.kept k55)
      have B5 := Lib.hid (hbB.kept k5')
      have MB := Lib.hid hmB
      clear y5 k5 k5' k55 hbB hmB K4 Y4 A4 HOB
      go_upto_region 15 with (first | fail | (with_reducible refine alloc54 ?_) | ((with_reducible refine store54 ?_ ?_ z5.out rfl (bkC_size _ _) (hone.out bB aB ssB.length cB) ?_); rfl; rfl))
      generalize ((w5.alloc (.cells Z54 54)).setRow w5.heap.size (bkC bB.ep (.slice aB ssB.length cB))) = uB at *
      generalize w5.heap.size = gB at *
      clear z5
      have hlA : ssA.length = bA.sagas.length := by rw [← MA.out, List.length_map]
      have hlB : ssB.length = bB.sagas.length := by rw [← MB.out, List.length_map]
      obtain ⟨hle2, hsum⟩ := HT.out.one
      rw [← hlA, ← hlB] at hle2 hsum
      have hA12 : ssA.length ≤ 12 := by have := HGA.out.len; omega
      have hB12 : ssB.length ≤ 12 := by have := HGB.out.len; omega
      have HLA := Lib.hid hlA
      have HLB := Lib.hid hlB
      have HSUM := Lib.hid hsum
      obtain ⟨d, hd⟩ : ∃ d, ssB.length - ssA.length = d := ⟨_, rfl⟩
      have hsub : ((ssB.length : Int) - ssA.length) = d := by omega
      have hd12 : d ≤ 12 := by omega
      have hwr : IntKind.i64.wrap (d : Int) = d := by rw [IntKind.wrap_i64]; omega
      have HSUB := Lib.hid hsub
      have tl : decide (ssB.length < ssA.length) = false := decide_eq_false (by omega)
      have a4 := row_cell YA.out (show (bkC bA.ep (.slice aA ssA.length cA))[4]? = some (.slice aA ssA.length cA) from rfl)
      have b4 := row_cell Y5.out (show (bkC bB.ep (.slice aB ssB.length cB))[4]? = some (.slice aB ssB.length cB) from rfl)
      clear hlA hlB hsum hd HKE tk tk1
      go_wp2_with fail
      clear a4 b4 hsub hwr tl
      have HDF : Hid (∀ (j : Nat) (s t : Sg), bA.sagas[j]? = some s → bB.sagas[j]? = some t → cntTo bA bB (j + 1) = cntTo bA bB j + (if (!sameB s t) = true then 1 else 0)) := fun j s t h1 h2 => by
        show cntTo bA bB j + (if differs bA bB j = true then 1 else 0) = _
        unfold differs; rw [h1, h2]
      go_loopw [14, 15] (fun tu i wr => ∃ j : Nat, j ≤ ssA.length ∧ i = .int .i64 j ∧ tu = .int .i64 ((d + cntTo bA bB j : Nat) : Int) ∧ Kept (fun _ => False) uB wr) (fun _ i _ => ssA.length - (intOf i).toNat)
      case atStart => exact ⟨0, Nat.zero_le _, rfl, by simp [cntTo], Kept.refl _ _⟩
      case round =>
        obtain ⟨j, hj, rfl, rfl, K⟩ := hrel
        have KR := Lib.hid K
        have a4 := row_cell (K.row YA.out) (show (bkC bA.ep (.slice aA ssA.length cA))[4]? = some (.slice aA ssA.length cA) from rfl)
        have b4 := row_cell (K.row Y5.out) (show (bkC bB.ep (.slice aB ssB.length cB))[4]? = some (.slice aB ssB.length cB) from rfl)
        have hcl := cntTo_le (b := bA) (c := bB) j
        by_cases hlt : j < ssA.length
        · have hlt2 : j < ssB.length := by omega
          obtain ⟨b1, o1, c1, e1, r1⟩ := (A5.out.kept K).rd.elem (by decide) (fsg_all _) hlt
          obtain ⟨b2, o2, c2, e2, r2⟩ := (B5.out.kept K).rd.elem (by decide) (fsg_all _) hlt2
          simp only [Value.slice.injEq, true_and] at e1 e2
          obtain ⟨rfl, rfl⟩ := e1
          obtain ⟨rfl, rfl⟩ := e2
          have hs1 := (A5.out.kept K).st ssA[j] (List.getElem_mem _)
          have hs2 := (B5.out.kept K).st ssB[j] (List.getElem_mem _)
          have hsl : ssA[j].1.steps.length ≤ 1000000 := by
            have := GoodS.len (lim := a1.toNat) (HGA.out.sagas ssA[j].1 (MA.out ▸ List.mem_map_of_mem (List.getElem_mem _)))
            omega
          have HCN := Lib.hid (HDF.out j ssA[j].1 ssB[j].1 (by rw [← MA.out, List.getElem?_map, List.getElem?_eq_getElem hlt]; rfl) (by rw [← MB.out, List.getElem?_map, List.getElem?_eq_getElem hlt2]; rfl))
          generalize ssA[j] = p at r1 hs1 hsl HCN
          generalize ssB[j] = q at r2 hs2 HCN
          obtain ⟨s, vs⟩ := p
          obtain ⟨t, vt⟩ := q
          dsimp only at hs1 hs2 hsl HCN
          have HSM := Lib.hid (fun w' (k : Kept (fun _ => False) wr w') => f_rsame s t vs vt w' (hs1.kept k) (hs2.kept k) hsl)
          have hbl1 := (A5.out.kept K).lt b1 rfl
          have hbl2 := (B5.out.kept K).lt b2 rfl
          have R1 : Hid (∀ {w' : World}, Kept (fun _ => False) wr w' → w'.rangeAt b1 (o1 + j * 10) (sgC s vs).toList ∧ w'.rangeAt b2 (o2 + j * 10) (sgC t vt).toList) := fun kk => ⟨fun j1 u hu => (kk.cell (p := ⟨b1, o1 + j * 10 + j1, none⟩) hbl1 id).trans (r1 j1 u hu), fun j1 u hu => (kk.cell (p := ⟨b2, o2 + j * 10 + j1, none⟩) hbl2 id).trans (r2 j1 u hu)⟩
          have R4 : Hid (∀ {w' : World}, Kept (fun _ => False) wr w' → w'.cell? ⟨gA, 4, none⟩ = some (.slice (some ⟨b1, o1, none⟩) ssA.length cA) ∧ w'.cell? ⟨gB, 4, none⟩ = some (.slice (some ⟨b2, o2, none⟩) ssB.length cB)) := fun kk => ⟨row_cell ((KR.out.trans kk).row YA.out) (k := 4) rfl, row_cell ((KR.out.trans kk).row Y5.out) (k := 4) rfl⟩
          clear r1 r2 hs1 hs2 K hbl1 hbl2
          have hd : Kept (fun _ => False) wr wr.drew := (Kept.refl _ _).drew
          generalize hsm : sameB s t = sm at HSM HCN
          generalize cntTo bA bB j = cn at hcl HCN ⊢
          go_upto_region 21 with (fail)
          refine wp_region_held_drew (S := fun w' => Kept (fun _ => False) wr w') (by kernel_rfl) hd (fun hHeld => ?_)
          refine wpAnyH_take (i := 0) (oi := ⟨some 86, _, _, _, _, _⟩) (v := .pointer (some ⟨gA, 4, none⟩)) rfl (by kernel_rfl) (by kernel_rfl) (by kernel_rfl) (fun _ _ _ h => h) (Or.inl ⟨by kernel_rfl, fun w' hS => by go_simp⟩) (by assumption) ?_
          try simp only [Act.put, List.setIfInBounds_toArray, List.set_cons_succ, List.set_cons_zero]
          refine wpAnyH_take (i := 1) (oi := ⟨some 87, _, _, _, _, _⟩) (v := .slice (some ⟨b1, o1, none⟩) ssA.length cA) rfl (by kernel_rfl) (by kernel_rfl) (by kernel_rfl) (fun _ _ _ h => h) (Or.inl ⟨by kernel_rfl, fun w' hS => by have hc := (R4.out hS).1; go_simp⟩) (by assumption) ?_
          try simp only [Act.put, List.setIfInBounds_toArray, List.set_cons_succ, List.set_cons_zero]
          refine wpAnyH_take (i := 2) (oi := ⟨some 88, _, _, _, _, _⟩) (v := .int .i64 j) rfl (by kernel_rfl) (by kernel_rfl) (by kernel_rfl) (fun _ _ _ h => h) (Or.inl ⟨by kernel_rfl, fun w' hS => by go_simp⟩) (by assumption) ?_
          try simp only [Act.put, List.setIfInBounds_toArray, List.set_cons_succ, List.set_cons_zero]
          refine wpAnyH_take (i := 3) (oi := ⟨some 89, _, _, _, _, _⟩) (v := .pointer (some ⟨b1, o1 + j * 10, none⟩)) rfl (by kernel_rfl) (by kernel_rfl) (by kernel_rfl) (fun _ _ _ h => h) (Or.inl ⟨by kernel_rfl, fun w' hS => by go_simp⟩) (by assumption) ?_
          try simp only [Act.put, List.setIfInBounds_toArray, List.set_cons_succ, List.set_cons_zero]
          refine wpAnyH_take (i := 4) (oi := ⟨some 90, _, _, _, _, _⟩) (v := .agg (sgC s vs)) rfl (by kernel_rfl) (by kernel_rfl) (by kernel_rfl) (fun _ _ _ h => h) (yields27o (g := b1) (o := o1 + j * 10) (by kernel_rfl) rfl (fun w' hS => (R1.out hS).1) (sgC_size _ _)) (by assumption) ?_
          try simp only [Act.put, List.setIfInBounds_toArray, List.set_cons_succ, List.set_cons_zero]
          refine wpAnyH_take (i := 5) (oi := ⟨some 91, _, _, _, _, _⟩) (v := .pointer (some ⟨gB, 4, none⟩)) rfl (by kernel_rfl) (by kernel_rfl) (by kernel_rfl) (fun _ _ _ h => h) (Or.inl ⟨by kernel_rfl, fun w' hS => by go_simp⟩) (by assumption) ?_
          try simp only [Act.put, List.setIfInBounds_toArray, List.set_cons_succ, List.set_cons_zero]
          refine wpAnyH_take (i := 6) (oi := ⟨some 92, _, _, _, _, _⟩) (v := .slice (some ⟨b2, o2, none⟩) ssB.length cB) rfl (by kernel_rfl) (by kernel_rfl) (by kernel_rfl) (fun _ _ _ h => h) (Or.inl ⟨by kernel_rfl, fun w' hS => by have hc := (R4.out hS).2; go_simp⟩) (by assumption) ?_
          try simp only [Act.put, List.setIfInBounds_toArray, List.set_cons_succ, List.set_cons_zero]
          refine wpAnyH_take (i := 7) (oi := ⟨some 93, _, _, _, _, _⟩) (v := .int .i64 j) rfl (by kernel_rfl) (by kernel_rfl) (by kernel_rfl) (fun _ _ _ h => h) (Or.inl ⟨by kernel_rfl, fun w' hS => by go_simp⟩) (by assumption) ?_
          try simp only [Act.put, List.setIfInBounds_toArray, List.set_cons_succ, List.set_cons_zero]
          refine wpAnyH_take (i := 8) (oi := ⟨some 94, _, _, _, _, _⟩) (v := .pointer (some ⟨b2, o2 + j * 10, none⟩)) rfl (by kernel_rfl) (by kernel_rfl) (by kernel_rfl) (fun _ _ _ h => h) (Or.inl ⟨by kernel_rfl, fun w' hS => by go_simp⟩) (by assumption) ?_
          try simp only [Act.put, List.setIfInBounds_toArray, List.set_cons_succ, List.set_cons_zero]
          refine wpAnyH_take (i := 9) (oi := ⟨some 95, _, _, _, _, _⟩) (v := .agg (sgC t vt)) rfl (by kernel_rfl) (by kernel_rfl) (by kernel_rfl) (fun _ _ _ h => h) (yields27o (g := b2) (o := o2 + j * 10) (by kernel_rfl) rfl (fun w' hS => (R1.out hS).2) (sgC_size _ _)) (by assumption) ?_
          try simp only [Act.put, List.setIfInBounds_toArray, List.set_cons_succ, List.set_cons_zero]
          refine wpAnyH_ready (rs := [10]) (by kernel_rfl) (by simp) ?_
          refine AllReadyH.cons (o := _) rfl (fun K hK => ?_) AllReadyH.nil
          go_simp
          refine (HSM.out _ hd).mono ?_
          rintro e wx1 ⟨rfl, kx1⟩
          go_wp2_with fail
          have hS1 := hd.trans kx1
          refine hK.out _ _ hS1 (fun hHeld => ?_)
          clear hK K
          try simp only [Act.put, List.setIfInBounds_toArray, List.set_cons_succ, List.set_cons_zero]
          refine wpAnyH_take (i := 11) (oi := ⟨some 97, _, _, _, _, _⟩) (v := .bool (!sm)) rfl (by kernel_rfl) (by kernel_rfl) (by kernel_rfl) (fun _ _ _ h => h) (Or.inl ⟨by kernel_rfl, fun w' hS => by go_simp⟩) (by assumption) ?_
          try simp only [Act.put, List.setIfInBounds_toArray, List.set_cons_succ, List.set_cons_zero]
          refine wpAnyH_done (by kernel_rfl) ?_ _
          have KF := Lib.hid (KR.out.trans hS1)
          clear kx1 hS1 hd HSM a4 b4
          cases sm with
          | true =>
            have E : Hid (cntTo bA bB (j + 1) = cn) := HCN.out
            go_wp2_with fail
            go_roundw
            case rel => exact ⟨j + 1, by omega, by go_num, by rw [E.out, Int.natCast_add], KF.out⟩
            case measure => simp [intOf]; omega
          | false =>
            have E : Hid (cntTo bA bB (j + 1) = cn + 1) := HCN.out
            go_wp2_with fail
            go_roundw
            case rel => exact ⟨j + 1, by omega, by go_num, by rw [E.out]; go_num, KF.out⟩
            case measure => simp [intOf]; omega
        · obtain rfl : j = ssA.length := by omega
          have hfin : (((d + cntTo bA bB ssA.length : Nat) : Int) + (eps bB - eps bA)) = 1 := by
            have h1 := HSUM.out
            have h2 := HSUB.out
            push_cast
            omega
          have HFIN := Lib.hid hfin
          generalize d + cntTo bA bB ssA.length = T at hfin HFIN ⊢
          have hT : T ≤ 24 + T := by omega
          have KW := Lib.hid (K5.out.trans K)
          have ZA := Lib.hid (K.row YA.out)
          have ZB := Lib.hid (K.row Y5.out)
          have hTb : -3300 ≤ (T : Int) ∧ (T : Int) ≤ 3300 := by
            have h1 := epTo_le HGA.out 4
            have h2 := epTo_le HGB.out 4
            rw [epTo_four] at h1 h2
            omega
          clear K hfin hT
          generalize wr = wo at *
          go_wp2_with fail
          clear a4 b4
          go_loopw [14, 16] (fun tu i wr2 => ∃ j : Nat, j ≤ 4 ∧ i = .int .i64 j ∧ tu = .int .i64 ((T : Int) + (epTo bB j - epTo bA j)) ∧ Kept (fun _ => False) wo wr2) (fun _ i _ => 4 - (intOf i).toNat)
          case atStart => exact ⟨0, Nat.zero_le _, rfl, by simp [epTo], Kept.refl _ _⟩
          case round =>
            obtain ⟨j, hj, rfl, rfl, K⟩ := hrel
            have KR2 := Lib.hid K
            by_cases hlt : j < 4
            · have hjs : j = 0 ∨ j = 1 ∨ j = 2 ∨ j = 3 := by omega
              have cA0 : Hid (∀ {w' : World}, Kept (fun _ => False) wr w' → w'.cell? ⟨gA, j, none⟩ = some (.int .i64 (bA.ep j))) := fun kk => row_cell ((KR2.out.trans kk).row ZA.out) (by rcases hjs with rfl | rfl | rfl | rfl <;> rfl)
              have cB0 : Hid (∀ {w' : World}, Kept (fun _ => False) wr w' → w'.cell? ⟨gB, j, none⟩ = some (.int .i64 (bB.ep j))) := fun kk => row_cell ((KR2.out.trans kk).row ZB.out) (by rcases hjs with rfl | rfl | rfl | rfl <;> rfl)
              have p1 := epTo_le HGA.out j
              have p2 := epTo_le HGB.out j
              have p3 := HGA.out.ep j
              have p4 := HGB.out.ep j
              have HXE : Hid (((T : Int) + (epTo bB (j + 1) - epTo bA (j + 1))) = ((T : Int) + (epTo bB j - epTo bA j)) + bB.ep j - bA.ep j) := by
                show _ = _
                simp only [epTo]; omega
              have hX : -10000 ≤ ((T : Int) + (epTo bB j - epTo bA j)) ∧ ((T : Int) + (epTo bB j - epTo bA j)) ≤ 10000 := by omega
              generalize ((T : Int) + (epTo bB j - epTo bA j)) = X at HXE hX ⊢
              generalize bA.ep j = E at cA0 p3 HXE
              generalize bB.ep j = F at cB0 p4 HXE
              have hw1 : IntKind.i64.wrap (X + F) = X + F := by rw [IntKind.wrap_i64]; omega
              have hw2 : IntKind.i64.wrap (X + F - E) = X + F - E := by rw [IntKind.wrap_i64]; omega
              have hd : Kept (fun _ => False) wr wr.drew := (Kept.refl _ _).drew
              clear p1 p2 hjs K
              go_upto_region 26 with (fail)
              refine wp_region_held_drew (S := fun w' => Kept (fun _ => False) wr w') (by kernel_rfl) hd (fun hHeld => ?_)
              refine wpAnyH_take (i := 0) (oi := ⟨some 104, _, _, _, _, _⟩) (v := .int .i64 X) rfl (by kernel_rfl) (by kernel_rfl) (by kernel_rfl) (fun _ _ _ h => h) (Or.inl ⟨by kernel_rfl, fun w' hS => by go_simp⟩) (by assumption) ?_
              try simp only [Act.put, List.setIfInBounds_toArray, List.set_cons_succ, List.set_cons_zero]
              refine wpAnyH_take (i := 1) (oi := ⟨some 105, _, _, _, _, _⟩) (v := .int .i64 j) rfl (by kernel_rfl) (by kernel_rfl) (by kernel_rfl) (fun _ _ _ h => h) (Or.inl ⟨by kernel_rfl, fun w' hS => by go_simp⟩) (by assumption) ?_
              try simp only [Act.put, List.setIfInBounds_toArray, List.set_cons_succ, List.set_cons_zero]
              refine wpAnyH_take (i := 2) (oi := ⟨some 106, _, _, _, _, _⟩) (v := .pointer (some ⟨gB, 0, none⟩)) rfl (by kernel_rfl) (by kernel_rfl) (by kernel_rfl) (fun _ _ _ h => h) (Or.inl ⟨by kernel_rfl, fun w' hS => by go_simp⟩) (by assumption) ?_
              try simp only [Act.put, List.setIfInBounds_toArray, List.set_cons_succ, List.set_cons_zero]
              refine wpAnyH_take (i := 3) (oi := ⟨some 107, _, _, _, _, _⟩) (v := .pointer (some ⟨gB, j, none⟩)) rfl (by kernel_rfl) (by kernel_rfl) (by kernel_rfl) (fun _ _ _ h => h) (Or.inl ⟨by kernel_rfl, fun w' hS => by go_simp⟩) (by assumption) ?_
              try simp only [Act.put, List.setIfInBounds_toArray, List.set_cons_succ, List.set_cons_zero]
              refine wpAnyH_take (i := 4) (oi := ⟨some 108, _, _, _, _, _⟩) (v := .int .i64 F) rfl (by kernel_rfl) (by kernel_rfl) (by kernel_rfl) (fun _ _ _ h => h) (Or.inl ⟨by kernel_rfl, fun w' hS => by have hc := cB0.out hS; go_simp⟩) (by assumption) ?_
              try simp only [Act.put, List.setIfInBounds_toArray, List.set_cons_succ, List.set_cons_zero]
              refine wpAnyH_take (i := 5) (oi := ⟨some 109, _, _, _, _, _⟩) (v := .int .i64 (X + F)) rfl (by kernel_rfl) (by kernel_rfl) (by kernel_rfl) (fun _ _ _ h => h) (Or.inl ⟨by kernel_rfl, fun w' hS => by go_simp⟩) (by assumption) ?_
              try simp only [Act.put, List.setIfInBounds_toArray, List.set_cons_succ, List.set_cons_zero]
              refine wpAnyH_take (i := 6) (oi := ⟨some 110, _, _, _, _, _⟩) (v := .int .i64 j) rfl (by kernel_rfl) (by kernel_rfl) (by kernel_rfl) (fun _ _ _ h => h) (Or.inl ⟨by kernel_rfl, fun w' hS => by go_simp⟩) (by assumption) ?_
              try simp only [Act.put, List.setIfInBounds_toArray, List.set_cons_succ, List.set_cons_zero]
              refine wpAnyH_take (i := 7) (oi := ⟨some 111, _, _, _, _, _⟩) (v := .pointer (some ⟨gA, 0, none⟩)) rfl (by kernel_rfl) (by kernel_rfl) (by kernel_rfl) (fun _ _ _ h => h) (Or.inl ⟨by kernel_rfl, fun w' hS => by go_simp⟩) (by assumption) ?_
              try simp only [Act.put, List.setIfInBounds_toArray, List.set_cons_succ, List.set_cons_zero]
              refine wpAnyH_take (i := 8) (oi := ⟨some 112, _, _, _, _, _⟩) (v := .pointer (some ⟨gA, j, none⟩)) rfl (by kernel_rfl) (by kernel_rfl) (by kernel_rfl) (fun _ _ _ h => h) (Or.inl ⟨by kernel_rfl, fun w' hS => by go_simp⟩) (by assumption) ?_
              try simp only [Act.put, List.setIfInBounds_toArray, List.set_cons_succ, List.set_cons_zero]
              refine wpAnyH_take (i := 9) (oi := ⟨some 113, _, _, _, _, _⟩) (v := .int .i64 E) rfl (by kernel_rfl) (by kernel_rfl) (by kernel_rfl) (fun _ _ _ h => h) (Or.inl ⟨by kernel_rfl, fun w' hS => by have hc := cA0.out hS; go_simp⟩) (by assumption) ?_
              try simp only [Act.put, List.setIfInBounds_toArray, List.set_cons_succ, List.set_cons_zero]
              refine wpAnyH_take (i := 10) (oi := ⟨some 114, _, _, _, _, _⟩) (v := .int .i64 (X + F - E)) rfl (by kernel_rfl) (by kernel_rfl) (by kernel_rfl) (fun _ _ _ h => h) (Or.inl ⟨by kernel_rfl, fun w' hS => by go_simp⟩) (by assumption) ?_
              try simp only [Act.put, List.setIfInBounds_toArray, List.set_cons_succ, List.set_cons_zero]
              refine wpAnyH_take (i := 11) (oi := ⟨some 14, _, _, _, _, _⟩) (v := .int .i64 (X + F - E)) rfl (by kernel_rfl) (by kernel_rfl) (by kernel_rfl) (fun _ _ _ h => h) (Or.inl ⟨by kernel_rfl, fun w' hS => by go_simp⟩) (by assumption) ?_
              try simp only [Act.put, List.setIfInBounds_toArray, List.set_cons_succ, List.set_cons_zero]
              refine wpAnyH_done (by kernel_rfl) ?_ _
              have KF := Lib.hid (KR2.out.trans hd)
              go_wp2_with fail
              go_roundw
              case rel => exact ⟨j + 1, by omega, by go_num, by rw [HXE.out], KF.out⟩
              case measure => simp [intOf]; omega
            · obtain rfl : j = 4 := by omega
              have hfin : ((T : Int) + (epTo bB 4 - epTo bA 4)) = 1 := by rw [epTo_four, epTo_four]; exact HFIN.out
              rw [hfin]
              have KF := Lib.hid (KW.out.trans K)
              clear hfin
              go_wp2_with fail
              go_ret
              exact ⟨rfl, KF.out.below (Nat.le_refl _) (fun k h => h.elim)⟩
set_option maxRecDepth 100000 in
theorem lifted (os : Os) (started : os.Started) (H : Type) (enc : TypeId × Value → H) :
    ReturnsInHanded {} Try.checked os 10 .any (Rows.bookFewerSpec.pre6 enc Try.prog Try.f10 Rows.bookFewerRow.domain false) (Rows.bookFewerSpec.post enc Try.prog Try.f10 false true false false) := by
  refine returnsInHanded_of_change (C := Try.checked) own started (by kernel_rfl) Try.func10
    (ChangeSpec.witness6 (enc := enc) (C := Try.checked) false ⟨#[], #[.slice none 0 0, .int .i64 0, .int .u8 0], []⟩ 8 (by kernel_rfl) (by kernel_rfl) (by kernel_rfl) (by kernel_rfl)) ?_
  intro W base args ds gs before hval0 hW hcnd _
  have hval : ∀ (j : Nat) t v, Try.f10.params[j]? = some t → args[j]? = some v → Value.okWide Try.prog W .any base t v := hval0
  have hW' := hW
  obtain ⟨p, q, hA0, hV, rfl, hfz, hnd⟩ := hW
  have hA : DataW.TrodAll enc Try.prog W 0 (fun _ => true) true Try.f10.params.toList args.toList ds p := hA0
  rw [Try.params10] at hA hval
  obtain ⟨v0, vs0, d0, ds0, p0, q0, hargs, rfl, rfl, h0, r0⟩ := trodAll_cons hA
  obtain ⟨v1, vs1, d1, ds1, p1, q1, rfl, rfl, rfl, h1, r1⟩ := trodAll_cons r0
  obtain ⟨v2, vs2, d2, ds2, p2, q2, rfl, rfl, rfl, h2, r2⟩ := trodAll_cons r1
  obtain ⟨rfl, rfl, rfl⟩ := trodAll_nil r2
  obtain rfl : args = #[v0, v1, v2] := by cases args; simp_all
  obtain ⟨rfl, rfl⟩ := trodVars_none hV
  have k0 := h0
  have lt0 : ∀ x ∈ p0, x.block < W.heap.size := by obtain ⟨m, hm⟩ := k0; exact DataW.trod_lt m _ _ _ hm
  have w0 := IsRecsC.of (hval 0 49 v0 rfl rfl) h0
  obtain ⟨a1, rfl, rfl, rfl, w1⟩ := open_int Try.underlying3 (hval 1 3 v1 rfl rfl) h1
  obtain ⟨a2, rfl, rfl, rfl, w2⟩ := open_int Try.underlying5 (hval 2 5 v2 rfl rfl) h2
  clear hA0 hval0
  refine (walk W v0 w0 a1 w1 a2 w2).mono fun e W' ⟨he, bel⟩ => ?_
  subst he
  exact ⟨_, rfl, _, _, _, [], _, [], hW', trodAll_mk1 (shut_bool Try.underlying4 _), (trodAll_cons_mk (Below.trod laidOut (by kernel_rfl) (of_decide_eq_true (by kernel_rfl)) k0 bel lt0) (trodAll_cons_mk (shut_int Try.underlying3 w1) (trodAll_cons_mk (shut_int Try.underlying5 w2) trodAll_mk0))), rfl, bel.frame _, fun h => by cases h⟩

theorem over : Rows.bookFewerRow.holds Try.pinned (OpenSpec.ofChange Rows.bookFewerSpec) :=
  OpenClaim.holds_of_wide 10 Try.f10 rfl rfl rfl rfl rfl rfl rfl ⟨rfl, rfl, rfl, rfl, rfl⟩ rfl rfl rfl rfl rfl (by kernel_rfl) Try.func10 (by kernel_rfl)
    (of_decide_eq_true (by kernel_rfl)) (by unfold Func.isWrapper; first | (rw [if_pos (by decide +kernel)]; kernel_rfl) | (rw [if_neg (by decide +kernel)]; exact ⟨rfl, rfl⟩))
    (fun os started H enc _ => lifted os started H enc)

theorem proved : Rows.BookFewerSaid := over
#print axioms proved
end Go.Proofs.Ytklmhegmombegaa.bookFewer
