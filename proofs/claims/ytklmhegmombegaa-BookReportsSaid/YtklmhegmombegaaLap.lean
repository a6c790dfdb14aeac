/-
  The contract of lapsed. Conditions: as the theorem says.
-/
import Derived.Test.YtklmhegmombegaaAns
import Derived.RegionTactic
set_option linter.unusedVariables false
set_option linter.unusedSimpArgs false
namespace Go.Proofs.Ytklmhegmombegaa
open Go Go.RowKit Plain

set_option maxHeartbeats 1000000 in
theorem f_lapsed (s : Sg) (v : Value) (lim : Nat) (w : World) (ok : Okay s) (hs : Stp w v s.steps) (hk : 0 ≤ stepOf s) (_h9 : lim ≤ 9) :
    Calls Try.prog 49 #[.agg (sgC s v), .int .i64 lim] w (SgPost (lapsed s lim) v w) := by
  have h0 := heap_alloc2_old w (.cells (sgC s v) 27) (.cells Z27 27)
  have h2 := heap_alloc2_new w (.cells (sgC s v) 27) (.cells Z27 27)
  have K3 := ((Kept.refl (fun _ => False) w).alloc (.cells (sgC s v) 27)).alloc (.cells Z27 27)
  have HF := Lib.hid (f_step s v _ ok (hs.kept K3))
  have HS := Lib.hid (hs.kept K3)
  have HH : Hid (∀ {w1 : World}, Kept (fun _ => False) ((w.alloc (.cells (sgC s v) 27)).alloc (.cells Z27 27)) w1 → w1.heap[w.heap.size]? = some (.cells (sgC s v) 27 (0, 0)) ∧ w1.heap[w.heap.size + 1]? = some (.cells Z27 27 (0, 0))) :=
    fun k => ⟨(k.block _ (by simp; omega) id).trans h0, (k.block _ (by simp) id).trans h2⟩
  clear h0 h2
  have HL := Lib.hid hs.lt
  obtain ⟨a, c, rfl⟩ := hs.form
  clear hs
  obtain ⟨st, ph, po, tr, wt, bk, dn, un, my, sq⟩ := s
  have hlen : st.length ≤ 6 := ok.len
  have htr : tr ≤ 1000 := ok.tries
  have hlt := (lastOf_lt (opn ⟨st, ph, po, tr, wt, bk, dn, un, my, sq⟩) st.length).2
  have hk2 : stepOf ⟨st, ph, po, tr, wt, bk, dn, un, my, sq⟩ < st.length := by
    unfold stepOf target at *
    dsimp only at *
    split
    · exact hlt
    · split <;> omega
  have hstep : Hid (∃ k : Nat, stepOf ⟨st, ph, po, tr, wt, bk, dn, un, my, sq⟩ = k ∧ k < st.length) := ⟨(stepOf ⟨st, ph, po, tr, wt, bk, dn, un, my, sq⟩).toNat, by omega, by omega⟩
  obtain ⟨k, hkk, hkl⟩ := hstep.out
  have OK := Lib.hid ok
  have HK := Lib.hid hkk
  unfold sgC Z27 at *
  dsimp only at *
  rw [hkk] at HF
  clear hlt hk2 hk ok hkk hstep
  go_enter Try.func49, Try.ntmps49
  go_wp2_with fail
  refine HF.out.mono ?_
  rintro e w1 ⟨rfl, k1⟩
  obtain ⟨g0, g2⟩ := HH.out k1
  obtain ⟨b0, b1, b2, b3, b4, b5, b6, b7, b8, b9⟩ := cells10 g0
  have G0 := Lib.hid g0
  have G2 := Lib.hid g2
  clear g0 g2
  have f4 := frozen10 G0.out 4
  have f5 := frozen10 G0.out 5
  have f8 := frozen10 G0.out 8
  have hKB : Kept (fun k => k = w.heap.size) w1 w1 := Kept.refl _ _
  have hw1 : w.heap.size + 1 < w1.heap.size := (Array.getElem?_eq_some_iff.1 G2.out).1
  have KW : Hid (Kept (fun _ => False) w w1) := K3.trans k1
  have HR : Hid (∀ {w2 : World} (X : Array Value), Kept (fun k => k = w.heap.size) w1 w2 → (w2.heap[w.heap.size + 1]? = some (.cells Z27 27 (0, 0))) ∧ Kept (fun _ => False) w (w2.setRow (w.heap.size + 1) X)) := fun X k2 => by
    refine ⟨(k2.block _ hw1 (by show ¬ _ = _; omega)).trans G2.out, ?_⟩
    exact (KW.out.trans' (k2.mono (T := fun k => w.heap.size ≤ k) (fun i _ h => Nat.le_of_eq h.symm)) (fun i hi h => by omega)).setRow (by omega) X
  cases bk with
  | true =>
    have E : Hid (lapsed ⟨st, ph, po, tr, wt, true, dn, un, my, sq⟩ lim = ⟨st, ph, po, tr, false, false, dn, un, my, sq⟩) := by
      show lapsed _ _ = _
      rw [lapsed, if_pos rfl]
    have hk2 := Lib.hid (HR.out #[.slice a st.length c, .int .i64 ph, .int .i64 po, .int .i64 tr, .bool false, .bool false, .int .i64 dn, .int .i64 un, .int .i64 my, .int .i64 sq] ((hKB.setCell (p := ⟨w.heap.size, 4, none⟩) (.inl rfl) (.bool false)).setCell (p := ⟨w.heap.size, 5, none⟩) (.inl rfl) (.bool false)))
    go_wp2_with (first | fail | ((with_reducible refine store27 (C := #[.slice a st.length c, .int .i64 ph, .int .i64 po, .int .i64 tr, .bool false, .bool false, .int .i64 dn, .int .i64 un, .int .i64 my, .int .i64 sq]) ?_ ?_ hk2.out.1 hz27 (ten _ _ _ _ _ _ _ _ _ _) (one10 _ _ _ _ _ _ _ _ _ _ _ _) ?_); rfl; rfl))
    exact bodyPost_ret (results_sg rfl _ _ _ (setRow_heap _ _ _ _ _ _ hk2.out.1) rfl rfl) rfl (SgPost.mk E.out rfl hk2.out.2)
  | false =>
    have hB6 := pow_lt (k := k) (by omega)
    have hM : my < 64 := OK.out.may
    have e1 := b_or hM hB6
    have ep := pow_wrap (k := k) (by omega)
    have EP := Lib.hid ep
    have E1 := Lib.hid e1
    clear ep e1
    obtain ⟨b, o, c', ev, c1, _, hbl⟩ := (HS.out.kept k1).kind hkl
    simp only [Value.slice.injEq, true_and] at ev
    obtain ⟨rfl, rfl⟩ := ev
    go_wp2_with fail
    go_region
    rw [EP.out, E1.out]
    have HBk : Hid (∃ B, 2 ^ k = B) := ⟨_, rfl⟩
    obtain ⟨B, hB⟩ := HBk.out
    rw [hB] at hB6 ⊢
    have HB := Lib.hid hB
    clear hB EP E1 HBk
    have g8 := setCell_block (k := 8) G0.out (.int .i64 (my ||| B : Nat))
    simp only [List.setIfInBounds_toArray, List.set_cons_succ, List.set_cons_zero] at g8
    have g8' : (w1.setCell ⟨w.heap.size, 8, none⟩ (.int .i64 (my ||| B : Nat))).drew.heap[w.heap.size]? = _ := g8
    have kf := (hKB.setCell (p := ⟨w.heap.size, 8, none⟩) (.inl rfl) (.int .i64 (my ||| B : Nat))).drew
    have c1' : (w1.setCell ⟨w.heap.size, 8, none⟩ (.int .i64 (my ||| B : Nat))).drew.cell? ⟨b, o + k * 2 + 1, none⟩ = some (.int .i64 (kindAt st k)) := by
      have hb0 : b < w.heap.size := HL.out b rfl
      exact (kf.cell (p := ⟨b, o + k * 2 + 1, none⟩) hbl (by show ¬ b = _; omega)).trans c1
    clear b0 b1 b2 b3 b4 b5 b6 b7 b8 b9 f4 f5 f8 c1 g8
    generalize (w1.setCell ⟨w.heap.size, 8, none⟩ (.int .i64 (my ||| B : Nat))).drew = w2 at g8' kf c1' ⊢
    obtain ⟨b0, b1, b2, b3, b4, b5, b6, b7, b8, b9⟩ := cells10 g8'
    have f4 := frozen10 g8' 4
    have f5 := frozen10 g8' 5
    have G8 := Lib.hid g8'
    have hB0 := (Array.getElem?_eq_some_iff.1 g8').1
    clear g8'
    by_cases h3 : kindAt st k = 1
    · by_cases h4 : tr = lim
      · have E : Hid (lapsed ⟨st, ph, po, tr, wt, false, dn, un, my, sq⟩ lim = ⟨st, 1, po, 0, false, false, dn, un, my ||| B, sq⟩) := by
          show lapsed _ _ = _
          rw [lapsed, if_neg (by exact Bool.false_ne_true), HK.out, Int.toNat_natCast, if_pos ⟨h3, h4⟩, bitOf, HK.out, Int.toNat_natCast, HB.out]
        have t1 : ((tr : Int) == lim) = true := by rw [beq_iff_eq]; omega
        rw [h3] at c1'
        clear h3 h4
        go_wp2_with fail
        refine (f_turn ⟨st, ph, po, tr, wt, false, dn, un, my ||| B, sq⟩ _ _ _ _).mono ?_
        rintro e w3 ⟨rfl, k3⟩
        have g9 := (k3.block _ hB0 id).trans G8.out
        have g10 := setRow_heap _ _ _ #[.slice (some ⟨b, o, none⟩) st.length c, .int .i64 1, .int .i64 po, .int .i64 0, .bool wt, .bool false, .int .i64 dn, .int .i64 un, .int .i64 (my ||| B : Nat), .int .i64 sq] _ _ g9
        have kf := (kf.trans (k3.mono fun _ _ h => h.elim)).setRow' (g := w.heap.size) rfl #[.slice (some ⟨b, o, none⟩) st.length c, .int .i64 1, .int .i64 po, .int .i64 0, .bool wt, .bool false, .int .i64 dn, .int .i64 un, .int .i64 (my ||| B : Nat), .int .i64 sq]
        have hk2 := Lib.hid (HR.out #[.slice (some ⟨b, o, none⟩) st.length c, .int .i64 1, .int .i64 po, .int .i64 0, .bool false, .bool false, .int .i64 dn, .int .i64 un, .int .i64 (my ||| B : Nat), .int .i64 sq] ((kf.setCell (p := ⟨w.heap.size, 4, none⟩) (.inl rfl) (.bool false)).setCell (p := ⟨w.heap.size, 5, none⟩) (.inl rfl) (.bool false)))
        have G9 := Lib.hid g9
        clear b0 b1 b2 b3 b4 b5 b6 b7 b8 b9 f4 f5 kf g9 hB0 k3 c1'
        obtain ⟨b0, b1, b2, b3, b4, b5, b6, b7, b8, b9⟩ := cells10 g10
        have f4 := frozen10 g10 4
        have f5 := frozen10 g10 5
        clear g10
        unfold sgC turnS
        dsimp only
        go_wp2_with (first | fail | ((with_reducible refine store27 (C := #[.slice (some ⟨b, o, none⟩) st.length c, .int .i64 1, .int .i64 po, .int .i64 0, .bool wt, .bool false, .int .i64 dn, .int .i64 un, .int .i64 (my ||| B : Nat), .int .i64 sq]) ?_ ?_ G9.out (ten _ _ _ _ _ _ _ _ _ _) (ten _ _ _ _ _ _ _ _ _ _) (one10 _ _ _ _ _ _ _ _ _ _ _ _) ?_); rfl; rfl) | ((with_reducible refine store27 (C := #[.slice (some ⟨b, o, none⟩) st.length c, .int .i64 1, .int .i64 po, .int .i64 0, .bool false, .bool false, .int .i64 dn, .int .i64 un, .int .i64 (my ||| B : Nat), .int .i64 sq]) ?_ ?_ hk2.out.1 hz27 (ten _ _ _ _ _ _ _ _ _ _) (one10 _ _ _ _ _ _ _ _ _ _ _ _) ?_); rfl; rfl))
        exact bodyPost_ret (results_sg rfl _ _ _ (setRow_heap _ _ _ _ _ _ hk2.out.1) rfl rfl) rfl (SgPost.mk E.out rfl hk2.out.2)
      · have E : Hid (lapsed ⟨st, ph, po, tr, wt, false, dn, un, my, sq⟩ lim = ⟨st, ph, po, tr, false, false, dn, un, my ||| B, sq⟩) := by
          show lapsed _ _ = _
          rw [lapsed, if_neg (by exact Bool.false_ne_true), HK.out, Int.toNat_natCast, if_neg (by rintro ⟨_, h⟩; exact h4 h), bitOf, HK.out, Int.toNat_natCast, HB.out]
        have t1 : ((tr : Int) == lim) = false := by rw [beq_eq_false_iff_ne]; omega
        have hk2 := Lib.hid (HR.out #[.slice (some ⟨b, o, none⟩) st.length c, .int .i64 ph, .int .i64 po, .int .i64 tr, .bool false, .bool false, .int .i64 dn, .int .i64 un, .int .i64 (my ||| B : Nat), .int .i64 sq] ((kf.setCell (p := ⟨w.heap.size, 4, none⟩) (.inl rfl) (.bool false)).setCell (p := ⟨w.heap.size, 5, none⟩) (.inl rfl) (.bool false)))
        rw [h3] at c1'
        clear h3 h4 kf
        go_wp2_with (first | fail | ((with_reducible refine store27 (C := #[.slice (some ⟨b, o, none⟩) st.length c, .int .i64 ph, .int .i64 po, .int .i64 tr, .bool false, .bool false, .int .i64 dn, .int .i64 un, .int .i64 (my ||| B : Nat), .int .i64 sq]) ?_ ?_ hk2.out.1 hz27 (ten _ _ _ _ _ _ _ _ _ _) (one10 _ _ _ _ _ _ _ _ _ _ _ _) ?_); rfl; rfl))
        exact bodyPost_ret (results_sg rfl _ _ _ (setRow_heap _ _ _ _ _ _ hk2.out.1) rfl rfl) rfl (SgPost.mk E.out rfl hk2.out.2)
    · have E : Hid (lapsed ⟨st, ph, po, tr, wt, false, dn, un, my, sq⟩ lim = ⟨st, ph, po, tr, false, false, dn, un, my ||| B, sq⟩) := by
        show lapsed _ _ = _
        rw [lapsed, if_neg (by exact Bool.false_ne_true), HK.out, Int.toNat_natCast, if_neg (by rintro ⟨h, _⟩; exact h3 h), bitOf, HK.out, Int.toNat_natCast, HB.out]
      have hk2 := Lib.hid (HR.out #[.slice (some ⟨b, o, none⟩) st.length c, .int .i64 ph, .int .i64 po, .int .i64 tr, .bool false, .bool false, .int .i64 dn, .int .i64 un, .int .i64 (my ||| B : Nat), .int .i64 sq] ((kf.setCell (p := ⟨w.heap.size, 4, none⟩) (.inl rfl) (.bool false)).setCell (p := ⟨w.heap.size, 5, none⟩) (.inl rfl) (.bool false)))
      have t1 : (kindAt st k == 1) = false := by rw [beq_eq_false_iff_ne]; exact h3
      clear h3 kf
      go_wp2_with (first | fail | ((with_reducible refine store27 (C := #[.slice (some ⟨b, o, none⟩) st.length c, .int .i64 ph, .int .i64 po, .int .i64 tr, .bool false, .bool false, .int .i64 dn, .int .i64 un, .int .i64 (my ||| B : Nat), .int .i64 sq]) ?_ ?_ hk2.out.1 hz27 (ten _ _ _ _ _ _ _ _ _ _) (one10 _ _ _ _ _ _ _ _ _ _ _ _) ?_); rfl; rfl))
      exact bodyPost_ret (results_sg rfl _ _ _ (setRow_heap _ _ _ _ _ _ hk2.out.1) rfl rfl) rfl (SgPost.mk E.out rfl hk2.out.2)
end Go.Proofs.Ytklmhegmombegaa
