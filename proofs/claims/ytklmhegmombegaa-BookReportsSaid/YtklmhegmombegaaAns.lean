/-
  Contracts of answered and lapsed. Conditions: as each theorem says.
-/
import Derived.Test.YtklmhegmombegaaSmall
import Derived.Deep.DeepCutAuto
import Derived.Deep.CutBlock
set_option linter.unusedVariables false
set_option linter.unusedSimpArgs false
namespace Go.Proofs.Ytklmhegmombegaa
open Go Go.RowKit Plain

/-- The zero value of a saga. -/
def Z27 : Array Value := #[.slice none 0 0, .int .i64 0, .int .i64 0, .int .i64 0, .bool false, .bool false, .int .i64 0, .int .i64 0, .int .i64 0, .int .i64 0]
theorem heap_alloc3 (w : World) (o p q : Obj) : (((w.alloc o).alloc p).alloc q).heap[w.heap.size]? = some o ∧ (((w.alloc o).alloc p).alloc q).heap[w.heap.size + 1]? = some p ∧ (((w.alloc o).alloc p).alloc q).heap[w.heap.size + 1 + 1]? = some q := by
  refine ⟨?_, ?_, ?_⟩
  · rw [Below.heap_alloc _ _ _ (by simp; omega)]; exact heap_alloc2_old _ _ _
  · rw [Below.heap_alloc _ _ _ (by simp)]; exact heap_alloc2_new _ _ _
  · have := heap_alloc2_new (w.alloc o) p q
    simpa using this

theorem Try.isz27 : (Try.prog.info? 27).map (·.size) = some 10 := by kernel_rfl
/-- A saga's variable is written whole. -/
theorem store27 {ops : Array Oper} {rest : List Oper} {dst : Option Tmp} {ty : TypeId} {pos : String} {aft : Array Edge} {a : Act} {w : World} {Q : Exit → Act → World → Prop} {x y : Operand} {g : Nat} {old C : Array Value} {t : TypeId}
    (hx : a.eval x = .pointer (some ⟨g, 0, none⟩)) (hy : a.eval y = .agg C) (hg : w.heap[g]? = some (.cells old t (0, 0))) (ho : old.size = 10) (hC : C.size = 10) (h1 : C.all (·.oneCell') = true)
    (h : wpList Try.prog ops Q rest (a.put dst undef) (w.setRow g C)) : wpList Try.prog ops Q (⟨dst, .store 27 x y, ty, pos, aft, none⟩ :: rest) a w :=
  wpList_store_row (P := Try.prog) (o := ⟨dst, .store 27 x y, ty, pos, aft, none⟩) rfl 27 x y rfl g C hx hy t old hg (by rw [Try.isz27, hC]) (by rw [ho, hC]) h1 h
theorem results_sg {fn : Func} {p : Tmp} (h : fn.results = #[.cell p 27]) (tmps : Array Value) (w : World) (g : Nat) {C : Array Value} {ty : TypeId} {fr : Nat × Nat}
    (hg : w.heap[g]? = some (.cells C ty fr)) (hC : C.size = 10) (hp : tmps.getD p undef = .pointer (some ⟨g, 0, none⟩)) :
    (results fn tmps).run Try.prog w = .ok (.agg C) w := by
  have hp' : tmps[p]?.getD undef = .pointer (some ⟨g, 0, none⟩) := by simpa using hp
  simp [results, h, hp', asAddr, run_loadVar_row (P := Try.prog) w g ty 27 C fr _ hg Try.underlying27 rfl (by rw [Try.isz27, hC])]
theorem ten (a b c d e f g h i j : Value) : #[a, b, c, d, e, f, g, h, i, j].size = 10 := rfl
theorem one10 (a : Option Addr) (n c : Nat) (p q r d u m s : Int) (g k : Bool) : (#[.slice a n c, .int .i64 p, .int .i64 q, .int .i64 r, .bool g, .bool k, .int .i64 d, .int .i64 u, .int .i64 m, .int .i64 s] : Array Value).all (·.oneCell') = true := by simp [Value.oneCell']
theorem hz27 : Z27.size = 10 := rfl
theorem Kept.setRow' {S : Nat → Prop} {a w : World} (h : Kept S a w) {g : Nat} (hg : S g) (c : Array Value) : Kept S a (w.setRow g c) :=
  ⟨h.os, h.tape, h.output, by simpa [World.setRow] using h.size, fun k hk hs => (setRow_other w g k c (fun e => hs (e ▸ hg))).trans (h.block k hk hs)⟩
/-- A step's kind, in memory. -/
theorem Stp.kind {w : World} {v : Value} {l : List (Int × Int)} (h : Stp w v l) {k : Nat} (hk : k < l.length) : ∃ b o c, v = .slice (some ⟨b, o, none⟩) l.length c ∧ w.cell? ⟨b, o + k * 2 + 1, none⟩ = some (.int .i64 (kindAt l k)) ∧ w.cell? ⟨b, o + k * 2, none⟩ = some (.int .i64 l[k].1) ∧ b < w.heap.size := by
  obtain ⟨b, o, c, e, hx⟩ := h.rd.addr (by omega)
  obtain ⟨g1, g2⟩ := flat2_get hk
  have e2 := hx _ _ g2
  rw [← Nat.add_assoc] at e2
  refine ⟨b, o, c, e, ?_, hx _ _ g1, h.lt b (by rw [e]; rfl)⟩
  rw [e2, kindAt, List.getElem?_eq_getElem hk]; rfl
theorem pow_wrap {k : Nat} (h : k < 6) : wrap64 ((2 : Int) ^ k) = ((2 ^ k : Nat) : Int) := by
  have : ∀ k : Fin 6, wrap64 ((2 : Int) ^ k.val) = ((2 ^ k.val : Nat) : Int) := by decide +kernel
  exact this ⟨k, h⟩
theorem pow_lt {k : Nat} (h : k < 6) : 2 ^ k < 64 := by
  have : ∀ k : Fin 6, 2 ^ k.val < 64 := by decide
  exact this ⟨k, h⟩
/-- A saga is handed back. -/
def SgPost (s : Sg) (v : Value) (w : World) (e : Ending) (w' : World) : Prop := e = .returned (.agg (sgC s v)) ∧ Kept (fun _ => False) w w'
theorem SgPost.mk {s t : Sg} {v : Value} {w w' : World} {C : Array Value} (h : s = t) (hC : C = sgC t v) (hk : Kept (fun _ => False) w w') : SgPost s v w (.returned (.agg C)) w' := by subst h; subst hC; exact ⟨rfl, hk⟩
set_option maxHeartbeats 1000000 in
theorem f_answered (s : Sg) (v : Value) (C : Array Value) (x : Rc) (w : World) (hC : Recish C x) (ok : Okay s) (hs : Stp w v s.steps) (hk : 0 ≤ stepOf s) :
    Calls Try.prog 48 #[.agg (sgC s v), .agg C] w (SgPost (answered s x.good) v w) := by
  obtain ⟨h0, h1, h2⟩ := heap_alloc3 w (.cells (sgC s v) 27) (.cells C 41) (.cells Z27 27)
  have K3 := (((Kept.refl (fun _ => False) w).alloc (.cells (sgC s v) 27)).alloc (.cells C 41)).alloc (.cells Z27 27)
  have HF := Lib.hid (f_step s v _ ok (hs.kept K3))
  have HS := Lib.hid (hs.kept K3)
  have HH : Hid (∀ {w1 : World}, Kept (fun _ => False) (((w.alloc (.cells (sgC s v) 27)).alloc (.cells C 41)).alloc (.cells Z27 27)) w1 → w1.heap[w.heap.size]? = some (.cells (sgC s v) 27 (0, 0)) ∧ w1.heap[w.heap.size + 1]? = some (.cells C 41 (0, 0)) ∧ w1.heap[w.heap.size + 1 + 1]? = some (.cells Z27 27 (0, 0))) :=
    fun k => ⟨(k.block _ (by simp; omega) id).trans h0, (k.block _ (by simp) id).trans h1, (k.block _ (by simp) id).trans h2⟩
  clear h0 h1 h2
  obtain ⟨a, c, rfl⟩ := hs.form
  have hsz := hC.size
  have HC := Lib.hid hC
  clear hs hC
  obtain ⟨st, ph, po, tr, wt, bk, dn, un, my, sq⟩ := s
  have hlen : st.length ≤ 6 := ok.len
  have hlt := (lastOf_lt (opn ⟨st, ph, po, tr, wt, bk, dn, un, my, sq⟩) st.length).2
  have hk2 : stepOf ⟨st, ph, po, tr, wt, bk, dn, un, my, sq⟩ < st.length := by
    unfold stepOf target at *
    dsimp only at *
    split
    · exact hlt
    · split <;> omega
  have hstep : Hid (∃ k : Nat, stepOf ⟨st, ph, po, tr, wt, bk, dn, un, my, sq⟩ = k ∧ k < st.length) := ⟨(stepOf ⟨st, ph, po, tr, wt, bk, dn, un, my, sq⟩).toNat, by omega, by omega⟩
  obtain ⟨k, hkk, hkl⟩ := hstep.out
  have OK := Lib.hid ok
  have HK := Lib.hid hkk
  unfold sgC Z27 at *
  dsimp only at *
  rw [hkk] at HF
  clear hlt hk2 hk ok hkk hstep
  go_enter Try.func48, Try.ntmps48
  go_wp2_with fail
  refine HF.out.mono ?_
  rintro e w1 ⟨rfl, k1⟩
  obtain ⟨g0, g1, g2⟩ := HH.out k1
  obtain ⟨b0, b1, b2, b3, b4, b5, b6, b7, b8, b9⟩ := cells10 g0
  obtain ⟨x0, x2, x3, x4, x5, x6, x7⟩ := rec_cells HC.out g1
  have G0 := Lib.hid g0
  have G2 := Lib.hid g2
  clear g0 g1 g2
  have f3 := frozen10 G0.out 3
  have f4 := frozen10 G0.out 4
  have f5 := frozen10 G0.out 5
  have f7 := frozen10 G0.out 7
  go_upto_region 3 with (fail)
  rw [pow_wrap (by omega)]
  have hB6 := pow_lt (k := k) (by omega)
  have hD : dn < 64 := OK.out.done
  have hU : un < 64 := OK.out.undone
  have hM : my < 64 := OK.out.may
  obtain ⟨B, hB⟩ : ∃ B, 2 ^ k = B := ⟨_, rfl⟩
  rw [hB] at hB6 ⊢
  have e1 := b_or hU hB6
  have e2 := b_or hD hB6
  have e3 := b_clr hM hB6
  have HB := Lib.hid hB
  clear hB
  have hKB : Kept (fun k => k = w.heap.size) w1 w1 := Kept.refl _ _
  have hw1 : w.heap.size + 1 + 1 < w1.heap.size := (Array.getElem?_eq_some_iff.1 G2.out).1
  have KW : Hid (Kept (fun _ => False) w w1) := K3.trans k1
  have HR : Hid (∀ {w2 : World} (X : Array Value), Kept (fun k => k = w.heap.size) w1 w2 → (w2.heap[w.heap.size + 1 + 1]? = some (.cells Z27 27 (0, 0))) ∧ Kept (fun _ => False) w (w2.setRow (w.heap.size + 1 + 1) X)) := fun X k2 => by
    refine ⟨(k2.block _ hw1 (by show ¬ _ = _; omega)).trans G2.out, ?_⟩
    exact (KW.out.trans' (k2.mono (T := fun k => w.heap.size ≤ k) (fun i _ h => Nat.le_of_eq h.symm)) (fun i hi h => by omega)).setRow (by omega) X
  cases bk with
  | true =>
    cases hg : x.good with
    | true =>
      rw [hg] at x6
      have E : Hid (answered ⟨st, ph, po, tr, wt, true, dn, un, my, sq⟩ x.good = ⟨st, ph, po, 0, false, false, dn, un ||| B, my, sq⟩) := by
        show answered _ _ = _
        rw [hg, answered, if_pos rfl, if_pos rfl, bitOf, HK.out, Int.toNat_natCast, HB.out]
      clear hg
      have hk2 := Lib.hid (HR.out #[.slice a st.length c, .int .i64 ph, .int .i64 po, .int .i64 0, .bool false, .bool false, .int .i64 dn, .int .i64 (un ||| B : Nat), .int .i64 my, .int .i64 sq] (((((hKB.setCell (p := ⟨w.heap.size, 7, none⟩) (.inl rfl) (.int .i64 (un ||| B : Nat))).setCell (p := ⟨w.heap.size, 3, none⟩) (.inl rfl) (.int .i64 0)).setCell (p := ⟨w.heap.size, 4, none⟩) (.inl rfl) (.bool false)).setCell (p := ⟨w.heap.size, 5, none⟩) (.inl rfl) (.bool false))))
      go_wp2_with (first | fail | ((with_reducible refine store27 (C := #[.slice a st.length c, .int .i64 ph, .int .i64 po, .int .i64 0, .bool false, .bool false, .int .i64 dn, .int .i64 (un ||| B : Nat), .int .i64 my, .int .i64 sq]) ?_ ?_ hk2.out.1 hz27 (ten _ _ _ _ _ _ _ _ _ _) (one10 _ _ _ _ _ _ _ _ _ _ _ _) ?_); rfl; rfl))
      exact bodyPost_ret (results_sg rfl _ _ _ (setRow_heap _ _ _ _ _ _ hk2.out.1) rfl rfl) rfl (SgPost.mk E.out rfl hk2.out.2)
    | false =>
      rw [hg] at x6
      have E : Hid (answered ⟨st, ph, po, tr, wt, true, dn, un, my, sq⟩ x.good = ⟨st, ph, po, tr, false, false, dn, un, my, sq⟩) := by
        show answered _ _ = _
        rw [hg, answered, if_pos rfl, if_neg (by decide)]
      clear hg
      have hk2 := Lib.hid (HR.out #[.slice a st.length c, .int .i64 ph, .int .i64 po, .int .i64 tr, .bool false, .bool false, .int .i64 dn, .int .i64 un, .int .i64 my, .int .i64 sq] (((hKB.setCell (p := ⟨w.heap.size, 4, none⟩) (.inl rfl) (.bool false)).setCell (p := ⟨w.heap.size, 5, none⟩) (.inl rfl) (.bool false))))
      go_wp2_with (first | fail | ((with_reducible refine store27 (C := #[.slice a st.length c, .int .i64 ph, .int .i64 po, .int .i64 tr, .bool false, .bool false, .int .i64 dn, .int .i64 un, .int .i64 my, .int .i64 sq]) ?_ ?_ hk2.out.1 hz27 (ten _ _ _ _ _ _ _ _ _ _) (one10 _ _ _ _ _ _ _ _ _ _ _ _) ?_); rfl; rfl))
      exact bodyPost_ret (results_sg rfl _ _ _ (setRow_heap _ _ _ _ _ _ hk2.out.1) rfl rfl) rfl (SgPost.mk E.out rfl hk2.out.2)
  | false =>
    cases hg : x.good with
    | true =>
      rw [hg] at x6
      have hpo : po ≤ 1000 := OK.out.pos
      have f6 := frozen10 G0.out 6
      have f8 := frozen10 G0.out 8
      have f2 := frozen10 G0.out 2
      have E : Hid (answered ⟨st, ph, po, tr, wt, false, dn, un, my, sq⟩ x.good = ⟨st, ph, po + 1, 0, false, false, dn ||| B, un, clr my B, sq⟩) := by
        show answered _ _ = _
        rw [hg, answered, if_neg (by exact Bool.false_ne_true), if_pos rfl, bitOf, HK.out, Int.toNat_natCast, HB.out]
      clear hg
      have hk2 := Lib.hid (HR.out #[.slice a st.length c, .int .i64 ph, .int .i64 ((po : Int) + 1), .int .i64 0, .bool false, .bool false, .int .i64 (dn ||| B : Nat), .int .i64 un, .int .i64 (clr my B : Nat), .int .i64 sq] (((((((hKB.setCell (p := ⟨w.heap.size, 6, none⟩) (.inl rfl) (.int .i64 (dn ||| B : Nat))).setCell (p := ⟨w.heap.size, 8, none⟩) (.inl rfl) (.int .i64 (clr my B : Nat))).setCell (p := ⟨w.heap.size, 2, none⟩) (.inl rfl) (.int .i64 ((po : Int) + 1))).setCell (p := ⟨w.heap.size, 3, none⟩) (.inl rfl) (.int .i64 0)).setCell (p := ⟨w.heap.size, 4, none⟩) (.inl rfl) (.bool false)).setCell (p := ⟨w.heap.size, 5, none⟩) (.inl rfl) (.bool false))))
      go_wp2_with (first | fail | ((with_reducible refine store27 (C := #[.slice a st.length c, .int .i64 ph, .int .i64 ((po : Int) + 1), .int .i64 0, .bool false, .bool false, .int .i64 (dn ||| B : Nat), .int .i64 un, .int .i64 (clr my B : Nat), .int .i64 sq]) ?_ ?_ hk2.out.1 hz27 (ten _ _ _ _ _ _ _ _ _ _) (one10 _ _ _ _ _ _ _ _ _ _ _ _) ?_); rfl; rfl))
      exact bodyPost_ret (results_sg rfl _ _ _ (setRow_heap _ _ _ _ _ _ hk2.out.1) rfl rfl) rfl (SgPost.mk E.out rfl hk2.out.2)
    | false =>
      rw [hg] at x6
      obtain ⟨b, o, c', ev, c1, _, hbl⟩ := (HS.out.kept k1).kind hkl
      simp only [Value.slice.injEq, true_and] at ev
      obtain ⟨rfl, rfl⟩ := ev
      have hkd : Hid (kindAt st k = kindAt st k) := rfl
      by_cases h3 : kindAt st k = 3
      · have E : Hid (answered ⟨st, ph, po, tr, wt, false, dn, un, my, sq⟩ x.good = ⟨st, ph, po, tr, false, false, dn, un, my, sq⟩) := by
          show answered _ _ = _
          rw [hg, answered, if_neg (by exact Bool.false_ne_true), if_neg (by decide), HK.out, Int.toNat_natCast, if_pos h3]
        clear hg hkd
        rw [h3] at c1
        clear h3
        have hk2 := Lib.hid (HR.out #[.slice (some ⟨b, o, none⟩) st.length c, .int .i64 ph, .int .i64 po, .int .i64 tr, .bool false, .bool false, .int .i64 dn, .int .i64 un, .int .i64 my, .int .i64 sq] (((hKB.setCell (p := ⟨w.heap.size, 4, none⟩) (.inl rfl) (.bool false)).setCell (p := ⟨w.heap.size, 5, none⟩) (.inl rfl) (.bool false))))
        go_wp2_with (first | fail | ((with_reducible refine store27 (C := #[.slice (some ⟨b, o, none⟩) st.length c, .int .i64 ph, .int .i64 po, .int .i64 tr, .bool false, .bool false, .int .i64 dn, .int .i64 un, .int .i64 my, .int .i64 sq]) ?_ ?_ hk2.out.1 hz27 (ten _ _ _ _ _ _ _ _ _ _) (one10 _ _ _ _ _ _ _ _ _ _ _ _) ?_); rfl; rfl))
        exact bodyPost_ret (results_sg rfl _ _ _ (setRow_heap _ _ _ _ _ _ hk2.out.1) rfl rfl) rfl (SgPost.mk E.out rfl hk2.out.2)
      · have E : Hid (answered ⟨st, ph, po, tr, wt, false, dn, un, my, sq⟩ x.good = ⟨st, 1, po, 0, false, false, dn, un, clr my B, sq⟩) := by
          show answered _ _ = _
          rw [hg, answered, if_neg (by exact Bool.false_ne_true), if_neg (by decide), HK.out, Int.toNat_natCast, if_neg h3, bitOf, HK.out, Int.toNat_natCast, HB.out]
        have q3 : (kindAt st k == 3) = false := by rw [beq_eq_false_iff_ne]; exact h3
        have f8 := frozen10 G0.out 8
        clear hg hkd h3
        generalize kindAt st k = kd at c1 q3
        go_upto_region 10 with (fail)
        have g8 := setCell_block (k := 8) G0.out (.int .i64 (clr my B : Nat))
        simp only [List.setIfInBounds_toArray, List.set_cons_succ, List.set_cons_zero] at g8
        have hB0 := (Array.getElem?_eq_some_iff.1 g8).1
        go_wp2_with fail
        refine (f_turn ⟨st, ph, po, tr, wt, false, dn, un, clr my B, sq⟩ _ _ _ _).mono ?_
        rintro e w2 ⟨rfl, k2⟩
        have g9 := (k2.block _ hB0 id).trans g8
        have g10 := setRow_heap _ _ _ #[.slice (some ⟨b, o, none⟩) st.length c, .int .i64 1, .int .i64 po, .int .i64 0, .bool wt, .bool false, .int .i64 dn, .int .i64 un, .int .i64 (clr my B : Nat), .int .i64 sq] _ _ g9
        have kf := ((hKB.setCell (p := ⟨w.heap.size, 8, none⟩) (.inl rfl) (.int .i64 (clr my B : Nat))).trans (k2.mono fun _ _ h => h.elim)).setRow' (g := w.heap.size) rfl #[.slice (some ⟨b, o, none⟩) st.length c, .int .i64 1, .int .i64 po, .int .i64 0, .bool wt, .bool false, .int .i64 dn, .int .i64 un, .int .i64 (clr my B : Nat), .int .i64 sq]
        have hk2 := Lib.hid (HR.out #[.slice (some ⟨b, o, none⟩) st.length c, .int .i64 1, .int .i64 po, .int .i64 0, .bool false, .bool false, .int .i64 dn, .int .i64 un, .int .i64 (clr my B : Nat), .int .i64 sq] ((kf.setCell (p := ⟨w.heap.size, 4, none⟩) (.inl rfl) (.bool false)).setCell (p := ⟨w.heap.size, 5, none⟩) (.inl rfl) (.bool false)))
        have G9 := Lib.hid g9
        clear b0 b1 b2 b3 b4 b5 b6 b7 b8 b9 f3 f4 f5 f7 f8 kf g8 g9 hB0 k2 x0 x2 x3 x4 x5 x6 x7 c1
        obtain ⟨b0, b1, b2, b3, b4, b5, b6, b7, b8, b9⟩ := cells10 g10
        have f4 := frozen10 g10 4
        have f5 := frozen10 g10 5
        clear g10
        unfold sgC turnS
        dsimp only
        go_wp2_with (first | fail | ((with_reducible refine store27 (C := #[.slice (some ⟨b, o, none⟩) st.length c, .int .i64 1, .int .i64 po, .int .i64 0, .bool wt, .bool false, .int .i64 dn, .int .i64 un, .int .i64 (clr my B : Nat), .int .i64 sq]) ?_ ?_ G9.out (ten _ _ _ _ _ _ _ _ _ _) (ten _ _ _ _ _ _ _ _ _ _) (one10 _ _ _ _ _ _ _ _ _ _ _ _) ?_); rfl; rfl) | ((with_reducible refine store27 (C := #[.slice (some ⟨b, o, none⟩) st.length c, .int .i64 1, .int .i64 po, .int .i64 0, .bool false, .bool false, .int .i64 dn, .int .i64 un, .int .i64 (clr my B : Nat), .int .i64 sq]) ?_ ?_ hk2.out.1 hz27 (ten _ _ _ _ _ _ _ _ _ _) (one10 _ _ _ _ _ _ _ _ _ _ _ _) ?_); rfl; rfl))
        exact bodyPost_ret (results_sg rfl _ _ _ (setRow_heap _ _ _ _ _ _ hk2.out.1) rfl rfl) rfl (SgPost.mk E.out rfl hk2.out.2)
end Go.Proofs.Ytklmhegmombegaa
