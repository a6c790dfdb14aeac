/-
  Records whole: laws of the walk; the contract of Due. Conditions: as each theorem says.
-/
import Derived.Test.YtklmhegmombegaaSag
import Derived.Great.FillDense
import Derived.Great.BuildSlice
set_option linter.unusedVariables false
set_option linter.unusedSimpArgs false
namespace Go.Proofs.Ytklmhegmombegaa
open Go Go.RowKit Plain

theorem range_row {w : World} {g : Nat} {C : Array Value} {t : TypeId} {fz : Nat × Nat} (hg : w.heap[g]? = some (.cells C t fz)) : w.rangeAt g 0 C.toList := by
  intro j v hv
  rw [Nat.zero_add, cell_of_row w g j C t fz hg]
  simpa using hv
theorem Kept.setRow {S : Nat → Prop} {a w : World} (h : Kept S a w) {g : Nat} (hg : a.heap.size ≤ g) (c : Array Value) : Kept S a (w.setRow g c) :=
  ⟨h.os, h.tape, h.output, by simpa [World.setRow] using h.size, fun k hk hs => (setRow_other w g k c (by omega)).trans (h.block k hk hs)⟩

section
variable {ops : Array Oper} {rest : List Oper} {dst : Option Tmp} {ty : TypeId} {pos : String} {aft : Array Edge} {a : Act} {w : World} {Q : Exit → Act → World → Prop}
/-- A record's variable is made. -/
theorem alloc41 (h : wpList Try.prog ops Q rest (a.put dst (.pointer (some ⟨w.heap.size, 0, none⟩))) (w.alloc (.cells Z41 41))) : wpList Try.prog ops Q (⟨dst, .alloc 41, ty, pos, aft, none⟩ :: rest) a w := by
  refine wpList_plain rfl fun K hK => ?_
  go_simp
  exact hK _ _ h
/-- A record of zeros. -/
theorem build41 (h : wpList Try.prog ops Q rest (a.put dst (.agg Z41)) w) : wpList Try.prog ops Q (⟨dst, .build 41 #[], ty, pos, aft, none⟩ :: rest) a w := by
  refine wpList_plain rfl fun K hK => ?_
  go_simp
  exact hK _ _ h
theorem build41e {k nd : Int} (h : wpList Try.prog ops Q rest (a.put dst (.agg (dueC ⟨k, 0, 0, false, nd⟩))) w) : wpList Try.prog ops Q (⟨dst, .build 41 #[(0, .const (.int .i64 k)), (7, .const (.int .i64 nd))], ty, pos, aft, none⟩ :: rest) a w := by
  refine wpList_plain rfl fun K hK => ?_
  go_simp
  exact hK _ _ h
theorem build41c {k st tr : Int} {bk : Bool} {x y z : Nat} (hx : a.tmps[x]?.getD undef = .int .i64 st) (hy : a.tmps[y]?.getD undef = .int .i64 tr) (hz : a.tmps[z]?.getD undef = .bool bk)
    (h : wpList Try.prog ops Q rest (a.put dst (.agg (dueC ⟨k, st, tr, bk, 0⟩))) w) : wpList Try.prog ops Q (⟨dst, .build 41 #[(0, .const (.int .i64 k)), (3, .tmp x), (4, .tmp y), (5, .tmp z)], ty, pos, aft, none⟩ :: rest) a w := by
  refine wpList_plain rfl fun K hK => ?_
  go_simp
  exact hK _ _ h
/-- A record's variable is written whole. -/
theorem store41 {x y : Operand} {g : Nat} {old C : Array Value} {t : TypeId}
    (hx : a.eval x = .pointer (some ⟨g, 0, none⟩)) (hy : a.eval y = .agg C) (hg : w.heap[g]? = some (.cells old t (0, 0))) (ho : old.size = 109) (hC : C.size = 109) (h1 : C.all (·.oneCell') = true)
    (h : wpList Try.prog ops Q rest (a.put dst undef) (w.setRow g C)) : wpList Try.prog ops Q (⟨dst, .store 41 x y, ty, pos, aft, none⟩ :: rest) a w :=
  wpList_store_row (P := Try.prog) (o := ⟨dst, .store 41 x y, ty, pos, aft, none⟩) rfl 41 x y rfl g C hx hy t old hg (by rw [Try.isz41, hC]) (by rw [ho, hC]) h1 h
/-- A record's variable is read whole. -/
theorem load41 {x : Operand} {g o : Nat} {C : Array Value}
    (hx : a.eval x = .pointer (some ⟨g, o, none⟩)) (hc : w.rangeAt g o C.toList) (hC : C.size = 109)
    (h : wpList Try.prog ops Q rest (a.put dst (.agg C)) w) : wpList Try.prog ops Q (⟨dst, .load 41 x, ty, pos, aft, none⟩ :: rest) a w := by
  have := wpList_load_mid (P := Try.prog) (ops := ops) (rest := rest) (op := ⟨dst, .load 41 x, ty, pos, aft, none⟩) (a := a) (w := w) (Q := Q) rfl 41 x rfl g o hx C.toList _ hc Try.underlying41 rfl (by rw [Try.isz41]; simp [hC])
  simp only [Array.toArray_toList] at this
  exact this h
end

/-- The two results of Due. -/
theorem results_due {fn : Func} {p t : Tmp} (h : fn.results = #[.cell p 41, .tmp t]) (tmps : Array Value) (w : World) (g : Nat) {C : Array Value} {ty : TypeId} {fr : Nat × Nat} {v : Value}
    (hg : w.heap[g]? = some (.cells C ty fr)) (hC : C.size = 109) (hp : tmps.getD p undef = .pointer (some ⟨g, 0, none⟩)) (hv : tmps.getD t undef = v := by rfl) :
    (results fn tmps).run Try.prog w = .ok (.tuple #[.agg C, v]) w := by
  have hp' : tmps[p]?.getD undef = .pointer (some ⟨g, 0, none⟩) := by simpa using hp
  have hv' : tmps[t]?.getD undef = v := by simpa using hv
  simp [results, h, hp', hv', asAddr, run_loadVar_row (P := Try.prog) w g ty 41 C fr _ hg Try.underlying41 rfl (by rw [Try.isz41, hC])]

set_option maxRecDepth 100000 in
theorem dueC_size (d : Du) : (dueC d).size = 109 := rfl
theorem Z41_one : Z41.all (·.oneCell') = true := by kernel_rfl
theorem all_set {C : Array Value} (h : C.all (·.oneCell') = true) {v : Value} (hv : v.oneCell' = true) (i : Nat) : (C.setIfInBounds i v).all (·.oneCell') = true := by
  rw [Array.all_eq_true_iff_forall_mem] at h ⊢
  intro x hx
  rcases Array.mem_or_eq_of_mem_setIfInBounds hx with h1 | h1
  · exact h x h1
  · rw [h1]; exact hv
theorem dueC_one (d : Du) : (dueC d).all (·.oneCell') = true := all_set (all_set (all_set (all_set (all_set Z41_one rfl _) rfl _) rfl _) rfl _) rfl _
set_option maxRecDepth 100000 in
theorem dueC_recish (d : Du) : Recish (dueC d) ⟨d.kind, 0, d.step, d.tr, d.bk, false, d.nd⟩ := ⟨dueC_size d, dueC_one d, rfl, rfl, rfl, rfl, rfl, rfl, rfl⟩

theorem cells10 {w : World} {B : Nat} {c0 c1 c2 c3 c4 c5 c6 c7 c8 c9 : Value} {t : TypeId} (h : w.heap[B]? = some (.cells #[c0, c1, c2, c3, c4, c5, c6, c7, c8, c9] t (0, 0))) :
    w.cell? ⟨B, 0, none⟩ = some c0 ∧ w.cell? ⟨B, 1, none⟩ = some c1 ∧ w.cell? ⟨B, 2, none⟩ = some c2 ∧ w.cell? ⟨B, 3, none⟩ = some c3 ∧ w.cell? ⟨B, 4, none⟩ = some c4 ∧ w.cell? ⟨B, 5, none⟩ = some c5 ∧ w.cell? ⟨B, 6, none⟩ = some c6 ∧
    w.cell? ⟨B, 7, none⟩ = some c7 ∧ w.cell? ⟨B, 8, none⟩ = some c8 ∧ w.cell? ⟨B, 9, none⟩ = some c9 := by
  refine ⟨?_, ?_, ?_, ?_, ?_, ?_, ?_, ?_, ?_, ?_⟩ <;> simp [World.cell?, h]
theorem frozen10 {w : World} {B : Nat} {C : Array Value} {t : TypeId} (h : w.heap[B]? = some (.cells C t (0, 0))) (o : Nat) : w.frozen? ⟨B, o, none⟩ = false := by simp [World.frozen?, h]
/-- Due's answer. -/
def dueR (s : Sg) (lim : Nat) : Value := match Plain.due s lim with
  | some d => .tuple #[.agg (dueC d), .bool true]
  | none => .tuple #[.agg Z41, .bool false]

set_option maxHeartbeats 4000000 in
theorem f_due (s : Sg) (v : Value) (lim : Nat) (w : World) (ok : Okay s) (hs : Stp w v s.steps) (h1 : 1 ≤ lim) (h9 : lim ≤ 9) :
    Calls Try.prog 23 #[.agg (sgC s v), .int .i64 lim] w fun e w' => e = .returned (dueR s lim) ∧ Kept (fun _ => False) w w' := by
  have hwi : wi (lim : Int) 1 9 = true := wi_true (by omega) (by omega)
  have HW := Lib.hid hwi
  have hn1 := heap_alloc2_new w (.cells (sgC s v) 27) (.cells Z41 41)
  have K2 := ((Kept.refl (fun _ => False) w).alloc (.cells (sgC s v) 27)).alloc (.cells Z41 41)
  have K3 : Hid (∀ {w1 : World} (C : Array Value), Kept (fun _ => False) ((w.alloc (.cells (sgC s v) 27)).alloc (.cells Z41 41)) w1 → Kept (fun _ => False) w (w1.setRow (w.heap.size + 1) C)) := fun C k => (K2.trans k).setRow (by omega) _
  have hm : Hid (∀ {w1 : World}, Kept (fun _ => False) ((w.alloc (.cells (sgC s v) 27)).alloc (.cells Z41 41)) w1 → w1.heap[w.heap.size + 1]? = some (.cells Z41 41 (0, 0))) := fun k => (k.block _ (by simp) id).trans hn1
  have HS := Lib.hid hs
  have OK := Lib.hid ok
  have HS2 := Lib.hid ((hs.alloc (.cells (sgC s v) 27)).alloc (.cells Z41 41))
  obtain ⟨a, c, rfl⟩ := hs.form
  clear hwi hn1 K2 hs
  obtain ⟨st, ph, po, tr, wt, bk, dn, un, my, sq⟩ := s
  have hlen : st.length ≤ 6 := ok.len
  have htr : tr ≤ 1000 := ok.tries
  clear ok
  unfold sgC at *
  dsimp only at *
  cases wt with
  | true =>
    have E : dueR ⟨st, ph, po, tr, true, bk, dn, un, my, sq⟩ lim = .tuple #[.agg Z41, .bool false] := by rw [dueR, Plain.due, if_pos (.inl rfl)]
    rw [E]
    have h0 := Lib.hid (hm.out (Kept.refl _ _))
    have K4 := Lib.hid (K3.out Z41 (Kept.refl _ _))
    clear E hm K3 HS2
    go_enter Try.func23, Try.ntmps23
    go_wp2_with (first | fail | (with_reducible refine alloc41 ?_) | (with_reducible refine build41 ?_) | ((with_reducible refine store41 (C := Z41) ?_ ?_ h0.out rfl rfl Z41_one ?_); rfl; rfl))
    exact bodyPost_ret (results_due rfl _ _ _ (setRow_heap _ _ _ _ _ _ h0.out) rfl rfl) rfl ⟨rfl, K4.out⟩
  | false =>
    have HO : Hid (∀ w1, Calls Try.prog 24 #[.agg #[.slice a st.length c, .int .i64 ph, .int .i64 po, .int .i64 tr, .bool false, .bool bk, .int .i64 dn, .int .i64 un, .int .i64 my, .int .i64 sq]] w1 fun e w' => e = .returned (.bool (over ⟨st, ph, po, tr, false, bk, dn, un, my, sq⟩)) ∧ Kept (fun _ => False) w1 w') := fun w1 => f_over ⟨st, ph, po, tr, false, bk, dn, un, my, sq⟩ _ w1
    cases ho : over ⟨st, ph, po, tr, false, bk, dn, un, my, sq⟩ with
    | true =>
      have E : dueR ⟨st, ph, po, tr, false, bk, dn, un, my, sq⟩ lim = .tuple #[.agg Z41, .bool false] := by rw [dueR, Plain.due, if_pos (.inr (.inl ho))]
      rw [E]
      rw [ho] at HO
      clear E HS2 ho
      go_enter Try.func23, Try.ntmps23
      go_wp2_with (first | fail | (with_reducible refine alloc41 ?_))
      refine (HO.out _).mono ?_
      rintro e w1 ⟨rfl, k1⟩
      have h0 := Lib.hid (hm.out k1)
      have K4 := Lib.hid (K3.out Z41 k1)
      clear k1 hm K3
      go_wp2_with (first | fail | (with_reducible refine build41 ?_) | ((with_reducible refine store41 (C := Z41) ?_ ?_ h0.out rfl rfl Z41_one ?_); rfl; rfl))
      exact bodyPost_ret (results_due rfl _ _ _ (setRow_heap _ _ _ _ _ _ h0.out) rfl rfl) rfl ⟨rfl, K4.out⟩
    | false =>
    rw [ho] at HO
    by_cases h0 : st = []
    · subst h0
      have E : dueR ⟨[], ph, po, tr, false, bk, dn, un, my, sq⟩ lim = .tuple #[.agg Z41, .bool false] := by rw [dueR, Plain.due, if_pos (.inr (.inr rfl))]
      rw [E]
      clear E HS2 ho
      go_enter Try.func23, Try.ntmps23
      go_wp2_with (first | fail | (with_reducible refine alloc41 ?_))
      refine (HO.out _).mono ?_
      rintro e w1 ⟨rfl, k1⟩
      have h0 := Lib.hid (hm.out k1)
      have K4 := Lib.hid (K3.out Z41 k1)
      have kb : Kept (fun _ => False) ((w.alloc (.cells #[.slice a 0 c, .int .i64 ph, .int .i64 po, .int .i64 tr, .bool false, .bool bk, .int .i64 dn, .int .i64 un, .int .i64 my, .int .i64 sq] 27)).alloc (.cells Z41 41)) w1 := k1
      have b0 : w1.cell? ⟨w.heap.size, 0, none⟩ = some (.slice a 0 c) := by
        rw [k1.cell (p := ⟨w.heap.size, 0, none⟩) (by simp; omega) id, cell_of_row _ _ 0 _ _ _ (heap_alloc2_old _ _ _)]; rfl
      clear k1 hm K3 kb
      go_wp2_with (first | fail | (with_reducible refine build41 ?_) | ((with_reducible refine store41 (C := Z41) ?_ ?_ h0.out rfl rfl Z41_one ?_); rfl; rfl))
      exact bodyPost_ret (results_due rfl _ _ _ (setRow_heap _ _ _ _ _ _ h0.out) rfl rfl) rfl ⟨rfl, K4.out⟩
    · have hl0 : 0 < st.length := List.length_pos_iff.2 h0
      have hb : ((st.length : Int) == 0) = false := by rw [beq_eq_false_iff_ne]; omega
      have HB : Hid (∀ {w1 : World}, Kept (fun _ => False) ((w.alloc (.cells #[.slice a st.length c, .int .i64 ph, .int .i64 po, .int .i64 tr, .bool false, .bool bk, .int .i64 dn, .int .i64 un, .int .i64 my, .int .i64 sq] 27)).alloc (.cells Z41 41)) w1 → w1.heap[w.heap.size]? = some (.cells #[.slice a st.length c, .int .i64 ph, .int .i64 po, .int .i64 tr, .bool false, .bool bk, .int .i64 dn, .int .i64 un, .int .i64 my, .int .i64 sq] 27 (0, 0))) :=
        fun k => (k.block _ (by simp; omega) id).trans (heap_alloc2_old _ _ _)
      have HST : Hid (∀ {w1 : World}, Kept (fun _ => False) ((w.alloc (.cells #[.slice a st.length c, .int .i64 ph, .int .i64 po, .int .i64 tr, .bool false, .bool bk, .int .i64 dn, .int .i64 un, .int .i64 my, .int .i64 sq] 27)).alloc (.cells Z41 41)) w1 →
        Calls Try.prog 47 #[.agg #[.slice a st.length c, .int .i64 ph, .int .i64 po, .int .i64 tr, .bool false, .bool bk, .int .i64 dn, .int .i64 un, .int .i64 my, .int .i64 sq]] w1 fun e w' => e = .returned (.int .i64 (stepOf ⟨st, ph, po, tr, false, bk, dn, un, my, sq⟩)) ∧ Kept (fun _ => False) w1 w') :=
        fun k => f_step ⟨st, ph, po, tr, false, bk, dn, un, my, sq⟩ _ _ OK.out (HS2.out.kept k)
      have hnn : ¬ (false = true ∨ over ⟨st, ph, po, tr, false, bk, dn, un, my, sq⟩ = true ∨ st = []) := by rw [ho]; simp [h0]
      have E : dueR ⟨st, ph, po, tr, false, bk, dn, un, my, sq⟩ lim = (if stepOf ⟨st, ph, po, tr, false, bk, dn, un, my, sq⟩ < 0 then (if ph = 0 then .tuple #[.agg (dueC ⟨5, 0, 0, false, 2⟩), .bool true] else .tuple #[.agg (dueC ⟨5, 0, 0, false, 3⟩), .bool true])
        else if tr < lim then .tuple #[.agg (dueC ⟨2, stepOf ⟨st, ph, po, tr, false, bk, dn, un, my, sq⟩, tr + 1, decide (ph = 1), 0⟩), .bool true] else .tuple #[.agg (dueC ⟨5, 0, 0, false, 4⟩), .bool true]) := by
        rw [dueR, Plain.due, if_neg hnn]
        generalize stepOf ⟨st, ph, po, tr, false, bk, dn, un, my, sq⟩ = k
        by_cases e1 : k < 0
        · by_cases e2 : ph = 0
          · rw [if_pos e1, if_pos e1, if_pos e2, if_pos e2]
          · rw [if_pos e1, if_pos e1, if_neg e2, if_neg e2]
        · by_cases e2 : tr < lim
          · rw [if_neg e1, if_neg e1, if_pos e2, if_pos e2]
          · rw [if_neg e1, if_neg e1, if_neg e2, if_neg e2]
      rw [E]
      have hsr : -1 ≤ stepOf ⟨st, ph, po, tr, false, bk, dn, un, my, sq⟩ ∧ stepOf ⟨st, ph, po, tr, false, bk, dn, un, my, sq⟩ ≤ 1000 := by
        have h2 := lastOf_lt (opn ⟨st, ph, po, tr, false, bk, dn, un, my, sq⟩) st.length
        have h3 : po ≤ 1000 := OK.out.pos
        unfold stepOf target
        dsimp only
        split
        · omega
        · split <;> omega
      clear hnn E HS2 ho h0
      generalize stepOf ⟨st, ph, po, tr, false, bk, dn, un, my, sq⟩ = k at HST hsr ⊢
      go_enter Try.func23, Try.ntmps23
      go_wp2_with (first | fail | (with_reducible refine alloc41 ?_))
      refine (HO.out _).mono ?_
      rintro e w1 ⟨rfl, k1⟩
      obtain ⟨b0, b1, b2, b3, b4, b5, b6, b7, b8, b9⟩ := cells10 (HB.out k1)
      go_wp2_with fail
      refine (f_within_is HW.out _).mono ?_
      rintro e w2 ⟨rfl, rfl⟩
      go_wp2_with fail
      refine (HST.out k1).mono ?_
      rintro e w2 ⟨rfl, k2⟩
      have kk := k1.trans k2
      clear b0 b1 b2 b3 b4 b5 b6 b7 b8 b9 k1 k2
      obtain ⟨b0, b1, b2, b3, b4, b5, b6, b7, b8, b9⟩ := cells10 (HB.out kk)
      have m0 := Lib.hid (hm.out kk)
      have KF := Lib.hid (fun C => K3.out C kk)
      clear kk hm K3 HST HO HB
      by_cases hk : k < 0
      · by_cases hp : ph = 0
        · have t1 : ((ph : Int) == 0) = true := by rw [beq_iff_eq]; omega
          have HP := Lib.hid hp
          clear hp
          go_wp2_with (first | fail | (with_reducible refine build41e ?_) | ((with_reducible refine store41 (C := dueC ⟨5, 0, 0, false, 2⟩) ?_ ?_ m0.out rfl (dueC_size _) (dueC_one _) ?_); rfl; rfl))
          exact bodyPost_ret (results_due rfl _ _ _ (setRow_heap _ _ _ _ _ _ m0.out) (dueC_size _) rfl) rfl ⟨(by first | rfl | (rw [if_pos hk, if_pos HP.out]; rfl)), KF.out _⟩
        · have t1 : ((ph : Int) == 0) = false := by rw [beq_eq_false_iff_ne]; omega
          have HP := Lib.hid hp
          clear hp
          go_wp2_with (first | fail | (with_reducible refine build41e ?_) | ((with_reducible refine store41 (C := dueC ⟨5, 0, 0, false, 3⟩) ?_ ?_ m0.out rfl (dueC_size _) (dueC_one _) ?_); rfl; rfl))
          exact bodyPost_ret (results_due rfl _ _ _ (setRow_heap _ _ _ _ _ _ m0.out) (dueC_size _) rfl) rfl ⟨(by first | rfl | (rw [if_pos hk, if_neg HP.out]; rfl)), KF.out _⟩
      · by_cases ht : tr < lim
        · have ep : ((ph : Int) == 1) = decide (ph = 1) := by rw [Bool.eq_iff_iff]; simp; omega
          have EP := Lib.hid ep
          clear ep
          go_wp2_with (first | fail | ((with_reducible refine build41c (st := k) (tr := (tr : Int) + 1) (bk := ((ph : Int) == 1)) ?_ ?_ ?_ ?_); rfl; rfl; rfl) | ((with_reducible refine store41 (C := dueC ⟨2, k, (tr : Int) + 1, ((ph : Int) == 1), 0⟩) ?_ ?_ m0.out rfl (dueC_size _) (dueC_one _) ?_); rfl; rfl))
          exact bodyPost_ret (results_due rfl _ _ _ (setRow_heap _ _ _ _ _ _ m0.out) (dueC_size _) rfl) rfl ⟨(by first | (rw [← EP.out]; rfl) | (rw [if_neg hk, if_pos ht, ← EP.out]; rfl) | rfl), KF.out _⟩
        · go_wp2_with (first | fail | (with_reducible refine build41e ?_) | ((with_reducible refine store41 (C := dueC ⟨5, 0, 0, false, 4⟩) ?_ ?_ m0.out rfl (dueC_size _) (dueC_one _) ?_); rfl; rfl))
          exact bodyPost_ret (results_due rfl _ _ _ (setRow_heap _ _ _ _ _ _ m0.out) (dueC_size _) rfl) rfl ⟨(by first | rfl | (rw [if_neg hk, if_neg ht]; rfl)), KF.out _⟩
end Go.Proofs.Ytklmhegmombegaa
