/-
  The contract of the saga's Go, where the record is the saga's next. Conditions: as each theorem says.
-/
import Derived.Test.YtklmhegmombegaaDoorBack
import Derived.Test.YtklmhegmombegaaDoorPlain
set_option linter.unusedVariables false
set_option linter.unusedSimpArgs false
namespace Go.Proofs.YtklmhegmombegaaDoor.Re
open Go Go.RowKit Go.Proofs.YtklmhegmombegaaDoor.Re.Plain Go.Proofs.YtklmhegmombegaaDoor

set_option maxRecDepth 100000 in
theorem hz30 : Z30.size = 109 := rfl
set_option maxRecDepth 100000 in
/-- What Due says: a record, or none. -/
theorem dueR_form (s : Sg) (lim : Nat) : ∃ (D : Array Value) (okd : Bool) (y : Rc), dueR s lim = .tuple #[.agg D, .bool okd] ∧ Recish D y ∧ Plain.due s lim = (if okd = true then some (told y) else none) := by
  unfold dueR
  cases hd : Plain.due s lim with
  | some d => exact ⟨_, true, _, rfl, dueC_recish d, rfl⟩
  | none =>
    have h : Z30 = dueC ⟨0, 0, 0, false, 0⟩ := rfl
    refine ⟨_, false, _, rfl, h ▸ dueC_recish _, rfl⟩

/-- A record read, a saga written, folded. -/
noncomputable def load30Of (v : Value) : Sem Value := Instr.loadAt 30 v
theorem load30_fold (v : Value) : Instr.loadAt 30 v = load30Of v := rfl
noncomputable def store133Of (p v : Value) : Sem Unit := Instr.storeAt 133 p v
theorem store133_fold (p v : Value) : Instr.storeAt 133 p v = store133Of p v := rfl
theorem load30_of {w : World} {g : Nat} {C : Array Value} (hg : w.heap[g]? = some (.cells C 30 (0, 0))) (hC : C.size = 109) : (load30Of (.pointer (some ⟨g, 0, none⟩))).run Tryd.prog w = .ok (.agg C) w := by
  have := run_loadAt_mid (P := Tryd.prog) w g 0 30 C.toList _ (range_row hg) Tryd.underlying30 rfl (by rw [Tryd.isz30]; simp [hC])
  rwa [Array.toArray_toList] at this
theorem store133_of {w : World} {g : Nat} {old C : Array Value} {t : TypeId} (hg : w.heap[g]? = some (.cells old t (0, 0))) (ho : old.size = 10) (hC : C.size = 10) (h1 : C.all (·.oneCell') = true) :
    (store133Of (.pointer (some ⟨g, 0, none⟩)) (.agg C)).run Tryd.prog w = .ok () (w.setRow g C) := by
  unfold store133Of Instr.storeAt
  simp only [Instr.sureAddr, Sem.run_bind, Sem.run_pure, Result.andThen_ok, run_storeVar_row (P := Tryd.prog) w g t 133 old C hg (by rw [Tryd.isz133, hC]) (by rw [ho, hC]) h1]
/-! Steps of a region that draws its order, taken one by one. -/
section
variable {ops : Array Oper} {S : World → Prop} {dst : Option Tmp} {ty : TypeId} {pos : String} {aft : Array Edge} {gd : Option (Nat × Bool)} {x : Operand} {a : Act} {g : Nat} {C : Array Value}
theorem yields133 (hw : Region.wanted ⟨dst, .load 133 x, ty, pos, aft, gd⟩ (yielded ops a.tmps) = true) (hx : a.eval x = .pointer (some ⟨g, 0, none⟩)) (hg : ∀ w, S w → w.heap[g]? = some (.cells C 133 (0, 0))) (hC : C.size = 10) :
    YieldsIf Tryd.prog ops S ⟨dst, .load 133 x, ty, pos, aft, gd⟩ (.agg C) a := by
  refine .inl ⟨hw, fun w hS => ?_⟩
  have hl := run_loadAt_mid (P := Tryd.prog) w g 0 133 C.toList _ (range_row (hg w hS)) Tryd.underlying133 rfl (by rw [Tryd.isz133]; simp [hC])
  rw [Array.toArray_toList] at hl
  unfold execOp
  simp only [hx, Sem.run_bind, hl, Result.andThen_ok, Sem.run_pure]
theorem yields198 {y : Operand} {rt : TypeId} {d e : Du} {b : Bool} (hb : decide (d = e) = b) (hw : Region.wanted ⟨dst, .binOp .eql 198 x y rt, ty, pos, aft, gd⟩ (yielded ops a.tmps) = true) (hx : a.eval x = toldV d) (hy : a.eval y = toldV e) :
    YieldsIf Tryd.prog ops S ⟨dst, .binOp .eql 198 x y rt, ty, pos, aft, gd⟩ (.bool b) a := by
  subst hb
  refine .inl ⟨hw, fun w hS => ?_⟩
  have hg : (eqGuard .eql 198 x y (toldV d) (toldV e)).run Tryd.prog w = .ok () w := by unfold toldV; exact run_eqGuard_agg w .eql 198 x y _ _ (by kernel_rfl)
  unfold execOp
  simp only [hx, hy, Sem.run_bind, hg, eql198, Result.andThen_ok, Sem.run_pure]
end
attribute [local go_sem ↓] load30_fold store133_fold

theorem sgC_size (s : Sg) (v : Value) : (sgC s v).size = 10 := rfl
theorem sgC_one (s : Sg) (a : Option Addr) (n c : Nat) : (sgC s (.slice a n c)).all (·.oneCell') = true := one10 _ _ _ _ _ _ _ _ _ _ _ _
set_option maxRecDepth 100000 in
set_option maxHeartbeats 8000000 in
theorem f_go_yes (s : Sg) (v : Value) (C : Array Value) (x : Rc) (lim : Nat) (w : World) (hC : Recish C x) (ok : Okay s) (hs : Stp w v s.steps) (h1 : 1 ≤ lim) (h9 : lim ≤ 9) (hq : x.seq = s.seq) (h0 : s.steps ≠ []) (ho : over s = false) (hwk : s.wait = true → 0 ≤ stepOf s) (hsq1 : s.seq + 1 ≤ 1000000) :
    Calls Tryd.prog 139 #[.agg (sgC s v), .agg C, .int .i64 lim] w (GoPost s v x lim w) := by
  have HW := Lib.hid (wi_true (n := (lim : Int)) (lo := 1) (hi := 9) (by omega) (by omega))
  obtain ⟨g0, g1, g2⟩ := heap_alloc3 w (.cells (sgC s v) 133) (.cells C 30) (.cells Z133 133)
  have K3 := (((Kept.refl (fun _ => False) w).alloc (.cells (sgC s v) 133)).alloc (.cells C 30)).alloc (.cells Z133 133)
  have HH : Hid (∀ {w1 : World}, Kept (fun _ => False) (((w.alloc (.cells (sgC s v) 133)).alloc (.cells C 30)).alloc (.cells Z133 133)) w1 → w1.heap[w.heap.size]? = some (.cells (sgC s v) 133 (0, 0)) ∧ w1.heap[w.heap.size + 1]? = some (.cells C 30 (0, 0)) ∧ w1.heap[w.heap.size + 1 + 1]? = some (.cells Z133 133 (0, 0)) ∧ Kept (fun _ => False) w w1) :=
    fun k => ⟨(k.block _ (by simp; omega) id).trans g0, (k.block _ (by simp) id).trans g1, (k.block _ (by simp) id).trans g2, K3.trans k⟩
  have HS := Lib.hid hs
  have OK := Lib.hid ok
  have HC := Lib.hid hC
  have HSP : Hid (∀ {w1 : World}, Kept (fun _ => False) w w1 → Stp w1 v s.steps) := fun k => hs.kept k
  have hsz := hC.size
  obtain ⟨a, c, rfl⟩ := hs.form
  obtain ⟨D, okd, y, hdr, hD, hdd⟩ := dueR_form s lim
  have HDU : Hid (∀ {w1 : World}, Kept (fun _ => False) w w1 → Calls Tryd.prog 144 #[.agg (sgC s (.slice a s.steps.length c)), .int .i64 lim] w1 fun e w' => e = .returned (.tuple #[.agg D, .bool okd]) ∧ Kept (fun _ => False) w1 w') := fun k => by
    have := f_due s _ lim _ ok (hs.kept k) h1 h9
    rw [hdr] at this; exact this
  have HOV : Hid (∀ w1, Calls Tryd.prog 143 #[.agg (sgC s (.slice a s.steps.length c))] w1 fun e w' => e = .returned (.bool false) ∧ Kept (fun _ => False) w1 w') := fun w1 => by
    have := f_over s (.slice a s.steps.length c) w1
    rw [ho] at this; exact this
  have HDD := Lib.hid hdd
  have hDsz := hD.size
  have hDone := hD.one
  have HD := Lib.hid hD
  have HQ := Lib.hid hq
  have HO := Lib.hid ho
  have H0 := Lib.hid h0
  have HWK := Lib.hid hwk
  obtain ⟨x0, x2, x3, x4, x5, x6, x7⟩ := rec_cells hC (HH.out (Kept.refl _ _)).2.1
  clear g0 g1 g2 K3 hs ok hC hdr hD hdd hq ho hwk x0 x3 x4 x5 x6 x7
  obtain ⟨st, ph, po, tr, wt, bk, dn, un, my, sq⟩ := s
  have q1 : (x.seq == (sq : Int)) = true := by rw [beq_iff_eq]; exact HQ.out
  have q2 : (x.seq != (sq : Int)) = false := by rw [bne, q1]; rfl
  have hl0 : ((st.length : Int) == 0) = false := by rw [beq_eq_false_iff_ne]; have : 0 < st.length := List.length_pos_iff.2 h0; omega
  have hsq : sq ≤ 1000000 := OK.out.seq
  clear h0
  unfold sgC Z133 at *
  dsimp only at *
  go_enter Tryd.func139, Tryd.ntmps139
  go_wp2_with fail
  refine (HOV.out _).mono ?_
  rintro e w1 ⟨rfl, k1⟩
  obtain ⟨g0, g1, g2, k0⟩ := HH.out k1
  obtain ⟨b0, b1, b2, b3, b4, b5, b6, b7, b8, b9⟩ := cells10 g0
  clear x2
  go_wp2_with fail
  refine (f_within_is HW.out _).mono ?_
  rintro e w1' ⟨rfl, rfl⟩
  have z8 := heap_alloc_new w1 (.cells #[.slice none 0 0, .int .i64 0, .int .i64 0, .int .i64 0, .bool false, .bool false, .int .i64 0, .int .i64 0, .int .i64 0, .int .i64 0] 133)
  have kz := ((Kept.refl (fun _ => False) w1).alloc (.cells #[.slice none 0 0, .int .i64 0, .int .i64 0, .int .i64 0, .bool false, .bool false, .int .i64 0, .int .i64 0, .int .i64 0, .int .i64 0] 133)).setRow (g := w1.heap.size) (Nat.le_refl _) #[.slice a st.length c, .int .i64 ph, .int .i64 po, .int .i64 tr, .bool wt, .bool bk, .int .i64 dn, .int .i64 un, .int .i64 my, .int .i64 sq]
  have g8' := setRow_heap _ _ _ #[.slice a st.length c, .int .i64 ph, .int .i64 po, .int .i64 tr, .bool wt, .bool bk, .int .i64 dn, .int .i64 un, .int .i64 my, .int .i64 sq] _ _ z8
  have fr9 := frozen10 g8' 9
  have c89 := (cells10 g8').2.2.2.2.2.2.2.2.2
  go_upto_region 5 with (first | fail | ((with_reducible refine store133 (C := #[.slice a st.length c, .int .i64 ph, .int .i64 po, .int .i64 tr, .bool wt, .bool bk, .int .i64 dn, .int .i64 un, .int .i64 my, .int .i64 sq]) ?_ ?_ z8 (ten _ _ _ _ _ _ _ _ _ _) (ten _ _ _ _ _ _ _ _ _ _) (one10 _ _ _ _ _ _ _ _ _ _ _ _) ?_); rfl; rfl))
  have g8 := setCell_block (k := 9) g8' (.int .i64 ((sq : Int) + 1))
  simp only [List.setIfInBounds_toArray, List.set_cons_succ, List.set_cons_zero] at g8
  have kA : Kept (fun _ => False) w1 (((w1.alloc (.cells #[.slice none 0 0, .int .i64 0, .int .i64 0, .int .i64 0, .bool false, .bool false, .int .i64 0, .int .i64 0, .int .i64 0, .int .i64 0] 133)).setRow w1.heap.size #[.slice a st.length c, .int .i64 ph, .int .i64 po, .int .i64 tr, .bool wt, .bool bk, .int .i64 dn, .int .i64 un, .int .i64 my, .int .i64 sq]).setCell ⟨w1.heap.size, 9, none⟩ (.int .i64 ((sq : Int) + 1))) := kz.setCell (p := ⟨w1.heap.size, 9, none⟩) (.inr (Nat.le_refl _)) _
  clear z8 kz g8' fr9 c89
  have hE8 : w1.heap.size < (((w1.alloc (.cells #[.slice none 0 0, .int .i64 0, .int .i64 0, .int .i64 0, .bool false, .bool false, .int .i64 0, .int .i64 0, .int .i64 0, .int .i64 0] 133)).setRow w1.heap.size #[.slice a st.length c, .int .i64 ph, .int .i64 po, .int .i64 tr, .bool wt, .bool bk, .int .i64 dn, .int .i64 un, .int .i64 my, .int .i64 sq]).setCell ⟨w1.heap.size, 9, none⟩ (.int .i64 ((sq : Int) + 1))).heap.size := (Array.getElem?_eq_some_iff.1 g8).1
  generalize ((w1.alloc (.cells #[.slice none 0 0, .int .i64 0, .int .i64 0, .int .i64 0, .bool false, .bool false, .int .i64 0, .int .i64 0, .int .i64 0, .int .i64 0] 133)).setRow w1.heap.size #[.slice a st.length c, .int .i64 ph, .int .i64 po, .int .i64 tr, .bool wt, .bool bk, .int .i64 dn, .int .i64 un, .int .i64 my, .int .i64 sq]).setCell ⟨w1.heap.size, 9, none⟩ (.int .i64 ((sq : Int) + 1)) = w4 at g8 kA hE8 ⊢
  have k4 := k0.trans kA
  have hB1 : w.heap.size + 1 + 1 < w1.heap.size := (Array.getElem?_eq_some_iff.1 g2).1
  have HG : Hid (∀ {w2 : World}, Kept (fun _ => False) w4 w2 → w2.heap[w.heap.size]? = some (.cells #[.slice a st.length c, .int .i64 ph, .int .i64 po, .int .i64 tr, .bool wt, .bool bk, .int .i64 dn, .int .i64 un, .int .i64 my, .int .i64 sq] 133 (0, 0)) ∧ w2.heap[w.heap.size + 1]? = some (.cells C 30 (0, 0)) ∧ w2.heap[w.heap.size + 1 + 1]? = some (.cells Z133 133 (0, 0)) ∧ w2.heap[w1.heap.size]? = some (.cells #[.slice a st.length c, .int .i64 ph, .int .i64 po, .int .i64 tr, .bool wt, .bool bk, .int .i64 dn, .int .i64 un, .int .i64 my, .int .i64 ((sq : Int) + 1)] 133 (0, 0))) := fun k =>
    ⟨((kA.trans k).block _ (by omega) id).trans g0, ((kA.trans k).block _ (by omega) id).trans g1, ((kA.trans k).block _ (by omega) id).trans g2, (k.block _ hE8 id).trans g8⟩
  clear b0 b1 b2 b3 b4 b5 b6 b7 b8 b9 g0 g1 g2 g8 kA k1 HH
  obtain ⟨b0, b1, b2, b3, b4, b5, b6, b7, b8, b9⟩ := cells10 (HG.out (Kept.refl _ _)).1
  go_wp2_with fail
  refine (HDU.out k4).mono ?_
  rintro e w2 ⟨rfl, k2⟩
  have hn := heap_alloc_new w2 (.cells Z30 30)
  have h9' := setRow_heap _ _ _ D _ _ hn
  have kB := ((k2.alloc (.cells Z30 30)).setRow (g := w2.heap.size) (by have := k2.size; omega) D)
  obtain ⟨g0, g1, g2, g8⟩ := HG.out kB
  have k5 := k4.trans kB
  have hl8 : w1.heap.size < w2.heap.size := by have := k2.size; omega
  clear b0 b1 b2 b3 b4 b5 b6 b7 b8 b9 k2 kB k4 HG hE8
  go_upto_region 6 with (first | fail | (with_reducible refine alloc30 ?_) | ((with_reducible refine store30 (C := D) ?_ ?_ hn hz30 hDsz hDone ?_); rfl; rfl))
  clear hn
  generalize (w2.alloc (.cells Z30 30)).setRow w2.heap.size D = w5 at h9' g0 g1 g2 g8 k5 ⊢
  generalize w2.heap.size = E9 at h9' hl8 ⊢
  generalize w1.heap.size = E8 at g8 hl8 hB1 ⊢
  have HR : Hid (∀ {w' : World} (X : Array Value), Kept (fun k => k = E8) w5 w' → w'.heap[w.heap.size + 1 + 1]? = some (.cells Z133 133 (0, 0)) ∧ Kept (fun _ => False) w (w'.setRow (w.heap.size + 1 + 1) X)) := fun X k => by
    refine ⟨(k.block _ (Array.getElem?_eq_some_iff.1 g2).1 (by show ¬ _ = _; omega)).trans g2, ?_⟩
    exact (k5.trans' (k.mono (T := fun k => w.heap.size ≤ k) (fun i _ h => by have h : i = E8 := h; show _ ≤ _; omega)) (fun i hi h => by omega)).setRow (by omega) X
  obtain ⟨b0, b1, b2, b3, b4, b5, b6, b7, b8, b9⟩ := cells10 g0
  obtain ⟨x0, x2, x3, x4, x5, x6, x7⟩ := rec_cells HC.out g1
  by_cases k2 : x.kind = 2
  · obtain ⟨t0, t1, t2, t3, t4, t5, t6, t7, t8, t9⟩ := cells10 g8
    have f3 := frozen10 g8 3
    have f4 := frozen10 g8 4
    have f5 := frozen10 g8 5
    have K2 := Lib.hid k2
    have G0 := Lib.hid g0
    have G1 := Lib.hid g1
    have G8 := Lib.hid g8
    rw [k2] at x0
    clear k2 g0 g1 g2 g8
    go_wp2_with fail
    go_region
    have e8 := setCell_block (k := 5) (setCell_block (k := 3) (setCell_block (k := 4) G8.out (.bool true)) (.int .i64 x.tr)) (.bool x.bk)
    simp only [List.setIfInBounds_toArray, List.set_cons_succ, List.set_cons_zero] at e8
    have k6 := ((((Kept.refl (fun k => k = E8) w5).setCell (p := ⟨E8, 4, none⟩) (.inl rfl) (.bool true)).setCell (p := ⟨E8, 3, none⟩) (.inl rfl) (.int .i64 x.tr)).setCell (p := ⟨E8, 5, none⟩) (.inl rfl) (.bool x.bk)).drew
    have e8' : ((((w5.setCell ⟨E8, 4, none⟩ (.bool true)).setCell ⟨E8, 3, none⟩ (.int .i64 x.tr)).setCell ⟨E8, 5, none⟩ (.bool x.bk)).drew).heap[E8]? = _ := e8
    have H9 := Lib.hid h9'
    clear b0 b1 b2 b3 b4 b5 b6 b7 b8 b9 t0 t1 t2 t3 t4 t5 t6 t7 t8 t9 x0 x2 x3 x4 x5 x6 x7 f3 f4 f5 h9' e8
    go_upto_region 12 with (fail)
    generalize (((w5.setCell ⟨E8, 4, none⟩ (.bool true)).setCell ⟨E8, 3, none⟩ (.int .i64 x.tr)).setCell ⟨E8, 5, none⟩ (.bool x.bk)).drew = w6 at k6 e8' ⊢
    have HX : Hid (∀ {w' : World}, Kept (fun _ => False) w6 w' → w'.heap[w.heap.size]? = some (.cells #[.slice a st.length c, .int .i64 ph, .int .i64 po, .int .i64 tr, .bool wt, .bool bk, .int .i64 dn, .int .i64 un, .int .i64 my, .int .i64 sq] 133 (0, 0)) ∧ w'.heap[w.heap.size + 1]? = some (.cells C 30 (0, 0)) ∧ w'.heap[w.heap.size + 1 + 1]? = some (.cells Z133 133 (0, 0)) ∧ w'.heap[E8]? = some (.cells #[.slice a st.length c, .int .i64 ph, .int .i64 po, .int .i64 x.tr, .bool true, .bool x.bk, .int .i64 dn, .int .i64 un, .int .i64 my, .int .i64 ((sq : Int) + 1)] 133 (0, 0)) ∧ w'.heap[E9]? = some (.cells D 30 (0, 0)) ∧ Kept (fun k => k = E8) w5 w') := fun k => by
      have kk := k6.trans (k.mono (T := fun k => k = E8) fun _ _ h => h.elim)
      refine ⟨(kk.block _ (Array.getElem?_eq_some_iff.1 G0.out).1 (by show ¬ _ = _; omega)).trans G0.out, (kk.block _ (Array.getElem?_eq_some_iff.1 G1.out).1 (by show ¬ _ = _; omega)).trans G1.out, (HR.out #[] kk).1, (k.block _ (Array.getElem?_eq_some_iff.1 e8').1 id).trans e8', (kk.block _ (Array.getElem?_eq_some_iff.1 H9.out).1 (by show ¬ _ = _; omega)).trans H9.out, kk⟩
    have HS2 : Hid (∀ {w' : World}, Kept (fun k => k = w.heap.size + 1 + 1) w6 w' → w'.heap[w.heap.size]? = some (.cells #[.slice a st.length c, .int .i64 ph, .int .i64 po, .int .i64 tr, .bool wt, .bool bk, .int .i64 dn, .int .i64 un, .int .i64 my, .int .i64 sq] 133 (0, 0)) ∧ w'.heap[w.heap.size + 1]? = some (.cells C 30 (0, 0)) ∧ w'.heap[E8]? = some (.cells #[.slice a st.length c, .int .i64 ph, .int .i64 po, .int .i64 x.tr, .bool true, .bool x.bk, .int .i64 dn, .int .i64 un, .int .i64 my, .int .i64 ((sq : Int) + 1)] 133 (0, 0)) ∧ w'.heap[E9]? = some (.cells D 30 (0, 0))) := fun k => by
      obtain ⟨a1, a2, _, a4, a5, _⟩ := HX.out (Kept.refl _ _)
      exact ⟨(k.block _ (Array.getElem?_eq_some_iff.1 a1).1 (by show ¬ _ = _; omega)).trans a1, (k.block _ (Array.getElem?_eq_some_iff.1 a2).1 (by show ¬ _ = _; omega)).trans a2, (k.block _ (Array.getElem?_eq_some_iff.1 a4).1 (by show ¬ _ = _; omega)).trans a4, (k.block _ (Array.getElem?_eq_some_iff.1 a5).1 (by show ¬ _ = _; omega)).trans a5⟩
    have KF : Hid (∀ {w' : World} (X : Array Value), Kept (fun _ => False) w6 w' → (w'.heap[w.heap.size + 1 + 1]? = some (.cells Z133 133 (0, 0))) ∧ Kept (fun _ => False) w (w'.setRow (w.heap.size + 1 + 1) X)) := fun X k => HR.out X (HX.out k).2.2.2.2.2
    have kd : Kept (fun _ => False) w6 w6.drew := (Kept.refl _ _).drew
    have hsS : Kept (fun k => k = w.heap.size + 1 + 1) w6 w6.drew := (Kept.refl _ _).drew
    clear k6 e8'
    cases okd with
    | false =>
      have E : Hid (go ⟨st, ph, po, tr, wt, bk, dn, un, my, sq⟩ x lim = none) := by
        show go _ _ _ = _
        rw [go, if_neg (by rw [HQ.out, HO.out]; simp; exact H0.out), if_pos K2.out, if_neg (by rw [HDD.out]; simp)]
      refine wp_region_held_drew (S := fun w' => Kept (fun k => k = w.heap.size + 1 + 1) w6 w') (by kernel_rfl) hsS (fun hHeld => ?_)
      refine wpAnyH_take (i := 0) (oi := ⟨some 59, _, _, _, _, _⟩) (v := .agg #[.slice a st.length c, .int .i64 ph, .int .i64 po, .int .i64 tr, .bool wt, .bool bk, .int .i64 dn, .int .i64 un, .int .i64 my, .int .i64 sq]) rfl (by kernel_rfl) (by kernel_rfl) (by kernel_rfl) (fun _ _ _ h => h) (yields133 (by rfl) (by rfl) (fun _ h => (HS2.out h).1) (ten _ _ _ _ _ _ _ _ _ _)) (by assumption) ?_
      try simp only [Act.put, List.setIfInBounds_toArray, List.set_cons_succ, List.set_cons_zero]
      refine wpAnyH_take (i := 1) (oi := ⟨some 60, _, _, _, _, _⟩) (v := .agg #[.slice a st.length c, .int .i64 ph, .int .i64 po, .int .i64 x.tr, .bool true, .bool x.bk, .int .i64 dn, .int .i64 un, .int .i64 my, .int .i64 ((sq : Int) + 1)]) rfl (by kernel_rfl) (by kernel_rfl) (by kernel_rfl) (fun _ _ _ h => h) (yields133 (by rfl) (by rfl) (fun _ h => (HS2.out h).2.2.1) (ten _ _ _ _ _ _ _ _ _ _)) (by assumption) ?_
      try simp only [Act.put, List.setIfInBounds_toArray, List.set_cons_succ, List.set_cons_zero]
      refine wpAnyH_take (i := 2) (oi := ⟨some 61, _, _, _, _, _⟩) (v := .bool false) rfl (by kernel_rfl) (by kernel_rfl) (by kernel_rfl) (fun _ _ _ h => h) (Or.inl ⟨by rfl, fun _ _ => by rfl⟩) (by assumption) ?_
      try simp only [Act.put, List.setIfInBounds_toArray, List.set_cons_succ, List.set_cons_zero]
      refine wpAnyH_take (i := 3) (oi := ⟨some 62, _, _, _, _, _⟩) (v := .bool false) rfl (by kernel_rfl) (by kernel_rfl) (by kernel_rfl) (fun _ _ _ h => h) (Or.inl ⟨by rfl, fun _ _ => by rfl⟩) (by assumption) ?_
      try simp only [Act.put, List.setIfInBounds_toArray, List.set_cons_succ, List.set_cons_zero]
      refine wpAnyH_take (i := 4) (oi := ⟨some 63, _, _, _, _, _⟩) (v := undef) rfl (by kernel_rfl) (by kernel_rfl) (by kernel_rfl) (fun _ _ _ h => h) (Or.inr ⟨by kernel_rfl, rfl⟩) (by assumption) ?_
      try simp only [Act.put, List.setIfInBounds_toArray, List.set_cons_succ, List.set_cons_zero]
      refine wpAnyH_take (i := 5) (oi := ⟨some 64, _, _, _, _, _⟩) (v := undef) rfl (by kernel_rfl) (by kernel_rfl) (by kernel_rfl) (fun _ _ _ h => h) (Or.inr ⟨by kernel_rfl, rfl⟩) (by assumption) ?_
      try simp only [Act.put, List.setIfInBounds_toArray, List.set_cons_succ, List.set_cons_zero]
      refine wpAnyH_take (i := 6) (oi := ⟨some 65, _, _, _, _, _⟩) (v := undef) rfl (by kernel_rfl) (by kernel_rfl) (by kernel_rfl) (fun _ _ _ h => h) (Or.inr ⟨by kernel_rfl, rfl⟩) (by assumption) ?_
      try simp only [Act.put, List.setIfInBounds_toArray, List.set_cons_succ, List.set_cons_zero]
      refine wpAnyH_take (i := 7) (oi := ⟨some 66, _, _, _, _, _⟩) (v := undef) rfl (by kernel_rfl) (by kernel_rfl) (by kernel_rfl) (fun _ _ _ h => h) (Or.inr ⟨by kernel_rfl, rfl⟩) (by assumption) ?_
      try simp only [Act.put, List.setIfInBounds_toArray, List.set_cons_succ, List.set_cons_zero]
      refine wpAnyH_take (i := 8) (oi := ⟨some 67, _, _, _, _, _⟩) (v := undef) rfl (by kernel_rfl) (by kernel_rfl) (by kernel_rfl) (fun _ _ _ h => h) (Or.inr ⟨by kernel_rfl, rfl⟩) (by assumption) ?_
      try simp only [Act.put, List.setIfInBounds_toArray, List.set_cons_succ, List.set_cons_zero]
      refine wpAnyH_take (i := 9) (oi := ⟨some 68, _, _, _, _, _⟩) (v := .bool false) rfl (by kernel_rfl) (by kernel_rfl) (by kernel_rfl) (fun _ _ _ h => h) (Or.inl ⟨by kernel_rfl, fun _ _ => by go_simp⟩) (by assumption) ?_
      try simp only [Act.put, List.setIfInBounds_toArray, List.set_cons_succ, List.set_cons_zero]
      refine wpAnyH_ready (rs := [10]) (by kernel_rfl) (by simp) ?_
      refine AllReadyH.cons (o := _) rfl (fun K hK => ?_) AllReadyH.nil
      go_simp
      refine (f_pick _ _ _ _ _ _ _ _ _ _ _ _ _ _ _ _ _ _ _ _ _ _ _ _ _ _).mono ?_
      rintro e wx3 ⟨rfl, kx3⟩
      have kk3 := kd.trans kx3
      have hS3 : Kept (fun k => k = w.heap.size + 1 + 1) w6 wx3 := kk3.mono fun _ _ h => h.elim
      have hst := store133_of (C := #[.slice a st.length c, .int .i64 ph, .int .i64 po, .int .i64 tr, .bool wt, .bool bk, .int .i64 dn, .int .i64 un, .int .i64 my, .int .i64 sq]) (KF.out #[] kk3).1 hz133 (ten _ _ _ _ _ _ _ _ _ _) (one10 _ _ _ _ _ _ _ _ _ _ _ _)
      go_wp2_with fail
      refine hK.out _ _ hS3 (fun hHeld => ?_)
      clear hK K
      try simp only [Act.put, List.setIfInBounds_toArray, List.set_cons_succ, List.set_cons_zero]
      refine wpAnyH_take (i := 11) (oi := ⟨some 70, _, _, _, _, _⟩) (v := .agg #[.slice a st.length c, .int .i64 ph, .int .i64 po, .int .i64 tr, .bool wt, .bool bk, .int .i64 dn, .int .i64 un, .int .i64 my, .int .i64 sq]) rfl (by kernel_rfl) (by kernel_rfl) (by kernel_rfl) (fun _ _ _ h => h) (Or.inl ⟨by kernel_rfl, fun _ _ => by go_simp⟩) (by assumption) ?_
      try simp only [Act.put, List.setIfInBounds_toArray, List.set_cons_succ, List.set_cons_zero]
      refine wpAnyH_take (i := 12) (oi := ⟨some 71, _, _, _, _, _⟩) (v := .bool false) rfl (by kernel_rfl) (by kernel_rfl) (by kernel_rfl) (fun _ _ _ h => h) (Or.inl ⟨by kernel_rfl, fun _ _ => by go_simp⟩) (by assumption) ?_
      try simp only [Act.put, List.setIfInBounds_toArray, List.set_cons_succ, List.set_cons_zero]
      refine wpAnyH_ready (rs := [13]) (by kernel_rfl) (by simp) ?_
      refine AllReadyH.cons (o := _) rfl (fun K hK => ?_) AllReadyH.nil
      go_simp
      have hS4 : Kept (fun k => k = w.heap.size + 1 + 1) w6 (wx3.setRow (w.heap.size + 1 + 1) #[.slice a st.length c, .int .i64 ph, .int .i64 po, .int .i64 tr, .bool wt, .bool bk, .int .i64 dn, .int .i64 un, .int .i64 my, .int .i64 sq]) := hS3.setRow' rfl _
      refine hK.out _ _ hS4 (fun hHeld => ?_)
      clear hK K hst
      try simp only [Act.put, List.setIfInBounds_toArray, List.set_cons_succ, List.set_cons_zero]
      refine wpAnyH_take (i := 14) (oi := ⟨some 7, _, _, _, _, _⟩) (v := .bool false) rfl (by kernel_rfl) (by kernel_rfl) (by kernel_rfl) (fun _ _ _ h => h) (Or.inl ⟨by kernel_rfl, fun _ _ => by go_simp⟩) (by assumption) ?_
      try simp only [Act.put, List.setIfInBounds_toArray, List.set_cons_succ, List.set_cons_zero]
      refine wpAnyH_done (by kernel_rfl) ?_ _
      have KK3 := Lib.hid kk3
      clear kk3 kx3 hS3 hS4
      go_wp2_with fail
      exact bodyPost_ret (results_go (v := .bool false) rfl _ _ _ (setRow_heap _ _ _ _ _ _ (KF.out #[] KK3.out).1) rfl (by first | rfl | simp) (by first | rfl | simp)) rfl (GoPost.no E.out rfl (KF.out _ KK3.out).2)
    | true =>
      refine wp_region_held_drew (S := fun w' => Kept (fun k => k = w.heap.size + 1 + 1) w6 w') (by kernel_rfl) hsS (fun hHeld => ?_)
      refine wpAnyH_take (i := 0) (oi := ⟨some 59, _, _, _, _, _⟩) (v := .agg #[.slice a st.length c, .int .i64 ph, .int .i64 po, .int .i64 tr, .bool wt, .bool bk, .int .i64 dn, .int .i64 un, .int .i64 my, .int .i64 sq]) rfl (by kernel_rfl) (by kernel_rfl) (by kernel_rfl) (fun _ _ _ h => h) (yields133 (by rfl) (by rfl) (fun _ h => (HS2.out h).1) (ten _ _ _ _ _ _ _ _ _ _)) (by assumption) ?_
      try simp only [Act.put, List.setIfInBounds_toArray, List.set_cons_succ, List.set_cons_zero]
      refine wpAnyH_take (i := 1) (oi := ⟨some 60, _, _, _, _, _⟩) (v := .agg #[.slice a st.length c, .int .i64 ph, .int .i64 po, .int .i64 x.tr, .bool true, .bool x.bk, .int .i64 dn, .int .i64 un, .int .i64 my, .int .i64 ((sq : Int) + 1)]) rfl (by kernel_rfl) (by kernel_rfl) (by kernel_rfl) (fun _ _ _ h => h) (yields133 (by rfl) (by rfl) (fun _ h => (HS2.out h).2.2.1) (ten _ _ _ _ _ _ _ _ _ _)) (by assumption) ?_
      try simp only [Act.put, List.setIfInBounds_toArray, List.set_cons_succ, List.set_cons_zero]
      refine wpAnyH_take (i := 2) (oi := ⟨some 61, _, _, _, _, _⟩) (v := .bool true) rfl (by kernel_rfl) (by kernel_rfl) (by kernel_rfl) (fun _ _ _ h => h) (Or.inl ⟨by rfl, fun _ _ => by rfl⟩) (by assumption) ?_
      try simp only [Act.put, List.setIfInBounds_toArray, List.set_cons_succ, List.set_cons_zero]
      refine wpAnyH_take (i := 3) (oi := ⟨some 62, _, _, _, _, _⟩) (v := .bool true) rfl (by kernel_rfl) (by kernel_rfl) (by kernel_rfl) (fun _ _ _ h => h) (Or.inl ⟨by rfl, fun _ _ => by rfl⟩) (by assumption) ?_
      try simp only [Act.put, List.setIfInBounds_toArray, List.set_cons_succ, List.set_cons_zero]
      refine wpAnyH_take (i := 4) (oi := ⟨some 63, _, _, _, _, _⟩) (v := .agg D) rfl (by kernel_rfl) (by kernel_rfl) (by kernel_rfl) (fun _ _ _ h => h) (yields30 (by kernel_rfl) (by rfl) (fun _ h => (HS2.out h).2.2.2) hDsz) (by assumption) ?_
      try simp only [Act.put, List.setIfInBounds_toArray, List.set_cons_succ, List.set_cons_zero]
      refine wpAnyH_take (i := 6) (oi := ⟨some 65, _, _, _, _, _⟩) (v := .agg C) rfl (by kernel_rfl) (by kernel_rfl) (by kernel_rfl) (fun _ _ _ h => h) (yields30 (by kernel_rfl) (by rfl) (fun _ h => (HS2.out h).2.1) hsz) (by assumption) ?_
      try simp only [Act.put, List.setIfInBounds_toArray, List.set_cons_succ, List.set_cons_zero]
      refine wpAnyH_ready (rs := [5]) (by kernel_rfl) (by simp) ?_
      refine AllReadyH.cons (o := _) rfl (fun K hK => ?_) AllReadyH.nil
      go_simp
      refine (f_of HD.out _).mono ?_
      rintro e wx1 ⟨rfl, kx1⟩
      have kk1 := kd.trans kx1
      have hS1 : Kept (fun k => k = w.heap.size + 1 + 1) w6 wx1 := kk1.mono fun _ _ h => h.elim
      go_wp2_with fail
      refine hK.out _ _ hS1 (fun hHeld => ?_)
      clear hK K
      try simp only [Act.put, List.setIfInBounds_toArray, List.set_cons_succ, List.set_cons_zero]
      refine wpAnyH_ready (rs := [7]) (by kernel_rfl) (by simp) ?_
      refine AllReadyH.cons (o := _) rfl (fun K hK => ?_) AllReadyH.nil
      go_simp
      refine (f_of HC.out _).mono ?_
      rintro e wx2 ⟨rfl, kx2⟩
      have kk2 := kk1.trans kx2
      have hS2 : Kept (fun k => k = w.heap.size + 1 + 1) w6 wx2 := kk2.mono fun _ _ h => h.elim
      go_wp2_with fail
      refine hK.out _ _ hS2 (fun hHeld => ?_)
      clear hK K
      try simp only [Act.put, List.setIfInBounds_toArray, List.set_cons_succ, List.set_cons_zero]
      by_cases he : told y = told x
      · have hb : decide (told y = told x) = true := by simp [he]
        have hdu : Plain.due ⟨st, ph, po, tr, wt, bk, dn, un, my, sq⟩ lim = some (told x) := by rw [HDD.out, if_pos trivial, he]
        have E : Hid (go ⟨st, ph, po, tr, wt, bk, dn, un, my, sq⟩ x lim = some (sent ⟨st, ph, po, tr, wt, bk, dn, un, my, sq⟩ (told x))) := by
          show go _ _ _ = _
          rw [go, if_neg (by rw [HQ.out, HO.out]; simp; exact H0.out), if_pos K2.out, if_pos hdu]
        have ET : Hid (#[.slice a st.length c, .int .i64 ph, .int .i64 po, .int .i64 x.tr, .bool true, .bool x.bk, .int .i64 dn, .int .i64 un, .int .i64 my, .int .i64 ((sq : Int) + 1)] = sgC (sent ⟨st, ph, po, tr, wt, bk, dn, un, my, sq⟩ (told x)) (.slice a st.length c)) := by
          show _ = _
          obtain ⟨_, _, _, h | h | h | h⟩ := due_cases hdu
          · have := congrArg Du.kind h.2.2; have h2 : x.kind = 5 := this; rw [K2.out] at h2; cases h2
          · have := congrArg Du.kind h.2.2; have h2 : x.kind = 5 := this; rw [K2.out] at h2; cases h2
          · have h2 : x.tr = (tr : Int) + 1 := congrArg Du.tr h.2.2
            have h3 : ((x.tr.toNat : Nat) : Int) = x.tr := by omega
            unfold sgC sent told
            simp only [h3]
            simp
          · have := congrArg Du.kind h.2.2; have h2 : x.kind = 5 := this; rw [K2.out] at h2; cases h2
        clear he hdu
        refine wpAnyH_take (i := 8) (oi := ⟨some 67, _, _, _, _, _⟩) (v := .bool true) rfl (by kernel_rfl) (by kernel_rfl) (by kernel_rfl) (fun _ _ _ h => h) (yields198 hb (by kernel_rfl) (by rfl) (by rfl)) (by assumption) ?_
        try simp only [Act.put, List.setIfInBounds_toArray, List.set_cons_succ, List.set_cons_zero]
        refine wpAnyH_take (i := 9) (oi := ⟨some 68, _, _, _, _, _⟩) (v := .bool true) rfl (by kernel_rfl) (by kernel_rfl) (by kernel_rfl) (fun _ _ _ h => h) (Or.inl ⟨by kernel_rfl, fun _ _ => by go_simp⟩) (by assumption) ?_
        try simp only [Act.put, List.setIfInBounds_toArray, List.set_cons_succ, List.set_cons_zero]
        refine wpAnyH_ready (rs := [10]) (by kernel_rfl) (by simp) ?_
        refine AllReadyH.cons (o := _) rfl (fun K hK => ?_) AllReadyH.nil
        go_simp
        refine (f_pick _ _ _ _ _ _ _ _ _ _ _ _ _ _ _ _ _ _ _ _ _ _ _ _ _ _).mono ?_
        rintro e wx3 ⟨rfl, kx3⟩
        have kk3 := (kk2).trans kx3
        have hS3 : Kept (fun k => k = w.heap.size + 1 + 1) w6 wx3 := kk3.mono fun _ _ h => h.elim
        have hst := store133_of (C := #[.slice a st.length c, .int .i64 ph, .int .i64 po, .int .i64 x.tr, .bool true, .bool x.bk, .int .i64 dn, .int .i64 un, .int .i64 my, .int .i64 ((sq : Int) + 1)]) (KF.out #[] kk3).1 hz133 (ten _ _ _ _ _ _ _ _ _ _) (one10 _ _ _ _ _ _ _ _ _ _ _ _)
        go_wp2_with fail
        refine hK.out _ _ hS3 (fun hHeld => ?_)
        clear hK K
        try simp only [Act.put, List.setIfInBounds_toArray, List.set_cons_succ, List.set_cons_zero]
        refine wpAnyH_take (i := 11) (oi := ⟨some 70, _, _, _, _, _⟩) (v := .agg #[.slice a st.length c, .int .i64 ph, .int .i64 po, .int .i64 x.tr, .bool true, .bool x.bk, .int .i64 dn, .int .i64 un, .int .i64 my, .int .i64 ((sq : Int) + 1)]) rfl (by kernel_rfl) (by kernel_rfl) (by kernel_rfl) (fun _ _ _ h => h) (Or.inl ⟨by kernel_rfl, fun _ _ => by go_simp⟩) (by assumption) ?_
        try simp only [Act.put, List.setIfInBounds_toArray, List.set_cons_succ, List.set_cons_zero]
        refine wpAnyH_take (i := 12) (oi := ⟨some 71, _, _, _, _, _⟩) (v := .bool true) rfl (by kernel_rfl) (by kernel_rfl) (by kernel_rfl) (fun _ _ _ h => h) (Or.inl ⟨by kernel_rfl, fun _ _ => by go_simp⟩) (by assumption) ?_
        try simp only [Act.put, List.setIfInBounds_toArray, List.set_cons_succ, List.set_cons_zero]
        refine wpAnyH_ready (rs := [13]) (by kernel_rfl) (by simp) ?_
        refine AllReadyH.cons (o := _) rfl (fun K hK => ?_) AllReadyH.nil
        go_simp
        have hS4 : Kept (fun k => k = w.heap.size + 1 + 1) w6 (wx3.setRow (w.heap.size + 1 + 1) #[.slice a st.length c, .int .i64 ph, .int .i64 po, .int .i64 x.tr, .bool true, .bool x.bk, .int .i64 dn, .int .i64 un, .int .i64 my, .int .i64 ((sq : Int) + 1)]) := hS3.setRow' rfl _
        refine hK.out _ _ hS4 (fun hHeld => ?_)
        clear hK K hst
        try simp only [Act.put, List.setIfInBounds_toArray, List.set_cons_succ, List.set_cons_zero]
        refine wpAnyH_take (i := 14) (oi := ⟨some 7, _, _, _, _, _⟩) (v := .bool true) rfl (by kernel_rfl) (by kernel_rfl) (by kernel_rfl) (fun _ _ _ h => h) (Or.inl ⟨by kernel_rfl, fun _ _ => by go_simp⟩) (by assumption) ?_
        try simp only [Act.put, List.setIfInBounds_toArray, List.set_cons_succ, List.set_cons_zero]
        refine wpAnyH_done (by kernel_rfl) ?_ _
        have KK3 := Lib.hid kk3
        clear kk3 kx3 hS3 hS4
        go_wp2_with fail
        exact bodyPost_ret (results_go (v := .bool true) rfl _ _ _ (setRow_heap _ _ _ _ _ _ (KF.out #[] KK3.out).1) rfl (by first | rfl | simp) (by first | rfl | simp)) rfl (GoPost.yes E.out ET.out (KF.out _ KK3.out).2)
      · have hb : decide (told y = told x) = false := by simp [he]
        have E : Hid (go ⟨st, ph, po, tr, wt, bk, dn, un, my, sq⟩ x lim = none) := by
          show go _ _ _ = _
          rw [go, if_neg (by rw [HQ.out, HO.out]; simp; exact H0.out), if_pos K2.out, if_neg (by rw [HDD.out, if_pos trivial]; intro h; exact he (Option.some.inj h))]
        clear he
        refine wpAnyH_take (i := 8) (oi := ⟨some 67, _, _, _, _, _⟩) (v := .bool false) rfl (by kernel_rfl) (by kernel_rfl) (by kernel_rfl) (fun _ _ _ h => h) (yields198 hb (by kernel_rfl) (by rfl) (by rfl)) (by assumption) ?_
        try simp only [Act.put, List.setIfInBounds_toArray, List.set_cons_succ, List.set_cons_zero]
        refine wpAnyH_take (i := 9) (oi := ⟨some 68, _, _, _, _, _⟩) (v := .bool false) rfl (by kernel_rfl) (by kernel_rfl) (by kernel_rfl) (fun _ _ _ h => h) (Or.inl ⟨by kernel_rfl, fun _ _ => by go_simp⟩) (by assumption) ?_
        try simp only [Act.put, List.setIfInBounds_toArray, List.set_cons_succ, List.set_cons_zero]
        refine wpAnyH_ready (rs := [10]) (by kernel_rfl) (by simp) ?_
        refine AllReadyH.cons (o := _) rfl (fun K hK => ?_) AllReadyH.nil
        go_simp
        refine (f_pick _ _ _ _ _ _ _ _ _ _ _ _ _ _ _ _ _ _ _ _ _ _ _ _ _ _).mono ?_
        rintro e wx3 ⟨rfl, kx3⟩
        have kk3 := (kk2).trans kx3
        have hS3 : Kept (fun k => k = w.heap.size + 1 + 1) w6 wx3 := kk3.mono fun _ _ h => h.elim
        have hst := store133_of (C := #[.slice a st.length c, .int .i64 ph, .int .i64 po, .int .i64 tr, .bool wt, .bool bk, .int .i64 dn, .int .i64 un, .int .i64 my, .int .i64 sq]) (KF.out #[] kk3).1 hz133 (ten _ _ _ _ _ _ _ _ _ _) (one10 _ _ _ _ _ _ _ _ _ _ _ _)
        go_wp2_with fail
        refine hK.out _ _ hS3 (fun hHeld => ?_)
        clear hK K
        try simp only [Act.put, List.setIfInBounds_toArray, List.set_cons_succ, List.set_cons_zero]
        refine wpAnyH_take (i := 11) (oi := ⟨some 70, _, _, _, _, _⟩) (v := .agg #[.slice a st.length c, .int .i64 ph, .int .i64 po, .int .i64 tr, .bool wt, .bool bk, .int .i64 dn, .int .i64 un, .int .i64 my, .int .i64 sq]) rfl (by kernel_rfl) (by kernel_rfl) (by kernel_rfl) (fun _ _ _ h => h) (Or.inl ⟨by kernel_rfl, fun _ _ => by go_simp⟩) (by assumption) ?_
        try simp only [Act.put, List.setIfInBounds_toArray, List.set_cons_succ, List.set_cons_zero]
        refine wpAnyH_take (i := 12) (oi := ⟨some 71, _, _, _, _, _⟩) (v := .bool false) rfl (by kernel_rfl) (by kernel_rfl) (by kernel_rfl) (fun _ _ _ h => h) (Or.inl ⟨by kernel_rfl, fun _ _ => by go_simp⟩) (by assumption) ?_
        try simp only [Act.put, List.setIfInBounds_toArray, List.set_cons_succ, List.set_cons_zero]
        refine wpAnyH_ready (rs := [13]) (by kernel_rfl) (by simp) ?_
        refine AllReadyH.cons (o := _) rfl (fun K hK => ?_) AllReadyH.nil
        go_simp
        have hS4 : Kept (fun k => k = w.heap.size + 1 + 1) w6 (wx3.setRow (w.heap.size + 1 + 1) #[.slice a st.length c, .int .i64 ph, .int .i64 po, .int .i64 tr, .bool wt, .bool bk, .int .i64 dn, .int .i64 un, .int .i64 my, .int .i64 sq]) := hS3.setRow' rfl _
        refine hK.out _ _ hS4 (fun hHeld => ?_)
        clear hK K hst
        try simp only [Act.put, List.setIfInBounds_toArray, List.set_cons_succ, List.set_cons_zero]
        refine wpAnyH_take (i := 14) (oi := ⟨some 7, _, _, _, _, _⟩) (v := .bool false) rfl (by kernel_rfl) (by kernel_rfl) (by kernel_rfl) (fun _ _ _ h => h) (Or.inl ⟨by kernel_rfl, fun _ _ => by go_simp⟩) (by assumption) ?_
        try simp only [Act.put, List.setIfInBounds_toArray, List.set_cons_succ, List.set_cons_zero]
        refine wpAnyH_done (by kernel_rfl) ?_ _
        have KK3 := Lib.hid kk3
        clear kk3 kx3 hS3 hS4
        go_wp2_with fail
        exact bodyPost_ret (results_go (v := .bool false) rfl _ _ _ (setRow_heap _ _ _ _ _ _ (KF.out #[] KK3.out).1) rfl (by first | rfl | simp) (by first | rfl | simp)) rfl (GoPost.no E.out rfl (KF.out _ KK3.out).2)
  by_cases kc5 : x.kind = 5
  · obtain ⟨t0, t1, t2, t3, t4, t5, t6, t7, t8, t9⟩ := cells10 g8
    have f1 := frozen10 g8 1
    have K5 := Lib.hid kc5
    have G0 := Lib.hid g0
    have G1 := Lib.hid g1
    have G8 := Lib.hid g8
    rw [kc5] at x0
    clear kc5 k2 g0 g1 g2 g8
    go_upto_region 14 with (fail)
    have e8' := setCell_block (k := 1) G8.out (.int .i64 x.nd)
    simp only [List.setIfInBounds_toArray, List.set_cons_succ, List.set_cons_zero] at e8'
    have k6 := (Kept.refl (fun k => k = E8) w5).setCell (p := ⟨E8, 1, none⟩) (.inl rfl) (.int .i64 x.nd)
    have H9 := Lib.hid h9'
    clear b0 b1 b2 b3 b4 b5 b6 b7 b8 b9 t0 t1 t2 t3 t4 t5 t6 t7 t8 t9 x0 x2 x3 x4 x5 x6 x7 f1 h9'
    generalize w5.setCell ⟨E8, 1, none⟩ (.int .i64 x.nd) = w6 at k6 e8' ⊢
    have HX : Hid (∀ {w' : World}, Kept (fun _ => False) w6 w' → w'.heap[w.heap.size]? = some (.cells #[.slice a st.length c, .int .i64 ph, .int .i64 po, .int .i64 tr, .bool wt, .bool bk, .int .i64 dn, .int .i64 un, .int .i64 my, .int .i64 sq] 133 (0, 0)) ∧ w'.heap[w.heap.size + 1]? = some (.cells C 30 (0, 0)) ∧ w'.heap[w.heap.size + 1 + 1]? = some (.cells Z133 133 (0, 0)) ∧ w'.heap[E8]? = some (.cells #[.slice a st.length c, .int .i64 x.nd, .int .i64 po, .int .i64 tr, .bool wt, .bool bk, .int .i64 dn, .int .i64 un, .int .i64 my, .int .i64 ((sq : Int) + 1)] 133 (0, 0)) ∧ w'.heap[E9]? = some (.cells D 30 (0, 0)) ∧ Kept (fun k => k = E8) w5 w') := fun k => by
      have kk := k6.trans (k.mono (T := fun k => k = E8) fun _ _ h => h.elim)
      refine ⟨(kk.block _ (Array.getElem?_eq_some_iff.1 G0.out).1 (by show ¬ _ = _; omega)).trans G0.out, (kk.block _ (Array.getElem?_eq_some_iff.1 G1.out).1 (by show ¬ _ = _; omega)).trans G1.out, (HR.out #[] kk).1, (k.block _ (Array.getElem?_eq_some_iff.1 e8').1 id).trans e8', (kk.block _ (Array.getElem?_eq_some_iff.1 H9.out).1 (by show ¬ _ = _; omega)).trans H9.out, kk⟩
    have HS2 : Hid (∀ {w' : World}, Kept (fun k => k = w.heap.size + 1 + 1) w6 w' → w'.heap[w.heap.size]? = some (.cells #[.slice a st.length c, .int .i64 ph, .int .i64 po, .int .i64 tr, .bool wt, .bool bk, .int .i64 dn, .int .i64 un, .int .i64 my, .int .i64 sq] 133 (0, 0)) ∧ w'.heap[w.heap.size + 1]? = some (.cells C 30 (0, 0)) ∧ w'.heap[E8]? = some (.cells #[.slice a st.length c, .int .i64 x.nd, .int .i64 po, .int .i64 tr, .bool wt, .bool bk, .int .i64 dn, .int .i64 un, .int .i64 my, .int .i64 ((sq : Int) + 1)] 133 (0, 0)) ∧ w'.heap[E9]? = some (.cells D 30 (0, 0))) := fun k => by
      obtain ⟨a1, a2, _, a4, a5, _⟩ := HX.out (Kept.refl _ _)
      exact ⟨(k.block _ (Array.getElem?_eq_some_iff.1 a1).1 (by show ¬ _ = _; omega)).trans a1, (k.block _ (Array.getElem?_eq_some_iff.1 a2).1 (by show ¬ _ = _; omega)).trans a2, (k.block _ (Array.getElem?_eq_some_iff.1 a4).1 (by show ¬ _ = _; omega)).trans a4, (k.block _ (Array.getElem?_eq_some_iff.1 a5).1 (by show ¬ _ = _; omega)).trans a5⟩
    have KF : Hid (∀ {w' : World} (X : Array Value), Kept (fun _ => False) w6 w' → (w'.heap[w.heap.size + 1 + 1]? = some (.cells Z133 133 (0, 0))) ∧ Kept (fun _ => False) w (w'.setRow (w.heap.size + 1 + 1) X)) := fun X k => HR.out X (HX.out k).2.2.2.2.2
    have kd : Kept (fun _ => False) w6 w6.drew := (Kept.refl _ _).drew
    have hsS : Kept (fun k => k = w.heap.size + 1 + 1) w6 w6.drew := (Kept.refl _ _).drew
    clear k6 e8'
    cases okd with
    | false =>
      have E : Hid (go ⟨st, ph, po, tr, wt, bk, dn, un, my, sq⟩ x lim = none) := by
        show go _ _ _ = _
        rw [go, if_neg (by rw [HQ.out, HO.out]; simp; exact H0.out), if_neg (by rw [K5.out]; decide), if_pos K5.out, if_neg (by rw [HDD.out]; simp)]
      refine wp_region_held_drew (S := fun w' => Kept (fun k => k = w.heap.size + 1 + 1) w6 w') (by kernel_rfl) hsS (fun hHeld => ?_)
      refine wpAnyH_take (i := 0) (oi := ⟨some 75, _, _, _, _, _⟩) (v := .agg #[.slice a st.length c, .int .i64 ph, .int .i64 po, .int .i64 tr, .bool wt, .bool bk, .int .i64 dn, .int .i64 un, .int .i64 my, .int .i64 sq]) rfl (by kernel_rfl) (by kernel_rfl) (by kernel_rfl) (fun _ _ _ h => h) (yields133 (by rfl) (by rfl) (fun _ h => (HS2.out h).1) (ten _ _ _ _ _ _ _ _ _ _)) (by assumption) ?_
      try simp only [Act.put, List.setIfInBounds_toArray, List.set_cons_succ, List.set_cons_zero]
      refine wpAnyH_take (i := 1) (oi := ⟨some 76, _, _, _, _, _⟩) (v := .agg #[.slice a st.length c, .int .i64 x.nd, .int .i64 po, .int .i64 tr, .bool wt, .bool bk, .int .i64 dn, .int .i64 un, .int .i64 my, .int .i64 ((sq : Int) + 1)]) rfl (by kernel_rfl) (by kernel_rfl) (by kernel_rfl) (fun _ _ _ h => h) (yields133 (by rfl) (by rfl) (fun _ h => (HS2.out h).2.2.1) (ten _ _ _ _ _ _ _ _ _ _)) (by assumption) ?_
      try simp only [Act.put, List.setIfInBounds_toArray, List.set_cons_succ, List.set_cons_zero]
      refine wpAnyH_take (i := 2) (oi := ⟨some 77, _, _, _, _, _⟩) (v := .bool false) rfl (by kernel_rfl) (by kernel_rfl) (by kernel_rfl) (fun _ _ _ h => h) (Or.inl ⟨by rfl, fun _ _ => by rfl⟩) (by assumption) ?_
      try simp only [Act.put, List.setIfInBounds_toArray, List.set_cons_succ, List.set_cons_zero]
      refine wpAnyH_take (i := 3) (oi := ⟨some 78, _, _, _, _, _⟩) (v := .bool false) rfl (by kernel_rfl) (by kernel_rfl) (by kernel_rfl) (fun _ _ _ h => h) (Or.inl ⟨by rfl, fun _ _ => by rfl⟩) (by assumption) ?_
      try simp only [Act.put, List.setIfInBounds_toArray, List.set_cons_succ, List.set_cons_zero]
      refine wpAnyH_take (i := 4) (oi := ⟨some 79, _, _, _, _, _⟩) (v := undef) rfl (by kernel_rfl) (by kernel_rfl) (by kernel_rfl) (fun _ _ _ h => h) (Or.inr ⟨by kernel_rfl, rfl⟩) (by assumption) ?_
      try simp only [Act.put, List.setIfInBounds_toArray, List.set_cons_succ, List.set_cons_zero]
      refine wpAnyH_take (i := 5) (oi := ⟨some 80, _, _, _, _, _⟩) (v := undef) rfl (by kernel_rfl) (by kernel_rfl) (by kernel_rfl) (fun _ _ _ h => h) (Or.inr ⟨by kernel_rfl, rfl⟩) (by assumption) ?_
      try simp only [Act.put, List.setIfInBounds_toArray, List.set_cons_succ, List.set_cons_zero]
      refine wpAnyH_take (i := 6) (oi := ⟨some 81, _, _, _, _, _⟩) (v := undef) rfl (by kernel_rfl) (by kernel_rfl) (by kernel_rfl) (fun _ _ _ h => h) (Or.inr ⟨by kernel_rfl, rfl⟩) (by assumption) ?_
      try simp only [Act.put, List.setIfInBounds_toArray, List.set_cons_succ, List.set_cons_zero]
      refine wpAnyH_take (i := 7) (oi := ⟨some 82, _, _, _, _, _⟩) (v := undef) rfl (by kernel_rfl) (by kernel_rfl) (by kernel_rfl) (fun _ _ _ h => h) (Or.inr ⟨by kernel_rfl, rfl⟩) (by assumption) ?_
      try simp only [Act.put, List.setIfInBounds_toArray, List.set_cons_succ, List.set_cons_zero]
      refine wpAnyH_take (i := 8) (oi := ⟨some 83, _, _, _, _, _⟩) (v := undef) rfl (by kernel_rfl) (by kernel_rfl) (by kernel_rfl) (fun _ _ _ h => h) (Or.inr ⟨by kernel_rfl, rfl⟩) (by assumption) ?_
      try simp only [Act.put, List.setIfInBounds_toArray, List.set_cons_succ, List.set_cons_zero]
      refine wpAnyH_take (i := 9) (oi := ⟨some 84, _, _, _, _, _⟩) (v := .bool false) rfl (by kernel_rfl) (by kernel_rfl) (by kernel_rfl) (fun _ _ _ h => h) (Or.inl ⟨by kernel_rfl, fun _ _ => by go_simp⟩) (by assumption) ?_
      try simp only [Act.put, List.setIfInBounds_toArray, List.set_cons_succ, List.set_cons_zero]
      refine wpAnyH_ready (rs := [10]) (by kernel_rfl) (by simp) ?_
      refine AllReadyH.cons (o := _) rfl (fun K hK => ?_) AllReadyH.nil
      go_simp
      refine (f_pick _ _ _ _ _ _ _ _ _ _ _ _ _ _ _ _ _ _ _ _ _ _ _ _ _ _).mono ?_
      rintro e wx3 ⟨rfl, kx3⟩
      have kk3 := kd.trans kx3
      have hS3 : Kept (fun k => k = w.heap.size + 1 + 1) w6 wx3 := kk3.mono fun _ _ h => h.elim
      have hst := store133_of (C := #[.slice a st.length c, .int .i64 ph, .int .i64 po, .int .i64 tr, .bool wt, .bool bk, .int .i64 dn, .int .i64 un, .int .i64 my, .int .i64 sq]) (KF.out #[] kk3).1 hz133 (ten _ _ _ _ _ _ _ _ _ _) (one10 _ _ _ _ _ _ _ _ _ _ _ _)
      go_wp2_with fail
      refine hK.out _ _ hS3 (fun hHeld => ?_)
      clear hK K
      try simp only [Act.put, List.setIfInBounds_toArray, List.set_cons_succ, List.set_cons_zero]
      refine wpAnyH_take (i := 11) (oi := ⟨some 86, _, _, _, _, _⟩) (v := .agg #[.slice a st.length c, .int .i64 ph, .int .i64 po, .int .i64 tr, .bool wt, .bool bk, .int .i64 dn, .int .i64 un, .int .i64 my, .int .i64 sq]) rfl (by kernel_rfl) (by kernel_rfl) (by kernel_rfl) (fun _ _ _ h => h) (Or.inl ⟨by kernel_rfl, fun _ _ => by go_simp⟩) (by assumption) ?_
      try simp only [Act.put, List.setIfInBounds_toArray, List.set_cons_succ, List.set_cons_zero]
      refine wpAnyH_take (i := 12) (oi := ⟨some 87, _, _, _, _, _⟩) (v := .bool false) rfl (by kernel_rfl) (by kernel_rfl) (by kernel_rfl) (fun _ _ _ h => h) (Or.inl ⟨by kernel_rfl, fun _ _ => by go_simp⟩) (by assumption) ?_
      try simp only [Act.put, List.setIfInBounds_toArray, List.set_cons_succ, List.set_cons_zero]
      refine wpAnyH_ready (rs := [13]) (by kernel_rfl) (by simp) ?_
      refine AllReadyH.cons (o := _) rfl (fun K hK => ?_) AllReadyH.nil
      go_simp
      have hS4 : Kept (fun k => k = w.heap.size + 1 + 1) w6 (wx3.setRow (w.heap.size + 1 + 1) #[.slice a st.length c, .int .i64 ph, .int .i64 po, .int .i64 tr, .bool wt, .bool bk, .int .i64 dn, .int .i64 un, .int .i64 my, .int .i64 sq]) := hS3.setRow' rfl _
      refine hK.out _ _ hS4 (fun hHeld => ?_)
      clear hK K hst
      try simp only [Act.put, List.setIfInBounds_toArray, List.set_cons_succ, List.set_cons_zero]
      refine wpAnyH_take (i := 14) (oi := ⟨some 7, _, _, _, _, _⟩) (v := .bool false) rfl (by kernel_rfl) (by kernel_rfl) (by kernel_rfl) (fun _ _ _ h => h) (Or.inl ⟨by kernel_rfl, fun _ _ => by go_simp⟩) (by assumption) ?_
      try simp only [Act.put, List.setIfInBounds_toArray, List.set_cons_succ, List.set_cons_zero]
      refine wpAnyH_done (by kernel_rfl) ?_ _
      have KK3 := Lib.hid kk3
      clear kk3 kx3 hS3 hS4
      go_wp2_with fail
      exact bodyPost_ret (results_go (v := .bool false) rfl _ _ _ (setRow_heap _ _ _ _ _ _ (KF.out #[] KK3.out).1) rfl (by first | rfl | simp) (by first | rfl | simp)) rfl (GoPost.no E.out rfl (KF.out _ KK3.out).2)
    | true =>
      refine wp_region_held_drew (S := fun w' => Kept (fun k => k = w.heap.size + 1 + 1) w6 w') (by kernel_rfl) hsS (fun hHeld => ?_)
      refine wpAnyH_take (i := 0) (oi := ⟨some 75, _, _, _, _, _⟩) (v := .agg #[.slice a st.length c, .int .i64 ph, .int .i64 po, .int .i64 tr, .bool wt, .bool bk, .int .i64 dn, .int .i64 un, .int .i64 my, .int .i64 sq]) rfl (by kernel_rfl) (by kernel_rfl) (by kernel_rfl) (fun _ _ _ h => h) (yields133 (by rfl) (by rfl) (fun _ h => (HS2.out h).1) (ten _ _ _ _ _ _ _ _ _ _)) (by assumption) ?_
      try simp only [Act.put, List.setIfInBounds_toArray, List.set_cons_succ, List.set_cons_zero]
      refine wpAnyH_take (i := 1) (oi := ⟨some 76, _, _, _, _, _⟩) (v := .agg #[.slice a st.length c, .int .i64 x.nd, .int .i64 po, .int .i64 tr, .bool wt, .bool bk, .int .i64 dn, .int .i64 un, .int .i64 my, .int .i64 ((sq : Int) + 1)]) rfl (by kernel_rfl) (by kernel_rfl) (by kernel_rfl) (fun _ _ _ h => h) (yields133 (by rfl) (by rfl) (fun _ h => (HS2.out h).2.2.1) (ten _ _ _ _ _ _ _ _ _ _)) (by assumption) ?_
      try simp only [Act.put, List.setIfInBounds_toArray, List.set_cons_succ, List.set_cons_zero]
      refine wpAnyH_take (i := 2) (oi := ⟨some 77, _, _, _, _, _⟩) (v := .bool true) rfl (by kernel_rfl) (by kernel_rfl) (by kernel_rfl) (fun _ _ _ h => h) (Or.inl ⟨by rfl, fun _ _ => by rfl⟩) (by assumption) ?_
      try simp only [Act.put, List.setIfInBounds_toArray, List.set_cons_succ, List.set_cons_zero]
      refine wpAnyH_take (i := 3) (oi := ⟨some 78, _, _, _, _, _⟩) (v := .bool true) rfl (by kernel_rfl) (by kernel_rfl) (by kernel_rfl) (fun _ _ _ h => h) (Or.inl ⟨by rfl, fun _ _ => by rfl⟩) (by assumption) ?_
      try simp only [Act.put, List.setIfInBounds_toArray, List.set_cons_succ, List.set_cons_zero]
      refine wpAnyH_take (i := 4) (oi := ⟨some 79, _, _, _, _, _⟩) (v := .agg D) rfl (by kernel_rfl) (by kernel_rfl) (by kernel_rfl) (fun _ _ _ h => h) (yields30 (by kernel_rfl) (by rfl) (fun _ h => (HS2.out h).2.2.2) hDsz) (by assumption) ?_
      try simp only [Act.put, List.setIfInBounds_toArray, List.set_cons_succ, List.set_cons_zero]
      refine wpAnyH_take (i := 6) (oi := ⟨some 81, _, _, _, _, _⟩) (v := .agg C) rfl (by kernel_rfl) (by kernel_rfl) (by kernel_rfl) (fun _ _ _ h => h) (yields30 (by kernel_rfl) (by rfl) (fun _ h => (HS2.out h).2.1) hsz) (by assumption) ?_
      try simp only [Act.put, List.setIfInBounds_toArray, List.set_cons_succ, List.set_cons_zero]
      refine wpAnyH_ready (rs := [5]) (by kernel_rfl) (by simp) ?_
      refine AllReadyH.cons (o := _) rfl (fun K hK => ?_) AllReadyH.nil
      go_simp
      refine (f_of HD.out _).mono ?_
      rintro e wx1 ⟨rfl, kx1⟩
      have kk1 := kd.trans kx1
      have hS1 : Kept (fun k => k = w.heap.size + 1 + 1) w6 wx1 := kk1.mono fun _ _ h => h.elim
      go_wp2_with fail
      refine hK.out _ _ hS1 (fun hHeld => ?_)
      clear hK K
      try simp only [Act.put, List.setIfInBounds_toArray, List.set_cons_succ, List.set_cons_zero]
      refine wpAnyH_ready (rs := [7]) (by kernel_rfl) (by simp) ?_
      refine AllReadyH.cons (o := _) rfl (fun K hK => ?_) AllReadyH.nil
      go_simp
      refine (f_of HC.out _).mono ?_
      rintro e wx2 ⟨rfl, kx2⟩
      have kk2 := kk1.trans kx2
      have hS2 : Kept (fun k => k = w.heap.size + 1 + 1) w6 wx2 := kk2.mono fun _ _ h => h.elim
      go_wp2_with fail
      refine hK.out _ _ hS2 (fun hHeld => ?_)
      clear hK K
      try simp only [Act.put, List.setIfInBounds_toArray, List.set_cons_succ, List.set_cons_zero]
      by_cases he : told y = told x
      · have hb : decide (told y = told x) = true := by simp [he]
        have hdu : Plain.due ⟨st, ph, po, tr, wt, bk, dn, un, my, sq⟩ lim = some (told x) := by rw [HDD.out, if_pos trivial, he]
        have E : Hid (go ⟨st, ph, po, tr, wt, bk, dn, un, my, sq⟩ x lim = some (ended ⟨st, ph, po, tr, wt, bk, dn, un, my, sq⟩ (told x))) := by
          show go _ _ _ = _
          rw [go, if_neg (by rw [HQ.out, HO.out]; simp; exact H0.out), if_neg (by rw [K5.out]; decide), if_pos K5.out, if_pos hdu]
        have ET : Hid (#[.slice a st.length c, .int .i64 x.nd, .int .i64 po, .int .i64 tr, .bool wt, .bool bk, .int .i64 dn, .int .i64 un, .int .i64 my, .int .i64 ((sq : Int) + 1)] = sgC (ended ⟨st, ph, po, tr, wt, bk, dn, un, my, sq⟩ (told x)) (.slice a st.length c)) := by
          show _ = _
          have hnd : ((x.nd.toNat : Nat) : Int) = x.nd := by
            obtain ⟨_, _, _, h | h | h | h⟩ := due_cases hdu
            · have h2 : x.nd = 2 := congrArg Du.nd h.2.2
              rw [h2]; rfl
            · have h2 : x.nd = 3 := congrArg Du.nd h.2.2
              rw [h2]; rfl
            · have h2 : x.kind = 2 := congrArg Du.kind h.2.2
              rw [K5.out] at h2; cases h2
            · have h2 : x.nd = 4 := congrArg Du.nd h.2.2
              rw [h2]; rfl
          unfold sgC ended told
          simp only [hnd]
          simp
        clear he hdu
        refine wpAnyH_take (i := 8) (oi := ⟨some 83, _, _, _, _, _⟩) (v := .bool true) rfl (by kernel_rfl) (by kernel_rfl) (by kernel_rfl) (fun _ _ _ h => h) (yields198 hb (by kernel_rfl) (by rfl) (by rfl)) (by assumption) ?_
        try simp only [Act.put, List.setIfInBounds_toArray, List.set_cons_succ, List.set_cons_zero]
        refine wpAnyH_take (i := 9) (oi := ⟨some 84, _, _, _, _, _⟩) (v := .bool true) rfl (by kernel_rfl) (by kernel_rfl) (by kernel_rfl) (fun _ _ _ h => h) (Or.inl ⟨by kernel_rfl, fun _ _ => by go_simp⟩) (by assumption) ?_
        try simp only [Act.put, List.setIfInBounds_toArray, List.set_cons_succ, List.set_cons_zero]
        refine wpAnyH_ready (rs := [10]) (by kernel_rfl) (by simp) ?_
        refine AllReadyH.cons (o := _) rfl (fun K hK => ?_) AllReadyH.nil
        go_simp
        refine (f_pick _ _ _ _ _ _ _ _ _ _ _ _ _ _ _ _ _ _ _ _ _ _ _ _ _ _).mono ?_
        rintro e wx3 ⟨rfl, kx3⟩
        have kk3 := (kk2).trans kx3
        have hS3 : Kept (fun k => k = w.heap.size + 1 + 1) w6 wx3 := kk3.mono fun _ _ h => h.elim
        have hst := store133_of (C := #[.slice a st.length c, .int .i64 x.nd, .int .i64 po, .int .i64 tr, .bool wt, .bool bk, .int .i64 dn, .int .i64 un, .int .i64 my, .int .i64 ((sq : Int) + 1)]) (KF.out #[] kk3).1 hz133 (ten _ _ _ _ _ _ _ _ _ _) (one10 _ _ _ _ _ _ _ _ _ _ _ _)
        go_wp2_with fail
        refine hK.out _ _ hS3 (fun hHeld => ?_)
        clear hK K
        try simp only [Act.put, List.setIfInBounds_toArray, List.set_cons_succ, List.set_cons_zero]
        refine wpAnyH_take (i := 11) (oi := ⟨some 86, _, _, _, _, _⟩) (v := .agg #[.slice a st.length c, .int .i64 x.nd, .int .i64 po, .int .i64 tr, .bool wt, .bool bk, .int .i64 dn, .int .i64 un, .int .i64 my, .int .i64 ((sq : Int) + 1)]) rfl (by kernel_rfl) (by kernel_rfl) (by kernel_rfl) (fun _ _ _ h => h) (Or.inl ⟨by kernel_rfl, fun _ _ => by go_simp⟩) (by assumption) ?_
        try simp only [Act.put, List.setIfInBounds_toArray, List.set_cons_succ, List.set_cons_zero]
        refine wpAnyH_take (i := 12) (oi := ⟨some 87, _, _, _, _, _⟩) (v := .bool true) rfl (by kernel_rfl) (by kernel_rfl) (by kernel_rfl) (fun _ _ _ h => h) (Or.inl ⟨by kernel_rfl, fun _ _ => by go_simp⟩) (by assumption) ?_
        try simp only [Act.put, List.setIfInBounds_toArray, List.set_cons_succ, List.set_cons_zero]
        refine wpAnyH_ready (rs := [13]) (by kernel_rfl) (by simp) ?_
        refine AllReadyH.cons (o := _) rfl (fun K hK => ?_) AllReadyH.nil
        go_simp
        have hS4 : Kept (fun k => k = w.heap.size + 1 + 1) w6 (wx3.setRow (w.heap.size + 1 + 1) #[.slice a st.length c, .int .i64 x.nd, .int .i64 po, .int .i64 tr, .bool wt, .bool bk, .int .i64 dn, .int .i64 un, .int .i64 my, .int .i64 ((sq : Int) + 1)]) := hS3.setRow' rfl _
        refine hK.out _ _ hS4 (fun hHeld => ?_)
        clear hK K hst
        try simp only [Act.put, List.setIfInBounds_toArray, List.set_cons_succ, List.set_cons_zero]
        refine wpAnyH_take (i := 14) (oi := ⟨some 7, _, _, _, _, _⟩) (v := .bool true) rfl (by kernel_rfl) (by kernel_rfl) (by kernel_rfl) (fun _ _ _ h => h) (Or.inl ⟨by kernel_rfl, fun _ _ => by go_simp⟩) (by assumption) ?_
        try simp only [Act.put, List.setIfInBounds_toArray, List.set_cons_succ, List.set_cons_zero]
        refine wpAnyH_done (by kernel_rfl) ?_ _
        have KK3 := Lib.hid kk3
        clear kk3 kx3 hS3 hS4
        go_wp2_with fail
        exact bodyPost_ret (results_go (v := .bool true) rfl _ _ _ (setRow_heap _ _ _ _ _ _ (KF.out #[] KK3.out).1) rfl (by first | rfl | simp) (by first | rfl | simp)) rfl (GoPost.yes E.out ET.out (KF.out _ KK3.out).2)
      · have hb : decide (told y = told x) = false := by simp [he]
        have E : Hid (go ⟨st, ph, po, tr, wt, bk, dn, un, my, sq⟩ x lim = none) := by
          show go _ _ _ = _
          rw [go, if_neg (by rw [HQ.out, HO.out]; simp; exact H0.out), if_neg (by rw [K5.out]; decide), if_pos K5.out, if_neg (by rw [HDD.out, if_pos trivial]; intro h; exact he (Option.some.inj h))]
        clear he
        refine wpAnyH_take (i := 8) (oi := ⟨some 83, _, _, _, _, _⟩) (v := .bool false) rfl (by kernel_rfl) (by kernel_rfl) (by kernel_rfl) (fun _ _ _ h => h) (yields198 hb (by kernel_rfl) (by rfl) (by rfl)) (by assumption) ?_
        try simp only [Act.put, List.setIfInBounds_toArray, List.set_cons_succ, List.set_cons_zero]
        refine wpAnyH_take (i := 9) (oi := ⟨some 84, _, _, _, _, _⟩) (v := .bool false) rfl (by kernel_rfl) (by kernel_rfl) (by kernel_rfl) (fun _ _ _ h => h) (Or.inl ⟨by kernel_rfl, fun _ _ => by go_simp⟩) (by assumption) ?_
        try simp only [Act.put, List.setIfInBounds_toArray, List.set_cons_succ, List.set_cons_zero]
        refine wpAnyH_ready (rs := [10]) (by kernel_rfl) (by simp) ?_
        refine AllReadyH.cons (o := _) rfl (fun K hK => ?_) AllReadyH.nil
        go_simp
        refine (f_pick _ _ _ _ _ _ _ _ _ _ _ _ _ _ _ _ _ _ _ _ _ _ _ _ _ _).mono ?_
        rintro e wx3 ⟨rfl, kx3⟩
        have kk3 := (kk2).trans kx3
        have hS3 : Kept (fun k => k = w.heap.size + 1 + 1) w6 wx3 := kk3.mono fun _ _ h => h.elim
        have hst := store133_of (C := #[.slice a st.length c, .int .i64 ph, .int .i64 po, .int .i64 tr, .bool wt, .bool bk, .int .i64 dn, .int .i64 un, .int .i64 my, .int .i64 sq]) (KF.out #[] kk3).1 hz133 (ten _ _ _ _ _ _ _ _ _ _) (one10 _ _ _ _ _ _ _ _ _ _ _ _)
        go_wp2_with fail
        refine hK.out _ _ hS3 (fun hHeld => ?_)
        clear hK K
        try simp only [Act.put, List.setIfInBounds_toArray, List.set_cons_succ, List.set_cons_zero]
        refine wpAnyH_take (i := 11) (oi := ⟨some 86, _, _, _, _, _⟩) (v := .agg #[.slice a st.length c, .int .i64 ph, .int .i64 po, .int .i64 tr, .bool wt, .bool bk, .int .i64 dn, .int .i64 un, .int .i64 my, .int .i64 sq]) rfl (by kernel_rfl) (by kernel_rfl) (by kernel_rfl) (fun _ _ _ h => h) (Or.inl ⟨by kernel_rfl, fun _ _ => by go_simp⟩) (by assumption) ?_
        try simp only [Act.put, List.setIfInBounds_toArray, List.set_cons_succ, List.set_cons_zero]
        refine wpAnyH_take (i := 12) (oi := ⟨some 87, _, _, _, _, _⟩) (v := .bool false) rfl (by kernel_rfl) (by kernel_rfl) (by kernel_rfl) (fun _ _ _ h => h) (Or.inl ⟨by kernel_rfl, fun _ _ => by go_simp⟩) (by assumption) ?_
        try simp only [Act.put, List.setIfInBounds_toArray, List.set_cons_succ, List.set_cons_zero]
        refine wpAnyH_ready (rs := [13]) (by kernel_rfl) (by simp) ?_
        refine AllReadyH.cons (o := _) rfl (fun K hK => ?_) AllReadyH.nil
        go_simp
        have hS4 : Kept (fun k => k = w.heap.size + 1 + 1) w6 (wx3.setRow (w.heap.size + 1 + 1) #[.slice a st.length c, .int .i64 ph, .int .i64 po, .int .i64 tr, .bool wt, .bool bk, .int .i64 dn, .int .i64 un, .int .i64 my, .int .i64 sq]) := hS3.setRow' rfl _
        refine hK.out _ _ hS4 (fun hHeld => ?_)
        clear hK K hst
        try simp only [Act.put, List.setIfInBounds_toArray, List.set_cons_succ, List.set_cons_zero]
        refine wpAnyH_take (i := 14) (oi := ⟨some 7, _, _, _, _, _⟩) (v := .bool false) rfl (by kernel_rfl) (by kernel_rfl) (by kernel_rfl) (fun _ _ _ h => h) (Or.inl ⟨by kernel_rfl, fun _ _ => by go_simp⟩) (by assumption) ?_
        try simp only [Act.put, List.setIfInBounds_toArray, List.set_cons_succ, List.set_cons_zero]
        refine wpAnyH_done (by kernel_rfl) ?_ _
        have KK3 := Lib.hid kk3
        clear kk3 kx3 hS3 hS4
        go_wp2_with fail
        exact bodyPost_ret (results_go (v := .bool false) rfl _ _ _ (setRow_heap _ _ _ _ _ _ (KF.out #[] KK3.out).1) rfl (by first | rfl | simp) (by first | rfl | simp)) rfl (GoPost.no E.out rfl (KF.out _ KK3.out).2)
  have q2' : (x.kind == 2) = false := by rw [beq_eq_false_iff_ne]; exact k2
  have q5' : (x.kind == 5) = false := by rw [beq_eq_false_iff_ne]; exact kc5
  have hB2 : w.heap.size < w5.heap.size := (Array.getElem?_eq_some_iff.1 g0).1
  have hBx : w.heap.size + 1 < w5.heap.size := (Array.getElem?_eq_some_iff.1 g1).1
  have hB8 : E8 < w5.heap.size := (Array.getElem?_eq_some_iff.1 g8).1
  have HN : Hid (∀ {w' : World}, Kept (fun _ => False) w5 w' → w'.heap[w.heap.size + 1 + 1]? = some (.cells Z133 133 (0, 0)) ∧ Kept (fun _ => False) w (w'.setRow (w.heap.size + 1 + 1) #[.slice a st.length c, .int .i64 ph, .int .i64 po, .int .i64 tr, .bool wt, .bool bk, .int .i64 dn, .int .i64 un, .int .i64 my, .int .i64 sq])) := fun k => HR.out #[.slice a st.length c, .int .i64 ph, .int .i64 po, .int .i64 tr, .bool wt, .bool bk, .int .i64 dn, .int .i64 un, .int .i64 my, .int .i64 sq] (k.mono fun _ _ h => h.elim)
  have HN2 : Hid (∀ {w' : World} (X : Array Value), Kept (fun _ => False) w5 w' → w'.heap[w.heap.size + 1 + 1]? = some (.cells Z133 133 (0, 0)) ∧ Kept (fun _ => False) w (w'.setRow (w.heap.size + 1 + 1) X)) := fun X k => HR.out X (k.mono fun _ _ h => h.elim)
  have HG5 : Hid (∀ {w' : World}, Kept (fun _ => False) w5 w' → w'.heap[w.heap.size]? = some (.cells #[.slice a st.length c, .int .i64 ph, .int .i64 po, .int .i64 tr, .bool wt, .bool bk, .int .i64 dn, .int .i64 un, .int .i64 my, .int .i64 sq] 133 (0, 0)) ∧ w'.heap[w.heap.size + 1]? = some (.cells C 30 (0, 0)) ∧ w'.heap[E8]? = some (.cells #[.slice a st.length c, .int .i64 ph, .int .i64 po, .int .i64 tr, .bool wt, .bool bk, .int .i64 dn, .int .i64 un, .int .i64 my, .int .i64 ((sq : Int) + 1)] 133 (0, 0)) ∧ Kept (fun _ => False) w w') := fun k =>
    ⟨(k.block _ hB2 id).trans g0, (k.block _ hBx id).trans g1, (k.block _ hB8 id).trans g8, k5.trans k⟩
  have K2 := Lib.hid k2
  have K5 := Lib.hid kc5
  have hd5 : Kept (fun _ => False) w5 w5.drew := (Kept.refl _ _).drew
  clear k2 kc5 g0 g1 g2 g8
  by_cases k34 : x.kind = 3 ∨ x.kind = 4
  · -- an answer, or none in time
    have K34 := Lib.hid k34
    have E0 : Hid (∀ r, (if wt = false ∨ x.step ≠ stepOf ⟨st, ph, po, tr, wt, bk, dn, un, my, sq⟩ ∨ x.tr ≠ tr ∨ x.bk ≠ bk then none else if x.kind = 3 then some (answered (more ⟨st, ph, po, tr, wt, bk, dn, un, my, sq⟩) x.good) else some (lapsed (more ⟨st, ph, po, tr, wt, bk, dn, un, my, sq⟩) lim)) = r → go ⟨st, ph, po, tr, wt, bk, dn, un, my, sq⟩ x lim = r) := fun r h => by
      rw [go, if_neg (by rw [HQ.out, HO.out]; simp; exact H0.out), if_neg K2.out, if_neg K5.out, if_pos K34.out]
      exact h
    cases wt with
    | false =>
      have E : Hid (go ⟨st, ph, po, tr, false, bk, dn, un, my, sq⟩ x lim = none) := E0.out none (if_pos (.inl rfl))
      have fin15 : True := trivial
      rcases k34 with h34 | h34
      all_goals
        rw [h34] at x0 q2' q5'
        go_wp2_with fail
        refine wp_region_held_drew (S := fun w' => Kept (fun _ => False) w5 w') (by kernel_rfl) hd5 (fun hHeld => ?_)
        refine wpAnyH_take (i := 0) (oi := ⟨some 88, _, _, _, _, _⟩) (v := .pointer (some ⟨w.heap.size, 4, none⟩)) rfl (by kernel_rfl) (by kernel_rfl) (by kernel_rfl) (fun _ _ _ h => h) (Or.inl ⟨by kernel_rfl, fun w hS => by go_simp⟩) (by assumption) ?_
        try simp only [Act.put, List.setIfInBounds_toArray, List.set_cons_succ, List.set_cons_zero]
        refine wpAnyH_take (i := 1) (oi := ⟨some 89, _, _, _, _, _⟩) (v := .bool false) rfl (by kernel_rfl) (by kernel_rfl) (by kernel_rfl) (fun _ _ _ h => h) (Or.inl ⟨by kernel_rfl, fun w hS => by have hc := ((cells10 (HG5.out hS).1).2.2.2.2.1); go_simp⟩) (by assumption) ?_
        try simp only [Act.put, List.setIfInBounds_toArray, List.set_cons_succ, List.set_cons_zero]
        refine wpAnyH_take (i := 2) (oi := ⟨some 90, _, _, _, _, _⟩) (v := .bool true) rfl (by kernel_rfl) (by kernel_rfl) (by kernel_rfl) (fun _ _ _ h => h) (Or.inl ⟨by kernel_rfl, fun w hS => by go_simp⟩) (by assumption) ?_
        try simp only [Act.put, List.setIfInBounds_toArray, List.set_cons_succ, List.set_cons_zero]
        refine wpAnyH_take (i := 3) (oi := ⟨some 91, _, _, _, _, _⟩) (v := .bool true) rfl (by kernel_rfl) (by kernel_rfl) (by kernel_rfl) (fun _ _ _ h => h) (Or.inl ⟨by kernel_rfl, fun w hS => by go_simp⟩) (by assumption) ?_
        try simp only [Act.put, List.setIfInBounds_toArray, List.set_cons_succ, List.set_cons_zero]
        refine wpAnyH_take (i := 4) (oi := ⟨some 92, _, _, _, _, _⟩) (v := undef) rfl (by kernel_rfl) (by kernel_rfl) (by kernel_rfl) (fun _ _ _ h => h) (Or.inr ⟨by kernel_rfl, rfl⟩) (by assumption) ?_
        try simp only [Act.put, List.setIfInBounds_toArray, List.set_cons_succ, List.set_cons_zero]
        refine wpAnyH_take (i := 5) (oi := ⟨some 93, _, _, _, _, _⟩) (v := undef) rfl (by kernel_rfl) (by kernel_rfl) (by kernel_rfl) (fun _ _ _ h => h) (Or.inr ⟨by kernel_rfl, rfl⟩) (by assumption) ?_
        try simp only [Act.put, List.setIfInBounds_toArray, List.set_cons_succ, List.set_cons_zero]
        refine wpAnyH_take (i := 6) (oi := ⟨some 94, _, _, _, _, _⟩) (v := undef) rfl (by kernel_rfl) (by kernel_rfl) (by kernel_rfl) (fun _ _ _ h => h) (Or.inr ⟨by kernel_rfl, rfl⟩) (by assumption) ?_
        try simp only [Act.put, List.setIfInBounds_toArray, List.set_cons_succ, List.set_cons_zero]
        refine wpAnyH_take (i := 7) (oi := ⟨some 95, _, _, _, _, _⟩) (v := undef) rfl (by kernel_rfl) (by kernel_rfl) (by kernel_rfl) (fun _ _ _ h => h) (Or.inr ⟨by kernel_rfl, rfl⟩) (by assumption) ?_
        try simp only [Act.put, List.setIfInBounds_toArray, List.set_cons_succ, List.set_cons_zero]
        refine wpAnyH_take (i := 8) (oi := ⟨some 96, _, _, _, _, _⟩) (v := undef) rfl (by kernel_rfl) (by kernel_rfl) (by kernel_rfl) (fun _ _ _ h => h) (Or.inr ⟨by kernel_rfl, rfl⟩) (by assumption) ?_
        try simp only [Act.put, List.setIfInBounds_toArray, List.set_cons_succ, List.set_cons_zero]
        refine wpAnyH_take (i := 9) (oi := ⟨some 97, _, _, _, _, _⟩) (v := .bool true) rfl (by kernel_rfl) (by kernel_rfl) (by kernel_rfl) (fun _ _ _ h => h) (Or.inl ⟨by kernel_rfl, fun w hS => by go_simp⟩) (by assumption) ?_
        try simp only [Act.put, List.setIfInBounds_toArray, List.set_cons_succ, List.set_cons_zero]
        refine wpAnyH_take (i := 10) (oi := ⟨some 98, _, _, _, _, _⟩) (v := .bool true) rfl (by kernel_rfl) (by kernel_rfl) (by kernel_rfl) (fun _ _ _ h => h) (Or.inl ⟨by kernel_rfl, fun w hS => by go_simp⟩) (by assumption) ?_
        try simp only [Act.put, List.setIfInBounds_toArray, List.set_cons_succ, List.set_cons_zero]
        refine wpAnyH_take (i := 11) (oi := ⟨some 99, _, _, _, _, _⟩) (v := undef) rfl (by kernel_rfl) (by kernel_rfl) (by kernel_rfl) (fun _ _ _ h => h) (Or.inr ⟨by kernel_rfl, rfl⟩) (by assumption) ?_
        try simp only [Act.put, List.setIfInBounds_toArray, List.set_cons_succ, List.set_cons_zero]
        refine wpAnyH_take (i := 12) (oi := ⟨some 100, _, _, _, _, _⟩) (v := undef) rfl (by kernel_rfl) (by kernel_rfl) (by kernel_rfl) (fun _ _ _ h => h) (Or.inr ⟨by kernel_rfl, rfl⟩) (by assumption) ?_
        try simp only [Act.put, List.setIfInBounds_toArray, List.set_cons_succ, List.set_cons_zero]
        refine wpAnyH_take (i := 13) (oi := ⟨some 101, _, _, _, _, _⟩) (v := undef) rfl (by kernel_rfl) (by kernel_rfl) (by kernel_rfl) (fun _ _ _ h => h) (Or.inr ⟨by kernel_rfl, rfl⟩) (by assumption) ?_
        try simp only [Act.put, List.setIfInBounds_toArray, List.set_cons_succ, List.set_cons_zero]
        refine wpAnyH_take (i := 14) (oi := ⟨some 102, _, _, _, _, _⟩) (v := undef) rfl (by kernel_rfl) (by kernel_rfl) (by kernel_rfl) (fun _ _ _ h => h) (Or.inr ⟨by kernel_rfl, rfl⟩) (by assumption) ?_
        try simp only [Act.put, List.setIfInBounds_toArray, List.set_cons_succ, List.set_cons_zero]
        refine wpAnyH_take (i := 15) (oi := ⟨some 103, _, _, _, _, _⟩) (v := undef) rfl (by kernel_rfl) (by kernel_rfl) (by kernel_rfl) (fun _ _ _ h => h) (Or.inr ⟨by kernel_rfl, rfl⟩) (by assumption) ?_
        try simp only [Act.put, List.setIfInBounds_toArray, List.set_cons_succ, List.set_cons_zero]
        refine wpAnyH_take (i := 16) (oi := ⟨some 104, _, _, _, _, _⟩) (v := .bool true) rfl (by kernel_rfl) (by kernel_rfl) (by kernel_rfl) (fun _ _ _ h => h) (Or.inl ⟨by kernel_rfl, fun w hS => by go_simp⟩) (by assumption) ?_
        try simp only [Act.put, List.setIfInBounds_toArray, List.set_cons_succ, List.set_cons_zero]
        refine wpAnyH_take (i := 17) (oi := ⟨some 105, _, _, _, _, _⟩) (v := .bool true) rfl (by kernel_rfl) (by kernel_rfl) (by kernel_rfl) (fun _ _ _ h => h) (Or.inl ⟨by kernel_rfl, fun w hS => by go_simp⟩) (by assumption) ?_
        try simp only [Act.put, List.setIfInBounds_toArray, List.set_cons_succ, List.set_cons_zero]
        refine wpAnyH_take (i := 18) (oi := ⟨some 106, _, _, _, _, _⟩) (v := undef) rfl (by kernel_rfl) (by kernel_rfl) (by kernel_rfl) (fun _ _ _ h => h) (Or.inr ⟨by kernel_rfl, rfl⟩) (by assumption) ?_
        try simp only [Act.put, List.setIfInBounds_toArray, List.set_cons_succ, List.set_cons_zero]
        refine wpAnyH_take (i := 19) (oi := ⟨some 107, _, _, _, _, _⟩) (v := undef) rfl (by kernel_rfl) (by kernel_rfl) (by kernel_rfl) (fun _ _ _ h => h) (Or.inr ⟨by kernel_rfl, rfl⟩) (by assumption) ?_
        try simp only [Act.put, List.setIfInBounds_toArray, List.set_cons_succ, List.set_cons_zero]
        refine wpAnyH_take (i := 20) (oi := ⟨some 108, _, _, _, _, _⟩) (v := undef) rfl (by kernel_rfl) (by kernel_rfl) (by kernel_rfl) (fun _ _ _ h => h) (Or.inr ⟨by kernel_rfl, rfl⟩) (by assumption) ?_
        try simp only [Act.put, List.setIfInBounds_toArray, List.set_cons_succ, List.set_cons_zero]
        refine wpAnyH_take (i := 21) (oi := ⟨some 109, _, _, _, _, _⟩) (v := undef) rfl (by kernel_rfl) (by kernel_rfl) (by kernel_rfl) (fun _ _ _ h => h) (Or.inr ⟨by kernel_rfl, rfl⟩) (by assumption) ?_
        try simp only [Act.put, List.setIfInBounds_toArray, List.set_cons_succ, List.set_cons_zero]
        refine wpAnyH_take (i := 22) (oi := ⟨some 110, _, _, _, _, _⟩) (v := undef) rfl (by kernel_rfl) (by kernel_rfl) (by kernel_rfl) (fun _ _ _ h => h) (Or.inr ⟨by kernel_rfl, rfl⟩) (by assumption) ?_
        try simp only [Act.put, List.setIfInBounds_toArray, List.set_cons_succ, List.set_cons_zero]
        refine wpAnyH_take (i := 23) (oi := ⟨some 111, _, _, _, _, _⟩) (v := .bool true) rfl (by kernel_rfl) (by kernel_rfl) (by kernel_rfl) (fun _ _ _ h => h) (Or.inl ⟨by kernel_rfl, fun w hS => by go_simp⟩) (by assumption) ?_
        try simp only [Act.put, List.setIfInBounds_toArray, List.set_cons_succ, List.set_cons_zero]
        clear b0 b1 b2 b3 b4 b5 b6 b7 b8 b9
        obtain ⟨b0, b1, b2, b3, b4, b5, b6, b7, b8, b9⟩ := cells10 (HG5.out hd5).1
        refine wpAnyH_done (by kernel_rfl) ?_ _
        have hfin := Lib.hid (HN.out hd5)
        go_wp2_with (first | fail | ((with_reducible refine store133 (C := #[.slice a st.length c, .int .i64 ph, .int .i64 po, .int .i64 tr, .bool false, .bool bk, .int .i64 dn, .int .i64 un, .int .i64 my, .int .i64 sq]) ?_ ?_ hfin.out.1 hz133 (ten _ _ _ _ _ _ _ _ _ _) (one10 _ _ _ _ _ _ _ _ _ _ _ _) ?_); rfl; rfl))
        exact bodyPost_ret (results_go (v := .bool false) rfl _ _ _ (setRow_heap _ _ _ _ _ _ hfin.out.1) rfl (by first | rfl | simp) (by first | rfl | simp)) rfl (GoPost.no E.out rfl hfin.out.2)

    | true =>
      obtain ⟨SK, hK0⟩ : ∃ SK, stepOf ⟨st, ph, po, tr, true, bk, dn, un, my, sq⟩ = SK := ⟨_, rfl⟩
      have hKn : 0 ≤ SK := by rw [← hK0]; exact HWK.out rfl
      have HSTEP : Hid (∀ {w' : World}, Kept (fun _ => False) w w' → Calls Tryd.prog 147 #[.agg #[.slice a st.length c, .int .i64 ph, .int .i64 po, .int .i64 tr, .bool true, .bool bk, .int .i64 dn, .int .i64 un, .int .i64 my, .int .i64 sq]] w' fun e w'' => e = .returned (.int .i64 SK) ∧ Kept (fun _ => False) w' w'') := fun k => by
        rw [← hK0]; exact f_step ⟨st, ph, po, tr, true, bk, dn, un, my, sq⟩ (.slice a st.length c) _ OK.out (HSP.out k)
      have HK0 := Lib.hid hK0
      rw [hK0] at E0
      clear hK0
      rcases k34 with h34 | h34
      all_goals
        rw [h34] at x0 q2' q5'
        go_upto_region 15 with (fail)
        refine wp_region_held_drew (S := fun w' => Kept (fun _ => False) w5 w') (by kernel_rfl) hd5 (fun hHeld => ?_)
        refine wpAnyH_take (i := 0) (oi := ⟨some 88, _, _, _, _, _⟩) (v := .pointer (some ⟨w.heap.size, 4, none⟩)) rfl (by kernel_rfl) (by kernel_rfl) (by kernel_rfl) (fun _ _ _ h => h) (Or.inl ⟨by kernel_rfl, fun w hS => by go_simp⟩) (by assumption) ?_
        try simp only [Act.put, List.setIfInBounds_toArray, List.set_cons_succ, List.set_cons_zero]
        refine wpAnyH_take (i := 1) (oi := ⟨some 89, _, _, _, _, _⟩) (v := .bool true) rfl (by kernel_rfl) (by kernel_rfl) (by kernel_rfl) (fun _ _ _ h => h) (Or.inl ⟨by kernel_rfl, fun w hS => by have hc := ((cells10 (HG5.out hS).1).2.2.2.2.1); go_simp⟩) (by assumption) ?_
        try simp only [Act.put, List.setIfInBounds_toArray, List.set_cons_succ, List.set_cons_zero]
        refine wpAnyH_take (i := 2) (oi := ⟨some 90, _, _, _, _, _⟩) (v := .bool false) rfl (by kernel_rfl) (by kernel_rfl) (by kernel_rfl) (fun _ _ _ h => h) (Or.inl ⟨by kernel_rfl, fun w hS => by go_simp⟩) (by assumption) ?_
        try simp only [Act.put, List.setIfInBounds_toArray, List.set_cons_succ, List.set_cons_zero]
        refine wpAnyH_take (i := 3) (oi := ⟨some 91, _, _, _, _, _⟩) (v := .bool false) rfl (by kernel_rfl) (by kernel_rfl) (by kernel_rfl) (fun _ _ _ h => h) (Or.inl ⟨by kernel_rfl, fun w hS => by go_simp⟩) (by assumption) ?_
        try simp only [Act.put, List.setIfInBounds_toArray, List.set_cons_succ, List.set_cons_zero]
        refine wpAnyH_take (i := 4) (oi := ⟨some 92, _, _, _, _, _⟩) (v := .pointer (some ⟨w.heap.size + 1, 3, none⟩)) rfl (by kernel_rfl) (by kernel_rfl) (by kernel_rfl) (fun _ _ _ h => h) (Or.inl ⟨by kernel_rfl, fun w hS => by go_simp⟩) (by assumption) ?_
        try simp only [Act.put, List.setIfInBounds_toArray, List.set_cons_succ, List.set_cons_zero]
        refine wpAnyH_take (i := 5) (oi := ⟨some 93, _, _, _, _, _⟩) (v := .int .i64 x.step) rfl (by kernel_rfl) (by kernel_rfl) (by kernel_rfl) (fun _ _ _ h => h) (Or.inl ⟨by kernel_rfl, fun w hS => by have hc := ((rec_cells HC.out (HG5.out hS).2.1).2.2.1); go_simp⟩) (by assumption) ?_
        try simp only [Act.put, List.setIfInBounds_toArray, List.set_cons_succ, List.set_cons_zero]
        refine wpAnyH_take (i := 6) (oi := ⟨some 94, _, _, _, _, _⟩) (v := .agg #[.slice a st.length c, .int .i64 ph, .int .i64 po, .int .i64 tr, .bool true, .bool bk, .int .i64 dn, .int .i64 un, .int .i64 my, .int .i64 sq]) rfl (by kernel_rfl) (by kernel_rfl) (by kernel_rfl) (fun _ _ _ h => h) (yields133 (by kernel_rfl) (by rfl) (fun _ h => (HG5.out h).1) (ten _ _ _ _ _ _ _ _ _ _)) (by assumption) ?_
        try simp only [Act.put, List.setIfInBounds_toArray, List.set_cons_succ, List.set_cons_zero]
        refine wpAnyH_ready (rs := [7]) (by kernel_rfl) (by simp) ?_
        refine AllReadyH.cons (o := _) rfl (fun K hK => ?_) AllReadyH.nil
        go_simp
        refine (HSTEP.out (HG5.out hd5).2.2.2).mono ?_
        rintro e w6 ⟨rfl, kx⟩
        have hS6 : Kept (fun _ => False) w5 w6 := hd5.trans kx
        go_wp2_with fail
        refine hK.out _ _ hS6 (fun hHeld => ?_)
        clear hK
        try simp only [Act.put, List.setIfInBounds_toArray, List.set_cons_succ, List.set_cons_zero]
        by_cases hst : x.step = SK
        · have n1 : (x.step == SK) = true := by rw [beq_iff_eq]; exact hst
          have n2 : (x.step != SK) = false := by rw [bne, n1]; rfl
          have HST := Lib.hid hst
          clear hst
          refine wpAnyH_take (i := 8) (oi := ⟨some 96, _, _, _, _, _⟩) (v := .bool false) rfl (by kernel_rfl) (by kernel_rfl) (by kernel_rfl) (fun _ _ _ h => h) (Or.inl ⟨by kernel_rfl, fun w hS => by go_simp⟩) (by assumption) ?_
          try simp only [Act.put, List.setIfInBounds_toArray, List.set_cons_succ, List.set_cons_zero]
          refine wpAnyH_take (i := 9) (oi := ⟨some 97, _, _, _, _, _⟩) (v := .bool false) rfl (by kernel_rfl) (by kernel_rfl) (by kernel_rfl) (fun _ _ _ h => h) (Or.inl ⟨by kernel_rfl, fun w hS => by go_simp⟩) (by assumption) ?_
          try simp only [Act.put, List.setIfInBounds_toArray, List.set_cons_succ, List.set_cons_zero]
          refine wpAnyH_take (i := 10) (oi := ⟨some 98, _, _, _, _, _⟩) (v := .bool false) rfl (by kernel_rfl) (by kernel_rfl) (by kernel_rfl) (fun _ _ _ h => h) (Or.inl ⟨by kernel_rfl, fun w hS => by go_simp⟩) (by assumption) ?_
          try simp only [Act.put, List.setIfInBounds_toArray, List.set_cons_succ, List.set_cons_zero]
          refine wpAnyH_take (i := 11) (oi := ⟨some 99, _, _, _, _, _⟩) (v := .pointer (some ⟨w.heap.size + 1, 4, none⟩)) rfl (by kernel_rfl) (by kernel_rfl) (by kernel_rfl) (fun _ _ _ h => h) (Or.inl ⟨by kernel_rfl, fun w hS => by go_simp⟩) (by assumption) ?_
          try simp only [Act.put, List.setIfInBounds_toArray, List.set_cons_succ, List.set_cons_zero]
          refine wpAnyH_take (i := 12) (oi := ⟨some 100, _, _, _, _, _⟩) (v := .int .i64 x.tr) rfl (by kernel_rfl) (by kernel_rfl) (by kernel_rfl) (fun _ _ _ h => h) (Or.inl ⟨by kernel_rfl, fun w hS => by have hc := ((rec_cells HC.out (HG5.out hS).2.1).2.2.2.1); go_simp⟩) (by assumption) ?_
          try simp only [Act.put, List.setIfInBounds_toArray, List.set_cons_succ, List.set_cons_zero]
          refine wpAnyH_take (i := 13) (oi := ⟨some 101, _, _, _, _, _⟩) (v := .pointer (some ⟨w.heap.size, 3, none⟩)) rfl (by kernel_rfl) (by kernel_rfl) (by kernel_rfl) (fun _ _ _ h => h) (Or.inl ⟨by kernel_rfl, fun w hS => by go_simp⟩) (by assumption) ?_
          try simp only [Act.put, List.setIfInBounds_toArray, List.set_cons_succ, List.set_cons_zero]
          refine wpAnyH_take (i := 14) (oi := ⟨some 102, _, _, _, _, _⟩) (v := .int .i64 tr) rfl (by kernel_rfl) (by kernel_rfl) (by kernel_rfl) (fun _ _ _ h => h) (Or.inl ⟨by kernel_rfl, fun w hS => by have hc := ((cells10 (HG5.out hS).1).2.2.2.1); go_simp⟩) (by assumption) ?_
          try simp only [Act.put, List.setIfInBounds_toArray, List.set_cons_succ, List.set_cons_zero]
          by_cases htr : x.tr = tr
          · have n3 : (x.tr == (tr : Int)) = true := by rw [beq_iff_eq]; exact htr
            have n4 : (x.tr != (tr : Int)) = false := by rw [bne, n3]; rfl
            have HTR := Lib.hid htr
            clear htr
            refine wpAnyH_take (i := 15) (oi := ⟨some 103, _, _, _, _, _⟩) (v := .bool false) rfl (by kernel_rfl) (by kernel_rfl) (by kernel_rfl) (fun _ _ _ h => h) (Or.inl ⟨by kernel_rfl, fun w hS => by go_simp⟩) (by assumption) ?_
            try simp only [Act.put, List.setIfInBounds_toArray, List.set_cons_succ, List.set_cons_zero]
            refine wpAnyH_take (i := 16) (oi := ⟨some 104, _, _, _, _, _⟩) (v := .bool false) rfl (by kernel_rfl) (by kernel_rfl) (by kernel_rfl) (fun _ _ _ h => h) (Or.inl ⟨by kernel_rfl, fun w hS => by go_simp⟩) (by assumption) ?_
            try simp only [Act.put, List.setIfInBounds_toArray, List.set_cons_succ, List.set_cons_zero]
            refine wpAnyH_take (i := 17) (oi := ⟨some 105, _, _, _, _, _⟩) (v := .bool false) rfl (by kernel_rfl) (by kernel_rfl) (by kernel_rfl) (fun _ _ _ h => h) (Or.inl ⟨by kernel_rfl, fun w hS => by go_simp⟩) (by assumption) ?_
            try simp only [Act.put, List.setIfInBounds_toArray, List.set_cons_succ, List.set_cons_zero]
            refine wpAnyH_take (i := 18) (oi := ⟨some 106, _, _, _, _, _⟩) (v := .pointer (some ⟨w.heap.size + 1, 5, none⟩)) rfl (by kernel_rfl) (by kernel_rfl) (by kernel_rfl) (fun _ _ _ h => h) (Or.inl ⟨by kernel_rfl, fun w hS => by go_simp⟩) (by assumption) ?_
            try simp only [Act.put, List.setIfInBounds_toArray, List.set_cons_succ, List.set_cons_zero]
            refine wpAnyH_take (i := 19) (oi := ⟨some 107, _, _, _, _, _⟩) (v := .bool x.bk) rfl (by kernel_rfl) (by kernel_rfl) (by kernel_rfl) (fun _ _ _ h => h) (Or.inl ⟨by kernel_rfl, fun w hS => by have hc := ((rec_cells HC.out (HG5.out hS).2.1).2.2.2.2.1); go_simp⟩) (by assumption) ?_
            try simp only [Act.put, List.setIfInBounds_toArray, List.set_cons_succ, List.set_cons_zero]
            refine wpAnyH_take (i := 20) (oi := ⟨some 108, _, _, _, _, _⟩) (v := .pointer (some ⟨w.heap.size, 5, none⟩)) rfl (by kernel_rfl) (by kernel_rfl) (by kernel_rfl) (fun _ _ _ h => h) (Or.inl ⟨by kernel_rfl, fun w hS => by go_simp⟩) (by assumption) ?_
            try simp only [Act.put, List.setIfInBounds_toArray, List.set_cons_succ, List.set_cons_zero]
            refine wpAnyH_take (i := 21) (oi := ⟨some 109, _, _, _, _, _⟩) (v := .bool bk) rfl (by kernel_rfl) (by kernel_rfl) (by kernel_rfl) (fun _ _ _ h => h) (Or.inl ⟨by kernel_rfl, fun w hS => by have hc := ((cells10 (HG5.out hS).1).2.2.2.2.2.1); go_simp⟩) (by assumption) ?_
            try simp only [Act.put, List.setIfInBounds_toArray, List.set_cons_succ, List.set_cons_zero]
            by_cases hbk : x.bk = bk
            · have n5 : (x.bk == bk) = true := by rw [beq_iff_eq]; exact hbk
              have n6 : (x.bk != bk) = false := by rw [bne, n5]; rfl
              have HBK := Lib.hid hbk
              clear hbk
              refine wpAnyH_take (i := 22) (oi := ⟨some 110, _, _, _, _, _⟩) (v := .bool false) rfl (by kernel_rfl) (by kernel_rfl) (by kernel_rfl) (fun _ _ _ h => h) (Or.inl ⟨by kernel_rfl, fun w hS => by go_simp⟩) (by assumption) ?_
              try simp only [Act.put, List.setIfInBounds_toArray, List.set_cons_succ, List.set_cons_zero]
              refine wpAnyH_take (i := 23) (oi := ⟨some 111, _, _, _, _, _⟩) (v := .bool false) rfl (by kernel_rfl) (by kernel_rfl) (by kernel_rfl) (fun _ _ _ h => h) (Or.inl ⟨by kernel_rfl, fun w hS => by go_simp⟩) (by assumption) ?_
              try simp only [Act.put, List.setIfInBounds_toArray, List.set_cons_succ, List.set_cons_zero]
              refine wpAnyH_done (by kernel_rfl) ?_ _
              obtain ⟨g0, g1, g8, kw⟩ := HG5.out hS6
              clear b0 b1 b2 b3 b4 b5 b6 b7 b8 b9 x0 x2 x3 x4 x5 x6 x7
              obtain ⟨x0, x2, x3, x4, x5, x6, x7⟩ := rec_cells HC.out g1
              obtain ⟨t0, t1, t2, t3, t4, t5, t6, t7, t8, t9⟩ := cells10 g8
              have hCT : sgC (more ⟨st, ph, po, tr, true, bk, dn, un, my, sq⟩) (.slice a st.length c) = #[.slice a st.length c, .int .i64 ph, .int .i64 po, .int .i64 tr, .bool true, .bool bk, .int .i64 dn, .int .i64 un, .int .i64 my, .int .i64 ((sq : Int) + 1)] := by
                unfold sgC more
                simp
              have hOKm : Okay (more ⟨st, ph, po, tr, true, bk, dn, un, my, sq⟩) := ⟨OK.out.len, OK.out.done, OK.out.may, OK.out.undone, OK.out.pos, OK.out.tries, OK.out.phase, hsq1⟩
              have hkm : 0 ≤ stepOf (more ⟨st, ph, po, tr, true, bk, dn, un, my, sq⟩) := by
                have : stepOf (more ⟨st, ph, po, tr, true, bk, dn, un, my, sq⟩) = SK := HK0.out
                rw [this]; exact hKn
              have HAN : Hid (Calls Tryd.prog 148 #[.agg #[.slice a st.length c, .int .i64 ph, .int .i64 po, .int .i64 tr, .bool true, .bool bk, .int .i64 dn, .int .i64 un, .int .i64 my, .int .i64 ((sq : Int) + 1)], .agg C] w6 (SgPost (answered (more ⟨st, ph, po, tr, true, bk, dn, un, my, sq⟩) x.good) (.slice a st.length c) w6)) := by
                have := f_answered (more ⟨st, ph, po, tr, true, bk, dn, un, my, sq⟩) (.slice a st.length c) C x w6 HC.out hOKm (HSP.out kw) hkm
                rw [hCT] at this; exact this
              have HLA : Hid (Calls Tryd.prog 149 #[.agg #[.slice a st.length c, .int .i64 ph, .int .i64 po, .int .i64 tr, .bool true, .bool bk, .int .i64 dn, .int .i64 un, .int .i64 my, .int .i64 ((sq : Int) + 1)], .int .i64 lim] w6 (SgPost (lapsed (more ⟨st, ph, po, tr, true, bk, dn, un, my, sq⟩) lim) (.slice a st.length c) w6)) := by
                have := f_lapsed (more ⟨st, ph, po, tr, true, bk, dn, un, my, sq⟩) (.slice a st.length c) lim w6 hOKm (HSP.out kw) hkm h9
                rw [hCT] at this; exact this
              have hr1 := range_row g1
              have HNO : Hid (¬ (true = false ∨ x.step ≠ SK ∨ x.tr ≠ tr ∨ x.bk ≠ bk)) := by
                show ¬ _
                rw [HST.out, HTR.out, HBK.out]; simp
              have H34 := Lib.hid K34.out
              clear n1 n2 n3 n4 n5 n6 g0 g1 g8 hCT hOKm hkm
              by_cases k3 : x.kind = 3
              · have E : Hid (go ⟨st, ph, po, tr, true, bk, dn, un, my, sq⟩ x lim = some (answered (more ⟨st, ph, po, tr, true, bk, dn, un, my, sq⟩) x.good)) := E0.out _ (by rw [if_neg HNO.out, if_pos k3])
                rw [k3] at x0
                clear k3 q2' q5'
                go_wp2_with (first | fail | ((with_reducible refine load30 ?_ hr1 hsz ?_); rfl))
                refine HAN.out.mono ?_
                rintro e w7 ⟨rfl, k7⟩
                have hfin := Lib.hid (HN2.out (sgC (answered (more ⟨st, ph, po, tr, true, bk, dn, un, my, sq⟩) x.good) (.slice a st.length c)) (hS6.trans k7))
                go_wp2_with (first | fail | ((with_reducible refine store133 (C := sgC (answered (more ⟨st, ph, po, tr, true, bk, dn, un, my, sq⟩) x.good) (.slice a st.length c)) ?_ ?_ hfin.out.1 hz133 (sgC_size _ _) (sgC_one _ _ _ _) ?_); rfl; rfl))
                exact bodyPost_ret (results_go (v := .bool true) rfl _ _ _ (setRow_heap _ _ _ _ _ _ hfin.out.1) (sgC_size _ _) (by first | rfl | simp) (by first | rfl | simp)) rfl (GoPost.yes E.out rfl hfin.out.2)
              · have E : Hid (go ⟨st, ph, po, tr, true, bk, dn, un, my, sq⟩ x lim = some (lapsed (more ⟨st, ph, po, tr, true, bk, dn, un, my, sq⟩) lim)) := E0.out _ (by rw [if_neg HNO.out, if_neg k3])
                have k4 : x.kind = 4 := H34.out.resolve_left k3
                rw [k4] at x0
                clear k3 k4 q2' q5'
                go_wp2_with fail
                refine HLA.out.mono ?_
                rintro e w7 ⟨rfl, k7⟩
                have hfin := Lib.hid (HN2.out (sgC (lapsed (more ⟨st, ph, po, tr, true, bk, dn, un, my, sq⟩) lim) (.slice a st.length c)) (hS6.trans k7))
                go_wp2_with (first | fail | ((with_reducible refine store133 (C := sgC (lapsed (more ⟨st, ph, po, tr, true, bk, dn, un, my, sq⟩) lim) (.slice a st.length c)) ?_ ?_ hfin.out.1 hz133 (sgC_size _ _) (sgC_one _ _ _ _) ?_); rfl; rfl))
                exact bodyPost_ret (results_go (v := .bool true) rfl _ _ _ (setRow_heap _ _ _ _ _ _ hfin.out.1) (sgC_size _ _) (by first | rfl | simp) (by first | rfl | simp)) rfl (GoPost.yes E.out rfl hfin.out.2)
            · have n5 : (x.bk == bk) = false := by rw [beq_eq_false_iff_ne]; exact hbk
              have n6 : (x.bk != bk) = true := by rw [bne, n5]; rfl
              refine wpAnyH_take (i := 22) (oi := ⟨some 110, _, _, _, _, _⟩) (v := .bool true) rfl (by kernel_rfl) (by kernel_rfl) (by kernel_rfl) (fun _ _ _ h => h) (Or.inl ⟨by kernel_rfl, fun w hS => by go_simp⟩) (by assumption) ?_
              try simp only [Act.put, List.setIfInBounds_toArray, List.set_cons_succ, List.set_cons_zero]
              refine wpAnyH_take (i := 23) (oi := ⟨some 111, _, _, _, _, _⟩) (v := .bool true) rfl (by kernel_rfl) (by kernel_rfl) (by kernel_rfl) (fun _ _ _ h => h) (Or.inl ⟨by kernel_rfl, fun w hS => by go_simp⟩) (by assumption) ?_
              try simp only [Act.put, List.setIfInBounds_toArray, List.set_cons_succ, List.set_cons_zero]
              have E : Hid (go ⟨st, ph, po, tr, true, bk, dn, un, my, sq⟩ x lim = none) := E0.out none (if_pos (.inr (.inr (.inr hbk))))
              clear b0 b1 b2 b3 b4 b5 b6 b7 b8 b9
              obtain ⟨b0, b1, b2, b3, b4, b5, b6, b7, b8, b9⟩ := cells10 (HG5.out hS6).1
              refine wpAnyH_done (by kernel_rfl) ?_ _
              have hfin := Lib.hid (HN.out hS6)
              go_wp2_with (first | fail | ((with_reducible refine store133 (C := #[.slice a st.length c, .int .i64 ph, .int .i64 po, .int .i64 tr, .bool true, .bool bk, .int .i64 dn, .int .i64 un, .int .i64 my, .int .i64 sq]) ?_ ?_ hfin.out.1 hz133 (ten _ _ _ _ _ _ _ _ _ _) (one10 _ _ _ _ _ _ _ _ _ _ _ _) ?_); rfl; rfl))
              exact bodyPost_ret (results_go (v := .bool false) rfl _ _ _ (setRow_heap _ _ _ _ _ _ hfin.out.1) rfl (by first | rfl | simp) (by first | rfl | simp)) rfl (GoPost.no E.out rfl hfin.out.2)
          · have n3 : (x.tr == (tr : Int)) = false := by rw [beq_eq_false_iff_ne]; exact htr
            have n4 : (x.tr != (tr : Int)) = true := by rw [bne, n3]; rfl
            refine wpAnyH_take (i := 15) (oi := ⟨some 103, _, _, _, _, _⟩) (v := .bool true) rfl (by kernel_rfl) (by kernel_rfl) (by kernel_rfl) (fun _ _ _ h => h) (Or.inl ⟨by kernel_rfl, fun w hS => by go_simp⟩) (by assumption) ?_
            try simp only [Act.put, List.setIfInBounds_toArray, List.set_cons_succ, List.set_cons_zero]
            refine wpAnyH_take (i := 16) (oi := ⟨some 104, _, _, _, _, _⟩) (v := .bool true) rfl (by kernel_rfl) (by kernel_rfl) (by kernel_rfl) (fun _ _ _ h => h) (Or.inl ⟨by kernel_rfl, fun w hS => by go_simp⟩) (by assumption) ?_
            try simp only [Act.put, List.setIfInBounds_toArray, List.set_cons_succ, List.set_cons_zero]
            refine wpAnyH_take (i := 17) (oi := ⟨some 105, _, _, _, _, _⟩) (v := .bool true) rfl (by kernel_rfl) (by kernel_rfl) (by kernel_rfl) (fun _ _ _ h => h) (Or.inl ⟨by kernel_rfl, fun w hS => by go_simp⟩) (by assumption) ?_
            try simp only [Act.put, List.setIfInBounds_toArray, List.set_cons_succ, List.set_cons_zero]
            refine wpAnyH_take (i := 18) (oi := ⟨some 106, _, _, _, _, _⟩) (v := undef) rfl (by kernel_rfl) (by kernel_rfl) (by kernel_rfl) (fun _ _ _ h => h) (Or.inr ⟨by kernel_rfl, rfl⟩) (by assumption) ?_
            try simp only [Act.put, List.setIfInBounds_toArray, List.set_cons_succ, List.set_cons_zero]
            refine wpAnyH_take (i := 19) (oi := ⟨some 107, _, _, _, _, _⟩) (v := undef) rfl (by kernel_rfl) (by kernel_rfl) (by kernel_rfl) (fun _ _ _ h => h) (Or.inr ⟨by kernel_rfl, rfl⟩) (by assumption) ?_
            try simp only [Act.put, List.setIfInBounds_toArray, List.set_cons_succ, List.set_cons_zero]
            refine wpAnyH_take (i := 20) (oi := ⟨some 108, _, _, _, _, _⟩) (v := undef) rfl (by kernel_rfl) (by kernel_rfl) (by kernel_rfl) (fun _ _ _ h => h) (Or.inr ⟨by kernel_rfl, rfl⟩) (by assumption) ?_
            try simp only [Act.put, List.setIfInBounds_toArray, List.set_cons_succ, List.set_cons_zero]
            refine wpAnyH_take (i := 21) (oi := ⟨some 109, _, _, _, _, _⟩) (v := undef) rfl (by kernel_rfl) (by kernel_rfl) (by kernel_rfl) (fun _ _ _ h => h) (Or.inr ⟨by kernel_rfl, rfl⟩) (by assumption) ?_
            try simp only [Act.put, List.setIfInBounds_toArray, List.set_cons_succ, List.set_cons_zero]
            refine wpAnyH_take (i := 22) (oi := ⟨some 110, _, _, _, _, _⟩) (v := undef) rfl (by kernel_rfl) (by kernel_rfl) (by kernel_rfl) (fun _ _ _ h => h) (Or.inr ⟨by kernel_rfl, rfl⟩) (by assumption) ?_
            try simp only [Act.put, List.setIfInBounds_toArray, List.set_cons_succ, List.set_cons_zero]
            refine wpAnyH_take (i := 23) (oi := ⟨some 111, _, _, _, _, _⟩) (v := .bool true) rfl (by kernel_rfl) (by kernel_rfl) (by kernel_rfl) (fun _ _ _ h => h) (Or.inl ⟨by kernel_rfl, fun w hS => by go_simp⟩) (by assumption) ?_
            try simp only [Act.put, List.setIfInBounds_toArray, List.set_cons_succ, List.set_cons_zero]
            have E : Hid (go ⟨st, ph, po, tr, true, bk, dn, un, my, sq⟩ x lim = none) := E0.out none (if_pos (.inr (.inr (.inl htr))))
            clear b0 b1 b2 b3 b4 b5 b6 b7 b8 b9
            obtain ⟨b0, b1, b2, b3, b4, b5, b6, b7, b8, b9⟩ := cells10 (HG5.out hS6).1
            refine wpAnyH_done (by kernel_rfl) ?_ _
            have hfin := Lib.hid (HN.out hS6)
            go_wp2_with (first | fail | ((with_reducible refine store133 (C := #[.slice a st.length c, .int .i64 ph, .int .i64 po, .int .i64 tr, .bool true, .bool bk, .int .i64 dn, .int .i64 un, .int .i64 my, .int .i64 sq]) ?_ ?_ hfin.out.1 hz133 (ten _ _ _ _ _ _ _ _ _ _) (one10 _ _ _ _ _ _ _ _ _ _ _ _) ?_); rfl; rfl))
            exact bodyPost_ret (results_go (v := .bool false) rfl _ _ _ (setRow_heap _ _ _ _ _ _ hfin.out.1) rfl (by first | rfl | simp) (by first | rfl | simp)) rfl (GoPost.no E.out rfl hfin.out.2)
        · have n1 : (x.step == SK) = false := by rw [beq_eq_false_iff_ne]; exact hst
          have n2 : (x.step != SK) = true := by rw [bne, n1]; rfl
          refine wpAnyH_take (i := 8) (oi := ⟨some 96, _, _, _, _, _⟩) (v := .bool true) rfl (by kernel_rfl) (by kernel_rfl) (by kernel_rfl) (fun _ _ _ h => h) (Or.inl ⟨by kernel_rfl, fun w hS => by go_simp⟩) (by assumption) ?_
          try simp only [Act.put, List.setIfInBounds_toArray, List.set_cons_succ, List.set_cons_zero]
          refine wpAnyH_take (i := 9) (oi := ⟨some 97, _, _, _, _, _⟩) (v := .bool true) rfl (by kernel_rfl) (by kernel_rfl) (by kernel_rfl) (fun _ _ _ h => h) (Or.inl ⟨by kernel_rfl, fun w hS => by go_simp⟩) (by assumption) ?_
          try simp only [Act.put, List.setIfInBounds_toArray, List.set_cons_succ, List.set_cons_zero]
          refine wpAnyH_take (i := 10) (oi := ⟨some 98, _, _, _, _, _⟩) (v := .bool true) rfl (by kernel_rfl) (by kernel_rfl) (by kernel_rfl) (fun _ _ _ h => h) (Or.inl ⟨by kernel_rfl, fun w hS => by go_simp⟩) (by assumption) ?_
          try simp only [Act.put, List.setIfInBounds_toArray, List.set_cons_succ, List.set_cons_zero]
          refine wpAnyH_take (i := 11) (oi := ⟨some 99, _, _, _, _, _⟩) (v := undef) rfl (by kernel_rfl) (by kernel_rfl) (by kernel_rfl) (fun _ _ _ h => h) (Or.inr ⟨by kernel_rfl, rfl⟩) (by assumption) ?_
          try simp only [Act.put, List.setIfInBounds_toArray, List.set_cons_succ, List.set_cons_zero]
          refine wpAnyH_take (i := 12) (oi := ⟨some 100, _, _, _, _, _⟩) (v := undef) rfl (by kernel_rfl) (by kernel_rfl) (by kernel_rfl) (fun _ _ _ h => h) (Or.inr ⟨by kernel_rfl, rfl⟩) (by assumption) ?_
          try simp only [Act.put, List.setIfInBounds_toArray, List.set_cons_succ, List.set_cons_zero]
          refine wpAnyH_take (i := 13) (oi := ⟨some 101, _, _, _, _, _⟩) (v := undef) rfl (by kernel_rfl) (by kernel_rfl) (by kernel_rfl) (fun _ _ _ h => h) (Or.inr ⟨by kernel_rfl, rfl⟩) (by assumption) ?_
          try simp only [Act.put, List.setIfInBounds_toArray, List.set_cons_succ, List.set_cons_zero]
          refine wpAnyH_take (i := 14) (oi := ⟨some 102, _, _, _, _, _⟩) (v := undef) rfl (by kernel_rfl) (by kernel_rfl) (by kernel_rfl) (fun _ _ _ h => h) (Or.inr ⟨by kernel_rfl, rfl⟩) (by assumption) ?_
          try simp only [Act.put, List.setIfInBounds_toArray, List.set_cons_succ, List.set_cons_zero]
          refine wpAnyH_take (i := 15) (oi := ⟨some 103, _, _, _, _, _⟩) (v := undef) rfl (by kernel_rfl) (by kernel_rfl) (by kernel_rfl) (fun _ _ _ h => h) (Or.inr ⟨by kernel_rfl, rfl⟩) (by assumption) ?_
          try simp only [Act.put, List.setIfInBounds_toArray, List.set_cons_succ, List.set_cons_zero]
          refine wpAnyH_take (i := 16) (oi := ⟨some 104, _, _, _, _, _⟩) (v := .bool true) rfl (by kernel_rfl) (by kernel_rfl) (by kernel_rfl) (fun _ _ _ h => h) (Or.inl ⟨by kernel_rfl, fun w hS => by go_simp⟩) (by assumption) ?_
          try simp only [Act.put, List.setIfInBounds_toArray, List.set_cons_succ, List.set_cons_zero]
          refine wpAnyH_take (i := 17) (oi := ⟨some 105, _, _, _, _, _⟩) (v := .bool true) rfl (by kernel_rfl) (by kernel_rfl) (by kernel_rfl) (fun _ _ _ h => h) (Or.inl ⟨by kernel_rfl, fun w hS => by go_simp⟩) (by assumption) ?_
          try simp only [Act.put, List.setIfInBounds_toArray, List.set_cons_succ, List.set_cons_zero]
          refine wpAnyH_take (i := 18) (oi := ⟨some 106, _, _, _, _, _⟩) (v := undef) rfl (by kernel_rfl) (by kernel_rfl) (by kernel_rfl) (fun _ _ _ h => h) (Or.inr ⟨by kernel_rfl, rfl⟩) (by assumption) ?_
          try simp only [Act.put, List.setIfInBounds_toArray, List.set_cons_succ, List.set_cons_zero]
          refine wpAnyH_take (i := 19) (oi := ⟨some 107, _, _, _, _, _⟩) (v := undef) rfl (by kernel_rfl) (by kernel_rfl) (by kernel_rfl) (fun _ _ _ h => h) (Or.inr ⟨by kernel_rfl, rfl⟩) (by assumption) ?_
          try simp only [Act.put, List.setIfInBounds_toArray, List.set_cons_succ, List.set_cons_zero]
          refine wpAnyH_take (i := 20) (oi := ⟨some 108, _, _, _, _, _⟩) (v := undef) rfl (by kernel_rfl) (by kernel_rfl) (by kernel_rfl) (fun _ _ _ h => h) (Or.inr ⟨by kernel_rfl, rfl⟩) (by assumption) ?_
          try simp only [Act.put, List.setIfInBounds_toArray, List.set_cons_succ, List.set_cons_zero]
          refine wpAnyH_take (i := 21) (oi := ⟨some 109, _, _, _, _, _⟩) (v := undef) rfl (by kernel_rfl) (by kernel_rfl) (by kernel_rfl) (fun _ _ _ h => h) (Or.inr ⟨by kernel_rfl, rfl⟩) (by assumption) ?_
          try simp only [Act.put, List.setIfInBounds_toArray, List.set_cons_succ, List.set_cons_zero]
          refine wpAnyH_take (i := 22) (oi := ⟨some 110, _, _, _, _, _⟩) (v := undef) rfl (by kernel_rfl) (by kernel_rfl) (by kernel_rfl) (fun _ _ _ h => h) (Or.inr ⟨by kernel_rfl, rfl⟩) (by assumption) ?_
          try simp only [Act.put, List.setIfInBounds_toArray, List.set_cons_succ, List.set_cons_zero]
          refine wpAnyH_take (i := 23) (oi := ⟨some 111, _, _, _, _, _⟩) (v := .bool true) rfl (by kernel_rfl) (by kernel_rfl) (by kernel_rfl) (fun _ _ _ h => h) (Or.inl ⟨by kernel_rfl, fun w hS => by go_simp⟩) (by assumption) ?_
          try simp only [Act.put, List.setIfInBounds_toArray, List.set_cons_succ, List.set_cons_zero]
          have E : Hid (go ⟨st, ph, po, tr, true, bk, dn, un, my, sq⟩ x lim = none) := E0.out none (if_pos (.inr (.inl hst)))
          clear b0 b1 b2 b3 b4 b5 b6 b7 b8 b9
          obtain ⟨b0, b1, b2, b3, b4, b5, b6, b7, b8, b9⟩ := cells10 (HG5.out hS6).1
          refine wpAnyH_done (by kernel_rfl) ?_ _
          have hfin := Lib.hid (HN.out hS6)
          go_wp2_with (first | fail | ((with_reducible refine store133 (C := #[.slice a st.length c, .int .i64 ph, .int .i64 po, .int .i64 tr, .bool true, .bool bk, .int .i64 dn, .int .i64 un, .int .i64 my, .int .i64 sq]) ?_ ?_ hfin.out.1 hz133 (ten _ _ _ _ _ _ _ _ _ _) (one10 _ _ _ _ _ _ _ _ _ _ _ _) ?_); rfl; rfl))
          exact bodyPost_ret (results_go (v := .bool false) rfl _ _ _ (setRow_heap _ _ _ _ _ _ hfin.out.1) rfl (by first | rfl | simp) (by first | rfl | simp)) rfl (GoPost.no E.out rfl hfin.out.2)
  · have k3 : ¬ x.kind = 3 := fun h => k34 (.inl h)
    have k4 : ¬ x.kind = 4 := fun h => k34 (.inr h)
    have E : Hid (go ⟨st, ph, po, tr, wt, bk, dn, un, my, sq⟩ x lim = none) := by
      show go _ _ _ = _
      rw [go, if_neg (by rw [HQ.out, HO.out]; simp; exact H0.out), if_neg K2.out, if_neg K5.out, if_neg k34]
    have q3' : (x.kind == 3) = false := by rw [beq_eq_false_iff_ne]; exact k3
    have q4' : (x.kind == 4) = false := by rw [beq_eq_false_iff_ne]; exact k4
    have q4n : (x.kind != 4) = true := by rw [bne, q4']; rfl
    have hfin := Lib.hid (HN.out (Kept.refl _ _))
    clear k34 k3 k4
    go_wp2_with (first | fail | ((with_reducible refine store133 (C := #[.slice a st.length c, .int .i64 ph, .int .i64 po, .int .i64 tr, .bool wt, .bool bk, .int .i64 dn, .int .i64 un, .int .i64 my, .int .i64 sq]) ?_ ?_ hfin.out.1 hz133 (ten _ _ _ _ _ _ _ _ _ _) (one10 _ _ _ _ _ _ _ _ _ _ _ _) ?_); rfl; rfl))
    exact bodyPost_ret (results_go (v := .bool false) rfl _ _ _ (setRow_heap _ _ _ _ _ _ hfin.out.1) rfl (by first | rfl | simp) (by first | rfl | simp)) rfl (GoPost.no E.out rfl hfin.out.2)
end Go.Proofs.YtklmhegmombegaaDoor.Re
