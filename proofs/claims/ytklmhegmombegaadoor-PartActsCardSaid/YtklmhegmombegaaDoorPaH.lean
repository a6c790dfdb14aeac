/-
  What Take defers (67): the answer's tag. Conditions: as each theorem says.
  A participant's Take (36). Conditions: as each theorem says.
  A new participant (34), its entries (39), Take of no participant. Conditions: as each theorem says.
-/
import Derived.Test.YtklmhegmombegaaDoorPaF
import Derived.Defers
set_option linter.unusedVariables false
set_option linter.unusedSimpArgs false
set_option maxRecDepth 100000
namespace Go.Proofs.YtklmhegmombegaaDoor
open Go Go.RowKit Plain
/-- The tag is written. -/
def TagPost (b : Nat) (c : Cl) (w : World) (e : Ending) (w' : World) : Prop := e = .returned (.tuple #[]) ∧ w'.heap[b]? = some (.cells (clC c) 59 (0, 0)) ∧ Kept (fun i => i = b) w w'
theorem TagPost.mk {b : Nat} {c : Cl} {w w' : World} (h : w'.heap[b]? = some (.cells (clC c) 59 (0, 0))) (k : Kept (fun i => i = b) w w') : TagPost b c w (.returned (.tuple #[])) w' := ⟨rfl, h, k⟩
/-- Its tag, by the keys. -/
def tagged (k : Ky) (c : Cl) : Cl := { c with tag := kRec k (tRec c 1) }
theorem tagged_len (k : Ky) (c : Cl) : (tagged k c).tag.length = 32 := kRec_len _ _
set_option maxHeartbeats 8000000 in
theorem d_tag (w0 : World) (g r : Nat) (pv wv sv : Value) (k : Ky) (n ep : Int) (l : List En) (c : Cl) (b3 b6 : Nat) (u : FrameMode) (w : World) (h : Pa w0 w g r pv wv sv k n ep l) (h3 : w.heap[b3]? = some (.cells #[.pointer (some ⟨g, 0, none⟩)] 55 (0, 0))) (h6 : w.heap[b6]? = some (.cells (clC c) 59 (0, 0))) (hl : c.tag.length = 32) (ha : c.answer = true) (hs : W64 c.saga) (ht : W64 c.step) :
    CallsD Tryd.prog 67 #[.pointer (some ⟨b3, 0, none⟩), .pointer (some ⟨b6, 0, none⟩)] u w fun e u' w' => u' = u ∧ TagPost b6 (tagged k c) w e w' := by
  have kd := (Kept.refl (fun _ => False) w).drew
  have HP := Lib.hid (h.same kd)
  have G3 := Lib.hid (kd.row h3)
  have G6 := Lib.hid (kd.row h6)
  have KD := Lib.hid kd
  have HL := Lib.hid hl
  have hz := Lib.hid (clC_size hl)
  have HSG : Hid (-9223372036854775808 ≤ (tRec c 1).saga ∧ (tRec c 1).saga ≤ 9223372036854775807) := by show _ ∧ _; simp only [tRec, ha, if_true]; exact hs
  have HST : Hid (-9223372036854775808 ≤ (tRec c 1).step ∧ (tRec c 1).step ≤ 9223372036854775807) := by show _ ∧ _; simp only [tRec, ha, if_true]; exact ht
  have HKZ : Hid ((ints .u8 (kRec k (tRec c 1))).size = 32) := by show _ = _; rw [ints_size]; exact kRec_len _ _
  have HKO := Lib.hid (ints_one .u8 (kRec k (tRec c 1)))
  have HSO : Hid (9 + 32 ≤ (clC c).size) := by show _ ≤ _; rw [clC_size hl]; decide
  have HPUT : Hid (puts (clC c) 9 (ints .u8 (kRec k (tRec c 1))).toList = clC (tagged k c)) := clC_put hl (kRec_len _ _)
  clear kd h h3 h6 hl ha hs ht
  go_enter_d Tryd.func67, Tryd.ntmps67
  refine wp_region_last_drew (S := fun w' => Kept (fun _ => False) w.drew w') 8 (by kernel_rfl) (Kept.refl _ _) (fun hHeld => ?_)
  generalize w.drew = w1 at *
  refine wpAnyL_take (i := 0) (oi := ⟨some 2, _, _, _, _, _⟩) (v := .pointer (some ⟨g, 0, none⟩)) [8] rfl (by kernel_rfl) (by kernel_rfl) (by kernel_rfl) (by kernel_rfl) (fun _ _ _ h => h) (Or.inl ⟨by kernel_rfl, fun w' hS => by have c := row_cell (k := 0) (hS.row G3.out) (v := .pointer (some ⟨g, 0, none⟩)) (rfl); go_simp⟩) (by assumption) ?_
  try simp only [Act.put, List.setIfInBounds_toArray, List.set_cons_succ, List.set_cons_zero]
  refine wpAnyL_take (i := 1) (oi := ⟨some 3, _, _, _, _, _⟩) (v := .pointer (some ⟨g, 0, none⟩)) [8] rfl (by kernel_rfl) (by kernel_rfl) (by kernel_rfl) (by kernel_rfl) (fun _ _ _ h => h) (Or.inl ⟨by kernel_rfl, fun w' hS => by go_simp⟩) (by assumption) ?_
  try simp only [Act.put, List.setIfInBounds_toArray, List.set_cons_succ, List.set_cons_zero]
  refine wpAnyL_take (i := 2) (oi := ⟨some 4, _, _, _, _, _⟩) (v := .pointer (some ⟨g, 0, none⟩)) [8] rfl (by kernel_rfl) (by kernel_rfl) (by kernel_rfl) (by kernel_rfl) (fun _ _ _ h => h) (Or.inl ⟨by kernel_rfl, fun w' hS => by go_simp⟩) (by assumption) ?_
  try simp only [Act.put, List.setIfInBounds_toArray, List.set_cons_succ, List.set_cons_zero]
  refine wpAnyL_take (i := 3) (oi := ⟨some 5, _, _, _, _, _⟩) (v := .agg #[pv, wv, .int .i64 k.need]) [8] rfl (by kernel_rfl) (by kernel_rfl) (by kernel_rfl) (by kernel_rfl) (fun _ _ _ h => h) (Or.inl ⟨by kernel_rfl, fun w' hS => by have c0 := row_cell (k := 0) (hS.row HP.out.blk) (v := pv) (rfl); have c1 := row_cell (k := 1) (hS.row HP.out.blk) (v := wv) (rfl); have c2 := row_cell (k := 2) (hS.row HP.out.blk) (v := .int .i64 k.need) (rfl); go_simp⟩) (by assumption) ?_
  try simp only [Act.put, List.setIfInBounds_toArray, List.set_cons_succ, List.set_cons_zero]
  refine wpAnyL_take (i := 4) (oi := ⟨some 6, _, _, _, _, _⟩) (v := .agg (clC c)) [8] rfl (by kernel_rfl) (by kernel_rfl) (by kernel_rfl) (by kernel_rfl) (fun _ _ _ h => h) (yields59 (C := clC c) (g := b6) (o := 0) (by kernel_rfl) rfl (fun w' hS => range_row (hS.row G6.out)) hz.out) (by assumption) ?_
  try simp only [Act.put, List.setIfInBounds_toArray, List.set_cons_succ, List.set_cons_zero]
  refine wpAnyL_ready (rs := [5]) (by kernel_rfl) (by simp) ?_
  refine AllReadyL.cons (o := _) rfl (fun K hK => ?_) AllReadyL.nil
  go_simp
  refine (f_preceipt c 1 w1 HL.out).mono ?_
  rintro e w2 ⟨rfl, k2⟩
  have HR := Lib.hid (recC_in w2 HL.out 1)
  have HF := Lib.hid (f_receipt pv wv k (recC c 1) (tRec c 1) w2 (HP.out.same k2).laidNow (HP.out.same k2).keysNow HR.out HSG.out HST.out)
  go_wp2_with fail
  refine hK.out _ _ k2 (fun hHeld => ?_)
  clear hK K
  try simp only [Act.put, List.setIfInBounds_toArray, List.set_cons_succ, List.set_cons_zero]
  refine wpAnyL_ready (rs := [6]) (by kernel_rfl) (by simp) ?_
  refine AllReadyL.cons (o := _) rfl (fun K hK => ?_) AllReadyL.nil
  go_simp
  refine HF.out.mono ?_
  rintro e w3 ⟨rfl, k3⟩
  have k23 := k2.trans k3
  go_wp2_with fail
  refine hK.out _ _ k23 (fun hHeld => ?_)
  clear hK K
  try simp only [Act.put, List.setIfInBounds_toArray, List.set_cons_succ, List.set_cons_zero]
  refine wpAnyL_take (i := 7) (oi := ⟨some 9, _, _, _, _, _⟩) (v := .pointer (some ⟨b6, 9, none⟩)) [8] rfl (by kernel_rfl) (by kernel_rfl) (by kernel_rfl) (by kernel_rfl) (fun _ _ _ h => h) (Or.inl ⟨by kernel_rfl, fun w' hS => by go_simp⟩) (by assumption) ?_
  try simp only [Act.put, List.setIfInBounds_toArray, List.set_cons_succ, List.set_cons_zero]
  refine wpAnyL_ready (rs := [8]) (by kernel_rfl) (by simp) ?_
  refine AllReadyL.ends (o := _) rfl (fun K hK => ?_)
  refine step_store26 (C := ints .u8 (kRec k (tRec c 1))) (g := b6) (o := 9) (by kernel_rfl) rfl rfl HKZ.out HKO.out (k23.row G6.out) HSO.out ?_
  intro w4 g4 k4
  refine hK.out _ _ ?_
  clear hK K
  try simp only [Act.put, List.setIfInBounds_toArray, List.set_cons_succ, List.set_cons_zero]
  refine wpAnyL_done (by kernel_rfl) ?_ _
  rw [HPUT.out] at g4
  have KA := Lib.hid ((KD.out.trans k23).mono (T := fun i => i = b6) (fun _ _ e => e.elim))
  have G4 := Lib.hid g4
  have K4 := Lib.hid k4
  clear g4 k4 k23 k3 k2 hHeld HR HF
  go_wp2_with fail
  go_end0
  first | exact ⟨rfl, TagPost.mk G4.out (KA.out.trans K4.out)⟩ | exact ⟨rfl, rfl, G4.out, KA.out.trans K4.out⟩ | exact ⟨rfl, G4.out, KA.out.trans K4.out⟩
end Go.Proofs.YtklmhegmombegaaDoor
namespace Go.Proofs.YtklmhegmombegaaDoor
open Go Go.RowKit Plain
section
variable {ops : Array Oper} {dst : Option Tmp} {ty : TypeId} {pos : String} {aft : Array Edge} {gd : Option (Nat × Bool)} {a : Act} {S : World → Prop}
theorem yields59b {C0 : Array Value} {c : Cl} {x0 x1 x2 x3 x4 x5 x7 x8 : Operand} (hC0 : C0 = clC c) (hc : c.tag = z32n) (ha : c.answer = true) (h0 : a.eval x0 = .int .i64 c.saga) (h1 : a.eval x1 = .int .i64 c.step) (h2 : a.eval x2 = .int .i64 c.try_) (h3 : a.eval x3 = .bool c.back) (h4 : a.eval x4 = .int .i64 c.part) (h5 : a.eval x5 = .int .i64 c.kind) (h7 : a.eval x7 = .bool c.good) (h8 : a.eval x8 = .int .i64 c.epoch) :
    YieldsIf Tryd.prog ops S ⟨dst, .build 59 #[(0, x0), (1, x1), (2, x2), (3, x3), (4, x4), (5, x5), (6, .const (.bool true)), (7, x7), (8, x8)], ty, pos, aft, none⟩ (.agg C0) a := by
  subst hC0
  refine .inl ⟨by simp [Region.wanted], fun w hS => ?_⟩
  obtain ⟨s, t, u, b, p, q, f, h, e, tag⟩ := c
  dsimp only at hc ha h0 h1 h2 h3 h4 h5 h7 h8
  subst hc ha
  have hr := run_build (P := Tryd.prog) w 59 #[(0, .int .i64 s), (1, .int .i64 t), (2, .int .i64 u), (3, .bool b), (4, .int .i64 p), (5, .int .i64 q), (6, .bool true), (7, .bool h), (8, .int .i64 e)] _ (built59 (s := s) (t := t) (u := u) (b := b) (p := p) (q := q) (f := true) (h := h) (e := e))
  unfold execOp
  simp only [List.map_toArray, List.map_cons, List.map_nil, Sem.run_bind]
  show Result.andThen (Sem.run Tryd.prog (Instr.build 59 #[(0, a.eval x0), (1, a.eval x1), (2, a.eval x2), (3, a.eval x3), (4, a.eval x4), (5, a.eval x5), (6, .bool true), (7, a.eval x7), (8, a.eval x8)]) w) _ = _
  rw [h0, h1, h2, h3, h4, h5, h7, h8, hr]
  rfl
end
/-- An answer ahead of its tag; with it. -/
def outC (c : Cl) (good : Bool) (ep : Int) : Cl := ⟨c.saga, c.step, c.try_, c.back, c.part, c.kind, true, good, ep, z32n⟩
/-- What Take answers, and what is remembered then. -/
def pTake (k : Ky) (n ep : Int) (l : List En) (c : Cl) (refuse : Bool) : Cl × Bool × List En :=
  if pIts n c = true then (tagged k (outC c (pSays l c refuse).1 ep), true, (pSays l c refuse).2) else (zCl, false, l)
def takeV (x : Cl × Bool × List En) : Value := .tuple #[.agg (clC x.1), .bool x.2.1]
theorem its_fit {n : Int} {c : Cl} (h : pIts n c = true) : W64 c.saga ∧ W64 c.step := by
  simp only [pIts, Bool.and_eq_true] at h
  have e1 := wi_le h.2.2.1
  have e2 := wi_le h.2.2.2.1
  unfold W64
  omega
theorem leaves_put {P : Program} {fn : Func} {R : Ending → World → Prop} {tmps tmps' : Array Value} (hr : results fn tmps = results fn tmps') : ∀ (ds : List Deferred) (u : FrameMode) (w : World), Leaves P fn tmps R ds u w → Leaves P fn tmps' R ds u w
  | [], .returning, w, ⟨v, h1, h2⟩ => ⟨v, hr ▸ h1, h2⟩
  | [], .panicking _, _, h => h
  | [], .run, _, h => h.elim
  | d :: ds, u, w, ⟨hu, fv, cap, f, args, h1, h2, h3⟩ => ⟨hu, fv, cap, f, args, h1, h2, h3.mono fun e u' w' h => by
      cases e with
      | returned v => exact leaves_put hr ds _ _ h
      | panicked c => exact leaves_put hr ds _ _ h
      | outgrown => exact h⟩
theorem hQ36 {K : Act → World → Prop} {R : Ending → World → Prop} (d : Nat) (hd : d ≠ 6 ∧ d ≠ 7) (v : Value) : ∀ (c : List PanicEntry) (a : Act) (w : World), Exit.then K (bodyPostD Tryd.prog Tryd.f36 R) (.panic c) (a.put (some d) v) w → Exit.then K (bodyPostD Tryd.prog Tryd.f36 R) (.panic c) a w := fun c a w h => by
  refine leaves_put ?_ _ _ _ h
  have e6 : (a.put (some d) v).tmps[6]? = a.tmps[6]? := by simp only [Act.put]; rw [Array.getElem?_setIfInBounds_ne hd.1]
  have e7 : (a.put (some d) v).tmps[7]? = a.tmps[7]? := by simp only [Act.put]; rw [Array.getElem?_setIfInBounds_ne hd.2]
  simp [results, Tryd.results36, e6, e7]
theorem Z59_one : Z59.all (·.oneCell') = true := clC_one _
theorem setRow_kept (w : World) (g : Nat) (C : Array Value) : Kept (fun i => i = g) w (w.setRow g C) := ⟨rfl, rfl, rfl, by simp [World.setRow], fun i _ h => setRow_other w g i C h⟩
set_option maxHeartbeats 8000000 in
theorem f_take (w0 : World) (g r : Nat) (pv wv sv : Value) (k : Ky) (n ep : Int) (l : List En) (c : Cl) (refuse : Bool) (w : World) (h : Pa w0 w g r pv wv sv k n ep l) (hc : c.tag.length = 32) (hl : l.length ≤ 1000) :
    Calls Tryd.prog 36 #[.pointer (some ⟨g, 0, none⟩), .agg (clC c), .bool refuse] w (PaPost (takeV (pTake k n ep l c refuse)) w0 w g r pv wv sv k n ep (pTake k n ep l c refuse).2.2) := by
  have k1 := (((Kept.refl (fun _ => False) w).alloc (.cells #[.pointer (some ⟨g, 0, none⟩)] 55)).alloc (.cells (clC c) 59)).alloc (.cells Z59 59)
  obtain ⟨gb, gc, gz⟩ := heap_alloc3 w (.cells #[.pointer (some ⟨g, 0, none⟩)] 55) (.cells (clC c) 59) (.cells Z59 59)
  have HPW := Lib.hid h
  have HP1 := Lib.hid (h.same k1)
  have GB := Lib.hid gb
  have GC := Lib.hid gc
  have GZ := Lib.hid gz
  have K1 := Lib.hid k1
  have HC := Lib.hid (clC_size hc)
  have HL := Lib.hid hl
  have HI := Lib.hid (f_its g r pv wv sv k.need n ep c (((w.alloc (.cells #[.pointer (some ⟨g, 0, none⟩)] 55)).alloc (.cells (clC c) 59)).alloc (.cells Z59 59)) (h.same k1).blk)
  have cb := row_cell (k := 0) gb (v := .pointer (some ⟨g, 0, none⟩)) rfl
  clear k1 gb gc gz h hc hl
  have hmf : ∀ (fn : Fn) (first cap : Array Value) (w : World), (Instr.makeFunc fn first cap).run Tryd.prog w = .ok (.func fn first cap) w := fun _ _ _ _ => rfl
  go_enter_defers Tryd.func36, Tryd.ntmps36
  go_upto_region 1 with (first | fail | (with_reducible refine alloc59 ?_))
  generalize (((w.alloc (.cells #[.pointer (some ⟨g, 0, none⟩)] 55)).alloc (.cells (clC c) 59)).alloc (.cells Z59 59)) = w1 at *
  cases hi : pIts n c with
  | false =>
    rw [hi] at HI
    have E : Hid (pTake k n ep l c refuse = (zCl, false, l)) := by show _ = _; simp [pTake, hi]
    clear hi
    go_wp2_with (first | fail | ((with_reducible refine load59 (C := clC c) (g := w.heap.size + 1) (o := 0) ?_ (range_row GC.out) HC.out ?_); rfl))
    refine HI.out.mono ?_
    rintro e w2 ⟨rfl, k2⟩
    have GZ2 := Lib.hid (k2.row GZ.out)
    have K2 := Lib.hid (K1.out.trans k2)
    have HP2 := Lib.hid (HP1.out.same k2)
    clear k2
    go_wp2_with (first | fail | (with_reducible refine build59 ?_) | ((with_reducible refine store59 (C := Z59) ?_ ?_ GZ2.out Z59_size Z59_size Z59_one ?_); rfl; rfl))
    have kk : Kept (fun _ => False) w (w2.setRow (w.heap.size + 1 + 1) Z59) := K2.out.setRow (by omega) _
    exact ⟨_, results_59 rfl _ _ _ (setRow_heap _ _ _ _ _ _ GZ2.out) Z59_size rfl rfl, PaPost.mk (by rw [E.out]; rfl) (by rw [E.out]) (HPW.out.same kk) (kk.mono fun _ _ e => e.elim) (.inl rfl)⟩
  | true =>
    rw [hi] at HI
    have E : Hid (pTake k n ep l c refuse = (tagged k (outC c (pSays l c refuse).1 ep), true, (pSays l c refuse).2)) := by show _ = _; simp [pTake, hi]
    have HF := Lib.hid (its_fit hi)
    clear hi
    go_upto_region 4 with (first | fail | ((with_reducible refine load59 (C := clC c) (g := w.heap.size + 1) (o := 0) ?_ (range_row GC.out) HC.out ?_); rfl) | ((with_reducible refine HI.out.mono ?_); rintro e w2 ⟨rfl, k2⟩))
    have kd := k2.drew
    have GB3 := Lib.hid (kd.row GB.out)
    have GC3 := Lib.hid (kd.row GC.out)
    have GZ3 := Lib.hid (kd.row GZ.out)
    have K3 := Lib.hid (K1.out.trans kd)
    have HP3 := Lib.hid (HP1.out.same kd)
    clear kd k2 GB GC GZ K1 HP1 HI cb
    have hS3 : w2.drew.heap[w.heap.size]? = some (.cells #[.pointer (some ⟨g, 0, none⟩)] 55 (0, 0)) ∧ w2.drew.heap[w.heap.size + 1]? = some (.cells (clC c) 59 (0, 0)) ∧ w2.drew.cell? ⟨g, 4, none⟩ = some (.int .i64 ep) := ⟨GB3.out, GC3.out, row_cell (k := 4) HP3.out.blk rfl⟩
    refine wp_region_last_drew (S := fun w' => w'.heap[w.heap.size]? = some (.cells #[.pointer (some ⟨g, 0, none⟩)] 55 (0, 0)) ∧ w'.heap[w.heap.size + 1]? = some (.cells (clC c) 59 (0, 0)) ∧ w'.cell? ⟨g, 4, none⟩ = some (.int .i64 ep)) 21 (by kernel_rfl) hS3 (fun hHeld => ?_)
    generalize w2.drew = w3 at *
    obtain ⟨C0, hC0⟩ : ∃ C0, C0 = clC (outC c (pSays l c refuse).1 ep) := ⟨_, rfl⟩
    have HC0 := Lib.hid hC0
    have HOZ : Hid (C0.size = 41) := by show _ = _; rw [hC0]; exact clC_size rfl
    have HOO : Hid (C0.all (·.oneCell') = true) := by show _ = _; rw [hC0]; exact clC_one _
    have hzz := Lib.hid (show 0 + 41 ≤ Z59.size by rw [Z59_size]; decide)
    clear hC0
    refine wpAnyL_take (i := 0) (oi := ⟨some 14, _, _, _, _, _⟩) (v := .pointer (some ⟨w.heap.size + 1, 0, none⟩)) [21] rfl (by kernel_rfl) (by kernel_rfl) (by kernel_rfl) (by kernel_rfl) (hQ36 14 (by decide) _) (Or.inl ⟨by kernel_rfl, fun w' hS => by go_simp⟩) (by assumption) ?_
    try simp only [Act.put, List.setIfInBounds_toArray, List.set_cons_succ, List.set_cons_zero]
    refine wpAnyL_take (i := 1) (oi := ⟨some 15, _, _, _, _, _⟩) (v := .int .i64 c.saga) [21] rfl (by kernel_rfl) (by kernel_rfl) (by kernel_rfl) (by kernel_rfl) (hQ36 15 (by decide) _) (Or.inl ⟨by kernel_rfl, fun w' hS => by have c := row_cell (k := 0) (hS.2.1) (v := .int .i64 c.saga) (by simp [clC]); go_simp⟩) (by assumption) ?_
    try simp only [Act.put, List.setIfInBounds_toArray, List.set_cons_succ, List.set_cons_zero]
    refine wpAnyL_take (i := 2) (oi := ⟨some 16, _, _, _, _, _⟩) (v := .pointer (some ⟨w.heap.size + 1, 1, none⟩)) [21] rfl (by kernel_rfl) (by kernel_rfl) (by kernel_rfl) (by kernel_rfl) (hQ36 16 (by decide) _) (Or.inl ⟨by kernel_rfl, fun w' hS => by go_simp⟩) (by assumption) ?_
    try simp only [Act.put, List.setIfInBounds_toArray, List.set_cons_succ, List.set_cons_zero]
    refine wpAnyL_take (i := 3) (oi := ⟨some 17, _, _, _, _, _⟩) (v := .int .i64 c.step) [21] rfl (by kernel_rfl) (by kernel_rfl) (by kernel_rfl) (by kernel_rfl) (hQ36 17 (by decide) _) (Or.inl ⟨by kernel_rfl, fun w' hS => by have c := row_cell (k := 1) (hS.2.1) (v := .int .i64 c.step) (by simp [clC]); go_simp⟩) (by assumption) ?_
    try simp only [Act.put, List.setIfInBounds_toArray, List.set_cons_succ, List.set_cons_zero]
    refine wpAnyL_take (i := 4) (oi := ⟨some 18, _, _, _, _, _⟩) (v := .pointer (some ⟨w.heap.size + 1, 2, none⟩)) [21] rfl (by kernel_rfl) (by kernel_rfl) (by kernel_rfl) (by kernel_rfl) (hQ36 18 (by decide) _) (Or.inl ⟨by kernel_rfl, fun w' hS => by go_simp⟩) (by assumption) ?_
    try simp only [Act.put, List.setIfInBounds_toArray, List.set_cons_succ, List.set_cons_zero]
    refine wpAnyL_take (i := 5) (oi := ⟨some 19, _, _, _, _, _⟩) (v := .int .i64 c.try_) [21] rfl (by kernel_rfl) (by kernel_rfl) (by kernel_rfl) (by kernel_rfl) (hQ36 19 (by decide) _) (Or.inl ⟨by kernel_rfl, fun w' hS => by have c := row_cell (k := 2) (hS.2.1) (v := .int .i64 c.try_) (by simp [clC]); go_simp⟩) (by assumption) ?_
    try simp only [Act.put, List.setIfInBounds_toArray, List.set_cons_succ, List.set_cons_zero]
    refine wpAnyL_take (i := 6) (oi := ⟨some 20, _, _, _, _, _⟩) (v := .pointer (some ⟨w.heap.size + 1, 3, none⟩)) [21] rfl (by kernel_rfl) (by kernel_rfl) (by kernel_rfl) (by kernel_rfl) (hQ36 20 (by decide) _) (Or.inl ⟨by kernel_rfl, fun w' hS => by go_simp⟩) (by assumption) ?_
    try simp only [Act.put, List.setIfInBounds_toArray, List.set_cons_succ, List.set_cons_zero]
    refine wpAnyL_take (i := 7) (oi := ⟨some 21, _, _, _, _, _⟩) (v := .bool c.back) [21] rfl (by kernel_rfl) (by kernel_rfl) (by kernel_rfl) (by kernel_rfl) (hQ36 21 (by decide) _) (Or.inl ⟨by kernel_rfl, fun w' hS => by have c := row_cell (k := 3) (hS.2.1) (v := .bool c.back) (by simp [clC]); go_simp⟩) (by assumption) ?_
    try simp only [Act.put, List.setIfInBounds_toArray, List.set_cons_succ, List.set_cons_zero]
    refine wpAnyL_take (i := 8) (oi := ⟨some 22, _, _, _, _, _⟩) (v := .pointer (some ⟨w.heap.size + 1, 4, none⟩)) [21] rfl (by kernel_rfl) (by kernel_rfl) (by kernel_rfl) (by kernel_rfl) (hQ36 22 (by decide) _) (Or.inl ⟨by kernel_rfl, fun w' hS => by go_simp⟩) (by assumption) ?_
    try simp only [Act.put, List.setIfInBounds_toArray, List.set_cons_succ, List.set_cons_zero]
    refine wpAnyL_take (i := 9) (oi := ⟨some 23, _, _, _, _, _⟩) (v := .int .i64 c.part) [21] rfl (by kernel_rfl) (by kernel_rfl) (by kernel_rfl) (by kernel_rfl) (hQ36 23 (by decide) _) (Or.inl ⟨by kernel_rfl, fun w' hS => by have c := row_cell (k := 4) (hS.2.1) (v := .int .i64 c.part) (by simp [clC]); go_simp⟩) (by assumption) ?_
    try simp only [Act.put, List.setIfInBounds_toArray, List.set_cons_succ, List.set_cons_zero]
    refine wpAnyL_take (i := 10) (oi := ⟨some 24, _, _, _, _, _⟩) (v := .pointer (some ⟨w.heap.size + 1, 5, none⟩)) [21] rfl (by kernel_rfl) (by kernel_rfl) (by kernel_rfl) (by kernel_rfl) (hQ36 24 (by decide) _) (Or.inl ⟨by kernel_rfl, fun w' hS => by go_simp⟩) (by assumption) ?_
    try simp only [Act.put, List.setIfInBounds_toArray, List.set_cons_succ, List.set_cons_zero]
    refine wpAnyL_take (i := 11) (oi := ⟨some 25, _, _, _, _, _⟩) (v := .int .i64 c.kind) [21] rfl (by kernel_rfl) (by kernel_rfl) (by kernel_rfl) (by kernel_rfl) (hQ36 25 (by decide) _) (Or.inl ⟨by kernel_rfl, fun w' hS => by have c := row_cell (k := 5) (hS.2.1) (v := .int .i64 c.kind) (by simp [clC]); go_simp⟩) (by assumption) ?_
    try simp only [Act.put, List.setIfInBounds_toArray, List.set_cons_succ, List.set_cons_zero]
    refine wpAnyL_take (i := 12) (oi := ⟨some 26, _, _, _, _, _⟩) (v := .pointer (some ⟨g, 0, none⟩)) [21] rfl (by kernel_rfl) (by kernel_rfl) (by kernel_rfl) (by kernel_rfl) (hQ36 26 (by decide) _) (Or.inl ⟨by kernel_rfl, fun w' hS => by have c := row_cell (k := 0) (hS.1) (v := .pointer (some ⟨g, 0, none⟩)) (rfl); go_simp⟩) (by assumption) ?_
    try simp only [Act.put, List.setIfInBounds_toArray, List.set_cons_succ, List.set_cons_zero]
    refine wpAnyL_take (i := 13) (oi := ⟨some 27, _, _, _, _, _⟩) (v := .agg (clC c)) [21] rfl (by kernel_rfl) (by kernel_rfl) (by kernel_rfl) (by kernel_rfl) (hQ36 27 (by decide) _) (yields59 (C := clC c) (g := w.heap.size + 1) (o := 0) (by kernel_rfl) rfl (fun w' hS => range_row hS.2.1) HC.out) (by assumption) ?_
    try simp only [Act.put, List.setIfInBounds_toArray, List.set_cons_succ, List.set_cons_zero]
    refine wpAnyL_take (i := 14) (oi := ⟨some 28, _, _, _, _, _⟩) (v := .bool refuse) [21] rfl (by kernel_rfl) (by kernel_rfl) (by kernel_rfl) (by kernel_rfl) (hQ36 28 (by decide) _) (Or.inl ⟨by kernel_rfl, fun w' hS => by go_simp⟩) (by assumption) ?_
    try simp only [Act.put, List.setIfInBounds_toArray, List.set_cons_succ, List.set_cons_zero]
    refine wpAnyL_take (i := 16) (oi := ⟨some 30, _, _, _, _, _⟩) (v := .pointer (some ⟨g, 0, none⟩)) [21] rfl (by kernel_rfl) (by kernel_rfl) (by kernel_rfl) (by kernel_rfl) (hQ36 30 (by decide) _) (Or.inl ⟨by kernel_rfl, fun w' hS => by have c := row_cell (k := 0) (hS.1) (v := .pointer (some ⟨g, 0, none⟩)) (rfl); go_simp⟩) (by assumption) ?_
    try simp only [Act.put, List.setIfInBounds_toArray, List.set_cons_succ, List.set_cons_zero]
    refine wpAnyL_take (i := 17) (oi := ⟨some 31, _, _, _, _, _⟩) (v := .pointer (some ⟨g, 0, none⟩)) [21] rfl (by kernel_rfl) (by kernel_rfl) (by kernel_rfl) (by kernel_rfl) (hQ36 31 (by decide) _) (Or.inl ⟨by kernel_rfl, fun w' hS => by go_simp⟩) (by assumption) ?_
    try simp only [Act.put, List.setIfInBounds_toArray, List.set_cons_succ, List.set_cons_zero]
    refine wpAnyL_take (i := 18) (oi := ⟨some 32, _, _, _, _, _⟩) (v := .pointer (some ⟨g, 4, none⟩)) [21] rfl (by kernel_rfl) (by kernel_rfl) (by kernel_rfl) (by kernel_rfl) (hQ36 32 (by decide) _) (Or.inl ⟨by kernel_rfl, fun w' hS => by go_simp⟩) (by assumption) ?_
    try simp only [Act.put, List.setIfInBounds_toArray, List.set_cons_succ, List.set_cons_zero]
    refine wpAnyL_take (i := 19) (oi := ⟨some 33, _, _, _, _, _⟩) (v := .int .i64 ep) [21] rfl (by kernel_rfl) (by kernel_rfl) (by kernel_rfl) (by kernel_rfl) (hQ36 33 (by decide) _) (Or.inl ⟨by kernel_rfl, fun w' hS => by have c := hS.2.2; go_simp⟩) (by assumption) ?_
    try simp only [Act.put, List.setIfInBounds_toArray, List.set_cons_succ, List.set_cons_zero]
    refine wpAnyL_ready (rs := [15]) (by kernel_rfl) (by simp) ?_
    refine AllReadyL.cons (o := ⟨some 29, _, _, _, _, _⟩) rfl (fun K hK => ?_) AllReadyL.nil
    have HS := Lib.hid (f_says w0 g r pv wv sv k n ep l c refuse w3 HP3.out HF.out.1 HF.out.2 HL.out)
    go_simp
    refine HS.out.mono ?_
    rintro e w4 ⟨rfl, sv4, hp4, k4, ho4⟩
    have hS4 : w4.heap[w.heap.size]? = some (.cells #[.pointer (some ⟨g, 0, none⟩)] 55 (0, 0)) ∧ w4.heap[w.heap.size + 1]? = some (.cells (clC c) 59 (0, 0)) ∧ w4.cell? ⟨g, 4, none⟩ = some (.int .i64 ep) := ⟨k4.rowS (HP3.out.other GB3.out (by decide) (by decide)) GB3.out, k4.rowS (HP3.out.other GC3.out (by decide) (by decide)) GC3.out, row_cell (k := 4) hp4.blk rfl⟩
    have HP4 := Lib.hid hp4
    have K4 := Lib.hid k4
    have HO4 := Lib.hid ho4
    have GZ4 := Lib.hid (k4.rowS (HP3.out.other GZ3.out (by decide) (by decide)) GZ3.out)
    clear hp4 k4 ho4 HS
    go_wp2_with fail
    refine hK.out _ _ hS4 (fun hHeld => ?_)
    clear hK K
    try simp only [Act.put, List.setIfInBounds_toArray, List.set_cons_succ, List.set_cons_zero]
    refine wpAnyL_take (i := 20) (oi := ⟨some 34, _, _, _, _, _⟩) (v := .agg C0) [21] rfl (by kernel_rfl) (by kernel_rfl) (by kernel_rfl) (by kernel_rfl) (hQ36 34 (by decide) _) (yields59b (c := outC c (pSays l c refuse).1 ep) HC0.out rfl rfl rfl rfl rfl rfl rfl rfl rfl rfl) (by assumption) ?_
    try simp only [Act.put, List.setIfInBounds_toArray, List.set_cons_succ, List.set_cons_zero]
    refine wpAnyL_ready (rs := [21]) (by kernel_rfl) (by simp) ?_
    refine AllReadyL.ends (o := ⟨none, _, _, _, _, _⟩) rfl (fun K hK => ?_)
    refine step_store59 (C := C0) (g := w.heap.size + 1 + 1) (o := 0) (by kernel_rfl) rfl rfl HOZ.out HOO.out GZ4.out hzz.out ?_
    intro w5 g5 k5
    rw [puts_all (Z59_size.trans HOZ.out.symm)] at g5
    refine hK.out _ _ ?_
    clear hK K
    try simp only [Act.put, List.setIfInBounds_toArray, List.set_cons_succ, List.set_cons_zero]
    refine wpAnyL_done (by kernel_rfl) ?_ _
    have HB5 : Hid (¬ PaS g r sv (w.heap.size + 1 + 1)) := HP3.out.other GZ3.out (by decide) (by decide)
    have HV4 : Hid (¬ PaS g r sv4 (w.heap.size + 1 + 1)) := HP4.out.other GZ4.out (by decide) (by decide)
    have G5 := Lib.hid g5
    have k4w : Kept (PaS g r sv) w w4 := (K3.out.mono (fun _ _ e => e.elim)).trans K4.out
    have K5 := Lib.hid (show Kept (PaS g r sv) w w5 from k4w.trans' k5 (fun i hi e => by omega))
    have HP5 := Lib.hid (HP4.out.next k5 (fun i hi e => HV4.out (by have e' : i = w.heap.size + 1 + 1 := e; rw [← e']; exact hi)) (fun i _ e => by have e' : i = w.heap.size + 1 + 1 := e; have := HPW.out.kept.size; omega))
    have GB5 := Lib.hid (k5.rowS (by omega) hS4.1)
    clear g5 k5 k4w hS4 hHeld hzz
    go_wp2_with (first | fail | ((with_reducible refine load59 (C := C0) (g := w.heap.size + 1 + 1) (o := 0) ?_ (range_row G5.out) HOZ.out ?_); rfl) | ((with_reducible refine store59 (C := C0) ?_ ?_ G5.out HOZ.out HOZ.out HOO.out ?_); rfl; rfl))
    refine leaves_cons (f := 67) (args := #[.pointer (some ⟨w.heap.size, 0, none⟩), .pointer (some ⟨w.heap.size + 1 + 1, 0, none⟩)]) (by simp) (by simp [go_sem]) ?_
    obtain ⟨HS1, HS2⟩ := HF.out
    have k6 := setRow_kept w5 (w.heap.size + 1 + 1) C0
    have g6 := setRow_heap _ _ _ C0 _ _ G5.out
    have HC := HC0.out
    subst HC
    have HP6 := HP5.out.next k6 (fun i hi e => HV4.out (by have e' : i = w.heap.size + 1 + 1 := e; rw [← e']; exact hi)) (fun i _ e => by have e' : i = w.heap.size + 1 + 1 := e; have := HPW.out.kept.size; omega)
    refine (d_tag w0 g r pv wv sv4 k n ep _ (outC c (pSays l c refuse).1 ep) (w.heap.size) (w.heap.size + 1 + 1) .returning _ HP6 (k6.rowS (by omega) GB5.out) g6 rfl rfl HS1 HS2).mono ?_
    rintro e u' w7 ⟨rfl, rfl, g7, k7⟩
    have HP7 := HP6.next k7 (fun i hi e => HV4.out (by have e' : i = w.heap.size + 1 + 1 := e; rw [← e']; exact hi)) (fun i _ e => by have e' : i = w.heap.size + 1 + 1 := e; have := HPW.out.kept.size; omega)
    have K7 : Kept (PaS g r sv) w w7 := (K5.out.trans' k6 (fun i hi e => by omega)).trans' k7 (fun i hi e => by omega)
    exact ⟨_, results_59 rfl _ _ _ g7 (clC_size (tagged_len _ _)) rfl rfl, PaPost.mk (by rw [E.out]; rfl) (by rw [E.out]) HP7 K7 (HO4.out.imp id fun h i hi => Nat.le_trans K3.out.size (h i hi))⟩
end Go.Proofs.YtklmhegmombegaaDoor
namespace Go.Proofs.YtklmhegmombegaaDoor
open Go Go.RowKit Plain
open Go.Proofs.YtklmhegmombegaaDoor.Re (wi)
/-- A copy of entries. -/
def EnPost (l : List En) (w : World) (e : Ending) (w' : World) : Prop := ∃ v, e = .returned v ∧ Buf w' w.heap.size 76 4 v l.length (ensC l) ∧ Kept (fun _ => False) w w'
theorem f_eclone (v : Value) (l : List En) (w : World) (hs : Rd w 4 v l.length (ensC l)) (hlen : l.length ≤ 1000) : Calls Tryd.prog 69 #[v] w (EnPost l w) := by
  obtain ⟨i, hi, hsz, hby, hz⟩ := info76'
  obtain ⟨a, c, rfl⟩ : ∃ a c, v = .slice a l.length c := by obtain ⟨_, a, c, e, _⟩ := hs; exact ⟨a, c, e⟩
  cases a with
  | none =>
    have h0 : l.length = 0 ∧ c = 0 := by
      obtain ⟨_, a', c', e, h⟩ := hs
      injection e with e1 e2 e3
      subst e1; subst e3
      rcases h with h | ⟨ad, h, _⟩
      · exact ⟨h.2.1, h.2.2⟩
      · cases h
    obtain ⟨h0, rfl⟩ := h0
    obtain rfl := List.eq_nil_of_length_eq_zero h0
    have hnil := fun w' (a : Option Addr) (n c : Nat) => Lib.run_eql_slice_nil (P := Tryd.prog) w' 63 76 a n c 0 0 Tryd.underlying63
    clear hs h0
    go_enter Tryd.func69, Tryd.ntmps69
    go_wp2_with fail
    go_ret
    exact ⟨_, rfl, Buf.nil _ _ _ _, Kept.refl _ _⟩
  | some ad =>
    have hnil := fun w' (a : Option Addr) (n c : Nat) => Lib.run_eql_slice_nil (P := Tryd.prog) w' 63 76 a n c 0 0 Tryd.underlying63
    have hn1 := heap_alloc_new w (.cells #[] 76)
    have hb1 : Buf (w.alloc (.cells #[] 76)) w.heap.size 76 4 (.slice (some ⟨w.heap.size, 0, none⟩) 0 0) 0 [] := ⟨rfl, .inr ⟨w.heap.size, 0, #[], rfl, Nat.le_refl _, hn1, Nat.le_refl _, by decide, by simp, rfl⟩⟩
    have hsrc : Src Tryd.prog 4 63 (.slice (some ad) l.length c) l.length (ensC l) (w.alloc (.cells #[] 76)) := (hs.alloc _).src Tryd.underlying63 (ensC_one l)
    have HB := Lib.hid hb1
    have HSR := Lib.hid hsrc
    clear hs hn1 hb1 hsrc
    go_enter Tryd.func69, Tryd.ntmps69
    go_wp2_with (first | fail | (at_builtin; refine wpList_append_buf _ rfl (.tmp 5) (.tmp 6) 63 63 rfl w.heap.size 76 i (.agg #[.int .i64 0, .int .i64 0, .bool false, .bool false]) 4 24 Tryd.underlying63 hi hz hsz hby rfl (by decide) (.slice (some ⟨w.heap.size, 0, none⟩) 0 0) 0 [] rfl HB.out _ _ _ rfl HSR.out (by unfold maxLen; omega) (by omega) (by simp) ?_; intro v' w' hb' hg' ho' hn'; have HB2 := Lib.hid hb'; have HG2 := Lib.hid hg'; clear hb' hg' ho' hn'))
    go_ret
    exact ⟨_, rfl, by simpa using HB2.out, ((Kept.refl _ w).alloc _).grown HG2.out (fun k hk => .inr (by cases hk; exact Nat.le_refl _))⟩
theorem f_entries (w0 : World) (g r : Nat) (pv wv sv : Value) (k : Ky) (n ep : Int) (l : List En) (w : World) (h : Pa w0 w g r pv wv sv k n ep l) (hl : l.length ≤ 1000) : Calls Tryd.prog 39 #[.pointer (some ⟨g, 0, none⟩)] w (EnPost l w) := by
  have c6 := row_cell (k := 6) h.blk (v := sv) rfl
  have HE := Lib.hid (f_eclone sv l w h.buf.rd hl)
  obtain ⟨a, c, rfl, _⟩ := h.buf.form
  clear h hl
  go_enter Tryd.func39, Tryd.ntmps39
  go_wp2_with fail
  refine HE.out.mono ?_
  rintro e w' ⟨v, rfl, hb, k1⟩
  obtain ⟨a', c', rfl, _⟩ := hb.form
  have HB := Lib.hid hb
  clear hb
  go_wp2_with fail
  go_ret
  exact ⟨_, rfl, HB.out, k1⟩
theorem f_entries_nil (w : World) : Calls Tryd.prog 39 #[.pointer none] w (EnPost [] w) := by
  go_enter Tryd.func39, Tryd.ntmps39
  go_wp2_with fail
  go_ret
  exact ⟨_, rfl, Buf.nil _ _ _ _, Kept.refl _ _⟩
section
variable {ops : Array Oper} {rest : List Oper} {dst : Option Tmp} {ty : TypeId} {pos : String} {aft : Array Edge} {a : Act} {w : World} {Q : Exit → Act → World → Prop}
theorem make116 (h : wpList Tryd.prog ops Q rest (a.put dst (.map (some w.heap.size))) (w.alloc (.map #[] 0))) : wpList Tryd.prog ops Q (⟨dst, .makeMap 116 none, ty, pos, aft, none⟩ :: rest) a w := by
  refine wpList_plain rfl fun K hK => ?_
  unfold Oper.wp execOp
  simp only [Sem.run_bind, run_makeMap, Result.andThen_ok]
  exact hK _ _ h
end
/-- There is a participant. -/
def NewPost (k : Ky) (n : Int) (pv wv : Value) (w : World) (e : Ending) (w' : World) : Prop := ∃ g r, e = .returned (.pointer (some ⟨g, 0, none⟩)) ∧ Pa w w' g r pv wv (.slice none 0 0) k n 0 [] ∧ Kept (fun _ => False) w w' ∧ w.heap.size < g
theorem f_new_no (pv wv : Value) (k : Ky) (n : Int) (w : World) (h : KyIn w pv wv k) (hk : kKnown k n 0 = false) : Calls Tryd.prog 34 #[.agg #[pv, wv, .int .i64 k.need], .int .i64 n] w (RPost (.pointer none) w) := by
  obtain ⟨pa, pc, rfl⟩ := h.parts.form
  obtain ⟨wa, wcp, rfl⟩ := h.wits.form
  have k1 := (Kept.refl (fun _ => False) w).alloc (.cells #[.slice pa k.parts.length pc, .slice wa k.wits.length wcp, .int .i64 k.need] 24)
  have g1 := heap_alloc_new w (.cells #[.slice pa k.parts.length pc, .slice wa k.wits.length wcp, .int .i64 k.need] 24)
  have HM := Lib.hid (f_may _ _ k _ (h.kept k1))
  have K1 := Lib.hid k1
  have G1 := Lib.hid g1
  have c0 := row_cell (k := 0) g1 (v := .slice pa k.parts.length pc) rfl
  have c1 := row_cell (k := 1) g1 (v := .slice wa k.wits.length wcp) rfl
  have c2 := row_cell (k := 2) g1 (v := .int .i64 k.need) rfl
  clear h k1 g1
  go_enter Tryd.func34, Tryd.ntmps34
  go_upto_region 1 with (fail)
  generalize w.alloc (.cells #[.slice pa k.parts.length pc, .slice wa k.wits.length wcp, .int .i64 k.need] 24) = w1 at *
  cases hm : kMay k with
  | false =>
    rw [hm] at HM
    clear hm hk
    go_wp2_with fail
    refine HM.out.mono ?_
    rintro e w2 ⟨rfl, k2⟩
    have K2 := Lib.hid (K1.out.trans k2)
    clear k2 c0 c1 c2
    go_wp2_with fail
    go_ret
    exact RPost.mk rfl K2.out
  | true =>
    rw [hm] at HM
    have HK : Hid (n < 0 ∨ (k.parts.length : Int) ≤ n) := by
      show _ ∨ _
      simp only [kKnown, hm, wi, Bool.true_and] at hk
      by_cases hn : n < 0
      · exact .inl hn
      · right
        simp at hk
        omega
    clear hm hk
    go_upto_region 1 with (fail)
    go_wp2_with fail
    refine HM.out.mono ?_
    rintro e w2 ⟨rfl, k2⟩
    have K2 := Lib.hid (K1.out.trans k2)
    have d0 := row_cell (k := 0) (k2.row G1.out) (v := .slice pa k.parts.length pc) rfl
    clear k2 c0 c1 c2
    by_cases hn : n < 0
    · have t1 : decide (n < 0) = true := decide_eq_true hn
      go_wp2_with fail
      go_ret
      exact RPost.mk rfl K2.out
    · have t1 : decide (n < 0) = false := decide_eq_false hn
      have hn2 : (k.parts.length : Int) ≤ n := by rcases HK.out with h | h; exact absurd h hn; exact h
      have t2 : decide ((k.parts.length : Int) ≤ n) = true := decide_eq_true hn2
      go_wp2_with fail
      go_ret
      exact RPost.mk rfl K2.out
theorem f_new_yes (pv wv : Value) (k : Ky) (n : Int) (w : World) (hL : Laid w) (h : KyIn w pv wv k) (hk : kKnown k n 0 = true) : Calls Tryd.prog 34 #[.agg #[pv, wv, .int .i64 k.need], .int .i64 n] w (NewPost k n pv wv w) := by
  have HKY := Lib.hid h
  have HL := Lib.hid hL
  obtain ⟨pa, pc, rfl⟩ := h.parts.form
  obtain ⟨wa, wcp, rfl⟩ := h.wits.form
  have k1 := (Kept.refl (fun _ => False) w).alloc (.cells #[.slice pa k.parts.length pc, .slice wa k.wits.length wcp, .int .i64 k.need] 24)
  have g1 := heap_alloc_new w (.cells #[.slice pa k.parts.length pc, .slice wa k.wits.length wcp, .int .i64 k.need] 24)
  have HM := Lib.hid (f_may _ _ k _ (h.kept k1))
  have K1 := Lib.hid k1
  have G1 := Lib.hid g1
  have c0 := row_cell (k := 0) g1 (v := .slice pa k.parts.length pc) rfl
  have c1 := row_cell (k := 1) g1 (v := .slice wa k.wits.length wcp) rfl
  have c2 := row_cell (k := 2) g1 (v := .int .i64 k.need) rfl
  have hkk := hk
  simp only [kKnown, Bool.and_eq_true] at hkk
  obtain ⟨hm, hp, _⟩ := hkk
  have hp' := wi_le hp
  have t1 : decide (n < 0) = false := decide_eq_false (by omega)
  have t2 : decide ((k.parts.length : Int) ≤ n) = false := decide_eq_false (by omega)
  rw [hm] at HM
  clear h k1 g1 hL hk hm hp hp'
  go_enter Tryd.func34, Tryd.ntmps34
  go_upto_region 1 with (fail)
  generalize w.alloc (.cells #[.slice pa k.parts.length pc, .slice wa k.wits.length wcp, .int .i64 k.need] 24) = w1 at *
  go_wp2_with fail
  refine HM.out.mono ?_
  rintro e w2 ⟨rfl, k2⟩
  have K2 := Lib.hid (K1.out.trans k2)
  have d0 := row_cell (k := 0) (k2.row G1.out) (v := .slice pa k.parts.length pc) rfl
  have d1 := row_cell (k := 1) (k2.row G1.out) (v := .slice wa k.wits.length wcp) rfl
  have d2 := row_cell (k := 2) (k2.row G1.out) (v := .int .i64 k.need) rfl
  clear k2 c0 c1 c2
  go_wp2_with (first | fail | (with_reducible refine make116 ?_))
  go_ret
  have kx := (K2.out.alloc (.map #[] 0)).alloc (.cells (paC (.slice pa k.parts.length pc) (.slice wa k.wits.length wcp) k.need n 0 w2.heap.size (.slice none 0 0)) 118)
  have hs := K2.out.size
  refine ⟨_, w2.heap.size, rfl, ⟨heap_alloc2_new _ _ _, heap_alloc2_old _ _ _, Buf.nil _ _ _ _, HKY.out, HL.out, kx.mono (fun _ _ e => e.elim), by simp, by simp, ⟨by omega, hs⟩⟩, kx, by omega⟩
end Go.Proofs.YtklmhegmombegaaDoor
