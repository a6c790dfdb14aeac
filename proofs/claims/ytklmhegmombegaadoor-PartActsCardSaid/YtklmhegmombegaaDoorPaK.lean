/-
  That an answer's receipt holds; the contract of law 13's example (32). Conditions: as each theorem says.
-/
import Derived.Test.YtklmhegmombegaaDoorPaH
import Derived.Test.YtklmhegmombegaaDoorRrA
set_option linter.unusedVariables false
set_option linter.unusedSimpArgs false
set_option maxRecDepth 100000
namespace Go.Proofs.YtklmhegmombegaaDoor
open Go Go.RowKit Plain
open Go.Proofs.YtklmhegmombegaaDoor.Re (wi wi_true RecIn)
open Go.Proofs.YtklmhegmombegaaDoor.Re.Plain (Rx rightB)
theorem kRec_same (k : Ky) {x y : Rx} (h1 : y.kind = x.kind) (h2 : y.part = x.part) (h3 : y.epoch = x.epoch) (h4 : y.saga = x.saga) (h5 : y.step = x.step) (h6 : y.bk = x.bk) (h7 : y.good = x.good) : kRec k y = kRec k x := by
  unfold kRec
  rw [h1, h2, h3, h4, h5, h6, h7]
theorem kRec_tagged (k : Ky) {c : Cl} (ha : c.answer = true) (seq : Int) : kRec k (tRec (tagged k c) seq) = (tagged k c).tag := by
  have e : (tagged k c).answer = true := ha
  show _ = kRec k (tRec c 1)
  refine kRec_same k ?_ ?_ ?_ ?_ ?_ ?_ ?_ <;> simp only [tRec, e, ha, if_true] <;> rfl
/-- An answer's receipt holds. -/
theorem holds_out {k : Ky} {n ep : Int} {c : Cl} {gd : Bool} {seq : Int} (hi : pIts n c = true) (hk : kKnown k n ep = true) (h1 : 1 ≤ seq) (h2 : seq ≤ 400) :
    kHolds k (tRec (tagged k (outC c gd ep)) seq) (tagged k (outC c gd ep)).tag = true := by
  have ha : (outC c gd ep).answer = true := rfl
  have hx : tRec (tagged k (outC c gd ep)) seq = { Re.Plain.Rx.zero with kind := 3, saga := c.saga, seq := seq, step := c.step, tr := c.try_, bk := c.back, good := gd, part := c.part, epoch := ep, tag := (tagged k (outC c gd ep)).tag.map fun (n : Nat) => (n : Int) } := rfl
  have hr := kRec_tagged k ha seq
  unfold kHolds
  rw [hr, hx]
  simp only [pIts, Bool.and_eq_true, beq_iff_eq] at hi
  obtain ⟨_, hp, hs, ht, hkd, htr⟩ := hi
  have hkn := hk
  simp only [kKnown, kMay, Bool.and_eq_true] at hk
  obtain ⟨⟨hm1, _, _⟩, hpt, hep⟩ := hk
  have e1 := wi_le hm1
  have e2 := wi_le hpt
  rw [Re.Plain.right3 rfl]
  have hpp : wi c.part 0 3 = true := by rw [hp]; exact wi_true (by omega) (by omega)
  have hsq : wi seq 1 400 = true := wi_true h1 h2
  have hpn : wi n 0 3 = true := hp ▸ hpp
  simp only [hs, ht, htr, hep, hpp, hpn, hsq, hp, hkn]
  rfl
theorem f_prot (w0 : World) (g r : Nat) (pv wv sv : Value) (k : Ky) (n ep : Int) (l : List En) (w : World) (h : Pa w0 w g r pv wv sv k n ep l) (h0 : 0 ≤ ep) : Calls Tryd.prog 37 #[.pointer (some ⟨g, 0, none⟩)] w fun e w' => e = .returned (.bool (decide (ep < 400))) ∧ Pa w0 w' g r pv wv sv k n (if ep < 400 then ep + 1 else ep) l ∧ Kept (fun i => i = g) w w' := by
  refine (f_rotate g r pv wv sv k.need n ep w h.blk h0).mono ?_
  rintro e w' ⟨rfl, hb, kk⟩
  refine ⟨rfl, ⟨hb, (kk.block r h.ltr h.rg).trans h.map, h.buf.kept kk (fun i hi e => h.vg (by have e' : i = g := e; rw [hi, e'])), h.keys, h.laid, h.kept.trans' kk (fun i _ e => by have e' : i = g := e; rw [e']; exact h.lo.1), h.fit, h.nodup, h.lo⟩, kk⟩
theorem f_pepoch (w0 : World) (g r : Nat) (pv wv sv : Value) (k : Ky) (n ep : Int) (l : List En) (w : World) (h : Pa w0 w g r pv wv sv k n ep l) : Calls Tryd.prog 38 #[.pointer (some ⟨g, 0, none⟩)] w fun e w' => e = .returned (.int .i64 ep) ∧ w' = w := f_epoch g r pv wv sv k.need n ep w h.blk
/-- The example's calls. -/
def clA : Cl := { zCl with part := 1, kind := 1, try_ := 1 }
def clB : Cl := { zCl with part := 0, kind := 1, try_ := 1 }
def aA : Cl := tagged kFew (outC clA true 0)
def enA : En := ⟨0, 0, false, true⟩
theorem take1 : pTake kFew 1 0 [] clA false = (aA, true, [enA]) := by
  have e1 : pIts 1 clA = true := rfl
  have e2 : pSays [] clA false = (true, [enA]) := rfl
  unfold pTake
  rw [if_pos e1, e2]; rfl
theorem take2 : pTake kFew 1 0 [enA] clA true = (aA, true, [enA]) := by
  have e1 : pIts 1 clA = true := rfl
  have e2 : pSays [enA] clA true = (true, [enA]) := rfl
  unfold pTake
  rw [if_pos e1, e2]; rfl
theorem take3 : pTake kFew 1 0 [enA] clB false = (zCl, false, [enA]) := by
  have e1 : pIts 1 clB = false := rfl
  unfold pTake
  rw [if_neg (by rw [e1]; decide)]
section
variable {ops : Array Oper} {rest : List Oper} {dst : Option Tmp} {ty : TypeId} {pos : String} {aft : Array Edge} {a : Act} {w : World} {Q : Exit → Act → World → Prop}
theorem build59a (h : wpList Tryd.prog ops Q rest (a.put dst (.agg (clC clA))) w) : wpList Tryd.prog ops Q (⟨dst, .build 59 #[(4, .const (.int .i64 1)), (5, .const (.int .i64 1)), (2, .const (.int .i64 1))], ty, pos, aft, none⟩ :: rest) a w := by
  refine wpList_plain rfl fun K hK => ?_
  go_simp
  exact hK _ _ h
theorem build59c {CB : Array Value} (hC : CB = clC clB) (h : wpList Tryd.prog ops Q rest (a.put dst (.agg CB)) w) : wpList Tryd.prog ops Q (⟨dst, .build 59 #[(4, .const (.int .i64 0)), (5, .const (.int .i64 1)), (2, .const (.int .i64 1))], ty, pos, aft, none⟩ :: rest) a w := by
  subst hC
  refine wpList_plain rfl fun K hK => ?_
  go_simp
  exact hK _ _ h
end
theorem alloc_set59 (w : World) {c : Cl} (hl : c.tag.length = 32) : ((w.alloc (.cells Z59 59)).setRow w.heap.size (clC c)).heap[w.heap.size]? = some (.cells (clC c) 59 (0, 0)) ∧ Kept (fun _ => False) w ((w.alloc (.cells Z59 59)).setRow w.heap.size (clC c)) := alloc_set w Z59 (clC c) 59
set_option maxHeartbeats 16000000 in
theorem f_palive (w : World) (hL : Laid w) : Calls Tryd.prog 32 #[] w (BPost true w) := by
  have HL0 := Lib.hid hL
  have HFW := Lib.hid (f_few w)
  clear hL
  go_enter Tryd.func32, Tryd.ntmps32
  go_wp2_with fail
  refine HFW.out.mono ?_
  rintro e w1 ⟨pv, wv, rfl, hk1, k1⟩
  have HK1 := Lib.hid hk1
  have K1 := Lib.hid k1
  clear hk1 k1 HFW
  obtain ⟨pa, pc, ep⟩ := HK1.out.parts.form
  obtain ⟨wa, wcp, ew⟩ := HK1.out.wits.form
  have ep' : pv = .slice pa 2 pc := ep
  have ew' : wv = .slice wa 3 wcp := ew
  clear ep ew
  subst ep' ew'
  have hneed : kFew.need = 2 := rfl
  rw [hneed]
  have gk := heap_alloc_new w1 (.cells #[.slice pa 2 pc, .slice wa 3 wcp, .int .i64 2] 24)
  have kk := (Kept.refl (fun _ => False) w1).alloc (.cells #[.slice pa 2 pc, .slice wa 3 wcp, .int .i64 2] 24)
  have GK := Lib.hid gk
  have KK := Lib.hid (K1.out.trans kk)
  have HKK := Lib.hid (HK1.out.kept kk)
  have HLK := Lib.hid (HL0.out.kept (K1.out.trans kk))
  clear gk kk HK1
  go_upto_region 2 with (fail)
  generalize w1.alloc (.cells #[.slice pa 2 pc, .slice wa 3 wcp, .int .i64 2] 24) = w2 at *
  generalize w1.heap.size = B1 at *
  have HN := f_new_yes (.slice pa 2 pc) (.slice wa 3 wcp) kFew 1 w2 HLK.out HKK.out rfl
  rw [hneed] at HN
  have HNW := Lib.hid HN
  clear HN
  have c0 := row_cell (k := 0) GK.out (v := .slice pa 2 pc) rfl
  have c1 := row_cell (k := 1) GK.out (v := .slice wa 3 wcp) rfl
  have c2 := row_cell (k := 2) GK.out (v := .int .i64 2) rfl
  go_wp2_with fail
  refine HNW.out.mono ?_
  rintro e w3 ⟨g, r, rfl, hp3, k3, hg⟩
  have HP3 := Lib.hid hp3
  have GK3 := Lib.hid (k3.row GK.out)
  have k3w := Lib.hid k3
  have HGB : Hid (B1 < g) := by show _ < _; have := row_lt GK.out; omega
  clear hp3 k3 hg HNW c0 c1 c2 GK HKK
  obtain ⟨ya, ka⟩ := alloc_set59 w3 (c := clA) rfl
  have YA := Lib.hid ya
  have za := Lib.hid (heap_alloc_new w3 (.cells Z59 59))
  have hAz := Lib.hid (clC_size (c := clA) rfl)
  have hAo := Lib.hid (clC_one clA)
  have HP4 := Lib.hid (HP3.out.same ka)
  have GK4 := Lib.hid (ka.row GK3.out)
  have K4w := Lib.hid ((k3w.out.trans ka).mono (T := fun i => w2.heap.size ≤ i) (fun _ _ e => e.elim))
  have HB4 : Hid (w3.heap.size ≤ w3.heap.size) := Nat.le_refl _
  go_upto_region 4 with (first | fail | (with_reducible refine build59a ?_) | (with_reducible refine alloc59 ?_) | ((with_reducible refine store59 (C := clC clA) ?_ ?_ za.out Z59_size hAz.out hAo.out ?_); rfl; rfl))
  generalize (w3.alloc (.cells Z59 59)).setRow w3.heap.size (clC clA) = w4 at *
  generalize w3.heap.size = B3 at *
  clear ya ka za GK3 HP3
  have HT1 := f_take w2 g r (.slice pa 2 pc) (.slice wa 3 wcp) (.slice none 0 0) kFew 1 0 [] clA false w4 HP4.out rfl (by simp)
  rw [take1] at HT1
  have HT := Lib.hid HT1
  clear HT1
  have KT : Hid (Kept (fun i => w2.heap.size ≤ i) w2 w4) := K4w.out
  have hca : Hid (aA.tag.length = 32) := tagged_len _ _
  have ha6 : Hid (aA.answer = true) := rfl
  have ha7 : Hid (aA.good = true) := rfl
  have HHO : Hid (kHolds kFew (tRec aA 2) aA.tag = true) := holds_out (k := kFew) (n := 1) (ep := 0) (c := clA) (gd := true) rfl rfl (by decide) (by decide)
  have hfs : Hid (aA.saga = 0 ∧ aA.step = 0) := ⟨rfl, rfl⟩
  have hA8 : Hid (All8 aA.tag) := kRec_all kFew (tRec (outC clA true 0) 1)
  have HZC : Hid (zCl.tag.length = 32) := rfl
  obtain ⟨ca, hcaa⟩ : ∃ ca, ca = aA := ⟨_, rfl⟩
  rw [← hcaa] at HT hca ha6 ha7 HHO hfs hA8
  have HaA := Lib.hid hcaa.symm
  clear hcaa
  dsimp only [takeV] at HT
  obtain ⟨CA, hCA⟩ : ∃ CA, CA = clC clA := ⟨_, rfl⟩
  rw [← hCA] at HT YA hAz hAo
  have HCA := Lib.hid hCA
  obtain ⟨C1, hC1⟩ : ∃ C1, C1 = clC ca := ⟨_, rfl⟩
  rw [← hC1] at HT
  have HC1 := Lib.hid hC1
  have hz1 : Hid (C1.size = 41) := by show _ = _; rw [hC1]; exact clC_size hca.out
  have ho1 : Hid (C1.all (·.oneCell') = true) := by show _ = _; rw [hC1]; exact clC_one _
  clear hCA hC1
  go_wp2_with (first | fail | ((with_reducible refine load59 (C := CA) (g := B3) (o := 0) ?_ (range_row YA.out) hAz.out ?_); rfl))
  refine HT.out.mono ?_
  rintro e w5 ⟨rfl, sv5, hp5, k5, ho5⟩
  have HP5 := Lib.hid hp5
  have YA5 := Lib.hid (k5.rowS (HP4.out.other YA.out (by decide) (by decide)) YA.out)
  have GK5 := Lib.hid (k5.rowS (HP4.out.other GK4.out (by decide) (by decide)) GK4.out)
  have HPZ := HP4.out.lo
  have K5 := Lib.hid (KT.out.trans (k5.mono (fun i _ h => HP4.out.loS i h)))
  clear k5 hp5 ho5 HT HP4 YA GK4
  obtain ⟨yb, kb⟩ := alloc_set w5 Z59 C1 59
  have YB := Lib.hid yb
  have zb := Lib.hid (heap_alloc_new w5 (.cells Z59 59))
  have HP6 := Lib.hid (HP5.out.same kb)
  have GK6 := Lib.hid (kb.row GK5.out)
  have YA6 := Lib.hid (kb.row YA5.out)
  have K6 := Lib.hid (K5.out.trans (kb.mono fun _ _ e => e.elim))
  go_upto_region 5 with (first | fail | (with_reducible refine alloc59 ?_) | ((with_reducible refine store59 (C := C1) ?_ ?_ zb.out Z59_size hz1.out ho1.out ?_); rfl; rfl))
  generalize (w5.alloc (.cells Z59 59)).setRow w5.heap.size C1 = w6 at *
  generalize w5.heap.size = B4 at *
  clear yb kb zb GK5 YA5 HP5 K5
  have HT2 := f_take w2 g r (.slice pa 2 pc) (.slice wa 3 wcp) sv5 kFew 1 0 [enA] clA true w6 HP6.out rfl (by simp)
  rw [take2] at HT2
  dsimp only [takeV] at HT2
  rw [HaA.out, ← HCA.out, ← HC1.out] at HT2
  have HT := Lib.hid HT2
  clear HT2
  go_wp2_with (first | fail | ((with_reducible refine load59 (C := CA) (g := B3) (o := 0) ?_ (range_row YA6.out) hAz.out ?_); rfl))
  refine HT.out.mono ?_
  rintro e w7 ⟨rfl, sv7, hp7, k7, ho7⟩
  have HP7 := Lib.hid hp7
  have YB7 := Lib.hid (k7.rowS (HP6.out.other YB.out (by decide) (by decide)) YB.out)
  have GK7 := Lib.hid (k7.rowS (HP6.out.other GK6.out (by decide) (by decide)) GK6.out)
  have K7 := Lib.hid (K6.out.trans (k7.mono (fun i _ h => HP6.out.loS i h)))
  clear k7 hp7 ho7 HT HP6 YB GK6 YA6 K6
  obtain ⟨yc, kc⟩ := alloc_set w7 Z59 C1 59
  have YC := Lib.hid yc
  have zc := Lib.hid (heap_alloc_new w7 (.cells Z59 59))
  have HP8 := Lib.hid (HP7.out.same kc)
  have GK8 := Lib.hid (kc.row GK7.out)
  have YB8 := Lib.hid (kc.row YB7.out)
  have K8 := Lib.hid (K7.out.trans (kc.mono fun _ _ e => e.elim))
  go_upto_region 6 with (first | fail | (with_reducible refine alloc59 ?_) | ((with_reducible refine store59 (C := C1) ?_ ?_ zc.out Z59_size hz1.out ho1.out ?_); rfl; rfl))
  generalize (w7.alloc (.cells Z59 59)).setRow w7.heap.size C1 = w8 at *
  generalize w7.heap.size = B5 at *
  clear yc kc zc GK7 YB7 HP7 K7
  have HT3 := f_take w2 g r (.slice pa 2 pc) (.slice wa 3 wcp) sv7 kFew 1 0 [enA] clB false w8 HP8.out rfl (by simp)
  rw [take3] at HT3
  dsimp only [takeV] at HT3
  have HT := Lib.hid HT3
  clear HT3
  obtain ⟨CB, hCB⟩ : ∃ CB, CB = clC clB := ⟨_, rfl⟩
  rw [← hCB] at HT
  obtain ⟨CZ, hCZ⟩ : ∃ CZ, CZ = clC zCl := ⟨_, rfl⟩
  rw [← hCZ] at HT
  have hzz : Hid (CZ.size = 41) := by show _ = _; rw [hCZ]; exact clC_size rfl
  have hoz : Hid (CZ.all (·.oneCell') = true) := by show _ = _; rw [hCZ]; exact clC_one _
  have HCB := Lib.hid hCB
  clear hCB hCZ
  go_wp2_with (first | fail | (with_reducible refine build59c HCB.out ?_))
  refine HT.out.mono ?_
  rintro e w9 ⟨rfl, sv9, hp9, k9, ho9⟩
  have HP9 := Lib.hid hp9
  have YC9 := Lib.hid (k9.rowS (HP8.out.other YC.out (by decide) (by decide)) YC.out)
  have YB9 := Lib.hid (k9.rowS (HP8.out.other YB8.out (by decide) (by decide)) YB8.out)
  have GK9 := Lib.hid (k9.rowS (HP8.out.other GK8.out (by decide) (by decide)) GK8.out)
  have K9 := Lib.hid (K8.out.trans (k9.mono (fun i _ h => HP8.out.loS i h)))
  clear k9 hp9 ho9 HT HP8 YB8 GK8 YC K8
  have zd := Lib.hid (heap_alloc_new w9 (.cells Z59 59))
  obtain ⟨yd, kd⟩ := alloc_set w9 Z59 CZ 59
  have HPa := Lib.hid (HP9.out.same kd)
  have GKa := Lib.hid (kd.row GK9.out)
  have YBa := Lib.hid (kd.row YB9.out)
  have YCa := Lib.hid (kd.row YC9.out)
  have Ka := Lib.hid (K9.out.trans (kd.mono fun _ _ e => e.elim))
  go_upto_region 7 with (first | fail | (with_reducible refine alloc59 ?_) | ((with_reducible refine store59 (C := CZ) ?_ ?_ zd.out Z59_size hzz.out hoz.out ?_); rfl; rfl))
  generalize (w9.alloc (.cells Z59 59)).setRow w9.heap.size CZ = wa9 at *
  clear yd kd zd GK9 YB9 YC9 HP9 K9
  refine wp_region_held_drew (S := fun w' => Kept (fun i => i = g) wa9.drew w') (by kernel_rfl) (Kept.refl _ _) (fun hHeld => ?_)
  have kq := (Kept.refl (fun _ => False) wa9).drew
  have HPb := Lib.hid (HPa.out.same kq)
  have GKb := Lib.hid (kq.row GKa.out)
  have YBb := Lib.hid (kq.row YBa.out)
  have YCb := Lib.hid (kq.row YCa.out)
  have Kb := Lib.hid (Ka.out.trans (kq.mono fun _ _ e => e.elim))
  have HnB := Lib.hid (show B1 ≠ g ∧ B4 ≠ g ∧ B5 ≠ g from ⟨fun e => HPb.out.other GKb.out (by decide) (by decide) (.inl e), fun e => HPb.out.other YBb.out (by decide) (by decide) (.inl e), fun e => HPb.out.other YCb.out (by decide) (by decide) (.inl e)⟩)
  have hv6 : Hid (C1[6]? = some (.bool true)) := by show _ = _; rw [HC1.out]; simp [clC, ha6.out]
  have hv7 : Hid (C1[7]? = some (.bool true)) := by show _ = _; rw [HC1.out]; simp [clC, ha7.out]
  clear kq HPa GKa YBa YCa Ka
  generalize wa9.drew = wb at *
  have hSb : Kept (fun i => i = g) wb wb := Kept.refl _ _
  refine wpAnyH_take (i := 0) (oi := ⟨some 32, _, _, _, _, _⟩) (v := .bool true) rfl (by kernel_rfl) (by kernel_rfl) (by kernel_rfl) (fun _ _ _ h => h) (Or.inl ⟨by kernel_rfl, fun w' hS => by go_simp⟩) (by assumption) ?_
  try simp only [Act.put, List.setIfInBounds_toArray, List.set_cons_succ, List.set_cons_zero]
  refine wpAnyH_take (i := 1) (oi := ⟨some 33, _, _, _, _, _⟩) (v := .bool true) rfl (by kernel_rfl) (by kernel_rfl) (by kernel_rfl) (fun _ _ _ h => h) (Or.inl ⟨by kernel_rfl, fun w' hS => by go_simp⟩) (by assumption) ?_
  try simp only [Act.put, List.setIfInBounds_toArray, List.set_cons_succ, List.set_cons_zero]
  refine wpAnyH_take (i := 2) (oi := ⟨some 34, _, _, _, _, _⟩) (v := .bool true) rfl (by kernel_rfl) (by kernel_rfl) (by kernel_rfl) (fun _ _ _ h => h) (Or.inl ⟨by kernel_rfl, fun w' hS => by go_simp⟩) (by assumption) ?_
  try simp only [Act.put, List.setIfInBounds_toArray, List.set_cons_succ, List.set_cons_zero]
  refine wpAnyH_take (i := 3) (oi := ⟨some 35, _, _, _, _, _⟩) (v := .bool true) rfl (by kernel_rfl) (by kernel_rfl) (by kernel_rfl) (fun _ _ _ h => h) (Or.inl ⟨by kernel_rfl, fun w' hS => by go_simp⟩) (by assumption) ?_
  try simp only [Act.put, List.setIfInBounds_toArray, List.set_cons_succ, List.set_cons_zero]
  refine wpAnyH_take (i := 4) (oi := ⟨some 36, _, _, _, _, _⟩) (v := .bool true) rfl (by kernel_rfl) (by kernel_rfl) (by kernel_rfl) (fun _ _ _ h => h) (Or.inl ⟨by kernel_rfl, fun w' hS => by go_simp⟩) (by assumption) ?_
  try simp only [Act.put, List.setIfInBounds_toArray, List.set_cons_succ, List.set_cons_zero]
  refine wpAnyH_take (i := 5) (oi := ⟨some 37, _, _, _, _, _⟩) (v := .bool false) rfl (by kernel_rfl) (by kernel_rfl) (by kernel_rfl) (fun _ _ _ h => h) (Or.inl ⟨by kernel_rfl, fun w' hS => by go_simp⟩) (by assumption) ?_
  try simp only [Act.put, List.setIfInBounds_toArray, List.set_cons_succ, List.set_cons_zero]
  refine wpAnyH_take (i := 6) (oi := ⟨some 38, _, _, _, _, _⟩) (v := .bool true) rfl (by kernel_rfl) (by kernel_rfl) (by kernel_rfl) (fun _ _ _ h => h) (Or.inl ⟨by kernel_rfl, fun w' hS => by go_simp⟩) (by assumption) ?_
  try simp only [Act.put, List.setIfInBounds_toArray, List.set_cons_succ, List.set_cons_zero]
  refine wpAnyH_take (i := 7) (oi := ⟨some 39, _, _, _, _, _⟩) (v := .bool true) rfl (by kernel_rfl) (by kernel_rfl) (by kernel_rfl) (fun _ _ _ h => h) (Or.inl ⟨by kernel_rfl, fun w' hS => by go_simp⟩) (by assumption) ?_
  try simp only [Act.put, List.setIfInBounds_toArray, List.set_cons_succ, List.set_cons_zero]
  refine wpAnyH_take (i := 8) (oi := ⟨some 40, _, _, _, _, _⟩) (v := .bool true) rfl (by kernel_rfl) (by kernel_rfl) (by kernel_rfl) (fun _ _ _ h => h) (Or.inl ⟨by kernel_rfl, fun w' hS => by go_simp⟩) (by assumption) ?_
  try simp only [Act.put, List.setIfInBounds_toArray, List.set_cons_succ, List.set_cons_zero]
  refine wpAnyH_take (i := 9) (oi := ⟨some 41, _, _, _, _, _⟩) (v := .pointer (some ⟨B4, 7, none⟩)) rfl (by kernel_rfl) (by kernel_rfl) (by kernel_rfl) (fun _ _ _ h => h) (Or.inl ⟨by kernel_rfl, fun w' hS => by go_simp⟩) (by assumption) ?_
  try simp only [Act.put, List.setIfInBounds_toArray, List.set_cons_succ, List.set_cons_zero]
  refine wpAnyH_take (i := 10) (oi := ⟨some 42, _, _, _, _, _⟩) (v := .bool true) rfl (by kernel_rfl) (by kernel_rfl) (by kernel_rfl) (fun _ _ _ h => h) (Or.inl ⟨by kernel_rfl, fun w' hS => by have c := row_cell (k := 7) (hS.rowS HnB.out.2.1 YBb.out) (v := .bool true) (hv7.out); go_simp⟩) (by assumption) ?_
  try simp only [Act.put, List.setIfInBounds_toArray, List.set_cons_succ, List.set_cons_zero]
  refine wpAnyH_take (i := 11) (oi := ⟨some 43, _, _, _, _, _⟩) (v := .bool true) rfl (by kernel_rfl) (by kernel_rfl) (by kernel_rfl) (fun _ _ _ h => h) (Or.inl ⟨by kernel_rfl, fun w' hS => by go_simp⟩) (by assumption) ?_
  try simp only [Act.put, List.setIfInBounds_toArray, List.set_cons_succ, List.set_cons_zero]
  refine wpAnyH_take (i := 12) (oi := ⟨some 44, _, _, _, _, _⟩) (v := .bool true) rfl (by kernel_rfl) (by kernel_rfl) (by kernel_rfl) (fun _ _ _ h => h) (Or.inl ⟨by kernel_rfl, fun w' hS => by go_simp⟩) (by assumption) ?_
  try simp only [Act.put, List.setIfInBounds_toArray, List.set_cons_succ, List.set_cons_zero]
  refine wpAnyH_take (i := 13) (oi := ⟨some 45, _, _, _, _, _⟩) (v := .pointer (some ⟨B5, 7, none⟩)) rfl (by kernel_rfl) (by kernel_rfl) (by kernel_rfl) (fun _ _ _ h => h) (Or.inl ⟨by kernel_rfl, fun w' hS => by go_simp⟩) (by assumption) ?_
  try simp only [Act.put, List.setIfInBounds_toArray, List.set_cons_succ, List.set_cons_zero]
  refine wpAnyH_take (i := 14) (oi := ⟨some 46, _, _, _, _, _⟩) (v := .bool true) rfl (by kernel_rfl) (by kernel_rfl) (by kernel_rfl) (fun _ _ _ h => h) (Or.inl ⟨by kernel_rfl, fun w' hS => by have c := row_cell (k := 7) (hS.rowS HnB.out.2.2 YCb.out) (v := .bool true) (hv7.out); go_simp⟩) (by assumption) ?_
  try simp only [Act.put, List.setIfInBounds_toArray, List.set_cons_succ, List.set_cons_zero]
  refine wpAnyH_take (i := 15) (oi := ⟨some 47, _, _, _, _, _⟩) (v := .bool true) rfl (by kernel_rfl) (by kernel_rfl) (by kernel_rfl) (fun _ _ _ h => h) (Or.inl ⟨by kernel_rfl, fun w' hS => by go_simp⟩) (by assumption) ?_
  try simp only [Act.put, List.setIfInBounds_toArray, List.set_cons_succ, List.set_cons_zero]
  refine wpAnyH_take (i := 16) (oi := ⟨some 48, _, _, _, _, _⟩) (v := .bool true) rfl (by kernel_rfl) (by kernel_rfl) (by kernel_rfl) (fun _ _ _ h => h) (Or.inl ⟨by kernel_rfl, fun w' hS => by go_simp⟩) (by assumption) ?_
  try simp only [Act.put, List.setIfInBounds_toArray, List.set_cons_succ, List.set_cons_zero]
  refine wpAnyH_take (i := 17) (oi := ⟨some 49, _, _, _, _, _⟩) (v := .pointer (some ⟨B4, 6, none⟩)) rfl (by kernel_rfl) (by kernel_rfl) (by kernel_rfl) (fun _ _ _ h => h) (Or.inl ⟨by kernel_rfl, fun w' hS => by go_simp⟩) (by assumption) ?_
  try simp only [Act.put, List.setIfInBounds_toArray, List.set_cons_succ, List.set_cons_zero]
  refine wpAnyH_take (i := 18) (oi := ⟨some 50, _, _, _, _, _⟩) (v := .bool true) rfl (by kernel_rfl) (by kernel_rfl) (by kernel_rfl) (fun _ _ _ h => h) (Or.inl ⟨by kernel_rfl, fun w' hS => by have c := row_cell (k := 6) (hS.rowS HnB.out.2.1 YBb.out) (v := .bool true) (hv6.out); go_simp⟩) (by assumption) ?_
  try simp only [Act.put, List.setIfInBounds_toArray, List.set_cons_succ, List.set_cons_zero]
  refine wpAnyH_take (i := 19) (oi := ⟨some 51, _, _, _, _, _⟩) (v := .bool true) rfl (by kernel_rfl) (by kernel_rfl) (by kernel_rfl) (fun _ _ _ h => h) (Or.inl ⟨by kernel_rfl, fun w' hS => by go_simp⟩) (by assumption) ?_
  try simp only [Act.put, List.setIfInBounds_toArray, List.set_cons_succ, List.set_cons_zero]
  refine wpAnyH_take (i := 20) (oi := ⟨some 52, _, _, _, _, _⟩) (v := .bool true) rfl (by kernel_rfl) (by kernel_rfl) (by kernel_rfl) (fun _ _ _ h => h) (Or.inl ⟨by kernel_rfl, fun w' hS => by go_simp⟩) (by assumption) ?_
  try simp only [Act.put, List.setIfInBounds_toArray, List.set_cons_succ, List.set_cons_zero]
  refine wpAnyH_take (i := 21) (oi := ⟨some 53, _, _, _, _, _⟩) (v := .pointer (some ⟨g, 0, none⟩)) rfl (by kernel_rfl) (by kernel_rfl) (by kernel_rfl) (fun _ _ _ h => h) (Or.inl ⟨by kernel_rfl, fun w' hS => by go_simp⟩) (by assumption) ?_
  try simp only [Act.put, List.setIfInBounds_toArray, List.set_cons_succ, List.set_cons_zero]
  refine wpAnyH_ready (rs := [22]) (by kernel_rfl) (by simp) ?_
  refine AllReadyH.cons (o := ⟨some 54, _, _, _, _, _⟩) rfl (fun K hK => ?_) AllReadyH.nil
  have HF := Lib.hid (f_entries w2 g r _ _ sv9 kFew 1 0 [enA] wb HPb.out (by simp))
  go_simp
  refine HF.out.mono ?_
  rintro e wc ⟨v, rfl, hb, kc⟩
  obtain ⟨ae, ce, rfl, _⟩ := hb.form
  have HPc := Lib.hid (HPb.out.same kc)
  have hSc : Kept (fun i => i = g) wb wc := hSb.trans (kc.mono fun _ _ e => e.elim)
  have Kc := Lib.hid (Kb.out.trans (kc.mono fun _ _ e => e.elim))
  clear HF hb kc
  simp only [List.length_cons, List.length_nil, Nat.zero_add]
  go_wp2_with fail
  refine hK.out _ _ hSc (fun hHeld => ?_)
  clear hK K
  try simp only [Act.put, List.setIfInBounds_toArray, List.set_cons_succ, List.set_cons_zero]
  refine wpAnyH_take (i := 23) (oi := ⟨some 55, _, _, _, _, _⟩) (v := .int .i64 1) rfl (by kernel_rfl) (by kernel_rfl) (by kernel_rfl) (fun _ _ _ h => h) (Or.inl ⟨by kernel_rfl, fun w' hS => by go_simp⟩) (by assumption) ?_
  try simp only [Act.put, List.setIfInBounds_toArray, List.set_cons_succ, List.set_cons_zero]
  refine wpAnyH_take (i := 24) (oi := ⟨some 56, _, _, _, _, _⟩) (v := .bool true) rfl (by kernel_rfl) (by kernel_rfl) (by kernel_rfl) (fun _ _ _ h => h) (Or.inl ⟨by kernel_rfl, fun w' hS => by go_simp⟩) (by assumption) ?_
  try simp only [Act.put, List.setIfInBounds_toArray, List.set_cons_succ, List.set_cons_zero]
  refine wpAnyH_take (i := 25) (oi := ⟨some 57, _, _, _, _, _⟩) (v := .bool true) rfl (by kernel_rfl) (by kernel_rfl) (by kernel_rfl) (fun _ _ _ h => h) (Or.inl ⟨by kernel_rfl, fun w' hS => by go_simp⟩) (by assumption) ?_
  try simp only [Act.put, List.setIfInBounds_toArray, List.set_cons_succ, List.set_cons_zero]
  refine wpAnyH_take (i := 26) (oi := ⟨some 58, _, _, _, _, _⟩) (v := .bool true) rfl (by kernel_rfl) (by kernel_rfl) (by kernel_rfl) (fun _ _ _ h => h) (Or.inl ⟨by kernel_rfl, fun w' hS => by go_simp⟩) (by assumption) ?_
  try simp only [Act.put, List.setIfInBounds_toArray, List.set_cons_succ, List.set_cons_zero]
  refine wpAnyH_take (i := 27) (oi := ⟨some 59, _, _, _, _, _⟩) (v := .agg #[.slice pa 2 pc, .slice wa 3 wcp, .int .i64 2]) rfl (by kernel_rfl) (by kernel_rfl) (by kernel_rfl) (fun _ _ _ h => h) (Or.inl ⟨by kernel_rfl, fun w' hS => by have c0 := row_cell (k := 0) (hS.rowS HnB.out.1 GKb.out) (v := .slice pa 2 pc) (rfl); have c1 := row_cell (k := 1) (hS.rowS HnB.out.1 GKb.out) (v := .slice wa 3 wcp) (rfl); have c2 := row_cell (k := 2) (hS.rowS HnB.out.1 GKb.out) (v := .int .i64 2) (rfl); go_simp⟩) (by assumption) ?_
  try simp only [Act.put, List.setIfInBounds_toArray, List.set_cons_succ, List.set_cons_zero]
  refine wpAnyH_take (i := 28) (oi := ⟨some 60, _, _, _, _, _⟩) (v := .agg C1) rfl (by kernel_rfl) (by kernel_rfl) (by kernel_rfl) (fun _ _ _ h => h) (yields59 (C := C1) (g := B4) (o := 0) (by kernel_rfl) rfl (fun w' hS => range_row (hS.rowS HnB.out.2.1 YBb.out)) hz1.out) (by assumption) ?_
  try simp only [Act.put, List.setIfInBounds_toArray, List.set_cons_succ, List.set_cons_zero]
  refine wpAnyH_ready (rs := [29]) (by kernel_rfl) (by simp) ?_
  refine AllReadyH.cons (o := ⟨some 61, _, _, _, _, _⟩) rfl (fun K hK => ?_) AllReadyH.nil
  have HF := f_preceipt ca 2 wc hca.out
  rw [← HC1.out] at HF
  have HFH := Lib.hid HF
  clear HF
  go_simp
  refine HFH.out.mono ?_
  rintro e wd ⟨rfl, kd⟩
  have HPd := Lib.hid (HPc.out.same kd)
  have hSd : Kept (fun i => i = g) wb wd := hSc.trans (kd.mono fun _ _ e => e.elim)
  have Kd := Lib.hid (Kc.out.trans (kd.mono fun _ _ e => e.elim))
  have HR := Lib.hid (recC_in wd hca.out 2)
  generalize recC ca 2 = CR at *
  clear HFH kd
  go_wp2_with fail
  refine hK.out _ _ hSd (fun hHeld => ?_)
  clear hK K
  try simp only [Act.put, List.setIfInBounds_toArray, List.set_cons_succ, List.set_cons_zero]
  refine wpAnyH_ready (rs := [30]) (by kernel_rfl) (by simp) ?_
  refine AllReadyH.cons (o := ⟨some 62, _, _, _, _, _⟩) rfl (fun K hK => ?_) AllReadyH.nil
  have hx6 : (tRec ca 2).saga = 0 ∧ (tRec ca 2).step = 0 := by simp only [tRec, ha6.out, if_true]; exact hfs.out
  have HF := f_holds (.slice pa 2 pc) (.slice wa 3 wcp) kFew CR (tRec ca 2) ca.tag wd HPd.out.laidNow HPd.out.keysNow HR.out (by rw [hx6.1]; exact ⟨by decide, by decide⟩) (by rw [hx6.2]; exact ⟨by decide, by decide⟩) (by simp only [tRec, ha6.out, if_true]; exact Nat.zero_le _) (by simp only [tRec, ha6.out, if_true]) hA8.out
  rw [HHO.out, hneed] at HF
  have HFH := Lib.hid HF
  clear HF hx6
  go_simp
  refine HFH.out.mono ?_
  rintro e wf ⟨rfl, kd⟩
  have HPf := Lib.hid (HPd.out.same kd)
  have hSf : Kept (fun i => i = g) wb wf := hSd.trans (kd.mono fun _ _ e => e.elim)
  have Kf := Lib.hid (Kd.out.trans (kd.mono fun _ _ e => e.elim))
  clear HFH kd
  go_wp2_with fail
  refine hK.out _ _ hSf (fun hHeld => ?_)
  clear hK K
  try simp only [Act.put, List.setIfInBounds_toArray, List.set_cons_succ, List.set_cons_zero]
  refine wpAnyH_take (i := 31) (oi := ⟨some 63, _, _, _, _, _⟩) (v := .bool true) rfl (by kernel_rfl) (by kernel_rfl) (by kernel_rfl) (fun _ _ _ h => h) (Or.inl ⟨by kernel_rfl, fun w' hS => by go_simp⟩) (by assumption) ?_
  try simp only [Act.put, List.setIfInBounds_toArray, List.set_cons_succ, List.set_cons_zero]
  refine wpAnyH_take (i := 32) (oi := ⟨some 64, _, _, _, _, _⟩) (v := .bool true) rfl (by kernel_rfl) (by kernel_rfl) (by kernel_rfl) (fun _ _ _ h => h) (Or.inl ⟨by kernel_rfl, fun w' hS => by go_simp⟩) (by assumption) ?_
  try simp only [Act.put, List.setIfInBounds_toArray, List.set_cons_succ, List.set_cons_zero]
  refine wpAnyH_take (i := 33) (oi := ⟨some 65, _, _, _, _, _⟩) (v := .pointer (some ⟨g, 0, none⟩)) rfl (by kernel_rfl) (by kernel_rfl) (by kernel_rfl) (fun _ _ _ h => h) (Or.inl ⟨by kernel_rfl, fun w' hS => by go_simp⟩) (by assumption) ?_
  try simp only [Act.put, List.setIfInBounds_toArray, List.set_cons_succ, List.set_cons_zero]
  refine wpAnyH_ready (rs := [34]) (by kernel_rfl) (by simp) ?_
  refine AllReadyH.cons (o := ⟨some 66, _, _, _, _, _⟩) rfl (fun K hK => ?_) AllReadyH.nil
  have HF : Calls Tryd.prog 37 #[.pointer (some ⟨g, 0, none⟩)] wf fun e w' => e = .returned (.bool true) ∧ Pa w2 w' g r (.slice pa 2 pc) (.slice wa 3 wcp) sv9 kFew 1 1 [enA] ∧ Kept (fun i => i = g) wf w' := (f_prot w2 g r _ _ sv9 kFew 1 0 [enA] wf HPf.out (by decide)).mono fun e w' h => ⟨h.1, h.2.1, h.2.2⟩
  have HFH := Lib.hid HF
  clear HF
  go_simp
  refine HFH.out.mono ?_
  rintro e wg ⟨rfl, hpg, kd⟩
  have HPg := Lib.hid hpg
  have hSg : Kept (fun i => i = g) wb wg := hSf.trans kd
  have Kg := Lib.hid (Kf.out.trans (kd.mono fun i _ e => by have e' : i = g := e; rw [e']; exact HPf.out.lo.1))
  clear HFH kd hpg
  go_wp2_with fail
  refine hK.out _ _ hSg (fun hHeld => ?_)
  clear hK K
  try simp only [Act.put, List.setIfInBounds_toArray, List.set_cons_succ, List.set_cons_zero]
  refine wpAnyH_take (i := 35) (oi := ⟨some 67, _, _, _, _, _⟩) (v := .bool true) rfl (by kernel_rfl) (by kernel_rfl) (by kernel_rfl) (fun _ _ _ h => h) (Or.inl ⟨by kernel_rfl, fun w' hS => by go_simp⟩) (by assumption) ?_
  try simp only [Act.put, List.setIfInBounds_toArray, List.set_cons_succ, List.set_cons_zero]
  refine wpAnyH_take (i := 36) (oi := ⟨some 68, _, _, _, _, _⟩) (v := .bool true) rfl (by kernel_rfl) (by kernel_rfl) (by kernel_rfl) (fun _ _ _ h => h) (Or.inl ⟨by kernel_rfl, fun w' hS => by go_simp⟩) (by assumption) ?_
  try simp only [Act.put, List.setIfInBounds_toArray, List.set_cons_succ, List.set_cons_zero]
  refine wpAnyH_take (i := 37) (oi := ⟨some 69, _, _, _, _, _⟩) (v := .pointer (some ⟨g, 0, none⟩)) rfl (by kernel_rfl) (by kernel_rfl) (by kernel_rfl) (fun _ _ _ h => h) (Or.inl ⟨by kernel_rfl, fun w' hS => by go_simp⟩) (by assumption) ?_
  try simp only [Act.put, List.setIfInBounds_toArray, List.set_cons_succ, List.set_cons_zero]
  refine wpAnyH_ready (rs := [38]) (by kernel_rfl) (by simp) ?_
  refine AllReadyH.cons (o := ⟨some 70, _, _, _, _, _⟩) rfl (fun K hK => ?_) AllReadyH.nil
  have HFH := Lib.hid (f_pepoch w2 g r _ _ sv9 kFew 1 1 [enA] wg HPg.out)
  go_simp
  refine HFH.out.mono ?_
  rintro e wh ⟨rfl, rfl⟩
  clear HFH
  go_wp2_with fail
  refine hK.out _ _ hSg (fun hHeld => ?_)
  clear hK K
  try simp only [Act.put, List.setIfInBounds_toArray, List.set_cons_succ, List.set_cons_zero]
  refine wpAnyH_take (i := 39) (oi := ⟨some 71, _, _, _, _, _⟩) (v := .bool true) rfl (by kernel_rfl) (by kernel_rfl) (by kernel_rfl) (fun _ _ _ h => h) (Or.inl ⟨by kernel_rfl, fun w' hS => by go_simp⟩) (by assumption) ?_
  try simp only [Act.put, List.setIfInBounds_toArray, List.set_cons_succ, List.set_cons_zero]
  refine wpAnyH_take (i := 40) (oi := ⟨some 72, _, _, _, _, _⟩) (v := .bool true) rfl (by kernel_rfl) (by kernel_rfl) (by kernel_rfl) (fun _ _ _ h => h) (Or.inl ⟨by kernel_rfl, fun w' hS => by go_simp⟩) (by assumption) ?_
  try simp only [Act.put, List.setIfInBounds_toArray, List.set_cons_succ, List.set_cons_zero]
  refine wpAnyH_take (i := 41) (oi := ⟨some 73, _, _, _, _, _⟩) (v := .bool true) rfl (by kernel_rfl) (by kernel_rfl) (by kernel_rfl) (fun _ _ _ h => h) (Or.inl ⟨by kernel_rfl, fun w' hS => by go_simp⟩) (by assumption) ?_
  try simp only [Act.put, List.setIfInBounds_toArray, List.set_cons_succ, List.set_cons_zero]
  refine wpAnyH_take (i := 42) (oi := ⟨some 74, _, _, _, _, _⟩) (v := .agg #[.slice pa 2 pc, .slice wa 3 wcp, .int .i64 2]) rfl (by kernel_rfl) (by kernel_rfl) (by kernel_rfl) (fun _ _ _ h => h) (Or.inl ⟨by kernel_rfl, fun w' hS => by have c0 := row_cell (k := 0) (hS.rowS HnB.out.1 GKb.out) (v := .slice pa 2 pc) (rfl); have c1 := row_cell (k := 1) (hS.rowS HnB.out.1 GKb.out) (v := .slice wa 3 wcp) (rfl); have c2 := row_cell (k := 2) (hS.rowS HnB.out.1 GKb.out) (v := .int .i64 2) (rfl); go_simp⟩) (by assumption) ?_
  try simp only [Act.put, List.setIfInBounds_toArray, List.set_cons_succ, List.set_cons_zero]
  refine wpAnyH_ready (rs := [43]) (by kernel_rfl) (by simp) ?_
  refine AllReadyH.cons (o := ⟨some 75, _, _, _, _, _⟩) rfl (fun K hK => ?_) AllReadyH.nil
  have HF := f_new_no (.slice pa 2 pc) (.slice wa 3 wcp) kFew 2 wh HPg.out.keysNow rfl
  rw [hneed] at HF
  have HFH := Lib.hid HF
  clear HF
  go_simp
  refine HFH.out.mono ?_
  rintro e wi ⟨rfl, kd⟩
  have hSi : Kept (fun i => i = g) wb wi := hSg.trans (kd.mono fun _ _ e => e.elim)
  have Ki := Lib.hid (Kg.out.trans (kd.mono fun _ _ e => e.elim))
  clear HFH kd
  go_wp2_with fail
  refine hK.out _ _ hSi (fun hHeld => ?_)
  clear hK K
  try simp only [Act.put, List.setIfInBounds_toArray, List.set_cons_succ, List.set_cons_zero]
  refine wpAnyH_take (i := 44) (oi := ⟨some 76, _, _, _, _, _⟩) (v := .bool true) rfl (by kernel_rfl) (by kernel_rfl) (by kernel_rfl) (fun _ _ _ h => h) (Or.inl ⟨by kernel_rfl, fun w' hS => by go_simp⟩) (by assumption) ?_
  try simp only [Act.put, List.setIfInBounds_toArray, List.set_cons_succ, List.set_cons_zero]
  refine wpAnyH_take (i := 45) (oi := ⟨some 77, _, _, _, _, _⟩) (v := .bool true) rfl (by kernel_rfl) (by kernel_rfl) (by kernel_rfl) (fun _ _ _ h => h) (Or.inl ⟨by kernel_rfl, fun w' hS => by go_simp⟩) (by assumption) ?_
  try simp only [Act.put, List.setIfInBounds_toArray, List.set_cons_succ, List.set_cons_zero]
  refine wpAnyH_take (i := 46) (oi := ⟨some 0, _, _, _, _, _⟩) (v := .bool true) rfl (by kernel_rfl) (by kernel_rfl) (by kernel_rfl) (fun _ _ _ h => h) (Or.inl ⟨by kernel_rfl, fun w' hS => by go_simp⟩) (by assumption) ?_
  try simp only [Act.put, List.setIfInBounds_toArray, List.set_cons_succ, List.set_cons_zero]
  refine wpAnyH_done (by kernel_rfl) ?_ _
  go_wp2_with fail
  go_ret
  refine BPost.mk rfl ?_
  have ka := KK.out
  exact ka.trans' Ki.out (fun i hi e => by have := ka.size; omega)
end Go.Proofs.YtklmhegmombegaaDoor
