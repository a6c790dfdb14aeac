/-
  The walk of KeysNone, where its lists are short. Conditions: as the theorem says.
-/
import Derived.Test.YtklmhegmombegaaDoorGreatA
set_option linter.unusedVariables false
set_option linter.unusedSimpArgs false
set_option maxRecDepth 100000
namespace Go.Proofs.YtklmhegmombegaaDoor
open Go Go.RowKit Plain
open Go.Proofs.YtklmhegmombegaaDoor.Re (RecIn hbs)
open Go.Proofs.YtklmhegmombegaaDoor.Re.Plain (Rx rightB)
namespace Plain
theorem known_none {k : Ky} (h : kMay k = false) (p e : Int) : kKnown k p e = false := by simp [kKnown, h]
theorem part_none {k : Ky} (h : kMay k = false) (p e : Int) : kPart k p e = z32n := by rw [kPart, if_neg (by rw [known_none h]; decide)]
theorem rec_none {k : Ky} (h : kMay k = false) (x : Rx) : kRec k x = z32n := by rw [kRec, if_neg (fun g => by rw [known_none h] at g; exact absurd g.2 (by decide))]
theorem holds_none {k : Ky} (h : kMay k = false) (x : Rx) (tn : List Nat) : kHolds k x tn = false := by simp [kHolds, known_none h]
theorem sign_none {k : Ky} (h : kMay k = false) (i n : Int) (root : List Nat) : kSign k i n root = z32n := by rw [kSign, if_neg (by simp [kSigns, h])]
theorem check_none {k : Ky} (h : kMay k = false) (n : Int) (root : List Nat) (s : List (Int × List Nat)) : kCheck k n root s = 1 := by rw [kCheck, if_neg (by simp [h])]
end Plain
/-- The law's record. -/
def rN : Array Value := ((Re.Z30.setIfInBounds 0 (.int .i64 3)).setIfInBounds 2 (.int .i64 1)).setIfInBounds 4 (.int .i64 1)
def xN : Rx := { Re.Plain.Rx.zero with kind := 3, seq := 1, tr := 1 }
theorem rN_in (w : World) : RecIn w rN xN := ((Re.RecIn.zero w).set_kind 3).set_seq 1 |>.set_tr 1
theorem xN_tag : xN.tag = z32n.map fun (n : Nat) => (n : Int) := by rfl
section
variable {ops : Array Oper} {rest : List Oper} {dst : Option Tmp} {ty : TypeId} {pos : String} {aft : Array Edge} {gd : Option (Nat × Bool)} {a : Act} {w : World} {Q : Exit → Act → World → Prop}
theorem build30n (h : wpList Tryd.prog ops Q rest (a.put dst (.agg rN)) w) : wpList Tryd.prog ops Q (⟨dst, .build 30 #[(0, .const (.int .i64 3)), (2, .const (.int .i64 1)), (4, .const (.int .i64 1))], ty, pos, aft, none⟩ :: rest) a w := by
  refine wpList_plain rfl fun K hK => ?_
  go_simp
  exact hK _ _ h
theorem build26g (hw : Region.wanted ⟨dst, .build 26 #[], ty, pos, aft, gd⟩ (yielded ops a.tmps) = true) (h : wpList Tryd.prog ops Q rest (a.put dst (.agg Z26)) w) : wpList Tryd.prog ops Q (⟨dst, .build 26 #[], ty, pos, aft, gd⟩ :: rest) a w := wpList_on hw (build26 h)
theorem build26z (hw : Region.wanted ⟨dst, .build 26 #[], ty, pos, aft, gd⟩ (yielded ops a.tmps) = true) (h : wpList Tryd.prog ops Q rest (a.put dst (.agg (ints .u8 z32n))) w) : wpList Tryd.prog ops Q (⟨dst, .build 26 #[], ty, pos, aft, gd⟩ :: rest) a w := build26g hw (by rw [z26_ints]; exact h)
theorem eq26g {x y : Operand} {rt : TypeId} {l m : List Nat} {b : Bool} (hw : Region.wanted ⟨dst, .binOp .eql 26 x y rt, ty, pos, aft, gd⟩ (yielded ops a.tmps) = true) (hx : a.eval x = .agg (ints .u8 l)) (hy : a.eval y = .agg (ints .u8 m)) (hl : l.length = 32) (hm : m.length = 32) (hb : decide (l = m) = b)
    (h : wpList Tryd.prog ops Q rest (a.put dst (.bool b)) w) : wpList Tryd.prog ops Q (⟨dst, .binOp .eql 26 x y rt, ty, pos, aft, gd⟩ :: rest) a w := by
  refine wpList_on hw ?_
  refine wpList_plain rfl fun K hK => ?_
  rcases yieldsEq26 (S := fun _ => True) (ops := ops) (dst := dst) (ty := ty) (pos := pos) (aft := aft) (gd := none) (a := a) (rt := rt) hb hl hm (by simp [Region.wanted]) hx hy with ⟨_, he⟩ | ⟨hn, _⟩
  · have := he w trivial
    unfold Oper.wp
    rw [this]
    exact hK _ _ h
  · simp [Region.wanted] at hn
end
set_option maxHeartbeats 8000000 in
theorem c_none (pv wv sv : Value) (k : Ky) (n ep m : Int) (C : Array Value) (root : List Nat) (sigs : List (Int × List Nat)) (w : World) (hL : Laid w) (hk : KyIn w pv wv k) (hp : PtIn C m root sv) (hs : HSigs w sv sigs) (hn : W64 n) (hl1 : k.parts.length ≤ 20) (hl2 : k.wits.length ≤ 20) (hl3 : sigs.length ≤ 30) :
    Calls Tryd.prog 9 #[.agg #[pv, wv, .int .i64 k.need], .int .i64 n, .int .i64 ep, .agg C] w (BPost true w) := by
  have k1 := ((Kept.refl (fun _ => False) w).alloc (.cells #[pv, wv, .int .i64 k.need] 24)).alloc (.cells C 40)
  have G1 := Lib.hid (heap_alloc2_old w (.cells #[pv, wv, .int .i64 k.need] 24) (.cells C 40))
  have G2 := Lib.hid (heap_alloc2_new w (.cells #[pv, wv, .int .i64 k.need] 24) (.cells C 40))
  have HK := Lib.hid (hk.kept k1)
  have HL := Lib.hid (hL.kept k1)
  have HS := Lib.hid (hs.kept k1)
  have HP := Lib.hid hp
  have hpz := Lib.hid hp.size
  have K1 := Lib.hid k1
  have HA := Lib.hid (f_alive _ (hL.kept k1))
  obtain ⟨pa, pc, rfl⟩ := hk.parts.form
  obtain ⟨wa, wcp, rfl⟩ := hk.wits.form
  obtain ⟨sa, sc, rfl⟩ := hs.form
  have t1 : ¬ (20 < (k.parts.length : Int)) := by omega
  have t2 : ¬ (20 < (k.wits.length : Int)) := by omega
  have t3 : ¬ (30 < (sigs.length : Int)) := by omega
  have u1 : ¬ (20 < k.parts.length) := by omega
  have u2 : ¬ (20 < k.wits.length) := by omega
  have u3 : ¬ (30 < sigs.length) := by omega
  clear k1 hL hk hp hs hl1 hl2 hl3
  go_enter Tryd.func9, Tryd.ntmps9
  go_upto_region 1 with (fail)
  generalize ((w.alloc (.cells #[.slice pa k.parts.length pc, .slice wa k.wits.length wcp, .int .i64 k.need] 24)).alloc (.cells C 40)) = w1 at *
  go_wp2_with fail
  refine HA.out.mono ?_
  rintro e w2 ⟨rfl, k2⟩
  have G12 := Lib.hid (k2.row G1.out)
  have G22 := Lib.hid (k2.row G2.out)
  have K2 := Lib.hid (K1.out.trans k2)
  have HK2 := Lib.hid (HK.out.kept k2)
  have HL2 := Lib.hid (HL.out.kept k2)
  have HS2 := Lib.hid (HS.out.kept k2)
  clear k2 G1 G2 K1 HK HL HS HA
  have c0 := row_cell (k := 0) G12.out rfl
  have c1 := row_cell (k := 1) G12.out rfl
  have c2 := row_cell (k := 2) G12.out rfl
  have d33 := row_cell G22.out HP.out.c33
  have HM := Lib.hid (f_may _ _ k w2 HK2.out)
  cases hm : kMay k with
  | true =>
    rw [hm] at HM
    clear hm
    go_wp2_with fail
    refine HM.out.mono ?_
    rintro e w3 ⟨rfl, k3⟩
    have K3 := Lib.hid (K2.out.trans k3)
    clear k3
    go_wp2_with fail
    go_ret
    exact BPost.mk rfl K3.out
  | false =>
    rw [hm] at HM
    have HMM := Lib.hid hm
    clear hm
    go_wp2_with fail
    refine HM.out.mono ?_
    rintro e w3 ⟨rfl, k3⟩
    have k34 := k3
    obtain ⟨yr, kr⟩ := alloc_set w3 Z30 rN 30
    have zr := Lib.hid (heap_alloc_new w3 (.cells Z30 30))
    have YR4 := Lib.hid yr
    have k24 := k3.trans kr
    have G14 := Lib.hid (k24.row G12.out)
    have G24 := Lib.hid (k24.row G22.out)
    have K4 := Lib.hid (K2.out.trans k24)
    have HK4 := Lib.hid (HK2.out.kept k24)
    have HL4 := Lib.hid (HL2.out.kept k24)
    have HS4 := Lib.hid (HS2.out.kept k24)
    have hrz : Hid (rN.size = 109) := (rN_in w).size
    have hro : Hid (rN.all (·.oneCell') = true) := (rN_in w).one
    have h32 : Hid (z32n.length = 32) := rfl
    have hzz : Hid (decide (z32n = z32n) = true) := decide_eq_true rfl
    clear k3 k34 k24 yr kr c0 c1 c2 d33 G12 G22 K2 HK2 HL2 HS2 HM
    go_upto_region 6 with (first | fail | (with_reducible refine build30n ?_) | (with_reducible refine alloc30 ?_) | ((with_reducible refine store30 (C := rN) ?_ ?_ zr.out Z30_size hrz.out hro.out ?_); rfl; rfl))
    generalize (w3.alloc (.cells Z30 30)).setRow w3.heap.size rN = w4 at *
    generalize w3.heap.size = B9 at *
    clear zr
    have c0 := row_cell (k := 0) G14.out rfl
    have c1 := row_cell (k := 1) G14.out rfl
    have c2 := row_cell (k := 2) G14.out rfl
    have HF := f_part (.slice pa k.parts.length pc) (.slice wa k.wits.length wcp) k n ep w4 HL4.out HK4.out
    rw [part_none HMM.out] at HF
    have HFH := Lib.hid HF
    clear HF
    go_wp2_with (first | fail | ((with_reducible refine build26z (by kernel_rfl) ?_)) | ((refine eq26g (l := z32n) (m := z32n) (b := true) (by kernel_rfl) ?_ ?_ h32.out h32.out hzz.out ?_); (first | rfl | kernel_rfl); (first | rfl | kernel_rfl)) | ((with_reducible refine load30g (C := rN) (g := B9) (o := 0) (by kernel_rfl) ?_ (range_row YR4.out) hrz.out ?_); rfl) | ((with_reducible refine load40g (C := C) (g := w.heap.size + 1) (o := 0) (by kernel_rfl) ?_ (range_row G24.out) hpz.out ?_); rfl))
    refine HFH.out.mono ?_
    rintro e w5 ⟨rfl, k5⟩
    have K5 := Lib.hid (K4.out.trans k5)
    have G15 := Lib.hid (k5.row G14.out)
    have G25 := Lib.hid (k5.row G24.out)
    have YR5 := Lib.hid (k5.row YR4.out)
    have HK5 := Lib.hid (HK4.out.kept k5)
    have HL5 := Lib.hid (HL4.out.kept k5)
    have HS5 := Lib.hid (HS4.out.kept k5)
    clear k5 c0 c1 c2 HFH K4 G14 G24 YR4 HK4 HL4 HS4
    have c0 := row_cell (k := 0) G15.out rfl
    have c1 := row_cell (k := 1) G15.out rfl
    have c2 := row_cell (k := 2) G15.out rfl
    have HF := f_receipt (.slice pa k.parts.length pc) (.slice wa k.wits.length wcp) k rN xN w5 HL5.out HK5.out (rN_in _) ⟨by decide, by decide⟩ ⟨by decide, by decide⟩
    rw [rec_none HMM.out] at HF
    have HFH := Lib.hid HF
    clear HF
    go_wp2_with (first | fail | ((with_reducible refine build26z (by kernel_rfl) ?_)) | ((refine eq26g (l := z32n) (m := z32n) (b := true) (by kernel_rfl) ?_ ?_ h32.out h32.out hzz.out ?_); (first | rfl | kernel_rfl); (first | rfl | kernel_rfl)) | ((with_reducible refine load30g (C := rN) (g := B9) (o := 0) (by kernel_rfl) ?_ (range_row YR5.out) hrz.out ?_); rfl) | ((with_reducible refine load40g (C := C) (g := w.heap.size + 1) (o := 0) (by kernel_rfl) ?_ (range_row G25.out) hpz.out ?_); rfl))
    refine HFH.out.mono ?_
    rintro e w6 ⟨rfl, k6⟩
    have K6 := Lib.hid (K5.out.trans k6)
    have G16 := Lib.hid (k6.row G15.out)
    have G26 := Lib.hid (k6.row G25.out)
    have YR6 := Lib.hid (k6.row YR5.out)
    have HK6 := Lib.hid (HK5.out.kept k6)
    have HL6 := Lib.hid (HL5.out.kept k6)
    have HS6 := Lib.hid (HS5.out.kept k6)
    clear k6 c0 c1 c2 HFH K5 G15 G25 YR5 HK5 HL5 HS5
    have c0 := row_cell (k := 0) G16.out rfl
    have c1 := row_cell (k := 1) G16.out rfl
    have c2 := row_cell (k := 2) G16.out rfl
    have HF := f_holds (.slice pa k.parts.length pc) (.slice wa k.wits.length wcp) k rN xN z32n w6 HL6.out HK6.out (rN_in _) ⟨by decide, by decide⟩ ⟨by decide, by decide⟩ (by decide) xN_tag z32n_all
    rw [holds_none HMM.out] at HF
    have HFH := Lib.hid HF
    clear HF
    go_wp2_with (first | fail | ((with_reducible refine build26z (by kernel_rfl) ?_)) | ((refine eq26g (l := z32n) (m := z32n) (b := true) (by kernel_rfl) ?_ ?_ h32.out h32.out hzz.out ?_); (first | rfl | kernel_rfl); (first | rfl | kernel_rfl)) | ((with_reducible refine load30g (C := rN) (g := B9) (o := 0) (by kernel_rfl) ?_ (range_row YR6.out) hrz.out ?_); rfl) | ((with_reducible refine load40g (C := C) (g := w.heap.size + 1) (o := 0) (by kernel_rfl) ?_ (range_row G26.out) hpz.out ?_); rfl))
    refine HFH.out.mono ?_
    rintro e w7 ⟨rfl, k7⟩
    have K7 := Lib.hid (K6.out.trans k7)
    have G17 := Lib.hid (k7.row G16.out)
    have G27 := Lib.hid (k7.row G26.out)
    have YR7 := Lib.hid (k7.row YR6.out)
    have HK7 := Lib.hid (HK6.out.kept k7)
    have HL7 := Lib.hid (HL6.out.kept k7)
    have HS7 := Lib.hid (HS6.out.kept k7)
    clear k7 c0 c1 c2 HFH K6 G16 G26 YR6 HK6 HL6 HS6
    have c0 := row_cell (k := 0) G17.out rfl
    have c1 := row_cell (k := 1) G17.out rfl
    have c2 := row_cell (k := 2) G17.out rfl
    have HF := f_sign (.slice pa k.parts.length pc) (.slice wa k.wits.length wcp) (.slice sa sigs.length sc) k n m C root w7 HL7.out HK7.out HP.out hn
    rw [sign_none HMM.out] at HF
    have HFH := Lib.hid HF
    clear HF
    go_wp2_with (first | fail | ((with_reducible refine build26z (by kernel_rfl) ?_)) | ((refine eq26g (l := z32n) (m := z32n) (b := true) (by kernel_rfl) ?_ ?_ h32.out h32.out hzz.out ?_); (first | rfl | kernel_rfl); (first | rfl | kernel_rfl)) | ((with_reducible refine load30g (C := rN) (g := B9) (o := 0) (by kernel_rfl) ?_ (range_row YR7.out) hrz.out ?_); rfl) | ((with_reducible refine load40g (C := C) (g := w.heap.size + 1) (o := 0) (by kernel_rfl) ?_ (range_row G27.out) hpz.out ?_); rfl))
    refine HFH.out.mono ?_
    rintro e w8 ⟨rfl, k8⟩
    have K8 := Lib.hid (K7.out.trans k8)
    have G18 := Lib.hid (k8.row G17.out)
    have G28 := Lib.hid (k8.row G27.out)
    have YR8 := Lib.hid (k8.row YR7.out)
    have HK8 := Lib.hid (HK7.out.kept k8)
    have HL8 := Lib.hid (HL7.out.kept k8)
    have HS8 := Lib.hid (HS7.out.kept k8)
    clear k8 c0 c1 c2 HFH K7 G17 G27 YR7 HK7 HL7 HS7
    have c0 := row_cell (k := 0) G18.out rfl
    have c1 := row_cell (k := 1) G18.out rfl
    have c2 := row_cell (k := 2) G18.out rfl
    have HF := f_check (.slice pa k.parts.length pc) (.slice wa k.wits.length wcp) (.slice sa sigs.length sc) k m C root sigs w8 HL8.out HK8.out HP.out HS8.out
    rw [check_none HMM.out] at HF
    have HFH := Lib.hid HF
    clear HF
    go_wp2_with (first | fail | ((with_reducible refine build26z (by kernel_rfl) ?_)) | ((refine eq26g (l := z32n) (m := z32n) (b := true) (by kernel_rfl) ?_ ?_ h32.out h32.out hzz.out ?_); (first | rfl | kernel_rfl); (first | rfl | kernel_rfl)) | ((with_reducible refine load30g (C := rN) (g := B9) (o := 0) (by kernel_rfl) ?_ (range_row YR8.out) hrz.out ?_); rfl) | ((with_reducible refine load40g (C := C) (g := w.heap.size + 1) (o := 0) (by kernel_rfl) ?_ (range_row G28.out) hpz.out ?_); rfl))
    refine HFH.out.mono ?_
    rintro e w9 ⟨rfl, k9⟩
    have K9 := Lib.hid (K8.out.trans k9)
    have G19 := Lib.hid (k9.row G18.out)
    have G29 := Lib.hid (k9.row G28.out)
    have YR9 := Lib.hid (k9.row YR8.out)
    have HK9 := Lib.hid (HK8.out.kept k9)
    have HL9 := Lib.hid (HL8.out.kept k9)
    have HS9 := Lib.hid (HS8.out.kept k9)
    clear k9 c0 c1 c2 HFH K8 G18 G28 YR8 HK8 HL8 HS8
    go_wp2_with fail
    go_ret
    exact BPost.mk rfl K9.out
end Go.Proofs.YtklmhegmombegaaDoor
