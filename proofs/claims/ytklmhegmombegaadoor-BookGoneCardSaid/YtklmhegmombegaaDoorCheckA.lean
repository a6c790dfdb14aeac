/-
  The contract of keys' Check. Conditions: as each theorem says.
-/
import Derived.Test.YtklmhegmombegaaDoorSignA
set_option linter.unusedVariables false
set_option linter.unusedSimpArgs false
namespace Go.Proofs.YtklmhegmombegaaDoor
open Go Go.RowKit Plain
open Go.Proofs.YtklmhegmombegaaDoor.Re (wi wi_true wi_false)

namespace Plain
/-- Did each sign rightly, and once? -/
def goodS (k : Ky) (n : Int) (root : List Nat) : List Bool → List (Int × List Nat) → Bool
  | _, [] => true
  | had, s :: l => (wi s.1 0 ((k.wits.length : Int) - 1) && !(had.getD s.1.toNat false)) && (decide (kSign k s.1 n root = s.2) && goodS k n root (had.set s.1.toNat true) l)
def had0 : List Bool := [false, false, false, false]
/-- An error's number. -/
def kCheck (k : Ky) (n : Int) (root : List Nat) (sigs : List (Int × List Nat)) : Int :=
  if (kMay k && wi n 0 400) = true then (if goodS k n root had0 sigs = true then (if (sigs.length : Int) < k.need then 8 else 0) else 8) else 1
end Plain
def sigC (s : Int × List Nat) : List Value := .int .i64 s.1 :: bys s.2
/-- Signatures that a slice holds. -/
structure HSigs (w : World) (v : Value) (l : List (Int × List Nat)) : Prop where
  rd : Rd w 33 v l.length (l.flatMap sigC)
  each : ∀ s ∈ l, s.2.length = 32 ∧ All8 s.2 ∧ W64 s.1
  len : l.length ≤ 1000
  lt : ∀ k, v.ownBlock = some k → k < w.heap.size
theorem HSigs.kept {w w' : World} {v : Value} {l : List (Int × List Nat)} (h : HSigs w v l) (k : Kept (fun _ => False) w w') : HSigs w' v l := ⟨h.rd.kept k (fun _ _ h => h), h.each, h.len, fun j e => Nat.lt_of_lt_of_le (h.lt j e) k.size⟩
theorem HSigs.form {w : World} {v : Value} {l : List (Int × List Nat)} (h : HSigs w v l) : ∃ a c, v = .slice a l.length c := by obtain ⟨_, a, c, e, _⟩ := h.rd; exact ⟨a, c, e⟩
theorem sigC_len {s : Int × List Nat} (h : s.2.length = 32) : (sigC s).length = 33 := by simp [sigC, bys_len, h]
theorem flat33_get {l : List (Int × List Nat)} (h : ∀ x ∈ l, x.2.length = 32) {i j : Nat} (hi : i < l.length) (hj : j < 33) : (l.flatMap sigC)[i * 33 + j]? = (sigC l[i])[j]? := by
  induction l generalizing i with
  | nil => simp at hi
  | cons x l ih =>
    have hx := sigC_len (h x (by simp))
    rw [List.flatMap_cons]
    cases i with
    | zero => rw [List.getElem?_append_left (by rw [hx]; omega), Nat.zero_mul, Nat.zero_add]; rfl
    | succ i =>
      rw [List.getElem?_append_right (by rw [hx]; omega), hx, show (i + 1) * 33 + j - 33 = i * 33 + j by omega, ih (fun y hy => h y (by simp [hy])) (by simpa using hi)]
      rfl
theorem HSigs.at {w : World} {v : Value} {l : List (Int × List Nat)} (h : HSigs w v l) {i : Nat} (hi : i < l.length) : ∃ b o c, v = .slice (some ⟨b, o, none⟩) l.length c ∧ w.rangeAt b (o + i * 33) (sigC l[i]) := by
  obtain ⟨b, o, c, e, hc⟩ := h.rd.addr (by omega)
  refine ⟨b, o, c, e, fun j v hv => ?_⟩
  have hj : j < 33 := by have := (List.getElem?_eq_some_iff.1 hv).1; rwa [sigC_len (h.each _ (List.getElem_mem hi)).1] at this
  have := hc (i * 33 + j) v ((flat33_get (fun x hx => (h.each x hx).1) hi hj).trans hv)
  rw [← Nat.add_assoc] at this
  exact this
/-- The cells of flags. -/
def bls (l : List Bool) : Array Value := (l.map Value.bool).toArray
theorem bls_size (l : List Bool) : (bls l).size = l.length := by simp [bls]
theorem bls_get {l : List Bool} {i : Nat} (h : i < l.length) : (bls l)[i]? = some (.bool (l.getD i false)) := by simp [bls, List.getD_eq_getElem?_getD, List.getElem?_eq_getElem h]
theorem bls_set (l : List Bool) (i : Nat) (b : Bool) : (bls l).setIfInBounds i (.bool b) = bls (l.set i b) := by
  unfold bls
  rw [List.setIfInBounds_toArray, List.map_set]
def IPost (n : Int) (w : World) (e : Ending) (w' : World) : Prop := e = .returned (.int .i64 n) ∧ Kept (fun _ => False) w w'
theorem IPost.mk {n n' : Int} {w w' : World} (h : n = n') (hk : Kept (fun _ => False) w w') : IPost n w (.returned (.int .i64 n')) w' := by subst h; exact ⟨rfl, hk⟩
set_option maxRecDepth 100000 in
set_option maxHeartbeats 8000000 in
theorem f_check (pv wv sv : Value) (k : Ky) (n : Int) (C : Array Value) (root : List Nat) (sigs : List (Int × List Nat)) (w : World) (hL : Laid w) (h : KyIn w pv wv k) (hp : PtIn C n root sv) (hs : HSigs w sv sigs) :
    Calls Tryd.prog 29 #[.agg #[pv, wv, .int .i64 k.need], .agg C] w (IPost (kCheck k n root sigs) w) := by
  have k1 := ((Kept.refl (fun _ => False) w).alloc (.cells #[pv, wv, .int .i64 k.need] 24)).alloc (.cells C 40)
  have G1 := Lib.hid (heap_alloc2_old w (.cells #[pv, wv, .int .i64 k.need] 24) (.cells C 40))
  have G2 := Lib.hid (heap_alloc2_new w (.cells #[pv, wv, .int .i64 k.need] 24) (.cells C 40))
  have HIn := Lib.hid (h.kept k1)
  have HL := Lib.hid (hL.kept k1)
  have HP := Lib.hid hp
  have HPZ := Lib.hid hp.size
  have HS := Lib.hid (hs.kept k1)
  have HM := Lib.hid (f_may pv wv k _ (h.kept k1))
  obtain ⟨wa, wc, rfl⟩ := h.wits.form
  obtain ⟨sa, sc, rfl⟩ := hs.form
  have K1 := Lib.hid k1
  have hl3 := h.wits.len
  have hl4 := hs.len
  have e1 := IntWalk.i64_in ((k.wits.length : Int) - 1) (by omega)
  have HC : Hid (kCheck k n root sigs = if (kMay k && wi n 0 400) = true then (if goodS k n root had0 sigs = true then (if (sigs.length : Int) < k.need then 8 else 0) else 8) else 1) := rfl
  clear h k1 hL hp hs
  cases hm : kMay k with
  | false =>
    rw [hm] at HM
    have E : Hid (kCheck k n root sigs = 1) := by show _ = _; rw [HC.out, hm]; rfl
    clear hm HC
    go_enter Tryd.func29, Tryd.ntmps29
    go_upto_region 1 with (fail)
    generalize ((w.alloc (.cells #[pv, .slice wa k.wits.length wc, .int .i64 k.need] 24)).alloc (.cells C 40)) = w1 at *
    have c0 := row_cell (k := 0) G1.out rfl
    have c1 := row_cell (k := 1) G1.out rfl
    have c2 := row_cell (k := 2) G1.out rfl
    go_wp2_with fail
    refine HM.out.mono ?_
    rintro e w2 ⟨rfl, k2⟩
    have K2 := Lib.hid (K1.out.trans k2)
    clear k2
    go_wp2_with fail
    go_ret
    exact IPost.mk E.out K2.out
  | true =>
    rw [hm] at HM
    cases h1 : wi n 0 400 with
    | false =>
      have E : Hid (kCheck k n root sigs = 1) := by show _ = _; rw [HC.out, hm, h1]; rfl
      have W1 := Lib.hid h1
      clear hm HC h1
      go_enter Tryd.func29, Tryd.ntmps29
      go_upto_region 1 with (fail)
      generalize ((w.alloc (.cells #[pv, .slice wa k.wits.length wc, .int .i64 k.need] 24)).alloc (.cells C 40)) = w1 at *
      have c0 := row_cell (k := 0) G1.out rfl
      have c1 := row_cell (k := 1) G1.out rfl
      have c2 := row_cell (k := 2) G1.out rfl
      go_wp2_with fail
      refine HM.out.mono ?_
      rintro e w2 ⟨rfl, k2⟩
      have K2 := Lib.hid (K1.out.trans k2)
      have d0 := row_cell (k2.row G2.out) HP.out.c0
      clear k2 c0 c1 c2
      go_wp2_with fail
      refine (f_within_is W1.out _).mono ?_
      rintro e w3 ⟨rfl, rfl⟩
      go_wp2_with fail
      go_ret
      exact IPost.mk E.out K2.out
    | true =>
      have E : Hid (kCheck k n root sigs = if goodS k n root had0 sigs = true then (if (sigs.length : Int) < k.need then 8 else 0) else 8) := by show _ = _; rw [HC.out, hm, h1]; rfl
      have W1 := Lib.hid h1
      have hw4 : k.wits.length ≤ 4 := by simp only [kMay, Bool.and_eq_true] at hm; have := wi_le hm.2.1; omega
      clear hm HC h1
      go_enter Tryd.func29, Tryd.ntmps29
      go_upto_region 1 with (fail)
      generalize ((w.alloc (.cells #[pv, .slice wa k.wits.length wc, .int .i64 k.need] 24)).alloc (.cells C 40)) = w1 at *
      have c0 := row_cell (k := 0) G1.out rfl
      have c1 := row_cell (k := 1) G1.out rfl
      have c2 := row_cell (k := 2) G1.out rfl
      go_wp2_with fail
      refine HM.out.mono ?_
      rintro e w2 ⟨rfl, k2⟩
      have k3 := (Kept.refl (fun _ => False) w2).alloc (.cells #[.bool false, .bool false, .bool false, .bool false] 113)
      have K23 := Lib.hid k3
      have K2 := Lib.hid (K1.out.trans k2)
      have HH : Hid ((w2.alloc (.cells #[.bool false, .bool false, .bool false, .bool false] 113)).heap[w2.heap.size]? = some (.cells (bls had0) 113 (0, 0))) := heap_alloc_new w2 _
      have G12 := Lib.hid (k2.row G1.out)
      have G22 := Lib.hid (k2.row G2.out)
      have HS2 := Lib.hid (HS.out.kept k2)
      have HI2 := Lib.hid (HIn.out.kept k2)
      have HL2 := Lib.hid (HL.out.kept k2)
      have d0 := row_cell (k2.row G2.out) HP.out.c0
      have d33 := row_cell (k2.row G2.out) HP.out.c33
      have hwz : w.heap.size + 1 < w2.heap.size := row_lt (k2.row G2.out)
      clear k2 k3 c0 c1 c2 G1 G2 HS HIn HL K1 HM
      go_wp2_with fail
      refine (f_within_is W1.out _).mono ?_
      rintro e w3 ⟨rfl, rfl⟩
      go_wp2_with fail
      generalize w2.alloc (.cells #[.bool false, .bool false, .bool false, .bool false] 113) = w3 at *
      clear d0 d33
      go_loopw [21] (fun i wr => ∃ (j : Nat) (had : List Bool), j ≤ sigs.length ∧ i = .int .i64 j ∧ had.length = 4 ∧ Hid (goodS k n root had (sigs.drop j) = goodS k n root had0 sigs) ∧ Hid (wr.heap[w2.heap.size]? = some (.cells (bls had) 113 (0, 0))) ∧ Hid (Kept (fun _ => False) w2 wr)) (fun i _ => sigs.length - (intOf i).toNat)
      case atStart => exact ⟨0, had0, Nat.zero_le _, rfl, rfl, rfl, HH.out, K23.out⟩
      case round =>
        obtain ⟨j, had, hj, rfl, hh4, HG, HR, KR⟩ := hrel
        have KW := Lib.hid (K2.out.trans KR.out)
        have G1r := Lib.hid (KR.out.row G12.out)
        have G2r := Lib.hid (KR.out.row G22.out)
        by_cases hlt : j < sigs.length
        · have hg := HG.out
          rw [List.drop_eq_getElem_cons hlt] at hg
          have HE := Lib.hid (HS2.out.each _ (List.getElem_mem hlt))
          obtain ⟨b, oo, cc, ev, hr⟩ := (HS2.out.kept KR.out).at hlt
          simp only [Value.slice.injEq, true_and] at ev
          obtain ⟨rfl, rfl⟩ := ev
          generalize sigs[j] = sg at *
          obtain ⟨wt, tg⟩ := sg
          have HX : Hid (goodS k n root had0 sigs = ((wi wt 0 ((k.wits.length : Int) - 1) && !(had.getD wt.toNat false)) && (decide (kSign k wt n root = tg) && goodS k n root (had.set wt.toNat true) (sigs.drop (j + 1))))) := hg.symm
          have hsz := Lib.hid (show (sigC (wt, tg)).toArray.size = 33 by simp [sigC_len HE.out.1])
          have hso : Hid ((sigC (wt, tg)).toArray.all (·.oneCell') = true) := by
            show _ = _
            rw [Array.all_eq_true_iff_forall_mem]
            intro x hx
            simp only [sigC, List.mem_toArray, List.mem_cons] at hx
            rcases hx with rfl | hx
            · rfl
            · exact bys_one _ x hx
          have hs0 : Hid ((sigC (wt, tg)).toArray[0]? = some (.int .i64 wt)) := rfl
          have hst : Hid (∀ i v, (ints .u8 tg).toList[i]? = some v → (sigC (wt, tg)).toArray[1 + i]? = some v) := fun i v hv => by
            rw [ints_toList] at hv
            rw [Nat.add_comm]
            simpa [sigC, bys] using hv
          have htz := Lib.hid (show (ints .u8 tg).size = 32 by rw [ints_size]; exact HE.out.1)
          have HRG : Hid (wr.rangeAt b (oo + j * 33) (sigC (wt, tg)).toArray.toList) := hr
          generalize (sigC (wt, tg)).toArray = SB at *
          have z7 := Lib.hid (heap_alloc_new wr (.cells Z49 49))
          obtain ⟨y7, k7⟩ := alloc_set wr Z49 SB 49
          have Y7 := Lib.hid y7
          have K7 := Lib.hid (KR.out.trans k7)
          have HH7 := Lib.hid (k7.row HR.out)
          have KW7 := Lib.hid (KW.out.trans k7)
          have G17 := Lib.hid (k7.row G1r.out)
          have G27 := Lib.hid (k7.row G2r.out)
          have hj1 : (j : Int) < (sigs.length : Int) := by omega
          have hw7 : w2.heap.size < wr.heap.size := row_lt HR.out
          have HI7 := Lib.hid (HI2.out.kept K7.out)
          have HL7 := Lib.hid (HL2.out.kept K7.out)
          clear hg hr y7 k7 HG
          go_upto_region 7 with (first | fail | ((with_reducible refine load49 (C := SB) (g := b) (o := oo + j * 33) ?_ HRG.out hsz.out ?_); rfl) | (with_reducible refine alloc49 ?_) | ((with_reducible refine store49 (C := SB) ?_ ?_ z7.out Z49_size hsz.out hso.out ?_); rfl; rfl))
          generalize (wr.alloc (.cells Z49 49)).setRow wr.heap.size SB = w7 at *
          generalize wr.heap.size = g7 at *
          have s0 := row_cell Y7.out hs0.out
          have c1 := row_cell (k := 1) G17.out rfl
          clear z7 HR KR KW G1r G2r HRG
          cases hwi : wi wt 0 ((k.wits.length : Int) - 1) with
          | false =>
            have E3 : Hid (kCheck k n root sigs = 8) := by show _ = _; rw [E.out, HX.out, hwi]; rfl
            have W2 := Lib.hid hwi
            clear hwi HX
            go_wp2_with fail
            refine (f_within_is W2.out _).mono ?_
            rintro e w8 ⟨rfl, rfl⟩
            go_wp2_with fail
            go_ret
            exact IPost.mk E3.out KW7.out
          | true =>
            obtain ⟨hw0, hw1⟩ := wi_le hwi
            obtain ⟨m, rfl⟩ : ∃ m : Nat, wt = m := ⟨wt.toNat, by omega⟩
            have hm4 : m < 4 := by omega
            have hmI : (m : Int) < 4 := by omega
            have hb0 := row_cell HH7.out (bls_get (l := had) (i := m) (by omega))
            rw [hwi, Int.toNat_natCast] at HX
            have W2 := Lib.hid hwi
            clear hwi
            cases hhm : had.getD m false with
            | true =>
              rw [hhm] at hb0 HX
              have E3 : Hid (kCheck k n root sigs = 8) := by show _ = _; rw [E.out, HX.out]; rfl
              clear hhm HX
              go_wp2_with fail
              refine (f_within_is W2.out _).mono ?_
              rintro e w8 ⟨rfl, rfl⟩
              go_wp2_with fail
              go_ret
              exact IPost.mk E3.out KW7.out
            | false =>
              rw [hhm] at hb0 HX
              clear hhm
              have c0 := row_cell (k := 0) G17.out rfl
              have c2 := row_cell (k := 2) G17.out rfl
              have hrp := range_row G27.out
              have HRP := Lib.hid hrp
              have HSG := Lib.hid (f_sign pv (.slice wa k.wits.length wc) (.slice (some ⟨b, oo, none⟩) sigs.length sc) k m n C root w7 HL7.out HI7.out HP.out HE.out.2.2)
              have HIS := Lib.hid (fun w' => f_is (kSign k m n root) tg w' (kSign_len _ _ _ _) HE.out.1 (kSign_all _ _ _ _) HE.out.2.1)
              have hkz := Lib.hid (show (ints .u8 (kSign k m n root)).size = 32 by rw [ints_size, kSign_len])
              generalize decide (kSign k m n root = tg) = sm at *
              generalize ints .u8 (kSign k m n root) = SG at *
              generalize ints .u8 tg = TB at *
              clear hrp
              go_wp2_with fail
              refine (f_within_is W2.out _).mono ?_
              rintro e w8 ⟨rfl, rfl⟩
              go_wp2_with (first | fail | ((with_reducible refine load40 (C := C) (g := w.heap.size + 1) (o := 0) ?_ HRP.out HPZ.out ?_); rfl))
              refine HSG.out.mono ?_
              rintro e w9 ⟨rfl, k9⟩
              have K9 := Lib.hid (K7.out.trans k9)
              have KW9 := Lib.hid (KW7.out.trans k9)
              have HH9 := Lib.hid (k9.row HH7.out)
              have Y9 := Lib.hid (k9.row Y7.out)
              have hR9 : Hid (w9.rangeAt g7 1 TB.toList) := fun i v hv => row_cell (k9.row Y7.out) (hst.out i v hv)
              clear k9 s0 c1 c0 c2 hb0 HRP HSG K7 KW7 HH7 G17 G27 HI7 HL7
              go_wp2_with (first | fail | ((with_reducible refine build106 (D := SG) ?_ hkz.out ?_); rfl) | ((with_reducible refine load26 (C := TB) (g := g7) (o := 1) ?_ hR9.out htz.out ?_); rfl))
              refine (HIS.out _).mono ?_
              rintro e w10 ⟨rfl, k10⟩
              have K10 := Lib.hid (K9.out.trans k10)
              have KW10 := Lib.hid (KW9.out.trans k10)
              have HH10 := Lib.hid (k10.row HH9.out)
              have s0 := row_cell (k10.row Y9.out) hs0.out
              clear k10 K9 KW9 HH9 Y9 hR9 HIS
              cases sm with
              | false =>
                have E3 : Hid (kCheck k n root sigs = 8) := by show _ = _; rw [E.out, HX.out]; rfl
                clear HX
                go_wp2_with fail
                go_ret
                exact IPost.mk E3.out KW10.out
              | true =>
                have fb := free_of_block (j := m) HH10.out
                have hb := row_cell HH10.out (bls_get (l := had) (i := m) (by omega))
                generalize had.getD m false = old at hb
                go_wp2_with fail
                have HF : Hid ((w10.setCell ⟨w2.heap.size, m, none⟩ (.bool true)).heap[w2.heap.size]? = some (.cells (bls (had.set m true)) 113 (0, 0))) := by
                  show _ = _
                  rw [setCell_block HH10.out, bls_set]
                have KF : Hid (Kept (fun _ => False) w2 (w10.setCell ⟨w2.heap.size, m, none⟩ (.bool true))) := K10.out.setCell (p := ⟨w2.heap.size, m, none⟩) (.inr (Nat.le_refl _)) _
                clear s0 fb hb
                go_roundw
                case rel => exact ⟨j + 1, had.set m true, by omega, by go_num, by simp [hh4], by show _ = _; rw [HX.out]; rfl, HF.out, KF.out⟩
                case measure => simp [intOf]; omega
        · obtain rfl : j = sigs.length := by omega
          have hg := HG.out
          rw [List.drop_length] at hg
          have E2 : Hid (kCheck k n root sigs = if (sigs.length : Int) < k.need then 8 else 0) := by show _ = _; rw [E.out, ← hg]; rfl
          have d33 := row_cell G2r.out HP.out.c33
          have c2 := row_cell (k := 2) G1r.out rfl
          clear hg
          by_cases hnd : (sigs.length : Int) < k.need
          · have E3 : Hid (kCheck k n root sigs = 8) := by show _ = _; rw [E2.out, if_pos hnd]
            go_wp2_with fail
            go_ret
            exact IPost.mk E3.out KW.out
          · have E3 : Hid (kCheck k n root sigs = 0) := by show _ = _; rw [E2.out, if_neg hnd]
            go_wp2_with fail
            go_ret
            exact IPost.mk E3.out KW.out
end Go.Proofs.YtklmhegmombegaaDoor
