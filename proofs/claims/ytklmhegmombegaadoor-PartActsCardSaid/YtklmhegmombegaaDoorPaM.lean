/-
  The walk of PartRefuses (15). Conditions: as each theorem says.
-/
import Derived.Test.YtklmhegmombegaaDoorPaL
import Derived.Test.YtklmhegmombegaaDoorRsE
set_option linter.unusedVariables false
set_option linter.unusedSimpArgs false
set_option maxRecDepth 100000
namespace Go.Proofs.YtklmhegmombegaaDoor
open Go Go.RowKit Plain
theorem had_good {l : List En} {k : Int × Int × Bool} {b : Bool} (h : hadE l k = some b) : ∃ e ∈ l, e.key = k ∧ e.good = b := by
  unfold hadE at h
  obtain ⟨e, he, hb⟩ := Option.map_eq_some_iff.1 h
  exact ⟨e, List.mem_of_find?_eq_some he, by simpa using List.find?_some he, hb⟩
theorem had_none {l : List En} {k : Int × Int × Bool} (h : ∀ e ∈ l, e.key ≠ k) : hadE l k = none := by
  unfold hadE
  rw [List.find?_eq_none.2, Option.map_none]
  intro x hx hk
  exact h x hx (by simpa using hk)
/-- Nothing good, nothing of a compensation. -/
def Bad (l : List En) : Prop := ∀ e ∈ l, e.good = false ∧ e.back = false
theorem bad_says {l : List En} (hl : Bad l) (c : Cl) : (pSays l c true).1 = false ∧ Bad (pSays l c true).2 ∧ (pSays l c true).2.length ≤ l.length + 1 := by
  have hg : pGood l c true = false := by simp [pGood]
  unfold pSays
  cases hh : hadE l (c.saga, c.step, c.back) with
  | some b =>
    obtain ⟨e, he, _, hb⟩ := had_good hh
    exact ⟨by rw [← hb]; exact (hl e he).1, hl, by simp⟩
  | none =>
    simp only [hg]
    by_cases hn : pNotes l c true = true
    · rw [if_pos hn]
      have hu : pUndone l c = false := by
        unfold pUndone
        rw [had_none (fun e he hk => by have h1 := (hl e he).2; have h2 := congrArg (fun x => x.2.2) hk; simp [En.key, h1] at h2)]
        simp
      have hb : c.back = false := by
        simp only [pNotes, hg, hu, Bool.false_or, Bool.and_eq_true, Bool.not_eq_true'] at hn
        exact hn.1
      refine ⟨trivial, fun e he => ?_, by simp⟩
      rcases List.mem_append.1 he with he | he
      · exact hl e he
      · rw [List.mem_singleton.1 he]; exact ⟨rfl, hb⟩
    · rw [if_neg hn]
      exact ⟨trivial, hl, by simp⟩
theorem bad_take {l : List En} (hl : Bad l) (k : Ky) (n ep : Int) (c : Cl) : (pTake k n ep l c true).1.good = false ∧ (pTake k n ep l c true).1.answer = (pTake k n ep l c true).2.1 ∧ Bad (pTake k n ep l c true).2.2 ∧ (pTake k n ep l c true).2.2.length ≤ l.length + 1 := by
  unfold pTake
  split
  · obtain ⟨h1, h2, h3⟩ := bad_says hl c
    exact ⟨h1, rfl, h2, h3⟩
  · exact ⟨rfl, rfl, hl, by simp⟩
theorem take_len (k : Ky) (n ep : Int) (l : List En) (c : Cl) (rf : Bool) : (pTake k n ep l c rf).1.tag.length = 32 := by
  unfold pTake
  split
  · exact tagged_len _ _
  · rfl
theorem ensC_get {l : List En} {m j : Nat} {v : Value} (hm : m < l.length) (hv : (enC l[m])[j]? = some v) : (ensC l)[m * 4 + j]? = some v := by
  induction l generalizing m with
  | nil => simp at hm
  | cons e l ih =>
    rw [ensC, List.flatMap_cons]
    cases m with
    | zero =>
      have hv' : (enC e)[j]? = some v := hv
      have hj := (List.getElem?_eq_some_iff.1 hv').1
      rw [Nat.zero_mul, Nat.zero_add, List.getElem?_append_left hj]; exact hv'
    | succ m =>
      rw [List.getElem?_append_right (by simp [enC]; omega)]
      have e1 : (m + 1) * 4 + j - (enC e).length = m * 4 + j := by simp [enC]; omega
      rw [e1]
      exact ih (by simpa using hm) hv
/-- A cell of an entry. -/
theorem en_cell {w : World} {base g c : Nat} {l : List En} (h : Buf w base 76 4 (.slice (some ⟨g, 0, none⟩) l.length c) l.length (ensC l)) {m j : Nat} {v : Value} (hg : Value.ownBlock (.slice (some ⟨g, 0, none⟩) l.length c) = some g) (hm : m < l.length) (hv : (enC l[m])[j]? = some v) : w.cell? ⟨g, m * 4 + j, none⟩ = some v := by
  have := h.cells hg _ _ (ensC_get hm hv)
  rw [Addr.add_none, Nat.zero_add] at this
  exact this
set_option maxHeartbeats 4000000 in
theorem long15 (pa wa la : Option Addr) (np pc nw wc ln lc : Nat) (nd n : Int) (w : World) (hL : Laid w) (h : fewB np nw 0 = false ∨ 60 < ln) : Calls Tryd.prog 15 #[.agg #[.slice pa np pc, .slice wa nw wc, .int .i64 nd], .int .i64 n, .slice la ln lc] w (BPost true w) := by
  have k1 := (Kept.refl (fun _ => False) w).alloc (.cells #[.slice pa np pc, .slice wa nw wc, .int .i64 nd] 24)
  have G1 := Lib.hid (heap_alloc_new w (.cells #[.slice pa np pc, .slice wa nw wc, .int .i64 nd] 24))
  have K1 := Lib.hid k1
  have HA := Lib.hid (f_palive _ (hL.kept k1))
  have HH := Lib.hid h
  clear k1 hL h
  go_enter Tryd.func15, Tryd.ntmps15
  go_upto_region 1 with (fail)
  generalize w.alloc (.cells #[.slice pa np pc, .slice wa nw wc, .int .i64 nd] 24) = w1 at *
  go_wp2_with fail
  refine HA.out.mono ?_
  rintro e w2 ⟨rfl, k2⟩
  have K2 := Lib.hid (K1.out.trans k2)
  have G2 := k2.row G1.out
  have c0 := row_cell (k := 0) G2 (v := .slice pa np pc) rfl
  have c1 := row_cell (k := 1) G2 (v := .slice wa nw wc) rfl
  have c2 := row_cell (k := 2) G2 (v := .int .i64 nd) rfl
  have HF := Lib.hid (f_pfew pa wa none np pc nw wc 0 0 nd w2)
  clear k2 G2 G1 K1 HA
  cases hf : fewB np nw 0 with
  | false =>
    rw [hf] at HF
    clear hf
    go_wp2_with fail
    refine HF.out.mono ?_
    rintro e w3 ⟨rfl, k3⟩
    clear c0 c1 c2
    go_wp2_with fail
    go_ret
    exact BPost.mk rfl (K2.out.trans k3)
  | true =>
    rw [hf] at HF
    have h60 : 60 < ln := by rcases HH.out with h | h; rw [hf] at h; cases h; exact h
    have t1 : decide ((60 : Int) < (ln : Int)) = true := decide_eq_true (by omega)
    have t2 : decide (60 < ln) = true := decide_eq_true h60
    clear hf h60
    go_wp2_with fail
    refine HF.out.mono ?_
    rintro e w3 ⟨rfl, k3⟩
    clear c0 c1 c2
    go_wp2_with fail
    go_ret
    exact BPost.mk rfl (K2.out.trans k3)
set_option maxHeartbeats 8000000 in
theorem c_refuses (pv wv : Value) (k : Ky) (n : Int) (la : Option Addr) (ln lc : Nat) (q : Nat → Cl) (w : World) (hL : Laid w) (hk : KyIn w pv wv k) (hl1 : k.parts.length ≤ 20) (hl2 : k.wits.length ≤ 20) (hln : ln ≤ 60)
    (hq : ln = 0 ∨ ∃ b o, la = some ⟨b, o, none⟩ ∧ ∀ i, i < ln → ClFit (q i) ∧ w.rangeAt b (o + i * 41) (clC (q i)).toList) :
    Calls Tryd.prog 15 #[.agg #[pv, wv, .int .i64 k.need], .int .i64 n, .slice la ln lc] w (BPost true w) := by
  obtain ⟨pa, pc, rfl⟩ := hk.parts.form
  obtain ⟨wa, wcp, rfl⟩ := hk.wits.form
  have k1 := (Kept.refl (fun _ => False) w).alloc (.cells #[.slice pa k.parts.length pc, .slice wa k.wits.length wcp, .int .i64 k.need] 24)
  have G1 := Lib.hid (heap_alloc_new w (.cells #[.slice pa k.parts.length pc, .slice wa k.wits.length wcp, .int .i64 k.need] 24))
  have K1 := Lib.hid k1
  have HA := Lib.hid (f_palive _ (hL.kept k1))
  have HK1 := Lib.hid (hk.kept k1)
  have HL1 := Lib.hid (hL.kept k1)
  have HQ := Lib.hid hq
  have hfw : fewB k.parts.length k.wits.length 0 = true := by simp [fewB, hl1, hl2]
  have HFW := Lib.hid hfw
  have t1 : decide ((60 : Int) < (ln : Int)) = false := decide_eq_false (by omega)
  have t2 : decide (60 < ln) = false := decide_eq_false (by omega)
  have HLN := Lib.hid hln
  clear k1 hL hk hq hfw hl1 hl2 hln
  go_enter Tryd.func15, Tryd.ntmps15
  go_upto_region 1 with (fail)
  generalize w.alloc (.cells #[.slice pa k.parts.length pc, .slice wa k.wits.length wcp, .int .i64 k.need] 24) = w1 at *
  go_wp2_with fail
  refine HA.out.mono ?_
  rintro e w2 ⟨rfl, k2⟩
  have K2 := Lib.hid (K1.out.trans k2)
  have G2 := Lib.hid (k2.row G1.out)
  have HK2 := Lib.hid (HK1.out.kept k2)
  have HL2 := Lib.hid (HL1.out.kept k2)
  have c0 := row_cell (k := 0) G2.out (v := .slice pa k.parts.length pc) rfl
  have c1 := row_cell (k := 1) G2.out (v := .slice wa k.wits.length wcp) rfl
  have c2 := row_cell (k := 2) G2.out (v := .int .i64 k.need) rfl
  have HF := f_pfew pa wa none k.parts.length pc k.wits.length wcp 0 0 k.need w2
  rw [HFW.out] at HF
  have HFH := Lib.hid HF
  clear HF k2 G1 K1 HA HK1 HL1
  go_wp2_with fail
  refine HFH.out.mono ?_
  rintro e w3 ⟨rfl, k3⟩
  have K3 := Lib.hid (K2.out.trans k3)
  have G3 := Lib.hid (k3.row G2.out)
  have HK3 := Lib.hid (HK2.out.kept k3)
  have HL3 := Lib.hid (HL2.out.kept k3)
  clear k3 c0 c1 c2 K2 G2 HK2 HL2 HFH
  have c0 := row_cell (k := 0) G3.out (v := .slice pa k.parts.length pc) rfl
  have c1 := row_cell (k := 1) G3.out (v := .slice wa k.wits.length wcp) rfl
  have c2 := row_cell (k := 2) G3.out (v := .int .i64 k.need) rfl
  have HR := f_rknown (.slice pa k.parts.length pc) (.slice wa k.wits.length wcp) k n 0 w3 HK3.out
  cases hkn : kKnown k n 0 with
  | false =>
    rw [hkn] at HR
    have HRH := Lib.hid HR
    clear HR hkn
    go_wp2_with fail
    refine HRH.out.mono ?_
    rintro e w4 ⟨rfl, k4⟩
    clear c0 c1 c2
    go_wp2_with fail
    go_ret
    exact BPost.mk rfl (K3.out.trans k4)
  | true =>
    rw [hkn] at HR
    have HRH := Lib.hid HR
    have HKN := Lib.hid hkn
    clear HR hkn
    go_wp2_with fail
    refine HRH.out.mono ?_
    rintro e w4 ⟨rfl, k4⟩
    have K4 := Lib.hid (K3.out.trans k4)
    have G4 := Lib.hid (k4.row G3.out)
    have HN := Lib.hid (f_new_yes (.slice pa k.parts.length pc) (.slice wa k.wits.length wcp) k n w4 (HL3.out.kept k4) (HK3.out.kept k4) HKN.out)
    clear k4 c0 c1 c2 K3 G3 HK3 HL3 HRH t1 t2
    have c0 := row_cell (k := 0) G4.out (v := .slice pa k.parts.length pc) rfl
    have c1 := row_cell (k := 1) G4.out (v := .slice wa k.wits.length wcp) rfl
    have c2 := row_cell (k := 2) G4.out (v := .int .i64 k.need) rfl
    go_wp2_with fail
    refine HN.out.mono ?_
    rintro e w5 ⟨g, r, rfl, hp5, k5, hg⟩
    have HP5 := Lib.hid hp5
    have HSZ : Hid (w.heap.size ≤ w4.heap.size) := K4.out.size
    clear c0 c1 c2 hp5 k5 hg HN G4
    go_wp2_with fail
    go_loopw [8] (fun i wr => ∃ j : Nat, j ≤ ln ∧ i = .int .i64 j ∧ Hid (∃ sv l, Pa w4 wr g r (.slice pa k.parts.length pc) (.slice wa k.wits.length wcp) sv k n 0 l ∧ l.length ≤ j ∧ Bad l)) (fun i _ => ln - (intOf i).toNat)
    case atStart => exact ⟨0, Nat.zero_le _, rfl, _, [], HP5.out, Nat.le_refl _, fun _ h => by cases h⟩
    case round =>
      obtain ⟨j, hj, rfl, HX⟩ := hrel
      have hln60 := HLN.out
      obtain ⟨sv, l, hp, hll, hbl⟩ := HX.out
      have HP := Lib.hid hp
      have HLL := Lib.hid hll
      have HBL := Lib.hid hbl
      clear HX hp hll hbl HP5
      by_cases hlt : j < ln
      · obtain ⟨b, o, rfl, hx⟩ : ∃ b o, la = some ⟨b, o, none⟩ ∧ ∀ i, i < ln → ClFit (q i) ∧ w.rangeAt b (o + i * 41) (clC (q i)).toList := by
          rcases HQ.out with h | h
          · omega
          · exact h
        obtain ⟨hfit, hrg⟩ := hx j hlt
        have hkr : Kept (fun i => w.heap.size ≤ i) w wr := (K4.out.mono (fun _ _ e => e.elim)).trans (HP.out.kept.mono (fun i _ e => Nat.le_trans HSZ.out e))
        have HRG : Hid (wr.rangeAt b (o + j * 41) (clC (q j)).toList) := fun jj v hv => (hkr.cell (World.block_lt_of_cell? w _ (hrg jj v hv)) (Nat.not_le.2 (World.block_lt_of_cell? w _ (hrg jj v hv)))).trans (hrg jj v hv)
        have HFT := Lib.hid hfit
        clear hx hkr hrg hfit
        obtain ⟨hb1, hb2, hb3, hb4⟩ := bad_take HBL.out k n 0 (q j)
        have HT := f_take w4 g r (.slice pa k.parts.length pc) (.slice wa k.wits.length wcp) sv k n 0 l (q j) true wr HP.out HFT.out.tagl (by have := HLL.out; have := HLN.out; omega)
        unfold takeV at HT
        have htl := take_len k n 0 l (q j) true
        generalize pTake k n 0 l (q j) true = X at *
        obtain ⟨xc, xb, xl⟩ := X
        dsimp only at hb1 hb2 hb3 hb4 HT htl
        obtain ⟨C0, hC0⟩ : ∃ C0, C0 = clC (q j) := ⟨_, rfl⟩
        obtain ⟨C1, hC1⟩ : ∃ C1, C1 = clC xc := ⟨_, rfl⟩
        rw [← hC0, ← hC1] at HT
        have HRG0 := HRG.out
        rw [← hC0] at HRG0
        have HRG1 := Lib.hid HRG0
        have hz0 : Hid (C0.size = 41) := by show _ = _; rw [hC0]; exact clC_size HFT.out.tagl
        have hz1 : Hid (C1.size = 41) := by show _ = _; rw [hC1]; exact clC_size htl
        have ho1 : Hid (C1.all (·.oneCell') = true) := by show _ = _; rw [hC1]; exact clC_one _
        have hv6 : Hid (C1[6]? = some (.bool xb)) := by show _ = _; rw [hC1]; simp [clC, hb2]
        have hv7 : Hid (C1[7]? = some (.bool false)) := by show _ = _; rw [hC1]; simp [clC, hb1]
        have HTH := Lib.hid HT
        have HBX := Lib.hid (And.intro hb3 hb4)
        clear HT hC0 hC1 HRG0 HRG htl hb1 hb2 hb3 hb4
        go_wp2_with (first | fail | ((with_reducible refine load59 (C := C0) (g := b) (o := o + j * 41) ?_ HRG1.out hz0.out ?_); rfl))
        refine HTH.out.mono ?_
        rintro e w6 ⟨rfl, sv6, hp6, k6, ho6⟩
        have HP6 := Lib.hid hp6
        clear hp6 k6 ho6 HP HTH HRG1
        obtain ⟨yb, kb⟩ := alloc_set w6 Z59 C1 59
        have YB := Lib.hid yb
        have zb := Lib.hid (heap_alloc_new w6 (.cells Z59 59))
        have HP7 := Lib.hid (HP6.out.same kb)
        go_upto_region 10 with (first | fail | (with_reducible refine alloc59 ?_) | ((with_reducible refine store59 (C := C1) ?_ ?_ zb.out Z59_size hz1.out ho1.out ?_); rfl; rfl))
        generalize (w6.alloc (.cells Z59 59)).setRow w6.heap.size C1 = w7 at *
        clear yb kb zb HP6
        have d6 := row_cell (k := 6) YB.out hv6.out
        have d7 := row_cell (k := 7) YB.out hv7.out
        generalize w6.heap.size = B6 at *
        cases xb
        all_goals
          go_wp2_with fail
          go_roundw
          case rel => exact ⟨j + 1, by omega, by go_num, sv6, xl, HP7.out, by have := HBX.out.2; have := HLL.out; omega, HBX.out.1⟩
          case measure => simp [intOf]; omega
      · have HE := Lib.hid (f_entries w4 g r _ _ sv k n 0 l wr HP.out (by have := HLL.out; have := HLN.out; omega))
        go_wp2_with fail
        refine HE.out.mono ?_
        rintro e w6 ⟨v, rfl, hb, k6⟩
        obtain ⟨ae, ce, rfl, _⟩ := hb.form
        have HB6 := Lib.hid hb
        have K6 := Lib.hid (show Kept (fun _ => False) w w6 from (K4.out.trans' HP.out.kept (fun i hi e => by have := HSZ.out; omega)).trans k6)
        clear hb k6 HE HP
        go_wp2_with fail
        have hl60 : l.length ≤ 60 := by have := HLL.out; omega
        go_loop [12] (fun i => ∃ m : Nat, m ≤ l.length ∧ i = .int .i64 m) (fun i => l.length - (intOf i).toNat)
        case atStart => exact ⟨0, Nat.zero_le _, rfl⟩
        case round =>
          obtain ⟨m, hm, rfl⟩ := hrel
          by_cases hml : m < l.length
          · obtain ⟨g6, _, _, e6, _, _, _, _, _⟩ := HB6.out.pos (by omega)
            simp only [Value.slice.injEq] at e6
            obtain ⟨rfl, _, rfl⟩ := e6
            have hc := fun (jj : Nat) (v : Value) (hv : (enC l[m])[jj]? = some v) => en_cell HB6.out rfl hml hv
            obtain ⟨hgd, hbk⟩ := HBL.out _ (List.getElem_mem hml)
            have d2 := hc 2 (.bool false) (by simp [enC, hbk])
            have d3 := hc 3 (.bool false) (by simp [enC, hgd])
            clear hc hgd hbk
            go_wp2_with fail
            go_round
            case rel => exact ⟨m + 1, by omega, by go_num⟩
            case measure => simp [intOf]; omega
          · go_wp2_with fail
            go_ret
            exact BPost.mk rfl K6.out
end Go.Proofs.YtklmhegmombegaaDoor
