/-
  The contracts of known, Part, bit, mac.Equal. Conditions: as each theorem says.
-/
import Derived.Test.YtklmhegmombegaaDoorKeyA
set_option linter.unusedVariables false
set_option linter.unusedSimpArgs false
namespace Go.Proofs.YtklmhegmombegaaDoor
open Go Go.RowKit Plain
open Go.Proofs.YtklmhegmombegaaDoor.Re (wi wi_true wi_false)

theorem f_known (pv wv : Value) (k : Ky) (part epoch : Int) (w : World) (h : KyIn w pv wv k) : Calls Tryd.prog 54 #[.agg #[pv, wv, .int .i64 k.need], .int .i64 part, .int .i64 epoch] w (BPost (kKnown k part epoch) w) := by
  have k1 := (Kept.refl (fun _ => False) w).alloc (.cells #[pv, wv, .int .i64 k.need] 24)
  have HM := Lib.hid (f_may pv wv k _ (h.kept k1))
  have HIn := Lib.hid (h.kept k1)
  obtain ⟨pa, pc, rfl⟩ := h.parts.form
  obtain ⟨wa, wc, rfl⟩ := h.wits.form
  have hl3 := h.parts.len
  have e1 := IntWalk.i64_in ((k.parts.length : Int) - 1) (by omega)
  have g1 := heap_alloc_new w (.cells #[.slice pa k.parts.length pc, .slice wa k.wits.length wc, .int .i64 k.need] 24)
  have G1 := Lib.hid g1
  have K1 := Lib.hid k1
  have HK : Hid (kKnown k part epoch = (kMay k && (wi part 0 ((k.parts.length : Int) - 1) && wi epoch 0 400))) := rfl
  generalize kMay k = my at *
  obtain ⟨P, W, nd⟩ := k
  dsimp only at *
  clear h k1 g1
  cases my with
  | false =>
    have E : Hid (kKnown ⟨P, W, nd⟩ part epoch = false) := by show _ = _; rw [HK.out]; rfl
    go_enter Tryd.func54, Tryd.ntmps54
    go_wp2_with fail
    refine HM.out.mono ?_
    rintro e w2 ⟨rfl, k2⟩
    go_wp2_with fail
    go_ret
    exact BPost.mk E.out (K1.out.trans k2)
  | true =>
    cases h1 : wi part 0 ((P.length : Int) - 1) with
    | false =>
      have E : Hid (kKnown ⟨P, W, nd⟩ part epoch = false) := by show _ = _; rw [HK.out, h1]; rfl
      have W1 := Lib.hid h1
      clear h1 HK
      go_enter Tryd.func54, Tryd.ntmps54
      go_wp2_with fail
      refine HM.out.mono ?_
      rintro e w2 ⟨rfl, k2⟩
      have c0 := row_cell (k := 0) (k2.row G1.out) rfl
      have K2 := Lib.hid (K1.out.trans k2)
      clear k2
      go_wp2_with fail
      refine (f_within_is W1.out _).mono ?_
      rintro e w1 ⟨rfl, rfl⟩
      go_wp2_with fail
      go_ret
      exact BPost.mk E.out K2.out
    | true =>
      have E : Hid (kKnown ⟨P, W, nd⟩ part epoch = wi epoch 0 400) := by show _ = _; rw [HK.out, h1]; rfl
      have W1 := Lib.hid h1
      clear h1 HK
      go_enter Tryd.func54, Tryd.ntmps54
      go_wp2_with fail
      refine HM.out.mono ?_
      rintro e w2 ⟨rfl, k2⟩
      have c0 := row_cell (k := 0) (k2.row G1.out) rfl
      have K2 := Lib.hid (K1.out.trans k2)
      clear k2
      go_wp2_with fail
      refine (f_within_is W1.out _).mono ?_
      rintro e w1 ⟨rfl, rfl⟩
      go_wp2_with fail
      refine (f_within _ _ _ _).mono ?_
      rintro e w1 ⟨rfl, rfl⟩
      go_wp2_with fail
      go_ret
      exact BPost.mk E.out K2.out
theorem z26_ints : Z26 = ints .u8 z32n := by rfl
section
variable {ops : Array Oper} {rest : List Oper} {dst : Option Tmp} {ty : TypeId} {pos : String} {aft : Array Edge} {a : Act} {w : World} {Q : Exit → Act → World → Prop}
/-- A hash of noughts. -/
theorem build26 (h : wpList Tryd.prog ops Q rest (a.put dst (.agg Z26)) w) : wpList Tryd.prog ops Q (⟨dst, .build 26 #[], ty, pos, aft, none⟩ :: rest) a w := by
  refine wpList_plain rfl fun K hK => ?_
  go_simp
  exact hK _ _ h
end
theorem HInts.of_block {w : World} {g : Nat} {t : TypeId} {l : List Int} {cur : Array Value} (hg : w.heap[g]? = some (.cells cur t (0, 0))) (h : cur.toList = l.map (Value.int .i64)) (hl : l.length ≤ 1000) (hb : ∀ z ∈ l, -9223372036854775808 ≤ z ∧ z ≤ 9223372036854775807) (cap : Nat) :
    HInts w (.slice (some ⟨g, 0, none⟩) l.length cap) l := by
  have hs : cur.size = l.length := by have := congrArg List.length h; simpa using this
  have := Rd.of_block hg 1 l.length cap (by omega)
  rw [Nat.mul_one, h, List.take_of_length_le (by simp)] at this
  exact ⟨this, hl, fun k e => by simp only [Value.ownBlock, Option.some.injEq] at e; subst e; exact row_lt hg, hb⟩
theorem wi_le {n lo hi : Int} (h : wi n lo hi = true) : lo ≤ n ∧ n ≤ hi := by simpa [wi] using h
theorem kKnown_iff {k : Ky} {p e : Int} (h : kKnown k p e = true) : kMay k = true ∧ 0 ≤ p ∧ p < k.parts.length ∧ 0 ≤ e ∧ e ≤ 400 := by
  simp only [kKnown, Bool.and_eq_true] at h
  have h1 := wi_le h.2.1
  have h2 := wi_le h.2.2
  exact ⟨h.1, h1.1, by omega, h2.1, h2.2⟩
set_option maxRecDepth 100000 in
set_option maxHeartbeats 4000000 in
theorem f_part (pv wv : Value) (k : Ky) (part epoch : Int) (w : World) (hL : Laid w) (h : KyIn w pv wv k) : Calls Tryd.prog 21 #[.agg #[pv, wv, .int .i64 k.need], .int .i64 part, .int .i64 epoch] w (RPost (.agg (ints .u8 (kPart k part epoch))) w) := by
  have k1 := ((Kept.refl (fun _ => False) w).alloc (.cells #[pv, wv, .int .i64 k.need] 24)).alloc (.cells Z26 26)
  have HM := Lib.hid (f_known pv wv k part epoch _ (h.kept k1))
  have HIn := Lib.hid (h.kept k1)
  have HL := Lib.hid (hL.kept k1)
  obtain ⟨pa, pc, rfl⟩ := h.parts.form
  obtain ⟨wa, wc, rfl⟩ := h.wits.form
  have G3 := Lib.hid (heap_alloc2_old w (.cells #[.slice pa k.parts.length pc, .slice wa k.wits.length wc, .int .i64 k.need] 24) (.cells Z26 26))
  have G6 := Lib.hid (heap_alloc2_new w (.cells #[.slice pa k.parts.length pc, .slice wa k.wits.length wc, .int .i64 k.need] 24) (.cells Z26 26))
  have K1 := Lib.hid k1
  clear h k1 hL
  cases hkn : kKnown k part epoch with
  | false =>
    have E : Hid (ints .u8 (kPart k part epoch) = Z26) := by show _ = _; rw [kPart, hkn, z26_ints]; rfl
    rw [hkn] at HM
    clear hkn
    rw [E.out]
    go_enter Tryd.func21, Tryd.ntmps21
    go_upto_region 1 with (first | fail | (with_reducible refine alloc26 ?_))
    generalize ((w.alloc (.cells #[.slice pa k.parts.length pc, .slice wa k.wits.length wc, .int .i64 k.need] 24)).alloc (.cells Z26 26)) = w1 at *
    have c0 := row_cell (k := 0) G3.out rfl
    have c1 := row_cell (k := 1) G3.out rfl
    have c2 := row_cell (k := 2) G3.out rfl
    go_wp2_with fail
    refine HM.out.mono ?_
    rintro e w2 ⟨rfl, k2⟩
    have G62 := Lib.hid (k2.row G6.out)
    have K2 := Lib.hid (K1.out.trans k2)
    have hzo : Hid (Z26.all (·.oneCell') = true) := by show _ = _; rw [z26_ints]; exact ints_one _ _
    clear k2 c0 c1 c2
    go_wp2_with (first | fail | (with_reducible refine build26 ?_) | ((with_reducible refine store26 (C := Z26) ?_ ?_ G62.out Z26_size Z26_size hzo.out ?_); rfl; rfl))
    exact bodyPost_ret (results_26 rfl _ _ _ (setRow_heap _ _ _ _ _ _ G62.out) Z26_size rfl) rfl (RPost.mk rfl (K2.out.setRow (by omega) _))
  | true =>
    obtain ⟨-, hp0, hp1, he0, he1⟩ := kKnown_iff hkn
    obtain ⟨n, rfl⟩ : ∃ n : Nat, part = n := ⟨part.toNat, by omega⟩
    have hn : n < k.parts.length := by omega
    have E : Hid (kPart k n epoch = macKey k.parts[n] [1, epoch]) := by
      show _ = _
      rw [kPart, if_pos hkn, Int.toNat_natCast, List.getD_eq_getElem?_getD, List.getElem?_eq_getElem hn]; rfl
    have H32 := Lib.hid (HIn.out.parts.each _ (List.getElem_mem hn))
    rw [hkn] at HM
    rw [E.out]
    clear hkn
    have HN := Lib.hid hn
    go_enter Tryd.func21, Tryd.ntmps21
    go_upto_region 1 with (first | fail | (with_reducible refine alloc26 ?_))
    generalize ((w.alloc (.cells #[.slice pa k.parts.length pc, .slice wa k.wits.length wc, .int .i64 k.need] 24)).alloc (.cells Z26 26)) = w1 at *
    have c0 := row_cell (k := 0) G3.out rfl
    have c1 := row_cell (k := 1) G3.out rfl
    have c2 := row_cell (k := 2) G3.out rfl
    go_wp2_with fail
    refine HM.out.mono ?_
    rintro e w2 ⟨rfl, k2⟩
    have G62 := Lib.hid (k2.row G6.out)
    have K2 := Lib.hid (K1.out.trans k2)
    have HL2 := Lib.hid (HL.out.kept k2)
    obtain ⟨b, o, c, ev, hbl, hr⟩ := (HIn.out.parts.kept k2).at hn
    simp only [Value.slice.injEq, true_and] at ev
    obtain ⟨rfl, rfl⟩ := ev
    have HR := Lib.hid hr
    have d0 := row_cell (k := 0) (k2.row G3.out) rfl
    have hsz := Lib.hid (show (ints .u8 k.parts[n]).size = 32 by rw [ints_size]; exact H32.out.1)
    have k3 := (Kept.refl (fun _ => False) w2).alloc (.cells #[.int .i64 1, .int .i64 epoch] 3)
    have hW3 : HInts (w2.alloc (.cells #[.int .i64 1, .int .i64 epoch] 3)) (.slice (some ⟨w2.heap.size, 0, none⟩) 2 2) [1, epoch] :=
      HInts.of_block (l := [1, epoch]) (heap_alloc_new w2 _) rfl (by simp) (fun z hz => by
        simp only [List.mem_cons, List.not_mem_nil, or_false] at hz
        rcases hz with rfl | rfl <;> constructor <;> omega) 2
    have HF := Lib.hid (f_key k.parts[n] _ [1, epoch] _ (HL2.out.kept k3) H32.out.2 H32.out.1 hW3)
    have K3 := Lib.hid (K2.out.trans k3)
    have G63 := Lib.hid (k3.row G62.out)
    have hmz := Lib.hid (show (ints .u8 (macKey k.parts[n] [1, epoch])).size = 32 by rw [ints_size]; exact sha_len _)
    have hmo := Lib.hid (ints_one .u8 (macKey k.parts[n] [1, epoch]))
    generalize hTG : ints .u8 (macKey k.parts[n] [1, epoch]) = TG at *
    generalize ints .u8 k.parts[n] = KB at *
    clear k2 c0 c1 c2 hr k3 hW3 HM H32 E
    go_wp2_with (first | fail | ((with_reducible refine load26 (C := KB) (g := b) (o := o + n * 32) ?_ HR.out hsz.out ?_); rfl))
    refine HF.out.mono ?_
    rintro e w4 ⟨rfl, k4⟩
    have G64 := Lib.hid (k4.row G63.out)
    have K4 := Lib.hid (K3.out.trans k4)
    clear k4
    go_wp2_with (first | fail | ((with_reducible refine store26 (C := TG) ?_ ?_ G64.out Z26_size hmz.out hmo.out ?_); rfl; rfl))
    exact bodyPost_ret (results_26 rfl _ _ _ (setRow_heap _ _ _ _ _ _ G64.out) hmz.out rfl) rfl (RPost.mk (congrArg Value.agg hTG.symm) (K4.out.setRow (by omega) _))
def bitI (b : Bool) : Int := if b = true then 1 else 0
theorem f_bit (b : Bool) (w : World) : Calls Tryd.prog 57 #[.bool b] w fun e w' => e = .returned (.int .i64 (bitI b)) ∧ w = w' := by
  cases b with
  | true =>
    go_enter Tryd.func57, Tryd.ntmps57
    go_wp2_with fail
    go_ret
    exact ⟨rfl, rfl⟩
  | false =>
    go_enter Tryd.func57, Tryd.ntmps57
    go_wp2_with fail
    go_ret
    exact ⟨rfl, rfl⟩

/-! ## Two hashes compared by mac -/
theorem xor_zero {x y : Nat} : x ^^^ y = 0 ↔ x = y := by
  constructor
  · intro h
    have := congrArg (· ^^^ y) h
    simpa [Nat.xor_assoc] using this
  · rintro rfl; exact Nat.xor_self _
theorem or_xor_zero {c x y : Nat} : (c ||| (x ^^^ y)) = 0 ↔ c = 0 ∧ x = y := by rw [Nat.or_eq_zero_iff, xor_zero]
set_option maxRecDepth 100000 in
theorem f_differ (i c x y A B g : Nat) (w : World) (hi : i < 32) (hc : c < 256) (hx : x < 256) (hy : y < 256) (c1 : w.cell? ⟨g, 0, none⟩ = some (.int .u8 (c : Nat))) (f1 : w.frozen? ⟨g, 0, none⟩ = false) (c2 : w.cell? ⟨A, i, none⟩ = some (.int .u8 (x : Nat))) (c3 : w.cell? ⟨B, i, none⟩ = some (.int .u8 (y : Nat))) :
    Calls Tryd.prog 109 #[.int .i64 (i : Nat), .pointer (some ⟨g, 0, none⟩), .pointer (some ⟨A, 0, none⟩), .pointer (some ⟨B, 0, none⟩)] w fun e w' => (∃ v, e = .returned v) ∧ w' = w.drew.setCell ⟨g, 0, none⟩ (.int .u8 ((c ||| (x ^^^ y) : Nat) : Int)) := by
  have e1 := u8_xor_nat x y hx hy
  have hxy : x ^^^ y < 256 := Nat.xor_lt_two_pow (n := 8) hx hy
  have e2 := u8_or_nat c (x ^^^ y) hc hxy
  have hi2 : (i : Int) < 32 := by omega
  generalize x ^^^ y = z at *
  generalize c ||| z = r at *
  go_enter Tryd.func109, Tryd.ntmps109
  go_upto_region 0 with (fail)
  go_still_tail 9, (by kernel_rfl)
  change wpList _ _ _ _ _ w.drew
  have d1 : w.drew.cell? ⟨g, 0, none⟩ = some (.int .u8 (c : Nat)) := c1
  have d2 : w.drew.frozen? ⟨g, 0, none⟩ = false := f1
  clear c1 f1 c2 c3 e1 e2
  go_wp2_with fail
  go_end0
  exact ⟨⟨_, rfl⟩, rfl⟩
theorem take_eq_succ {a b : List Nat} {j : Nat} (ha : j < a.length) (hb : j < b.length) : a.take (j + 1) = b.take (j + 1) ↔ a.take j = b.take j ∧ a.getD j 0 = b.getD j 0 := by
  rw [← List.take_append_getElem ha, ← List.take_append_getElem hb, List.getD_eq_getElem?_getD, List.getD_eq_getElem?_getD, List.getElem?_eq_getElem ha, List.getElem?_eq_getElem hb]
  constructor
  · intro h
    have := List.append_inj h (by simp; omega)
    simpa using this
  · rintro ⟨h1, h2⟩
    simp at h2
    rw [h1, h2]
set_option maxRecDepth 100000 in
set_option maxHeartbeats 4000000 in
theorem f_equal (a b : List Nat) (w : World) (ha : a.length = 32) (hb : b.length = 32) (ha8 : All8 a) (hb8 : All8 b) : Calls Tryd.prog 89 #[.agg (ints .u8 a), .agg (ints .u8 b)] w (BPost (decide (a = b)) w) := by
  obtain ⟨g1, g2, g3⟩ := heap_alloc3 w (.cells (ints .u8 a) 26) (.cells (ints .u8 b) 26) (.cells #[.int .u8 0] 5)
  have K1 := Lib.hid ((((Kept.refl (fun _ => False) w).alloc (.cells (ints .u8 a) 26)).alloc (.cells (ints .u8 b) 26)).alloc (.cells #[.int .u8 0] 5))
  have G1 := Lib.hid g1
  have G2 := Lib.hid g2
  have G3 := Lib.hid g3
  have HA := Lib.hid ha8
  have HB := Lib.hid hb8
  have HAL := Lib.hid ha
  have HBL := Lib.hid hb
  clear g1 g2 g3 ha8 hb8 ha hb
  go_enter Tryd.func89, Tryd.ntmps89
  go_wp2_with fail
  generalize ((w.alloc (.cells (ints .u8 a) 26)).alloc (.cells (ints .u8 b) 26)).alloc (.cells #[.int .u8 0] 5) = w3 at *
  go_loopw [9] (fun i wr => ∃ j c : Nat, j ≤ 32 ∧ c < 256 ∧ i = .int .i64 j ∧ (c = 0 ↔ a.take j = b.take j) ∧ Hid (wr.heap[w.heap.size + 1 + 1]? = some (.cells #[.int .u8 (c : Nat)] 5 (0, 0))) ∧ Kept (fun k => k = w.heap.size + 1 + 1) w3 wr) (fun i _ => 32 - (intOf i).toNat)
  case atStart => exact ⟨0, 0, by omega, by omega, rfl, by simp, G3.out, Kept.refl _ _⟩
  case round =>
    obtain ⟨j, c, hj, hc, rfl, hacc, HC, K⟩ := hrel
    have HACC := Lib.hid hacc
    have KR := Lib.hid K
    clear hacc
    have cg := row_cell (k := 0) HC.out rfl
    by_cases hlt : j < 32
    · have HF := Lib.hid (f_differ j c (a.getD j 0) (b.getD j 0) w.heap.size (w.heap.size + 1) (w.heap.size + 1 + 1) wr hlt hc (HA.out.getD j) (HB.out.getD j) cg (free_of_block HC.out)
        (ints_cell (K.rowS (by omega) G1.out) (by rw [HAL.out]; exact hlt)) (ints_cell (K.rowS (by omega) G2.out) (by rw [HBL.out]; exact hlt)))
      have hc2 : c ||| (a.getD j 0 ^^^ b.getD j 0) < 256 := Nat.or_lt_two_pow (n := 8) hc (Nat.xor_lt_two_pow (n := 8) (HA.out.getD j) (HB.out.getD j))
      have HN : Hid ((c ||| (a.getD j 0 ^^^ b.getD j 0)) = 0 ↔ a.take (j + 1) = b.take (j + 1)) := by
        show _ ↔ _
        rw [or_xor_zero, take_eq_succ (by rw [HAL.out]; exact hlt) (by rw [HBL.out]; exact hlt), HACC.out]
      generalize c ||| (a.getD j 0 ^^^ b.getD j 0) = c2 at *
      have hj2 : (j : Int) < 32 := by omega
      clear K cg
      go_wp2_with fail
      refine HF.out.mono ?_
      rintro e w4 ⟨⟨v, rfl⟩, rfl⟩
      have HC2 : Hid ((wr.drew.setCell ⟨w.heap.size + 1 + 1, 0, none⟩ (.int .u8 (c2 : Nat))).heap[w.heap.size + 1 + 1]? = some (.cells #[.int .u8 (c2 : Nat)] 5 (0, 0))) := by
        show _ = _
        exact setCell_block HC.out _
      have KF : Hid (Kept (fun k => k = w.heap.size + 1 + 1) w3 (wr.drew.setCell ⟨w.heap.size + 1 + 1, 0, none⟩ (.int .u8 (c2 : Nat)))) := KR.out.drew.setCell (p := ⟨_, 0, none⟩) (.inl rfl) _
      generalize wr.drew.setCell ⟨w.heap.size + 1 + 1, 0, none⟩ (.int .u8 (c2 : Nat)) = w5 at *
      go_wp2_with fail
      go_roundw
      case rel => exact ⟨j + 1, c2, by omega, hc2, by go_num, HN.out, HC2.out, KF.out⟩
      case measure => simp [intOf]; omega
    · obtain rfl : j = 32 := by omega
      have E : Hid (decide (a = b) = ((c : Int) == 0)) := by
        have h := HACC.out
        rw [List.take_of_length_le (by rw [HAL.out]; exact Nat.le_refl _), List.take_of_length_le (by rw [HBL.out]; exact Nat.le_refl _)] at h
        show _ = _
        by_cases hab : a = b
        · rw [h.2 hab, decide_eq_true hab]; rfl
        · rw [decide_eq_false hab]
          have : c ≠ 0 := fun e => hab (h.1 e)
          symm; rw [beq_eq_false_iff_ne]; omega
      have KF : Hid (Kept (fun _ => False) w wr) := K1.out.trans' K (fun i hi e => by omega)
      clear K
      go_wp2_with fail
      go_ret
      exact BPost.mk E.out KF.out
end Go.Proofs.YtklmhegmombegaaDoor
