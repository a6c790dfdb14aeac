/-
  The walk of KeysEnough. Conditions: as each theorem says.
-/
import Derived.Test.YtklmhegmombegaaDoorEnoughP
set_option linter.unusedVariables false
set_option linter.unusedSimpArgs false
set_option maxRecDepth 100000
namespace Go.Proofs.YtklmhegmombegaaDoor
open Go Go.RowKit Plain


theorem sig_one (s : Int × List Nat) : (sigC s).toArray.all (·.oneCell') = true := by
  rw [Array.all_eq_true_iff_forall_mem]
  intro x hx
  simp only [sigC, List.mem_toArray, List.mem_cons] at hx
  rcases hx with rfl | hx
  · rfl
  · exact bys_one _ x hx
theorem sigs_one (l : List (Int × List Nat)) : ∀ u ∈ l.flatMap sigC, u.oneCell' = true := by
  intro u hu
  obtain ⟨s, _, hs⟩ := List.mem_flatMap.1 hu
  have := sig_one s
  rw [Array.all_eq_true_iff_forall_mem] at this
  exact this u (by simpa using hs)
theorem sig_src {w : World} {g : Nat} {t : TypeId} {s : Int × List Nat} (hg : w.heap[g]? = some (.cells (sigC s).toArray t (0, 0))) (hl : s.2.length = 32) : Src Tryd.prog 33 38 (.slice (some ⟨g, 0, none⟩) 1 1) 1 (sigC s) w := by
  have h := Rd.of_block hg 33 1 1 (by rw [List.size_toArray, sigC_len hl]; decide)
  rw [List.toList_toArray, List.take_of_length_le (Nat.le_of_eq (sigC_len hl))] at h
  exact h.src Tryd.underlying38 (fun u hu => by
    have := sig_one s
    rw [Array.all_eq_true_iff_forall_mem] at this
    exact this u (by simpa using hu))
theorem i_bit_fin : ∀ (w : Fin 256) (j : Fin 4), (bits .and .u8 ((w.val : Int) / 2 ^ min (IntKind.u64.wrap (j.val : Int)).toNat 8) 1 == 1) = w.val.testBit j.val := by decide +kernel
theorem i_bit {who j : Nat} (hw : who < 256) (hj : j < 4) : (bits .and .u8 ((who : Int) / 2 ^ min (IntKind.u64.wrap (j : Int)).toNat 8) 1 == 1) = who.testBit j := i_bit_fin ⟨who, hw⟩ ⟨j, hj⟩
theorem i_bit2_fin : ∀ (w : Fin 256) (j : Fin 4), (bits .and .u8 ((w.val : Int) / 2 ^ j.val) 1 == 1) = w.val.testBit j.val := by decide +kernel
theorem i_bit2 {who j : Nat} (hw : who < 256) (hj : j < 4) : (bits .and .u8 ((who : Int) / 2 ^ j) 1 == 1) = who.testBit j := i_bit2_fin ⟨who, hw⟩ ⟨j, hj⟩
theorem sigs_each {k : Ky} {n : Int} {root : List Nat} {who : Nat} {turn : Bool} {s : Int × List Nat} (hs : s ∈ sigsL k n root who turn k.wits.length) (h4 : k.wits.length ≤ 4) : s.2.length = 32 ∧ All8 s.2 ∧ W64 s.1 := by
  obtain ⟨j, hj, rfl⟩ := sigsL_mem hs
  exact ⟨kSign_len _ _ _ _, kSign_all _ _ _ _, show W64 (j : Int) from ⟨by omega, by omega⟩⟩
theorem buf_some {w : World} {base : Nat} {e : TypeId} {size : Nat} {av : Option Addr} {n cv : Nat} {xs : List Value} (h : Buf w base e size (.slice av n cv) n xs) (hn : n ≠ 0) : ∃ g, av = some ⟨g, 0, none⟩ := by
  rcases h.2 with ⟨e, h0⟩ | ⟨g, cap, cur, e, _⟩
  · exact absurd h0 hn
  · simp only [Value.slice.injEq] at e; exact ⟨g, e.1⟩
theorem buf_row {w : World} {base : Nat} {e : TypeId} {size : Nat} {g n cv : Nat} {xs : List Value} (h : Buf w base e size (.slice (some ⟨g, 0, none⟩) n cv) n xs) : ∃ cur : Array Value, w.heap[g]? = some (.cells cur e (0, 0)) ∧ base ≤ g ∧ n ≤ cv ∧ cv ≤ maxLen ∧ cv * size ≤ cur.size ∧ cur.toList.take (n * size) = xs := by
  rcases h.2 with ⟨e, h0⟩ | ⟨g', cap, cur, e, hb, hg, h1, h2, h3, h4⟩
  · simp at e
  · simp only [Value.slice.injEq, Option.some.injEq, Addr.mk.injEq, and_true] at e
    obtain ⟨rfl, _, rfl⟩ := e
    exact ⟨cur, hg, hb, h1, h2, h3, h4⟩
theorem flat_one (s : Int × List Nat) : [s].flatMap sigC = sigC s := by simp
theorem sigs_snoc {s : Int × List Nat} {T : List (Int × List Nat)} (h : ∀ u ∈ s :: T, u.2.length = 32 ∧ All8 u.2 ∧ W64 u.1) : ∀ u ∈ s :: T ++ [s], u.2.length = 32 ∧ All8 u.2 ∧ W64 u.1 := fun u hu => by
  rcases List.mem_append.1 hu with hu | hu
  · exact h u hu
  · rw [List.mem_singleton.1 hu]; exact h s (by simp)
/-- The same row, with no room. -/
theorem buf_cut {w : World} {base : Nat} {e : TypeId} {size : Nat} {g n cv : Nat} {xs : List Value} (h : Buf w base e size (.slice (some ⟨g, 0, none⟩) n cv) n xs) : Buf w base e size (.slice (some ⟨g, 0, none⟩) n n) n xs := by
  obtain ⟨cur, hg, hb, h1, h2, h3, h4⟩ := buf_row h
  exact ⟨h.1, .inr ⟨g, n, cur, rfl, hb, hg, Nat.le_refl _, Nat.le_trans h1 h2, Nat.le_trans (Nat.mul_le_mul_right _ h1) h3, h4⟩⟩
theorem buf_head {w : World} {base : Nat} {g n cv : Nat} {s : Int × List Nat} {T : List (Int × List Nat)} (h : Buf w base 49 33 (.slice (some ⟨g, 0, none⟩) n cv) n ((s :: T).flatMap sigC)) (hs : s.2.length = 32) : w.rangeAt g 0 (sigC s).toArray.toList := by
  obtain ⟨cur, hg, hb, h1, h2, h3, h4⟩ := buf_row h
  intro j v hv
  have hj : j < 33 := by have := (List.getElem?_eq_some_iff.1 hv).1; rwa [List.toList_toArray, sigC_len hs] at this
  refine row_cell hg ?_
  have : (cur.toList.take (n * 33))[j]? = some v := by
    rw [h4, List.flatMap_cons, List.getElem?_append_left (by rw [sigC_len hs]; exact hj)]
    rw [List.toList_toArray] at hv; exact hv
  rw [List.getElem?_take] at this
  split at this
  · rw [Nat.zero_add, ← Array.getElem?_toList]; exact this
  · cases this
theorem cur_first {cur : Array Value} {s : Int × List Nat} {T : List (Int × List Nat)} {N : Nat} (h : cur.toList.take (N * 33) = (s :: T).flatMap sigC) (hN : N = (s :: T).length) (hs : s.2.length = 32) : cur[1]? = some (.int .u8 ((s.2.getD 0 0 : Nat) : Int)) := by
  have : (cur.toList.take (N * 33))[1]? = some (.int .u8 ((s.2.getD 0 0 : Nat) : Int)) := by
    rw [h, List.flatMap_cons, List.getElem?_append_left (by rw [sigC_len hs]; decide)]
    simp [sigC, bys, List.getD_eq_getElem?_getD, List.getElem?_eq_getElem (show 0 < s.2.length by omega)]
  rw [List.getElem?_take] at this
  split at this
  · rw [← Array.getElem?_toList]; exact this
  · cases this
theorem cur_bump {cur : Array Value} {s : Int × List Nat} {T : List (Int × List Nat)} {N t0 : Nat} (h : cur.toList.take (N * 33) = (s :: T).flatMap sigC) (hN : N = (s :: T).length) (hs : s.2.length = 32) (ht : s.2.getD 0 0 = t0) :
    (cur.setIfInBounds 1 (.int .u8 (((t0 + 1) % 256 : Nat) : Int))).toList.take (N * 33) = ((s.1, bump s.2) :: T).flatMap sigC := by
  rw [Array.toList_setIfInBounds, List.take_set, h, List.flatMap_cons, List.flatMap_cons, List.set_append_left _ _ (by rw [sigC_len hs]; decide)]
  congr 1
  simp only [sigC, List.set_cons_succ, bys, bump, ht]
  rw [List.map_set]
theorem sigs_sign {k : Ky} {n : Int} {root : List Nat} {who : Nat} {turn : Bool} {s : Int × List Nat} (hs : s ∈ sigsL k n root who turn k.wits.length) : kSign k s.1 n root = s.2 := by
  obtain ⟨j, hj, rfl⟩ := sigsL_mem hs
  rfl
theorem i_u8s {t : Nat} (h : t < 256) : IntKind.u8.wrap ((t : Int) + 1) = (((t + 1) % 256 : Nat) : Int) := by rw [IntKind.wrap_u8]; omega
theorem range_keptS {S : Nat → Prop} {w w' : World} {g o : Nat} {l : List Value} (k : Kept S w w') (hg : ¬ S g) (hl : g < w.heap.size) (h : w.rangeAt g o l) : w'.rangeAt g o l := fun j v hv => (k.cell (p := ⟨g, o + j, none⟩) hl hg).trans (h j v hv)

set_option maxHeartbeats 8000000 in
theorem c_enough (pv wv : Value) (k : Ky) (n : Int) (root : List Nat) (who : Nat) (turn : Bool) (hwho : who < 256) (w : World) (hL : Laid w) (hk : KyIn w pv wv k) (hn : W64 n) (hr : root.length = 32) (hr8 : All8 root) (hl1 : k.parts.length ≤ 20) (hl2 : k.wits.length ≤ 20) :
    Calls Tryd.prog 6 #[.agg #[pv, wv, .int .i64 k.need], .int .i64 n, .agg (ints .u8 root), .int .u8 (who : Int), .bool turn] w (BPost true w) := by
  have k1 := ((Kept.refl (fun _ => False) w).alloc (.cells #[pv, wv, .int .i64 k.need] 24)).alloc (.cells (ints .u8 root) 26)
  have G1 := Lib.hid (heap_alloc2_old w (.cells #[pv, wv, .int .i64 k.need] 24) (.cells (ints .u8 root) 26))
  have G2 := Lib.hid (heap_alloc2_new w (.cells #[pv, wv, .int .i64 k.need] 24) (.cells (ints .u8 root) 26))
  have HK0 := Lib.hid hk
  have HL0 := Lib.hid hL
  have HR := Lib.hid hr
  have HR8 := Lib.hid hr8
  have hrz : Hid ((ints .u8 root).size = 32) := by show _ = _; rw [ints_size]; exact hr
  have K1 := Lib.hid k1
  have HA := Lib.hid (f_alive _ (hL.kept k1))
  obtain ⟨pa, pc, rfl⟩ := hk.parts.form
  obtain ⟨wa, wcp, rfl⟩ := hk.wits.form
  have t1 : decide ((20 : Int) < (k.parts.length : Int)) = false := decide_eq_false (by omega)
  have t2 : decide ((20 : Int) < (k.wits.length : Int)) = false := decide_eq_false (by omega)
  have u1 : decide (20 < k.parts.length) = false := decide_eq_false (by omega)
  have u2 : decide (20 < k.wits.length) = false := decide_eq_false (by omega)
  have HWHO := Lib.hid hwho
  clear k1 hL hk hl1 hl2 hr hr8 hwho
  go_enter Tryd.func6, Tryd.ntmps6
  go_upto_region 1 with (fail)
  generalize ((w.alloc (.cells #[.slice pa k.parts.length pc, .slice wa k.wits.length wcp, .int .i64 k.need] 24)).alloc (.cells (ints .u8 root) 26)) = w1 at *
  go_wp2_with fail
  refine HA.out.mono ?_
  rintro e w2 ⟨rfl, k2⟩
  have G1_2 := Lib.hid (k2.row G1.out)
  have G2_2 := Lib.hid (k2.row G2.out)
  have K_2 := Lib.hid (K1.out.trans k2)
  clear k2 G1 G2 K1 HA
  have c0 := row_cell (k := 0) G1_2.out rfl
  have c1 := row_cell (k := 1) G1_2.out rfl
  have c2 := row_cell (k := 2) G1_2.out rfl
  have HM := Lib.hid (f_may _ _ k w2 (HK0.out.kept K_2.out))
  cases hm : kMay k with
  | false =>
    rw [hm] at HM
    clear hm
    go_wp2_with fail
    refine HM.out.mono ?_
    rintro e w4 ⟨rfl, k4⟩
    go_wp2_with fail
    go_ret
    exact BPost.mk rfl (K_2.out.trans k4)
  | true =>
    rw [hm] at HM
    have HMM := Lib.hid hm
    clear hm
    go_wp2_with fail
    refine HM.out.mono ?_
    rintro e w3 ⟨rfl, k3⟩
    clear HM
    have G1_3 := Lib.hid (k3.row G1_2.out)
    have G2_3 := Lib.hid (k3.row G2_2.out)
    have K_3 := Lib.hid (K_2.out.trans k3)
    clear k3 G1_2 G2_2 K_2 c0 c1 c2
    by_cases hn0 : n < 0
    · have v0 : decide (n < 0) = true := decide_eq_true hn0
      go_wp2_with fail
      go_ret
      exact BPost.mk rfl K_3.out
    have v0 : decide (n < 0) = false := decide_eq_false hn0
    by_cases hn4 : (400 : Int) < n
    · go_wp2_with fail
      go_ret
      exact BPost.mk rfl K_3.out
    have v4 : decide ((400 : Int) < n) = false := decide_eq_false hn4
    have HN0 : Hid (0 ≤ n) := by show _ ≤ _; omega
    have HN4 : Hid (n ≤ 400) := by show _ ≤ _; omega
    clear hn0 hn4 hn
    go_upto_region 5 with fail
    clear v0 v4 t1 t2 u1 u2
    have HP := Lib.hid (fun (sv : Value) (h1 : sv.oneCell' = true) => ptA_in (n := n) (sv := sv) HR.out HR8.out h1)
    have hptz : Hid ((ptA n root (.slice none 0 0)).size = 34) := (HP.out (.slice none 0 0) rfl).size
    have hpto : Hid ((ptA n root (.slice none 0 0)).all (·.oneCell') = true) := (HP.out (.slice none 0 0) rfl).one
    have zp := Lib.hid (heap_alloc_new w3 (.cells Z40 40))
    obtain ⟨yp, kp⟩ := alloc_set w3 Z40 (ptA n root (.slice none 0 0)) 40
    have Y4 := Lib.hid yp
    have K_4 := Lib.hid (K_3.out.trans kp)
    have G1_4 := Lib.hid (kp.row G1_3.out)
    have hB := K_3.out.size
    have hBg := row_lt G2_3.out
    clear yp kp
    go_wp2_with (first | fail | ((with_reducible refine load26 (C := ints .u8 root) (g := w.heap.size + 1) (o := 0) ?_ (range_row G2_3.out) hrz.out ?_); rfl) | ((with_reducible refine build40v (k := n) (tag := root) ?_ ?_ HR.out ?_); rfl; rfl) | (with_reducible refine alloc40 ?_) | ((with_reducible refine store40 (C := ptA n root (.slice none 0 0)) ?_ ?_ zp.out Z40_size hptz.out hpto.out ?_); rfl; rfl))
    generalize (w3.alloc (.cells Z40 40)).setRow w3.heap.size (ptA n root (.slice none 0 0)) = w4 at *
    clear zp G1_3 G2_3
    generalize hBe : w3.heap.size = B at hB hBg Y4 ⊢
    clear hBe K_3
    have HWS := Lib.hid (wits_le HMM.out)
    obtain ⟨i49, hi, hsz, hby, hz⟩ := info49'
    have HI := Lib.hid (And.intro hi (And.intro hsz (And.intro hby hz)))
    clear hi hsz hby hz
    have hBB := row_lt Y4.out
    have HBB := Lib.hid hBB
    go_loopw [12, 13, 14] (fun cn sv i wr => ∃ j : Nat, j ≤ k.wits.length ∧ i = .int .i64 j ∧ cn = .int .i64 (((sigsL k n root who turn j).length : Nat) : Int) ∧ Hid (Buf wr w4.heap.size 49 33 sv (sigsL k n root who turn j).length ((sigsL k n root who turn j).flatMap sigC)) ∧ Hid (Kept (fun _ => False) w4 wr)) (fun _ _ i _ => k.wits.length - (intOf i).toNat)
    case atStart => exact ⟨0, Nat.zero_le _, rfl, by rw [sigsL_zero]; rfl, by rw [sigsL_zero]; exact Buf.nil _ _ _ _, Kept.refl _ _⟩
    case round =>
      obtain ⟨j, hj, rfl, rfl, HB, K⟩ := hrel
      obtain ⟨av, cv, rfl, -⟩ := HB.out.form
      have G1_r := Lib.hid (K.out.row G1_4.out)
      have Y_r := Lib.hid (K.out.row Y4.out)
      have K_r := Lib.hid (K_4.out.trans K.out)
      have c0 := row_cell (k := 0) G1_r.out rfl
      have c1 := row_cell (k := 1) G1_r.out rfl
      have c2 := row_cell (k := 2) G1_r.out rfl
      have hle := sigsL_len k n root who turn j
      have hws := HWS.out
      by_cases hlt : j < k.wits.length
      · have q1 : (j : Int) < (k.wits.length : Int) := by omega
        have hj4 : j < 4 := by omega
        have hbit := i_bit (j := j) HWHO.out hj4
        have hbit2 := i_bit2 (j := j) HWHO.out hj4
        cases hb : who.testBit j with
        | false =>
          rw [hb] at hbit hbit2
          have HL1 := Lib.hid (sigsL_no turn hb (k := k) (n := n) (root := root))
          clear hb
          clear hws
          go_wp2_with fail
          go_roundw
          case rel => exact ⟨j + 1, by omega, by go_num, by rw [HL1.out], by rw [HL1.out]; exact HB.out, K.out⟩
          case measure => simp [intOf]; omega
        | true =>
          rw [hb] at hbit hbit2
          have HBT := Lib.hid hb
          clear hb hws
          have HS := Lib.hid (f_sign (.slice pa k.parts.length pc) (.slice wa k.wits.length wcp) (.slice none 0 0) k (j : Int) n (ptA n root (.slice none 0 0)) root wr (HL0.out.kept K_r.out) (HK0.out.kept K_r.out) (HP.out _ rfl) ⟨by omega, by omega⟩)
          have hsl := Lib.hid (kSign_len k (j : Int) n root)
          have hsa := Lib.hid (kSign_all k (j : Int) n root)
          have hs33 : Hid ((sigC (sgn k n root j)).toArray.size = 33) := by show _ = _; simp [sigC_len (s := sgn k n root j) hsl.out]
          have hs1 : Hid ((sigC (sgn k n root j)).toArray.all (·.oneCell') = true) := sig_one (sgn k n root j)
          have HSG : Hid (sgn k n root j = ((j : Int), kSign k (j : Int) n root)) := rfl
          go_wp2_with (first | fail | ((with_reducible refine load40 (C := ptA n root (.slice none 0 0)) (g := B) (o := 0) ?_ (range_row Y_r.out) hptz.out ?_); rfl))
          refine HS.out.mono ?_
          rintro e w5 ⟨rfl, k5⟩
          clear HS c0 c1 c2
          have zs := Lib.hid (heap_alloc_new w5 (.cells Z49 49))
          obtain ⟨ys, ks⟩ := alloc_set w5 Z49 (sigC (sgn k n root j)).toArray 49
          have S6 := Lib.hid ys
          have K_6 := Lib.hid (K.out.trans (k5.trans ks))
          have HB6 := Lib.hid (HB.out.kept (k5.trans ks) (fun _ _ h => h))
          have hW6 := Nat.le_trans K.out.size k5.size
          clear ys ks k5
          go_upto_region 13 with (first | fail | ((with_reducible refine build49v (k := (j : Int)) (tag := kSign k (j : Int) n root) ?_ ?_ hsl.out ?_); rfl; rfl) | (with_reducible refine alloc49 ?_) | ((with_reducible refine store49 (C := (sigC (sgn k n root j)).toArray) ?_ ?_ zs.out Z49_size hs33.out hs1.out ?_); rfl; rfl))
          generalize (w5.alloc (.cells Z49 49)).setRow w5.heap.size (sigC (sgn k n root j)).toArray = w6 at *
          generalize hGe : w5.heap.size = G at hW6 S6 ⊢
          have hG6 := row_lt S6.out
          clear hGe zs
          cases turn with
          | true =>
            have HL1 := Lib.hid (sigsL_front HBT.out (k := k) (n := n) (root := root))
            have k7 := (Kept.refl (fun _ => False) w6).alloc (.cells (sigC (sgn k n root j)).toArray 49)
            have g7 := heap_alloc_new w6 (.cells (sigC (sgn k n root j)).toArray 49)
            have K_7 := Lib.hid (K_6.out.trans k7)
            have HB7 := HB6.out.kept k7 (fun _ _ h => h)
            have HSC := Lib.hid (HB7.src Tryd.underlying38 (fun u hu => sigs_one _ u hu))
            have HN : Hid (Buf (w6.alloc (.cells (sigC (sgn k n root j)).toArray 49)) w4.heap.size 49 33 (.slice (some ⟨w6.heap.size, 0, none⟩) 1 1) 1 (sigC (sgn k n root j))) :=
              ⟨sigC_len (s := sgn k n root j) hsl.out, .inr ⟨w6.heap.size, 1, _, rfl, K_6.out.size, g7, Nat.le_refl _, by decide, by rw [hs33.out]; decide, by simp; exact List.take_of_length_le (Nat.le_of_eq (sigC_len (s := sgn k n root j) hsl.out))⟩⟩
            have HSZ : Hid (w4.heap.size ≤ (w6.alloc (.cells (sigC (sgn k n root j)).toArray 49)).heap.size) := K_7.out.size
            clear k7 g7 HB7
            obtain ⟨hi, hsz, hby, hz⟩ := HI.out
            go_wp2_with (first | fail | ((with_reducible refine load49 (C := (sigC (sgn k n root j)).toArray) (g := G) (o := 0) ?_ (range_row S6.out) hs33.out ?_); rfl) | ((with_reducible refine slice38 (C := (sigC (sgn k n root j)).toArray) ?_ hs33.out ?_); rfl) | (at_builtin; refine wpList_append_buf _ rfl (.tmp 67) (.tmp 68) 38 38 rfl w4.heap.size 49 i49 (.agg Z49z) 33 40 Tryd.underlying38 hi hz hsz hby rfl (by decide) _ _ _ rfl HN.out _ _ _ rfl HSC.out (by unfold maxLen; omega) (by omega) HSZ.out ?_; intro v' w' hb' hg' ho' hn'; have HB8 := Lib.hid hb'; have HG8 := Lib.hid hg'; clear hb' hg' ho' hn'))
            have HB9 : Hid (Buf w' w4.heap.size 49 33 v' (sigsL k n root who true (j + 1)).length ((sigsL k n root who true (j + 1)).flatMap sigC)) := by
              show Buf _ _ _ _ _ _ _
              rw [HL1.out, List.length_cons, List.flatMap_cons, Nat.add_comm]
              exact HB8.out
            have KF : Hid (Kept (fun _ => False) w4 w') := K_7.out.grown HG8.out (fun i hi => by have hi' : some w6.heap.size = some i := hi; simp only [Option.some.injEq] at hi'; exact .inr (by rw [← hi']; exact K_6.out.size))
            have hl1 : (sigsL k n root who true (j + 1)).length = (sigsL k n root who true j).length + 1 := by rw [HL1.out]; rfl
            go_roundw
            case rel => exact ⟨j + 1, by omega, by go_num, by rw [hl1]; go_num, HB9.out, KF.out⟩
            case measure => simp [intOf]; omega
          | false =>
            have HL1 := Lib.hid (sigsL_back HBT.out (k := k) (n := n) (root := root))
            have k7 := (Kept.refl (fun _ => False) w6).alloc (.cells (sigC (sgn k n root j)).toArray 49)
            have g7 := heap_alloc_new w6 (.cells (sigC (sgn k n root j)).toArray 49)
            have K_7 := Lib.hid (K_6.out.trans k7)
            have HB7 := Lib.hid (HB6.out.kept k7 (fun _ _ h => h))
            have HSC := Lib.hid (sig_src g7 hsl.out)
            have HSZ : Hid (w4.heap.size ≤ (w6.alloc (.cells (sigC (sgn k n root j)).toArray 49)).heap.size) := K_7.out.size
            clear k7 g7
            obtain ⟨hi, hsz, hby, hz⟩ := HI.out
            go_wp2_with (first | fail | ((with_reducible refine load49 (C := (sigC (sgn k n root j)).toArray) (g := G) (o := 0) ?_ (range_row S6.out) hs33.out ?_); rfl) | ((with_reducible refine slice38 (C := (sigC (sgn k n root j)).toArray) ?_ hs33.out ?_); rfl) | (at_builtin; refine wpList_append_buf _ rfl (.tmp 70) (.tmp 72) 38 38 rfl w4.heap.size 49 i49 (.agg Z49z) 33 40 Tryd.underlying38 hi hz hsz hby rfl (by decide) _ _ _ rfl HB7.out _ _ _ rfl HSC.out (by unfold maxLen; omega) (by omega) HSZ.out ?_; intro v' w' hb' hg' ho' hn'; have HB8 := Lib.hid hb'; have HG8 := Lib.hid hg'; clear hb' hg' ho' hn'))
            have HB9 : Hid (Buf w' w4.heap.size 49 33 v' (sigsL k n root who false (j + 1)).length ((sigsL k n root who false (j + 1)).flatMap sigC)) := by
              show Buf _ _ _ _ _ _ _
              rw [HL1.out, List.length_append, List.flatMap_append, List.flatMap_cons, List.flatMap_nil, List.append_nil]
              exact HB8.out
            have KF : Hid (Kept (fun _ => False) w4 w') := K_7.out.grown HG8.out (fun i hi => .inr (HB.out.lt i hi).1)
            have hl1 : (sigsL k n root who false (j + 1)).length = (sigsL k n root who false j).length + 1 := by rw [HL1.out]; simp
            go_roundw
            case rel => exact ⟨j + 1, by omega, by go_num, by rw [hl1]; go_num, HB9.out, KF.out⟩
            case measure => simp [intOf]; omega
      · obtain rfl : j = k.wits.length := by omega
        clear hws
        have HCK := Lib.hid (check_sigs (who := who) (turn := turn) HMM.out HN0.out HN4.out (root := root))
        have hne := sigsL_len k n root who turn k.wits.length
        have HEA := Lib.hid (fun (s : Int × List Nat) (hs : s ∈ sigsL k n root who turn k.wits.length) => sigs_each hs HWS.out.2.1)
        have HSK0 := Lib.hid (fun (s : Int × List Nat) (hs : s ∈ sigsL k n root who turn k.wits.length) => sigs_sign hs)
        obtain ⟨L, hL⟩ : ∃ L, L = sigsL k n root who turn k.wits.length := ⟨_, rfl⟩
        rw [← hL] at HCK HB HEA HSK0 hle hne ⊢
        clear hL hlt hj
        have cp := row_cell Y_r.out (HP.out _ rfl).c33
        have fp := free_of_block (j := 33) Y_r.out
        go_upto_region 18 with fail
        clear cp fp c0 c1 c2
        have k5 := (Kept.refl (fun i => i = B) wr).setCell (p := ⟨B, 33, none⟩) (.inl rfl) (.slice av L.length cv)
        have HB5 := Lib.hid (HB.out.kept k5 (fun i e h => by have := (HB.out.lt i e).1; have := HBB.out; omega))
        have G1_5 := Lib.hid (k5.rowS (by omega) G1_r.out)
        have y5 := setCell_block Y_r.out (k := 33) (.slice av L.length cv)
        rw [ptA_set HR.out] at y5
        have Y5 := Lib.hid y5
        have K_5 := Lib.hid (K_r.out.setCell (p := ⟨B, 33, none⟩) (.inr hB) (.slice av L.length cv))
        have HW5 : Hid (w4.heap.size ≤ (wr.setCell ⟨B, 33, none⟩ (.slice av L.length cv)).heap.size) := Nat.le_trans K.out.size k5.size
        generalize wr.setCell ⟨B, 33, none⟩ (.slice av L.length cv) = w5 at *
        clear k5 y5 HB G1_r Y_r K_r K
        have HS5 := Lib.hid (HSigs.of_buf HB5.out HEA.out (by have := HWS.out.2.1; omega))
        have P5 := Lib.hid (HP.out (.slice av L.length cv) rfl)
        have hp5 := Lib.hid P5.out.size
        generalize hPA : ptA n root (.slice av L.length cv) = PA at *
        cases hlt : decide ((L.length : Int) < k.need) with
        | true =>
          have hck : Hid (kCheck k n root L = 8) := by show _ = _; rw [HCK.out, if_pos (of_decide_eq_true hlt)]
          have HF1 := Lib.hid (fun (w' : World) (hS : Kept (fun _ => False) w5 w') => ipost_is hck.out (f_check (.slice pa k.parts.length pc) (.slice wa k.wits.length wcp) (.slice av L.length cv) k n PA root L w' (HL0.out.kept (K_5.out.trans hS)) (HK0.out.kept (K_5.out.trans hS)) P5.out (HS5.out.kept hS)))
          have hge : decide (k.need ≤ (L.length : Int)) = false := decide_eq_false (by have := of_decide_eq_true hlt; omega)
          refine wp_region_held_drew (S := fun w' => Kept (fun _ => False) w5 w') (by kernel_rfl) ((Kept.refl (fun _ => False) w5).drew) (fun hHeld => ?_)
          refine wpAnyH_take (i := 0) (oi := ⟨some 76, _, _, _, _, _⟩) (v := .agg #[.slice pa k.parts.length pc, .slice wa k.wits.length wcp, .int .i64 k.need]) rfl (by kernel_rfl) (by kernel_rfl) (by kernel_rfl) (fun _ _ _ h => h) (Or.inl ⟨by kernel_rfl, fun w' hS => by have c0 := row_cell (k := 0) (hS.row G1_5.out) rfl; have c1 := row_cell (k := 1) (hS.row G1_5.out) rfl; have c2 := row_cell (k := 2) (hS.row G1_5.out) rfl; go_simp⟩) (by assumption) ?_
          try simp only [Act.put, List.setIfInBounds_toArray, List.set_cons_succ, List.set_cons_zero]
          refine wpAnyH_take (i := 1) (oi := ⟨some 77, _, _, _, _, _⟩) (v := .agg PA) rfl (by kernel_rfl) (by kernel_rfl) (by kernel_rfl) (fun _ _ _ h => h) (yields40 (g := B) (o := 0) (C := PA) (by kernel_rfl) rfl (fun w' hS => range_row (hS.row Y5.out)) hp5.out) (by assumption) ?_
          try simp only [Act.put, List.setIfInBounds_toArray, List.set_cons_succ, List.set_cons_zero]
          refine wpAnyH_take (i := 4) (oi := ⟨some 80, _, _, _, _, _⟩) (v := .int .i64 (L.length : Int)) rfl (by kernel_rfl) (by kernel_rfl) (by kernel_rfl) (fun _ _ _ h => h) (Or.inl ⟨by kernel_rfl, fun w' hS => by go_simp⟩) (by assumption) ?_
          try simp only [Act.put, List.setIfInBounds_toArray, List.set_cons_succ, List.set_cons_zero]
          refine wpAnyH_take (i := 5) (oi := ⟨some 81, _, _, _, _, _⟩) (v := .pointer (some ⟨w.heap.size, 2, none⟩)) rfl (by kernel_rfl) (by kernel_rfl) (by kernel_rfl) (fun _ _ _ h => h) (Or.inl ⟨by kernel_rfl, fun w' hS => by go_simp⟩) (by assumption) ?_
          try simp only [Act.put, List.setIfInBounds_toArray, List.set_cons_succ, List.set_cons_zero]
          refine wpAnyH_take (i := 6) (oi := ⟨some 82, _, _, _, _, _⟩) (v := .int .i64 (k.need)) rfl (by kernel_rfl) (by kernel_rfl) (by kernel_rfl) (fun _ _ _ h => h) (Or.inl ⟨by kernel_rfl, fun w' hS => by have c2 := row_cell (k := 2) (hS.row G1_5.out) rfl; go_simp⟩) (by assumption) ?_
          try simp only [Act.put, List.setIfInBounds_toArray, List.set_cons_succ, List.set_cons_zero]
          refine wpAnyH_take (i := 7) (oi := ⟨some 83, _, _, _, _, _⟩) (v := .bool false) rfl (by kernel_rfl) (by kernel_rfl) (by kernel_rfl) (fun _ _ _ h => h) (Or.inl ⟨by kernel_rfl, fun w' hS => by go_simp⟩) (by assumption) ?_
          try simp only [Act.put, List.setIfInBounds_toArray, List.set_cons_succ, List.set_cons_zero]
          refine wpAnyH_ready (rs := [2]) (by kernel_rfl) (by simp) ?_
          refine AllReadyH.cons (o := _) rfl (fun K hK => ?_) AllReadyH.nil
          go_simp
          refine (HF1.out _ (by assumption)).mono ?_
          rintro e w6 ⟨rfl, kx1⟩
          have hS1 : Kept (fun _ => False) w5 w6 := Kept.trans (by assumption) kx1
          clear kx1 hHeld
          go_wp2_with fail
          refine hK.out _ _ hS1 (fun hHeld => ?_)
          clear hK K
          try simp only [Act.put, List.setIfInBounds_toArray, List.set_cons_succ, List.set_cons_zero]
          refine wpAnyH_take (i := 3) (oi := ⟨some 79, _, _, _, _, _⟩) (v := .bool false) rfl (by kernel_rfl) (by kernel_rfl) (by kernel_rfl) (fun _ _ _ h => h) (Or.inl ⟨by kernel_rfl, fun w' hS => by go_simp⟩) (by assumption) ?_
          try simp only [Act.put, List.setIfInBounds_toArray, List.set_cons_succ, List.set_cons_zero]
          refine wpAnyH_take (i := 8) (oi := ⟨some 84, _, _, _, _, _⟩) (v := .bool false) rfl (by kernel_rfl) (by kernel_rfl) (by kernel_rfl) (fun _ _ _ h => h) (Or.inl ⟨by kernel_rfl, fun w' hS => by go_simp⟩) (by assumption) ?_
          try simp only [Act.put, List.setIfInBounds_toArray, List.set_cons_succ, List.set_cons_zero]
          refine wpAnyH_done (by kernel_rfl) ?_ _
          have K_6 := Lib.hid (K_5.out.trans hS1)
          have G1_6 := Lib.hid (hS1.row G1_5.out)
          have Y6 := Lib.hid (hS1.row Y5.out)
          have HB6 := Lib.hid (HB5.out.kept hS1 (fun _ _ h => h))
          have HW6 : Hid (w4.heap.size ≤ w6.heap.size) := Nat.le_trans HW5.out hS1.size
          clear hS1 hck HF1 hge hHeld
          clear hlt K_5 G1_5 Y5 HB5 HS5 HW5
          by_cases h0 : L.length = 0
          · have z0 : (L.length : Int) = 0 := by omega
            have hz0 : decide ((L.length : Int) = 0) = true := decide_eq_true z0
            go_wp2_with fail
            go_ret
            exact BPost.mk rfl K_6.out
          have z0 : ¬ (L.length : Int) = 0 := by omega
          have hz0 : decide ((L.length : Int) = 0) = false := decide_eq_false z0
          obtain ⟨s, T, rfl⟩ : ∃ s T, L = s :: T := by
            cases L with
            | nil => simp at h0
            | cons s T => exact ⟨s, T, rfl⟩
          obtain ⟨g, hav⟩ : ∃ g, av = some ⟨g, 0, none⟩ := buf_some HB6.out (by simp)
          subst hav
          have hs32 := Lib.hid (HEA.out s (by simp)).1
          have HSK := Lib.hid (HSK0.out s (by simp))
          have hs33 : Hid ((sigC s).toArray.size = 33) := by show _ = _; simp [sigC_len hs32.out]
          have HRG := Lib.hid (buf_head HB6.out hs32.out)
          have HFB := Lib.hid (buf_cut HB6.out)
          have hgw := (HB6.out.lt g rfl)
          have HGW := Lib.hid hgw.2
          clear h0
          go_upto_region 22 with fail
          clear z0 hz0
          obtain ⟨N, hN⟩ : ∃ N, N = (s :: T).length := ⟨_, rfl⟩
          have hN0 : 0 < N := by rw [hN]; simp
          rw [← hN] at HB6 hne hle HCK HFB ⊢
          have hlp : (0 : Int) < (N : Int) := by omega
          have hlp0 : (0 : Int) ≤ (N : Int) := by omega
          have hlc : (N : Int) ≤ (cv : Int) := by obtain ⟨_, _, _, h, _⟩ := buf_row HB6.out; omega
          have hl4 : N ≤ 4 := Nat.le_trans hne HWS.out.2.1
          have HN := Lib.hid hN
          clear hN
          have HLP := Lib.hid hlp
          have HL4 := Lib.hid hl4
          have hgB := HBB.out
          have HGB : Hid (g ≠ B) := by show _ ≠ _; omega
          have HGB2 : Hid (w.heap.size ≠ B) := by show _ ≠ _; omega
          clear hl4 hne hle
          have kd := (Kept.refl (fun _ => False) w6).drew
          have Y7 := Lib.hid (kd.row Y6.out)
          have HB7 := Lib.hid (HFB.out.kept kd (fun _ _ h => h))
          have HW7 : Hid (w4.heap.size ≤ w6.drew.heap.size) := HW6.out
          refine wp_region_held_drew (S := fun w' => Kept (fun i => i = B) w6 w') (by kernel_rfl) ((Kept.refl (fun i => i = B) w6).drew) (fun hHeld => ?_)
          clear kd
          generalize w6.drew = w7 at *
          refine wpAnyH_take (i := 0) (oi := ⟨some 87, _, _, _, _, _⟩) (v := .slice (some ⟨g, 0, none⟩) N cv) rfl (by kernel_rfl) (by kernel_rfl) (by kernel_rfl) (fun _ _ _ h => h) (Or.inl ⟨by kernel_rfl, fun w' hS => by go_simp⟩) (by assumption) ?_
          try simp only [Act.put, List.setIfInBounds_toArray, List.set_cons_succ, List.set_cons_zero]
          refine wpAnyH_take (i := 1) (oi := ⟨some 88, _, _, _, _, _⟩) (v := .slice (some ⟨g, 0, none⟩) N cv) rfl (by kernel_rfl) (by kernel_rfl) (by kernel_rfl) (fun _ _ _ h => h) (Or.inl ⟨by kernel_rfl, fun w' hS => by go_simp⟩) (by assumption) ?_
          try simp only [Act.put, List.setIfInBounds_toArray, List.set_cons_succ, List.set_cons_zero]
          refine wpAnyH_take (i := 2) (oi := ⟨some 89, _, _, _, _, _⟩) (v := .int .i64 (N : Int)) rfl (by kernel_rfl) (by kernel_rfl) (by kernel_rfl) (fun _ _ _ h => h) (Or.inl ⟨by kernel_rfl, fun w' hS => by go_simp⟩) (by assumption) ?_
          try simp only [Act.put, List.setIfInBounds_toArray, List.set_cons_succ, List.set_cons_zero]
          refine wpAnyH_take (i := 3) (oi := ⟨some 90, _, _, _, _, _⟩) (v := .slice (some ⟨g, 0, none⟩) N cv) rfl (by kernel_rfl) (by kernel_rfl) (by kernel_rfl) (fun _ _ _ h => h) (Or.inl ⟨by kernel_rfl, fun w' hS => by go_simp⟩) (by assumption) ?_
          try simp only [Act.put, List.setIfInBounds_toArray, List.set_cons_succ, List.set_cons_zero]
          refine wpAnyH_take (i := 4) (oi := ⟨some 91, _, _, _, _, _⟩) (v := .int .i64 (N : Int)) rfl (by kernel_rfl) (by kernel_rfl) (by kernel_rfl) (fun _ _ _ h => h) (Or.inl ⟨by kernel_rfl, fun w' hS => by go_simp⟩) (by assumption) ?_
          try simp only [Act.put, List.setIfInBounds_toArray, List.set_cons_succ, List.set_cons_zero]
          refine wpAnyH_take (i := 5) (oi := ⟨some 92, _, _, _, _, _⟩) (v := .slice (some ⟨g, 0, none⟩) N N) rfl (by kernel_rfl) (by kernel_rfl) (by kernel_rfl) (fun _ _ _ h => h) (Or.inl ⟨by kernel_rfl, fun w' hS => by go_simp⟩) (by assumption) ?_
          try simp only [Act.put, List.setIfInBounds_toArray, List.set_cons_succ, List.set_cons_zero]
          refine wpAnyH_take (i := 6) (oi := ⟨some 93, _, _, _, _, _⟩) (v := .slice (some ⟨g, 0, none⟩) N cv) rfl (by kernel_rfl) (by kernel_rfl) (by kernel_rfl) (fun _ _ _ h => h) (Or.inl ⟨by kernel_rfl, fun w' hS => by go_simp⟩) (by assumption) ?_
          try simp only [Act.put, List.setIfInBounds_toArray, List.set_cons_succ, List.set_cons_zero]
          refine wpAnyH_take (i := 7) (oi := ⟨some 94, _, _, _, _, _⟩) (v := .pointer (some ⟨g, 0, none⟩)) rfl (by kernel_rfl) (by kernel_rfl) (by kernel_rfl) (fun _ _ _ h => h) (Or.inl ⟨by kernel_rfl, fun w' hS => by go_simp⟩) (by assumption) ?_
          try simp only [Act.put, List.setIfInBounds_toArray, List.set_cons_succ, List.set_cons_zero]
          refine wpAnyH_take (i := 8) (oi := ⟨some 95, _, _, _, _, _⟩) (v := .agg (sigC s).toArray) rfl (by kernel_rfl) (by kernel_rfl) (by kernel_rfl) (fun _ _ _ h => h) (yields49 (g := g) (o := 0) (C := (sigC s).toArray) (by kernel_rfl) rfl (fun w' hS => range_keptS hS HGB.out HGW.out HRG.out) hs33.out) (by assumption) ?_
          try simp only [Act.put, List.setIfInBounds_toArray, List.set_cons_succ, List.set_cons_zero]
          refine wpAnyH_ready (rs := [9]) (by kernel_rfl) (by simp) ?_
          refine AllReadyH.cons (o := _) rfl (fun K hK => ?_) AllReadyH.nil
          have KH9 := Lib.hid hHeld
          clear hHeld
          refine step_slice38 (C := (sigC s).toArray) rfl hs33.out ?_
          have k8 := (Kept.refl (fun _ => False) w7).alloc (.cells (sigC s).toArray 49)
          have hS9 : Kept (fun i => i = B) w6 (w7.alloc (.cells (sigC s).toArray 49)) := KH9.out.alloc _
          have HSC := Lib.hid (sig_src (heap_alloc_new w7 (.cells (sigC s).toArray 49)) hs32.out)
          have Y8 := Lib.hid (k8.row Y7.out)
          have HB8 := Lib.hid (HB7.out.kept k8 (fun _ _ h => h))
          have HW8 : Hid (w4.heap.size ≤ (w7.alloc (.cells (sigC s).toArray 49)).heap.size) := Nat.le_trans HW7.out k8.size
          clear k8 Y7 HB7 HW7 KH9
          refine hK.out _ _ hS9 (fun hHeld => ?_)
          clear hK K
          try simp only [Act.put, List.setIfInBounds_toArray, List.set_cons_succ, List.set_cons_zero]
          generalize w7.alloc (.cells (sigC s).toArray 49) = w8 at *
          generalize w7.heap.size = B8 at *
          refine wpAnyH_ready (rs := [10]) (by kernel_rfl) (by simp) ?_
          refine AllReadyH.cons (o := _) rfl (fun K hK => ?_) AllReadyH.nil
          obtain ⟨hi, hsz, hby, hz⟩ := HI.out
          have hl4 := HL4.out
          refine step_append_full rfl (.tmp 92) (.tmp 96) 38 38 rfl w4.heap.size 49 i49 (.agg Z49z) 33 40 Tryd.underlying38 hi hz hsz hby rfl g N N ((s :: T).flatMap sigC) rfl HB8.out (.slice (some ⟨B8, 0, none⟩) 1 1) 1 (sigC s) rfl HSC.out (by omega) (by unfold maxLen; omega) (by omega) HW8.out ?_
          intro v9 w9 hb9 k9 ho9
          show K (Act.put _ (some 97) v9) w9
          have hS10 : Kept (fun i => i = B) w6 w9 := hS9.trans (k9.mono (fun _ _ h => h.elim))
          have Y9 := Lib.hid (k9.row Y8.out)
          have HB9 := Lib.hid hb9
          have HO9 : Hid (∀ q, v9.ownBlock = some q → w8.heap.size ≤ q) := fun q e => by rw [ho9] at e; simp only [Option.some.injEq] at e; omega
          have HBW : Hid (B < w8.heap.size) := row_lt Y8.out
          clear hi hsz hby hz hl4 hb9 k9 ho9 HSC Y8 HB8 HW8 hS9
          refine hK.out _ _ hS10 (fun hHeld => ?_)
          clear hK K
          try simp only [Act.put, List.setIfInBounds_toArray, List.set_cons_succ, List.set_cons_zero]
          refine wpAnyH_take (i := 11) (oi := ⟨some 98, _, _, _, _, _⟩) (v := .pointer (some ⟨B, 33, none⟩)) rfl (by kernel_rfl) (by kernel_rfl) (by kernel_rfl) (fun _ _ _ h => h) (Or.inl ⟨by kernel_rfl, fun w' hS => by go_simp⟩) (by assumption) ?_
          try simp only [Act.put, List.setIfInBounds_toArray, List.set_cons_succ, List.set_cons_zero]
          refine wpAnyH_ready (rs := [12]) (by kernel_rfl) (by simp) ?_
          refine AllReadyH.cons (o := _) rfl (fun K hK => ?_) AllReadyH.nil
          have hv9 : v9.oneCell' = true := by obtain ⟨_, _, e, _⟩ := HB9.out.form; rw [e]; rfl
          have KH10 := Lib.hid hS10
          clear hHeld hS10
          refine step_put (v := v9) (g := B) (o := 33) (C := PA) (T := 40) (by kernel_rfl) rfl rfl hv9 Tryd.isz38 Y9.out (by rw [hp5.out]; decide) ?_
          intro wn yn kn
          have hS12 : Kept (fun i => i = B) w6 wn := KH10.out.trans kn
          rw [← hPA, ptA_set HR.out] at yn
          have Yn := Lib.hid yn
          have HBn := Lib.hid (HB9.out.kept kn (fun q e h => by have := HO9.out q e; have := HBW.out; omega))
          clear kn yn Y9 HB9 HO9 HBW
          refine hK.out _ _ hS12 (fun hHeld => ?_)
          clear hK K
          try simp only [Act.put, List.setIfInBounds_toArray, List.set_cons_succ, List.set_cons_zero]
          refine wpAnyH_done (by kernel_rfl) ?_ _
          have K_n := Lib.hid (K_6.out.trans' hS12 (fun i hi e => by omega))
          have G1_n := Lib.hid (hS12.rowS HGB2.out G1_6.out)
          have HBL := Lib.hid (HB6.out.kept hS12 (fun i e h => by have e' : some g = some i := e; simp only [Option.some.injEq] at e'; have := HGB.out; omega))
          have HWn : Hid (w4.heap.size ≤ wn.heap.size) := Nat.le_trans HW6.out hS12.size
          have HEA2 := Lib.hid (sigs_snoc HEA.out)
          have HSn := Lib.hid (HSigs.of_buf (l := s :: T ++ [s]) (by rw [List.length_append, ← HN.out, List.flatMap_append, flat_one]; exact HBn.out) HEA2.out (by have h1 := HL4.out; have h2 := HN.out; rw [List.length_append, ← h2]; simp; omega))
          have hck : Hid (kCheck k n root (s :: T ++ [s]) = 8) := check_bad HMM.out HN0.out HN4.out (goodS_twice HWS.out.2.1 s T)
          have Pn := Lib.hid (HP.out v9 hv9)
          have hpn := Lib.hid Pn.out.size
          have HF := Lib.hid (ipost_is hck.out (f_check (.slice pa k.parts.length pc) (.slice wa k.wits.length wcp) v9 k n (ptA n root v9) root (s :: T ++ [s]) wn (HL0.out.kept K_n.out) (HK0.out.kept K_n.out) Pn.out HSn.out))
          clear hS12 hHeld K_6 G1_6 Y6 HB6 HW6 HFB HRG HGW hgw KH10 HBn HSn hck HEA2
          have c0 := row_cell (k := 0) G1_n.out rfl
          have c1 := row_cell (k := 1) G1_n.out rfl
          have c2 := row_cell (k := 2) G1_n.out rfl
          go_wp2_with (first | fail | ((with_reducible refine load40 (C := ptA n root v9) (g := B) (o := 0) ?_ (range_row Yn.out) hpn.out ?_); rfl))
          refine HF.out.mono ?_
          rintro e wo ⟨rfl, ko⟩
          clear HF c0 c1 c2
          have K_o := Lib.hid (K_n.out.trans ko)
          have G1_o := Lib.hid (ko.row G1_n.out)
          have Y_o := Lib.hid (ko.row Yn.out)
          have HBo := Lib.hid (HBL.out.kept ko (fun _ _ h => h))
          have HWo : Hid (w4.heap.size ≤ wo.heap.size) := Nat.le_trans HWn.out ko.size
          clear ko K_n G1_n Yn HBL HWn
          have kp := (Kept.refl (fun _ => False) wo).alloc (.cells #[] 49)
          have HE : Hid (Buf (wo.alloc (.cells #[] 49)) w4.heap.size 49 33 (.slice (some ⟨wo.heap.size, 0, none⟩) 0 0) 0 []) := ⟨rfl, .inr ⟨wo.heap.size, 0, #[], rfl, HWo.out, heap_alloc_new wo _, Nat.le_refl _, by decide, by simp, rfl⟩⟩
          have HX := Lib.hid ((HBo.out.kept kp (fun _ _ h => h)).src Tryd.underlying38 (fun u hu => sigs_one _ u hu))
          have HWp : Hid (w4.heap.size ≤ (wo.alloc (.cells #[] 49)).heap.size) := Nat.le_trans HWo.out kp.size
          have Yp := Lib.hid (kp.row Y_o.out)
          have K_p := Lib.hid (K_o.out.trans kp)
          have G1_p := Lib.hid (kp.row G1_o.out)
          have HBWo : Hid (B < wo.heap.size) := row_lt Y_o.out
          have HGWo : Hid (w.heap.size < wo.heap.size) := row_lt G1_o.out
          obtain ⟨hi, hsz, hby, hz⟩ := HI.out
          have hl4 := HL4.out
          clear kp
          go_upto_region 26 with (first | fail | (at_builtin; refine wpList_append_buf _ rfl (.tmp 103) (.tmp 104) 38 38 rfl w4.heap.size 49 i49 (.agg Z49z) 33 40 Tryd.underlying38 hi hz hsz hby rfl (by decide) _ _ _ rfl HE.out _ _ _ rfl HX.out (by unfold maxLen; omega) (by omega) HWp.out ?_; intro v' w' hb' hg' ho' hn'; rw [Nat.zero_add, List.nil_append] at hb'; have HBq := Lib.hid hb'; obtain ⟨aq, cq, rfl, -⟩ := hb'.form; have HGq := Lib.hid hg'; have Yq := Lib.hid ((hg'.block B (row_lt Yp.out) (fun e => by have e' : some B = some wo.heap.size := e; simp only [Option.some.injEq] at e'; have := HBWo.out; omega)).trans Yp.out); have cp := row_cell Yq.out (HP.out v9 hv9).c33; have fp := free_of_block (j := 33) Yq.out; clear hb' hg' ho' hn' hi hsz hby hz))
          clear cp fp hl4
          have KQ := Lib.hid (K_p.out.grown HGq.out (fun i hi => by have hi' : some wo.heap.size = some i := hi; simp only [Option.some.injEq] at hi'; have := HGWo.out; exact .inr (by omega)))
          have G1_q := Lib.hid ((HGq.out.block w.heap.size (row_lt G1_p.out) (fun e => by have e' : some w.heap.size = some wo.heap.size := e; simp only [Option.some.injEq] at e'; have := HGWo.out; omega)).trans G1_p.out)
          have kr := (Kept.refl (fun i => i = B) w').setCell (p := ⟨B, 33, none⟩) (.inl rfl) (.slice aq N cq)
          have HB_r := Lib.hid (HBq.out.kept kr (fun i e h => by have := (HBq.out.lt i e).1; have := HBB.out; omega))
          have G1_r := Lib.hid (kr.rowS HGB2.out G1_q.out)
          have yr := setCell_block Yq.out (k := 33) (.slice aq N cq)
          rw [ptA_set HR.out] at yr
          have Y_r := Lib.hid yr
          have K_r := Lib.hid (KQ.out.setCell (p := ⟨B, 33, none⟩) (.inr hB) (.slice aq N cq))
          generalize w'.setCell ⟨B, 33, none⟩ (.slice aq N cq) = wr2 at *
          clear kr yr HBq HGq Yq G1_q KQ HE HX HWp Yp K_p G1_p HBo HWo K_o G1_o Y_o HBWo HGWo
          obtain ⟨g2, hav2⟩ : ∃ g, aq = some ⟨g, 0, none⟩ := buf_some HB_r.out (by have := HLP.out; omega)
          subst hav2
          obtain ⟨cur, hcur, hg2b, hNc, hcm, hcs, hct⟩ := buf_row HB_r.out
          have HCUR := Lib.hid hcur
          have HCT := Lib.hid hct
          have HCS := Lib.hid hcs
          have HNC := Lib.hid hNc
          have HG2 : Hid (g2 ≠ B) := by show _ ≠ _; have := HBB.out; omega
          have HG2w : Hid (w.heap.size < g2) := by show _ < _; have := HBB.out; omega
          clear hcs hNc hcm hct hg2b HB_r
          have cB := row_cell Y_r.out (HP.out (.slice (some ⟨g2, 0, none⟩) N cq) rfl).c33
          have c21 := row_cell hcur (cur_first HCT.out HN.out hs32.out)
          have f21 := free_of_block (j := 1) hcur
          have ht0 := Lib.hid ((HEA.out s (by simp)).2.1.getD 0)
          generalize hT0 : s.2.getD 0 0 = t0 at *
          have htw : IntKind.u8.wrap ((t0 : Int) + 1) = (((t0 + 1) % 256 : Nat) : Int) := i_u8s ht0.out
          have hlp := HLP.out
          clear hcur
          go_region
          have es : (((t0 : Int) + 1) % 256) = (((t0 + 1) % 256 : Nat) : Int) := by omega
          rw [es]
          clear es cB c21 f21 htw hlp
          have ks := ((Kept.refl (fun i => i = g2) wr2).setCell (p := ⟨g2, 1, none⟩) (.inl rfl) (.int .u8 (((t0 + 1) % 256 : Nat) : Int))).drew
          have gs : ((wr2.setCell ⟨g2, 1, none⟩ (.int .u8 (((t0 + 1) % 256 : Nat) : Int))).drew).heap[g2]? = some (.cells (cur.setIfInBounds 1 (.int .u8 (((t0 + 1) % 256 : Nat) : Int))) 49 (0, 0)) := setCell_block HCUR.out _
          have Ys := Lib.hid (ks.rowS (fun e => HG2.out e.symm) Y_r.out)
          have G1_s := Lib.hid (ks.rowS (by have := HG2w.out; omega) G1_r.out)
          have K_s := Lib.hid (((K_r.out.setCell (p := ⟨g2, 1, none⟩) (.inr (by have := HG2w.out; show _ ≤ g2; omega)) (.int .u8 (((t0 + 1) % 256 : Nat) : Int)))).drew)
          generalize ((wr2.setCell ⟨g2, 1, none⟩ (.int .u8 (((t0 + 1) % 256 : Nat) : Int))).drew) = ws at *
          have hs0 := HEA.out s (by simp)
          have HBP := Lib.hid (cur_bump HCT.out HN.out hs32.out hT0)
          have HS9 := HSigs.of_block (l := (s.1, bump s.2) :: T) (c := cq) gs (by rw [List.length_cons, show T.length + 1 = N by rw [HN.out]; rfl]; exact HBP.out) (by rw [List.length_cons, show T.length + 1 = N by rw [HN.out]; rfl, Array.size_setIfInBounds]; exact Nat.le_trans (Nat.mul_le_mul_right _ HNC.out) HCS.out) (fun u hu => by
            rcases List.mem_cons.1 hu with rfl | hu
            · exact ⟨by rw [bump_len]; exact hs0.1, bump_all hs0.2.1, hs0.2.2⟩
            · exact HEA.out u (by simp [hu])) (by rw [List.length_cons, show T.length + 1 = N by rw [HN.out]; rfl]; have := HL4.out; omega)
          rw [List.length_cons, show T.length + 1 = N by rw [HN.out]; rfl] at HS9
          have hck : Hid (kCheck k n root ((s.1, bump s.2) :: T) = 8) := check_bad HMM.out HN0.out HN4.out (goodS_other _ _ _ _ (by
            have e := HSK.out
            rw [e]; exact bump_ne hs0.1 hs0.2.1))
          have Pn := Lib.hid (HP.out (.slice (some ⟨g2, 0, none⟩) N cq) rfl)
          have hpn := Lib.hid Pn.out.size
          have HF := Lib.hid (ipost_is hck.out (f_check (.slice pa k.parts.length pc) (.slice wa k.wits.length wcp) (.slice (some ⟨g2, 0, none⟩) N cq) k n (ptA n root (.slice (some ⟨g2, 0, none⟩) N cq)) root ((s.1, bump s.2) :: T) ws (HL0.out.kept K_s.out) (HK0.out.kept K_s.out) Pn.out HS9))
          clear ks gs HBP HS9 hck hs0
          have c0 := row_cell (k := 0) G1_s.out rfl
          have c1 := row_cell (k := 1) G1_s.out rfl
          have c2 := row_cell (k := 2) G1_s.out rfl
          go_wp2_with (first | fail | ((with_reducible refine load40 (C := ptA n root (.slice (some ⟨g2, 0, none⟩) N cq)) (g := B) (o := 0) ?_ (range_row Ys.out) hpn.out ?_); rfl))
          refine HF.out.mono ?_
          rintro e wt ⟨rfl, kt⟩
          go_wp2_with fail
          go_ret
          exact BPost.mk rfl (K_s.out.trans kt)
        | false =>
          have hck : Hid (kCheck k n root L = 0) := by show _ = _; rw [HCK.out, if_neg (of_decide_eq_false hlt)]
          have HF1 := Lib.hid (fun (w' : World) (hS : Kept (fun _ => False) w5 w') => ipost_is hck.out (f_check (.slice pa k.parts.length pc) (.slice wa k.wits.length wcp) (.slice av L.length cv) k n PA root L w' (HL0.out.kept (K_5.out.trans hS)) (HK0.out.kept (K_5.out.trans hS)) P5.out (HS5.out.kept hS)))
          have hge : decide (k.need ≤ (L.length : Int)) = true := decide_eq_true (by have := of_decide_eq_false hlt; omega)
          refine wp_region_held_drew (S := fun w' => Kept (fun _ => False) w5 w') (by kernel_rfl) ((Kept.refl (fun _ => False) w5).drew) (fun hHeld => ?_)
          refine wpAnyH_take (i := 0) (oi := ⟨some 76, _, _, _, _, _⟩) (v := .agg #[.slice pa k.parts.length pc, .slice wa k.wits.length wcp, .int .i64 k.need]) rfl (by kernel_rfl) (by kernel_rfl) (by kernel_rfl) (fun _ _ _ h => h) (Or.inl ⟨by kernel_rfl, fun w' hS => by have c0 := row_cell (k := 0) (hS.row G1_5.out) rfl; have c1 := row_cell (k := 1) (hS.row G1_5.out) rfl; have c2 := row_cell (k := 2) (hS.row G1_5.out) rfl; go_simp⟩) (by assumption) ?_
          try simp only [Act.put, List.setIfInBounds_toArray, List.set_cons_succ, List.set_cons_zero]
          refine wpAnyH_take (i := 1) (oi := ⟨some 77, _, _, _, _, _⟩) (v := .agg PA) rfl (by kernel_rfl) (by kernel_rfl) (by kernel_rfl) (fun _ _ _ h => h) (yields40 (g := B) (o := 0) (C := PA) (by kernel_rfl) rfl (fun w' hS => range_row (hS.row Y5.out)) hp5.out) (by assumption) ?_
          try simp only [Act.put, List.setIfInBounds_toArray, List.set_cons_succ, List.set_cons_zero]
          refine wpAnyH_take (i := 4) (oi := ⟨some 80, _, _, _, _, _⟩) (v := .int .i64 (L.length : Int)) rfl (by kernel_rfl) (by kernel_rfl) (by kernel_rfl) (fun _ _ _ h => h) (Or.inl ⟨by kernel_rfl, fun w' hS => by go_simp⟩) (by assumption) ?_
          try simp only [Act.put, List.setIfInBounds_toArray, List.set_cons_succ, List.set_cons_zero]
          refine wpAnyH_take (i := 5) (oi := ⟨some 81, _, _, _, _, _⟩) (v := .pointer (some ⟨w.heap.size, 2, none⟩)) rfl (by kernel_rfl) (by kernel_rfl) (by kernel_rfl) (fun _ _ _ h => h) (Or.inl ⟨by kernel_rfl, fun w' hS => by go_simp⟩) (by assumption) ?_
          try simp only [Act.put, List.setIfInBounds_toArray, List.set_cons_succ, List.set_cons_zero]
          refine wpAnyH_take (i := 6) (oi := ⟨some 82, _, _, _, _, _⟩) (v := .int .i64 (k.need)) rfl (by kernel_rfl) (by kernel_rfl) (by kernel_rfl) (fun _ _ _ h => h) (Or.inl ⟨by kernel_rfl, fun w' hS => by have c2 := row_cell (k := 2) (hS.row G1_5.out) rfl; go_simp⟩) (by assumption) ?_
          try simp only [Act.put, List.setIfInBounds_toArray, List.set_cons_succ, List.set_cons_zero]
          refine wpAnyH_take (i := 7) (oi := ⟨some 83, _, _, _, _, _⟩) (v := .bool true) rfl (by kernel_rfl) (by kernel_rfl) (by kernel_rfl) (fun _ _ _ h => h) (Or.inl ⟨by kernel_rfl, fun w' hS => by go_simp⟩) (by assumption) ?_
          try simp only [Act.put, List.setIfInBounds_toArray, List.set_cons_succ, List.set_cons_zero]
          refine wpAnyH_ready (rs := [2]) (by kernel_rfl) (by simp) ?_
          refine AllReadyH.cons (o := _) rfl (fun K hK => ?_) AllReadyH.nil
          go_simp
          refine (HF1.out _ (by assumption)).mono ?_
          rintro e w6 ⟨rfl, kx1⟩
          have hS1 : Kept (fun _ => False) w5 w6 := Kept.trans (by assumption) kx1
          clear kx1 hHeld
          go_wp2_with fail
          refine hK.out _ _ hS1 (fun hHeld => ?_)
          clear hK K
          try simp only [Act.put, List.setIfInBounds_toArray, List.set_cons_succ, List.set_cons_zero]
          refine wpAnyH_take (i := 3) (oi := ⟨some 79, _, _, _, _, _⟩) (v := .bool true) rfl (by kernel_rfl) (by kernel_rfl) (by kernel_rfl) (fun _ _ _ h => h) (Or.inl ⟨by kernel_rfl, fun w' hS => by go_simp⟩) (by assumption) ?_
          try simp only [Act.put, List.setIfInBounds_toArray, List.set_cons_succ, List.set_cons_zero]
          refine wpAnyH_take (i := 8) (oi := ⟨some 84, _, _, _, _, _⟩) (v := .bool false) rfl (by kernel_rfl) (by kernel_rfl) (by kernel_rfl) (fun _ _ _ h => h) (Or.inl ⟨by kernel_rfl, fun w' hS => by go_simp⟩) (by assumption) ?_
          try simp only [Act.put, List.setIfInBounds_toArray, List.set_cons_succ, List.set_cons_zero]
          refine wpAnyH_done (by kernel_rfl) ?_ _
          have K_6 := Lib.hid (K_5.out.trans hS1)
          have G1_6 := Lib.hid (hS1.row G1_5.out)
          have Y6 := Lib.hid (hS1.row Y5.out)
          have HB6 := Lib.hid (HB5.out.kept hS1 (fun _ _ h => h))
          have HW6 : Hid (w4.heap.size ≤ w6.heap.size) := Nat.le_trans HW5.out hS1.size
          clear hS1 hck HF1 hge hHeld
          clear hlt K_5 G1_5 Y5 HB5 HS5 HW5
          by_cases h0 : L.length = 0
          · have z0 : (L.length : Int) = 0 := by omega
            have hz0 : decide ((L.length : Int) = 0) = true := decide_eq_true z0
            go_wp2_with fail
            go_ret
            exact BPost.mk rfl K_6.out
          have z0 : ¬ (L.length : Int) = 0 := by omega
          have hz0 : decide ((L.length : Int) = 0) = false := decide_eq_false z0
          obtain ⟨s, T, rfl⟩ : ∃ s T, L = s :: T := by
            cases L with
            | nil => simp at h0
            | cons s T => exact ⟨s, T, rfl⟩
          obtain ⟨g, hav⟩ : ∃ g, av = some ⟨g, 0, none⟩ := buf_some HB6.out (by simp)
          subst hav
          have hs32 := Lib.hid (HEA.out s (by simp)).1
          have HSK := Lib.hid (HSK0.out s (by simp))
          have hs33 : Hid ((sigC s).toArray.size = 33) := by show _ = _; simp [sigC_len hs32.out]
          have HRG := Lib.hid (buf_head HB6.out hs32.out)
          have HFB := Lib.hid (buf_cut HB6.out)
          have hgw := (HB6.out.lt g rfl)
          have HGW := Lib.hid hgw.2
          clear h0
          go_upto_region 22 with fail
          clear z0 hz0
          obtain ⟨N, hN⟩ : ∃ N, N = (s :: T).length := ⟨_, rfl⟩
          have hN0 : 0 < N := by rw [hN]; simp
          rw [← hN] at HB6 hne hle HCK HFB ⊢
          have hlp : (0 : Int) < (N : Int) := by omega
          have hlp0 : (0 : Int) ≤ (N : Int) := by omega
          have hlc : (N : Int) ≤ (cv : Int) := by obtain ⟨_, _, _, h, _⟩ := buf_row HB6.out; omega
          have hl4 : N ≤ 4 := Nat.le_trans hne HWS.out.2.1
          have HN := Lib.hid hN
          clear hN
          have HLP := Lib.hid hlp
          have HL4 := Lib.hid hl4
          have hgB := HBB.out
          have HGB : Hid (g ≠ B) := by show _ ≠ _; omega
          have HGB2 : Hid (w.heap.size ≠ B) := by show _ ≠ _; omega
          clear hl4 hne hle
          have kd := (Kept.refl (fun _ => False) w6).drew
          have Y7 := Lib.hid (kd.row Y6.out)
          have HB7 := Lib.hid (HFB.out.kept kd (fun _ _ h => h))
          have HW7 : Hid (w4.heap.size ≤ w6.drew.heap.size) := HW6.out
          refine wp_region_held_drew (S := fun w' => Kept (fun i => i = B) w6 w') (by kernel_rfl) ((Kept.refl (fun i => i = B) w6).drew) (fun hHeld => ?_)
          clear kd
          generalize w6.drew = w7 at *
          refine wpAnyH_take (i := 0) (oi := ⟨some 87, _, _, _, _, _⟩) (v := .slice (some ⟨g, 0, none⟩) N cv) rfl (by kernel_rfl) (by kernel_rfl) (by kernel_rfl) (fun _ _ _ h => h) (Or.inl ⟨by kernel_rfl, fun w' hS => by go_simp⟩) (by assumption) ?_
          try simp only [Act.put, List.setIfInBounds_toArray, List.set_cons_succ, List.set_cons_zero]
          refine wpAnyH_take (i := 1) (oi := ⟨some 88, _, _, _, _, _⟩) (v := .slice (some ⟨g, 0, none⟩) N cv) rfl (by kernel_rfl) (by kernel_rfl) (by kernel_rfl) (fun _ _ _ h => h) (Or.inl ⟨by kernel_rfl, fun w' hS => by go_simp⟩) (by assumption) ?_
          try simp only [Act.put, List.setIfInBounds_toArray, List.set_cons_succ, List.set_cons_zero]
          refine wpAnyH_take (i := 2) (oi := ⟨some 89, _, _, _, _, _⟩) (v := .int .i64 (N : Int)) rfl (by kernel_rfl) (by kernel_rfl) (by kernel_rfl) (fun _ _ _ h => h) (Or.inl ⟨by kernel_rfl, fun w' hS => by go_simp⟩) (by assumption) ?_
          try simp only [Act.put, List.setIfInBounds_toArray, List.set_cons_succ, List.set_cons_zero]
          refine wpAnyH_take (i := 3) (oi := ⟨some 90, _, _, _, _, _⟩) (v := .slice (some ⟨g, 0, none⟩) N cv) rfl (by kernel_rfl) (by kernel_rfl) (by kernel_rfl) (fun _ _ _ h => h) (Or.inl ⟨by kernel_rfl, fun w' hS => by go_simp⟩) (by assumption) ?_
          try simp only [Act.put, List.setIfInBounds_toArray, List.set_cons_succ, List.set_cons_zero]
          refine wpAnyH_take (i := 4) (oi := ⟨some 91, _, _, _, _, _⟩) (v := .int .i64 (N : Int)) rfl (by kernel_rfl) (by kernel_rfl) (by kernel_rfl) (fun _ _ _ h => h) (Or.inl ⟨by kernel_rfl, fun w' hS => by go_simp⟩) (by assumption) ?_
          try simp only [Act.put, List.setIfInBounds_toArray, List.set_cons_succ, List.set_cons_zero]
          refine wpAnyH_take (i := 5) (oi := ⟨some 92, _, _, _, _, _⟩) (v := .slice (some ⟨g, 0, none⟩) N N) rfl (by kernel_rfl) (by kernel_rfl) (by kernel_rfl) (fun _ _ _ h => h) (Or.inl ⟨by kernel_rfl, fun w' hS => by go_simp⟩) (by assumption) ?_
          try simp only [Act.put, List.setIfInBounds_toArray, List.set_cons_succ, List.set_cons_zero]
          refine wpAnyH_take (i := 6) (oi := ⟨some 93, _, _, _, _, _⟩) (v := .slice (some ⟨g, 0, none⟩) N cv) rfl (by kernel_rfl) (by kernel_rfl) (by kernel_rfl) (fun _ _ _ h => h) (Or.inl ⟨by kernel_rfl, fun w' hS => by go_simp⟩) (by assumption) ?_
          try simp only [Act.put, List.setIfInBounds_toArray, List.set_cons_succ, List.set_cons_zero]
          refine wpAnyH_take (i := 7) (oi := ⟨some 94, _, _, _, _, _⟩) (v := .pointer (some ⟨g, 0, none⟩)) rfl (by kernel_rfl) (by kernel_rfl) (by kernel_rfl) (fun _ _ _ h => h) (Or.inl ⟨by kernel_rfl, fun w' hS => by go_simp⟩) (by assumption) ?_
          try simp only [Act.put, List.setIfInBounds_toArray, List.set_cons_succ, List.set_cons_zero]
          refine wpAnyH_take (i := 8) (oi := ⟨some 95, _, _, _, _, _⟩) (v := .agg (sigC s).toArray) rfl (by kernel_rfl) (by kernel_rfl) (by kernel_rfl) (fun _ _ _ h => h) (yields49 (g := g) (o := 0) (C := (sigC s).toArray) (by kernel_rfl) rfl (fun w' hS => range_keptS hS HGB.out HGW.out HRG.out) hs33.out) (by assumption) ?_
          try simp only [Act.put, List.setIfInBounds_toArray, List.set_cons_succ, List.set_cons_zero]
          refine wpAnyH_ready (rs := [9]) (by kernel_rfl) (by simp) ?_
          refine AllReadyH.cons (o := _) rfl (fun K hK => ?_) AllReadyH.nil
          have KH9 := Lib.hid hHeld
          clear hHeld
          refine step_slice38 (C := (sigC s).toArray) rfl hs33.out ?_
          have k8 := (Kept.refl (fun _ => False) w7).alloc (.cells (sigC s).toArray 49)
          have hS9 : Kept (fun i => i = B) w6 (w7.alloc (.cells (sigC s).toArray 49)) := KH9.out.alloc _
          have HSC := Lib.hid (sig_src (heap_alloc_new w7 (.cells (sigC s).toArray 49)) hs32.out)
          have Y8 := Lib.hid (k8.row Y7.out)
          have HB8 := Lib.hid (HB7.out.kept k8 (fun _ _ h => h))
          have HW8 : Hid (w4.heap.size ≤ (w7.alloc (.cells (sigC s).toArray 49)).heap.size) := Nat.le_trans HW7.out k8.size
          clear k8 Y7 HB7 HW7 KH9
          refine hK.out _ _ hS9 (fun hHeld => ?_)
          clear hK K
          try simp only [Act.put, List.setIfInBounds_toArray, List.set_cons_succ, List.set_cons_zero]
          generalize w7.alloc (.cells (sigC s).toArray 49) = w8 at *
          generalize w7.heap.size = B8 at *
          refine wpAnyH_ready (rs := [10]) (by kernel_rfl) (by simp) ?_
          refine AllReadyH.cons (o := _) rfl (fun K hK => ?_) AllReadyH.nil
          obtain ⟨hi, hsz, hby, hz⟩ := HI.out
          have hl4 := HL4.out
          refine step_append_full rfl (.tmp 92) (.tmp 96) 38 38 rfl w4.heap.size 49 i49 (.agg Z49z) 33 40 Tryd.underlying38 hi hz hsz hby rfl g N N ((s :: T).flatMap sigC) rfl HB8.out (.slice (some ⟨B8, 0, none⟩) 1 1) 1 (sigC s) rfl HSC.out (by omega) (by unfold maxLen; omega) (by omega) HW8.out ?_
          intro v9 w9 hb9 k9 ho9
          show K (Act.put _ (some 97) v9) w9
          have hS10 : Kept (fun i => i = B) w6 w9 := hS9.trans (k9.mono (fun _ _ h => h.elim))
          have Y9 := Lib.hid (k9.row Y8.out)
          have HB9 := Lib.hid hb9
          have HO9 : Hid (∀ q, v9.ownBlock = some q → w8.heap.size ≤ q) := fun q e => by rw [ho9] at e; simp only [Option.some.injEq] at e; omega
          have HBW : Hid (B < w8.heap.size) := row_lt Y8.out
          clear hi hsz hby hz hl4 hb9 k9 ho9 HSC Y8 HB8 HW8 hS9
          refine hK.out _ _ hS10 (fun hHeld => ?_)
          clear hK K
          try simp only [Act.put, List.setIfInBounds_toArray, List.set_cons_succ, List.set_cons_zero]
          refine wpAnyH_take (i := 11) (oi := ⟨some 98, _, _, _, _, _⟩) (v := .pointer (some ⟨B, 33, none⟩)) rfl (by kernel_rfl) (by kernel_rfl) (by kernel_rfl) (fun _ _ _ h => h) (Or.inl ⟨by kernel_rfl, fun w' hS => by go_simp⟩) (by assumption) ?_
          try simp only [Act.put, List.setIfInBounds_toArray, List.set_cons_succ, List.set_cons_zero]
          refine wpAnyH_ready (rs := [12]) (by kernel_rfl) (by simp) ?_
          refine AllReadyH.cons (o := _) rfl (fun K hK => ?_) AllReadyH.nil
          have hv9 : v9.oneCell' = true := by obtain ⟨_, _, e, _⟩ := HB9.out.form; rw [e]; rfl
          have KH10 := Lib.hid hS10
          clear hHeld hS10
          refine step_put (v := v9) (g := B) (o := 33) (C := PA) (T := 40) (by kernel_rfl) rfl rfl hv9 Tryd.isz38 Y9.out (by rw [hp5.out]; decide) ?_
          intro wn yn kn
          have hS12 : Kept (fun i => i = B) w6 wn := KH10.out.trans kn
          rw [← hPA, ptA_set HR.out] at yn
          have Yn := Lib.hid yn
          have HBn := Lib.hid (HB9.out.kept kn (fun q e h => by have := HO9.out q e; have := HBW.out; omega))
          clear kn yn Y9 HB9 HO9 HBW
          refine hK.out _ _ hS12 (fun hHeld => ?_)
          clear hK K
          try simp only [Act.put, List.setIfInBounds_toArray, List.set_cons_succ, List.set_cons_zero]
          refine wpAnyH_done (by kernel_rfl) ?_ _
          have K_n := Lib.hid (K_6.out.trans' hS12 (fun i hi e => by omega))
          have G1_n := Lib.hid (hS12.rowS HGB2.out G1_6.out)
          have HBL := Lib.hid (HB6.out.kept hS12 (fun i e h => by have e' : some g = some i := e; simp only [Option.some.injEq] at e'; have := HGB.out; omega))
          have HWn : Hid (w4.heap.size ≤ wn.heap.size) := Nat.le_trans HW6.out hS12.size
          have HEA2 := Lib.hid (sigs_snoc HEA.out)
          have HSn := Lib.hid (HSigs.of_buf (l := s :: T ++ [s]) (by rw [List.length_append, ← HN.out, List.flatMap_append, flat_one]; exact HBn.out) HEA2.out (by have h1 := HL4.out; have h2 := HN.out; rw [List.length_append, ← h2]; simp; omega))
          have hck : Hid (kCheck k n root (s :: T ++ [s]) = 8) := check_bad HMM.out HN0.out HN4.out (goodS_twice HWS.out.2.1 s T)
          have Pn := Lib.hid (HP.out v9 hv9)
          have hpn := Lib.hid Pn.out.size
          have HF := Lib.hid (ipost_is hck.out (f_check (.slice pa k.parts.length pc) (.slice wa k.wits.length wcp) v9 k n (ptA n root v9) root (s :: T ++ [s]) wn (HL0.out.kept K_n.out) (HK0.out.kept K_n.out) Pn.out HSn.out))
          clear hS12 hHeld K_6 G1_6 Y6 HB6 HW6 HFB HRG HGW hgw KH10 HBn HSn hck HEA2
          have c0 := row_cell (k := 0) G1_n.out rfl
          have c1 := row_cell (k := 1) G1_n.out rfl
          have c2 := row_cell (k := 2) G1_n.out rfl
          go_wp2_with (first | fail | ((with_reducible refine load40 (C := ptA n root v9) (g := B) (o := 0) ?_ (range_row Yn.out) hpn.out ?_); rfl))
          refine HF.out.mono ?_
          rintro e wo ⟨rfl, ko⟩
          clear HF c0 c1 c2
          have K_o := Lib.hid (K_n.out.trans ko)
          have G1_o := Lib.hid (ko.row G1_n.out)
          have Y_o := Lib.hid (ko.row Yn.out)
          have HBo := Lib.hid (HBL.out.kept ko (fun _ _ h => h))
          have HWo : Hid (w4.heap.size ≤ wo.heap.size) := Nat.le_trans HWn.out ko.size
          clear ko K_n G1_n Yn HBL HWn
          have kp := (Kept.refl (fun _ => False) wo).alloc (.cells #[] 49)
          have HE : Hid (Buf (wo.alloc (.cells #[] 49)) w4.heap.size 49 33 (.slice (some ⟨wo.heap.size, 0, none⟩) 0 0) 0 []) := ⟨rfl, .inr ⟨wo.heap.size, 0, #[], rfl, HWo.out, heap_alloc_new wo _, Nat.le_refl _, by decide, by simp, rfl⟩⟩
          have HX := Lib.hid ((HBo.out.kept kp (fun _ _ h => h)).src Tryd.underlying38 (fun u hu => sigs_one _ u hu))
          have HWp : Hid (w4.heap.size ≤ (wo.alloc (.cells #[] 49)).heap.size) := Nat.le_trans HWo.out kp.size
          have Yp := Lib.hid (kp.row Y_o.out)
          have K_p := Lib.hid (K_o.out.trans kp)
          have G1_p := Lib.hid (kp.row G1_o.out)
          have HBWo : Hid (B < wo.heap.size) := row_lt Y_o.out
          have HGWo : Hid (w.heap.size < wo.heap.size) := row_lt G1_o.out
          obtain ⟨hi, hsz, hby, hz⟩ := HI.out
          have hl4 := HL4.out
          clear kp
          go_upto_region 26 with (first | fail | (at_builtin; refine wpList_append_buf _ rfl (.tmp 103) (.tmp 104) 38 38 rfl w4.heap.size 49 i49 (.agg Z49z) 33 40 Tryd.underlying38 hi hz hsz hby rfl (by decide) _ _ _ rfl HE.out _ _ _ rfl HX.out (by unfold maxLen; omega) (by omega) HWp.out ?_; intro v' w' hb' hg' ho' hn'; rw [Nat.zero_add, List.nil_append] at hb'; have HBq := Lib.hid hb'; obtain ⟨aq, cq, rfl, -⟩ := hb'.form; have HGq := Lib.hid hg'; have Yq := Lib.hid ((hg'.block B (row_lt Yp.out) (fun e => by have e' : some B = some wo.heap.size := e; simp only [Option.some.injEq] at e'; have := HBWo.out; omega)).trans Yp.out); have cp := row_cell Yq.out (HP.out v9 hv9).c33; have fp := free_of_block (j := 33) Yq.out; clear hb' hg' ho' hn' hi hsz hby hz))
          clear cp fp hl4
          have KQ := Lib.hid (K_p.out.grown HGq.out (fun i hi => by have hi' : some wo.heap.size = some i := hi; simp only [Option.some.injEq] at hi'; have := HGWo.out; exact .inr (by omega)))
          have G1_q := Lib.hid ((HGq.out.block w.heap.size (row_lt G1_p.out) (fun e => by have e' : some w.heap.size = some wo.heap.size := e; simp only [Option.some.injEq] at e'; have := HGWo.out; omega)).trans G1_p.out)
          have kr := (Kept.refl (fun i => i = B) w').setCell (p := ⟨B, 33, none⟩) (.inl rfl) (.slice aq N cq)
          have HB_r := Lib.hid (HBq.out.kept kr (fun i e h => by have := (HBq.out.lt i e).1; have := HBB.out; omega))
          have G1_r := Lib.hid (kr.rowS HGB2.out G1_q.out)
          have yr := setCell_block Yq.out (k := 33) (.slice aq N cq)
          rw [ptA_set HR.out] at yr
          have Y_r := Lib.hid yr
          have K_r := Lib.hid (KQ.out.setCell (p := ⟨B, 33, none⟩) (.inr hB) (.slice aq N cq))
          generalize w'.setCell ⟨B, 33, none⟩ (.slice aq N cq) = wr2 at *
          clear kr yr HBq HGq Yq G1_q KQ HE HX HWp Yp K_p G1_p HBo HWo K_o G1_o Y_o HBWo HGWo
          obtain ⟨g2, hav2⟩ : ∃ g, aq = some ⟨g, 0, none⟩ := buf_some HB_r.out (by have := HLP.out; omega)
          subst hav2
          obtain ⟨cur, hcur, hg2b, hNc, hcm, hcs, hct⟩ := buf_row HB_r.out
          have HCUR := Lib.hid hcur
          have HCT := Lib.hid hct
          have HCS := Lib.hid hcs
          have HNC := Lib.hid hNc
          have HG2 : Hid (g2 ≠ B) := by show _ ≠ _; have := HBB.out; omega
          have HG2w : Hid (w.heap.size < g2) := by show _ < _; have := HBB.out; omega
          clear hcs hNc hcm hct hg2b HB_r
          have cB := row_cell Y_r.out (HP.out (.slice (some ⟨g2, 0, none⟩) N cq) rfl).c33
          have c21 := row_cell hcur (cur_first HCT.out HN.out hs32.out)
          have f21 := free_of_block (j := 1) hcur
          have ht0 := Lib.hid ((HEA.out s (by simp)).2.1.getD 0)
          generalize hT0 : s.2.getD 0 0 = t0 at *
          have htw : IntKind.u8.wrap ((t0 : Int) + 1) = (((t0 + 1) % 256 : Nat) : Int) := i_u8s ht0.out
          have hlp := HLP.out
          clear hcur
          go_region
          have es : (((t0 : Int) + 1) % 256) = (((t0 + 1) % 256 : Nat) : Int) := by omega
          rw [es]
          clear es cB c21 f21 htw hlp
          have ks := ((Kept.refl (fun i => i = g2) wr2).setCell (p := ⟨g2, 1, none⟩) (.inl rfl) (.int .u8 (((t0 + 1) % 256 : Nat) : Int))).drew
          have gs : ((wr2.setCell ⟨g2, 1, none⟩ (.int .u8 (((t0 + 1) % 256 : Nat) : Int))).drew).heap[g2]? = some (.cells (cur.setIfInBounds 1 (.int .u8 (((t0 + 1) % 256 : Nat) : Int))) 49 (0, 0)) := setCell_block HCUR.out _
          have Ys := Lib.hid (ks.rowS (fun e => HG2.out e.symm) Y_r.out)
          have G1_s := Lib.hid (ks.rowS (by have := HG2w.out; omega) G1_r.out)
          have K_s := Lib.hid (((K_r.out.setCell (p := ⟨g2, 1, none⟩) (.inr (by have := HG2w.out; show _ ≤ g2; omega)) (.int .u8 (((t0 + 1) % 256 : Nat) : Int)))).drew)
          generalize ((wr2.setCell ⟨g2, 1, none⟩ (.int .u8 (((t0 + 1) % 256 : Nat) : Int))).drew) = ws at *
          have hs0 := HEA.out s (by simp)
          have HBP := Lib.hid (cur_bump HCT.out HN.out hs32.out hT0)
          have HS9 := HSigs.of_block (l := (s.1, bump s.2) :: T) (c := cq) gs (by rw [List.length_cons, show T.length + 1 = N by rw [HN.out]; rfl]; exact HBP.out) (by rw [List.length_cons, show T.length + 1 = N by rw [HN.out]; rfl, Array.size_setIfInBounds]; exact Nat.le_trans (Nat.mul_le_mul_right _ HNC.out) HCS.out) (fun u hu => by
            rcases List.mem_cons.1 hu with rfl | hu
            · exact ⟨by rw [bump_len]; exact hs0.1, bump_all hs0.2.1, hs0.2.2⟩
            · exact HEA.out u (by simp [hu])) (by rw [List.length_cons, show T.length + 1 = N by rw [HN.out]; rfl]; have := HL4.out; omega)
          rw [List.length_cons, show T.length + 1 = N by rw [HN.out]; rfl] at HS9
          have hck : Hid (kCheck k n root ((s.1, bump s.2) :: T) = 8) := check_bad HMM.out HN0.out HN4.out (goodS_other _ _ _ _ (by
            have e := HSK.out
            rw [e]; exact bump_ne hs0.1 hs0.2.1))
          have Pn := Lib.hid (HP.out (.slice (some ⟨g2, 0, none⟩) N cq) rfl)
          have hpn := Lib.hid Pn.out.size
          have HF := Lib.hid (ipost_is hck.out (f_check (.slice pa k.parts.length pc) (.slice wa k.wits.length wcp) (.slice (some ⟨g2, 0, none⟩) N cq) k n (ptA n root (.slice (some ⟨g2, 0, none⟩) N cq)) root ((s.1, bump s.2) :: T) ws (HL0.out.kept K_s.out) (HK0.out.kept K_s.out) Pn.out HS9))
          clear ks gs HBP HS9 hck hs0
          have c0 := row_cell (k := 0) G1_s.out rfl
          have c1 := row_cell (k := 1) G1_s.out rfl
          have c2 := row_cell (k := 2) G1_s.out rfl
          go_wp2_with (first | fail | ((with_reducible refine load40 (C := ptA n root (.slice (some ⟨g2, 0, none⟩) N cq)) (g := B) (o := 0) ?_ (range_row Ys.out) hpn.out ?_); rfl))
          refine HF.out.mono ?_
          rintro e wt ⟨rfl, kt⟩
          go_wp2_with fail
          go_ret
          exact BPost.mk rfl (K_s.out.trans kt)

end Go.Proofs.YtklmhegmombegaaDoor
