/-
  The contracts of the reference's with, Number, Text. Conditions: as each theorem says.
  The contracts of the reference's Tag (64) and Of (62). Conditions: as each theorem says.
  The contracts of the reference's Key (56) and Num (63). Conditions: as each theorem says.
  The contracts of the reference's May (20) and Known (35). Conditions: as each theorem says.
-/
import Derived.Test.YtklmhegmombegaaDoorRsD
import Derived.Test.YtklmhegmombegaaDoorKeyB
set_option linter.unusedVariables false
set_option linter.unusedSimpArgs false
set_option maxRecDepth 100000
namespace Go.Proofs.YtklmhegmombegaaDoor
open Go Go.RowKit Plain
theorem i_xw54 : ∀ a : Fin 256, bits .xor .i64 (a.val : Int) 54 = ((x32 a.val 54 : Nat) : Int) := by decide +kernel
theorem i_xw92 : ∀ a : Fin 256, bits .xor .i64 (a.val : Int) 92 = ((x32 a.val 92 : Nat) : Int) := by decide +kernel
theorem i_xw {a b : Nat} (ha : a < 256) (hb : b = 54 ∨ b = 92) : bits .xor .i64 (a : Int) (b : Int) = ((x32 a b : Nat) : Int) := by
  rcases hb with rfl | rfl
  · exact i_xw54 ⟨a, ha⟩
  · exact i_xw92 ⟨a, ha⟩
theorem padK_succ (key : List Nat) (b : Nat) {j : Nat} (h : j < 64) : (padK key b).take (j + 1) = (padK key b).take j ++ [x32 (key.getD j 0) b] := by
  rw [← List.take_append_getElem (show j < (padK key b).length by rw [padK_len]; exact h)]
  simp [padK]
theorem getD_out {l : List Nat} {j : Nat} (h : l.length ≤ j) : l.getD j 0 = 0 := by rw [List.getD_eq_getElem?_getD, List.getElem?_eq_none h]; rfl
set_option maxHeartbeats 4000000 in
theorem f_with (v : Value) (key : List Nat) (b : Nat) (w : World) (hk : HBytes w v key) (h1 : 1 ≤ key.length) (h64 : key.length ≤ 64) (hb : b = 54 ∨ b = 92) : Calls Tryd.prog 99 #[v, .int .i64 b] w (ByPost (padK key b) w) := by
  obtain ⟨i5, hi, hsz, hby, hz⟩ := info5'
  obtain ⟨kb, ko, kc, rfl, hkl, hkc⟩ := hk.addr (by omega)
  have HKC := Lib.hid hkc
  have HK8 := Lib.hid hk.2.1
  have HBV := Lib.hid hb
  clear hk hkc hb
  go_enter Tryd.func99, Tryd.ntmps99
  go_wp2_with fail
  go_loopw [5, 6] (fun x i wr => ∃ j : Nat, j ≤ 64 ∧ i = .int .i64 j ∧ Hid (Buf wr w.heap.size 5 1 x j (bys ((padK key b).take j))) ∧ Kept (fun _ => False) w wr) (fun _ i _ => 64 - (intOf i).toNat)
  case atStart => exact ⟨0, by omega, rfl, Buf.nil _ _ _ _, Kept.refl _ _⟩
  case round =>
    obtain ⟨j, hj, rfl, HB, K⟩ := hrel
    have KR := Lib.hid K
    obtain ⟨a, c, rfl, _⟩ := HB.out.form
    by_cases hlt : j < 64
    · have HST := Lib.hid (padK_succ key b hlt).symm
      have hj64 : (j : Int) < 64 := by omega
      have hgd := HK8.out.getD j
      by_cases hin : j < key.length
      · have ck := (K.cell (p := ⟨kb, ko + j, none⟩) hkl id).trans (HKC.out j hin)
        generalize key.getD j 0 = x at *
        have e1 := i_xw hgd HBV.out
        have hy : x32 x b < 256 := Nat.xor_lt_two_pow (n := 8) hgd (by rcases HBV.out with h | h <;> omega)
        generalize x32 x b = y at *
        have e2 : IntKind.u8.wrap (y : Int) = (y : Int) := by rw [IntKind.wrap_u8]; omega
        have e3 : (y : Int) % 256 = (y : Int) := by omega
        have hin' : (j : Int) < (key.length : Int) := by omega
        clear K
        have hsrc := Lib.hid (Src.byte wr y)
        have kb := (Kept.refl (fun _ => False) wr).alloc (.cells #[.int .u8 ((y : Nat) : Int)] 5)
        have hbuf := Lib.hid (HB.out.kept kb (fun _ _ h => h))
        have HW2 : Hid (w.heap.size ≤ (wr.alloc (.cells #[.int .u8 ((y : Nat) : Int)] 5)).heap.size) := Nat.le_trans KR.out.size kb.size
        clear kb
        go_wp2_with (first | fail | (at_builtin; refine wpList_append_buf _ rfl (.tmp 21) (.tmp 26) 28 28 rfl w.heap.size 5 i5 (.int .u8 0) 1 1 Tryd.underlying28 hi hz hsz hby rfl (by decide) _ _ _ rfl hbuf.out _ _ _ rfl hsrc.out (by unfold maxLen; omega) (by omega) HW2.out ?_; intro v' w' hb' hg' ho' hn'; rw [← bys_app, HST.out] at hb'; have HB3 := Lib.hid hb'; have HG3 := Lib.hid hg'; clear hb' hg' ho' hn'))
        have KF : Hid (Kept (fun _ => False) w w') := (KR.out.alloc (.cells #[.int .u8 ((y : Nat) : Int)] 5)).grown HG3.out (fun j hj => .inr (HB.out.lt j hj).1)
        go_roundw
        case rel => exact ⟨j + 1, by omega, by go_num, HB3.out, KF.out⟩
        case measure => simp [intOf]; omega
      · have e0 := getD_out (l := key) (j := j) (by omega)
        rw [e0] at HST
        have e1 := i_xw (a := 0) (by decide) HBV.out
        have hy : x32 0 b < 256 := Nat.xor_lt_two_pow (n := 8) (by decide) (by rcases HBV.out with h | h <;> omega)
        generalize x32 0 b = y at *
        have e2 : IntKind.u8.wrap (y : Int) = (y : Int) := by rw [IntKind.wrap_u8]; omega
        have e3 : (y : Int) % 256 = (y : Int) := by omega
        have hin' : ¬ ((j : Int) < (key.length : Int)) := by omega
        clear K e0 hgd
        simp only [Int.natCast_zero] at e1
        have hsrc := Lib.hid (Src.byte wr y)
        have kb := (Kept.refl (fun _ => False) wr).alloc (.cells #[.int .u8 ((y : Nat) : Int)] 5)
        have hbuf := Lib.hid (HB.out.kept kb (fun _ _ h => h))
        have HW2 : Hid (w.heap.size ≤ (wr.alloc (.cells #[.int .u8 ((y : Nat) : Int)] 5)).heap.size) := Nat.le_trans KR.out.size kb.size
        clear kb
        go_wp2_with (first | fail | (at_builtin; refine wpList_append_buf _ rfl (.tmp 21) (.tmp 26) 28 28 rfl w.heap.size 5 i5 (.int .u8 0) 1 1 Tryd.underlying28 hi hz hsz hby rfl (by decide) _ _ _ rfl hbuf.out _ _ _ rfl hsrc.out (by unfold maxLen; omega) (by omega) HW2.out ?_; intro v' w' hb' hg' ho' hn'; rw [← bys_app, HST.out] at hb'; have HB3 := Lib.hid hb'; have HG3 := Lib.hid hg'; clear hb' hg' ho' hn'))
        have KF : Hid (Kept (fun _ => False) w w') := (KR.out.alloc (.cells #[.int .u8 ((y : Nat) : Int)] 5)).grown HG3.out (fun j hj => .inr (HB.out.lt j hj).1)
        go_roundw
        case rel => exact ⟨j + 1, by omega, by go_num, HB3.out, KF.out⟩
        case measure => simp [intOf]; omega
    · obtain rfl : j = 64 := by omega
      have HF : Hid (Buf wr w.heap.size 5 1 (.slice a 64 c) (padK key b).length (bys (padK key b))) := by
        have h := HB.out
        rw [List.take_of_length_le (by rw [padK_len]; exact Nat.le_refl _)] at h
        show Buf _ _ _ _ _ _ _
        rw [padK_len]
        exact h
      clear K
      go_wp2_with fail
      go_ret
      exact ⟨_, rfl, HF.out, KR.out⟩
set_option maxHeartbeats 4000000 in
theorem f_number (n : Int) (many : Nat) (w : World) (hm : many = 8 ∨ many = 4) : Calls Tryd.prog 88 #[.int .i64 n, .int .i64 many] w (ByPost (beN many (n % 18446744073709551616).toNat) w) := by
  have en := i_u64 n
  have hNN : (n % 18446744073709551616).toNat < 18446744073709551616 := by omega
  generalize (n % 18446744073709551616).toNat = N at *
  have HNN := Lib.hid hNN
  clear hNN
  have hmk : (Instr.makeSlice 28 (.int .i64 (many : Int)) (.int .i64 (many : Int))).run Tryd.prog w = .ok (.slice (some ⟨w.heap.size, 0, none⟩) many many) (w.alloc (.cells (ints .u8 (List.replicate many 0)) 5)) := by
    rcases hm with rfl | rfl
    · exact make8 w
    · exact make4 w
  have hm8 : many ≤ 8 := by omega
  have hm1 : 1 ≤ many := by omega
  have hrow := Lib.hid (heap_alloc_new w (.cells (ints .u8 (List.replicate many 0)) 5))
  have KR := Lib.hid ((Kept.refl (fun _ => False) w).alloc (.cells (ints .u8 (List.replicate many 0)) 5))
  have hr0 : Hid (rowL many N 0 = List.replicate many 0) := by show _ = _; unfold rowL; rw [Nat.sub_zero, List.drop_of_length_le (by rw [beN_len]; exact Nat.le_refl _), List.append_nil]
  clear hm
  go_enter Tryd.func88, Tryd.ntmps88
  go_wp2_with fail
  clear hmk en
  generalize w.alloc (.cells (ints .u8 (List.replicate many 0)) 5) = w2 at *
  go_loopw [6, 7] (fun x i wr => ∃ j : Nat, j ≤ many ∧ i = .int .i64 ((many : Int) - 1 - (j : Int)) ∧ x = .int .u64 ((hi8 N j : Nat) : Int) ∧ Hid (wr.heap[w.heap.size]? = some (.cells (ints .u8 (rowL many N j)) 5 (0, 0))) ∧ Kept (fun i => i = w.heap.size) w2 wr) (fun _ i _ => (intOf i + 1).toNat)
  case atStart => exact ⟨0, Nat.zero_le _, by congr 1; omega, by rw [hi8_zero], by show _ = _; rw [hr0.out]; exact hrow.out, Kept.refl _ _⟩
  case round =>
    obtain ⟨j, hj, rfl, rfl, HO, K⟩ := hrel
    have KJ := Lib.hid K
    by_cases hlt : j < many
    · obtain ⟨q, hq⟩ : ∃ q, q + j + 1 = many := ⟨many - 1 - j, by omega⟩
      have eq1 : (many : Int) - 1 - (j : Int) = (q : Int) := by omega
      rw [eq1]
      have co := ints_cell HO.out (i := q) (by rw [rowL_len many N hj]; omega)
      have fo := free_of_block (j := q) HO.out
      have HST0 := rowL_set many N hlt
      rw [show many - 1 - j = q by omega] at HST0
      have HST := Lib.hid HST0
      have hlo : Hid (N / 256 ^ j % 256 = lo8 (hi8 N j)) := rfl
      rw [hlo.out] at HST
      have e1 := k_lo (hi8 N j)
      have e2 := k_lo1 (hi8 N j)
      have e3 := k_lo2 (hi8 N j)
      have e4 := k_hi N j
      have e5 := k_hi' N j
      have e6 : IntKind.u64.wrap ((hi8 N (j + 1) : Nat) : Int) = ((hi8 N (j + 1) : Nat) : Int) := by have := hi8_le N (j + 1); have := HNN.out; rw [IntKind.wrap_u64]; omega
      have hq2 : (q : Int) < (many : Int) := by omega
      generalize (rowL many N j).getD q 0 = old at co
      clear K HST0 eq1
      go_wp2_with fail
      have HF : Hid ((wr.setCell ⟨w.heap.size, q, none⟩ (.int .u8 ((lo8 (hi8 N j) : Nat) : Int))).heap[w.heap.size]? = some (.cells (ints .u8 (rowL many N (j + 1))) 5 (0, 0))) := by
        show _ = _
        rw [setCell_block HO.out, ints_set, HST.out]
      have KF := Lib.hid (KJ.out.setCell (p := ⟨w.heap.size, q, none⟩) (.inl rfl) (.int .u8 ((lo8 (hi8 N j) : Nat) : Int)))
      clear co fo e1 e2 e3 e4 e5 e6
      go_roundw
      case rel => exact ⟨j + 1, by omega, by first | (congr 1; done) | (congr 1; omega), rfl, HF.out, KF.out⟩
      case measure => simp [intOf] <;> omega
    · obtain rfl : j = many := by omega
      have HF : Hid (wr.heap[w.heap.size]? = some (.cells (ints .u8 (beN j N)) 5 (0, 0))) := by
        have h := HO.out
        rw [rowL_all] at h
        exact h
      have KF : Hid (Kept (fun _ => False) w wr) := KR.out.trans' K (fun i hi e => by omega)
      have eq1 : (j : Int) - 1 - (j : Int) = -1 := by omega
      rw [eq1]
      clear K eq1
      go_wp2_with fail
      go_ret
      refine ⟨.slice (some ⟨w.heap.size, 0, none⟩) j j, rfl, ?_, KF.out⟩
      rw [beN_len]
      refine ⟨by rw [bys_len, beN_len, Nat.mul_one], .inr ⟨w.heap.size, j, _, rfl, Nat.le_refl _, HF.out, Nat.le_refl _, by unfold maxLen; omega, by rw [ints_size, beN_len, Nat.mul_one]; exact Nat.le_refl _, ?_⟩⟩
      rw [ints_toList, List.take_of_length_le (by rw [List.length_map, beN_len, Nat.mul_one]; exact Nat.le_refl _)]
      rfl
set_option maxHeartbeats 4000000 in
theorem f_text2 (d : Nat) (v : Value) (ps : List (Value × List Nat)) (w : World) (hd : d < 256) (hv : HParts w v ps) (hn : ps.length ≤ 1000) (ht : (ps.flatMap fun p => lenB p.2).length ≤ 1000000) : Calls Tryd.prog 98 #[.int .i64 d, v] w (ByPost (d :: ps.flatMap fun p => lenB p.2) w) := by
  obtain ⟨i5, hi, hsz, hby, hz⟩ := info5'
  obtain ⟨a0, c0, rfl⟩ := hv.form
  have HV := Lib.hid hv
  have HT := Lib.hid ht
  have ed : IntKind.u8.wrap (d : Int) = (d : Int) := by rw [IntKind.wrap_u8]; omega
  have ed2 : (d : Int) % 256 = (d : Int) := by omega
  have hb0 := Lib.hid (Buf.byte w d (Nat.le_refl _))
  have k0 := Lib.hid ((Kept.refl (fun _ => False) w).alloc (.cells #[.int .u8 (d : Int)] 5))
  clear hv ht
  go_enter Tryd.func98, Tryd.ntmps98
  go_wp2_with fail
  clear ed ed2
  generalize w.alloc (.cells #[.int .u8 (d : Int)] 5) = w1 at *
  go_loopw [5, 6] (fun x j wr => ∃ k : Nat, k ≤ ps.length ∧ j = .int .i64 k ∧ Hid (Buf wr w.heap.size 5 1 x (1 + ((ps.take k).flatMap fun p => lenB p.2).length) (bys (d :: (ps.take k).flatMap fun p => lenB p.2))) ∧ Kept (fun _ => False) w wr) (fun _ j _ => ps.length - (intOf j).toNat)
  case atStart => exact ⟨0, Nat.zero_le _, rfl, hb0.out, k0.out⟩
  case round =>
    obtain ⟨k, hk, rfl, HB, K⟩ := hrel
    have KR := Lib.hid K
    obtain ⟨av, cv, rfl, _⟩ := HB.out.form
    by_cases hlt : k < ps.length
    · obtain ⟨b1, o1, c1, e1, xw⟩ := HV.out.at hlt
      simp only [Value.slice.injEq, true_and] at e1
      obtain ⟨rfl, rfl⟩ := e1
      have hpb := HV.out.2.1 _ (List.getElem_mem hlt)
      obtain ⟨pa, pc, hpe⟩ := hpb.form
      have HPB := Lib.hid hpb
      have HS := Lib.hid (take_flat_succ (fun p : Value × List Nat => lenB p.2) hlt)
      have hle := len_take_le (fun p : Value × List Nat => lenB p.2) ps (k + 1)
      rw [HS.out, List.length_append] at hle
      rw [hpe] at xw HPB
      have XW := Lib.hid xw
      have x0 := (K.cell (p := ⟨b1, o1 + k, none⟩) (World.block_lt_of_cell? w _ xw) id).trans xw
      clear xw
      have hpl : (lenB ps[k].2).length = 4 + ps[k].2.length := lenB_len _
      have hq : (k : Int) < (ps.length : Int) := by omega
      generalize hq1 : ps[k].2 = pl at *
      generalize hL : ((ps.take k).flatMap fun p => lenB p.2) = Lk at *
      have htt := HT.out
      have HF := Lib.hid (f_number (pl.length : Int) 4 wr (.inr rfl))
      have eN : ((pl.length : Int) % 18446744073709551616).toNat = pl.length := by omega
      rw [eN] at HF
      have HLB : Hid (lenB pl = beN 4 pl.length ++ pl) := rfl
      clear K hpb hpe eN
      go_wp2_with fail
      refine HF.out.mono ?_
      rintro e w3 ⟨v3, rfl, hb3, k3⟩
      rw [beN_len] at hb3
      have hsrc := Lib.hid (show Src Tryd.prog 1 28 v3 4 (bys (beN 4 pl.length)) w3 from by
        have h := (Buf.bytes (l := beN 4 pl.length) (by rw [beN_len]; exact hb3) (beN_all _ _)).src
        rw [beN_len] at h; exact h)
      have HB3 := Lib.hid (HB.out.kept k3 (fun _ _ h => h))
      have K3 := Lib.hid (KR.out.trans k3)
      have HWS := Lib.hid K3.out.size
      obtain ⟨a3, c3, rfl, -, -⟩ := hb3.form
      clear hb3 k3 x0 HF
      go_wp2_with (first | fail | (at_builtin; refine wpList_append_buf _ rfl (.tmp 16) (.tmp 22) 28 28 rfl w.heap.size 5 i5 (.int .u8 0) 1 1 Tryd.underlying28 hi hz hsz hby rfl (by decide) _ _ _ rfl HB3.out _ _ _ rfl hsrc.out (by unfold maxLen; omega) (by omega) HWS.out ?_; intro v4 w4 hb4 hg4 ho4 hn4; have HB4 := Lib.hid hb4; obtain ⟨a4, c4, rfl, -⟩ := hb4.form; have K4 := Lib.hid (K3.out.grown hg4 (fun j hj => .inr (HB3.out.lt j hj).1)); have x1 := ((K4.out.cell (p := ⟨b1, o1 + k, none⟩) (World.block_lt_of_cell? w _ XW.out) id).trans XW.out); have HS4 := Lib.hid ((HPB.out.kept K4.out).src); have HW4 := Lib.hid K4.out.size; clear hb4 hg4 ho4 hn4) | (at_builtin; refine wpList_append_buf _ rfl (.tmp 24) (.tmp 28) 28 28 rfl w.heap.size 5 i5 (.int .u8 0) 1 1 Tryd.underlying28 hi hz hsz hby rfl (by decide) _ _ _ rfl HB4.out _ _ _ rfl HS4.out (by unfold maxLen; omega) (by omega) HW4.out ?_; intro v5 w5 hb5 hg5 ho5 hn5; have HB5 := Lib.hid hb5; have HG5 := Lib.hid hg5; clear hb5 hg5 ho5 hn5))
      have HB6 : Hid (Buf w5 w.heap.size 5 1 v5 (1 + ((ps.take (k + 1)).flatMap fun p => lenB p.2).length) (bys (d :: (ps.take (k + 1)).flatMap fun p => lenB p.2))) := by
        have h := HB5.out
        show Buf _ _ _ _ _ _ _
        rw [← bys_app, ← bys_app, List.cons_append, List.cons_append, List.append_assoc, ← HLB.out] at h
        rw [HS.out, List.length_append, hpl]
        rw [show 1 + (Lk.length + (4 + pl.length)) = 1 + Lk.length + 4 + pl.length by omega]
        exact h
      have KF : Hid (Kept (fun _ => False) w w5) := K4.out.grown HG5.out (fun j hj => .inr (HB4.out.lt j hj).1)
      go_roundw
      case rel => exact ⟨k + 1, by omega, by go_num, HB6.out, KF.out⟩
      case measure => simp [intOf]; omega
    · obtain rfl : k = ps.length := by omega
      have hq : ¬ ((ps.length : Int) < (ps.length : Int)) := by omega
      have hFe : ((ps.take ps.length).flatMap fun p => lenB p.2) = ps.flatMap fun p => lenB p.2 := by rw [List.take_length]
      rw [hFe] at HB ⊢
      generalize hFF : (ps.flatMap fun p => lenB p.2) = F at *
      have HFF := Lib.hid hFF
      clear hFF
      have HBF : Hid (Buf wr w.heap.size 5 1 (.slice av (1 + F.length) cv) (d :: F).length (bys (d :: F))) := by
        have h := HB.out
        show Buf _ _ _ _ _ _ _
        rw [List.length_cons, Nat.add_comm F.length 1]
        exact h
      clear hFe
      clear K
      go_wp2_with fail
      go_ret
      refine ⟨_, rfl, ?_, KR.out⟩
      rw [HFF.out]
      exact HBF.out
end Go.Proofs.YtklmhegmombegaaDoor
namespace Go.Proofs.YtklmhegmombegaaDoor
open Go Go.RowKit Plain
theorem Buf.bytes2 {w : World} {base : Nat} {v : Value} {n m : Nat} {a b : List Nat} (h : Buf w base 5 1 v (n + m) (bys a ++ bys b)) (ha : a.length = n) (hb : b.length = m) (h1 : All8 a) (h2 : All8 b) : HBytes w v (a ++ b) := by
  subst ha; subst hb
  refine Buf.bytes (base := base) ?_ (fun x hx => by rcases List.mem_append.1 hx with hx | hx; exact h1 x hx; exact h2 x hx)
  rw [bys_app, List.length_append]; exact h
theorem HBytes.srcN {w : World} {v : Value} {l : List Nat} {n : Nat} (h : HBytes w v l) (hn : l.length = n) : Src Tryd.prog 1 28 v n (bys l) w := hn ▸ h.src
set_option maxHeartbeats 4000000 in
theorem f_rtag (kv tv : Value) (key tx : List Nat) (w : World) (hL : Laid w) (hk : HBytes w kv key) (h1 : 1 ≤ key.length) (h64 : key.length ≤ 64) (hT : HBytes w tv tx) (ht : tx.length ≤ 100000) :
    Calls Tryd.prog 64 #[kv, tv] w (RPost (.agg (ints .u8 (tagOf key tx))) w) := by
  obtain ⟨i5, hi, hsz, hby, hz⟩ := info5'
  obtain ⟨ka, kc, rfl⟩ := hk.form
  obtain ⟨ta, tc, rfl⟩ := hT.form
  have g4 := Lib.hid (heap_alloc_new w (.cells Z26 26))
  have K1 := Lib.hid ((Kept.refl (fun _ => False) w).alloc (.cells Z26 26))
  have HK := Lib.hid (hk.kept K1.out)
  have HT := Lib.hid (hT.kept K1.out)
  have HL := Lib.hid (hL.kept K1.out)
  have hpa54 := Lib.hid (padK_all (b := 54) hk.2.1 (by decide))
  have hpa92 := Lib.hid (padK_all (b := 92) hk.2.1 (by decide))
  have hpl54 := Lib.hid (padK_len key 54)
  have hpl92 := Lib.hid (padK_len key 92)
  have ht8 := Lib.hid hT.2.1
  have hgt : ¬ (64 < (key.length : Int)) := by omega
  have hw1 : w.heap.size < (w.alloc (.cells Z26 26)).heap.size := by simp
  clear hk hT hL
  go_enter Tryd.func64, Tryd.ntmps64
  go_wp2_with (first | fail | (with_reducible refine alloc26 ?_))
  generalize w.alloc (.cells Z26 26) = w1 at *
  refine (f_with _ key 54 w1 HK.out h1 h64 (.inl rfl)).mono ?_
  rintro e w2 ⟨v1, rfl, hb1, k2⟩
  rw [padK_len] at hb1
  have HB2 := Lib.hid hb1
  have KA2 := Lib.hid k2
  have HS2 := Lib.hid (HT.out.kept k2).src
  have HZ2 : Hid (w1.heap.size ≤ w2.heap.size) := k2.size
  obtain ⟨a1, c1, rfl, -, -⟩ := hb1.form
  clear hb1 k2
  go_wp2_with (first | fail | (at_builtin; refine wpList_append_buf _ rfl (.tmp 14) (.tmp 15) 28 28 rfl w1.heap.size 5 i5 (.int .u8 0) 1 1 Tryd.underlying28 hi hz hsz hby rfl (by decide) (.slice a1 64 c1) 64 (bys (padK key 54)) rfl HB2.out (.slice ta tx.length tc) tx.length (bys tx) rfl HS2.out (by unfold maxLen; omega) (by omega) HZ2.out ?_; intro v4 w4 hb4 hg4 ho4 hn4; have HB4 := Lib.hid hb4; have HG4 := Lib.hid hg4; clear hb4 hg4 ho4 hn4))
  have KA4 : Hid (Kept (fun _ => False) w1 w4) := KA2.out.grown HG4.out (fun j hj => .inr (HB2.out.lt j hj).1)
  have HX4 : Hid (HBytes w4 v4 (padK key 54 ++ tx)) := HB4.out.bytes2 hpl54.out rfl hpa54.out ht8.out
  have HSM := Lib.hid (f_rsum v4 (padK key 54 ++ tx) w4 (HL.out.kept KA4.out) HX4.out (by rw [List.length_append, hpl54.out]; omega))
  clear HB4 HG4 HB2 KA2 HS2 HZ2 HX4
  go_wp2_with fail
  refine HSM.out.mono ?_
  rintro e w5 ⟨rfl, k5⟩
  have KW5 := Lib.hid (K1.out.trans (KA4.out.trans k5))
  have G45 := Lib.hid ((KA4.out.trans k5).row g4.out)
  have HK5 := Lib.hid (HK.out.kept (KA4.out.trans k5))
  have HL5 := Lib.hid (HL.out.kept (KA4.out.trans k5))
  have HTG : Hid (tagOf key tx = sha (padK key 92 ++ sha (padK key 54 ++ tx))) := rfl
  have hs32 := Lib.hid (sha_len (padK key 54 ++ tx))
  have hs8 := Lib.hid (sha_all (padK key 54 ++ tx))
  generalize sha (padK key 54 ++ tx) = inn at *
  have HC5 := Lib.hid (show (ints .u8 inn).size = 32 by rw [ints_size, hs32.out])
  have HO5 := Lib.hid (ints_one .u8 inn)
  have z6 := Lib.hid (heap_alloc_new w5 (.cells Z26 26))
  obtain ⟨y6, k6⟩ := alloc_set w5 Z26 (ints .u8 inn) 26
  have Y6 := Lib.hid y6
  have K6 := Lib.hid k6
  have hw45 : w.heap.size < w5.heap.size := row_lt G45.out
  clear k5 y6 k6 HSM g4 HK HL KA4 K1 HT ht8 hpa54 hpl54
  go_upto_region 5 with (first | fail | (with_reducible refine alloc26 ?_) | ((with_reducible refine store26 (C := ints .u8 inn) ?_ ?_ z6.out Z26_size HC5.out HO5.out ?_); rfl; rfl))
  generalize (w5.alloc (.cells Z26 26)).setRow w5.heap.size (ints .u8 inn) = w6 at *
  have KW6 := Lib.hid (KW5.out.trans K6.out)
  have G46 := Lib.hid (K6.out.row G45.out)
  have HK6 := Lib.hid (HK5.out.kept K6.out)
  have HL6 := Lib.hid (HL5.out.kept K6.out)
  generalize w5.heap.size = g6 at *
  clear z6 G45 HK5 HL5 KW5 K6
  refine wp_region_held_drew (S := fun w' => True) (by kernel_rfl) trivial (fun hHeld => ?_)
  have KW7 : Hid (Kept (fun _ => False) w w6.drew) := KW6.out.drew
  have G47 : Hid (w6.drew.heap[w.heap.size]? = some (.cells Z26 26 (0, 0))) := G46.out
  have Y7 : Hid (w6.drew.heap[g6]? = some (.cells (ints .u8 inn) 26 (0, 0))) := Y6.out
  have k67 := (Kept.refl (fun _ => False) w6).drew
  have HK7 := Lib.hid (HK6.out.kept k67)
  have HL7 := Lib.hid (HL6.out.kept k67)
  clear KW6 G46 Y6 HK6 HL6 k67
  generalize w6.drew = w7 at *
  refine wpAnyH_take (i := 0) (oi := ⟨some 18, _, _, _, _, _⟩) (v := .slice ka key.length kc) rfl (by kernel_rfl) (by kernel_rfl) (by kernel_rfl) (fun _ _ _ h => h) (Or.inl ⟨by kernel_rfl, fun w' hS => by go_simp⟩) (by assumption) ?_
  try simp only [Act.put, List.setIfInBounds_toArray, List.set_cons_succ, List.set_cons_zero]
  refine wpAnyH_take (i := 2) (oi := ⟨some 20, _, _, _, _, _⟩) (v := .slice (some ⟨g6, 0, none⟩) 32 32) rfl (by kernel_rfl) (by kernel_rfl) (by kernel_rfl) (fun _ _ _ h => h) (Or.inl ⟨by kernel_rfl, fun w' hS => by go_simp⟩) (by assumption) ?_
  try simp only [Act.put, List.setIfInBounds_toArray, List.set_cons_succ, List.set_cons_zero]
  refine wpAnyH_ready (rs := [1]) (by kernel_rfl) (by simp) ?_
  refine AllReadyH.cons (o := _) rfl (fun K hK => ?_) AllReadyH.nil
  go_simp
  refine (f_with _ key 92 w7 HK7.out h1 h64 (.inr rfl)).mono ?_
  rintro e w8 ⟨v8, rfl, hb8, k8⟩
  rw [padK_len] at hb8
  have HB8 := Lib.hid hb8
  have KA8 := Lib.hid k8
  have HI8 : Hid (HBytes w8 (.slice (some ⟨g6, 0, none⟩) 32 32) inn) := by
    have h := HBytes.hash (k8.row Y7.out) hs8.out (by rw [hs32.out]; decide) 32
    rwa [hs32.out] at h
  have HS8 := Lib.hid (HI8.out.srcN hs32.out)
  have HZ8 : Hid (w7.heap.size ≤ w8.heap.size) := k8.size
  obtain ⟨a8, c8, rfl, -, -⟩ := hb8.form
  clear hb8 k8 Y7
  go_wp2_with fail
  refine hK.out _ _ trivial (fun hHeld => ?_)
  clear hK K
  try simp only [Act.put, List.setIfInBounds_toArray, List.set_cons_succ, List.set_cons_zero]
  refine wpAnyH_ready (rs := [3]) (by kernel_rfl) (by simp) ?_
  refine AllReadyH.cons (o := _) rfl (fun K hK => ?_) AllReadyH.nil
  refine step_append_buf _ rfl (.tmp 19) (.tmp 20) 28 28 rfl w7.heap.size 5 i5 (.int .u8 0) 1 1 Tryd.underlying28 hi hz hsz hby rfl (by decide) (.slice a8 64 c8) 64 (bys (padK key 92)) rfl HB8.out (.slice (some ⟨g6, 0, none⟩) 32 32) 32 (bys inn) rfl HS8.out (by decide) (by decide) HZ8.out ?_
  intro v9 w9 hb9 hg9 ho9 hn9
  have KA9 : Hid (Kept (fun _ => False) w7 w9) := KA8.out.grown hg9 (fun j hj => .inr (HB8.out.lt j hj).1)
  have HX9 : Hid (HBytes w9 v9 (padK key 92 ++ inn)) := hb9.bytes2 hpl92.out hs32.out hpa92.out hs8.out
  have HSM := Lib.hid (f_rsum v9 (padK key 92 ++ inn) w9 (HL7.out.kept KA9.out) HX9.out (by rw [List.length_append, hpl92.out, hs32.out]; decide))
  rw [← HTG.out] at HSM
  have G49 := Lib.hid (KA9.out.row G47.out)
  have KW9 := Lib.hid (KW7.out.trans KA9.out)
  refine hK.out _ _ trivial (fun hHeld => ?_)
  clear hK K hb9 hg9 ho9 hn9 HB8 KA8 HI8 HS8 HZ8 KA9 HX9 G47 KW7
  try simp only [Act.put, List.setIfInBounds_toArray, List.set_cons_succ, List.set_cons_zero]
  refine wpAnyH_ready (rs := [4]) (by kernel_rfl) (by simp) ?_
  refine AllReadyH.cons (o := _) rfl (fun K hK => ?_) AllReadyH.nil
  go_simp
  refine HSM.out.mono ?_
  rintro e w10 ⟨rfl, k10⟩
  have KW10 := Lib.hid (KW9.out.trans k10)
  have G410 := Lib.hid (k10.row G49.out)
  have hct := Lib.hid (show (ints .u8 (tagOf key tx)).size = 32 by rw [ints_size, HTG.out, sha_len])
  have hot := Lib.hid (ints_one .u8 (tagOf key tx))
  generalize hTG : ints .u8 (tagOf key tx) = TG at *
  clear k10 KW9 G49 HSM
  go_wp2_with fail
  refine hK.out _ _ trivial (fun hHeld => ?_)
  clear hK K
  try simp only [Act.put, List.setIfInBounds_toArray, List.set_cons_succ, List.set_cons_zero]
  refine wpAnyH_ready (rs := [5]) (by kernel_rfl) (by simp) ?_
  refine AllReadyH.cons (o := _) rfl (fun K hK => ?_) AllReadyH.nil
  refine step_store26 (C := TG) (g := w.heap.size) (o := 0) (by kernel_rfl) rfl rfl hct.out hot.out G410.out (by rw [Z26_size]; decide) ?_
  intro wn Yn kn
  rw [puts_all (by rw [Z26_size, hct.out])] at Yn
  have KWn : Kept (fun _ => False) w wn := KW10.out.trans' kn (fun i hi e => by omega)
  refine hK.out _ _ trivial (fun hHeld => ?_)
  clear hK K
  try simp only [Act.put, List.setIfInBounds_toArray, List.set_cons_succ, List.set_cons_zero]
  refine wpAnyH_done (by kernel_rfl) ?_ _
  have HYN := Lib.hid Yn
  have HKN := Lib.hid KWn
  clear Yn KWn kn
  go_wp2_with fail
  exact bodyPost_ret (results_26 rfl _ _ _ HYN.out hct.out rfl) rfl (RPost.mk (by first | rfl | rw [hTG]) HKN.out)
set_option maxHeartbeats 4000000 in
theorem f_rof (d : Nat) (v : Value) (ps : List (Value × List Nat)) (w : World) (hL : Laid w) (hd : d < 256) (hv : HParts w v ps) (hn : ps.length ≤ 1000) (ht : (ps.flatMap fun p => lenB p.2).length ≤ 900000) : Calls Tryd.prog 62 #[.int .i64 d, v] w (RPost (.agg (ints .u8 (macOf d (ps.map (·.2))))) w) := by
  obtain ⟨a, c, rfl⟩ := hv.form
  have g4 := Lib.hid (heap_alloc_new w (.cells Z26 26))
  have K1 := Lib.hid ((Kept.refl (fun _ => False) w).alloc (.cells Z26 26))
  have HF := Lib.hid (f_text2 d _ ps _ hd (hv.kept K1.out) hn (by omega))
  have HL := Lib.hid (hL.kept K1.out)
  have HM : Hid (macOf d (ps.map (·.2)) = sha (d :: ps.flatMap fun p => lenB p.2)) := by show _ = _; rw [macOf, List.flatMap_map]
  have HTA : Hid (All8 (d :: ps.flatMap fun p => lenB p.2)) := fun x hx => by
    rcases List.mem_cons.1 hx with rfl | hx
    · exact hd
    · obtain ⟨p, hp, hx⟩ := List.mem_flatMap.1 hx
      exact lenB_all (hv.2.1 p hp).2.1 x hx
  have HTL : Hid ((d :: ps.flatMap fun p => lenB p.2).length ≤ 1000000) := by show _ ≤ _; rw [List.length_cons]; omega
  generalize (d :: ps.flatMap fun p => lenB p.2) = tx at *
  have hmz : Hid ((ints .u8 (macOf d (ps.map (·.2)))).size = 32) := by show _ = _; rw [ints_size, HM.out, sha_len]
  have hmo := Lib.hid (ints_one .u8 (macOf d (ps.map (·.2))))
  clear hL hv
  go_enter Tryd.func62, Tryd.ntmps62
  go_wp2_with (first | fail | (with_reducible refine alloc26 ?_))
  generalize w.alloc (.cells Z26 26) = w1 at *
  refine HF.out.mono ?_
  rintro e w2 ⟨v2, rfl, hb2, k2⟩
  have HX2 := Lib.hid (Buf.bytes hb2 HTA.out)
  have G42 := Lib.hid (k2.row g4.out)
  have HL2 := Lib.hid (HL.out.kept k2)
  have K2 := Lib.hid (K1.out.trans k2)
  have HS := Lib.hid (f_rsum v2 tx w2 HL2.out HX2.out HTL.out)
  rw [← HM.out] at HS
  generalize hTG : ints .u8 (macOf d (ps.map (·.2))) = TG at *
  clear hb2 k2 HF HX2 HL2 K1 g4 HL
  go_wp2_with fail
  refine HS.out.mono ?_
  rintro e w4 ⟨rfl, k4⟩
  have G44 := Lib.hid (k4.row G42.out)
  have K4 := Lib.hid (K2.out.trans k4)
  clear k4 HS
  go_wp2_with (first | fail | ((with_reducible refine store26 (C := TG) ?_ ?_ G44.out Z26_size hmz.out hmo.out ?_); rfl; rfl))
  exact bodyPost_ret (results_26 rfl _ _ _ (setRow_heap _ _ _ _ _ _ G44.out) hmz.out rfl) rfl (RPost.mk (by first | rfl | exact congrArg Value.agg hTG.symm) (K4.out.setRow (by omega) _))
end Go.Proofs.YtklmhegmombegaaDoor
namespace Go.Proofs.YtklmhegmombegaaDoor
open Go Go.RowKit Plain
set_option maxHeartbeats 4000000 in
theorem f_rkey (key : List Nat) (wv : Value) (l : List Int) (w : World) (hL : Laid w) (h8 : All8 key) (hkl : key.length = 32) (hv : HInts w wv l) :
    Calls Tryd.prog 56 #[.agg (ints .u8 key), wv] w (RPost (.agg (ints .u8 (macKey key l))) w) := by
  obtain ⟨i5, hi, hsz, hby, hz⟩ := info5'
  obtain ⟨a, c, rfl⟩ := hv.form
  obtain ⟨g2, g4⟩ := (⟨heap_alloc2_old w (.cells (ints .u8 key) 26) (.cells Z26 26), heap_alloc2_new w (.cells (ints .u8 key) 26) (.cells Z26 26)⟩ : _ ∧ _)
  have hl := hv.2.1
  have G2 := Lib.hid g2
  have G4 := Lib.hid g4
  have K1 := Lib.hid (((Kept.refl (fun _ => False) w).alloc (.cells (ints .u8 key) 26)).alloc (.cells Z26 26))
  have HV := Lib.hid (hv.kept K1.out)
  have HL := Lib.hid (hL.kept K1.out)
  have HKL := Lib.hid hkl
  have HK8 := Lib.hid h8
  have HMK : Hid (macKey key l = tagOf key (l.flatMap wordB)) := rfl
  have HWA := Lib.hid (words_all l)
  have HWL := Lib.hid (words_len l)
  have hcs := Lib.hid (show (ints .u8 key).size = 32 by rw [ints_size, hkl])
  have hon := Lib.hid (ints_one .u8 key)
  clear hv hL hkl h8 g2 g4
  go_enter Tryd.func56, Tryd.ntmps56
  go_wp2_with (first | fail | (with_reducible refine alloc26 ?_))
  generalize (w.alloc (.cells (ints .u8 key) 26)).alloc (.cells Z26 26) = w1 at *
  go_loopw [5, 6] (fun x j wr => ∃ k : Nat, k ≤ l.length ∧ j = .int .i64 k ∧ Hid (Buf wr w1.heap.size 5 1 x (8 * k) (bys ((l.take k).flatMap wordB))) ∧ Kept (fun _ => False) w1 wr) (fun _ j _ => l.length - (intOf j).toNat)
  case atStart => exact ⟨0, Nat.zero_le _, rfl, Buf.nil _ _ _ _, Kept.refl _ _⟩
  case round =>
    obtain ⟨k, hk, rfl, HB, K⟩ := hrel
    have KR := Lib.hid K
    obtain ⟨av, cv, rfl, _⟩ := HB.out.form
    by_cases hlt : k < l.length
    · obtain ⟨b1, o1, c1, e1, x0⟩ := (HV.out.kept K).at hlt
      simp only [Value.slice.injEq, true_and] at e1
      obtain ⟨rfl, rfl⟩ := e1
      have HS := Lib.hid (words_succ hlt)
      have HF := Lib.hid (f_number l[k] 8 wr (.inl rfl))
      have hWB : Hid (beN 8 (l[k] % 18446744073709551616).toNat = wordB l[k]) := rfl
      rw [hWB.out] at HF
      generalize l[k] = z at x0 HS HF hWB
      have hq : (k : Int) < (l.length : Int) := by omega
      clear K
      go_wp2_with fail
      refine HF.out.mono ?_
      rintro e w3 ⟨v3, rfl, hb3, k3⟩
      rw [wordB_len] at hb3
      have hsrc := Lib.hid (show Src Tryd.prog 1 28 v3 8 (bys (wordB z)) w3 from by
        have h := (Buf.bytes (l := wordB z) (by rw [wordB_len]; exact hb3) (beN_all _ _)).src
        rw [wordB_len] at h; exact h)
      have HB3 := Lib.hid (HB.out.kept k3 (fun _ _ h => h))
      have K3 := Lib.hid (KR.out.trans k3)
      have HWS := Lib.hid K3.out.size
      obtain ⟨a3, c3, rfl, -, -⟩ := hb3.form
      clear hb3 k3 hWB HF x0
      go_wp2_with (first | fail | (at_builtin; refine wpList_append_buf _ rfl (.tmp 13) (.tmp 18) 28 28 rfl w1.heap.size 5 i5 (.int .u8 0) 1 1 Tryd.underlying28 hi hz hsz hby rfl (by decide) _ _ _ rfl HB3.out _ _ _ rfl hsrc.out (by unfold maxLen; omega) (by omega) HWS.out ?_; intro v' w' hb' hg' ho' hn'; have HB4 := Lib.hid hb'; have HG4 := Lib.hid hg'; clear hb' hg' ho' hn'))
      have HB5 : Hid (Buf w' w1.heap.size 5 1 v' (8 * (k + 1)) (bys ((l.take (k + 1)).flatMap wordB))) := by
        show Buf _ _ _ _ _ _ _
        rw [HS.out, bys_app]
        exact HB4.out
      have KF : Hid (Kept (fun _ => False) w1 w') := K3.out.grown HG4.out (fun j hj => .inr (HB.out.lt j hj).1)
      go_roundw
      case rel => exact ⟨k + 1, by omega, by go_num, HB5.out, KF.out⟩
      case measure => simp [intOf]; omega
    · obtain rfl : k = l.length := by omega
      have HX : Hid (HBytes wr (.slice av (8 * l.length) cv) (l.flatMap wordB)) := by
        have h := HB.out
        rw [List.take_length, ← words_len] at h
        show HBytes _ _ _
        rw [← words_len]
        exact h.bytes HWA.out
      have G44 := Lib.hid (K.row G4.out)
      have KW4 := Lib.hid (K1.out.trans K)
      have HL4 := Lib.hid (HL.out.kept K)
      have HK4 : Hid (HBytes wr (.slice (some ⟨w.heap.size, 0, none⟩) 32 32) key) := by
        have h := HBytes.hash (K.row G2.out) HK8.out (by rw [HKL.out]; decide) 32
        rwa [HKL.out] at h
      have HTG := Lib.hid (f_rtag _ _ key _ wr HL4.out HK4.out (by rw [HKL.out]; decide) (by rw [HKL.out]; decide) HX.out (by rw [HWL.out]; omega))
      rw [← HMK.out] at HTG
      have hq : ¬ ((l.length : Int) < (l.length : Int)) := by omega
      clear K HX HL4 HK4 HB KR
      go_wp2_with fail
      refine HTG.out.mono ?_
      rintro e w5 ⟨rfl, k5⟩
      have KW5 := Lib.hid (KW4.out.trans k5)
      have G45 := Lib.hid (k5.row G44.out)
      have hct := Lib.hid (show (ints .u8 (macKey key l)).size = 32 by rw [ints_size, HMK.out, tag_len])
      have hot := Lib.hid (ints_one .u8 (macKey key l))
      generalize hTG : ints .u8 (macKey key l) = TG at *
      clear k5 KW4 G44 HTG
      go_wp2_with (first | fail | ((with_reducible refine store26 (C := TG) ?_ ?_ G45.out Z26_size hct.out hot.out ?_); rfl; rfl))
      exact bodyPost_ret (results_26 rfl _ _ _ (setRow_heap _ _ _ _ _ _ G45.out) hct.out rfl) rfl (RPost.mk (by first | rfl | exact congrArg Value.agg hTG.symm) (KW5.out.setRow (by omega) _))
theorem Buf.one1 {w : World} {base : Nat} {v : Value} {x : Nat} (h : Buf w base 5 1 v 1 (bys [x])) : ∃ g cap cur, v = .slice (some ⟨g, 0, none⟩) 1 cap ∧ base ≤ g ∧ w.heap[g]? = some (.cells cur 5 (0, 0)) ∧ cur[0]? = some (.int .u8 (x : Nat)) ∧ 1 ≤ cap ∧ cap ≤ maxLen ∧ cap ≤ cur.size := by
  rcases h.2 with ⟨_, h0⟩ | ⟨g, cap, cur, e, h1, h2, h3, h4, h5, h6⟩
  · omega
  · refine ⟨g, cap, cur, e, h1, h2, ?_, h3, h4, by omega⟩
    have := congrArg (fun l => l[0]?) h6
    rw [List.getElem?_take] at this
    simpa [bys] using this
set_option maxHeartbeats 4000000 in
theorem f_rnum1 (n : Nat) (w : World) (hn : n < 128) : Calls Tryd.prog 63 #[.int .i64 n] w (ByPost [n] w) := by
  have t1 : ¬ ((n : Int) < 0) := by omega
  have t2 : ¬ (2147483647 < (n : Int)) := by omega
  have t3 : (n : Int) < 128 := by omega
  have e1 := i_u8 n
  rw [show n % 256 = n by omega] at e1
  have hb1 := Lib.hid (Buf.byte w n (Nat.le_refl _))
  have k1 := Lib.hid ((Kept.refl (fun _ => False) w).alloc (.cells #[.int .u8 (n : Int)] 5))
  go_enter Tryd.func63, Tryd.ntmps63
  go_wp2_with fail
  go_ret
  exact ⟨_, rfl, hb1.out, k1.out⟩
set_option maxHeartbeats 4000000 in
theorem f_rnum (n : Nat) (w : World) (hn : n < 16384) : Calls Tryd.prog 63 #[.int .i64 n] w (ByPost (numB n) w) := by
  obtain ⟨i5, hi, hsz, hby, hz⟩ := info5'
  by_cases hlt : n < 128
  · have E : numB n = [n] := by rw [numB, if_pos hlt]
    rw [E]
    exact f_rnum1 n w hlt
  · have E : Hid (numB n = [n / 128 + 128, n % 128]) := by show _ = _; rw [numB, if_neg hlt]
    have t1 : ¬ ((n : Int) < 0) := by omega
    have t2 : ¬ (2147483647 < (n : Int)) := by omega
    have t3 : ¬ ((n : Int) < 128) := by omega
    obtain ⟨q, r, hq, hr, hnq⟩ : ∃ q r : Nat, n / 128 = q ∧ n % 128 = r ∧ n = 128 * q + r := ⟨n / 128, n % 128, rfl, rfl, by omega⟩
    have hr8 : r < 128 := by omega
    have hq8 : q < 128 := by omega
    rw [hq, hr] at E
    have m1 : (n : Int) % 128 = (r : Int) := by omega
    have q1 : (n : Int) / 128 = (q : Int) := by omega
    have q2 : (n : Int) / 2 ^ 7 = (q : Int) := by omega
    have m2 : (n : Int).tmod 128 = (r : Int) := by rw [Int.tmod_eq_emod_of_nonneg (by omega)]; omega
    have q3 : (n : Int).tdiv 128 = (q : Int) := by rw [Int.tdiv_eq_ediv_of_nonneg (by omega)]; omega
    have e1 := i_u8 r
    rw [show r % 256 = r by omega] at e1
    obtain ⟨p, hp⟩ : ∃ p : Nat, q + 128 = p := ⟨_, rfl⟩
    rw [hp] at E
    have e2 : IntKind.u8.wrap ((q : Int) + 128) = (p : Int) := by rw [IntKind.wrap_u8]; omega
    have e3 : ((q : Int) + 128) % 256 = (p : Int) := by omega
    have e4 : (q : Int) + 128 = (p : Int) := by omega
    have HF := Lib.hid (f_rnum1 q w hq8)
    clear hq hr hnq
    go_enter Tryd.func63, Tryd.ntmps63
    go_wp2_with fail
    refine HF.out.mono ?_
    rintro e w2 ⟨v2, rfl, hb2, k2⟩
    obtain ⟨g, cap, cur, rfl, hbg, hrow, h0, hc2, hcm, hcs⟩ := hb2.one1
    have c0 := row_cell hrow h0
    have f0 := free_of_block (j := 0) hrow
    have HROW := Lib.hid hrow
    have HBG : Hid (w.heap.size ≤ g) := hbg
    have K2 := Lib.hid k2
    have hy := setCell_block (k := 0) hrow (.int .u8 (p : Int))
    have ky := K2.out.setCell (p := ⟨g, 0, none⟩) (.inr (by exact hbg)) (.int .u8 (p : Int))
    have hb3 : Buf (w2.setCell ⟨g, 0, none⟩ (.int .u8 (p : Int))) w.heap.size 5 1 (.slice (some ⟨g, 0, none⟩) 1 cap) 1 (bys [p]) := by
      refine ⟨rfl, .inr ⟨g, cap, _, rfl, hbg, hy, hc2, hcm, by simp; omega, ?_⟩⟩
      obtain ⟨cl⟩ := cur
      match cl, h0 with
      | x :: t, _ => simp [bys]
    have HB3 := Lib.hid (hb3.kept (S := fun _ => False) ((Kept.refl _ _).alloc (.cells #[.int .u8 ((r : Nat) : Int)] 5)) (fun _ _ h => h))
    have K3 := Lib.hid (ky.alloc (.cells #[.int .u8 ((r : Nat) : Int)] 5))
    have hsrc := Lib.hid (Src.byte (w2.setCell ⟨g, 0, none⟩ (.int .u8 (p : Int))) r)
    rw [show (w2.setCell ⟨g, 0, none⟩ (.int .u8 (p : Int))).heap.size = w2.heap.size by simp] at hsrc
    have HWS := Lib.hid K3.out.size
    clear hb2 k2 hrow hbg h0 hcm hcs HF hy ky hb3
    go_wp2_with (first | fail | (at_builtin; refine wpList_append_buf _ rfl (.tmp 30) (.tmp 34) 28 28 rfl w.heap.size 5 i5 (.int .u8 0) 1 1 Tryd.underlying28 hi hz hsz hby rfl (by decide) _ _ _ rfl HB3.out _ _ _ rfl hsrc.out (by decide) (by decide) HWS.out ?_; intro v' w' hb' hg' ho' hn'; have HB4 := Lib.hid hb'; have HG4 := Lib.hid hg'; clear hb' hg' ho' hn'))
    have KF : Hid (Kept (fun _ => False) w w') := K3.out.grown HG4.out (fun j hj => .inr (HB3.out.lt j hj).1)
    go_ret
    exact ⟨_, rfl, by rw [E.out]; exact HB4.out, KF.out⟩
end Go.Proofs.YtklmhegmombegaaDoor
namespace Go.Proofs.YtklmhegmombegaaDoor
open Go Go.RowKit Plain
open Go.Proofs.YtklmhegmombegaaDoor.Re (wi wi_true wi_false)
set_option maxHeartbeats 4000000 in
theorem f_rmay0 (pa wa : Option Addr) (n m pc wc : Nat) (nd : Int) (b : Bool) (w : World) (hn : n ≤ 1000) (hm : m ≤ 1000) (hb : (decide (1 ≤ (n : Int)) && (decide ((n : Int) ≤ 4) && (decide (1 ≤ (m : Int)) && (decide ((m : Int) ≤ 4) && (decide (1 ≤ nd) && decide (nd ≤ (m : Int))))))) = b) :
    Calls Tryd.prog 20 #[.agg #[.slice pa n pc, .slice wa m wc, .int .i64 nd]] w (BPost b w) := by
  subst hb
  have g1 := heap_alloc_new w (.cells #[.slice pa n pc, .slice wa m wc, .int .i64 nd] 24)
  have k1 := Lib.hid ((Kept.refl (fun _ => False) w).alloc (.cells #[.slice pa n pc, .slice wa m wc, .int .i64 nd] 24))
  have c0 := row_cell (k := 0) g1 rfl
  have c1 := row_cell (k := 1) g1 rfl
  have c2 := row_cell (k := 2) g1 rfl
  clear g1
  go_enter Tryd.func20, Tryd.ntmps20
  go_upto_region 1 with (fail)
  generalize w.alloc (.cells #[.slice pa n pc, .slice wa m wc, .int .i64 nd] 24) = w1 at *
  generalize w.heap.size = B at *
  cases d1 : decide (1 ≤ (n : Int)) with
  | false => go_wp2_with fail; go_ret; exact BPost.mk (by clear c0 c1 c2 k1; simp only [*, Bool.false_and, Bool.true_and]) k1.out
  | true =>
    cases d2 : decide ((n : Int) ≤ 4) with
    | false => go_wp2_with fail; go_ret; exact BPost.mk (by clear c0 c1 c2 k1; simp only [*, Bool.false_and, Bool.true_and]) k1.out
    | true =>
      cases d3 : decide (1 ≤ (m : Int)) with
      | false => go_wp2_with fail; go_ret; exact BPost.mk (by clear c0 c1 c2 k1; simp only [*, Bool.false_and, Bool.true_and]) k1.out
      | true =>
        cases d4 : decide ((m : Int) ≤ 4) with
        | false => go_wp2_with fail; go_ret; exact BPost.mk (by clear c0 c1 c2 k1; simp only [*, Bool.false_and, Bool.true_and]) k1.out
        | true =>
          cases d5 : decide (1 ≤ nd) with
          | false => go_wp2_with fail; go_ret; exact BPost.mk (by clear c0 c1 c2 k1; simp only [*, Bool.false_and, Bool.true_and]) k1.out
          | true => go_wp2_with fail; go_ret; exact BPost.mk (by clear c0 c1 c2 k1; simp only [*, Bool.false_and, Bool.true_and]) k1.out
theorem f_rmay (pv wv : Value) (k : Ky) (w : World) (h : KyIn w pv wv k) : Calls Tryd.prog 20 #[.agg #[pv, wv, .int .i64 k.need]] w (BPost (kMay k) w) := by
  obtain ⟨pa, pc, rfl⟩ := h.parts.form
  obtain ⟨wa, wc, rfl⟩ := h.wits.form
  exact f_rmay0 pa wa _ _ pc wc k.need _ w h.parts.len h.wits.len (by simp only [kMay, wi, Bool.and_assoc])
set_option maxHeartbeats 4000000 in
theorem f_rknown (pv wv : Value) (k : Ky) (part epoch : Int) (w : World) (h : KyIn w pv wv k) : Calls Tryd.prog 35 #[.agg #[pv, wv, .int .i64 k.need], .int .i64 part, .int .i64 epoch] w (BPost (kKnown k part epoch) w) := by
  have k1 := (Kept.refl (fun _ => False) w).alloc (.cells #[pv, wv, .int .i64 k.need] 24)
  have HM := Lib.hid (f_rmay pv wv k _ (h.kept k1))
  obtain ⟨pa, pc, rfl⟩ := h.parts.form
  obtain ⟨wa, wc, rfl⟩ := h.wits.form
  have hl3 := h.parts.len
  have G1 := Lib.hid (heap_alloc_new w (.cells #[.slice pa k.parts.length pc, .slice wa k.wits.length wc, .int .i64 k.need] 24))
  have K1 := Lib.hid k1
  have HK : Hid (kKnown k part epoch = (kMay k && (decide (0 ≤ part) && (decide (part < (k.parts.length : Int)) && (decide (0 ≤ epoch) && decide (epoch ≤ 400)))))) := by
    show _ = _
    simp only [kKnown, wi, Bool.and_assoc]
    congr 3
    exact decide_eq_decide.2 (by omega)
  generalize kMay k = my at *
  obtain ⟨P, W, nd⟩ := k
  dsimp only at *
  generalize P.length = n at *
  generalize W.length = m at *
  generalize kKnown ⟨P, W, nd⟩ part epoch = b at *
  have HB := HK.out
  clear HK h k1 hl3
  subst HB
  go_enter Tryd.func35, Tryd.ntmps35
  go_upto_region 1 with (fail)
  generalize w.alloc (.cells #[.slice pa n pc, .slice wa m wc, .int .i64 nd] 24) = w1 at *
  generalize hB : w.heap.size = B at *
  cases my with
  | false =>
    have c0 := row_cell (k := 0) G1.out rfl
    have c1 := row_cell (k := 1) G1.out rfl
    have c2 := row_cell (k := 2) G1.out rfl
    go_wp2_with fail
    refine HM.out.mono ?_
    rintro e w2 ⟨rfl, k2⟩
    clear c0 c1 c2
    go_wp2_with fail
    go_ret
    exact BPost.mk rfl (K1.out.trans k2)
  | true =>
    have c0 := row_cell (k := 0) G1.out rfl
    have c1 := row_cell (k := 1) G1.out rfl
    have c2 := row_cell (k := 2) G1.out rfl
    cases d1 : decide (0 ≤ part) with
    | false => go_wp2_with fail; refine HM.out.mono ?_; rintro e w2 ⟨rfl, k2⟩; clear c0 c1 c2; go_wp2_with fail; go_ret; exact BPost.mk (by rw [d1]; rfl) (K1.out.trans k2)
    | true =>
      cases d2 : decide (part < (n : Int)) with
      | false => go_wp2_with fail; refine HM.out.mono ?_; rintro e w2 ⟨rfl, k2⟩; clear c0 c1 c2; have c0 := row_cell (k := 0) (k2.row G1.out) rfl; have K2 := Lib.hid (K1.out.trans k2); clear k2; go_wp2_with fail; go_ret; exact BPost.mk (by rw [d1, d2]; rfl) K2.out
      | true =>
        cases d3 : decide (0 ≤ epoch) with
        | false => go_wp2_with fail; refine HM.out.mono ?_; rintro e w2 ⟨rfl, k2⟩; clear c0 c1 c2; have c0 := row_cell (k := 0) (k2.row G1.out) rfl; have K2 := Lib.hid (K1.out.trans k2); clear k2; go_wp2_with fail; go_ret; exact BPost.mk (by rw [d1, d2, d3]; rfl) K2.out
        | true => go_wp2_with fail; refine HM.out.mono ?_; rintro e w2 ⟨rfl, k2⟩; clear c0 c1 c2; have c0 := row_cell (k := 0) (k2.row G1.out) rfl; have K2 := Lib.hid (K1.out.trans k2); clear k2; go_wp2_with fail; go_ret; exact BPost.mk (by rw [d1, d2, d3]; rfl) K2.out
set_option maxRecDepth 100000 in
set_option maxHeartbeats 4000000 in
theorem f_rpart (pv wv : Value) (k : Ky) (part epoch : Int) (w : World) (hL : Laid w) (h : KyIn w pv wv k) : Calls Tryd.prog 22 #[.agg #[pv, wv, .int .i64 k.need], .int .i64 part, .int .i64 epoch] w (RPost (.agg (ints .u8 (kPart k part epoch))) w) := by
  have k1 := ((Kept.refl (fun _ => False) w).alloc (.cells #[pv, wv, .int .i64 k.need] 24)).alloc (.cells Z26 26)
  have HM := Lib.hid (f_rknown pv wv k part epoch _ (h.kept k1))
  have HIn := Lib.hid (h.kept k1)
  have HL := Lib.hid (hL.kept k1)
  obtain ⟨pa, pc, rfl⟩ := h.parts.form
  obtain ⟨wa, wc, rfl⟩ := h.wits.form
  have G3 := Lib.hid (heap_alloc2_old w (.cells #[.slice pa k.parts.length pc, .slice wa k.wits.length wc, .int .i64 k.need] 24) (.cells Z26 26))
  have G6 := Lib.hid (heap_alloc2_new w (.cells #[.slice pa k.parts.length pc, .slice wa k.wits.length wc, .int .i64 k.need] 24) (.cells Z26 26))
  have K1 := Lib.hid k1
  clear h k1 hL
  cases hkn : kKnown k part epoch with
  | false =>
    have E : Hid (ints .u8 (kPart k part epoch) = Z26) := by show _ = _; rw [kPart, hkn, z26_ints]; rfl
    rw [hkn] at HM
    clear hkn
    rw [E.out]
    go_enter Tryd.func22, Tryd.ntmps22
    go_upto_region 1 with (first | fail | (with_reducible refine alloc26 ?_))
    generalize ((w.alloc (.cells #[.slice pa k.parts.length pc, .slice wa k.wits.length wc, .int .i64 k.need] 24)).alloc (.cells Z26 26)) = w1 at *
    have c0 := row_cell (k := 0) G3.out rfl
    have c1 := row_cell (k := 1) G3.out rfl
    have c2 := row_cell (k := 2) G3.out rfl
    go_wp2_with fail
    refine HM.out.mono ?_
    rintro e w2 ⟨rfl, k2⟩
    have G62 := Lib.hid (k2.row G6.out)
    have K2 := Lib.hid (K1.out.trans k2)
    have hzo : Hid (Z26.all (·.oneCell') = true) := by show _ = _; rw [z26_ints]; exact ints_one _ _
    clear k2 c0 c1 c2
    go_wp2_with (first | fail | (with_reducible refine build26 ?_) | ((with_reducible refine store26 (C := Z26) ?_ ?_ G62.out Z26_size Z26_size hzo.out ?_); rfl; rfl))
    exact bodyPost_ret (results_26 rfl _ _ _ (setRow_heap _ _ _ _ _ _ G62.out) Z26_size rfl) rfl (RPost.mk rfl (K2.out.setRow (by omega) _))
  | true =>
    obtain ⟨-, hp0, hp1, he0, he1⟩ := kKnown_iff hkn
    obtain ⟨n, rfl⟩ : ∃ n : Nat, part = n := ⟨part.toNat, by omega⟩
    have hn : n < k.parts.length := by omega
    have E : Hid (kPart k n epoch = macKey k.parts[n] [1, epoch]) := by
      show _ = _
      rw [kPart, if_pos hkn, Int.toNat_natCast, List.getD_eq_getElem?_getD, List.getElem?_eq_getElem hn]; rfl
    have H32 := Lib.hid (HIn.out.parts.each _ (List.getElem_mem hn))
    rw [hkn] at HM
    rw [E.out]
    clear hkn
    have HN := Lib.hid hn
    go_enter Tryd.func22, Tryd.ntmps22
    go_upto_region 1 with (first | fail | (with_reducible refine alloc26 ?_))
    generalize ((w.alloc (.cells #[.slice pa k.parts.length pc, .slice wa k.wits.length wc, .int .i64 k.need] 24)).alloc (.cells Z26 26)) = w1 at *
    have c0 := row_cell (k := 0) G3.out rfl
    have c1 := row_cell (k := 1) G3.out rfl
    have c2 := row_cell (k := 2) G3.out rfl
    go_wp2_with fail
    refine HM.out.mono ?_
    rintro e w2 ⟨rfl, k2⟩
    have G62 := Lib.hid (k2.row G6.out)
    have K2 := Lib.hid (K1.out.trans k2)
    have HL2 := Lib.hid (HL.out.kept k2)
    obtain ⟨b, o, c, ev, hbl, hr⟩ := (HIn.out.parts.kept k2).at hn
    simp only [Value.slice.injEq, true_and] at ev
    obtain ⟨rfl, rfl⟩ := ev
    have HR := Lib.hid hr
    have d0 := row_cell (k := 0) (k2.row G3.out) rfl
    have hsz := Lib.hid (show (ints .u8 k.parts[n]).size = 32 by rw [ints_size]; exact H32.out.1)
    have k3 := (Kept.refl (fun _ => False) w2).alloc (.cells #[.int .i64 1, .int .i64 epoch] 3)
    have hW3 : HInts (w2.alloc (.cells #[.int .i64 1, .int .i64 epoch] 3)) (.slice (some ⟨w2.heap.size, 0, none⟩) 2 2) [1, epoch] :=
      HInts.of_block (l := [1, epoch]) (heap_alloc_new w2 _) rfl (by simp) (fun z hz => by
        simp only [List.mem_cons, List.not_mem_nil, or_false] at hz
        rcases hz with rfl | rfl <;> constructor <;> omega) 2
    have HF := Lib.hid (f_rkey k.parts[n] _ [1, epoch] _ (HL2.out.kept k3) H32.out.2 H32.out.1 hW3)
    have K3 := Lib.hid (K2.out.trans k3)
    have G63 := Lib.hid (k3.row G62.out)
    have hmz := Lib.hid (show (ints .u8 (macKey k.parts[n] [1, epoch])).size = 32 by rw [ints_size]; exact sha_len _)
    have hmo := Lib.hid (ints_one .u8 (macKey k.parts[n] [1, epoch]))
    generalize hTG : ints .u8 (macKey k.parts[n] [1, epoch]) = TG at *
    generalize ints .u8 k.parts[n] = KB at *
    clear k2 c0 c1 c2 hr k3 hW3 HM H32 E
    go_wp2_with (first | fail | ((with_reducible refine load26 (C := KB) (g := b) (o := o + n * 32) ?_ HR.out hsz.out ?_); rfl))
    refine HF.out.mono ?_
    rintro e w4 ⟨rfl, k4⟩
    have G64 := Lib.hid (k4.row G63.out)
    have K4 := Lib.hid (K3.out.trans k4)
    clear k4
    go_wp2_with (first | fail | ((with_reducible refine store26 (C := TG) ?_ ?_ G64.out Z26_size hmz.out hmo.out ?_); rfl; rfl))
    exact bodyPost_ret (results_26 rfl _ _ _ (setRow_heap _ _ _ _ _ _ G64.out) hmz.out rfl) rfl (RPost.mk (congrArg Value.agg hTG.symm) (K4.out.setRow (by omega) _))
end Go.Proofs.YtklmhegmombegaaDoor
