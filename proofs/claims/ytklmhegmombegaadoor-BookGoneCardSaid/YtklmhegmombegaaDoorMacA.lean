/-
  Contracts of mac's pad, row, joined words. Conditions: as each theorem says.
  The contracts of mac's Tag and Key. Conditions: as each theorem says.
-/
import Derived.Test.YtklmhegmombegaaDoorShaF
set_option linter.unusedVariables false
set_option linter.unusedSimpArgs false
namespace Go.Proofs.YtklmhegmombegaaDoor
open Go Go.RowKit Plain

namespace Plain
/-- A key, each byte put together with another one. -/
def padK (key : List Nat) (b : Nat) : List Nat := (List.range 64).map fun i => x32 (key.getD i 0) b
/-- A number's low bytes, the highest first. -/
def beN (many N : Nat) : List Nat := (List.range many).map fun i => N / 256 ^ (many - 1 - i) % 256
/-- The bytes of a word. -/
def wordB (n : Int) : List Nat := beN 8 (n % 18446744073709551616).toNat
def tagOf (key text : List Nat) : List Nat := sha (padK key 92 ++ sha (padK key 54 ++ text))
def macKey (key : List Nat) (ws : List Int) : List Nat := tagOf key (ws.flatMap wordB)
theorem padK_len (key : List Nat) (b : Nat) : (padK key b).length = 64 := by simp [padK]
theorem beN_len (m N : Nat) : (beN m N).length = m := by simp [beN]
theorem beN_all (m N : Nat) : All8 (beN m N) := by
  intro x hx
  obtain ⟨i, _, rfl⟩ := List.mem_map.1 hx
  exact Nat.mod_lt _ (by decide)
theorem x8_lt {a b : Nat} (ha : a < 256) (hb : b < 256) : x32 a b < 256 := Nat.xor_lt_two_pow (n := 8) ha hb
theorem padK_all {key : List Nat} {b : Nat} (hk : All8 key) (hb : b < 256) : All8 (padK key b) := by
  intro x hx
  obtain ⟨i, _, rfl⟩ := List.mem_map.1 hx
  exact x8_lt (hk.getD i) hb
end Plain
theorem i_x8 {a b : Nat} (ha : a < 256) (hb : b < 256) : bits .xor .u8 (a : Int) (b : Int) = ((x32 a b : Nat) : Int) := u8_xor_nat a b ha hb
/-- A copy in a row. -/
theorem list_copy {ops : Array Oper} {rest : List Oper} {o : Oper} {a : Act} {w : World} {Q : Exit → Act → World → Prop} (hgd : o.guard = none) (d s : Operand) (dT sT : TypeId)
    (ho : o.op = .call { callee := .builtin .copy, args := #[d, s], argTypes := #[dT, sT] }) (elem : TypeId) (hu : Tryd.prog.underlying dT = some (.slice elem)) (hsz : (Tryd.prog.info? elem).map (·.size) = some 1)
    (ad : Addr) (dLen dCap sLen sCap : Nat) (g off : Nat) (hd : a.eval d = .slice (some ⟨g, off, none⟩) dLen dCap) (hs : a.eval s = .slice (some ad) sLen sCap)
    (cur : Array Value) (t : TypeId) (hg : w.heap[g]? = some (.cells cur t (0, 0))) (cs : List Value) (hn : cs.length = Nat.min sLen dLen)
    (hsrc : ∀ j v, cs[j]? = some v → w.cell? (ad.add j) = some v)
    (hfit : off + cs.length ≤ cur.size) (h1 : ∀ v ∈ cs, v.oneCell' = true) (R : Array Value) (hR : (cur.toList.take off ++ cs ++ cur.toList.drop (off + cs.length)).toArray = R)
    (h : wpList Tryd.prog ops Q rest (a.put o.dst (goInt cs.length)) (w.setRow g R)) :
    wpList Tryd.prog ops Q (o :: rest) a w := by
  subst hR
  refine wpList_plain hgd fun K hK => ?_
  have := step_copy (ops := ops) (K := K) (Q := Q) (E := True) hgd d s dT sT ho elem hu hsz ad dLen dCap sLen sCap g off hd hs cur t hg cs hn hsrc hfit h1 (hK _ _ h)
  rwa [if_pos (by simp [Region.wanted, hgd])] at this
/-- 64 noughts. -/
def Z64 : Array Value := ints .u8 (List.replicate 64 0)
theorem make64 (w : World) : (Instr.makeSlice 28 (.int .i64 64) (.int .i64 64)).run Tryd.prog w = .ok (.slice (some ⟨w.heap.size, 0, none⟩) 64 64) (w.alloc (.cells Z64 5)) := by kernel_rfl
theorem make8 (w : World) : (Instr.makeSlice 28 (.int .i64 8) (.int .i64 8)).run Tryd.prog w = .ok (.slice (some ⟨w.heap.size, 0, none⟩) 8 8) (w.alloc (.cells (ints .u8 (List.replicate 8 0)) 5)) := by kernel_rfl
theorem make4 (w : World) : (Instr.makeSlice 28 (.int .i64 4) (.int .i64 4)).run Tryd.prog w = .ok (.slice (some ⟨w.heap.size, 0, none⟩) 4 4) (w.alloc (.cells (ints .u8 (List.replicate 4 0)) 5)) := by kernel_rfl
/-- The first j of the sums, and the rest as it was. -/
def padL (key : List Nat) (b j : Nat) : List Nat := (padK key b).take j ++ (key ++ List.replicate (64 - key.length) 0).drop j
theorem padL_len {key : List Nat} {b j : Nat} (hk : key.length ≤ 64) (hj : j ≤ 64) : (padL key b j).length = 64 := by simp [padL, padK_len]; omega
theorem padL_at {key : List Nat} {b j : Nat} (hk : key.length ≤ 64) (hj : j < 64) : (padL key b j).getD j 0 = key.getD j 0 := by
  have ht : ((padK key b).take j).length = j := by rw [List.length_take, padK_len]; omega
  rw [List.getD_eq_getElem?_getD, padL, List.getElem?_append_right (by omega), ht, Nat.sub_self, List.getElem?_drop, Nat.add_zero, List.getD_eq_getElem?_getD]
  by_cases h : j < key.length
  · rw [List.getElem?_append_left h]
  · rw [List.getElem?_append_right (by omega), List.getElem?_eq_none (l := key) (by omega), List.getElem?_replicate]
    split <;> rfl
theorem padL_set {key : List Nat} {b j : Nat} (hk : key.length ≤ 64) (hj : j < 64) : (padL key b j).set j (x32 (key.getD j 0) b) = padL key b (j + 1) := by
  have ht : ((padK key b).take j).length = j := by rw [List.length_take, padK_len]; omega
  have hl : (key ++ List.replicate (64 - key.length) 0).length = 64 := by simp; omega
  have hp : (padK key b)[j]'(by rw [padK_len]; exact hj) = x32 (key.getD j 0) b := by simp [padK]
  unfold padL
  rw [List.set_append_right _ _ (by omega), ht, Nat.sub_self, List.drop_eq_getElem_cons (show j < (key ++ List.replicate (64 - key.length) 0).length by omega), List.set_cons_zero, ← List.take_append_getElem (show j < (padK key b).length by rw [padK_len]; exact hj), hp, List.append_assoc]
  rfl
theorem padL_all {key : List Nat} {b : Nat} (hk : key.length ≤ 64) : padL key b 64 = padK key b := by
  unfold padL
  rw [List.take_of_length_le (by rw [padK_len]; exact Nat.le_refl _), List.drop_of_length_le (by simp; omega), List.append_nil]
theorem padL_zero (key : List Nat) (b : Nat) (h64 : key.length ≤ 64) : (Z64.toList.take 0 ++ bys key ++ Z64.toList.drop (0 + (bys key).length)).toArray = ints .u8 (padL key b 0) := by
  unfold padL Z64 ints
  rw [bys_len, List.take_zero, List.take_zero, List.nil_append, List.nil_append, List.drop_zero, List.map_append, Nat.zero_add]
  congr 1
  rw [← List.map_drop, List.drop_replicate]
  rfl
set_option maxRecDepth 100000 in
set_option maxHeartbeats 4000000 in
theorem f_pad (v : Value) (key : List Nat) (b : Nat) (w : World) (hk : HBytes w v key) (h1 : 1 ≤ key.length) (h64 : key.length ≤ 64) (hb : b < 256) : Calls Tryd.prog 96 #[v, .int .u8 b] w (ByPost (padK key b) w) := by
  obtain ⟨kb, ko, kc, rfl, hkl, hkc⟩ := hk.addr (by omega)
  have hk8 := hk.2.1
  have HMK := Lib.hid (make64)
  have hn1 := heap_alloc_new w (.cells Z64 5)
  have k1 := (Kept.refl (fun _ => False) w).alloc (.cells Z64 5)
  have hsrc : ∀ j u, (bys key)[j]? = some u → (w.alloc (.cells Z64 5)).cell? ((⟨kb, ko, none⟩ : Addr).add j) = some u := fun j u hu => by
    rw [Addr.add_none]
    obtain ⟨n, hn, rfl⟩ := Option.map_eq_some_iff.1 (by rw [bys, List.getElem?_map] at hu; exact hu)
    have hj := (List.getElem?_eq_some_iff.1 hn).1
    have h := (k1.cell (p := ⟨kb, ko + j, none⟩) hkl id).trans (hkc j hj)
    rw [h, List.getD_eq_getElem?_getD, hn]; rfl
  have hmk := make64 w
  have G1 := Lib.hid hn1
  have K1 := Lib.hid k1
  have HSR := Lib.hid hsrc
  have HK8 := Lib.hid hk8
  have hrow : Hid (((w.alloc (.cells Z64 5)).setRow w.heap.size (ints .u8 (padL key b 0))).heap[w.heap.size]? = some (.cells (ints .u8 (padL key b 0)) 5 (0, 0))) := setRow_heap _ _ _ _ _ _ hn1
  have KR := Lib.hid (k1.setRow (Nat.le_refl _) (ints .u8 (padL key b 0)))
  have hmin : Hid ((bys key).length = Nat.min key.length 64) := by show _ = _; rw [bys_len]; exact (Nat.min_eq_left h64).symm
  have hfit : Hid (0 + (bys key).length ≤ Z64.size) := by show _ ≤ _; rw [bys_len, Z64, ints_size, List.length_replicate]; omega
  clear hn1 k1 hsrc hk8 hkc hk HMK
  go_enter Tryd.func96, Tryd.ntmps96
  go_wp2_with (first | fail | (refine list_copy rfl (.tmp 8) (.tmp 9) 28 28 rfl 5 Tryd.underlying28 Tryd.isz5 ⟨kb, ko, none⟩ 64 64 key.length kc w.heap.size 0 rfl rfl Z64 5 G1.out (bys key) hmin.out HSR.out hfit.out (bys_one key) _ (padL_zero key b h64) ?_))
  generalize (w.alloc (.cells Z64 5)).setRow w.heap.size (ints .u8 (padL key b 0)) = w2 at *
  clear G1 K1 HSR hmin hfit hmk
  go_loopw [13] (fun i wr => ∃ j : Nat, j ≤ 64 ∧ i = .int .i64 j ∧ Hid (wr.heap[w.heap.size]? = some (.cells (ints .u8 (padL key b j)) 5 (0, 0))) ∧ Kept (fun i => i = w.heap.size) w2 wr) (fun i _ => 64 - (intOf i).toNat)
  case atStart => exact ⟨0, by omega, rfl, hrow.out, Kept.refl _ _⟩
  case round =>
    obtain ⟨j, hj, rfl, HO, K⟩ := hrel
    have KJ := Lib.hid K
    by_cases hlt : j < 64
    · have co := ints_cell HO.out (i := j) (by rw [padL_len h64 hj]; exact hlt)
      rw [padL_at h64 hlt] at co
      have fo := free_of_block (j := j) HO.out
      have HST := Lib.hid (padL_set (b := b) h64 hlt)
      have hx := HK8.out.getD j
      generalize key.getD j 0 = x at *
      have e1 := i_x8 hx hb
      have hj64 : (j : Int) < 64 := by omega
      clear K
      generalize x32 x b = y at *
      go_wp2_with fail
      have HF : Hid ((wr.setCell ⟨w.heap.size, j, none⟩ (.int .u8 ((y : Nat) : Int))).heap[w.heap.size]? = some (.cells (ints .u8 (padL key b (j + 1))) 5 (0, 0))) := by
        show _ = _
        rw [setCell_block HO.out, ints_set, HST.out]
      have KF := Lib.hid (KJ.out.setCell (p := ⟨w.heap.size, j, none⟩) (.inl rfl) (.int .u8 ((y : Nat) : Int)))
      clear co fo e1
      go_roundw
      case rel => exact ⟨j + 1, by omega, by go_num, HF.out, KF.out⟩
      case measure => simp [intOf]; omega
    · obtain rfl : j = 64 := by omega
      have HF : Hid (wr.heap[w.heap.size]? = some (.cells (ints .u8 (padK key b)) 5 (0, 0))) := by
        have h := HO.out
        rw [padL_all h64] at h
        exact h
      have KF : Hid (Kept (fun _ => False) w wr) := KR.out.trans' K (fun i hi e => by omega)
      clear K
      go_wp2_with fail
      go_ret
      refine ⟨.slice (some ⟨w.heap.size, 0, none⟩) 64 64, rfl, ?_, KF.out⟩
      rw [padK_len]
      refine ⟨by rw [bys_len, padK_len], .inr ⟨w.heap.size, 64, _, rfl, Nat.le_refl _, HF.out, Nat.le_refl _, by decide, by rw [ints_size, padK_len]; exact Nat.le_refl _, ?_⟩⟩
      rw [ints_toList, List.take_of_length_le (by rw [List.length_map, padK_len]; exact Nat.le_refl _)]
      rfl

/-! ## A number's bytes -/
/-- The last j of its bytes, behind noughts. -/
def rowL (many N j : Nat) : List Nat := List.replicate (many - j) 0 ++ (beN many N).drop (many - j)
theorem rowL_len (many N : Nat) {j : Nat} (hj : j ≤ many) : (rowL many N j).length = many := by simp [rowL, beN_len, hj]
theorem rowL_set (many N : Nat) {j : Nat} (hj : j < many) : (rowL many N j).set (many - 1 - j) (N / 256 ^ j % 256) = rowL many N (j + 1) := by
  obtain ⟨m, hm⟩ : ∃ m, many - j = m + 1 := ⟨many - 1 - j, by omega⟩
  have e1 : many - 1 - j = m := by omega
  have e2 : many - (j + 1) = m := by omega
  have hb : (beN many N)[m]'(by rw [beN_len]; omega) = N / 256 ^ j % 256 := by
    simp only [beN, List.getElem_map, List.getElem_range]
    congr 3; omega
  unfold rowL
  rw [e1, e2, hm, List.drop_eq_getElem_cons (show m < (beN many N).length by rw [beN_len]; omega), hb, List.replicate_succ', List.append_assoc, List.set_append_right _ _ (by simp), List.length_replicate, Nat.sub_self]
  rfl
theorem rowL_all (many N : Nat) : rowL many N many = beN many N := by simp [rowL]
theorem i_trunc8 (N j : Nat) : IntKind.u8.wrap (((N / 256 ^ j : Nat) : Int)) = ((N / 256 ^ j % 256 : Nat) : Int) := i_u8 _
set_option maxRecDepth 100000 in
set_option maxHeartbeats 4000000 in
theorem f_row (N many : Nat) (w : World) (hN : N < 18446744073709551616) (hm : many = 8 ∨ many = 4) : Calls Tryd.prog 87 #[.int .u64 N, .int .i64 many] w (ByPost (beN many N) w) := by
  have hmk : (Instr.makeSlice 28 (.int .i64 (many : Int)) (.int .i64 (many : Int))).run Tryd.prog w = .ok (.slice (some ⟨w.heap.size, 0, none⟩) many many) (w.alloc (.cells (ints .u8 (List.replicate many 0)) 5)) := by
    rcases hm with rfl | rfl
    · exact make8 w
    · exact make4 w
  have hm8 : many ≤ 8 := by omega
  have hm1 : 1 ≤ many := by omega
  have hrow := Lib.hid (heap_alloc_new w (.cells (ints .u8 (List.replicate many 0)) 5))
  have KR := Lib.hid ((Kept.refl (fun _ => False) w).alloc (.cells (ints .u8 (List.replicate many 0)) 5))
  have hr0 : Hid (rowL many N 0 = List.replicate many 0) := by show _ = _; unfold rowL; rw [Nat.sub_zero, List.drop_of_length_le (by rw [beN_len]; exact Nat.le_refl _), List.append_nil]
  clear hm
  go_enter Tryd.func87, Tryd.ntmps87
  go_wp2_with fail
  clear hmk
  generalize w.alloc (.cells (ints .u8 (List.replicate many 0)) 5) = w2 at *
  go_loopw [0, 11] (fun x i wr => ∃ j : Nat, j ≤ many ∧ i = .int .i64 j ∧ x = .int .u64 ((N / 256 ^ j : Nat) : Int) ∧ Hid (wr.heap[w.heap.size]? = some (.cells (ints .u8 (rowL many N j)) 5 (0, 0))) ∧ Kept (fun i => i = w.heap.size) w2 wr) (fun _ i _ => many - (intOf i).toNat)
  case atStart => exact ⟨0, Nat.zero_le _, rfl, by simp, by show _ = _; rw [hr0.out]; exact hrow.out, Kept.refl _ _⟩
  case round =>
    obtain ⟨j, hj, rfl, rfl, HO, K⟩ := hrel
    have KJ := Lib.hid K
    by_cases hlt : j < many
    · obtain ⟨q, hq⟩ : ∃ q, q + j + 1 = many := ⟨many - 1 - j, by omega⟩
      have co := ints_cell HO.out (i := q) (by rw [rowL_len many N hj]; omega)
      have fo := free_of_block (j := q) HO.out
      have HST0 := rowL_set many N hlt
      rw [show many - 1 - j = q by omega] at HST0
      have HST := Lib.hid HST0
      have e1 := i_trunc8 N j
      have hle : N / 256 ^ j ≤ N := Nat.div_le_self _ _
      have HD : Hid (N / 256 ^ (j + 1) = N / 256 ^ j / 256) := by show _ = _; rw [Nat.pow_succ, Nat.div_div_eq_div_mul]
      have e2 : (many : Int) - 1 - (j : Int) = (q : Int) := by omega
      have hq2 : (q : Int) < (many : Int) := by omega
      generalize (rowL many N j).getD q 0 = old at co
      generalize N / 256 ^ j % 256 = y at *
      generalize N / 256 ^ j = x at *
      have HQ := Lib.hid hq
      clear K HST0 hq
      go_wp2_with fail
      have HF : Hid ((wr.setCell ⟨w.heap.size, q, none⟩ (.int .u8 ((y : Nat) : Int))).heap[w.heap.size]? = some (.cells (ints .u8 (rowL many N (j + 1))) 5 (0, 0))) := by
        show _ = _
        rw [setCell_block HO.out, ints_set, HST.out]
      have KF := Lib.hid (KJ.out.setCell (p := ⟨w.heap.size, q, none⟩) (.inl rfl) (.int .u8 ((y : Nat) : Int)))
      clear co fo e1 e2
      go_roundw
      case rel => exact ⟨j + 1, by omega, by go_num, by rw [HD.out]; congr 1, HF.out, KF.out⟩
      case measure => simp [intOf]; omega
    · obtain rfl : j = many := by omega
      have HF : Hid (wr.heap[w.heap.size]? = some (.cells (ints .u8 (beN j N)) 5 (0, 0))) := by
        have h := HO.out
        rw [rowL_all] at h
        exact h
      have KF : Hid (Kept (fun _ => False) w wr) := KR.out.trans' K (fun i hi e => by omega)
      have hle : N / 256 ^ j ≤ N := Nat.div_le_self _ _
      generalize N / 256 ^ j = x at *
      clear K
      go_wp2_with fail
      go_ret
      refine ⟨.slice (some ⟨w.heap.size, 0, none⟩) j j, rfl, ?_, KF.out⟩
      rw [beN_len]
      refine ⟨by rw [bys_len, beN_len, Nat.mul_one], .inr ⟨w.heap.size, j, _, rfl, Nat.le_refl _, HF.out, Nat.le_refl _, by unfold maxLen; omega, by rw [ints_size, beN_len, Nat.mul_one]; exact Nat.le_refl _, ?_⟩⟩
      rw [ints_toList, List.take_of_length_le (by rw [List.length_map, beN_len, Nat.mul_one]; exact Nat.le_refl _)]
      rfl

/-! ## Words -/
/-- The words that a slice holds. -/
def HInts (w : World) (v : Value) (l : List Int) : Prop := Rd w 1 v l.length (l.map (Value.int .i64)) ∧ l.length ≤ 1000 ∧ (∀ k, v.ownBlock = some k → k < w.heap.size) ∧ ∀ z ∈ l, -9223372036854775808 ≤ z ∧ z ≤ 9223372036854775807
theorem HInts.kept {w w' : World} {v : Value} {l : List Int} (h : HInts w v l) (k : Kept (fun _ => False) w w') : HInts w' v l := ⟨h.1.kept k (fun _ _ h => h), h.2.1, fun j e => Nat.lt_of_lt_of_le (h.2.2.1 j e) k.size, h.2.2.2⟩
theorem HInts.form {w : World} {v : Value} {l : List Int} (h : HInts w v l) : ∃ a c, v = .slice a l.length c := by obtain ⟨⟨_, a, c, e, _⟩, _⟩ := h; exact ⟨a, c, e⟩
theorem HInts.at {w : World} {v : Value} {l : List Int} (h : HInts w v l) {i : Nat} (hi : i < l.length) : ∃ b o c, v = .slice (some ⟨b, o, none⟩) l.length c ∧ w.cell? ⟨b, o + i, none⟩ = some (.int .i64 l[i]) := by
  obtain ⟨b, o, c, e, hc⟩ := h.1.addr (by omega)
  exact ⟨b, o, c, e, hc i _ (by simp [hi])⟩
theorem i_u64 (n : Int) : IntKind.u64.wrap n = (((n % 18446744073709551616).toNat : Nat) : Int) := by rw [IntKind.wrap_u64]; omega
theorem f_key1 (n : Int) (w : World) : Calls Tryd.prog 86 #[.int .i64 n] w (ByPost (wordB n) w) := by
  have e := i_u64 n
  have hlt : (n % 18446744073709551616).toNat < 18446744073709551616 := by omega
  have HR := Lib.hid (f_row (n % 18446744073709551616).toNat 8 w hlt (.inl rfl))
  have HW : Hid (wordB n = beN 8 (n % 18446744073709551616).toNat) := rfl
  generalize (n % 18446744073709551616).toNat = N at *
  go_enter Tryd.func86, Tryd.ntmps86
  go_wp2_with fail
  refine HR.out.mono ?_
  rintro e w1 ⟨v, rfl, hb, k1⟩
  have HB := Lib.hid hb
  have K1 := Lib.hid k1
  clear hb k1
  go_wp2_with fail
  go_ret
  exact ⟨v, rfl, by rw [HW.out]; exact HB.out, K1.out⟩
theorem wordB_len (n : Int) : (wordB n).length = 8 := beN_len _ _
theorem words_len (l : List Int) : (l.flatMap wordB).length = 8 * l.length := by
  induction l with
  | nil => rfl
  | cons x l ih => rw [List.flatMap_cons, List.length_append, ih, wordB_len, List.length_cons]; omega
theorem words_all (l : List Int) : All8 (l.flatMap wordB) := by
  intro x hx
  obtain ⟨n, _, hx⟩ := List.mem_flatMap.1 hx
  exact beN_all _ _ x hx
theorem words_succ {l : List Int} {k : Nat} (h : k < l.length) : (l.take (k + 1)).flatMap wordB = (l.take k).flatMap wordB ++ wordB l[k] := by
  rw [← List.take_append_getElem h, List.flatMap_append]; simp
set_option maxRecDepth 100000 in
set_option maxHeartbeats 4000000 in
theorem f_joinedI (v : Value) (l : List Int) (w : World) (hv : HInts w v l) : Calls Tryd.prog 85 #[v, .func (.func 86) #[] #[]] w (ByPost (l.flatMap wordB) w) := by
  obtain ⟨i5, hi, hsz, hby, hz⟩ := info5'
  obtain ⟨a, c, rfl⟩ := hv.form
  have hl := hv.2.1
  have HV := Lib.hid hv
  clear hv
  go_enter Tryd.func85, Tryd.ntmps85
  go_wp2_with fail
  go_loopw [5, 10] (fun x j wr => ∃ k : Nat, k ≤ l.length ∧ j = .int .i64 k ∧ Hid (Buf wr w.heap.size 5 1 x (8 * k) (bys ((l.take k).flatMap wordB))) ∧ Kept (fun _ => False) w wr) (fun _ j _ => l.length - (intOf j).toNat)
  case atStart => exact ⟨0, Nat.zero_le _, rfl, Buf.nil _ _ _ _, Kept.refl _ _⟩
  case round =>
    obtain ⟨k, hk, rfl, HB, K⟩ := hrel
    have KR := Lib.hid K
    obtain ⟨av, cv, rfl, _⟩ := HB.out.form
    by_cases hlt : k < l.length
    · obtain ⟨b1, o1, c1, e1, x0⟩ := (HV.out.kept K).at hlt
      simp only [Value.slice.injEq, true_and] at e1
      obtain ⟨rfl, rfl⟩ := e1
      have HS := Lib.hid (words_succ hlt)
      have HF := Lib.hid (f_key1 l[k])
      generalize l[k] = z at x0 HS HF
      clear K
      go_wp2_with fail
      refine (HF.out _).mono ?_
      rintro e w3 ⟨v3, rfl, hb3, k3⟩
      rw [wordB_len] at hb3
      have hsrc := Lib.hid (show Src Tryd.prog 1 28 v3 8 (bys (wordB z)) w3 from by
        have h := (Buf.bytes (l := wordB z) (by rw [wordB_len]; exact hb3) (beN_all _ _)).src
        rw [wordB_len] at h; exact h)
      have HB3 := Lib.hid (HB.out.kept k3 (fun _ _ h => h))
      have K3 := Lib.hid (KR.out.trans k3)
      have HWS := Lib.hid K3.out.size
      obtain ⟨a3, c3, rfl, -, -⟩ := hb3.form
      clear hb3 k3
      go_wp2_with (first | fail | (at_builtin; refine wpList_append_buf _ rfl (.tmp 14) (.tmp 17) 28 28 rfl w.heap.size 5 i5 (.int .u8 0) 1 1 Tryd.underlying28 hi hz hsz hby rfl (by decide) _ _ _ rfl HB3.out _ _ _ rfl hsrc.out (by unfold maxLen; omega) (by omega) HWS.out ?_; intro v' w' hb' hg' ho' hn'; have HB4 := Lib.hid hb'; have HG4 := Lib.hid hg'; clear hb' hg' ho' hn'))
      have HB5 : Hid (Buf w' w.heap.size 5 1 v' (8 * (k + 1)) (bys ((l.take (k + 1)).flatMap wordB))) := by
        show Buf _ _ _ _ _ _ _
        rw [HS.out, bys_app]
        exact HB4.out
      have KF : Hid (Kept (fun _ => False) w w') := K3.out.grown HG4.out (fun j hj => .inr (HB.out.lt j hj).1)
      go_roundw
      case rel => exact ⟨k + 1, by omega, by go_num, HB5.out, KF.out⟩
      case measure => simp [intOf]; omega
    · obtain rfl : k = l.length := by omega
      have HBF : Hid (Buf wr w.heap.size 5 1 (.slice av (8 * l.length) cv) (l.flatMap wordB).length (bys (l.flatMap wordB))) := by
        have h := HB.out
        rw [List.take_length] at h
        show Buf _ _ _ _ _ _ _
        rw [words_len]
        exact h
      clear K
      go_wp2_with fail
      go_ret
      exact ⟨_, rfl, HBF.out, KR.out⟩
end Go.Proofs.YtklmhegmombegaaDoor
namespace Go.Proofs.YtklmhegmombegaaDoor
open Go Go.RowKit Plain

theorem HParts.of_block {w : World} {g : Nat} {t : TypeId} {cur : Array Value} {ps : List (Value × List Nat)} (hg : w.heap[g]? = some (.cells cur t (0, 0))) (h : cur.toList.take ps.length = ps.map (·.1)) (hn : ps.length ≤ cur.size) (hp : ∀ p ∈ ps, HBytes w p.1 p.2) (hl : ps.length ≤ maxLen) (cap : Nat) :
    HParts w (.slice (some ⟨g, 0, none⟩) ps.length cap) ps := by
  refine ⟨?_, hp, hl, fun k e => ?_⟩
  · have := Rd.of_block hg 1 ps.length cap (by omega)
    rw [Nat.mul_one, h] at this
    exact this
  · simp only [Value.ownBlock, Option.some.injEq] at e
    subst e
    exact row_lt hg
theorem HParts.of_buf {w : World} {base : Nat} {t : TypeId} {v : Value} {ps : List (Value × List Nat)} (h : Buf w base t 1 v ps.length (ps.map (·.1))) (hp : ∀ p ∈ ps, HBytes w p.1 p.2) (hl : ps.length ≤ maxLen) : HParts w v ps :=
  ⟨h.rd, hp, hl, fun k e => (h.lt k e).2⟩
theorem HBytes.one {w : World} {v : Value} {l : List Nat} (h : HBytes w v l) : v.oneCell' = true := by obtain ⟨a, c, rfl⟩ := h.form; rfl
theorem HBytes.same {w w' : World} {v : Value} {l : List Nat} (h : HBytes w v l) (hb : ∀ k, v.ownBlock = some k → l ≠ [] → w'.heap[k]? = w.heap[k]?) (hs : w.heap.size ≤ w'.heap.size) : HBytes w' v l := by
  refine ⟨?_, h.2.1, h.2.2.1, fun k e hn => Nat.lt_of_lt_of_le (h.2.2.2 k e hn) hs⟩
  by_cases h0 : l = []
  · obtain ⟨hl, a, c, e, hh⟩ := h.1
    exact ⟨hl, a, c, e, hh.imp id fun ⟨ad, e1, _⟩ => ⟨ad, e1, fun j u hu => by subst h0; simp at hu⟩⟩
  · exact h.1.same fun a ha u hu => (World.cell?_of_block (w := w) (hb _ ha h0)).trans hu
/-- A hash in its block, as bytes. -/
theorem HBytes.hash {w : World} {g : Nat} {t : TypeId} {l : List Nat} (hg : w.heap[g]? = some (.cells (ints .u8 l) t (0, 0))) (h8 : All8 l) (hl : l.length ≤ maxLen) (c : Nat) : HBytes w (.slice (some ⟨g, 0, none⟩) l.length c) l := by
  have := Rd.of_block hg 1 l.length c (by rw [ints_size]; omega)
  rw [ints_toList, Nat.mul_one, List.take_of_length_le (by simp)] at this
  exact ⟨this, h8, hl, fun k e _ => by simp only [Value.ownBlock, Option.some.injEq] at e; subst e; exact row_lt hg⟩
theorem Tryd.ifull28 : (Tryd.prog.info? 28).map (fun i => (i.size, i.bytes, i.zero)) = some (1, 24, some (.slice none 0 0)) := by kernel_rfl
theorem info28' : ∃ i, Tryd.prog.info? 28 = some i ∧ i.size = 1 ∧ i.bytes = 24 ∧ i.zero = some (.slice none 0 0) := by
  obtain ⟨i, hi, hb⟩ := Option.map_eq_some_iff.1 Tryd.ifull28
  simp only [Prod.mk.injEq] at hb
  exact ⟨i, hi, hb.1, hb.2.1, hb.2.2⟩
theorem HParts.src {w : World} {v : Value} {ps : List (Value × List Nat)} (h : HParts w v ps) : Src Tryd.prog 1 111 v ps.length (ps.map (·.1)) w := h.1.src Tryd.underlying111 (fun u hu => by
  obtain ⟨p, hp, rfl⟩ := List.mem_map.1 hu
  exact (h.2.1 p hp).one)
set_option maxRecDepth 100000 in
set_option maxHeartbeats 8000000 in
theorem f_tag (kv pv : Value) (key : List Nat) (ps : List (Value × List Nat)) (w : World) (hL : Laid w) (hk : HBytes w kv key) (h1 : 1 ≤ key.length) (h64 : key.length ≤ 64) (hP : HParts w pv ps) (hps : ps.length ≤ 1000) (ht : (ps.flatMap (·.2)).length ≤ 1000000) :
    Calls Tryd.prog 61 #[kv, pv] w (RPost (.agg (ints .u8 (tagOf key (ps.flatMap (·.2))))) w) := by
  obtain ⟨i28, hi, hsz, hby, hz⟩ := info28'
  obtain ⟨ka, kc, rfl⟩ := hk.form
  obtain ⟨pa, pc, rfl⟩ := hP.form
  have g4 := Lib.hid (heap_alloc_new w (.cells Z26 26))
  have K1 := Lib.hid ((Kept.refl (fun _ => False) w).alloc (.cells Z26 26))
  have HK := Lib.hid (hk.kept K1.out)
  have HP := Lib.hid (hP.kept K1.out)
  have HL := Lib.hid (hL.kept K1.out)
  have hpa54 := Lib.hid (padK_all (b := 54) hk.2.1 (by decide))
  have hpa92 := Lib.hid (padK_all (b := 92) hk.2.1 (by decide))
  have hgt : ¬ (64 < (key.length : Int)) := by omega
  have hL0 := Lib.hid hL
  clear hk hP hL
  go_enter Tryd.func61, Tryd.ntmps61
  go_wp2_with (first | fail | (with_reducible refine alloc26 ?_))
  generalize w.alloc (.cells Z26 26) = w1 at *
  refine (f_pad _ key 54 w1 HK.out h1 h64 (by decide)).mono ?_
  rintro e w2 ⟨v1, rfl, hb1, k2⟩
  have K2 := Lib.hid (K1.out.trans k2)
  have G42 := Lib.hid (k2.row g4.out)
  have HK2 := Lib.hid (HK.out.kept k2)
  have HP2 := Lib.hid (HP.out.kept k2)
  have HL2 := Lib.hid (HL.out.kept k2)
  have HX1 := Lib.hid (Buf.bytes hb1 hpa54.out)
  have hn3 := heap_alloc_new w2 (.cells #[v1] 28)
  have k3 := (Kept.refl (fun _ => False) w2).alloc (.cells #[v1] 28)
  have hs3 : (w2.alloc (.cells #[v1] 28)).heap.size = w2.heap.size + 1 := by simp
  have hone := HX1.out.one
  rw [padK_len] at hb1
  obtain ⟨a1, c1, rfl, -, -⟩ := hb1.form
  have HB3 : Hid (Buf (w2.alloc (.cells #[.slice a1 64 c1] 28)) w2.heap.size 28 1 (.slice (some ⟨w2.heap.size, 0, none⟩) 1 1) 1 [.slice a1 64 c1]) :=
    ⟨rfl, .inr ⟨w2.heap.size, 1, _, rfl, Nat.le_refl _, hn3, Nat.le_refl _, by decide, by simp, rfl⟩⟩
  have HLT : Hid (∀ p ∈ ((.slice a1 64 c1, padK key 54) : Value × List Nat) :: ps, ∀ k, p.1.ownBlock = some k → p.2 ≠ [] → k < w2.heap.size) := fun p hp k e hn => by
    rcases List.mem_cons.1 hp with rfl | hp
    · exact HX1.out.2.2.2 k e hn
    · exact (HP2.out.2.1 p hp).2.2.2 k e hn
  have hkb : Hid (∀ k, (Value.slice ka key.length kc).ownBlock = some k → key ≠ [] → k < w2.heap.size) := fun k e hn => HK2.out.2.2.2 k e hn
  have hw42 : w.heap.size < w2.heap.size := row_lt G42.out
  have HX3 := Lib.hid (HX1.out.kept k3)
  have K3 := Lib.hid (K2.out.trans k3)
  have G43 := Lib.hid (k3.row G42.out)
  have HK3 := Lib.hid (HK2.out.kept k3)
  have HP3 := Lib.hid (HP2.out.kept k3)
  have HL3 := Lib.hid (HL2.out.kept k3)
  have HS3 := Lib.hid HP3.out.src
  have hws3 : w2.heap.size ≤ (w2.alloc (.cells #[.slice a1 64 c1] 28)).heap.size := by omega
  have HWS3 := Lib.hid hws3
  clear hn3 k3 hs3 hb1 k2 G42 HK2 HP2 HL2 K2 HK HP HL g4 hws3 K1
  go_wp2_with (first | fail | (at_builtin; refine wpList_append_buf _ rfl (.tmp 16) (.tmp 17) 111 111 rfl w2.heap.size 28 i28 (.slice none 0 0) 1 24 Tryd.underlying111 hi hz hsz hby rfl (by decide) (.slice (some ⟨w2.heap.size, 0, none⟩) 1 1) 1 [.slice a1 64 c1] rfl HB3.out (.slice pa ps.length pc) ps.length (ps.map (·.1)) rfl HS3.out (by unfold maxLen; omega) (by omega) HWS3.out ?_; intro v4 w4 hb4 hg4 ho4 hn4; have HB4 := Lib.hid hb4; have HG4 := Lib.hid hg4; clear hb4 hg4 ho4 hn4))
  have hkeep : ∀ k, k < w2.heap.size → w4.heap[k]? = (w2.alloc (.cells #[.slice a1 64 c1] 28)).heap[k]? := fun k hk => HG4.out.block k (by simp; omega) (fun e => by simp only [Value.ownBlock, Option.some.injEq] at e; omega)
  have KW4 : Hid (Kept (fun _ => False) w w4) := K3.out.grown HG4.out (fun j hj => by simp only [Value.ownBlock, Option.some.injEq] at hj; exact .inr (by omega))
  have hsz4 : (w2.alloc (.cells #[.slice a1 64 c1] 28)).heap.size ≤ w4.heap.size := HG4.out.size
  have G44 : Hid (w4.heap[w.heap.size]? = some (.cells Z26 26 (0, 0))) := (hkeep _ hw42).trans G43.out
  have HK4 : Hid (HBytes w4 (.slice ka key.length kc) key) := HK3.out.same (fun k e hn => hkeep k (hkb.out k e hn)) hsz4
  have HL4 := Lib.hid (hL0.out.kept KW4.out)
  have HP4 : Hid (HParts w4 v4 (((.slice a1 64 c1, padK key 54) : Value × List Nat) :: ps)) := HParts.of_buf (by
      have h := HB4.out
      rw [Nat.add_comm] at h
      exact h) (fun p hp => by
      have h3 : HBytes (w2.alloc (.cells #[.slice a1 64 c1] 28)) p.1 p.2 := by
        rcases List.mem_cons.1 hp with rfl | hp
        · exact HX3.out
        · exact HP3.out.2.1 p hp
      exact h3.same (fun k e hn => hkeep k (HLT.out p hp k e hn)) hsz4) (by simp; unfold maxLen; omega)
  have HT4 : Hid ((((.slice a1 64 c1, padK key 54) : Value × List Nat) :: ps).flatMap (·.2) = padK key 54 ++ ps.flatMap (·.2)) := rfl
  have HSM := Lib.hid (f_sum v4 _ w4 HL4.out HP4.out (by rw [HT4.out, List.length_append, padK_len]; omega))
  rw [HT4.out] at HSM
  clear hkeep hsz4 HP3 HK3 HL3 G43 HB3 HX3 HS3 HLT hkb HG4 HB4 K3 HP4 HT4 HWS3
  go_wp2_with fail
  refine HSM.out.mono ?_
  rintro e w5 ⟨rfl, k5⟩
  have KW5 := Lib.hid (KW4.out.trans k5)
  have G45 := Lib.hid (k5.row G44.out)
  have HK5 := Lib.hid (HK4.out.kept k5)
  have HL5 := Lib.hid (HL4.out.kept k5)
  have HTG : Hid (tagOf key (ps.flatMap (·.2)) = sha (padK key 92 ++ sha (padK key 54 ++ ps.flatMap (·.2)))) := rfl
  have hs32 := Lib.hid (sha_len (padK key 54 ++ ps.flatMap (·.2)))
  have hs8 := Lib.hid (sha_all (padK key 54 ++ ps.flatMap (·.2)))
  generalize sha (padK key 54 ++ ps.flatMap (·.2)) = inn at *
  have HC5 := Lib.hid (show (ints .u8 inn).size = 32 by rw [ints_size, hs32.out])
  have HO5 := Lib.hid (ints_one .u8 inn)
  have z6 := Lib.hid (heap_alloc_new w5 (.cells Z26 26))
  obtain ⟨y6, k6⟩ := alloc_set w5 Z26 (ints .u8 inn) 26
  have Y6 := Lib.hid y6
  have K6 := Lib.hid k6
  have hw45 : w.heap.size < w5.heap.size := row_lt G45.out
  clear k5 y6 k6 HSM G44 HK4 HL4 KW4
  go_upto_region 5 with (first | fail | (with_reducible refine alloc26 ?_) | ((with_reducible refine store26 (C := ints .u8 inn) ?_ ?_ z6.out Z26_size HC5.out HO5.out ?_); rfl; rfl))
  generalize (w5.alloc (.cells Z26 26)).setRow w5.heap.size (ints .u8 inn) = w6 at *
  have KW6 := Lib.hid (KW5.out.trans K6.out)
  have G46 := Lib.hid (K6.out.row G45.out)
  have HK6 := Lib.hid (HK5.out.kept K6.out)
  have HL6 := Lib.hid (HL5.out.kept K6.out)
  generalize w5.heap.size = g6 at *
  clear z6 G45 HK5 HL5 KW5 K6
  have hS0 : True := trivial
  refine wp_region_held_drew (S := fun w' => True) (by kernel_rfl) hS0 (fun hHeld => ?_)
  have KW7 : Hid (Kept (fun _ => False) w w6.drew) := KW6.out.drew
  have G47 : Hid (w6.drew.heap[w.heap.size]? = some (.cells Z26 26 (0, 0))) := G46.out
  have Y7 : Hid (w6.drew.heap[g6]? = some (.cells (ints .u8 inn) 26 (0, 0))) := Y6.out
  have k67 := (Kept.refl (fun _ => False) w6).drew
  have HK7 := Lib.hid (HK6.out.kept k67)
  have HL7 := Lib.hid (HL6.out.kept k67)
  clear KW6 G46 Y6 HK6 HL6 k67
  generalize w6.drew = w7 at *
  refine wpAnyH_take (i := 0) (oi := ⟨some 20, _, _, _, _, _⟩) (v := .slice ka key.length kc) rfl (by kernel_rfl) (by kernel_rfl) (by kernel_rfl) (fun _ _ _ h => h) (Or.inl ⟨by kernel_rfl, fun w' hS => by go_simp⟩) (by assumption) ?_
  try simp only [Act.put, List.setIfInBounds_toArray, List.set_cons_succ, List.set_cons_zero]
  refine wpAnyH_take (i := 2) (oi := ⟨some 22, _, _, _, _, _⟩) (v := .slice (some ⟨g6, 0, none⟩) 32 32) rfl (by kernel_rfl) (by kernel_rfl) (by kernel_rfl) (fun _ _ _ h => h) (Or.inl ⟨by kernel_rfl, fun w' hS => by go_simp⟩) (by assumption) ?_
  try simp only [Act.put, List.setIfInBounds_toArray, List.set_cons_succ, List.set_cons_zero]
  refine wpAnyH_ready (rs := [1]) (by kernel_rfl) (by simp) ?_
  refine AllReadyH.cons (o := _) rfl (fun K hK => ?_) AllReadyH.nil
  go_simp
  refine (f_pad _ key 92 w7 HK7.out h1 h64 (by decide)).mono ?_
  rintro e w8 ⟨v8, rfl, hb8, k8⟩
  have HX8 := Lib.hid (Buf.bytes hb8 hpa92.out)
  have KW8 := Lib.hid (KW7.out.trans k8)
  have G48 := Lib.hid (k8.row G47.out)
  have Y8 := Lib.hid (k8.row Y7.out)
  have HL8 := Lib.hid (HL7.out.kept k8)
  have HI8 : Hid (HBytes w8 (.slice (some ⟨g6, 0, none⟩) 32 32) inn) := by
    have h := HBytes.hash Y8.out hs8.out (by rw [hs32.out]; decide) 32
    rwa [hs32.out] at h
  rw [padK_len] at hb8
  obtain ⟨a8, c8, rfl, -, -⟩ := hb8.form
  clear hb8 k8 KW7 G47 Y7 HL7
  go_wp2_with fail
  refine hK.out _ _ trivial (fun hHeld => ?_)
  clear hK K
  try simp only [Act.put, List.setIfInBounds_toArray, List.set_cons_succ, List.set_cons_zero]
  refine wpAnyH_ready (rs := [3]) (by kernel_rfl) (by simp) ?_
  refine AllReadyH.cons (o := _) rfl (fun K hK => ?_) AllReadyH.nil
  have hn9 := heap_alloc_new w8 (.cells #[(Value.slice a8 64 c8), .slice (some ⟨g6, 0, none⟩) 32 32] 28)
  have k9 := (Kept.refl (fun _ => False) w8).alloc (.cells #[(Value.slice a8 64 c8), .slice (some ⟨g6, 0, none⟩) 32 32] 28)
  go_simp
  have HP9 : Hid (HParts (w8.alloc (.cells #[(Value.slice a8 64 c8), .slice (some ⟨g6, 0, none⟩) 32 32] 28)) (.slice (some ⟨w8.heap.size, 0, none⟩) 2 2) [((Value.slice a8 64 c8), padK key 92), (.slice (some ⟨g6, 0, none⟩) 32 32, inn)]) :=
    HParts.of_block (ps := [((Value.slice a8 64 c8), padK key 92), (.slice (some ⟨g6, 0, none⟩) 32 32, inn)]) hn9 rfl (by simp) (fun p hp => by
      rcases List.mem_cons.1 hp with rfl | hp
      · exact HX8.out.kept k9
      · obtain rfl := List.mem_singleton.1 hp
        exact HI8.out.kept k9) (by simp; decide) 2
  have KW9 := Lib.hid (KW8.out.trans k9)
  have G49 := Lib.hid (k9.row G48.out)
  have HL9 := Lib.hid (HL8.out.kept k9)
  have HT9 : Hid ([((Value.slice a8 64 c8), padK key 92), ((.slice (some ⟨g6, 0, none⟩) 32 32, inn) : Value × List Nat)].flatMap (·.2) = padK key 92 ++ inn) := by show _ = _; simp
  have HSM := Lib.hid (f_sum _ _ _ HL9.out HP9.out (by rw [HT9.out, List.length_append, padK_len, hs32.out]; decide))
  rw [HT9.out, ← HTG.out] at HSM
  refine hK.out _ _ trivial (fun hHeld => ?_)
  clear hK K hn9 k9 HX8 KW8 G48 Y8 HL8 HI8
  try simp only [Act.put, List.setIfInBounds_toArray, List.set_cons_succ, List.set_cons_zero]
  refine wpAnyH_ready (rs := [4]) (by kernel_rfl) (by simp) ?_
  refine AllReadyH.cons (o := _) rfl (fun K hK => ?_) AllReadyH.nil
  go_simp
  refine HSM.out.mono ?_
  rintro e w10 ⟨rfl, k10⟩
  have KW10 := Lib.hid (KW9.out.trans k10)
  have G410 := Lib.hid (k10.row G49.out)
  have hct := Lib.hid (show (ints .u8 (tagOf key (ps.flatMap (·.2)))).size = 32 by rw [ints_size, HTG.out, sha_len])
  have hot := Lib.hid (ints_one .u8 (tagOf key (ps.flatMap (·.2))))
  generalize hTG : ints .u8 (tagOf key (ps.flatMap (·.2))) = TG at *
  clear k10 KW9 G49 HSM HP9 HT9 HL9
  go_wp2_with fail
  refine hK.out _ _ trivial (fun hHeld => ?_)
  clear hK K
  try simp only [Act.put, List.setIfInBounds_toArray, List.set_cons_succ, List.set_cons_zero]
  refine wpAnyH_ready (rs := [5]) (by kernel_rfl) (by simp) ?_
  refine AllReadyH.cons (o := _) rfl (fun K hK => ?_) AllReadyH.nil
  refine step_store26 (C := TG) (g := w.heap.size) (o := 0) (by kernel_rfl) rfl rfl hct.out hot.out G410.out (by rw [Z26_size]; decide) ?_
  intro wn Yn kn
  rw [puts_all (by rw [Z26_size, hct.out])] at Yn
  have KWn : Kept (fun _ => False) w wn := KW10.out.trans' kn (fun i hi e => by omega)
  refine hK.out _ _ trivial (fun hHeld => ?_)
  clear hK K
  try simp only [Act.put, List.setIfInBounds_toArray, List.set_cons_succ, List.set_cons_zero]
  refine wpAnyH_done (by kernel_rfl) ?_ _
  have HYN := Lib.hid Yn
  have HKN := Lib.hid KWn
  clear Yn KWn kn
  go_wp2_with fail
  exact bodyPost_ret (results_26 rfl _ _ _ HYN.out hct.out rfl) rfl (RPost.mk (by first | rfl | rw [hTG]) HKN.out)
theorem tag_len (key t : List Nat) : (tagOf key t).length = 32 := sha_len _
theorem tag_all (key t : List Nat) : All8 (tagOf key t) := sha_all _
set_option maxRecDepth 100000 in
set_option maxHeartbeats 8000000 in
theorem f_key (key : List Nat) (wv : Value) (ws : List Int) (w : World) (hL : Laid w) (h8 : All8 key) (hkl : key.length = 32) (hW : HInts w wv ws) :
    Calls Tryd.prog 55 #[.agg (ints .u8 key), wv] w (RPost (.agg (ints .u8 (macKey key ws))) w) := by
  obtain ⟨wa, wc, rfl⟩ := hW.form
  obtain ⟨g2, g4⟩ := (⟨heap_alloc2_old w (.cells (ints .u8 key) 26) (.cells Z26 26), heap_alloc2_new w (.cells (ints .u8 key) 26) (.cells Z26 26)⟩ : _ ∧ _)
  have hwl := Lib.hid hW.2.1
  have G2 := Lib.hid g2
  have G4 := Lib.hid g4
  have K1 := Lib.hid (((Kept.refl (fun _ => False) w).alloc (.cells (ints .u8 key) 26)).alloc (.cells Z26 26))
  have HW := Lib.hid (hW.kept K1.out)
  have HL := Lib.hid (hL.kept K1.out)
  have HKL := Lib.hid hkl
  have HK8 := Lib.hid h8
  have hcs := Lib.hid (show (ints .u8 key).size = 32 by rw [ints_size, hkl])
  have hon := Lib.hid (ints_one .u8 key)
  have HMK : Hid (macKey key ws = tagOf key (ws.flatMap wordB)) := rfl
  have HWA := Lib.hid (words_all ws)
  have HWL := Lib.hid (words_len ws)
  have hws : (ws.flatMap wordB).length ≤ 8000 := by rw [HWL.out]; have := hwl.out; omega
  generalize htx : ws.flatMap wordB = tx at *
  have HTX := Lib.hid htx
  clear htx
  clear hW hL hkl h8 g2 g4
  go_enter Tryd.func55, Tryd.ntmps55
  go_upto_region 1 with (first | fail | (with_reducible refine alloc26 ?_))
  generalize (w.alloc (.cells (ints .u8 key) 26)).alloc (.cells Z26 26) = w1 at *
  refine wp_region_held_drew (S := fun w' => True) (by kernel_rfl) trivial (fun hHeld => ?_)
  have KW2 : Hid (Kept (fun _ => False) w w1.drew) := K1.out.drew
  have G42 : Hid (w1.drew.heap[w.heap.size + 1]? = some (.cells Z26 26 (0, 0))) := G4.out
  have G22 : Hid (w1.drew.heap[w.heap.size]? = some (.cells (ints .u8 key) 26 (0, 0))) := G2.out
  have k12 := (Kept.refl (fun _ => False) w1).drew
  have HW2 := Lib.hid (HW.out.kept k12)
  have HL2 := Lib.hid (HL.out.kept k12)
  clear K1 G4 G2 HW HL k12
  generalize w1.drew = w2 at *
  refine wpAnyH_take (i := 0) (oi := ⟨some 5, _, _, _, _, _⟩) (v := .slice (some ⟨w.heap.size, 0, none⟩) 32 32) rfl (by kernel_rfl) (by kernel_rfl) (by kernel_rfl) (fun _ _ _ h => h) (Or.inl ⟨by kernel_rfl, fun w' hS => by go_simp⟩) (by assumption) ?_
  try simp only [Act.put, List.setIfInBounds_toArray, List.set_cons_succ, List.set_cons_zero]
  refine wpAnyH_take (i := 1) (oi := ⟨some 6, _, _, _, _, _⟩) (v := .slice wa ws.length wc) rfl (by kernel_rfl) (by kernel_rfl) (by kernel_rfl) (fun _ _ _ h => h) (Or.inl ⟨by kernel_rfl, fun w' hS => by go_simp⟩) (by assumption) ?_
  try simp only [Act.put, List.setIfInBounds_toArray, List.set_cons_succ, List.set_cons_zero]
  refine wpAnyH_ready (rs := [2]) (by kernel_rfl) (by simp) ?_
  refine AllReadyH.cons (o := _) rfl (fun K hK => ?_) AllReadyH.nil
  have HF := Lib.hid (f_joinedI _ ws w2 HW2.out)
  go_simp
  refine HF.out.mono ?_
  rintro e w3 ⟨v3, rfl, hb3, k3⟩
  rw [HTX.out] at hb3
  have HX3 := Lib.hid (Buf.bytes hb3 HWA.out)
  have KW3 := Lib.hid (KW2.out.trans k3)
  have G43 := Lib.hid (k3.row G42.out)
  have HL3 := Lib.hid (HL2.out.kept k3)
  have HK3 : Hid (HBytes w3 (.slice (some ⟨w.heap.size, 0, none⟩) 32 32) key) := by
    have h := HBytes.hash (k3.row G22.out) HK8.out (by rw [HKL.out]; decide) 32
    rwa [HKL.out] at h
  obtain ⟨a3, c3, rfl, -, -⟩ := hb3.form
  have hn4 := heap_alloc_new w3 (.cells #[.slice a3 tx.length c3] 28)
  have k4 := (Kept.refl (fun _ => False) w3).alloc (.cells #[.slice a3 tx.length c3] 28)
  have HP4 : Hid (HParts (w3.alloc (.cells #[.slice a3 tx.length c3] 28)) (.slice (some ⟨w3.heap.size, 0, none⟩) 1 1) [(.slice a3 tx.length c3, tx)]) :=
    HParts.of_block (ps := [(.slice a3 tx.length c3, tx)]) hn4 rfl (by simp) (fun p hp => by
      obtain rfl := List.mem_singleton.1 hp
      exact HX3.out.kept k4) (by simp; decide) 1
  have KW4 := Lib.hid (KW3.out.trans k4)
  have G44 := Lib.hid (k4.row G43.out)
  have HL4 := Lib.hid (HL3.out.kept k4)
  have HK4 := Lib.hid (HK3.out.kept k4)
  have HT4 : Hid ([((.slice a3 tx.length c3, tx) : Value × List Nat)].flatMap (·.2) = tx) := by show _ = _; simp
  have HTG := Lib.hid (f_tag _ _ key _ _ HL4.out HK4.out (by rw [HKL.out]; decide) (by rw [HKL.out]; decide) HP4.out (by simp) (by rw [HT4.out]; omega))
  rw [HT4.out, ← HMK.out] at HTG
  clear hb3 k3 HW2 HL2 G42 G22 KW2 HF KW3 G43 HL3 HK3 HX3 k4 hn4 HP4 HT4
  go_wp2_with fail
  refine hK.out _ _ trivial (fun hHeld => ?_)
  clear hK K
  try simp only [Act.put, List.setIfInBounds_toArray, List.set_cons_succ, List.set_cons_zero]
  refine wpAnyH_ready (rs := [3]) (by kernel_rfl) (by simp) ?_
  refine AllReadyH.cons (o := _) rfl (fun K hK => ?_) AllReadyH.nil
  go_simp
  refine hK.out _ _ trivial (fun hHeld => ?_)
  clear hK K
  try simp only [Act.put, List.setIfInBounds_toArray, List.set_cons_succ, List.set_cons_zero]
  refine wpAnyH_ready (rs := [4]) (by kernel_rfl) (by simp) ?_
  refine AllReadyH.cons (o := _) rfl (fun K hK => ?_) AllReadyH.nil
  go_simp
  refine HTG.out.mono ?_
  rintro e w5 ⟨rfl, k5⟩
  have KW5 := Lib.hid (KW4.out.trans k5)
  have G45 := Lib.hid (k5.row G44.out)
  have hct := Lib.hid (show (ints .u8 (macKey key ws)).size = 32 by rw [ints_size, HMK.out, tag_len])
  have hot := Lib.hid (ints_one .u8 (macKey key ws))
  generalize hTG : ints .u8 (macKey key ws) = TG at *
  clear k5 KW4 G44 HTG HL4 HK4
  go_wp2_with fail
  refine hK.out _ _ trivial (fun hHeld => ?_)
  clear hK K
  try simp only [Act.put, List.setIfInBounds_toArray, List.set_cons_succ, List.set_cons_zero]
  refine wpAnyH_ready (rs := [5]) (by kernel_rfl) (by simp) ?_
  refine AllReadyH.cons (o := _) rfl (fun K hK => ?_) AllReadyH.nil
  refine step_store26 (C := TG) (g := w.heap.size + 1) (o := 0) (by kernel_rfl) rfl rfl hct.out hot.out G45.out (by rw [Z26_size]; decide) ?_
  intro wn Yn kn
  rw [puts_all (by rw [Z26_size, hct.out])] at Yn
  have KWn : Kept (fun _ => False) w wn := KW5.out.trans' kn (fun i hi e => by omega)
  refine hK.out _ _ trivial (fun hHeld => ?_)
  clear hK K
  try simp only [Act.put, List.setIfInBounds_toArray, List.set_cons_succ, List.set_cons_zero]
  refine wpAnyH_done (by kernel_rfl) ?_ _
  have HYN := Lib.hid Yn
  have HKN := Lib.hid KWn
  clear Yn KWn kn
  go_wp2_with fail
  exact bodyPost_ret (results_26 rfl _ _ _ HYN.out hct.out rfl) rfl (RPost.mk (by first | rfl | rw [hTG]) HKN.out)
end Go.Proofs.YtklmhegmombegaaDoor
