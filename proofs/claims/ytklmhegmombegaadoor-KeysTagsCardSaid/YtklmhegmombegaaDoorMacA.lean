/-
  Contracts of mac's pad, row, joined words. Conditions: as each theorem says.
-/
import Derived.Test.YtklmhegmombegaaDoorShaF
set_option linter.unusedVariables false
set_option linter.unusedSimpArgs false
namespace Go.Proofs.YtklmhegmombegaaDoor
open Go Go.RowKit Plain

namespace Plain
/-- A key, each byte put together with another one. -/
def padK (key : List Nat) (b : Nat) : List Nat := (List.range 64).map fun i => x32 (key.getD i 0) b
/-- A number's low bytes, the highest first. -/
def beN (many N : Nat) : List Nat := (List.range many).map fun i => N / 256 ^ (many - 1 - i) % 256
/-- The bytes of a word. -/
def wordB (n : Int) : List Nat := beN 8 (n % 18446744073709551616).toNat
def tagOf (key text : List Nat) : List Nat := sha (padK key 92 ++ sha (padK key 54 ++ text))
def macKey (key : List Nat) (ws : List Int) : List Nat := tagOf key (ws.flatMap wordB)
theorem padK_len (key : List Nat) (b : Nat) : (padK key b).length = 64 := by simp [padK]
theorem beN_len (m N : Nat) : (beN m N).length = m := by simp [beN]
theorem beN_all (m N : Nat) : All8 (beN m N) := by
  intro x hx
  obtain ⟨i, _, rfl⟩ := List.mem_map.1 hx
  exact Nat.mod_lt _ (by decide)
theorem x8_lt {a b : Nat} (ha : a < 256) (hb : b < 256) : x32 a b < 256 := Nat.xor_lt_two_pow (n := 8) ha hb
theorem padK_all {key : List Nat} {b : Nat} (hk : All8 key) (hb : b < 256) : All8 (padK key b) := by
  intro x hx
  obtain ⟨i, _, rfl⟩ := List.mem_map.1 hx
  exact x8_lt (hk.getD i) hb
end Plain
theorem i_x8 {a b : Nat} (ha : a < 256) (hb : b < 256) : bits .xor .u8 (a : Int) (b : Int) = ((x32 a b : Nat) : Int) := u8_xor_nat a b ha hb
/-- A copy in a row. -/
theorem list_copy {ops : Array Oper} {rest : List Oper} {o : Oper} {a : Act} {w : World} {Q : Exit → Act → World → Prop} (hgd : o.guard = none) (d s : Operand) (dT sT : TypeId)
    (ho : o.op = .call { callee := .builtin .copy, args := #[d, s], argTypes := #[dT, sT] }) (elem : TypeId) (hu : Tryd.prog.underlying dT = some (.slice elem)) (hsz : (Tryd.prog.info? elem).map (·.size) = some 1)
    (ad : Addr) (dLen dCap sLen sCap : Nat) (g off : Nat) (hd : a.eval d = .slice (some ⟨g, off, none⟩) dLen dCap) (hs : a.eval s = .slice (some ad) sLen sCap)
    (cur : Array Value) (t : TypeId) (hg : w.heap[g]? = some (.cells cur t (0, 0))) (cs : List Value) (hn : cs.length = Nat.min sLen dLen)
    (hsrc : ∀ j v, cs[j]? = some v → w.cell? (ad.add j) = some v)
    (hfit : off + cs.length ≤ cur.size) (h1 : ∀ v ∈ cs, v.oneCell' = true) (R : Array Value) (hR : (cur.toList.take off ++ cs ++ cur.toList.drop (off + cs.length)).toArray = R)
    (h : wpList Tryd.prog ops Q rest (a.put o.dst (goInt cs.length)) (w.setRow g R)) :
    wpList Tryd.prog ops Q (o :: rest) a w := by
  subst hR
  refine wpList_plain hgd fun K hK => ?_
  have := step_copy (ops := ops) (K := K) (Q := Q) (E := True) hgd d s dT sT ho elem hu hsz ad dLen dCap sLen sCap g off hd hs cur t hg cs hn hsrc hfit h1 (hK _ _ h)
  rwa [if_pos (by simp [Region.wanted, hgd])] at this
/-- 64 noughts. -/
def Z64 : Array Value := ints .u8 (List.replicate 64 0)
theorem make64 (w : World) : (Instr.makeSlice 28 (.int .i64 64) (.int .i64 64)).run Tryd.prog w = .ok (.slice (some ⟨w.heap.size, 0, none⟩) 64 64) (w.alloc (.cells Z64 5)) := by kernel_rfl
theorem make8 (w : World) : (Instr.makeSlice 28 (.int .i64 8) (.int .i64 8)).run Tryd.prog w = .ok (.slice (some ⟨w.heap.size, 0, none⟩) 8 8) (w.alloc (.cells (ints .u8 (List.replicate 8 0)) 5)) := by kernel_rfl
theorem make4 (w : World) : (Instr.makeSlice 28 (.int .i64 4) (.int .i64 4)).run Tryd.prog w = .ok (.slice (some ⟨w.heap.size, 0, none⟩) 4 4) (w.alloc (.cells (ints .u8 (List.replicate 4 0)) 5)) := by kernel_rfl
/-- The first j of the sums, and the rest as it was. -/
def padL (key : List Nat) (b j : Nat) : List Nat := (padK key b).take j ++ (key ++ List.replicate (64 - key.length) 0).drop j
theorem padL_len {key : List Nat} {b j : Nat} (hk : key.length ≤ 64) (hj : j ≤ 64) : (padL key b j).length = 64 := by simp [padL, padK_len]; omega
theorem padL_at {key : List Nat} {b j : Nat} (hk : key.length ≤ 64) (hj : j < 64) : (padL key b j).getD j 0 = key.getD j 0 := by
  have ht : ((padK key b).take j).length = j := by rw [List.length_take, padK_len]; omega
  rw [List.getD_eq_getElem?_getD, padL, List.getElem?_append_right (by omega), ht, Nat.sub_self, List.getElem?_drop, Nat.add_zero, List.getD_eq_getElem?_getD]
  by_cases h : j < key.length
  · rw [List.getElem?_append_left h]
  · rw [List.getElem?_append_right (by omega), List.getElem?_eq_none (l := key) (by omega), List.getElem?_replicate]
    split <;> rfl
theorem padL_set {key : List Nat} {b j : Nat} (hk : key.length ≤ 64) (hj : j < 64) : (padL key b j).set j (x32 (key.getD j 0) b) = padL key b (j + 1) := by
  have ht : ((padK key b).take j).length = j := by rw [List.length_take, padK_len]; omega
  have hl : (key ++ List.replicate (64 - key.length) 0).length = 64 := by simp; omega
  have hp : (padK key b)[j]'(by rw [padK_len]; exact hj) = x32 (key.getD j 0) b := by simp [padK]
  unfold padL
  rw [List.set_append_right _ _ (by omega), ht, Nat.sub_self, List.drop_eq_getElem_cons (show j < (key ++ List.replicate (64 - key.length) 0).length by omega), List.set_cons_zero, ← List.take_append_getElem (show j < (padK key b).length by rw [padK_len]; exact hj), hp, List.append_assoc]
  rfl
theorem padL_all {key : List Nat} {b : Nat} (hk : key.length ≤ 64) : padL key b 64 = padK key b := by
  unfold padL
  rw [List.take_of_length_le (by rw [padK_len]; exact Nat.le_refl _), List.drop_of_length_le (by simp; omega), List.append_nil]
theorem padL_zero (key : List Nat) (b : Nat) (h64 : key.length ≤ 64) : (Z64.toList.take 0 ++ bys key ++ Z64.toList.drop (0 + (bys key).length)).toArray = ints .u8 (padL key b 0) := by
  unfold padL Z64 ints
  rw [bys_len, List.take_zero, List.take_zero, List.nil_append, List.nil_append, List.drop_zero, List.map_append, Nat.zero_add]
  congr 1
  rw [← List.map_drop, List.drop_replicate]
  rfl
set_option maxRecDepth 100000 in
set_option maxHeartbeats 4000000 in
theorem f_pad (v : Value) (key : List Nat) (b : Nat) (w : World) (hk : HBytes w v key) (h1 : 1 ≤ key.length) (h64 : key.length ≤ 64) (hb : b < 256) : Calls Tryd.prog 96 #[v, .int .u8 b] w (ByPost (padK key b) w) := by
  obtain ⟨kb, ko, kc, rfl, hkl, hkc⟩ := hk.addr (by omega)
  have hk8 := hk.2.1
  have HMK := Lib.hid (make64)
  have hn1 := heap_alloc_new w (.cells Z64 5)
  have k1 := (Kept.refl (fun _ => False) w).alloc (.cells Z64 5)
  have hsrc : ∀ j u, (bys key)[j]? = some u → (w.alloc (.cells Z64 5)).cell? ((⟨kb, ko, none⟩ : Addr).add j) = some u := fun j u hu => by
    rw [Addr.add_none]
    obtain ⟨n, hn, rfl⟩ := Option.map_eq_some_iff.1 (by rw [bys, List.getElem?_map] at hu; exact hu)
    have hj := (List.getElem?_eq_some_iff.1 hn).1
    have h := (k1.cell (p := ⟨kb, ko + j, none⟩) hkl id).trans (hkc j hj)
    rw [h, List.getD_eq_getElem?_getD, hn]; rfl
  have hmk := make64 w
  have G1 := Lib.hid hn1
  have K1 := Lib.hid k1
  have HSR := Lib.hid hsrc
  have HK8 := Lib.hid hk8
  have hrow : Hid (((w.alloc (.cells Z64 5)).setRow w.heap.size (ints .u8 (padL key b 0))).heap[w.heap.size]? = some (.cells (ints .u8 (padL key b 0)) 5 (0, 0))) := setRow_heap _ _ _ _ _ _ hn1
  have KR := Lib.hid (k1.setRow (Nat.le_refl _) (ints .u8 (padL key b 0)))
  have hmin : Hid ((bys key).length = Nat.min key.length 64) := by show _ = _; rw [bys_len]; exact (Nat.min_eq_left h64).symm
  have hfit : Hid (0 + (bys key).length ≤ Z64.size) := by show _ ≤ _; rw [bys_len, Z64, ints_size, List.length_replicate]; omega
  clear hn1 k1 hsrc hk8 hkc hk HMK
  go_enter Tryd.func96, Tryd.ntmps96
  go_wp2_with (first | fail | (refine list_copy rfl (.tmp 8) (.tmp 9) 28 28 rfl 5 Tryd.underlying28 Tryd.isz5 ⟨kb, ko, none⟩ 64 64 key.length kc w.heap.size 0 rfl rfl Z64 5 G1.out (bys key) hmin.out HSR.out hfit.out (bys_one key) _ (padL_zero key b h64) ?_))
  generalize (w.alloc (.cells Z64 5)).setRow w.heap.size (ints .u8 (padL key b 0)) = w2 at *
  clear G1 K1 HSR hmin hfit hmk
  go_loopw [13] (fun i wr => ∃ j : Nat, j ≤ 64 ∧ i = .int .i64 j ∧ Hid (wr.heap[w.heap.size]? = some (.cells (ints .u8 (padL key b j)) 5 (0, 0))) ∧ Kept (fun i => i = w.heap.size) w2 wr) (fun i _ => 64 - (intOf i).toNat)
  case atStart => exact ⟨0, by omega, rfl, hrow.out, Kept.refl _ _⟩
  case round =>
    obtain ⟨j, hj, rfl, HO, K⟩ := hrel
    have KJ := Lib.hid K
    by_cases hlt : j < 64
    · have co := ints_cell HO.out (i := j) (by rw [padL_len h64 hj]; exact hlt)
      rw [padL_at h64 hlt] at co
      have fo := free_of_block (j := j) HO.out
      have HST := Lib.hid (padL_set (b := b) h64 hlt)
      have hx := HK8.out.getD j
      generalize key.getD j 0 = x at *
      have e1 := i_x8 hx hb
      have hj64 : (j : Int) < 64 := by omega
      clear K
      generalize x32 x b = y at *
      go_wp2_with fail
      have HF : Hid ((wr.setCell ⟨w.heap.size, j, none⟩ (.int .u8 ((y : Nat) : Int))).heap[w.heap.size]? = some (.cells (ints .u8 (padL key b (j + 1))) 5 (0, 0))) := by
        show _ = _
        rw [setCell_block HO.out, ints_set, HST.out]
      have KF := Lib.hid (KJ.out.setCell (p := ⟨w.heap.size, j, none⟩) (.inl rfl) (.int .u8 ((y : Nat) : Int)))
      clear co fo e1
      go_roundw
      case rel => exact ⟨j + 1, by omega, by go_num, HF.out, KF.out⟩
      case measure => simp [intOf]; omega
    · obtain rfl : j = 64 := by omega
      have HF : Hid (wr.heap[w.heap.size]? = some (.cells (ints .u8 (padK key b)) 5 (0, 0))) := by
        have h := HO.out
        rw [padL_all h64] at h
        exact h
      have KF : Hid (Kept (fun _ => False) w wr) := KR.out.trans' K (fun i hi e => by omega)
      clear K
      go_wp2_with fail
      go_ret
      refine ⟨.slice (some ⟨w.heap.size, 0, none⟩) 64 64, rfl, ?_, KF.out⟩
      rw [padK_len]
      refine ⟨by rw [bys_len, padK_len], .inr ⟨w.heap.size, 64, _, rfl, Nat.le_refl _, HF.out, Nat.le_refl _, by decide, by rw [ints_size, padK_len]; exact Nat.le_refl _, ?_⟩⟩
      rw [ints_toList, List.take_of_length_le (by rw [List.length_map, padK_len]; exact Nat.le_refl _)]
      rfl

/-! ## A number's bytes -/
/-- The last j of its bytes, behind noughts. -/
def rowL (many N j : Nat) : List Nat := List.replicate (many - j) 0 ++ (beN many N).drop (many - j)
theorem rowL_len (many N : Nat) {j : Nat} (hj : j ≤ many) : (rowL many N j).length = many := by simp [rowL, beN_len, hj]
theorem rowL_set (many N : Nat) {j : Nat} (hj : j < many) : (rowL many N j).set (many - 1 - j) (N / 256 ^ j % 256) = rowL many N (j + 1) := by
  obtain ⟨m, hm⟩ : ∃ m, many - j = m + 1 := ⟨many - 1 - j, by omega⟩
  have e1 : many - 1 - j = m := by omega
  have e2 : many - (j + 1) = m := by omega
  have hb : (beN many N)[m]'(by rw [beN_len]; omega) = N / 256 ^ j % 256 := by
    simp only [beN, List.getElem_map, List.getElem_range]
    congr 3; omega
  unfold rowL
  rw [e1, e2, hm, List.drop_eq_getElem_cons (show m < (beN many N).length by rw [beN_len]; omega), hb, List.replicate_succ', List.append_assoc, List.set_append_right _ _ (by simp), List.length_replicate, Nat.sub_self]
  rfl
theorem rowL_all (many N : Nat) : rowL many N many = beN many N := by simp [rowL]
theorem i_trunc8 (N j : Nat) : IntKind.u8.wrap (((N / 256 ^ j : Nat) : Int)) = ((N / 256 ^ j % 256 : Nat) : Int) := i_u8 _
set_option maxRecDepth 100000 in
set_option maxHeartbeats 4000000 in
theorem f_row (N many : Nat) (w : World) (hN : N < 18446744073709551616) (hm : many = 8 ∨ many = 4) : Calls Tryd.prog 87 #[.int .u64 N, .int .i64 many] w (ByPost (beN many N) w) := by
  have hmk : (Instr.makeSlice 28 (.int .i64 (many : Int)) (.int .i64 (many : Int))).run Tryd.prog w = .ok (.slice (some ⟨w.heap.size, 0, none⟩) many many) (w.alloc (.cells (ints .u8 (List.replicate many 0)) 5)) := by
    rcases hm with rfl | rfl
    · exact make8 w
    · exact make4 w
  have hm8 : many ≤ 8 := by omega
  have hm1 : 1 ≤ many := by omega
  have hrow := Lib.hid (heap_alloc_new w (.cells (ints .u8 (List.replicate many 0)) 5))
  have KR := Lib.hid ((Kept.refl (fun _ => False) w).alloc (.cells (ints .u8 (List.replicate many 0)) 5))
  have hr0 : Hid (rowL many N 0 = List.replicate many 0) := by show _ = _; unfold rowL; rw [Nat.sub_zero, List.drop_of_length_le (by rw [beN_len]; exact Nat.le_refl _), List.append_nil]
  clear hm
  go_enter Tryd.func87, Tryd.ntmps87
  go_wp2_with fail
  clear hmk
  generalize w.alloc (.cells (ints .u8 (List.replicate many 0)) 5) = w2 at *
  go_loopw [0, 11] (fun x i wr => ∃ j : Nat, j ≤ many ∧ i = .int .i64 j ∧ x = .int .u64 ((N / 256 ^ j : Nat) : Int) ∧ Hid (wr.heap[w.heap.size]? = some (.cells (ints .u8 (rowL many N j)) 5 (0, 0))) ∧ Kept (fun i => i = w.heap.size) w2 wr) (fun _ i _ => many - (intOf i).toNat)
  case atStart => exact ⟨0, Nat.zero_le _, rfl, by simp, by show _ = _; rw [hr0.out]; exact hrow.out, Kept.refl _ _⟩
  case round =>
    obtain ⟨j, hj, rfl, rfl, HO, K⟩ := hrel
    have KJ := Lib.hid K
    by_cases hlt : j < many
    · obtain ⟨q, hq⟩ : ∃ q, q + j + 1 = many := ⟨many - 1 - j, by omega⟩
      have co := ints_cell HO.out (i := q) (by rw [rowL_len many N hj]; omega)
      have fo := free_of_block (j := q) HO.out
      have HST0 := rowL_set many N hlt
      rw [show many - 1 - j = q by omega] at HST0
      have HST := Lib.hid HST0
      have e1 := i_trunc8 N j
      have hle : N / 256 ^ j ≤ N := Nat.div_le_self _ _
      have HD : Hid (N / 256 ^ (j + 1) = N / 256 ^ j / 256) := by show _ = _; rw [Nat.pow_succ, Nat.div_div_eq_div_mul]
      have e2 : (many : Int) - 1 - (j : Int) = (q : Int) := by omega
      have hq2 : (q : Int) < (many : Int) := by omega
      generalize (rowL many N j).getD q 0 = old at co
      generalize N / 256 ^ j % 256 = y at *
      generalize N / 256 ^ j = x at *
      have HQ := Lib.hid hq
      clear K HST0 hq
      go_wp2_with fail
      have HF : Hid ((wr.setCell ⟨w.heap.size, q, none⟩ (.int .u8 ((y : Nat) : Int))).heap[w.heap.size]? = some (.cells (ints .u8 (rowL many N (j + 1))) 5 (0, 0))) := by
        show _ = _
        rw [setCell_block HO.out, ints_set, HST.out]
      have KF := Lib.hid (KJ.out.setCell (p := ⟨w.heap.size, q, none⟩) (.inl rfl) (.int .u8 ((y : Nat) : Int)))
      clear co fo e1 e2
      go_roundw
      case rel => exact ⟨j + 1, by omega, by go_num, by rw [HD.out]; congr 1, HF.out, KF.out⟩
      case measure => simp [intOf]; omega
    · obtain rfl : j = many := by omega
      have HF : Hid (wr.heap[w.heap.size]? = some (.cells (ints .u8 (beN j N)) 5 (0, 0))) := by
        have h := HO.out
        rw [rowL_all] at h
        exact h
      have KF : Hid (Kept (fun _ => False) w wr) := KR.out.trans' K (fun i hi e => by omega)
      have hle : N / 256 ^ j ≤ N := Nat.div_le_self _ _
      generalize N / 256 ^ j = x at *
      clear K
      go_wp2_with fail
      go_ret
      refine ⟨.slice (some ⟨w.heap.size, 0, none⟩) j j, rfl, ?_, KF.out⟩
      rw [beN_len]
      refine ⟨by rw [bys_len, beN_len, Nat.mul_one], .inr ⟨w.heap.size, j, _, rfl, Nat.le_refl _, HF.out, Nat.le_refl _, by unfold maxLen; omega, by rw [ints_size, beN_len, Nat.mul_one]; exact Nat.le_refl _, ?_⟩⟩
      rw [ints_toList, List.take_of_length_le (by rw [List.length_map, beN_len, Nat.mul_one]; exact Nat.le_refl _)]
      rfl

/-! ## Words -/
/-- The words that a slice holds. -/
def HInts (w : World) (v : Value) (l : List Int) : Prop := Rd w 1 v l.length (l.map (Value.int .i64)) ∧ l.length ≤ 1000 ∧ (∀ k, v.ownBlock = some k → k < w.heap.size) ∧ ∀ z ∈ l, -9223372036854775808 ≤ z ∧ z ≤ 9223372036854775807
theorem HInts.kept {w w' : World} {v : Value} {l : List Int} (h : HInts w v l) (k : Kept (fun _ => False) w w') : HInts w' v l := ⟨h.1.kept k (fun _ _ h => h), h.2.1, fun j e => Nat.lt_of_lt_of_le (h.2.2.1 j e) k.size, h.2.2.2⟩
theorem HInts.form {w : World} {v : Value} {l : List Int} (h : HInts w v l) : ∃ a c, v = .slice a l.length c := by obtain ⟨⟨_, a, c, e, _⟩, _⟩ := h; exact ⟨a, c, e⟩
theorem HInts.at {w : World} {v : Value} {l : List Int} (h : HInts w v l) {i : Nat} (hi : i < l.length) : ∃ b o c, v = .slice (some ⟨b, o, none⟩) l.length c ∧ w.cell? ⟨b, o + i, none⟩ = some (.int .i64 l[i]) := by
  obtain ⟨b, o, c, e, hc⟩ := h.1.addr (by omega)
  exact ⟨b, o, c, e, hc i _ (by simp [hi])⟩
theorem i_u64 (n : Int) : IntKind.u64.wrap n = (((n % 18446744073709551616).toNat : Nat) : Int) := by rw [IntKind.wrap_u64]; omega
theorem f_key1 (n : Int) (w : World) : Calls Tryd.prog 86 #[.int .i64 n] w (ByPost (wordB n) w) := by
  have e := i_u64 n
  have hlt : (n % 18446744073709551616).toNat < 18446744073709551616 := by omega
  have HR := Lib.hid (f_row (n % 18446744073709551616).toNat 8 w hlt (.inl rfl))
  have HW : Hid (wordB n = beN 8 (n % 18446744073709551616).toNat) := rfl
  generalize (n % 18446744073709551616).toNat = N at *
  go_enter Tryd.func86, Tryd.ntmps86
  go_wp2_with fail
  refine HR.out.mono ?_
  rintro e w1 ⟨v, rfl, hb, k1⟩
  have HB := Lib.hid hb
  have K1 := Lib.hid k1
  clear hb k1
  go_wp2_with fail
  go_ret
  exact ⟨v, rfl, by rw [HW.out]; exact HB.out, K1.out⟩
theorem wordB_len (n : Int) : (wordB n).length = 8 := beN_len _ _
theorem words_len (l : List Int) : (l.flatMap wordB).length = 8 * l.length := by
  induction l with
  | nil => rfl
  | cons x l ih => rw [List.flatMap_cons, List.length_append, ih, wordB_len, List.length_cons]; omega
theorem words_all (l : List Int) : All8 (l.flatMap wordB) := by
  intro x hx
  obtain ⟨n, _, hx⟩ := List.mem_flatMap.1 hx
  exact beN_all _ _ x hx
theorem words_succ {l : List Int} {k : Nat} (h : k < l.length) : (l.take (k + 1)).flatMap wordB = (l.take k).flatMap wordB ++ wordB l[k] := by
  rw [← List.take_append_getElem h, List.flatMap_append]; simp
set_option maxRecDepth 100000 in
set_option maxHeartbeats 4000000 in
theorem f_joinedI (v : Value) (l : List Int) (w : World) (hv : HInts w v l) : Calls Tryd.prog 85 #[v, .func (.func 86) #[] #[]] w (ByPost (l.flatMap wordB) w) := by
  obtain ⟨i5, hi, hsz, hby, hz⟩ := info5'
  obtain ⟨a, c, rfl⟩ := hv.form
  have hl := hv.2.1
  have HV := Lib.hid hv
  clear hv
  go_enter Tryd.func85, Tryd.ntmps85
  go_wp2_with fail
  go_loopw [5, 10] (fun x j wr => ∃ k : Nat, k ≤ l.length ∧ j = .int .i64 k ∧ Hid (Buf wr w.heap.size 5 1 x (8 * k) (bys ((l.take k).flatMap wordB))) ∧ Kept (fun _ => False) w wr) (fun _ j _ => l.length - (intOf j).toNat)
  case atStart => exact ⟨0, Nat.zero_le _, rfl, Buf.nil _ _ _ _, Kept.refl _ _⟩
  case round =>
    obtain ⟨k, hk, rfl, HB, K⟩ := hrel
    have KR := Lib.hid K
    obtain ⟨av, cv, rfl, _⟩ := HB.out.form
    by_cases hlt : k < l.length
    · obtain ⟨b1, o1, c1, e1, x0⟩ := (HV.out.kept K).at hlt
      simp only [Value.slice.injEq, true_and] at e1
      obtain ⟨rfl, rfl⟩ := e1
      have HS := Lib.hid (words_succ hlt)
      have HF := Lib.hid (f_key1 l[k])
      generalize l[k] = z at x0 HS HF
      clear K
      go_wp2_with fail
      refine (HF.out _).mono ?_
      rintro e w3 ⟨v3, rfl, hb3, k3⟩
      rw [wordB_len] at hb3
      have hsrc := Lib.hid (show Src Tryd.prog 1 28 v3 8 (bys (wordB z)) w3 from by
        have h := (Buf.bytes (l := wordB z) (by rw [wordB_len]; exact hb3) (beN_all _ _)).src
        rw [wordB_len] at h; exact h)
      have HB3 := Lib.hid (HB.out.kept k3 (fun _ _ h => h))
      have K3 := Lib.hid (KR.out.trans k3)
      have HWS := Lib.hid K3.out.size
      obtain ⟨a3, c3, rfl, -, -⟩ := hb3.form
      clear hb3 k3
      go_wp2_with (first | fail | (at_builtin; refine wpList_append_buf _ rfl (.tmp 14) (.tmp 17) 28 28 rfl w.heap.size 5 i5 (.int .u8 0) 1 1 Tryd.underlying28 hi hz hsz hby rfl (by decide) _ _ _ rfl HB3.out _ _ _ rfl hsrc.out (by unfold maxLen; omega) (by omega) HWS.out ?_; intro v' w' hb' hg' ho' hn'; have HB4 := Lib.hid hb'; have HG4 := Lib.hid hg'; clear hb' hg' ho' hn'))
      have HB5 : Hid (Buf w' w.heap.size 5 1 v' (8 * (k + 1)) (bys ((l.take (k + 1)).flatMap wordB))) := by
        show Buf _ _ _ _ _ _ _
        rw [HS.out, bys_app]
        exact HB4.out
      have KF : Hid (Kept (fun _ => False) w w') := K3.out.grown HG4.out (fun j hj => .inr (HB.out.lt j hj).1)
      go_roundw
      case rel => exact ⟨k + 1, by omega, by go_num, HB5.out, KF.out⟩
      case measure => simp [intOf]; omega
    · obtain rfl : k = l.length := by omega
      have HBF : Hid (Buf wr w.heap.size 5 1 (.slice av (8 * l.length) cv) (l.flatMap wordB).length (bys (l.flatMap wordB))) := by
        have h := HB.out
        rw [List.take_length] at h
        show Buf _ _ _ _ _ _ _
        rw [words_len]
        exact h
      clear K
      go_wp2_with fail
      go_ret
      exact ⟨_, rfl, HBF.out, KR.out⟩
end Go.Proofs.YtklmhegmombegaaDoor
