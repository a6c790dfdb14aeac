/-
  The contract of the reference's Fill. Conditions: as the theorem says.
-/
import Derived.Test.YtklmhegmombegaaDoorRsA
set_option linter.unusedVariables false
set_option linter.unusedSimpArgs false
set_option maxRecDepth 100000
namespace Go.Proofs.YtklmhegmombegaaDoor
open Go Go.RowKit Plain
namespace Plain
def stp (j : Nat) : Nat := 72057594037927936 / 256 ^ j
theorem stp_pos (j : Nat) : j ≤ 7 → 0 < stp j := by
  intro h
  have h : j = 0 ∨ j = 1 ∨ j = 2 ∨ j = 3 ∨ j = 4 ∨ j = 5 ∨ j = 6 ∨ j = 7 := by omega
  rcases h with rfl | rfl | rfl | rfl | rfl | rfl | rfl | rfl <;> decide
theorem stp_eq {j q : Nat} (h : q + j = 7) : stp j = 2 ^ (8 * q) := by
  have h' : q = 0 ∨ q = 1 ∨ q = 2 ∨ q = 3 ∨ q = 4 ∨ q = 5 ∨ q = 6 ∨ q = 7 := by omega
  obtain rfl : j = 7 - q := by omega
  rcases h' with rfl | rfl | rfl | rfl | rfl | rfl | rfl | rfl <;> rfl
end Plain
theorem j_byte (n : Nat) {j q : Nat} (h : q + j = 7) : ((n : Int) * 8 / ((stp j : Nat) : Int)).tmod 256 = ((byteAt (n * 8) q : Nat) : Int) := by
  rw [stp_eq h]
  have e : (n : Int) * 8 / ((2 ^ (8 * q) : Nat) : Int) = ((n * 8 / 2 ^ (8 * q) : Nat) : Int) := by
    push_cast; rfl
  rw [e]
  unfold byteAt
  generalize n * 8 / 2 ^ (8 * q) = y
  rw [Int.tmod_eq_emod_of_nonneg (by omega)]
  omega
theorem byteAt_lt (N q : Nat) : byteAt N q < 256 := Nat.mod_lt _ (by decide)
theorem stp_le (j : Nat) : stp j ≤ 72057594037927936 := Nat.div_le_self _ _
theorem j_stp (j : Nat) : IntKind.u64.wrap ((stp j : Nat) : Int) = ((stp j : Nat) : Int) := by have := stp_le j; rw [IntKind.wrap_u64]; omega
theorem j_step {j : Nat} : (((stp j : Nat) : Int)).tdiv 256 = ((stp (j + 1) : Nat) : Int) := by
  rw [Int.tdiv_eq_ediv_of_nonneg (by omega)]
  unfold stp
  rw [Nat.pow_succ, ← Nat.div_div_eq_div_mul]
  omega
set_option maxRecDepth 100000 in
set_option maxHeartbeats 4000000 in
theorem f_rfill (n : Nat) (w : World) (hn : n ≤ 1000000000) : Calls Tryd.prog 122 #[.int .i64 n] w (ByPost (fill n) w) := by
  obtain ⟨i, hi, hsz, hby, hz⟩ := info5'
  have hb0 := Lib.hid (Buf.byte w 128 (Nat.le_refl _))
  have k0 := Lib.hid ((Kept.refl (fun _ => False) w).alloc (.cells #[.int .u8 128] 5))
  have hzl := zerosOf_le n
  have HFZ := Lib.hid (fun m (h1 : 1 ≤ m) (hk : m ≤ zerosOf n + 1) => fill_zeros h1 hk)
  have HFL : Hid (fill n = 128 :: (List.replicate (zerosOf n) 0 ++ be8 (n * 8 % 2 ^ 64))) := rfl
  have HN8 : Hid (n * 8 % 2 ^ 64 = n * 8) := by show _ = _; omega
  rw [HN8.out] at HFL
  generalize zerosOf n = z at *
  clear HN8
  have hnn : ¬ ((n : Int) < 0) := by omega
  go_enter Tryd.func122, Tryd.ntmps122
  go_wp2_with fail
  generalize w.alloc (.cells #[.int .u8 128] 5) = w1 at *
  go_loopw [3] (fun v wr => ∃ m : Nat, 1 ≤ m ∧ m ≤ z + 1 ∧ Hid (Buf wr w.heap.size 5 1 v m (bys (128 :: List.replicate (m - 1) 0))) ∧ Kept (fun _ => False) w wr) (fun v _ => 100 - lenV v)
  case atStart => exact ⟨1, Nat.le_refl _, by omega, hb0.out, k0.out⟩
  case round =>
    obtain ⟨m, h1m, hmz, HB, K⟩ := hrel
    have KR := Lib.hid K
    obtain ⟨a, c, rfl, _⟩ := HB.out.form
    have hfz := HFZ.out m h1m hmz
    have hws := K.size
    clear K
    by_cases hlt : m = z + 1
    · have t1 : (((n : Int) + (m : Int)) % 64 != 56) = false := by
        have := hfz.2 hlt
        simp; omega
      have HM := Lib.hid hlt
      clear hfz hlt
      go_wp2_with fail
      have HB0 : Hid (Buf wr w.heap.size 5 1 (.slice a m c) (m + 0) (bys (128 :: List.replicate z 0 ++ (be8 (n * 8)).take 0))) := by
        show Buf _ _ _ _ _ _ _
        have h := HB.out
        rw [HM.out] at h ⊢
        simpa using h
      go_loopw [3, 5, 6] (fun v st i wr => ∃ j : Nat, j ≤ 8 ∧ i = .int .i64 (j : Int) ∧ st = .int .u64 ((stp j : Nat) : Int) ∧ Hid (Buf wr w.heap.size 5 1 v (m + j) (bys (128 :: List.replicate z 0 ++ (be8 (n * 8)).take j))) ∧ Kept (fun _ => False) w wr) (fun _ _ i _ => 8 - (intOf i).toNat)
      case atStart => exact ⟨0, by omega, rfl, rfl, HB0.out, KR.out⟩
      case round =>
        obtain ⟨j, hj8, rfl, rfl, HB, K⟩ := hrel
        have KR := Lib.hid K
        obtain ⟨a, c, rfl, _⟩ := HB.out.form
        have hws := K.size
        clear K
        by_cases hlt : j < 8
        · obtain ⟨q, hq⟩ : ∃ q, q + j = 7 := ⟨7 - j, by omega⟩
          have hj88 : (j : Int) < 8 := by omega
          have eb := j_byte n hq
          have eb1 : ((byteAt (n * 8) q : Nat) : Int) % 256 = ((byteAt (n * 8) q : Nat) : Int) := by have := byteAt_lt (n * 8) q; omega
          have eb2 : IntKind.u8.wrap ((byteAt (n * 8) q : Nat) : Int) = ((byteAt (n * 8) q : Nat) : Int) := by have := byteAt_lt (n * 8) q; rw [IntKind.wrap_u8]; omega
          have es := j_step (j := j)
          have es0 : ¬ ((stp j : Nat) : Int) = 0 := by have := stp_pos j (by omega); omega
          have hsrc := Lib.hid (Src.byte wr (byteAt (n * 8) q))
          have hbuf : Hid (Buf (wr.alloc (.cells #[.int .u8 ((byteAt (n * 8) q : Nat) : Int)] 5)) w.heap.size 5 1 (.slice a (m + j) c) (m + j) (bys (128 :: List.replicate z 0 ++ (be8 (n * 8)).take j))) := HB.out.kept (S := fun _ => False) ((Kept.refl _ wr).alloc _) (fun _ _ h => h)
          have hws2 : w.heap.size ≤ (wr.alloc (.cells #[.int .u8 ((byteAt (n * 8) q : Nat) : Int)] 5)).heap.size := by simp; omega
          have HW2 := Lib.hid hws2
          have hq7 : q ≤ 7 := by omega
          have HBT := Lib.hid (be8_take (n * 8) hlt)
          have HQ : Hid (q = 7 - j) := by show _ = _; omega
          have HME : Hid (m = z + 1) := HM.out
          clear hws2 hq
          go_wp2_with (first | fail | (at_builtin; refine wpList_append_buf _ rfl (.tmp 26) (.tmp 32) 28 28 rfl w.heap.size 5 i (.int .u8 0) 1 1 Tryd.underlying28 hi hz hsz hby rfl (by decide) (.slice a (m + j) c) (m + j) (bys (128 :: List.replicate z 0 ++ (be8 (n * 8)).take j)) rfl hbuf.out _ _ _ rfl hsrc.out (by unfold maxLen; omega) (by omega) HW2.out ?_; intro v' w' hb' hg' ho' hn'; have HB3 := Lib.hid hb'; have HG3 := Lib.hid hg'; clear hb' hg' ho' hn'))
          have HB4 : Hid (Buf w' w.heap.size 5 1 v' (m + (j + 1)) (bys (128 :: List.replicate z 0 ++ (be8 (n * 8)).take (j + 1)))) := by
            have h := HB3.out
            rw [← bys_app, List.append_assoc, HQ.out, ← HBT.out] at h
            exact h
          have KF : Hid (Kept (fun _ => False) w w') := (KR.out.alloc (.cells #[.int .u8 ((byteAt (n * 8) q : Nat) : Int)] 5)).grown HG3.out (fun j hj => .inr (HB.out.lt j hj).1)
          have hq2 := HQ.out
          go_roundw
          case rel => exact ⟨j + 1, by omega, by go_num, by rw [j_stp], HB4.out, KF.out⟩
          case measure => simp [intOf]; omega
        · obtain rfl : j = 8 := by omega
          have HBF : Hid (Buf wr w.heap.size 5 1 (.slice a (m + 8) c) (fill n).length (bys (fill n))) := by
            have h := HB.out
            have h8 : (be8 (n * 8)).take 8 = be8 (n * 8) := List.take_of_length_le (by simp [be8])
            rw [h8] at h
            show Buf _ _ _ _ _ _ _
            have hl : (fill n).length = m + 8 := by rw [HFL.out, HM.out]; simp [be8]
            rw [hl, HFL.out]
            exact h
          go_wp2_with fail
          go_ret
          exact ⟨_, rfl, HBF.out, KR.out⟩
    · have t1 : (((n : Int) + (m : Int)) % 64 != 56) = true := by
        have h3 : ¬ ((n + m) % 64 = 56) := fun h => hlt (hfz.1 h)
        simp; omega
      have hsrc := Lib.hid (Src.byte wr 0)
      have hbuf : Hid (Buf (wr.alloc (.cells #[.int .u8 0] 5)) w.heap.size 5 1 (.slice a m c) m (bys (128 :: List.replicate (m - 1) 0))) := HB.out.kept (S := fun _ => False) ((Kept.refl _ wr).alloc _) (fun _ _ h => h)
      have hws2 : w.heap.size ≤ (wr.alloc (.cells #[.int .u8 0] 5)).heap.size := by simp; omega
      have HW2 := Lib.hid hws2
      clear hfz hws2
      go_wp2_with (first | fail | (at_builtin; refine wpList_append_buf _ rfl (.tmp 16) (.tmp 17) 28 28 rfl w.heap.size 5 i (.int .u8 0) 1 1 Tryd.underlying28 hi hz hsz hby rfl (by decide) (.slice a m c) m (bys (128 :: List.replicate (m - 1) 0)) rfl hbuf.out _ _ _ rfl hsrc.out (by unfold maxLen; omega) (by omega) HW2.out ?_; intro v' w' hb' hg' ho' hn'; have HB3 := Lib.hid hb'; have HG3 := Lib.hid hg'; clear hb' hg' ho' hn'))
      have HB4 : Hid (Buf w' w.heap.size 5 1 v' (m + 1) (bys (128 :: List.replicate (m + 1 - 1) 0))) := by
        have h := HB3.out
        rw [← bys_app] at h
        show Buf _ _ _ _ _ _ _
        obtain ⟨j, rfl⟩ : ∃ j, m = j + 1 := ⟨m - 1, by omega⟩
        simpa [List.replicate_succ'] using h
      have KF : Hid (Kept (fun _ => False) w w') := (KR.out.alloc (.cells #[.int .u8 0] 5)).grown HG3.out (fun j hj => .inr (HB.out.lt j hj).1)
      obtain ⟨a', c', hv', _⟩ := HB4.out.form
      subst hv'
      go_roundw
      case rel => exact ⟨m + 1, by omega, by omega, HB4.out, KF.out⟩
      case measure => simp [lenV]; omega

end Go.Proofs.YtklmhegmombegaaDoor
