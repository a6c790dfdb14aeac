/-
  Numbers of 32 bits; the contracts of RotateLeft32, turned, moved. Conditions: as each theorem says.
-/
import Derived.Test.YtklmhegmombegaaDoorSha
import Derived.Test.YtklmhegmombegaaDoorBuf
import Derived.Test.YtklmhegmombegaaDoorProg
import Derived.Lib.Hide
import Derived.ProofKit
import Derived.OwnWalk
import Derived.Deep.QuietTactic
import Derived.BigQuiet
import Derived.LoopIn
set_option linter.unusedVariables false
set_option linter.unusedSimpArgs false
namespace Go.Proofs.YtklmhegmombegaaDoor
open Go Go.RowKit Plain

theorem low_bits : ∀ n : Fin 32, bits .and .u64 (IntKind.u64.wrap (-(n.val : Int))) 31 = ((32 - n.val) % 32 : Nat) := by decide +kernel
theorem low_bits' {n m : Nat} (h1 : 1 ≤ n) (hm : n + m = 32) (hn : n ≤ 31) : bits .and .u64 (IntKind.u64.wrap (-(n : Int))) 31 = (m : Nat) := by
  have h := low_bits ⟨n, by omega⟩
  rw [h]
  show (((32 - n) % 32 : Nat) : Int) = _
  congr 1; omega
theorem i_add (a b : Nat) : IntKind.u32.wrap ((a : Int) + (b : Int)) = ((a32 a b : Nat) : Int) := by rw [IntKind.wrap_u32']; unfold a32; omega
theorem i_shl (x m : Nat) : IntKind.u32.wrap ((x : Int) * 2 ^ m) = ((l32 x m : Nat) : Int) := by
  rw [IntKind.wrap_u32']; unfold l32
  rw [show ((x : Int) * 2 ^ m) = ((x * 2 ^ m : Nat) : Int) by simp]
  omega
theorem i_shr (x n : Nat) : (x : Int) / 2 ^ n = ((r32 x n : Nat) : Int) := by unfold r32; simp
theorem i_xor {a b : Nat} (ha : a < 4294967296) (hb : b < 4294967296) : bits .xor .u32 (a : Int) (b : Int) = ((x32 a b : Nat) : Int) := u32_xor_nat a b ha hb
theorem i_or {a b : Nat} (ha : a < 4294967296) (hb : b < 4294967296) : bits .or .u32 (a : Int) (b : Int) = ((o32 a b : Nat) : Int) := u32_or_nat a b ha hb
theorem i_and {a b : Nat} (ha : a < 4294967296) (hb : b < 4294967296) : bits .and .u32 (a : Int) (b : Int) = ((n32 a b : Nat) : Int) := u32_and_nat a b ha hb
set_option maxHeartbeats 1000000 in
theorem f_rotl (x n : Nat) (w : World) (hx : x < 4294967296) (h1 : 1 ≤ n) (hn : n ≤ 31) : Calls Tryd.prog 141 #[.int .u32 x, .int .i64 (-(n : Int))] w fun e w' => e = .returned (.int .u32 (rot x n : Nat)) ∧ w = w' := by
  obtain ⟨m, hm⟩ : ∃ m, n + m = 32 := ⟨32 - n, by omega⟩
  have e1 := low_bits' h1 hm hn
  have hm1 : m ≤ 31 := by omega
  have HM : Hid (32 - n = m) := by show _ = _; omega
  have e2 := i_shl x m
  have e3 := i_shr x n
  have e4 := i_or (l32_lt x m) (r32_lt (n := n) hx)
  have e5 : ((32 : Int) - (m : Int)) = (n : Int) := by omega
  clear hm
  go_enter Tryd.func141, Tryd.ntmps141
  go_wp2_with fail
  go_ret
  refine ⟨?_, rfl⟩
  unfold rot
  rw [HM.out]
  rfl
theorem f_rotl' (x n : Nat) (w : World) (hx : x < 4294967296) (h1 : 1 ≤ n) (hn : n ≤ 31) : Calls Tryd.prog 141 #[.int .u32 x, .int .i64 (-(n : Int))] w fun e w' => e = .returned (.int .u32 (rot x n : Nat)) ∧ w' = w := (f_rotl x n w hx h1 hn).mono fun _ _ h => ⟨h.1, h.2.symm⟩
set_option maxHeartbeats 1000000 in
theorem f_turned (x a b c : Nat) (w : World) (hx : x < 4294967296) (ha : 1 ≤ a ∧ a ≤ 31) (hb : 1 ≤ b ∧ b ≤ 31) (hc : 1 ≤ c ∧ c ≤ 31) : Calls Tryd.prog 133 #[.int .u32 x, .int .i64 a, .int .i64 b, .int .i64 c] w fun e w' => e = .returned (.int .u32 (trn x a b c : Nat)) ∧ w = w' := by
  obtain ⟨ha, ha'⟩ := ha
  obtain ⟨hb, hb'⟩ := hb
  obtain ⟨hc, hc'⟩ := hc
  have e1 := i_xor (rot_lt (n := a) hx) (rot_lt (n := b) hx)
  have e2 := i_xor (x32_lt (rot_lt (n := a) hx) (rot_lt (n := b) hx)) (rot_lt (n := c) hx)
  go_enter Tryd.func133, Tryd.ntmps133
  go_wp2_with fail
  refine (f_rotl x a _ hx ha ha').mono ?_
  rintro e w1 ⟨rfl, rfl⟩
  go_wp2_with fail
  refine (f_rotl x b _ hx hb hb').mono ?_
  rintro e w1 ⟨rfl, rfl⟩
  go_wp2_with fail
  refine (f_rotl x c _ hx hc hc').mono ?_
  rintro e w1 ⟨rfl, rfl⟩
  go_wp2_with fail
  go_ret
  exact ⟨rfl, rfl⟩
set_option maxHeartbeats 1000000 in
theorem f_moved (x a b c : Nat) (w : World) (hx : x < 4294967296) (ha : 1 ≤ a ∧ a ≤ 31) (hb : 1 ≤ b ∧ b ≤ 31) (hc : 1 ≤ c ∧ c ≤ 31) : Calls Tryd.prog 140 #[.int .u32 x, .int .i64 a, .int .i64 b, .int .i64 c] w fun e w' => e = .returned (.int .u32 (mvd x a b c : Nat)) ∧ ∃ n, w' = w.drewN n := by
  obtain ⟨ha, ha'⟩ := ha
  obtain ⟨hb, hb'⟩ := hb
  obtain ⟨hc, hc'⟩ := hc
  have e1 := i_xor (rot_lt (n := a) hx) (rot_lt (n := b) hx)
  have e2 := i_xor (x32_lt (rot_lt (n := a) hx) (rot_lt (n := b) hx)) (r32_lt (n := c) hx)
  have e3 := i_shr x c
  go_enter Tryd.func140, Tryd.ntmps140
  go_wp2_with fail
  go_quiet ((go_at_call 141; exact Calls.quiet_of_same (f_rotl' x _ _ hx (by assumption) (by assumption))))
  go_wp2_with fail
  go_ret
  exact ⟨rfl, _, rfl⟩
end Go.Proofs.YtklmhegmombegaaDoor
