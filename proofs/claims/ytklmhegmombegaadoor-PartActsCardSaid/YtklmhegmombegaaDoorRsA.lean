/-
  The reference's words: numbers of 64 bits, modulo 2^32; the contracts of right, shift. Conditions: as each theorem says.
-/
import Derived.Test.YtklmhegmombegaaDoorCheckA
set_option linter.unusedVariables false
set_option linter.unusedSimpArgs false
set_option maxRecDepth 100000
namespace Go.Proofs.YtklmhegmombegaaDoor
open Go Go.RowKit Plain
namespace Plain
/-- Sums and powers that no rule takes apart. -/
def p64 (a b : Nat) : Nat := a + b
def s64 (x m : Nat) : Nat := x * 2 ^ m
def m32 (a : Nat) : Nat := a % 4294967296
theorem p64_a32 (a b : Nat) : m32 (p64 a b) = a32 a b := rfl
theorem a32_m32 (a b : Nat) : a32 (m32 a) b = m32 (p64 a b) := by unfold a32 m32 p64; omega
theorem a32_p64 (a b c : Nat) : m32 (p64 (p64 a b) c) = a32 (a32 a b) c := by unfold a32 m32 p64; omega
theorem m32_lt (a : Nat) : m32 a < 4294967296 := Nat.mod_lt _ (by decide)
theorem m32_of {a : Nat} (h : a < 4294967296) : m32 a = a := Nat.mod_eq_of_lt h
theorem rot_of {x n m : Nat} (hx : x < 4294967296) (hm : n + m = 32) : m32 (o32 (r32 x n) (s64 x m)) = rot x n := by
  unfold m32 o32 rot
  have e : (4294967296 : Nat) = 2 ^ 32 := rfl
  rw [e, Nat.or_mod_two_pow, show 32 - n = m by omega]
  unfold o32
  rw [Nat.or_comm]
  congr 1
  exact Nat.mod_eq_of_lt (r32_lt hx)
end Plain
theorem j_add {a b : Nat} (h : a + b < 18446744073709551616) : IntKind.u64.wrap ((a : Int) + (b : Int)) = ((p64 a b : Nat) : Int) := by rw [IntKind.wrap_u64]; unfold p64; omega
theorem j_shl {x m : Nat} (hx : x < 4294967296) (hm : m ≤ 31) : IntKind.u64.wrap ((x : Int) * 2 ^ m) = ((s64 x m : Nat) : Int) := by
  have h1 : x * 2 ^ m < 18446744073709551616 := by
    have : 2 ^ m ≤ 2 ^ 31 := Nat.pow_le_pow_right (by decide) hm
    calc x * 2 ^ m ≤ x * 2 ^ 31 := Nat.mul_le_mul_left _ this
      _ < 18446744073709551616 := by omega
  have e : (x : Int) * 2 ^ m = ((x * 2 ^ m : Nat) : Int) := by simp
  rw [e, IntKind.wrap_u64]; unfold s64
  generalize x * 2 ^ m = y at *
  omega
theorem j_rem (a : Nat) : ((a : Int)).tmod 4294967296 = ((m32 a : Nat) : Int) := by rw [Int.tmod_eq_emod_of_nonneg (by omega)]; unfold m32; omega
theorem j_rem' (a : Nat) : ((a : Int)) % 4294967296 = ((m32 a : Nat) : Int) := by unfold m32; omega
theorem j_xor {a b : Nat} (ha : a < 4294967296) (hb : b < 4294967296) : bits .xor .u64 (a : Int) (b : Int) = ((x32 a b : Nat) : Int) := u64_xor_nat a b (by omega) (by omega)
theorem j_and {a b : Nat} (ha : a < 4294967296) (hb : b < 4294967296) : bits .and .u64 (a : Int) (b : Int) = ((n32 a b : Nat) : Int) := u64_and_nat a b (by omega) (by omega)
theorem s64_lt {x m : Nat} (hx : x < 4294967296) (hm : m ≤ 31) : s64 x m < 18446744073709551616 := by
  have : 2 ^ m ≤ 2 ^ 31 := Nat.pow_le_pow_right (by decide) hm
  unfold s64
  calc x * 2 ^ m ≤ x * 2 ^ 31 := Nat.mul_le_mul_left _ this
    _ < 18446744073709551616 := by omega
theorem j_or {a b : Nat} (ha : a < 18446744073709551616) (hb : b < 18446744073709551616) : bits .or .u64 (a : Int) (b : Int) = ((o32 a b : Nat) : Int) := u64_or_nat a b ha hb
theorem j_not {a : Nat} (h : a < 4294967296) : IntKind.u64.wrap (4294967295 - (a : Int)) = ((c32 a : Nat) : Int) := by rw [IntKind.wrap_u64]; unfold c32; omega
set_option maxHeartbeats 1000000 in
theorem f_rright (x n : Nat) (w : World) (hx : x < 4294967296) (h1 : 1 ≤ n) (hn : n ≤ 31) : Calls Tryd.prog 134 #[.int .u64 x, .int .i64 (n : Int)] w fun e w' => e = .returned (.int .u64 (rot x n : Nat)) ∧ w' = w := by
  obtain ⟨m, hm⟩ : ∃ m, n + m = 32 := ⟨32 - n, by omega⟩
  have hm1 : m ≤ 31 := by omega
  have e2 := j_shl hx hm1
  have e3 := i_shr x n
  have e4 := j_or (a := r32 x n) (Nat.lt_of_lt_of_le (r32_lt hx) (by decide)) (s64_lt hx hm1)
  have e5 : ((32 : Int) - (n : Int)) = (m : Int) := by omega
  have e6 := j_rem (o32 (r32 x n) (s64 x m))
  have HM := Lib.hid (rot_of hx hm)
  clear hm
  go_enter Tryd.func134, Tryd.ntmps134
  go_wp2_with fail
  go_ret
  refine ⟨?_, rfl⟩
  rw [HM.out]
  rfl
set_option maxHeartbeats 1000000 in
theorem f_rshift (x n : Nat) (w : World) (hn : n ≤ 31) : Calls Tryd.prog 135 #[.int .u64 x, .int .i64 (n : Int)] w fun e w' => e = .returned (.int .u64 (r32 x n : Nat)) ∧ w' = w := by
  have e3 := i_shr x n
  go_enter Tryd.func135, Tryd.ntmps135
  go_wp2_with fail
  go_ret
  exact ⟨rfl, rfl⟩
end Go.Proofs.YtklmhegmombegaaDoor
