/-
  Contracts of the saga's small functions. Conditions: as each theorem says.
-/
import Derived.Test.YtklmhegmombegaaTarget
import Derived.Deep.MidRow
import Derived.BigQuiet
import Derived.WalkLawsBesides
import Derived.WalkSpells
import Derived.MapViews
import Derived.Deep.RegionHeld3
import Derived.RegionTactic
set_option linter.unusedVariables false
set_option linter.unusedSimpArgs false
namespace Go.Proofs.Ytklmhegmombegaa
open Go Go.RowKit Plain

/-- Is a number in a range? -/
def wi (n lo hi : Int) : Bool := decide (lo ≤ n) && decide (n ≤ hi)
theorem wi_true {n lo hi : Int} (h1 : lo ≤ n) (h2 : n ≤ hi) : wi n lo hi = true := by simp [wi, h1, h2]
theorem wi_false {n lo hi : Int} (h : n < lo ∨ hi < n) : wi n lo hi = false := by simp [wi]; omega

theorem f_within (n lo hi : Int) (w : World) : Calls Try.prog 40 #[.int .i64 n, .int .i64 lo, .int .i64 hi] w fun e w' => e = .returned (.bool (wi n lo hi)) ∧ w = w' := by
  unfold wi
  by_cases h : lo ≤ n
  · have h1 : decide (lo ≤ n) = true := by simpa using h
    go_enter Try.func40, Try.ntmps40
    go_wp2_with fail
    go_ret
    exact ⟨by simp [h], rfl⟩
  · have h1 : decide (lo ≤ n) = false := by simpa using h
    go_enter Try.func40, Try.ntmps40
    go_wp2_with fail
    go_ret
    exact ⟨by simp, rfl⟩
theorem f_within_is {n lo hi : Int} {b : Bool} (h : wi n lo hi = b) (w : World) : Calls Try.prog 40 #[.int .i64 n, .int .i64 lo, .int .i64 hi] w fun e w' => e = .returned (.bool b) ∧ w = w' := by
  subst h; exact f_within n lo hi w

theorem kept_of_below {w w' : World} (h : Below w.heap.size w w') : Kept (fun _ => False) w w' := ⟨h.os, h.tape, h.output, h.size, fun k hk _ => h.block k hk⟩

/-- A saga that functions may be asked of. -/
structure Okay (s : Sg) : Prop where
  len : s.steps.length ≤ 6
  done : s.done < 64
  may : s.may < 64
  undone : s.undone < 64
  pos : s.pos ≤ 1000
  tries : s.tries ≤ 1000
  phase : s.phase ≤ 1000
  seq : s.seq ≤ 1000000
/-- v holds its steps. -/
structure Stp (w : World) (v : Value) (l : List (Int × Int)) : Prop where
  rd : Rd w 2 v l.length (flat2 l)
  lt : ∀ k, v.ownBlock = some k → k < w.heap.size
theorem Stp.kept {w w' : World} {v : Value} {l : List (Int × Int)} (h : Stp w v l) (hk : Kept (fun _ => False) w w') : Stp w' v l := ⟨h.rd.kept hk (fun _ _ h => h), fun k e => Nat.lt_of_lt_of_le (h.lt k e) hk.size⟩
theorem Stp.form {w : World} {v : Value} {l : List (Int × Int)} (h : Stp w v l) : ∃ a c, v = .slice a l.length c := by obtain ⟨_, a, c, e, _⟩ := h.rd; exact ⟨a, c, e⟩
theorem Stp.alloc {w : World} {v : Value} {l : List (Int × Int)} (h : Stp w v l) (o : Obj) : Stp (w.alloc o) v l := h.kept ((Kept.refl _ w).alloc o)

theorem f_over (s : Sg) (v : Value) (w : World) : Calls Try.prog 24 #[.agg (sgC s v)] w fun e w' => e = .returned (.bool (over s)) ∧ Kept (fun _ => False) w w' := by
  have e : over s = wi s.phase 2 4 := by simp only [over, wi]; congr 1 <;> simp <;> omega
  rw [e]
  unfold sgC
  go_enter Try.func24, Try.ntmps24
  go_wp2_with fail
  refine (f_within _ _ _ _).mono ?_
  rintro e w1 ⟨rfl, rfl⟩
  go_wp2_with fail
  go_ret
  exact ⟨rfl, (Kept.refl _ w).alloc _⟩

theorem f_step (s : Sg) (v : Value) (w : World) (ok : Okay s) (hs : Stp w v s.steps) : Calls Try.prog 47 #[.agg (sgC s v)] w fun e w' => e = .returned (.int .i64 (stepOf s)) ∧ Kept (fun _ => False) w w' := by
  have hs1 := hs.alloc (.cells (sgC s v) 27)
  have HT := Lib.hid (f_target s v (w.alloc (.cells (sgC s v) 27)) ok.len ok.done ok.may ok.undone hs1.rd hs1.lt)
  obtain ⟨a, c, rfl⟩ := hs.form
  have hlen := ok.len
  clear hs1 hs
  by_cases h1 : s.phase = 1
  · have t1 : ((s.phase : Int) == 1) = true := by rw [beq_iff_eq]; omega
    have E := Lib.hid (show stepOf s = target s by rw [stepOf, if_pos h1])
    clear h1
    rw [E.out]
    unfold sgC at HT ⊢
    go_enter Try.func47, Try.ntmps47
    go_wp2_with fail
    refine HT.out.mono ?_
    rintro e w1 ⟨rfl, hb⟩
    have hk := kept_of_below hb
    clear hb
    go_wp2_with fail
    go_ret
    exact ⟨rfl, ((Kept.refl _ w).alloc _).trans hk⟩
  · have t1 : ((s.phase : Int) == 1) = false := by rw [beq_eq_false_iff_ne]; omega
    have E : Hid (stepOf s = if s.pos < s.steps.length then (s.pos : Int) else -1) := by show stepOf s = _; rw [stepOf, if_neg h1]
    clear h1 HT
    rw [E.out]
    by_cases h2 : s.pos < s.steps.length
    · rw [if_pos h2]
      unfold sgC
      go_enter Try.func47, Try.ntmps47
      go_wp2_with fail
      go_ret
      exact ⟨rfl, (Kept.refl _ w).alloc _⟩
    · rw [if_neg h2]
      unfold sgC
      go_enter Try.func47, Try.ntmps47
      go_wp2_with fail
      go_ret
      exact ⟨rfl, (Kept.refl _ w).alloc _⟩

theorem f_missing (s : Sg) (v : Value) (w : World) (ok : Okay s) : Calls Try.prog 21 #[.agg (sgC s v)] w fun e w' => e = .returned (.int .i64 (missing s)) ∧ Kept (fun _ => False) w w' := by
  have hb := b_clr ok.done ok.undone
  by_cases h1 : s.phase = 2
  · have t1 : ((s.phase : Int) == 2) = true := by rw [beq_iff_eq]; omega
    have E : missing s = 0 := by simp [missing, h1]
    clear h1
    rw [E]
    clear E
    unfold sgC
    go_enter Try.func21, Try.ntmps21
    go_wp2_with fail
    go_ret
    exact ⟨rfl, (Kept.refl _ w).alloc _⟩
  · have t1 : ((s.phase : Int) == 2) = false := by rw [beq_eq_false_iff_ne]; omega
    have E : missing s = clr s.done s.undone := by simp [missing, h1]
    clear h1
    rw [E]
    clear E
    unfold sgC
    go_enter Try.func21, Try.ntmps21
    go_wp2_with fail
    go_ret
    exact ⟨rfl, (Kept.refl _ w).alloc _⟩

/-! ## Records -/
/-- The zero value of a record. -/
def Z41 : Array Value := #[.int .i64 0, .int .i64 0, .int .i64 0, .int .i64 0, .int .i64 0, .bool false, .bool false, .int .i64 0, .int .i64 0, .int .i64 0, .int .u8 0, .int .u8 0, .int .u8 0, .int .u8 0, .int .u8 0, .int .u8 0, .int .u8 0, .int .u8 0, .int .u8 0, .int .u8 0, .int .u8 0, .int .u8 0, .int .u8 0, .int .u8 0, .int .u8 0, .int .u8 0, .int .u8 0, .int .u8 0, .int .u8 0, .int .u8 0, .int .u8 0, .int .u8 0, .int .u8 0, .int .u8 0, .int .u8 0, .int .u8 0, .int .u8 0, .int .u8 0, .int .u8 0, .int .u8 0, .int .u8 0, .int .u8 0, .slice none 0 0, .slice none 0 0, .int .u8 0, .int .u8 0, .int .u8 0, .int .u8 0, .int .u8 0, .int .u8 0, .int .u8 0, .int .u8 0, .int .u8 0, .int .u8 0, .int .u8 0, .int .u8 0, .int .u8 0, .int .u8 0, .int .u8 0, .int .u8 0, .int .u8 0, .int .u8 0, .int .u8 0, .int .u8 0, .int .u8 0, .int .u8 0, .int .u8 0, .int .u8 0, .int .u8 0, .int .u8 0, .int .u8 0, .int .u8 0, .int .u8 0, .int .u8 0, .int .u8 0, .int .u8 0, .bool false, .int .u8 0, .int .u8 0, .int .u8 0, .int .u8 0, .int .u8 0, .int .u8 0, .int .u8 0, .int .u8 0, .int .u8 0, .int .u8 0, .int .u8 0, .int .u8 0, .int .u8 0, .int .u8 0, .int .u8 0, .int .u8 0, .int .u8 0, .int .u8 0, .int .u8 0, .int .u8 0, .int .u8 0, .int .u8 0, .int .u8 0, .int .u8 0, .int .u8 0, .int .u8 0, .int .u8 0, .int .u8 0, .int .u8 0, .int .u8 0, .int .u8 0, .int .u8 0]
theorem Try.isz41 : (Try.prog.info? 41).map (·.size) = some 109 := by kernel_rfl
/-- A record's cells: what it says of a call. -/
structure Recish (C : Array Value) (x : Rc) : Prop where
  size : C.size = 109
  one : C.all (·.oneCell') = true
  c0 : C[0]? = some (.int .i64 x.kind)
  c2 : C[2]? = some (.int .i64 x.seq)
  c3 : C[3]? = some (.int .i64 x.step)
  c4 : C[4]? = some (.int .i64 x.tr)
  c5 : C[5]? = some (.bool x.bk)
  c6 : C[6]? = some (.bool x.good)
  c7 : C[7]? = some (.int .i64 x.nd)
/-- What Due says, as a record. -/
def dueC (d : Du) : Array Value := ((((Z41.setIfInBounds 0 (.int .i64 d.kind)).setIfInBounds 3 (.int .i64 d.step)).setIfInBounds 4 (.int .i64 d.tr)).setIfInBounds 5 (.bool d.bk)).setIfInBounds 7 (.int .i64 d.nd)
end Go.Proofs.Ytklmhegmombegaa
