/-
  The iterator over steps from the last one: its contract. Conditions: as each theorem says.
  The contract of the saga's target. Conditions: as each theorem says.
  Contracts of the saga's small functions. Conditions: as each theorem says.
  Records whole: laws of the walk; the contract of Due. Conditions: as each theorem says.
  Contracts of of, turn, pick. Conditions: as each theorem says.
  Contracts of answered and lapsed. Conditions: as each theorem says.
  The contract of lapsed. Conditions: as the theorem says.
  The contract of the saga's Go. Conditions: as each theorem says.
-/
import Derived.Test.YtklmhegmombegaaDoorRe0
import Derived.Test.YtklmhegmombegaaDoorRows
import Derived.Test.YtklmhegmombegaaDoorBuf
import Derived.Test.YtklmhegmombegaaDoorPlain
import Derived.RangeFuncNested
import Derived.RangeFuncBound
import Derived.RangeFuncCalls
import Derived.RangeFuncLeaves
import Derived.Shelf.Abstract
import Derived.Shelf.RegionOpen
import Derived.WalkKit
import Derived.OwnWalkIn
import Derived.TacticsInMore
import Derived.LoopNIn
import Derived.LoopIn
import Derived.Lib.Hide
import Derived.RangeFuncBox
import Derived.WalkSpells
import Derived.Deep.MidRow
import Derived.BigQuiet
import Derived.WalkLawsBesides
import Derived.MapViews
import Derived.Deep.RegionHeld3
import Derived.RegionTactic
import Derived.Great.FillDense
import Derived.Great.BuildSlice
import Derived.Deep.DeepCutAuto
import Derived.Deep.CutBlock
import Derived.Laws.StructEq
set_option linter.unusedVariables false
set_option linter.unusedSimpArgs false
namespace Go.Proofs.YtklmhegmombegaaDoor.Re
open Go Go.RowKit Go.Shelf Go.Proofs.YtklmhegmombegaaDoor.Re.Plain

attribute [local go_sem] Oper.semAt_some

def upto {α : Type} (f : Nat → α) (k : Nat) : List α := (List.range k).map f
theorem upto_succ {α : Type} (f : Nat → α) (k : Nat) : upto f (k + 1) = upto f k ++ [f k] := by simp [upto, List.range_succ]
theorem upto_length {α : Type} (f : Nat → α) (k : Nat) : (upto f k).length = k := by simp [upto]

/-- The j-th step that comes, and its number. -/
def bk (l : List (Int × Int)) (j : Nat) : Nat × Int × Int := (l.length - 1 - j, l[l.length - 1 - j]?.getD (0, 0))
def encB (x : Nat × Int × Int) : Array Value := #[.int .i64 (x.1 : Int), .agg #[.int .i64 x.2.1, .int .i64 x.2.2]]

set_option maxRecDepth 100000 in
set_option maxHeartbeats 2000000 in
theorem back1_in (F : Fence) (n : Nat) (h81 : F.fn 153) (hro : F.round = none) (hn : 1 ≤ n) (l Bs n₀ b off cap : Nat) (zs : List (Int × Int)) (hl : zs.length ≤ 1000) (hl1 : 1 ≤ zs.length) (hb : b < n₀) (J Jx : List (Nat × Int × Int) → World → Prop)
    (hY : ∀ pre x W, J pre W → pre.length < zs.length → YieldAt F (n - 1) Tryd.prog l (encB x) W fun e W' =>
      (e = .returned (.bool true) ∧ J (pre ++ [x]) W' ∧ Below n₀ W W') ∨ (e = .returned (.bool false) ∧ Jx (pre ++ [x]) W'))
    (W : World) (hBn : Bs < n₀) (hBs : W.cell? ⟨Bs, 0, none⟩ = some (.slice (some ⟨b, off, none⟩) zs.length cap)) (hc : ∀ j, j < zs.length → W.cell? ⟨b, off + j * 2, none⟩ = some (.int .i64 (zs[j]?.getD (0, 0)).1) ∧ W.cell? ⟨b, off + j * 2 + 1, none⟩ = some (.int .i64 (zs[j]?.getD (0, 0)).2)) (h0 : J [] W) :
    CallsIn F n Tryd.prog 153 #[.func (.yield l) #[] #[], .pointer (some ⟨Bs, 0, none⟩)] W fun e W' => (∃ v, e = .returned v) ∧
      ((∃ ys, ys = upto (bk zs) zs.length ∧ J ys W') ∨ (∃ pre, (∃ k, k < zs.length ∧ pre = upto (bk zs) (k + 1)) ∧ Jx pre W')) := by
  refine callsIn_of_wp Tryd.func153 rfl h81 ?_ hro
  simp only [Tryd.ntmps153, List.size_toArray, List.length_cons, List.length_nil, Nat.reduceAdd, Nat.reduceSub, Array.replicate_succ, Array.replicate_zero, List.push_toArray, List.append_toArray, List.nil_append, List.cons_append]
  gi_wp2
  gi_loopw [3] (fun i wr => ∃ k : Nat, k ≤ zs.length ∧ i = .int .i64 ((zs.length : Int) - 1 - k) ∧ J (upto (bk zs) k) wr ∧ Below n₀ W wr)
    (fun i _ => (intOf i + 1).toNat)
  case atStart => exact ⟨0, Nat.zero_le _, by simp, h0, Below.refl _ _⟩
  case round =>
    obtain ⟨k, hk, rfl, hJs, hnx⟩ := hrel
    have hBs' := (hnx.cell (p := ⟨Bs, 0, none⟩) hBn).trans hBs
    by_cases hlt : k < zs.length
    · obtain ⟨fn, tmps, assign, body, hy, hR⟩ := hY _ (bk zs k) wr hJs (by rw [upto_length]; exact hlt)
      obtain ⟨m, hm⟩ : ∃ m : Nat, (zs.length : Int) - 1 - k = m := ⟨zs.length - 1 - k, by omega⟩
      have hmk : zs.length - 1 - k = m := by omega
      obtain ⟨c1, c2⟩ := hc m (by omega)
      have c1' := (hnx.cell (p := ⟨b, off + m * 2, none⟩) hb).trans c1
      have c2' := (hnx.cell (p := ⟨b, off + m * 2 + 1, none⟩) hb).trans c2
      dsimp only [encB, bk] at hy
      rw [hmk] at hy
      rw [hm]
      have hmlt : m < zs.length := by omega
      have HM := Lib.hid hm
      have HMK := Lib.hid hmk
      clear hm hmk c1 c2
      generalize zs[m]?.getD (0, 0) = z at c1' c2' hy
      gi_wp2
      refine hR.mono ?_
      rintro e W3 (⟨rfl, hJ3, hk3⟩ | ⟨rfl, hJx3⟩)
      · gi_wp2
        go_roundw
        case rel => exact ⟨k + 1, by omega, by have := HM.out; rw [← this]; congr 1; omega, by rw [upto_succ]; exact hJ3, hnx.trans hk3⟩
        case measure => simp [intOf]
      · gi_wp2
        refine bodyPost_ret (results_none rfl _ _ _) rfl ?_
        exact ⟨⟨_, rfl⟩, .inr ⟨_, ⟨k, hlt, (upto_succ _ _).symm⟩, hJx3⟩⟩
    · obtain rfl : k = zs.length := by omega
      have e : (zs.length : Int) - 1 - (zs.length : Int) = -1 := by omega
      rw [e]
      gi_wp2
      go_end0
      exact ⟨⟨_, rfl⟩, .inl ⟨_, rfl, hJs⟩⟩
end Go.Proofs.YtklmhegmombegaaDoor.Re
namespace Go.Proofs.YtklmhegmombegaaDoor.Re
open Go Go.RowKit Go.Shelf Go.Proofs.YtklmhegmombegaaDoor.Re.Plain

attribute [local go_sem] Oper.semAt_some

/-- A saga's cells, its steps at v. -/
def sgC (s : Sg) (v : Value) : Array Value := #[v, .int .i64 s.phase, .int .i64 s.pos, .int .i64 s.tries, .bool s.wait, .bool s.back, .int .i64 s.done, .int .i64 s.undone, .int .i64 s.may, .int .i64 s.seq]

set_option maxHeartbeats 1000000 in
theorem back_in (F : Fence) (n : Nat) (h74 : F.fn 152) (hro : F.round = none) (a : Option Addr) (m c : Nat) (w : World) :
    CallsIn F n Tryd.prog 152 #[.slice a m c] w fun e w' => e = .returned (.func (.func 153) #[] #[.pointer (some ⟨w.heap.size, 0, none⟩)]) ∧ w' = w.alloc (.cells #[.slice a m c] 27) := by
  refine callsIn_of_wp Tryd.func152 rfl h74 ?_ hro
  simp only [Tryd.ntmps152, List.size_toArray, List.length_cons, List.length_nil, Nat.reduceAdd, Nat.reduceSub, Array.replicate_succ, Array.replicate_zero, List.push_toArray, List.append_toArray, List.nil_append, List.cons_append]
  gi_wp2
  go_ret
  exact ⟨rfl, rfl⟩

set_option maxRecDepth 100000 in
set_option maxHeartbeats 1000000 in
/-- .. of no steps. -/
theorem back0_in (F : Fence) (n : Nat) (h81 : F.fn 153) (hro : F.round = none) (l Bs : Nat) (a : Option Addr) (cap : Nat) (J : List (Nat × Int × Int) → World → Prop)
    (W : World) (hBs : W.cell? ⟨Bs, 0, none⟩ = some (.slice a 0 cap)) (h0 : J [] W) :
    CallsIn F n Tryd.prog 153 #[.func (.yield l) #[] #[], .pointer (some ⟨Bs, 0, none⟩)] W fun e W' => (∃ v, e = .returned v) ∧ J [] W' := by
  refine callsIn_of_wp Tryd.func153 rfl h81 ?_ hro
  simp only [Tryd.ntmps153, List.size_toArray, List.length_cons, List.length_nil, Nat.reduceAdd, Nat.reduceSub, Array.replicate_succ, Array.replicate_zero, List.push_toArray, List.append_toArray, List.nil_append, List.cons_append]
  gi_wp2
  gi_loopw [3] (fun i wr => i = .int .i64 (-1) ∧ J [] wr) (fun _ _ => 0)
  case atStart => exact ⟨rfl, h0⟩
  case round =>
    obtain ⟨rfl, hJs⟩ := hrel
    gi_wp2
    go_end0
    exact ⟨⟨_, rfl⟩, hJs⟩

/-- What comes: all of it, or a beginning. -/
def Pre (zs : List (Int × Int)) (pre : List (Nat × Int × Int)) : Prop := ∃ k, k < zs.length ∧ pre = upto (bk zs) (k + 1)
theorem back_stops (F : Fence) (n : Nat) (h81 : F.fn 153) (hro : F.round = none) (hn : 1 ≤ n) (Bs n₀ : Nat) (v : Value) (zs : List (Int × Int)) (hl : zs.length ≤ 1000) (w : World) (hBs : Bs < n₀) (hn₀ : n₀ ≤ w.heap.size)
    (hc : w.cell? ⟨Bs, 0, none⟩ = some v) (hr : Rd w 2 v zs.length (flat2 zs)) (hlt : ∀ k, v.ownBlock = some k → k < n₀) :
    SeqStopsK F n Tryd.prog 153 #[.pointer (some ⟨Bs, 0, none⟩)] encB (Below n₀) (fun ys => ys = upto (bk zs) zs.length) (Pre zs) zs.length w := fun l J Jx W hW _ _ hY h0 => by
  have hW' := hW.mono hn₀
  have hc' := (hW'.cell (p := ⟨Bs, 0, none⟩) hBs).trans hc
  by_cases h1 : 1 ≤ zs.length
  · obtain ⟨b, o, c, rfl, hx⟩ := hr.addr (by omega)
    have hb := hlt b rfl
    exact back1_in F n h81 hro hn l Bs n₀ b o c zs hl h1 hb J Jx hY W hBs hc' (fun j hj => by
      obtain ⟨g1, g2⟩ := flat2_get hj
      rw [List.getElem?_eq_getElem hj]
      have e1 := hx _ _ g1
      have e2 := hx _ _ g2
      rw [← Nat.add_assoc] at e2
      exact ⟨(hW'.cell (p := ⟨b, o + j * 2, none⟩) hb).trans e1, (hW'.cell (p := ⟨b, o + j * 2 + 1, none⟩) hb).trans e2⟩) h0
  · have h0' : zs.length = 0 := by omega
    obtain ⟨_, a, c, rfl, _⟩ := hr
    rw [h0'] at hc'
    refine (back0_in F n h81 hro l Bs a c J W hc' h0).mono ?_
    rintro e W' ⟨he, hj⟩
    exact ⟨he, .inl ⟨_, by rw [h0']; rfl, hj⟩⟩

theorem block_own {β : Type} (B : Nat) (o : Obj) (ho : o.isCells = true) : Own (fun (_ : β) W => W.heap[B]? = some o) := fun s X Y row hs hg hrow =>
  (hg.block B (Array.getElem?_eq_some_iff.1 hs).1 (fun e => by
    obtain ⟨o', ho', hc⟩ := hrow B e.symm
    rw [hs] at ho'; cases ho'; rw [ho] at hc; cases hc)).trans hs

theorem b_or {a b : Nat} (ha : a < 64) (hb : b < 64) : bits .or .i64 (a : Int) (b : Int) = ((a ||| b : Nat) : Int) := by
  have : ∀ a : Fin 64, ∀ b : Fin 64, bits .or .i64 ((a.val : Nat) : Int) ((b.val : Nat) : Int) = ((a.val ||| b.val : Nat) : Int) := by decide +kernel
  exact this ⟨a, ha⟩ ⟨b, hb⟩
theorem b_clr {a b : Nat} (ha : a < 64) (hb : b < 64) : bits .andNot .i64 (a : Int) (b : Int) = ((clr a b : Nat) : Int) := by
  have : ∀ a : Fin 64, ∀ b : Fin 64, bits .andNot .i64 ((a.val : Nat) : Int) ((b.val : Nat) : Int) = ((clr a.val b.val : Nat) : Int) := by decide +kernel
  exact this ⟨a, ha⟩ ⟨b, hb⟩
theorem b_and1 {a : Nat} (ha : a < 64) : bits .and .i64 (a : Int) 1 = ((a % 2 : Nat) : Int) := by
  have : ∀ a : Fin 64, bits .and .i64 ((a.val : Nat) : Int) 1 = ((a.val % 2 : Nat) : Int) := by decide +kernel
  exact this ⟨a, ha⟩
theorem or_lt {a b : Nat} (ha : a < 64) (hb : b < 64) : a ||| b < 64 := lt_of_bits fun i hi => by rw [Nat.testBit_or, bits_of_lt ha i hi, bits_of_lt hb i hi]; rfl
/-- The test of a bit, as the walk writes it. -/
theorem b_test {o : Nat} (ho : o < 64) (i : Nat) : (bits .and .i64 ((o : Int) / 2 ^ min i 64) 1 == 1) = o.testBit i := by
  have e : ((o : Int) / 2 ^ min i 64) = ((o / 2 ^ min i 64 : Nat) : Int) := by simp
  rw [e, b_and1 (Nat.lt_of_le_of_lt (Nat.div_le_self _ _) ho), Nat.testBit_eq_decide_div_mod_eq]
  have : o / 2 ^ min i 64 = o / 2 ^ i := by
    by_cases h : i ≤ 64
    · rw [Nat.min_eq_left h]
    · rw [Nat.min_eq_right (by omega), Nat.div_eq_of_lt (by omega), Nat.div_eq_of_lt]
      exact Nat.lt_of_lt_of_le ho (Nat.le_trans (by decide : 64 ≤ 2 ^ 64) (Nat.pow_le_pow_right (by decide) (by omega)))
  rw [this]
  generalize o / 2 ^ i % 2 = n
  rw [Bool.eq_iff_iff, beq_iff_eq, decide_eq_true_eq]
  omega

/-- A result that lies in a box. -/
theorem results_box {fn : Func} {p : Tmp} {tmps : Array Value} {W : World} {B : Nat} {k : Int} (h : fn.results = #[.cell p 3]) (hp : tmps.getD p undef = .pointer (some ⟨B, 0, none⟩)) (hb : Boxed W B 3 (.int .i64 k)) : (results fn tmps).run Tryd.prog W = .ok (.int .i64 k) W := by
  have hc := hb.cell
  have hp' : tmps[p]?.getD undef = .pointer (some ⟨B, 0, none⟩) := by simpa using hp
  simp [results, h, hp', asAddr, go_sem, hc]
/-- What the body asks of a step. -/
def tst (o : Nat) (x : Nat × Int × Int) : Bool := (x.2.2 == 1) && o.testBit x.1
theorem opn_tst (s : Sg) (j : Nat) (hj : j < s.steps.length) (hl : s.steps.length ≤ 6) : opn s (s.steps.length - 1 - j) = tst (clr (s.done ||| s.may) s.undone) (bk s.steps j) := by
  unfold opn tst bk kindAt
  have hlt : s.steps.length - 1 - j < s.steps.length := by omega
  have h6 : s.steps.length - 1 - j < 6 := by omega
  simp only [testBit_clr, Nat.testBit_or, List.getElem?_eq_getElem hlt, Option.map_some, Option.getD_some, h6, decide_true, Bool.true_xor]
  rw [Bool.and_assoc]
theorem mem_upto {α : Type} {f : Nat → α} {k : Nat} {x : α} : x ∈ upto f k ↔ ∃ j, j < k ∧ f j = x := by simp [upto]
theorem target_done (s : Sg) (hl : s.steps.length ≤ 6) (h : ∀ x ∈ upto (bk s.steps) s.steps.length, tst (clr (s.done ||| s.may) s.undone) x = false) : target s = -1 := by
  refine lastOf_no fun i hi => ?_
  have := opn_tst s (s.steps.length - 1 - i) (by omega) hl
  have e : s.steps.length - 1 - (s.steps.length - 1 - i) = i := by omega
  rw [e] at this
  rw [this]
  exact h _ (mem_upto.2 ⟨_, by omega, rfl⟩)
theorem target_stop (s : Sg) (hl : s.steps.length ≤ 6) {k : Nat} (hk : k < s.steps.length) {pre : List (Nat × Int × Int)} {x : Nat × Int × Int} (e : upto (bk s.steps) (k + 1) = pre ++ [x]) (hx : tst (clr (s.done ||| s.may) s.undone) x = true)
    (h : ∀ y ∈ pre, tst (clr (s.done ||| s.may) s.undone) y = false) : target s = (x.1 : Int) := by
  rw [upto_succ] at e
  obtain ⟨rfl, e2⟩ := List.append_inj' e rfl
  simp only [List.cons.injEq, and_true] at e2
  subst e2
  show lastOf (opn s) s.steps.length = ((s.steps.length - 1 - k : Nat) : Int)
  refine lastOf_eq (by omega) (by rw [opn_tst s k hk hl]; exact hx) fun i h1 h2 => ?_
  have := opn_tst s (s.steps.length - 1 - i) (by omega) hl
  have e : s.steps.length - 1 - (s.steps.length - 1 - i) = i := by omega
  rw [e] at this
  rw [this]
  exact h _ (mem_upto.2 ⟨_, by omega, rfl⟩)

set_option maxRecDepth 100000 in
set_option maxHeartbeats 2000000 in
theorem f_target (s : Sg) (v : Value) (w : World) (hl : s.steps.length ≤ 6) (hd : s.done < 64) (hm : s.may < 64) (hu : s.undone < 64) (hr : Rd w 2 v s.steps.length (flat2 s.steps)) (hlt : ∀ k, v.ownBlock = some k → k < w.heap.size) :
    Calls Tryd.prog 150 #[.agg (sgC s v)] w fun e w' => e = .returned (.int .i64 (target s)) ∧ Below w.heap.size w w' := by
  refine (callsIn_wide (n := 6)).1 ?_
  refine callsIn_of_wp_marks Tryd.func150 rfl trivial ?_ rfl
  obtain ⟨a, c, rfl⟩ : ∃ a c, v = .slice a s.steps.length c := by obtain ⟨_, a, c, e, _⟩ := hr; exact ⟨a, c, e⟩
  unfold sgC
  simp only [Tryd.ntmps150, List.size_toArray, List.length_cons, List.length_nil, Nat.reduceAdd, Nat.reduceSub, Array.replicate_succ, Array.replicate_zero, List.push_toArray, List.append_toArray, List.nil_append, List.cons_append]
  gi_wp2_with (refine ⟨trivial, ?_⟩; gi_at_call 152; refine (back_in _ _ trivial rfl _ _ _ _).mono ?_; rintro e w' ⟨rfl, rfl⟩)
  have bR := ((Boxed.new (w.alloc (.cells #[.slice a s.steps.length c, .int .i64 s.phase, .int .i64 s.pos, .int .i64 s.tries, .bool s.wait, .bool s.back, .int .i64 s.done, .int .i64 s.undone, .int .i64 s.may, .int .i64 s.seq] 133)) 3 (.int .i64 0)).alloc (.cells #[.int .i64 (bits .andNot .i64 (bits .or .i64 s.done s.may) s.undone)] 3)).alloc (.cells #[.slice a s.steps.length c] 27)
  have bO := (Boxed.new ((w.alloc (.cells #[.slice a s.steps.length c, .int .i64 s.phase, .int .i64 s.pos, .int .i64 s.tries, .bool s.wait, .bool s.back, .int .i64 s.done, .int .i64 s.undone, .int .i64 s.may, .int .i64 s.seq] 133)).alloc (.cells #[.int .i64 0] 3)) 3 (.int .i64 (bits .andNot .i64 (bits .or .i64 s.done s.may) s.undone))).alloc (.cells #[.slice a s.steps.length c] 27)
  have bL := Boxed.new (((w.alloc (.cells #[.slice a s.steps.length c, .int .i64 s.phase, .int .i64 s.pos, .int .i64 s.tries, .bool s.wait, .bool s.back, .int .i64 s.done, .int .i64 s.undone, .int .i64 s.may, .int .i64 s.seq] 133)).alloc (.cells #[.int .i64 0] 3)).alloc (.cells #[.int .i64 (bits .andNot .i64 (bits .or .i64 s.done s.may) s.undone)] 3)) 27 (.slice a s.steps.length c)
  simp only [World.size_alloc] at bR bO bL
  have hB0 : Below w.heap.size w ((((w.alloc (.cells #[.slice a s.steps.length c, .int .i64 s.phase, .int .i64 s.pos, .int .i64 s.tries, .bool s.wait, .bool s.back, .int .i64 s.done, .int .i64 s.undone, .int .i64 s.may, .int .i64 s.seq] 133)).alloc (.cells #[.int .i64 0] 3)).alloc (.cells #[.int .i64 (bits .andNot .i64 (bits .or .i64 s.done s.may) s.undone)] 3)).alloc (.cells #[.slice a s.steps.length c] 27)) := (((((Below.refl _ w).alloc (Nat.le_refl _) _).alloc (by simp) _).alloc (by simp; omega) _).alloc (by simp; omega) _)
  have hsz : ((((w.alloc (.cells #[.slice a s.steps.length c, .int .i64 s.phase, .int .i64 s.pos, .int .i64 s.tries, .bool s.wait, .bool s.back, .int .i64 s.done, .int .i64 s.undone, .int .i64 s.may, .int .i64 s.seq] 133)).alloc (.cells #[.int .i64 0] 3)).alloc (.cells #[.int .i64 (bits .andNot .i64 (bits .or .i64 s.done s.may) s.undone)] 3)).alloc (.cells #[.slice a s.steps.length c] 27)).heap.size = w.heap.size + 4 := by simp
  obtain ⟨W0, hW0⟩ : ∃ W0, (((w.alloc (.cells #[.slice a s.steps.length c, .int .i64 s.phase, .int .i64 s.pos, .int .i64 s.tries, .bool s.wait, .bool s.back, .int .i64 s.done, .int .i64 s.undone, .int .i64 s.may, .int .i64 s.seq] 133)).alloc (.cells #[.int .i64 0] 3)).alloc (.cells #[.int .i64 (bits .andNot .i64 (bits .or .i64 s.done s.may) s.undone)] 3)).alloc (.cells #[.slice a s.steps.length c] 27) = W0 := ⟨_, rfl⟩
  rw [hW0] at bR bO bL hB0 hsz ⊢
  clear hW0
  have hrd : Rd W0 2 (.slice a s.steps.length c) s.steps.length (flat2 s.steps) := hr.same fun p hp u hu => (hB0.cell (World.block_lt_of_cell? w p hu)).trans hu
  have hop : bits .andNot .i64 (bits .or .i64 s.done s.may) s.undone = ((clr (s.done ||| s.may) s.undone : Nat) : Int) := by rw [b_or hd hm, b_clr (or_lt hd hm) hu]
  rw [hop] at bO ⊢
  have HO := Lib.hid (clr_lt (b := s.undone) (or_lt hd hm))
  have HT := Lib.hid (target_done s hl)
  have HS : Hid (∀ {k : Nat}, k < s.steps.length → ∀ {pre : List (Nat × Int × Int)} {x : Nat × Int × Int}, upto (bk s.steps) (k + 1) = pre ++ [x] → tst (clr (s.done ||| s.may) s.undone) x = true → (∀ y ∈ pre, tst (clr (s.done ||| s.may) s.undone) y = false) → target s = (x.1 : Int)) := fun hk => target_stop s hl hk
  generalize clr (s.done ||| s.may) s.undone = op at *
  clear hop hd hm hu
  refine wpIn_rangeFunc_ownH rfl (by decide) (gf := 153) (lb := #[.pointer (some ⟨w.heap.size + 1 + 1 + 1, 0, none⟩)]) rfl trivial (enters_of Tryd.func153 (by kernel_rfl) rfl)
    (back_stops Fence.wide _ trivial rfl (by decide) (w.heap.size + 1 + 1 + 1) W0.heap.size (.slice a s.steps.length c) s.steps (by omega) W0 (by omega) (by omega) bL.cell hrd (fun k e => by have := hlt k e; omega)) belowK_t (belowK_b (by omega)) (Below.refl _ _) (fun _ => rfl)
    (fun pre W => ((Boxed W (w.heap.size + 1) 3 (.int .i64 0) ∧ Boxed W (w.heap.size + 1 + 1) 3 (.int .i64 op)) ∧ Below w.heap.size w W) ∧ ((∀ x ∈ pre, tst op x = false) ∧ W0.heap.size ≤ W.heap.size))
    (fun c pre W => ∃ pre' x, (Boxed W (w.heap.size + 1) 3 (.int .i64 (x.1 : Int)) ∧ Below w.heap.size w W) ∧ (c = .ret ∧ pre = pre' ++ [x] ∧ tst op x = true ∧ (∀ y ∈ pre', tst op y = false)))
    (OwnFrom.and (OwnFrom.and (OwnFrom.and (Own.from (boxed_own _ _ _) _) (Own.from (boxed_own _ _ _) _)) (ownFrom_below (Nat.le_refl _) (by omega))) (fun _ _ _ _ hs hg _ => ⟨hs.1, Nat.le_trans hs.2 hg.size⟩))
    (fun c pre A B row hs hg hr => by
      obtain ⟨pre', x, ⟨h1, h2⟩, h3⟩ := hs
      exact ⟨pre', x, ⟨Own.from (boxed_own (w.heap.size + 1) 3 (fun (_ : Unit) => Value.int .i64 (x.1 : Int))) W0.heap.size () A B row h1 hg hr, ownFrom_below (β := Unit) (Nat.le_refl _) (by omega) () A B row h2 hg hr⟩, h3⟩)
    ⟨⟨⟨bR, bO⟩, hB0⟩, by simp, Nat.le_refl _⟩
    (fun x a' W => ∃ Bx, w.heap.size + 1 + 1 < Bx ∧ W.heap[Bx]? = some (.cells #[.int .i64 x.2.1, .int .i64 x.2.2] 115 (0, 0)) ∧ a' = { tmps := #[.agg #[.slice a s.steps.length c, .int .i64 s.phase, .int .i64 s.pos, .int .i64 s.tries, .bool s.wait, .bool s.back, .int .i64 s.done, .int .i64 s.undone, .int .i64 s.may, .int .i64 s.seq],
      .pointer (some ⟨w.heap.size, 0, none⟩), .pointer (some ⟨w.heap.size + 1, 0, none⟩), .pointer (some ⟨w.heap.size + 1 + 1, 0, none⟩), .int .i64 x.1, .pointer (some ⟨Bx, 0, none⟩),
      .pointer (some ⟨w.heap.size, 6, none⟩), .int .i64 s.done, .pointer (some ⟨w.heap.size, 8, none⟩), .int .i64 s.may, .int .i64 (bits .or .i64 s.done s.may), .pointer (some ⟨w.heap.size, 7, none⟩), .int .i64 s.undone, .int .i64 op, .pointer (some ⟨w.heap.size, 0, none⟩), .slice a s.steps.length c, .func (.func 153) #[] #[.pointer (some ⟨w.heap.size + 1 + 1 + 1, 0, none⟩)], .int .i64 x.1, .agg #[.int .i64 x.2.1, .int .i64 x.2.2], undef, undef, undef, undef, undef, undef, undef, undef, undef, undef, undef], defers := [] })
    (fun x a' _ X Y row hs hg hr => by obtain ⟨Bx, h1, h2, h3⟩ := hs; exact ⟨Bx, h1, block_own Bx _ rfl () X Y row h2 hg (fun r e => (hr r e).2), h3⟩)
    ?assign ?body ?done ?stop
  case assign =>
    rintro l pre x W K ⟨⟨⟨bR1, bO1⟩, hB1⟩, hp, hsW⟩ hK
    unfold encB
    gi_wp2
    exact hK _ _ ((KeepsOthers.alloc _ _).from _) ((Below.refl _ W).alloc hsW _) ⟨⟨⟨bR1.alloc _, bO1.alloc _⟩, hB1.alloc hB1.size _⟩, hp, by simp; omega⟩ ⟨W.heap.size, bO1.lt, World.alloc_heap_new W _, rfl⟩
  case body =>
    rintro l pre x a' W hl1 ⟨r, hr1⟩ ⟨⟨⟨bR1, bO1⟩, hB1⟩, hp, hsW⟩ ⟨Bx, hBx, bX, rfl⟩ hlt1
    have cO := bO1.cell
    have cR := bR1.cell
    have fR := bR1.frozen
    have x0 : W.cell? ⟨Bx, 0, none⟩ = some (.int .i64 x.2.1) := by simp [World.cell?, bX]
    have x1 : W.cell? ⟨Bx, 1, none⟩ = some (.int .i64 x.2.2) := by simp [World.cell?, bX]
    have HB := Lib.hid (b_test HO.out x.1)
    have HP := Lib.hid hp
    clear hp
    by_cases hk1 : x.2.2 = 1
    · cases ht : op.testBit x.1 with
      | true =>
        have t1 : (bits .and .i64 ((op : Int) / 2 ^ min x.1 64) 1 == 1) = true := by rw [HB.out, ht]
        have h2 : tst op x = true := by simp [tst, hk1, ht]
        have H2 := Lib.hid h2
        clear ht h2
        gi_wp2
        exact ⟨(KeepsOthers.setCell _ _ _).from _, pre, x, ⟨bR1.set _, hB1.setCell (p := ⟨w.heap.size + 1, 0, none⟩) (by simp) _⟩, rfl, rfl, H2.out, HP.out⟩
      | false =>
        have t1 : (bits .and .i64 ((op : Int) / 2 ^ min x.1 64) 1 == 1) = false := by rw [HB.out, ht]
        have h2 : tst op x = false := by simp [tst, ht]
        have H2 := Lib.hid h2
        clear ht h2
        gi_wp2
        exact ⟨KeepsFrom.refl _ _, Below.refl _ _, ⟨⟨bR1, bO1⟩, hB1⟩, fun y hy => by
          rcases List.mem_append.1 hy with h | h
          · exact HP.out y h
          · simp at h; subst h; exact H2.out, hsW⟩
    · have t1 : (x.2.2 == 1) = false := by rw [beq_eq_false_iff_ne]; exact hk1
      have h2 : tst op x = false := by simp [tst, t1]
      have H2 := Lib.hid h2
      clear h2
      gi_wp2
      exact ⟨KeepsFrom.refl _ _, Below.refl _ _, ⟨⟨bR1, bO1⟩, hB1⟩, fun y hy => by
        rcases List.mem_append.1 hy with h | h
        · exact HP.out y h
        · simp at h; subst h; exact H2.out, hsW⟩
  case done =>
    rintro D zs W hD rfl ⟨⟨⟨bR1, bO1⟩, hB1⟩, hp, hsW⟩ hK
    have cR := bR1.cell
    have fR := bR1.frozen
    have HE := Lib.hid (HT.out hp)
    clear hp
    gi_wp2
    have hK' : (W.setCell ⟨w.heap.size + 1, 0, none⟩ (.int .i64 (-1))).heap[D]? = some (.deferred (some [])) := (KeepsOthers.setCell W _ _).same D _ hK rfl
    have hb := (bR1.set (.int .i64 (-1))).kept (grownBy_putObj' _ D (.deferred none)) (by intro e; cases e; omega)
    refine ⟨by simp, .inl ⟨_, _, rfl, run_takeDeferred hK', ?_⟩⟩
    refine ⟨_, results_box rfl rfl hb, by rw [HE.out], ?_⟩
    exact (hB1.setCell (p := ⟨w.heap.size + 1, 0, none⟩) (by simp) _).trans (belowK_b (w := w) (Nat.le_refl _) _ D _ _ (by omega) hK' rfl rfl)
  case stop =>
    rintro D c pre W hD ⟨k, hk, rfl⟩ ⟨pre', x, ⟨bR1, hB1⟩, rfl, he, hx, hy⟩ hK
    have HE := Lib.hid (HS.out hk he hx hy)
    clear hy he hx
    gi_wp2
    have hb := bR1.kept (grownBy_putObj' _ D (.deferred none)) (by intro e; cases e; omega)
    refine ⟨by simp, .inl ⟨_, _, rfl, run_takeDeferred hK, ?_⟩⟩
    refine ⟨_, results_box rfl rfl hb, by rw [HE.out], ?_⟩
    exact hB1.trans (belowK_b (w := w) (Nat.le_refl _) _ D _ _ (by omega) hK rfl rfl)
end Go.Proofs.YtklmhegmombegaaDoor.Re
namespace Go.Proofs.YtklmhegmombegaaDoor.Re
open Go Go.RowKit Go.Proofs.YtklmhegmombegaaDoor.Re.Plain Go.Proofs.YtklmhegmombegaaDoor

theorem f_within (n lo hi : Int) (w : World) : Calls Tryd.prog 142 #[.int .i64 n, .int .i64 lo, .int .i64 hi] w fun e w' => e = .returned (.bool (wi n lo hi)) ∧ w = w' := by
  unfold wi
  by_cases h : lo ≤ n
  · have h1 : decide (lo ≤ n) = true := by simpa using h
    go_enter Tryd.func142, Tryd.ntmps142
    go_wp2_with fail
    go_ret
    exact ⟨by simp [h], rfl⟩
  · have h1 : decide (lo ≤ n) = false := by simpa using h
    go_enter Tryd.func142, Tryd.ntmps142
    go_wp2_with fail
    go_ret
    exact ⟨by simp, rfl⟩
theorem f_within_is {n lo hi : Int} {b : Bool} (h : wi n lo hi = b) (w : World) : Calls Tryd.prog 142 #[.int .i64 n, .int .i64 lo, .int .i64 hi] w fun e w' => e = .returned (.bool b) ∧ w = w' := by
  subst h; exact f_within n lo hi w

/-- A saga that functions may be asked of. -/
structure Okay (s : Sg) : Prop where
  len : s.steps.length ≤ 6
  done : s.done < 64
  may : s.may < 64
  undone : s.undone < 64
  pos : s.pos ≤ 1000
  tries : s.tries ≤ 1000
  phase : s.phase ≤ 1000
  seq : s.seq ≤ 1000000
theorem f_over (s : Sg) (v : Value) (w : World) : Calls Tryd.prog 143 #[.agg (sgC s v)] w fun e w' => e = .returned (.bool (over s)) ∧ Kept (fun _ => False) w w' := by
  have e : over s = wi s.phase 2 4 := by simp only [over, wi]; congr 1 <;> simp <;> omega
  rw [e]
  unfold sgC
  go_enter Tryd.func143, Tryd.ntmps143
  go_wp2_with fail
  refine (f_within _ _ _ _).mono ?_
  rintro e w1 ⟨rfl, rfl⟩
  go_wp2_with fail
  go_ret
  exact ⟨rfl, (Kept.refl _ w).alloc _⟩

theorem f_step (s : Sg) (v : Value) (w : World) (ok : Okay s) (hs : Stp w v s.steps) : Calls Tryd.prog 147 #[.agg (sgC s v)] w fun e w' => e = .returned (.int .i64 (stepOf s)) ∧ Kept (fun _ => False) w w' := by
  have hs1 := hs.alloc (.cells (sgC s v) 133)
  have HT := Lib.hid (f_target s v (w.alloc (.cells (sgC s v) 133)) ok.len ok.done ok.may ok.undone hs1.rd hs1.lt)
  obtain ⟨a, c, rfl⟩ := hs.form
  have hlen := ok.len
  clear hs1 hs
  by_cases h1 : s.phase = 1
  · have t1 : ((s.phase : Int) == 1) = true := by rw [beq_iff_eq]; omega
    have E := Lib.hid (show stepOf s = target s by rw [stepOf, if_pos h1])
    clear h1
    rw [E.out]
    unfold sgC at HT ⊢
    go_enter Tryd.func147, Tryd.ntmps147
    go_wp2_with fail
    refine HT.out.mono ?_
    rintro e w1 ⟨rfl, hb⟩
    have hk := kept_of_below hb
    clear hb
    go_wp2_with fail
    go_ret
    exact ⟨rfl, ((Kept.refl _ w).alloc _).trans hk⟩
  · have t1 : ((s.phase : Int) == 1) = false := by rw [beq_eq_false_iff_ne]; omega
    have E : Hid (stepOf s = if s.pos < s.steps.length then (s.pos : Int) else -1) := by show stepOf s = _; rw [stepOf, if_neg h1]
    clear h1 HT
    rw [E.out]
    by_cases h2 : s.pos < s.steps.length
    · rw [if_pos h2]
      unfold sgC
      go_enter Tryd.func147, Tryd.ntmps147
      go_wp2_with fail
      go_ret
      exact ⟨rfl, (Kept.refl _ w).alloc _⟩
    · rw [if_neg h2]
      unfold sgC
      go_enter Tryd.func147, Tryd.ntmps147
      go_wp2_with fail
      go_ret
      exact ⟨rfl, (Kept.refl _ w).alloc _⟩

theorem f_missing (s : Sg) (v : Value) (w : World) (ok : Okay s) : Calls Tryd.prog 82 #[.agg (sgC s v)] w fun e w' => e = .returned (.int .i64 (missing s)) ∧ Kept (fun _ => False) w w' := by
  have hb := b_clr ok.done ok.undone
  by_cases h1 : s.phase = 2
  · have t1 : ((s.phase : Int) == 2) = true := by rw [beq_iff_eq]; omega
    have E : missing s = 0 := by simp [missing, h1]
    clear h1
    rw [E]
    clear E
    unfold sgC
    go_enter Tryd.func82, Tryd.ntmps82
    go_wp2_with fail
    go_ret
    exact ⟨rfl, (Kept.refl _ w).alloc _⟩
  · have t1 : ((s.phase : Int) == 2) = false := by rw [beq_eq_false_iff_ne]; omega
    have E : missing s = clr s.done s.undone := by simp [missing, h1]
    clear h1
    rw [E]
    clear E
    unfold sgC
    go_enter Tryd.func82, Tryd.ntmps82
    go_wp2_with fail
    go_ret
    exact ⟨rfl, (Kept.refl _ w).alloc _⟩

/-! ## Records -/
/-- A record's cells: what it says of a call. -/
structure Recish (C : Array Value) (x : Rc) : Prop where
  size : C.size = 109
  one : C.all (·.oneCell') = true
  c0 : C[0]? = some (.int .i64 x.kind)
  c2 : C[2]? = some (.int .i64 x.seq)
  c3 : C[3]? = some (.int .i64 x.step)
  c4 : C[4]? = some (.int .i64 x.tr)
  c5 : C[5]? = some (.bool x.bk)
  c6 : C[6]? = some (.bool x.good)
  c7 : C[7]? = some (.int .i64 x.nd)
/-- What Due says, as a record. -/
def dueC (d : Du) : Array Value := ((((Z30.setIfInBounds 0 (.int .i64 d.kind)).setIfInBounds 3 (.int .i64 d.step)).setIfInBounds 4 (.int .i64 d.tr)).setIfInBounds 5 (.bool d.bk)).setIfInBounds 7 (.int .i64 d.nd)
end Go.Proofs.YtklmhegmombegaaDoor.Re
namespace Go.Proofs.YtklmhegmombegaaDoor.Re
open Go Go.RowKit Go.Proofs.YtklmhegmombegaaDoor.Re.Plain Go.Proofs.YtklmhegmombegaaDoor

theorem range_row {w : World} {g : Nat} {C : Array Value} {t : TypeId} {fz : Nat × Nat} (hg : w.heap[g]? = some (.cells C t fz)) : w.rangeAt g 0 C.toList := by
  intro j v hv
  rw [Nat.zero_add, cell_of_row w g j C t fz hg]
  simpa using hv
theorem Kept.setRow {S : Nat → Prop} {a w : World} (h : Kept S a w) {g : Nat} (hg : a.heap.size ≤ g) (c : Array Value) : Kept S a (w.setRow g c) :=
  ⟨h.os, h.tape, h.output, by simpa [World.setRow] using h.size, fun k hk hs => (setRow_other w g k c (by omega)).trans (h.block k hk hs)⟩

section
variable {ops : Array Oper} {rest : List Oper} {dst : Option Tmp} {ty : TypeId} {pos : String} {aft : Array Edge} {a : Act} {w : World} {Q : Exit → Act → World → Prop}
theorem build30e {k nd : Int} (h : wpList Tryd.prog ops Q rest (a.put dst (.agg (dueC ⟨k, 0, 0, false, nd⟩))) w) : wpList Tryd.prog ops Q (⟨dst, .build 30 #[(0, .const (.int .i64 k)), (7, .const (.int .i64 nd))], ty, pos, aft, none⟩ :: rest) a w := by
  refine wpList_plain rfl fun K hK => ?_
  go_simp
  exact hK _ _ h
theorem build30c {k st tr : Int} {bk : Bool} {x y z : Nat} (hx : a.tmps[x]?.getD undef = .int .i64 st) (hy : a.tmps[y]?.getD undef = .int .i64 tr) (hz : a.tmps[z]?.getD undef = .bool bk)
    (h : wpList Tryd.prog ops Q rest (a.put dst (.agg (dueC ⟨k, st, tr, bk, 0⟩))) w) : wpList Tryd.prog ops Q (⟨dst, .build 30 #[(0, .const (.int .i64 k)), (3, .tmp x), (4, .tmp y), (5, .tmp z)], ty, pos, aft, none⟩ :: rest) a w := by
  refine wpList_plain rfl fun K hK => ?_
  go_simp
  exact hK _ _ h
end

/-- The two results of Due. -/
theorem results_due {fn : Func} {p t : Tmp} (h : fn.results = #[.cell p 30, .tmp t]) (tmps : Array Value) (w : World) (g : Nat) {C : Array Value} {ty : TypeId} {fr : Nat × Nat} {v : Value}
    (hg : w.heap[g]? = some (.cells C ty fr)) (hC : C.size = 109) (hp : tmps.getD p undef = .pointer (some ⟨g, 0, none⟩)) (hv : tmps.getD t undef = v := by rfl) :
    (results fn tmps).run Tryd.prog w = .ok (.tuple #[.agg C, v]) w := by
  have hp' : tmps[p]?.getD undef = .pointer (some ⟨g, 0, none⟩) := by simpa using hp
  have hv' : tmps[t]?.getD undef = v := by simpa using hv
  simp [results, h, hp', hv', asAddr, run_loadVar_row (P := Tryd.prog) w g ty 30 C fr _ hg Tryd.underlying30 rfl (by rw [Tryd.isz30, hC])]

set_option maxRecDepth 100000 in
theorem dueC_size (d : Du) : (dueC d).size = 109 := rfl
theorem dueC_one (d : Du) : (dueC d).all (·.oneCell') = true := all_set (all_set (all_set (all_set (all_set Z30_one rfl _) rfl _) rfl _) rfl _) rfl _
set_option maxRecDepth 100000 in
theorem dueC_recish (d : Du) : Recish (dueC d) ⟨d.kind, 0, d.step, d.tr, d.bk, false, d.nd⟩ := ⟨dueC_size d, dueC_one d, rfl, rfl, rfl, rfl, rfl, rfl, rfl⟩

theorem cells10 {w : World} {B : Nat} {c0 c1 c2 c3 c4 c5 c6 c7 c8 c9 : Value} {t : TypeId} (h : w.heap[B]? = some (.cells #[c0, c1, c2, c3, c4, c5, c6, c7, c8, c9] t (0, 0))) :
    w.cell? ⟨B, 0, none⟩ = some c0 ∧ w.cell? ⟨B, 1, none⟩ = some c1 ∧ w.cell? ⟨B, 2, none⟩ = some c2 ∧ w.cell? ⟨B, 3, none⟩ = some c3 ∧ w.cell? ⟨B, 4, none⟩ = some c4 ∧ w.cell? ⟨B, 5, none⟩ = some c5 ∧ w.cell? ⟨B, 6, none⟩ = some c6 ∧
    w.cell? ⟨B, 7, none⟩ = some c7 ∧ w.cell? ⟨B, 8, none⟩ = some c8 ∧ w.cell? ⟨B, 9, none⟩ = some c9 := by
  refine ⟨?_, ?_, ?_, ?_, ?_, ?_, ?_, ?_, ?_, ?_⟩ <;> simp [World.cell?, h]
theorem frozen10 {w : World} {B : Nat} {C : Array Value} {t : TypeId} (h : w.heap[B]? = some (.cells C t (0, 0))) (o : Nat) : w.frozen? ⟨B, o, none⟩ = false := by simp [World.frozen?, h]
/-- Due's answer. -/
def dueR (s : Sg) (lim : Nat) : Value := match Plain.due s lim with
  | some d => .tuple #[.agg (dueC d), .bool true]
  | none => .tuple #[.agg Z30, .bool false]

set_option maxHeartbeats 4000000 in
theorem f_due (s : Sg) (v : Value) (lim : Nat) (w : World) (ok : Okay s) (hs : Stp w v s.steps) (h1 : 1 ≤ lim) (h9 : lim ≤ 9) :
    Calls Tryd.prog 144 #[.agg (sgC s v), .int .i64 lim] w fun e w' => e = .returned (dueR s lim) ∧ Kept (fun _ => False) w w' := by
  have hwi : wi (lim : Int) 1 9 = true := wi_true (by omega) (by omega)
  have HW := Lib.hid hwi
  have hn1 := heap_alloc2_new w (.cells (sgC s v) 133) (.cells Z30 30)
  have K2 := ((Kept.refl (fun _ => False) w).alloc (.cells (sgC s v) 133)).alloc (.cells Z30 30)
  have K3 : Hid (∀ {w1 : World} (C : Array Value), Kept (fun _ => False) ((w.alloc (.cells (sgC s v) 133)).alloc (.cells Z30 30)) w1 → Kept (fun _ => False) w (w1.setRow (w.heap.size + 1) C)) := fun C k => (K2.trans k).setRow (by omega) _
  have hm : Hid (∀ {w1 : World}, Kept (fun _ => False) ((w.alloc (.cells (sgC s v) 133)).alloc (.cells Z30 30)) w1 → w1.heap[w.heap.size + 1]? = some (.cells Z30 30 (0, 0))) := fun k => (k.block _ (by simp) id).trans hn1
  have HS := Lib.hid hs
  have OK := Lib.hid ok
  have HS2 := Lib.hid ((hs.alloc (.cells (sgC s v) 133)).alloc (.cells Z30 30))
  obtain ⟨a, c, rfl⟩ := hs.form
  clear hwi hn1 K2 hs
  obtain ⟨st, ph, po, tr, wt, bk, dn, un, my, sq⟩ := s
  have hlen : st.length ≤ 6 := ok.len
  have htr : tr ≤ 1000 := ok.tries
  clear ok
  unfold sgC at *
  dsimp only at *
  cases wt with
  | true =>
    have E : dueR ⟨st, ph, po, tr, true, bk, dn, un, my, sq⟩ lim = .tuple #[.agg Z30, .bool false] := by rw [dueR, Plain.due, if_pos (.inl rfl)]
    rw [E]
    have h0 := Lib.hid (hm.out (Kept.refl _ _))
    have K4 := Lib.hid (K3.out Z30 (Kept.refl _ _))
    clear E hm K3 HS2
    go_enter Tryd.func144, Tryd.ntmps144
    go_wp2_with (first | fail | (with_reducible refine alloc30 ?_) | (with_reducible refine build30 ?_) | ((with_reducible refine store30 (C := Z30) ?_ ?_ h0.out rfl rfl Z30_one ?_); rfl; rfl))
    exact bodyPost_ret (results_due rfl _ _ _ (setRow_heap _ _ _ _ _ _ h0.out) rfl rfl) rfl ⟨rfl, K4.out⟩
  | false =>
    have HO : Hid (∀ w1, Calls Tryd.prog 143 #[.agg #[.slice a st.length c, .int .i64 ph, .int .i64 po, .int .i64 tr, .bool false, .bool bk, .int .i64 dn, .int .i64 un, .int .i64 my, .int .i64 sq]] w1 fun e w' => e = .returned (.bool (over ⟨st, ph, po, tr, false, bk, dn, un, my, sq⟩)) ∧ Kept (fun _ => False) w1 w') := fun w1 => f_over ⟨st, ph, po, tr, false, bk, dn, un, my, sq⟩ _ w1
    cases ho : over ⟨st, ph, po, tr, false, bk, dn, un, my, sq⟩ with
    | true =>
      have E : dueR ⟨st, ph, po, tr, false, bk, dn, un, my, sq⟩ lim = .tuple #[.agg Z30, .bool false] := by rw [dueR, Plain.due, if_pos (.inr (.inl ho))]
      rw [E]
      rw [ho] at HO
      clear E HS2 ho
      go_enter Tryd.func144, Tryd.ntmps144
      go_wp2_with (first | fail | (with_reducible refine alloc30 ?_))
      refine (HO.out _).mono ?_
      rintro e w1 ⟨rfl, k1⟩
      have h0 := Lib.hid (hm.out k1)
      have K4 := Lib.hid (K3.out Z30 k1)
      clear k1 hm K3
      go_wp2_with (first | fail | (with_reducible refine build30 ?_) | ((with_reducible refine store30 (C := Z30) ?_ ?_ h0.out rfl rfl Z30_one ?_); rfl; rfl))
      exact bodyPost_ret (results_due rfl _ _ _ (setRow_heap _ _ _ _ _ _ h0.out) rfl rfl) rfl ⟨rfl, K4.out⟩
    | false =>
    rw [ho] at HO
    by_cases h0 : st = []
    · subst h0
      have E : dueR ⟨[], ph, po, tr, false, bk, dn, un, my, sq⟩ lim = .tuple #[.agg Z30, .bool false] := by rw [dueR, Plain.due, if_pos (.inr (.inr rfl))]
      rw [E]
      clear E HS2 ho
      go_enter Tryd.func144, Tryd.ntmps144
      go_wp2_with (first | fail | (with_reducible refine alloc30 ?_))
      refine (HO.out _).mono ?_
      rintro e w1 ⟨rfl, k1⟩
      have h0 := Lib.hid (hm.out k1)
      have K4 := Lib.hid (K3.out Z30 k1)
      have kb : Kept (fun _ => False) ((w.alloc (.cells #[.slice a 0 c, .int .i64 ph, .int .i64 po, .int .i64 tr, .bool false, .bool bk, .int .i64 dn, .int .i64 un, .int .i64 my, .int .i64 sq] 133)).alloc (.cells Z30 30)) w1 := k1
      have b0 : w1.cell? ⟨w.heap.size, 0, none⟩ = some (.slice a 0 c) := by
        rw [k1.cell (p := ⟨w.heap.size, 0, none⟩) (by simp; omega) id, cell_of_row _ _ 0 _ _ _ (heap_alloc2_old _ _ _)]; rfl
      clear k1 hm K3 kb
      go_wp2_with (first | fail | (with_reducible refine build30 ?_) | ((with_reducible refine store30 (C := Z30) ?_ ?_ h0.out rfl rfl Z30_one ?_); rfl; rfl))
      exact bodyPost_ret (results_due rfl _ _ _ (setRow_heap _ _ _ _ _ _ h0.out) rfl rfl) rfl ⟨rfl, K4.out⟩
    · have hl0 : 0 < st.length := List.length_pos_iff.2 h0
      have hb : ((st.length : Int) == 0) = false := by rw [beq_eq_false_iff_ne]; omega
      have HB : Hid (∀ {w1 : World}, Kept (fun _ => False) ((w.alloc (.cells #[.slice a st.length c, .int .i64 ph, .int .i64 po, .int .i64 tr, .bool false, .bool bk, .int .i64 dn, .int .i64 un, .int .i64 my, .int .i64 sq] 133)).alloc (.cells Z30 30)) w1 → w1.heap[w.heap.size]? = some (.cells #[.slice a st.length c, .int .i64 ph, .int .i64 po, .int .i64 tr, .bool false, .bool bk, .int .i64 dn, .int .i64 un, .int .i64 my, .int .i64 sq] 133 (0, 0))) :=
        fun k => (k.block _ (by simp; omega) id).trans (heap_alloc2_old _ _ _)
      have HST : Hid (∀ {w1 : World}, Kept (fun _ => False) ((w.alloc (.cells #[.slice a st.length c, .int .i64 ph, .int .i64 po, .int .i64 tr, .bool false, .bool bk, .int .i64 dn, .int .i64 un, .int .i64 my, .int .i64 sq] 133)).alloc (.cells Z30 30)) w1 →
        Calls Tryd.prog 147 #[.agg #[.slice a st.length c, .int .i64 ph, .int .i64 po, .int .i64 tr, .bool false, .bool bk, .int .i64 dn, .int .i64 un, .int .i64 my, .int .i64 sq]] w1 fun e w' => e = .returned (.int .i64 (stepOf ⟨st, ph, po, tr, false, bk, dn, un, my, sq⟩)) ∧ Kept (fun _ => False) w1 w') :=
        fun k => f_step ⟨st, ph, po, tr, false, bk, dn, un, my, sq⟩ _ _ OK.out (HS2.out.kept k)
      have hnn : ¬ (false = true ∨ over ⟨st, ph, po, tr, false, bk, dn, un, my, sq⟩ = true ∨ st = []) := by rw [ho]; simp [h0]
      have E : dueR ⟨st, ph, po, tr, false, bk, dn, un, my, sq⟩ lim = (if stepOf ⟨st, ph, po, tr, false, bk, dn, un, my, sq⟩ < 0 then (if ph = 0 then .tuple #[.agg (dueC ⟨5, 0, 0, false, 2⟩), .bool true] else .tuple #[.agg (dueC ⟨5, 0, 0, false, 3⟩), .bool true])
        else if tr < lim then .tuple #[.agg (dueC ⟨2, stepOf ⟨st, ph, po, tr, false, bk, dn, un, my, sq⟩, tr + 1, decide (ph = 1), 0⟩), .bool true] else .tuple #[.agg (dueC ⟨5, 0, 0, false, 4⟩), .bool true]) := by
        rw [dueR, Plain.due, if_neg hnn]
        generalize stepOf ⟨st, ph, po, tr, false, bk, dn, un, my, sq⟩ = k
        by_cases e1 : k < 0
        · by_cases e2 : ph = 0
          · rw [if_pos e1, if_pos e1, if_pos e2, if_pos e2]
          · rw [if_pos e1, if_pos e1, if_neg e2, if_neg e2]
        · by_cases e2 : tr < lim
          · rw [if_neg e1, if_neg e1, if_pos e2, if_pos e2]
          · rw [if_neg e1, if_neg e1, if_neg e2, if_neg e2]
      rw [E]
      have hsr : -1 ≤ stepOf ⟨st, ph, po, tr, false, bk, dn, un, my, sq⟩ ∧ stepOf ⟨st, ph, po, tr, false, bk, dn, un, my, sq⟩ ≤ 1000 := by
        have h2 := lastOf_lt (opn ⟨st, ph, po, tr, false, bk, dn, un, my, sq⟩) st.length
        have h3 : po ≤ 1000 := OK.out.pos
        unfold stepOf target
        dsimp only
        split
        · omega
        · split <;> omega
      clear hnn E HS2 ho h0
      generalize stepOf ⟨st, ph, po, tr, false, bk, dn, un, my, sq⟩ = k at HST hsr ⊢
      go_enter Tryd.func144, Tryd.ntmps144
      go_wp2_with (first | fail | (with_reducible refine alloc30 ?_))
      refine (HO.out _).mono ?_
      rintro e w1 ⟨rfl, k1⟩
      obtain ⟨b0, b1, b2, b3, b4, b5, b6, b7, b8, b9⟩ := cells10 (HB.out k1)
      go_wp2_with fail
      refine (f_within_is HW.out _).mono ?_
      rintro e w2 ⟨rfl, rfl⟩
      go_wp2_with fail
      refine (HST.out k1).mono ?_
      rintro e w2 ⟨rfl, k2⟩
      have kk := k1.trans k2
      clear b0 b1 b2 b3 b4 b5 b6 b7 b8 b9 k1 k2
      obtain ⟨b0, b1, b2, b3, b4, b5, b6, b7, b8, b9⟩ := cells10 (HB.out kk)
      have m0 := Lib.hid (hm.out kk)
      have KF := Lib.hid (fun C => K3.out C kk)
      clear kk hm K3 HST HO HB
      by_cases hk : k < 0
      · by_cases hp : ph = 0
        · have t1 : ((ph : Int) == 0) = true := by rw [beq_iff_eq]; omega
          have HP := Lib.hid hp
          clear hp
          go_wp2_with (first | fail | (with_reducible refine build30e ?_) | ((with_reducible refine store30 (C := dueC ⟨5, 0, 0, false, 2⟩) ?_ ?_ m0.out rfl (dueC_size _) (dueC_one _) ?_); rfl; rfl))
          exact bodyPost_ret (results_due rfl _ _ _ (setRow_heap _ _ _ _ _ _ m0.out) (dueC_size _) rfl) rfl ⟨(by first | rfl | (rw [if_pos hk, if_pos HP.out]; rfl)), KF.out _⟩
        · have t1 : ((ph : Int) == 0) = false := by rw [beq_eq_false_iff_ne]; omega
          have HP := Lib.hid hp
          clear hp
          go_wp2_with (first | fail | (with_reducible refine build30e ?_) | ((with_reducible refine store30 (C := dueC ⟨5, 0, 0, false, 3⟩) ?_ ?_ m0.out rfl (dueC_size _) (dueC_one _) ?_); rfl; rfl))
          exact bodyPost_ret (results_due rfl _ _ _ (setRow_heap _ _ _ _ _ _ m0.out) (dueC_size _) rfl) rfl ⟨(by first | rfl | (rw [if_pos hk, if_neg HP.out]; rfl)), KF.out _⟩
      · by_cases ht : tr < lim
        · have ep : ((ph : Int) == 1) = decide (ph = 1) := by rw [Bool.eq_iff_iff]; simp; omega
          have EP := Lib.hid ep
          clear ep
          go_wp2_with (first | fail | ((with_reducible refine build30c (st := k) (tr := (tr : Int) + 1) (bk := ((ph : Int) == 1)) ?_ ?_ ?_ ?_); rfl; rfl; rfl) | ((with_reducible refine store30 (C := dueC ⟨2, k, (tr : Int) + 1, ((ph : Int) == 1), 0⟩) ?_ ?_ m0.out rfl (dueC_size _) (dueC_one _) ?_); rfl; rfl))
          exact bodyPost_ret (results_due rfl _ _ _ (setRow_heap _ _ _ _ _ _ m0.out) (dueC_size _) rfl) rfl ⟨(by first | (rw [← EP.out]; rfl) | (rw [if_neg hk, if_pos ht, ← EP.out]; rfl) | rfl), KF.out _⟩
        · go_wp2_with (first | fail | (with_reducible refine build30e ?_) | ((with_reducible refine store30 (C := dueC ⟨5, 0, 0, false, 4⟩) ?_ ?_ m0.out rfl (dueC_size _) (dueC_one _) ?_); rfl; rfl))
          exact bodyPost_ret (results_due rfl _ _ _ (setRow_heap _ _ _ _ _ _ m0.out) (dueC_size _) rfl) rfl ⟨(by first | rfl | (rw [if_neg hk, if_neg ht]; rfl)), KF.out _⟩
end Go.Proofs.YtklmhegmombegaaDoor.Re
namespace Go.Proofs.YtklmhegmombegaaDoor.Re
open Go Go.RowKit Go.Proofs.YtklmhegmombegaaDoor.Re.Plain Go.Proofs.YtklmhegmombegaaDoor

theorem rec_cells {w : World} {B : Nat} {C : Array Value} {x : Rc} (hC : Recish C x) (h : w.heap[B]? = some (.cells C 30 (0, 0))) :
    w.cell? ⟨B, 0, none⟩ = some (.int .i64 x.kind) ∧ w.cell? ⟨B, 2, none⟩ = some (.int .i64 x.seq) ∧ w.cell? ⟨B, 3, none⟩ = some (.int .i64 x.step) ∧ w.cell? ⟨B, 4, none⟩ = some (.int .i64 x.tr) ∧ w.cell? ⟨B, 5, none⟩ = some (.bool x.bk) ∧
    w.cell? ⟨B, 6, none⟩ = some (.bool x.good) ∧ w.cell? ⟨B, 7, none⟩ = some (.int .i64 x.nd) :=
  ⟨(cell_of_row w B 0 C _ _ h).trans hC.c0, (cell_of_row w B 2 C _ _ h).trans hC.c2, (cell_of_row w B 3 C _ _ h).trans hC.c3, (cell_of_row w B 4 C _ _ h).trans hC.c4, (cell_of_row w B 5 C _ _ h).trans hC.c5, (cell_of_row w B 6 C _ _ h).trans hC.c6, (cell_of_row w B 7 C _ _ h).trans hC.c7⟩

/-- What is told, as a value. -/
def toldV (d : Du) : Value := .agg #[.int .i64 d.kind, .int .i64 d.step, .int .i64 d.tr, .bool d.bk, .int .i64 d.nd]
theorem f_of {C : Array Value} {x : Rc} (hC : Recish C x) (w : World) : Calls Tryd.prog 146 #[.agg C] w fun e w' => e = .returned (toldV (told x)) ∧ Kept (fun _ => False) w w' := by
  obtain ⟨x0, x2, x3, x4, x5, x6, x7⟩ := rec_cells hC (heap_alloc2_old w (.cells C 30) (.cells #[.int .i64 0, .int .i64 0, .int .i64 0, .bool false, .int .i64 0] 198))
  clear x2 x6
  unfold toldV told
  have hsz := hC.size
  clear hC
  go_enter Tryd.func146, Tryd.ntmps146
  go_wp2_with fail
  refine bodyPost_ret (v := .agg #[.int .i64 x.kind, .int .i64 x.step, .int .i64 x.tr, .bool x.bk, .int .i64 x.nd]) (by simp [results, Tryd.results46, go_sem]) rfl ⟨rfl, ?_⟩
  exact ((Kept.refl _ w).alloc _).alloc _

def turnS (s : Sg) : Sg := { s with phase := 1, tries := 0 }
theorem f_turn (s : Sg) (a : Option Addr) (n c : Nat) (w : World) : Calls Tryd.prog 151 #[.agg (sgC s (.slice a n c))] w fun e w' => e = .returned (.agg (sgC (turnS s) (.slice a n c))) ∧ Kept (fun _ => False) w w' := by
  unfold sgC turnS
  go_enter Tryd.func151, Tryd.ntmps151
  go_wp2_with fail
  refine bodyPost_ret (v := .agg #[.slice a n c, .int .i64 1, .int .i64 s.pos, .int .i64 0, .bool s.wait, .bool s.back, .int .i64 s.done, .int .i64 s.undone, .int .i64 s.may, .int .i64 s.seq]) (by simp [results, Tryd.results63, go_sem]) rfl ⟨rfl, ?_⟩
  exact ((Kept.refl _ w).alloc _).alloc _

theorem f_pick (a a' : Option Addr) (n c n' c' : Nat) (p q r d u m s p' q' r' d' u' m' s' : Int) (g k g' k' : Bool) (ok : Bool) (w : World) : Calls Tryd.prog 145 #[.agg #[.slice a n c, .int .i64 p, .int .i64 q, .int .i64 r, .bool g, .bool k, .int .i64 d, .int .i64 u, .int .i64 m, .int .i64 s],
    .agg #[.slice a' n' c', .int .i64 p', .int .i64 q', .int .i64 r', .bool g', .bool k', .int .i64 d', .int .i64 u', .int .i64 m', .int .i64 s'], .bool ok] w fun e w' =>
    e = .returned (.tuple #[if ok = true then .agg #[.slice a' n' c', .int .i64 p', .int .i64 q', .int .i64 r', .bool g', .bool k', .int .i64 d', .int .i64 u', .int .i64 m', .int .i64 s'] else .agg #[.slice a n c, .int .i64 p, .int .i64 q, .int .i64 r, .bool g, .bool k, .int .i64 d, .int .i64 u, .int .i64 m, .int .i64 s], .bool ok]) ∧ Kept (fun _ => False) w w' := by
  cases ok with
  | true =>
    go_enter Tryd.func145, Tryd.ntmps145
    go_wp2_with fail
    refine bodyPost_ret (v := .tuple #[.agg #[.slice a' n' c', .int .i64 p', .int .i64 q', .int .i64 r', .bool g', .bool k', .int .i64 d', .int .i64 u', .int .i64 m', .int .i64 s'], .bool true]) (by simp [results, Tryd.results45, go_sem]) rfl ⟨rfl, ?_⟩
    exact (((Kept.refl _ w).alloc _).alloc _).alloc _
  | false =>
    go_enter Tryd.func145, Tryd.ntmps145
    go_wp2_with fail
    refine bodyPost_ret (v := .tuple #[.agg #[.slice a n c, .int .i64 p, .int .i64 q, .int .i64 r, .bool g, .bool k, .int .i64 d, .int .i64 u, .int .i64 m, .int .i64 s], .bool false]) (by simp [results, Tryd.results45, go_sem]) rfl ⟨rfl, ?_⟩
    exact (((Kept.refl _ w).alloc _).alloc _).alloc _

end Go.Proofs.YtklmhegmombegaaDoor.Re
namespace Go.Proofs.YtklmhegmombegaaDoor.Re
open Go Go.RowKit Go.Proofs.YtklmhegmombegaaDoor.Re.Plain Go.Proofs.YtklmhegmombegaaDoor

/-- The zero value of a saga. -/
def Z133 : Array Value := #[.slice none 0 0, .int .i64 0, .int .i64 0, .int .i64 0, .bool false, .bool false, .int .i64 0, .int .i64 0, .int .i64 0, .int .i64 0]
theorem heap_alloc3 (w : World) (o p q : Obj) : (((w.alloc o).alloc p).alloc q).heap[w.heap.size]? = some o ∧ (((w.alloc o).alloc p).alloc q).heap[w.heap.size + 1]? = some p ∧ (((w.alloc o).alloc p).alloc q).heap[w.heap.size + 1 + 1]? = some q := by
  refine ⟨?_, ?_, ?_⟩
  · rw [Below.heap_alloc _ _ _ (by simp; omega)]; exact heap_alloc2_old _ _ _
  · rw [Below.heap_alloc _ _ _ (by simp)]; exact heap_alloc2_new _ _ _
  · have := heap_alloc2_new (w.alloc o) p q
    simpa using this

theorem Tryd.isz133 : (Tryd.prog.info? 133).map (·.size) = some 10 := by kernel_rfl
/-- A saga's variable is written whole. -/
theorem store133 {ops : Array Oper} {rest : List Oper} {dst : Option Tmp} {ty : TypeId} {pos : String} {aft : Array Edge} {a : Act} {w : World} {Q : Exit → Act → World → Prop} {x y : Operand} {g : Nat} {old C : Array Value} {t : TypeId}
    (hx : a.eval x = .pointer (some ⟨g, 0, none⟩)) (hy : a.eval y = .agg C) (hg : w.heap[g]? = some (.cells old t (0, 0))) (ho : old.size = 10) (hC : C.size = 10) (h1 : C.all (·.oneCell') = true)
    (h : wpList Tryd.prog ops Q rest (a.put dst undef) (w.setRow g C)) : wpList Tryd.prog ops Q (⟨dst, .store 133 x y, ty, pos, aft, none⟩ :: rest) a w :=
  wpList_store_row (P := Tryd.prog) (o := ⟨dst, .store 133 x y, ty, pos, aft, none⟩) rfl 133 x y rfl g C hx hy t old hg (by rw [Tryd.isz133, hC]) (by rw [ho, hC]) h1 h
theorem results_sg {fn : Func} {p : Tmp} (h : fn.results = #[.cell p 133]) (tmps : Array Value) (w : World) (g : Nat) {C : Array Value} {ty : TypeId} {fr : Nat × Nat}
    (hg : w.heap[g]? = some (.cells C ty fr)) (hC : C.size = 10) (hp : tmps.getD p undef = .pointer (some ⟨g, 0, none⟩)) :
    (results fn tmps).run Tryd.prog w = .ok (.agg C) w := by
  have hp' : tmps[p]?.getD undef = .pointer (some ⟨g, 0, none⟩) := by simpa using hp
  simp [results, h, hp', asAddr, run_loadVar_row (P := Tryd.prog) w g ty 133 C fr _ hg Tryd.underlying133 rfl (by rw [Tryd.isz133, hC])]
theorem ten (a b c d e f g h i j : Value) : #[a, b, c, d, e, f, g, h, i, j].size = 10 := rfl
theorem one10 (a : Option Addr) (n c : Nat) (p q r d u m s : Int) (g k : Bool) : (#[.slice a n c, .int .i64 p, .int .i64 q, .int .i64 r, .bool g, .bool k, .int .i64 d, .int .i64 u, .int .i64 m, .int .i64 s] : Array Value).all (·.oneCell') = true := by simp [Value.oneCell']
theorem hz133 : Z133.size = 10 := rfl
theorem Kept.setRow' {S : Nat → Prop} {a w : World} (h : Kept S a w) {g : Nat} (hg : S g) (c : Array Value) : Kept S a (w.setRow g c) :=
  ⟨h.os, h.tape, h.output, by simpa [World.setRow] using h.size, fun k hk hs => (setRow_other w g k c (fun e => hs (e ▸ hg))).trans (h.block k hk hs)⟩
theorem pow_wrap {k : Nat} (h : k < 6) : wrap64 ((2 : Int) ^ k) = ((2 ^ k : Nat) : Int) := by
  have : ∀ k : Fin 6, wrap64 ((2 : Int) ^ k.val) = ((2 ^ k.val : Nat) : Int) := by decide +kernel
  exact this ⟨k, h⟩
theorem pow_lt {k : Nat} (h : k < 6) : 2 ^ k < 64 := by
  have : ∀ k : Fin 6, 2 ^ k.val < 64 := by decide
  exact this ⟨k, h⟩
/-- A saga is handed back. -/
def SgPost (s : Sg) (v : Value) (w : World) (e : Ending) (w' : World) : Prop := e = .returned (.agg (sgC s v)) ∧ Kept (fun _ => False) w w'
theorem SgPost.mk {s t : Sg} {v : Value} {w w' : World} {C : Array Value} (h : s = t) (hC : C = sgC t v) (hk : Kept (fun _ => False) w w') : SgPost s v w (.returned (.agg C)) w' := by subst h; subst hC; exact ⟨rfl, hk⟩
set_option maxHeartbeats 1000000 in
theorem f_answered (s : Sg) (v : Value) (C : Array Value) (x : Rc) (w : World) (hC : Recish C x) (ok : Okay s) (hs : Stp w v s.steps) (hk : 0 ≤ stepOf s) :
    Calls Tryd.prog 148 #[.agg (sgC s v), .agg C] w (SgPost (answered s x.good) v w) := by
  obtain ⟨h0, h1, h2⟩ := heap_alloc3 w (.cells (sgC s v) 133) (.cells C 30) (.cells Z133 133)
  have K3 := (((Kept.refl (fun _ => False) w).alloc (.cells (sgC s v) 133)).alloc (.cells C 30)).alloc (.cells Z133 133)
  have HF := Lib.hid (f_step s v _ ok (hs.kept K3))
  have HS := Lib.hid (hs.kept K3)
  have HH : Hid (∀ {w1 : World}, Kept (fun _ => False) (((w.alloc (.cells (sgC s v) 133)).alloc (.cells C 30)).alloc (.cells Z133 133)) w1 → w1.heap[w.heap.size]? = some (.cells (sgC s v) 133 (0, 0)) ∧ w1.heap[w.heap.size + 1]? = some (.cells C 30 (0, 0)) ∧ w1.heap[w.heap.size + 1 + 1]? = some (.cells Z133 133 (0, 0))) :=
    fun k => ⟨(k.block _ (by simp; omega) id).trans h0, (k.block _ (by simp) id).trans h1, (k.block _ (by simp) id).trans h2⟩
  clear h0 h1 h2
  obtain ⟨a, c, rfl⟩ := hs.form
  have hsz := hC.size
  have HC := Lib.hid hC
  clear hs hC
  obtain ⟨st, ph, po, tr, wt, bk, dn, un, my, sq⟩ := s
  have hlen : st.length ≤ 6 := ok.len
  have hlt := (lastOf_lt (opn ⟨st, ph, po, tr, wt, bk, dn, un, my, sq⟩) st.length).2
  have hk2 : stepOf ⟨st, ph, po, tr, wt, bk, dn, un, my, sq⟩ < st.length := by
    unfold stepOf target at *
    dsimp only at *
    split
    · exact hlt
    · split <;> omega
  have hstep : Hid (∃ k : Nat, stepOf ⟨st, ph, po, tr, wt, bk, dn, un, my, sq⟩ = k ∧ k < st.length) := ⟨(stepOf ⟨st, ph, po, tr, wt, bk, dn, un, my, sq⟩).toNat, by omega, by omega⟩
  obtain ⟨k, hkk, hkl⟩ := hstep.out
  have OK := Lib.hid ok
  have HK := Lib.hid hkk
  unfold sgC Z133 at *
  dsimp only at *
  rw [hkk] at HF
  clear hlt hk2 hk ok hkk hstep
  go_enter Tryd.func148, Tryd.ntmps148
  go_wp2_with fail
  refine HF.out.mono ?_
  rintro e w1 ⟨rfl, k1⟩
  obtain ⟨g0, g1, g2⟩ := HH.out k1
  obtain ⟨b0, b1, b2, b3, b4, b5, b6, b7, b8, b9⟩ := cells10 g0
  obtain ⟨x0, x2, x3, x4, x5, x6, x7⟩ := rec_cells HC.out g1
  have G0 := Lib.hid g0
  have G2 := Lib.hid g2
  clear g0 g1 g2
  have f3 := frozen10 G0.out 3
  have f4 := frozen10 G0.out 4
  have f5 := frozen10 G0.out 5
  have f7 := frozen10 G0.out 7
  go_upto_region 3 with (fail)
  rw [pow_wrap (by omega)]
  have hB6 := pow_lt (k := k) (by omega)
  have hD : dn < 64 := OK.out.done
  have hU : un < 64 := OK.out.undone
  have hM : my < 64 := OK.out.may
  obtain ⟨B, hB⟩ : ∃ B, 2 ^ k = B := ⟨_, rfl⟩
  rw [hB] at hB6 ⊢
  have e1 := b_or hU hB6
  have e2 := b_or hD hB6
  have e3 := b_clr hM hB6
  have HB := Lib.hid hB
  clear hB
  have hKB : Kept (fun k => k = w.heap.size) w1 w1 := Kept.refl _ _
  have hw1 : w.heap.size + 1 + 1 < w1.heap.size := (Array.getElem?_eq_some_iff.1 G2.out).1
  have KW : Hid (Kept (fun _ => False) w w1) := K3.trans k1
  have HR : Hid (∀ {w2 : World} (X : Array Value), Kept (fun k => k = w.heap.size) w1 w2 → (w2.heap[w.heap.size + 1 + 1]? = some (.cells Z133 133 (0, 0))) ∧ Kept (fun _ => False) w (w2.setRow (w.heap.size + 1 + 1) X)) := fun X k2 => by
    refine ⟨(k2.block _ hw1 (by show ¬ _ = _; omega)).trans G2.out, ?_⟩
    exact (KW.out.trans' (k2.mono (T := fun k => w.heap.size ≤ k) (fun i _ h => Nat.le_of_eq h.symm)) (fun i hi h => by omega)).setRow (by omega) X
  cases bk with
  | true =>
    cases hg : x.good with
    | true =>
      rw [hg] at x6
      have E : Hid (answered ⟨st, ph, po, tr, wt, true, dn, un, my, sq⟩ x.good = ⟨st, ph, po, 0, false, false, dn, un ||| B, my, sq⟩) := by
        show answered _ _ = _
        rw [hg, answered, if_pos rfl, if_pos rfl, bitOf, HK.out, Int.toNat_natCast, HB.out]
      clear hg
      have hk2 := Lib.hid (HR.out #[.slice a st.length c, .int .i64 ph, .int .i64 po, .int .i64 0, .bool false, .bool false, .int .i64 dn, .int .i64 (un ||| B : Nat), .int .i64 my, .int .i64 sq] (((((hKB.setCell (p := ⟨w.heap.size, 7, none⟩) (.inl rfl) (.int .i64 (un ||| B : Nat))).setCell (p := ⟨w.heap.size, 3, none⟩) (.inl rfl) (.int .i64 0)).setCell (p := ⟨w.heap.size, 4, none⟩) (.inl rfl) (.bool false)).setCell (p := ⟨w.heap.size, 5, none⟩) (.inl rfl) (.bool false))))
      go_wp2_with (first | fail | ((with_reducible refine store133 (C := #[.slice a st.length c, .int .i64 ph, .int .i64 po, .int .i64 0, .bool false, .bool false, .int .i64 dn, .int .i64 (un ||| B : Nat), .int .i64 my, .int .i64 sq]) ?_ ?_ hk2.out.1 hz133 (ten _ _ _ _ _ _ _ _ _ _) (one10 _ _ _ _ _ _ _ _ _ _ _ _) ?_); rfl; rfl))
      exact bodyPost_ret (results_sg rfl _ _ _ (setRow_heap _ _ _ _ _ _ hk2.out.1) rfl rfl) rfl (SgPost.mk E.out rfl hk2.out.2)
    | false =>
      rw [hg] at x6
      have E : Hid (answered ⟨st, ph, po, tr, wt, true, dn, un, my, sq⟩ x.good = ⟨st, ph, po, tr, false, false, dn, un, my, sq⟩) := by
        show answered _ _ = _
        rw [hg, answered, if_pos rfl, if_neg (by decide)]
      clear hg
      have hk2 := Lib.hid (HR.out #[.slice a st.length c, .int .i64 ph, .int .i64 po, .int .i64 tr, .bool false, .bool false, .int .i64 dn, .int .i64 un, .int .i64 my, .int .i64 sq] (((hKB.setCell (p := ⟨w.heap.size, 4, none⟩) (.inl rfl) (.bool false)).setCell (p := ⟨w.heap.size, 5, none⟩) (.inl rfl) (.bool false))))
      go_wp2_with (first | fail | ((with_reducible refine store133 (C := #[.slice a st.length c, .int .i64 ph, .int .i64 po, .int .i64 tr, .bool false, .bool false, .int .i64 dn, .int .i64 un, .int .i64 my, .int .i64 sq]) ?_ ?_ hk2.out.1 hz133 (ten _ _ _ _ _ _ _ _ _ _) (one10 _ _ _ _ _ _ _ _ _ _ _ _) ?_); rfl; rfl))
      exact bodyPost_ret (results_sg rfl _ _ _ (setRow_heap _ _ _ _ _ _ hk2.out.1) rfl rfl) rfl (SgPost.mk E.out rfl hk2.out.2)
  | false =>
    cases hg : x.good with
    | true =>
      rw [hg] at x6
      have hpo : po ≤ 1000 := OK.out.pos
      have f6 := frozen10 G0.out 6
      have f8 := frozen10 G0.out 8
      have f2 := frozen10 G0.out 2
      have E : Hid (answered ⟨st, ph, po, tr, wt, false, dn, un, my, sq⟩ x.good = ⟨st, ph, po + 1, 0, false, false, dn ||| B, un, clr my B, sq⟩) := by
        show answered _ _ = _
        rw [hg, answered, if_neg (by exact Bool.false_ne_true), if_pos rfl, bitOf, HK.out, Int.toNat_natCast, HB.out]
      clear hg
      have hk2 := Lib.hid (HR.out #[.slice a st.length c, .int .i64 ph, .int .i64 ((po : Int) + 1), .int .i64 0, .bool false, .bool false, .int .i64 (dn ||| B : Nat), .int .i64 un, .int .i64 (clr my B : Nat), .int .i64 sq] (((((((hKB.setCell (p := ⟨w.heap.size, 6, none⟩) (.inl rfl) (.int .i64 (dn ||| B : Nat))).setCell (p := ⟨w.heap.size, 8, none⟩) (.inl rfl) (.int .i64 (clr my B : Nat))).setCell (p := ⟨w.heap.size, 2, none⟩) (.inl rfl) (.int .i64 ((po : Int) + 1))).setCell (p := ⟨w.heap.size, 3, none⟩) (.inl rfl) (.int .i64 0)).setCell (p := ⟨w.heap.size, 4, none⟩) (.inl rfl) (.bool false)).setCell (p := ⟨w.heap.size, 5, none⟩) (.inl rfl) (.bool false))))
      go_wp2_with (first | fail | ((with_reducible refine store133 (C := #[.slice a st.length c, .int .i64 ph, .int .i64 ((po : Int) + 1), .int .i64 0, .bool false, .bool false, .int .i64 (dn ||| B : Nat), .int .i64 un, .int .i64 (clr my B : Nat), .int .i64 sq]) ?_ ?_ hk2.out.1 hz133 (ten _ _ _ _ _ _ _ _ _ _) (one10 _ _ _ _ _ _ _ _ _ _ _ _) ?_); rfl; rfl))
      exact bodyPost_ret (results_sg rfl _ _ _ (setRow_heap _ _ _ _ _ _ hk2.out.1) rfl rfl) rfl (SgPost.mk E.out rfl hk2.out.2)
    | false =>
      rw [hg] at x6
      obtain ⟨b, o, c', ev, c1, _, hbl⟩ := (HS.out.kept k1).kind hkl
      simp only [Value.slice.injEq, true_and] at ev
      obtain ⟨rfl, rfl⟩ := ev
      have hkd : Hid (kindAt st k = kindAt st k) := rfl
      by_cases h3 : kindAt st k = 3
      · have E : Hid (answered ⟨st, ph, po, tr, wt, false, dn, un, my, sq⟩ x.good = ⟨st, ph, po, tr, false, false, dn, un, my, sq⟩) := by
          show answered _ _ = _
          rw [hg, answered, if_neg (by exact Bool.false_ne_true), if_neg (by decide), HK.out, Int.toNat_natCast, if_pos h3]
        clear hg hkd
        rw [h3] at c1
        clear h3
        have hk2 := Lib.hid (HR.out #[.slice (some ⟨b, o, none⟩) st.length c, .int .i64 ph, .int .i64 po, .int .i64 tr, .bool false, .bool false, .int .i64 dn, .int .i64 un, .int .i64 my, .int .i64 sq] (((hKB.setCell (p := ⟨w.heap.size, 4, none⟩) (.inl rfl) (.bool false)).setCell (p := ⟨w.heap.size, 5, none⟩) (.inl rfl) (.bool false))))
        go_wp2_with (first | fail | ((with_reducible refine store133 (C := #[.slice (some ⟨b, o, none⟩) st.length c, .int .i64 ph, .int .i64 po, .int .i64 tr, .bool false, .bool false, .int .i64 dn, .int .i64 un, .int .i64 my, .int .i64 sq]) ?_ ?_ hk2.out.1 hz133 (ten _ _ _ _ _ _ _ _ _ _) (one10 _ _ _ _ _ _ _ _ _ _ _ _) ?_); rfl; rfl))
        exact bodyPost_ret (results_sg rfl _ _ _ (setRow_heap _ _ _ _ _ _ hk2.out.1) rfl rfl) rfl (SgPost.mk E.out rfl hk2.out.2)
      · have E : Hid (answered ⟨st, ph, po, tr, wt, false, dn, un, my, sq⟩ x.good = ⟨st, 1, po, 0, false, false, dn, un, clr my B, sq⟩) := by
          show answered _ _ = _
          rw [hg, answered, if_neg (by exact Bool.false_ne_true), if_neg (by decide), HK.out, Int.toNat_natCast, if_neg h3, bitOf, HK.out, Int.toNat_natCast, HB.out]
        have q3 : (kindAt st k == 3) = false := by rw [beq_eq_false_iff_ne]; exact h3
        have f8 := frozen10 G0.out 8
        clear hg hkd h3
        generalize kindAt st k = kd at c1 q3
        go_upto_region 10 with (fail)
        have g8 := setCell_block (k := 8) G0.out (.int .i64 (clr my B : Nat))
        simp only [List.setIfInBounds_toArray, List.set_cons_succ, List.set_cons_zero] at g8
        have hB0 := (Array.getElem?_eq_some_iff.1 g8).1
        go_wp2_with fail
        refine (f_turn ⟨st, ph, po, tr, wt, false, dn, un, clr my B, sq⟩ _ _ _ _).mono ?_
        rintro e w2 ⟨rfl, k2⟩
        have g9 := (k2.block _ hB0 id).trans g8
        have g10 := setRow_heap _ _ _ #[.slice (some ⟨b, o, none⟩) st.length c, .int .i64 1, .int .i64 po, .int .i64 0, .bool wt, .bool false, .int .i64 dn, .int .i64 un, .int .i64 (clr my B : Nat), .int .i64 sq] _ _ g9
        have kf := ((hKB.setCell (p := ⟨w.heap.size, 8, none⟩) (.inl rfl) (.int .i64 (clr my B : Nat))).trans (k2.mono fun _ _ h => h.elim)).setRow' (g := w.heap.size) rfl #[.slice (some ⟨b, o, none⟩) st.length c, .int .i64 1, .int .i64 po, .int .i64 0, .bool wt, .bool false, .int .i64 dn, .int .i64 un, .int .i64 (clr my B : Nat), .int .i64 sq]
        have hk2 := Lib.hid (HR.out #[.slice (some ⟨b, o, none⟩) st.length c, .int .i64 1, .int .i64 po, .int .i64 0, .bool false, .bool false, .int .i64 dn, .int .i64 un, .int .i64 (clr my B : Nat), .int .i64 sq] ((kf.setCell (p := ⟨w.heap.size, 4, none⟩) (.inl rfl) (.bool false)).setCell (p := ⟨w.heap.size, 5, none⟩) (.inl rfl) (.bool false)))
        have G9 := Lib.hid g9
        clear b0 b1 b2 b3 b4 b5 b6 b7 b8 b9 f3 f4 f5 f7 f8 kf g8 g9 hB0 k2 x0 x2 x3 x4 x5 x6 x7 c1
        obtain ⟨b0, b1, b2, b3, b4, b5, b6, b7, b8, b9⟩ := cells10 g10
        have f4 := frozen10 g10 4
        have f5 := frozen10 g10 5
        clear g10
        unfold sgC turnS
        dsimp only
        go_wp2_with (first | fail | ((with_reducible refine store133 (C := #[.slice (some ⟨b, o, none⟩) st.length c, .int .i64 1, .int .i64 po, .int .i64 0, .bool wt, .bool false, .int .i64 dn, .int .i64 un, .int .i64 (clr my B : Nat), .int .i64 sq]) ?_ ?_ G9.out (ten _ _ _ _ _ _ _ _ _ _) (ten _ _ _ _ _ _ _ _ _ _) (one10 _ _ _ _ _ _ _ _ _ _ _ _) ?_); rfl; rfl) | ((with_reducible refine store133 (C := #[.slice (some ⟨b, o, none⟩) st.length c, .int .i64 1, .int .i64 po, .int .i64 0, .bool false, .bool false, .int .i64 dn, .int .i64 un, .int .i64 (clr my B : Nat), .int .i64 sq]) ?_ ?_ hk2.out.1 hz133 (ten _ _ _ _ _ _ _ _ _ _) (one10 _ _ _ _ _ _ _ _ _ _ _ _) ?_); rfl; rfl))
        exact bodyPost_ret (results_sg rfl _ _ _ (setRow_heap _ _ _ _ _ _ hk2.out.1) rfl rfl) rfl (SgPost.mk E.out rfl hk2.out.2)
end Go.Proofs.YtklmhegmombegaaDoor.Re
namespace Go.Proofs.YtklmhegmombegaaDoor.Re
open Go Go.RowKit Go.Proofs.YtklmhegmombegaaDoor.Re.Plain Go.Proofs.YtklmhegmombegaaDoor

set_option maxHeartbeats 1000000 in
theorem f_lapsed (s : Sg) (v : Value) (lim : Nat) (w : World) (ok : Okay s) (hs : Stp w v s.steps) (hk : 0 ≤ stepOf s) (_h9 : lim ≤ 9) :
    Calls Tryd.prog 149 #[.agg (sgC s v), .int .i64 lim] w (SgPost (lapsed s lim) v w) := by
  have h0 := heap_alloc2_old w (.cells (sgC s v) 133) (.cells Z133 133)
  have h2 := heap_alloc2_new w (.cells (sgC s v) 133) (.cells Z133 133)
  have K3 := ((Kept.refl (fun _ => False) w).alloc (.cells (sgC s v) 133)).alloc (.cells Z133 133)
  have HF := Lib.hid (f_step s v _ ok (hs.kept K3))
  have HS := Lib.hid (hs.kept K3)
  have HH : Hid (∀ {w1 : World}, Kept (fun _ => False) ((w.alloc (.cells (sgC s v) 133)).alloc (.cells Z133 133)) w1 → w1.heap[w.heap.size]? = some (.cells (sgC s v) 133 (0, 0)) ∧ w1.heap[w.heap.size + 1]? = some (.cells Z133 133 (0, 0))) :=
    fun k => ⟨(k.block _ (by simp; omega) id).trans h0, (k.block _ (by simp) id).trans h2⟩
  clear h0 h2
  have HL := Lib.hid hs.lt
  obtain ⟨a, c, rfl⟩ := hs.form
  clear hs
  obtain ⟨st, ph, po, tr, wt, bk, dn, un, my, sq⟩ := s
  have hlen : st.length ≤ 6 := ok.len
  have htr : tr ≤ 1000 := ok.tries
  have hlt := (lastOf_lt (opn ⟨st, ph, po, tr, wt, bk, dn, un, my, sq⟩) st.length).2
  have hk2 : stepOf ⟨st, ph, po, tr, wt, bk, dn, un, my, sq⟩ < st.length := by
    unfold stepOf target at *
    dsimp only at *
    split
    · exact hlt
    · split <;> omega
  have hstep : Hid (∃ k : Nat, stepOf ⟨st, ph, po, tr, wt, bk, dn, un, my, sq⟩ = k ∧ k < st.length) := ⟨(stepOf ⟨st, ph, po, tr, wt, bk, dn, un, my, sq⟩).toNat, by omega, by omega⟩
  obtain ⟨k, hkk, hkl⟩ := hstep.out
  have OK := Lib.hid ok
  have HK := Lib.hid hkk
  unfold sgC Z133 at *
  dsimp only at *
  rw [hkk] at HF
  clear hlt hk2 hk ok hkk hstep
  go_enter Tryd.func149, Tryd.ntmps149
  go_wp2_with fail
  refine HF.out.mono ?_
  rintro e w1 ⟨rfl, k1⟩
  obtain ⟨g0, g2⟩ := HH.out k1
  obtain ⟨b0, b1, b2, b3, b4, b5, b6, b7, b8, b9⟩ := cells10 g0
  have G0 := Lib.hid g0
  have G2 := Lib.hid g2
  clear g0 g2
  have f4 := frozen10 G0.out 4
  have f5 := frozen10 G0.out 5
  have f8 := frozen10 G0.out 8
  have hKB : Kept (fun k => k = w.heap.size) w1 w1 := Kept.refl _ _
  have hw1 : w.heap.size + 1 < w1.heap.size := (Array.getElem?_eq_some_iff.1 G2.out).1
  have KW : Hid (Kept (fun _ => False) w w1) := K3.trans k1
  have HR : Hid (∀ {w2 : World} (X : Array Value), Kept (fun k => k = w.heap.size) w1 w2 → (w2.heap[w.heap.size + 1]? = some (.cells Z133 133 (0, 0))) ∧ Kept (fun _ => False) w (w2.setRow (w.heap.size + 1) X)) := fun X k2 => by
    refine ⟨(k2.block _ hw1 (by show ¬ _ = _; omega)).trans G2.out, ?_⟩
    exact (KW.out.trans' (k2.mono (T := fun k => w.heap.size ≤ k) (fun i _ h => Nat.le_of_eq h.symm)) (fun i hi h => by omega)).setRow (by omega) X
  cases bk with
  | true =>
    have E : Hid (lapsed ⟨st, ph, po, tr, wt, true, dn, un, my, sq⟩ lim = ⟨st, ph, po, tr, false, false, dn, un, my, sq⟩) := by
      show lapsed _ _ = _
      rw [lapsed, if_pos rfl]
    have hk2 := Lib.hid (HR.out #[.slice a st.length c, .int .i64 ph, .int .i64 po, .int .i64 tr, .bool false, .bool false, .int .i64 dn, .int .i64 un, .int .i64 my, .int .i64 sq] ((hKB.setCell (p := ⟨w.heap.size, 4, none⟩) (.inl rfl) (.bool false)).setCell (p := ⟨w.heap.size, 5, none⟩) (.inl rfl) (.bool false)))
    go_wp2_with (first | fail | ((with_reducible refine store133 (C := #[.slice a st.length c, .int .i64 ph, .int .i64 po, .int .i64 tr, .bool false, .bool false, .int .i64 dn, .int .i64 un, .int .i64 my, .int .i64 sq]) ?_ ?_ hk2.out.1 hz133 (ten _ _ _ _ _ _ _ _ _ _) (one10 _ _ _ _ _ _ _ _ _ _ _ _) ?_); rfl; rfl))
    exact bodyPost_ret (results_sg rfl _ _ _ (setRow_heap _ _ _ _ _ _ hk2.out.1) rfl rfl) rfl (SgPost.mk E.out rfl hk2.out.2)
  | false =>
    have hB6 := pow_lt (k := k) (by omega)
    have hM : my < 64 := OK.out.may
    have e1 := b_or hM hB6
    have ep := pow_wrap (k := k) (by omega)
    have EP := Lib.hid ep
    have E1 := Lib.hid e1
    clear ep e1
    obtain ⟨b, o, c', ev, c1, _, hbl⟩ := (HS.out.kept k1).kind hkl
    simp only [Value.slice.injEq, true_and] at ev
    obtain ⟨rfl, rfl⟩ := ev
    go_wp2_with fail
    go_region
    rw [EP.out, E1.out]
    have HBk : Hid (∃ B, 2 ^ k = B) := ⟨_, rfl⟩
    obtain ⟨B, hB⟩ := HBk.out
    rw [hB] at hB6 ⊢
    have HB := Lib.hid hB
    clear hB EP E1 HBk
    have g8 := setCell_block (k := 8) G0.out (.int .i64 (my ||| B : Nat))
    simp only [List.setIfInBounds_toArray, List.set_cons_succ, List.set_cons_zero] at g8
    have g8' : (w1.setCell ⟨w.heap.size, 8, none⟩ (.int .i64 (my ||| B : Nat))).drew.heap[w.heap.size]? = _ := g8
    have kf := (hKB.setCell (p := ⟨w.heap.size, 8, none⟩) (.inl rfl) (.int .i64 (my ||| B : Nat))).drew
    have c1' : (w1.setCell ⟨w.heap.size, 8, none⟩ (.int .i64 (my ||| B : Nat))).drew.cell? ⟨b, o + k * 2 + 1, none⟩ = some (.int .i64 (kindAt st k)) := by
      have hb0 : b < w.heap.size := HL.out b rfl
      exact (kf.cell (p := ⟨b, o + k * 2 + 1, none⟩) hbl (by show ¬ b = _; omega)).trans c1
    clear b0 b1 b2 b3 b4 b5 b6 b7 b8 b9 f4 f5 f8 c1 g8
    generalize (w1.setCell ⟨w.heap.size, 8, none⟩ (.int .i64 (my ||| B : Nat))).drew = w2 at g8' kf c1' ⊢
    obtain ⟨b0, b1, b2, b3, b4, b5, b6, b7, b8, b9⟩ := cells10 g8'
    have f4 := frozen10 g8' 4
    have f5 := frozen10 g8' 5
    have G8 := Lib.hid g8'
    have hB0 := (Array.getElem?_eq_some_iff.1 g8').1
    clear g8'
    by_cases h3 : kindAt st k = 1
    · by_cases h4 : tr = lim
      · have E : Hid (lapsed ⟨st, ph, po, tr, wt, false, dn, un, my, sq⟩ lim = ⟨st, 1, po, 0, false, false, dn, un, my ||| B, sq⟩) := by
          show lapsed _ _ = _
          rw [lapsed, if_neg (by exact Bool.false_ne_true), HK.out, Int.toNat_natCast, if_pos ⟨h3, h4⟩, bitOf, HK.out, Int.toNat_natCast, HB.out]
        have t1 : ((tr : Int) == lim) = true := by rw [beq_iff_eq]; omega
        rw [h3] at c1'
        clear h3 h4
        go_wp2_with fail
        refine (f_turn ⟨st, ph, po, tr, wt, false, dn, un, my ||| B, sq⟩ _ _ _ _).mono ?_
        rintro e w3 ⟨rfl, k3⟩
        have g9 := (k3.block _ hB0 id).trans G8.out
        have g10 := setRow_heap _ _ _ #[.slice (some ⟨b, o, none⟩) st.length c, .int .i64 1, .int .i64 po, .int .i64 0, .bool wt, .bool false, .int .i64 dn, .int .i64 un, .int .i64 (my ||| B : Nat), .int .i64 sq] _ _ g9
        have kf := (kf.trans (k3.mono fun _ _ h => h.elim)).setRow' (g := w.heap.size) rfl #[.slice (some ⟨b, o, none⟩) st.length c, .int .i64 1, .int .i64 po, .int .i64 0, .bool wt, .bool false, .int .i64 dn, .int .i64 un, .int .i64 (my ||| B : Nat), .int .i64 sq]
        have hk2 := Lib.hid (HR.out #[.slice (some ⟨b, o, none⟩) st.length c, .int .i64 1, .int .i64 po, .int .i64 0, .bool false, .bool false, .int .i64 dn, .int .i64 un, .int .i64 (my ||| B : Nat), .int .i64 sq] ((kf.setCell (p := ⟨w.heap.size, 4, none⟩) (.inl rfl) (.bool false)).setCell (p := ⟨w.heap.size, 5, none⟩) (.inl rfl) (.bool false)))
        have G9 := Lib.hid g9
        clear b0 b1 b2 b3 b4 b5 b6 b7 b8 b9 f4 f5 kf g9 hB0 k3 c1'
        obtain ⟨b0, b1, b2, b3, b4, b5, b6, b7, b8, b9⟩ := cells10 g10
        have f4 := frozen10 g10 4
        have f5 := frozen10 g10 5
        clear g10
        unfold sgC turnS
        dsimp only
        go_wp2_with (first | fail | ((with_reducible refine store133 (C := #[.slice (some ⟨b, o, none⟩) st.length c, .int .i64 1, .int .i64 po, .int .i64 0, .bool wt, .bool false, .int .i64 dn, .int .i64 un, .int .i64 (my ||| B : Nat), .int .i64 sq]) ?_ ?_ G9.out (ten _ _ _ _ _ _ _ _ _ _) (ten _ _ _ _ _ _ _ _ _ _) (one10 _ _ _ _ _ _ _ _ _ _ _ _) ?_); rfl; rfl) | ((with_reducible refine store133 (C := #[.slice (some ⟨b, o, none⟩) st.length c, .int .i64 1, .int .i64 po, .int .i64 0, .bool false, .bool false, .int .i64 dn, .int .i64 un, .int .i64 (my ||| B : Nat), .int .i64 sq]) ?_ ?_ hk2.out.1 hz133 (ten _ _ _ _ _ _ _ _ _ _) (one10 _ _ _ _ _ _ _ _ _ _ _ _) ?_); rfl; rfl))
        exact bodyPost_ret (results_sg rfl _ _ _ (setRow_heap _ _ _ _ _ _ hk2.out.1) rfl rfl) rfl (SgPost.mk E.out rfl hk2.out.2)
      · have E : Hid (lapsed ⟨st, ph, po, tr, wt, false, dn, un, my, sq⟩ lim = ⟨st, ph, po, tr, false, false, dn, un, my ||| B, sq⟩) := by
          show lapsed _ _ = _
          rw [lapsed, if_neg (by exact Bool.false_ne_true), HK.out, Int.toNat_natCast, if_neg (by rintro ⟨_, h⟩; exact h4 h), bitOf, HK.out, Int.toNat_natCast, HB.out]
        have t1 : ((tr : Int) == lim) = false := by rw [beq_eq_false_iff_ne]; omega
        have hk2 := Lib.hid (HR.out #[.slice (some ⟨b, o, none⟩) st.length c, .int .i64 ph, .int .i64 po, .int .i64 tr, .bool false, .bool false, .int .i64 dn, .int .i64 un, .int .i64 (my ||| B : Nat), .int .i64 sq] ((kf.setCell (p := ⟨w.heap.size, 4, none⟩) (.inl rfl) (.bool false)).setCell (p := ⟨w.heap.size, 5, none⟩) (.inl rfl) (.bool false)))
        rw [h3] at c1'
        clear h3 h4 kf
        go_wp2_with (first | fail | ((with_reducible refine store133 (C := #[.slice (some ⟨b, o, none⟩) st.length c, .int .i64 ph, .int .i64 po, .int .i64 tr, .bool false, .bool false, .int .i64 dn, .int .i64 un, .int .i64 (my ||| B : Nat), .int .i64 sq]) ?_ ?_ hk2.out.1 hz133 (ten _ _ _ _ _ _ _ _ _ _) (one10 _ _ _ _ _ _ _ _ _ _ _ _) ?_); rfl; rfl))
        exact bodyPost_ret (results_sg rfl _ _ _ (setRow_heap _ _ _ _ _ _ hk2.out.1) rfl rfl) rfl (SgPost.mk E.out rfl hk2.out.2)
    · have E : Hid (lapsed ⟨st, ph, po, tr, wt, false, dn, un, my, sq⟩ lim = ⟨st, ph, po, tr, false, false, dn, un, my ||| B, sq⟩) := by
        show lapsed _ _ = _
        rw [lapsed, if_neg (by exact Bool.false_ne_true), HK.out, Int.toNat_natCast, if_neg (by rintro ⟨h, _⟩; exact h3 h), bitOf, HK.out, Int.toNat_natCast, HB.out]
      have hk2 := Lib.hid (HR.out #[.slice (some ⟨b, o, none⟩) st.length c, .int .i64 ph, .int .i64 po, .int .i64 tr, .bool false, .bool false, .int .i64 dn, .int .i64 un, .int .i64 (my ||| B : Nat), .int .i64 sq] ((kf.setCell (p := ⟨w.heap.size, 4, none⟩) (.inl rfl) (.bool false)).setCell (p := ⟨w.heap.size, 5, none⟩) (.inl rfl) (.bool false)))
      have t1 : (kindAt st k == 1) = false := by rw [beq_eq_false_iff_ne]; exact h3
      clear h3 kf
      go_wp2_with (first | fail | ((with_reducible refine store133 (C := #[.slice (some ⟨b, o, none⟩) st.length c, .int .i64 ph, .int .i64 po, .int .i64 tr, .bool false, .bool false, .int .i64 dn, .int .i64 un, .int .i64 (my ||| B : Nat), .int .i64 sq]) ?_ ?_ hk2.out.1 hz133 (ten _ _ _ _ _ _ _ _ _ _) (one10 _ _ _ _ _ _ _ _ _ _ _ _) ?_); rfl; rfl))
      exact bodyPost_ret (results_sg rfl _ _ _ (setRow_heap _ _ _ _ _ _ hk2.out.1) rfl rfl) rfl (SgPost.mk E.out rfl hk2.out.2)
end Go.Proofs.YtklmhegmombegaaDoor.Re
namespace Go.Proofs.YtklmhegmombegaaDoor.Re
open Go Go.RowKit Go.Proofs.YtklmhegmombegaaDoor.Re.Plain Go.Proofs.YtklmhegmombegaaDoor

/-- A saga behind a record, or as it was. -/
def GoPost (s : Sg) (v : Value) (x : Rc) (lim : Nat) (w : World) (e : Ending) (w' : World) : Prop :=
  e = .returned (match go s x lim with
    | some t => .tuple #[.agg (sgC t v), .bool true]
    | none => .tuple #[.agg (sgC s v), .bool false]) ∧ Kept (fun _ => False) w w'
theorem GoPost.no {s : Sg} {v : Value} {x : Rc} {lim : Nat} {w w' : World} {C : Array Value} (h : go s x lim = none) (hC : C = sgC s v) (hk : Kept (fun _ => False) w w') : GoPost s v x lim w (.returned (.tuple #[.agg C, .bool false])) w' := by
  subst hC; exact ⟨by rw [h], hk⟩
theorem GoPost.yes {s t : Sg} {v : Value} {x : Rc} {lim : Nat} {w w' : World} {C : Array Value} (h : go s x lim = some t) (hC : C = sgC t v) (hk : Kept (fun _ => False) w w') : GoPost s v x lim w (.returned (.tuple #[.agg C, .bool true])) w' := by
  subst hC; exact ⟨by rw [h], hk⟩
theorem results_go {fn : Func} {p t : Tmp} (h : fn.results = #[.cell p 133, .tmp t]) (tmps : Array Value) (w : World) (g : Nat) {C : Array Value} {ty : TypeId} {fr : Nat × Nat} {v : Value}
    (hg : w.heap[g]? = some (.cells C ty fr)) (hC : C.size = 10) (hp : tmps.getD p undef = .pointer (some ⟨g, 0, none⟩)) (hv : tmps.getD t undef = v := by rfl) :
    (results fn tmps).run Tryd.prog w = .ok (.tuple #[.agg C, v]) w := by
  have hp' : tmps[p]?.getD undef = .pointer (some ⟨g, 0, none⟩) := by simpa using hp
  have hv' : tmps[t]?.getD undef = v := by simpa using hv
  simp [results, h, hp', hv', asAddr, run_loadVar_row (P := Tryd.prog) w g ty 133 C fr _ hg Tryd.underlying133 rfl (by rw [Tryd.isz133, hC])]

/-- Two tellings compared. -/
theorem eql198 (d e : Du) (w : World) : (binOp .eql 198 (toldV d) (toldV e)).run Tryd.prog w = .ok (.bool (decide (d = e))) w := by
  have u3 := Tryd.underlying3
  have u4 := Tryd.underlying4
  have hS : Tryd.prog.underlying 198 = some (.struct (Tryd.prog.fieldsOf 198)) := by kernel_rfl
  have hp : Tryd.prog.stoodInHeld 198 = false := by kernel_rfl
  unfold toldV
  rw [run_eql_struct, show (10000 : Nat) = 9999 + 1 from rfl, run_equalIn_agg w 9999 198 _ _ hS hp]
  simp only [Program.fieldsOf, Tryd.underlying198]
  go_simp
  obtain ⟨a, b, c, f, g⟩ := d
  obtain ⟨a', b', c', f', g'⟩ := e
  simp only [Du.mk.injEq]
  by_cases h1 : a = a' <;> by_cases h2 : b = b' <;> by_cases h3 : c = c' <;> by_cases h4 : f = f' <;> by_cases h5 : g = g' <;> simp [h1, h2, h3, h4, h5]

set_option maxRecDepth 100000 in
set_option maxHeartbeats 2000000 in
/-- It does not go: another's number; no steps; it is over. -/
theorem f_go_no (s : Sg) (v : Value) (C : Array Value) (x : Rc) (lim : Nat) (w : World) (hC : Recish C x) (hs : Stp w v s.steps) (hn : x.seq ≠ s.seq ∨ s.steps = [] ∨ over s = true) :
    Calls Tryd.prog 139 #[.agg (sgC s v), .agg C, .int .i64 lim] w (GoPost s v x lim w) := by
  have E : Hid (go s x lim = none) := by show go s x lim = none; rw [go, if_pos hn]
  obtain ⟨h0, h1, h2⟩ := heap_alloc3 w (.cells (sgC s v) 133) (.cells C 30) (.cells Z133 133)
  have K3 := (((Kept.refl (fun _ => False) w).alloc (.cells (sgC s v) 133)).alloc (.cells C 30)).alloc (.cells Z133 133)
  have HH : Hid (∀ {w1 : World}, Kept (fun _ => False) (((w.alloc (.cells (sgC s v) 133)).alloc (.cells C 30)).alloc (.cells Z133 133)) w1 → w1.heap[w.heap.size]? = some (.cells (sgC s v) 133 (0, 0)) ∧ w1.heap[w.heap.size + 1]? = some (.cells C 30 (0, 0)) ∧ w1.heap[w.heap.size + 1 + 1]? = some (.cells Z133 133 (0, 0))) :=
    fun k => ⟨(k.block _ (by simp; omega) id).trans h0, (k.block _ (by simp) id).trans h1, (k.block _ (by simp) id).trans h2⟩
  have HF : Hid (∀ {w1 : World}, Kept (fun _ => False) (((w.alloc (.cells (sgC s v) 133)).alloc (.cells C 30)).alloc (.cells Z133 133)) w1 → Kept (fun _ => False) w (w1.setRow (w.heap.size + 1 + 1) (sgC s v))) := fun k => (K3.trans k).setRow (by omega) _
  obtain ⟨a, c, rfl⟩ := hs.form
  have hsz := hC.size
  obtain ⟨x0, x2, x3, x4, x5, x6, x7⟩ := rec_cells hC (HH.out (Kept.refl _ _)).2.1
  have X := Lib.hid hC
  clear h0 h1 h2 K3 hs hC x0 x3 x4 x5 x6 x7
  obtain ⟨st, ph, po, tr, wt, bk, dn, un, my, sq⟩ := s
  unfold sgC Z133 at *
  dsimp only at *
  have h6 := Lib.hid (HH.out (Kept.refl _ _)).2.2
  have k6 := Lib.hid (HF.out (Kept.refl _ _))
  by_cases hq : x.seq = sq
  · have q1 : (x.seq == (sq : Int)) = true := by rw [beq_iff_eq]; exact hq
    have q2 : (x.seq != (sq : Int)) = false := by rw [bne, q1]; rfl
    by_cases h0 : st = []
    · have hl0 : ((st.length : Int) == 0) = true := by rw [h0]; rfl
      clear hn hq HH HF h0
      go_enter Tryd.func139, Tryd.ntmps139
      go_wp2_with (first | fail | ((with_reducible refine store133 (C := #[.slice a st.length c, .int .i64 ph, .int .i64 po, .int .i64 tr, .bool wt, .bool bk, .int .i64 dn, .int .i64 un, .int .i64 my, .int .i64 sq]) ?_ ?_ h6.out (ten _ _ _ _ _ _ _ _ _ _) (ten _ _ _ _ _ _ _ _ _ _) (one10 _ _ _ _ _ _ _ _ _ _ _ _) ?_); rfl; rfl))
      exact bodyPost_ret (results_go rfl _ _ _ (setRow_heap _ _ _ _ _ _ h6.out) rfl rfl) rfl (GoPost.no E.out rfl k6.out)
    · have hl0 : ((st.length : Int) == 0) = false := by rw [beq_eq_false_iff_ne]; have := List.length_pos_iff.2 h0; omega
      have ho : over ⟨st, ph, po, tr, wt, bk, dn, un, my, sq⟩ = true := by
        rcases hn with h | h | h
        · exact absurd hq h
        · exact absurd h h0
        · exact h
      have HO : Hid (∀ w1, Calls Tryd.prog 143 #[.agg #[.slice a st.length c, .int .i64 ph, .int .i64 po, .int .i64 tr, .bool wt, .bool bk, .int .i64 dn, .int .i64 un, .int .i64 my, .int .i64 sq]] w1 fun e w' => e = .returned (.bool true) ∧ Kept (fun _ => False) w1 w') := fun w1 => by
        have := f_over ⟨st, ph, po, tr, wt, bk, dn, un, my, sq⟩ (.slice a st.length c) w1
        rw [ho] at this; exact this
      clear hn hq ho h0
      go_enter Tryd.func139, Tryd.ntmps139
      go_wp2_with fail
      refine (HO.out _).mono ?_
      rintro e w1 ⟨rfl, k1⟩
      have h6 := Lib.hid (HH.out k1).2.2
      have k6 := Lib.hid (HF.out k1)
      obtain ⟨b0, b1, b2, b3, b4, b5, b6, b7, b8, b9⟩ := cells10 (HH.out k1).1
      clear HH HF k1
      go_wp2_with (first | fail | ((with_reducible refine store133 (C := #[.slice a st.length c, .int .i64 ph, .int .i64 po, .int .i64 tr, .bool wt, .bool bk, .int .i64 dn, .int .i64 un, .int .i64 my, .int .i64 sq]) ?_ ?_ h6.out (ten _ _ _ _ _ _ _ _ _ _) (ten _ _ _ _ _ _ _ _ _ _) (one10 _ _ _ _ _ _ _ _ _ _ _ _) ?_); rfl; rfl))
      exact bodyPost_ret (results_go rfl _ _ _ (setRow_heap _ _ _ _ _ _ h6.out) rfl rfl) rfl (GoPost.no E.out rfl k6.out)
  · have q1 : (x.seq == (sq : Int)) = false := by rw [beq_eq_false_iff_ne]; exact hq
    have q2 : (x.seq != (sq : Int)) = true := by rw [bne, q1]; rfl
    clear hn hq HH HF
    go_enter Tryd.func139, Tryd.ntmps139
    go_wp2_with (first | fail | ((with_reducible refine store133 (C := #[.slice a st.length c, .int .i64 ph, .int .i64 po, .int .i64 tr, .bool wt, .bool bk, .int .i64 dn, .int .i64 un, .int .i64 my, .int .i64 sq]) ?_ ?_ h6.out (ten _ _ _ _ _ _ _ _ _ _) (ten _ _ _ _ _ _ _ _ _ _) (one10 _ _ _ _ _ _ _ _ _ _ _ _) ?_); rfl; rfl))
    exact bodyPost_ret (results_go rfl _ _ _ (setRow_heap _ _ _ _ _ _ h6.out) rfl rfl) rfl (GoPost.no E.out rfl k6.out)
end Go.Proofs.YtklmhegmombegaaDoor.Re
