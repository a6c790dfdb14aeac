/-
  The contract of the saga's target. Conditions: as each theorem says.
-/
import Derived.Test.YtklmhegmombegaaBack
import Derived.RangeFuncBox
import Derived.WalkSpells
set_option linter.unusedVariables false
set_option linter.unusedSimpArgs false
namespace Go.Proofs.Ytklmhegmombegaa
open Go Go.RowKit Go.Shelf Plain

attribute [local go_sem] Oper.semAt_some

/-- A saga's cells, its steps at v. -/
def sgC (s : Sg) (v : Value) : Array Value := #[v, .int .i64 s.phase, .int .i64 s.pos, .int .i64 s.tries, .bool s.wait, .bool s.back, .int .i64 s.done, .int .i64 s.undone, .int .i64 s.may, .int .i64 s.seq]

set_option maxHeartbeats 1000000 in
theorem back_in (F : Fence) (n : Nat) (h74 : F.fn 74) (hro : F.round = none) (a : Option Addr) (m c : Nat) (w : World) :
    CallsIn F n Try.prog 74 #[.slice a m c] w fun e w' => e = .returned (.func (.func 81) #[] #[.pointer (some ⟨w.heap.size, 0, none⟩)]) ∧ w' = w.alloc (.cells #[.slice a m c] 22) := by
  refine callsIn_of_wp Try.func74 rfl h74 ?_ hro
  simp only [Try.ntmps74, List.size_toArray, List.length_cons, List.length_nil, Nat.reduceAdd, Nat.reduceSub, Array.replicate_succ, Array.replicate_zero, List.push_toArray, List.append_toArray, List.nil_append, List.cons_append]
  gi_wp2
  go_ret
  exact ⟨rfl, rfl⟩

set_option maxRecDepth 100000 in
set_option maxHeartbeats 1000000 in
/-- .. of no steps. -/
theorem back0_in (F : Fence) (n : Nat) (h81 : F.fn 81) (hro : F.round = none) (l Bs : Nat) (a : Option Addr) (cap : Nat) (J : List (Nat × Int × Int) → World → Prop)
    (W : World) (hBs : W.cell? ⟨Bs, 0, none⟩ = some (.slice a 0 cap)) (h0 : J [] W) :
    CallsIn F n Try.prog 81 #[.func (.yield l) #[] #[], .pointer (some ⟨Bs, 0, none⟩)] W fun e W' => (∃ v, e = .returned v) ∧ J [] W' := by
  refine callsIn_of_wp Try.func81 rfl h81 ?_ hro
  simp only [Try.ntmps81, List.size_toArray, List.length_cons, List.length_nil, Nat.reduceAdd, Nat.reduceSub, Array.replicate_succ, Array.replicate_zero, List.push_toArray, List.append_toArray, List.nil_append, List.cons_append]
  gi_wp2
  gi_loopw [3] (fun i wr => i = .int .i64 (-1) ∧ J [] wr) (fun _ _ => 0)
  case atStart => exact ⟨rfl, h0⟩
  case round =>
    obtain ⟨rfl, hJs⟩ := hrel
    gi_wp2
    go_end0
    exact ⟨⟨_, rfl⟩, hJs⟩

/-- What comes: all of it, or a beginning. -/
def Pre (zs : List (Int × Int)) (pre : List (Nat × Int × Int)) : Prop := ∃ k, k < zs.length ∧ pre = upto (bk zs) (k + 1)
theorem back_stops (F : Fence) (n : Nat) (h81 : F.fn 81) (hro : F.round = none) (hn : 1 ≤ n) (Bs n₀ : Nat) (v : Value) (zs : List (Int × Int)) (hl : zs.length ≤ 1000) (w : World) (hBs : Bs < n₀) (hn₀ : n₀ ≤ w.heap.size)
    (hc : w.cell? ⟨Bs, 0, none⟩ = some v) (hr : Rd w 2 v zs.length (flat2 zs)) (hlt : ∀ k, v.ownBlock = some k → k < n₀) :
    SeqStopsK F n Try.prog 81 #[.pointer (some ⟨Bs, 0, none⟩)] encB (Below n₀) (fun ys => ys = upto (bk zs) zs.length) (Pre zs) zs.length w := fun l J Jx W hW _ _ hY h0 => by
  have hW' := hW.mono hn₀
  have hc' := (hW'.cell (p := ⟨Bs, 0, none⟩) hBs).trans hc
  by_cases h1 : 1 ≤ zs.length
  · obtain ⟨b, o, c, rfl, hx⟩ := hr.addr (by omega)
    have hb := hlt b rfl
    exact back1_in F n h81 hro hn l Bs n₀ b o c zs hl h1 hb J Jx hY W hBs hc' (fun j hj => by
      obtain ⟨g1, g2⟩ := flat2_get hj
      rw [List.getElem?_eq_getElem hj]
      have e1 := hx _ _ g1
      have e2 := hx _ _ g2
      rw [← Nat.add_assoc] at e2
      exact ⟨(hW'.cell (p := ⟨b, o + j * 2, none⟩) hb).trans e1, (hW'.cell (p := ⟨b, o + j * 2 + 1, none⟩) hb).trans e2⟩) h0
  · have h0' : zs.length = 0 := by omega
    obtain ⟨_, a, c, rfl, _⟩ := hr
    rw [h0'] at hc'
    refine (back0_in F n h81 hro l Bs a c J W hc' h0).mono ?_
    rintro e W' ⟨he, hj⟩
    exact ⟨he, .inl ⟨_, by rw [h0']; rfl, hj⟩⟩

theorem block_own {β : Type} (B : Nat) (o : Obj) (ho : o.isCells = true) : Own (fun (_ : β) W => W.heap[B]? = some o) := fun s X Y row hs hg hrow =>
  (hg.block B (Array.getElem?_eq_some_iff.1 hs).1 (fun e => by
    obtain ⟨o', ho', hc⟩ := hrow B e.symm
    rw [hs] at ho'; cases ho'; rw [ho] at hc; cases hc)).trans hs

theorem b_or {a b : Nat} (ha : a < 64) (hb : b < 64) : bits .or .i64 (a : Int) (b : Int) = ((a ||| b : Nat) : Int) := by
  have : ∀ a : Fin 64, ∀ b : Fin 64, bits .or .i64 ((a.val : Nat) : Int) ((b.val : Nat) : Int) = ((a.val ||| b.val : Nat) : Int) := by decide +kernel
  exact this ⟨a, ha⟩ ⟨b, hb⟩
theorem b_clr {a b : Nat} (ha : a < 64) (hb : b < 64) : bits .andNot .i64 (a : Int) (b : Int) = ((clr a b : Nat) : Int) := by
  have : ∀ a : Fin 64, ∀ b : Fin 64, bits .andNot .i64 ((a.val : Nat) : Int) ((b.val : Nat) : Int) = ((clr a.val b.val : Nat) : Int) := by decide +kernel
  exact this ⟨a, ha⟩ ⟨b, hb⟩
theorem b_and1 {a : Nat} (ha : a < 64) : bits .and .i64 (a : Int) 1 = ((a % 2 : Nat) : Int) := by
  have : ∀ a : Fin 64, bits .and .i64 ((a.val : Nat) : Int) 1 = ((a.val % 2 : Nat) : Int) := by decide +kernel
  exact this ⟨a, ha⟩
theorem or_lt {a b : Nat} (ha : a < 64) (hb : b < 64) : a ||| b < 64 := lt_of_bits fun i hi => by rw [Nat.testBit_or, bits_of_lt ha i hi, bits_of_lt hb i hi]; rfl
/-- The test of a bit, as the walk writes it. -/
theorem b_test {o : Nat} (ho : o < 64) (i : Nat) : (bits .and .i64 ((o : Int) / 2 ^ min i 64) 1 == 1) = o.testBit i := by
  have e : ((o : Int) / 2 ^ min i 64) = ((o / 2 ^ min i 64 : Nat) : Int) := by simp
  rw [e, b_and1 (Nat.lt_of_le_of_lt (Nat.div_le_self _ _) ho), Nat.testBit_eq_decide_div_mod_eq]
  have : o / 2 ^ min i 64 = o / 2 ^ i := by
    by_cases h : i ≤ 64
    · rw [Nat.min_eq_left h]
    · rw [Nat.min_eq_right (by omega), Nat.div_eq_of_lt (by omega), Nat.div_eq_of_lt]
      exact Nat.lt_of_lt_of_le ho (Nat.le_trans (by decide : 64 ≤ 2 ^ 64) (Nat.pow_le_pow_right (by decide) (by omega)))
  rw [this]
  generalize o / 2 ^ i % 2 = n
  rw [Bool.eq_iff_iff, beq_iff_eq, decide_eq_true_eq]
  omega

/-- A result that lies in a box. -/
theorem results_box {fn : Func} {p : Tmp} {tmps : Array Value} {W : World} {B : Nat} {k : Int} (h : fn.results = #[.cell p 3]) (hp : tmps.getD p undef = .pointer (some ⟨B, 0, none⟩)) (hb : Boxed W B 3 (.int .i64 k)) : (results fn tmps).run Try.prog W = .ok (.int .i64 k) W := by
  have hc := hb.cell
  have hp' : tmps[p]?.getD undef = .pointer (some ⟨B, 0, none⟩) := by simpa using hp
  simp [results, h, hp', asAddr, go_sem, hc]
/-- What the body asks of a step. -/
def tst (o : Nat) (x : Nat × Int × Int) : Bool := (x.2.2 == 1) && o.testBit x.1
theorem opn_tst (s : Sg) (j : Nat) (hj : j < s.steps.length) (hl : s.steps.length ≤ 6) : opn s (s.steps.length - 1 - j) = tst (clr (s.done ||| s.may) s.undone) (bk s.steps j) := by
  unfold opn tst bk kindAt
  have hlt : s.steps.length - 1 - j < s.steps.length := by omega
  have h6 : s.steps.length - 1 - j < 6 := by omega
  simp only [testBit_clr, Nat.testBit_or, List.getElem?_eq_getElem hlt, Option.map_some, Option.getD_some, h6, decide_true, Bool.true_xor]
  rw [Bool.and_assoc]
theorem mem_upto {α : Type} {f : Nat → α} {k : Nat} {x : α} : x ∈ upto f k ↔ ∃ j, j < k ∧ f j = x := by simp [upto]
theorem target_done (s : Sg) (hl : s.steps.length ≤ 6) (h : ∀ x ∈ upto (bk s.steps) s.steps.length, tst (clr (s.done ||| s.may) s.undone) x = false) : target s = -1 := by
  refine lastOf_no fun i hi => ?_
  have := opn_tst s (s.steps.length - 1 - i) (by omega) hl
  have e : s.steps.length - 1 - (s.steps.length - 1 - i) = i := by omega
  rw [e] at this
  rw [this]
  exact h _ (mem_upto.2 ⟨_, by omega, rfl⟩)
theorem target_stop (s : Sg) (hl : s.steps.length ≤ 6) {k : Nat} (hk : k < s.steps.length) {pre : List (Nat × Int × Int)} {x : Nat × Int × Int} (e : upto (bk s.steps) (k + 1) = pre ++ [x]) (hx : tst (clr (s.done ||| s.may) s.undone) x = true)
    (h : ∀ y ∈ pre, tst (clr (s.done ||| s.may) s.undone) y = false) : target s = (x.1 : Int) := by
  rw [upto_succ] at e
  obtain ⟨rfl, e2⟩ := List.append_inj' e rfl
  simp only [List.cons.injEq, and_true] at e2
  subst e2
  show lastOf (opn s) s.steps.length = ((s.steps.length - 1 - k : Nat) : Int)
  refine lastOf_eq (by omega) (by rw [opn_tst s k hk hl]; exact hx) fun i h1 h2 => ?_
  have := opn_tst s (s.steps.length - 1 - i) (by omega) hl
  have e : s.steps.length - 1 - (s.steps.length - 1 - i) = i := by omega
  rw [e] at this
  rw [this]
  exact h _ (mem_upto.2 ⟨_, by omega, rfl⟩)

set_option maxRecDepth 100000 in
set_option maxHeartbeats 2000000 in
theorem f_target (s : Sg) (v : Value) (w : World) (hl : s.steps.length ≤ 6) (hd : s.done < 64) (hm : s.may < 64) (hu : s.undone < 64) (hr : Rd w 2 v s.steps.length (flat2 s.steps)) (hlt : ∀ k, v.ownBlock = some k → k < w.heap.size) :
    Calls Try.prog 62 #[.agg (sgC s v)] w fun e w' => e = .returned (.int .i64 (target s)) ∧ Below w.heap.size w w' := by
  refine (callsIn_wide (n := 6)).1 ?_
  refine callsIn_of_wp_marks Try.func62 rfl trivial ?_ rfl
  obtain ⟨a, c, rfl⟩ : ∃ a c, v = .slice a s.steps.length c := by obtain ⟨_, a, c, e, _⟩ := hr; exact ⟨a, c, e⟩
  unfold sgC
  simp only [Try.ntmps62, List.size_toArray, List.length_cons, List.length_nil, Nat.reduceAdd, Nat.reduceSub, Array.replicate_succ, Array.replicate_zero, List.push_toArray, List.append_toArray, List.nil_append, List.cons_append]
  gi_wp2_with (refine ⟨trivial, ?_⟩; gi_at_call 74; refine (back_in _ _ trivial rfl _ _ _ _).mono ?_; rintro e w' ⟨rfl, rfl⟩)
  have bR := ((Boxed.new (w.alloc (.cells #[.slice a s.steps.length c, .int .i64 s.phase, .int .i64 s.pos, .int .i64 s.tries, .bool s.wait, .bool s.back, .int .i64 s.done, .int .i64 s.undone, .int .i64 s.may, .int .i64 s.seq] 27)) 3 (.int .i64 0)).alloc (.cells #[.int .i64 (bits .andNot .i64 (bits .or .i64 s.done s.may) s.undone)] 3)).alloc (.cells #[.slice a s.steps.length c] 22)
  have bO := (Boxed.new ((w.alloc (.cells #[.slice a s.steps.length c, .int .i64 s.phase, .int .i64 s.pos, .int .i64 s.tries, .bool s.wait, .bool s.back, .int .i64 s.done, .int .i64 s.undone, .int .i64 s.may, .int .i64 s.seq] 27)).alloc (.cells #[.int .i64 0] 3)) 3 (.int .i64 (bits .andNot .i64 (bits .or .i64 s.done s.may) s.undone))).alloc (.cells #[.slice a s.steps.length c] 22)
  have bL := Boxed.new (((w.alloc (.cells #[.slice a s.steps.length c, .int .i64 s.phase, .int .i64 s.pos, .int .i64 s.tries, .bool s.wait, .bool s.back, .int .i64 s.done, .int .i64 s.undone, .int .i64 s.may, .int .i64 s.seq] 27)).alloc (.cells #[.int .i64 0] 3)).alloc (.cells #[.int .i64 (bits .andNot .i64 (bits .or .i64 s.done s.may) s.undone)] 3)) 22 (.slice a s.steps.length c)
  simp only [World.size_alloc] at bR bO bL
  have hB0 : Below w.heap.size w ((((w.alloc (.cells #[.slice a s.steps.length c, .int .i64 s.phase, .int .i64 s.pos, .int .i64 s.tries, .bool s.wait, .bool s.back, .int .i64 s.done, .int .i64 s.undone, .int .i64 s.may, .int .i64 s.seq] 27)).alloc (.cells #[.int .i64 0] 3)).alloc (.cells #[.int .i64 (bits .andNot .i64 (bits .or .i64 s.done s.may) s.undone)] 3)).alloc (.cells #[.slice a s.steps.length c] 22)) := (((((Below.refl _ w).alloc (Nat.le_refl _) _).alloc (by simp) _).alloc (by simp; omega) _).alloc (by simp; omega) _)
  have hsz : ((((w.alloc (.cells #[.slice a s.steps.length c, .int .i64 s.phase, .int .i64 s.pos, .int .i64 s.tries, .bool s.wait, .bool s.back, .int .i64 s.done, .int .i64 s.undone, .int .i64 s.may, .int .i64 s.seq] 27)).alloc (.cells #[.int .i64 0] 3)).alloc (.cells #[.int .i64 (bits .andNot .i64 (bits .or .i64 s.done s.may) s.undone)] 3)).alloc (.cells #[.slice a s.steps.length c] 22)).heap.size = w.heap.size + 4 := by simp
  obtain ⟨W0, hW0⟩ : ∃ W0, (((w.alloc (.cells #[.slice a s.steps.length c, .int .i64 s.phase, .int .i64 s.pos, .int .i64 s.tries, .bool s.wait, .bool s.back, .int .i64 s.done, .int .i64 s.undone, .int .i64 s.may, .int .i64 s.seq] 27)).alloc (.cells #[.int .i64 0] 3)).alloc (.cells #[.int .i64 (bits .andNot .i64 (bits .or .i64 s.done s.may) s.undone)] 3)).alloc (.cells #[.slice a s.steps.length c] 22) = W0 := ⟨_, rfl⟩
  rw [hW0] at bR bO bL hB0 hsz ⊢
  clear hW0
  have hrd : Rd W0 2 (.slice a s.steps.length c) s.steps.length (flat2 s.steps) := hr.same fun p hp u hu => (hB0.cell (World.block_lt_of_cell? w p hu)).trans hu
  have hop : bits .andNot .i64 (bits .or .i64 s.done s.may) s.undone = ((clr (s.done ||| s.may) s.undone : Nat) : Int) := by rw [b_or hd hm, b_clr (or_lt hd hm) hu]
  rw [hop] at bO ⊢
  have HO := Lib.hid (clr_lt (b := s.undone) (or_lt hd hm))
  have HT := Lib.hid (target_done s hl)
  have HS : Hid (∀ {k : Nat}, k < s.steps.length → ∀ {pre : List (Nat × Int × Int)} {x : Nat × Int × Int}, upto (bk s.steps) (k + 1) = pre ++ [x] → tst (clr (s.done ||| s.may) s.undone) x = true → (∀ y ∈ pre, tst (clr (s.done ||| s.may) s.undone) y = false) → target s = (x.1 : Int)) := fun hk => target_stop s hl hk
  generalize clr (s.done ||| s.may) s.undone = op at *
  clear hop hd hm hu
  refine wpIn_rangeFunc_ownH rfl (by decide) (gf := 81) (lb := #[.pointer (some ⟨w.heap.size + 1 + 1 + 1, 0, none⟩)]) rfl trivial (enters_of Try.func81 (by kernel_rfl) rfl)
    (back_stops Fence.wide _ trivial rfl (by decide) (w.heap.size + 1 + 1 + 1) W0.heap.size (.slice a s.steps.length c) s.steps (by omega) W0 (by omega) (by omega) bL.cell hrd (fun k e => by have := hlt k e; omega)) belowK_t (belowK_b (by omega)) (Below.refl _ _) (fun _ => rfl)
    (fun pre W => ((Boxed W (w.heap.size + 1) 3 (.int .i64 0) ∧ Boxed W (w.heap.size + 1 + 1) 3 (.int .i64 op)) ∧ Below w.heap.size w W) ∧ ((∀ x ∈ pre, tst op x = false) ∧ W0.heap.size ≤ W.heap.size))
    (fun c pre W => ∃ pre' x, (Boxed W (w.heap.size + 1) 3 (.int .i64 (x.1 : Int)) ∧ Below w.heap.size w W) ∧ (c = .ret ∧ pre = pre' ++ [x] ∧ tst op x = true ∧ (∀ y ∈ pre', tst op y = false)))
    (OwnFrom.and (OwnFrom.and (OwnFrom.and (Own.from (boxed_own _ _ _) _) (Own.from (boxed_own _ _ _) _)) (ownFrom_below (Nat.le_refl _) (by omega))) (fun _ _ _ _ hs hg _ => ⟨hs.1, Nat.le_trans hs.2 hg.size⟩))
    (fun c pre A B row hs hg hr => by
      obtain ⟨pre', x, ⟨h1, h2⟩, h3⟩ := hs
      exact ⟨pre', x, ⟨Own.from (boxed_own (w.heap.size + 1) 3 (fun (_ : Unit) => Value.int .i64 (x.1 : Int))) W0.heap.size () A B row h1 hg hr, ownFrom_below (β := Unit) (Nat.le_refl _) (by omega) () A B row h2 hg hr⟩, h3⟩)
    ⟨⟨⟨bR, bO⟩, hB0⟩, by simp, Nat.le_refl _⟩
    (fun x a' W => ∃ Bx, w.heap.size + 1 + 1 < Bx ∧ W.heap[Bx]? = some (.cells #[.int .i64 x.2.1, .int .i64 x.2.2] 34 (0, 0)) ∧ a' = { tmps := #[.agg #[.slice a s.steps.length c, .int .i64 s.phase, .int .i64 s.pos, .int .i64 s.tries, .bool s.wait, .bool s.back, .int .i64 s.done, .int .i64 s.undone, .int .i64 s.may, .int .i64 s.seq],
      .pointer (some ⟨w.heap.size, 0, none⟩), .pointer (some ⟨w.heap.size + 1, 0, none⟩), .pointer (some ⟨w.heap.size + 1 + 1, 0, none⟩), .int .i64 x.1, .pointer (some ⟨Bx, 0, none⟩),
      .pointer (some ⟨w.heap.size, 6, none⟩), .int .i64 s.done, .pointer (some ⟨w.heap.size, 8, none⟩), .int .i64 s.may, .int .i64 (bits .or .i64 s.done s.may), .pointer (some ⟨w.heap.size, 7, none⟩), .int .i64 s.undone, .int .i64 op, .pointer (some ⟨w.heap.size, 0, none⟩), .slice a s.steps.length c, .func (.func 81) #[] #[.pointer (some ⟨w.heap.size + 1 + 1 + 1, 0, none⟩)], .int .i64 x.1, .agg #[.int .i64 x.2.1, .int .i64 x.2.2], undef, undef, undef, undef, undef, undef, undef, undef, undef, undef, undef], defers := [] })
    (fun x a' _ X Y row hs hg hr => by obtain ⟨Bx, h1, h2, h3⟩ := hs; exact ⟨Bx, h1, block_own Bx _ rfl () X Y row h2 hg (fun r e => (hr r e).2), h3⟩)
    ?assign ?body ?done ?stop
  case assign =>
    rintro l pre x W K ⟨⟨⟨bR1, bO1⟩, hB1⟩, hp, hsW⟩ hK
    unfold encB
    gi_wp2
    exact hK _ _ ((KeepsOthers.alloc _ _).from _) ((Below.refl _ W).alloc hsW _) ⟨⟨⟨bR1.alloc _, bO1.alloc _⟩, hB1.alloc hB1.size _⟩, hp, by simp; omega⟩ ⟨W.heap.size, bO1.lt, World.alloc_heap_new W _, rfl⟩
  case body =>
    rintro l pre x a' W hl1 ⟨r, hr1⟩ ⟨⟨⟨bR1, bO1⟩, hB1⟩, hp, hsW⟩ ⟨Bx, hBx, bX, rfl⟩ hlt1
    have cO := bO1.cell
    have cR := bR1.cell
    have fR := bR1.frozen
    have x0 : W.cell? ⟨Bx, 0, none⟩ = some (.int .i64 x.2.1) := by simp [World.cell?, bX]
    have x1 : W.cell? ⟨Bx, 1, none⟩ = some (.int .i64 x.2.2) := by simp [World.cell?, bX]
    have HB := Lib.hid (b_test HO.out x.1)
    have HP := Lib.hid hp
    clear hp
    by_cases hk1 : x.2.2 = 1
    · cases ht : op.testBit x.1 with
      | true =>
        have t1 : (bits .and .i64 ((op : Int) / 2 ^ min x.1 64) 1 == 1) = true := by rw [HB.out, ht]
        have h2 : tst op x = true := by simp [tst, hk1, ht]
        have H2 := Lib.hid h2
        clear ht h2
        gi_wp2
        exact ⟨(KeepsOthers.setCell _ _ _).from _, pre, x, ⟨bR1.set _, hB1.setCell (p := ⟨w.heap.size + 1, 0, none⟩) (by simp) _⟩, rfl, rfl, H2.out, HP.out⟩
      | false =>
        have t1 : (bits .and .i64 ((op : Int) / 2 ^ min x.1 64) 1 == 1) = false := by rw [HB.out, ht]
        have h2 : tst op x = false := by simp [tst, ht]
        have H2 := Lib.hid h2
        clear ht h2
        gi_wp2
        exact ⟨KeepsFrom.refl _ _, Below.refl _ _, ⟨⟨bR1, bO1⟩, hB1⟩, fun y hy => by
          rcases List.mem_append.1 hy with h | h
          · exact HP.out y h
          · simp at h; subst h; exact H2.out, hsW⟩
    · have t1 : (x.2.2 == 1) = false := by rw [beq_eq_false_iff_ne]; exact hk1
      have h2 : tst op x = false := by simp [tst, t1]
      have H2 := Lib.hid h2
      clear h2
      gi_wp2
      exact ⟨KeepsFrom.refl _ _, Below.refl _ _, ⟨⟨bR1, bO1⟩, hB1⟩, fun y hy => by
        rcases List.mem_append.1 hy with h | h
        · exact HP.out y h
        · simp at h; subst h; exact H2.out, hsW⟩
  case done =>
    rintro D zs W hD rfl ⟨⟨⟨bR1, bO1⟩, hB1⟩, hp, hsW⟩ hK
    have cR := bR1.cell
    have fR := bR1.frozen
    have HE := Lib.hid (HT.out hp)
    clear hp
    gi_wp2
    have hK' : (W.setCell ⟨w.heap.size + 1, 0, none⟩ (.int .i64 (-1))).heap[D]? = some (.deferred (some [])) := (KeepsOthers.setCell W _ _).same D _ hK rfl
    have hb := (bR1.set (.int .i64 (-1))).kept (grownBy_putObj' _ D (.deferred none)) (by intro e; cases e; omega)
    refine ⟨by simp, .inl ⟨_, _, rfl, run_takeDeferred hK', ?_⟩⟩
    refine ⟨_, results_box rfl rfl hb, by rw [HE.out], ?_⟩
    exact (hB1.setCell (p := ⟨w.heap.size + 1, 0, none⟩) (by simp) _).trans (belowK_b (w := w) (Nat.le_refl _) _ D _ _ (by omega) hK' rfl rfl)
  case stop =>
    rintro D c pre W hD ⟨k, hk, rfl⟩ ⟨pre', x, ⟨bR1, hB1⟩, rfl, he, hx, hy⟩ hK
    have HE := Lib.hid (HS.out hk he hx hy)
    clear hy he hx
    gi_wp2
    have hb := bR1.kept (grownBy_putObj' _ D (.deferred none)) (by intro e; cases e; omega)
    refine ⟨by simp, .inl ⟨_, _, rfl, run_takeDeferred hK, ?_⟩⟩
    refine ⟨_, results_box rfl rfl hb, by rw [HE.out], ?_⟩
    exact hB1.trans (belowK_b (w := w) (Nat.le_refl _) _ D _ _ (by omega) hK rfl rfl)
end Go.Proofs.Ytklmhegmombegaa
