/-
  Steps and records in memory: what the ported texts stand on. Conditions: as each theorem says.
-/
import Derived.Test.YtklmhegmombegaaDoorMem
import Derived.Deep.QuietTactic
import Derived.BigQuiet
import Derived.WalkLawsBesides
import Derived.WalkSpells
import Derived.MapViews
import Derived.Deep.RegionHeld3
import Derived.RegionTactic
set_option linter.unusedVariables false
set_option linter.unusedSimpArgs false
namespace Go.Proofs.YtklmhegmombegaaDoor.Re

namespace Plain
def kindAt (l : List (Int × Int)) (i : Nat) : Int := ((l[i]?).map (·.2)).getD 0
end Plain
open Go Go.RowKit Go.Proofs.YtklmhegmombegaaDoor.Re.Plain
/-- The steps' cells. -/
def flat2 (l : List (Int × Int)) : List Value := l.flatMap fun x => [.int .i64 x.1, .int .i64 x.2]
theorem flat2_length (l : List (Int × Int)) : (flat2 l).length = l.length * 2 := by
  induction l with
  | nil => rfl
  | cons x l ih => simp only [flat2, List.flatMap_cons, List.length_append, List.length_cons, List.length_nil] at ih ⊢; rw [ih]; omega
theorem flat2_get {l : List (Int × Int)} {i : Nat} (hi : i < l.length) : (flat2 l)[i * 2]? = some (.int .i64 l[i].1) ∧ (flat2 l)[i * 2 + 1]? = some (.int .i64 l[i].2) := by
  induction l generalizing i with
  | nil => simp at hi
  | cons x l ih =>
    simp only [flat2, List.flatMap_cons]
    cases i with
    | zero => exact ⟨rfl, rfl⟩
    | succ i =>
      obtain ⟨h1, h2⟩ := ih (i := i) (by simpa using hi)
      have e1 : (i + 1) * 2 = i * 2 + 2 := by omega
      rw [e1]
      exact ⟨by simpa [flat2] using h1, by simpa [flat2] using h2⟩
/-- Is a number in a range? -/
def wi (n lo hi : Int) : Bool := decide (lo ≤ n) && decide (n ≤ hi)
theorem wi_true {n lo hi : Int} (h1 : lo ≤ n) (h2 : n ≤ hi) : wi n lo hi = true := by simp [wi, h1, h2]
theorem wi_false {n lo hi : Int} (h : n < lo ∨ hi < n) : wi n lo hi = false := by simp [wi]; omega
theorem kept_of_below {w w' : World} (h : Below w.heap.size w w') : Kept (fun _ => False) w w' := ⟨h.os, h.tape, h.output, h.size, fun k hk _ => h.block k hk⟩
/-- v holds its steps. -/
structure Stp (w : World) (v : Value) (l : List (Int × Int)) : Prop where
  rd : Rd w 2 v l.length (flat2 l)
  lt : ∀ k, v.ownBlock = some k → k < w.heap.size
theorem Stp.kept {w w' : World} {v : Value} {l : List (Int × Int)} (h : Stp w v l) (hk : Kept (fun _ => False) w w') : Stp w' v l := ⟨h.rd.kept hk (fun _ _ h => h), fun k e => Nat.lt_of_lt_of_le (h.lt k e) hk.size⟩
theorem Stp.form {w : World} {v : Value} {l : List (Int × Int)} (h : Stp w v l) : ∃ a c, v = .slice a l.length c := by obtain ⟨_, a, c, e, _⟩ := h.rd; exact ⟨a, c, e⟩
theorem Stp.alloc {w : World} {v : Value} {l : List (Int × Int)} (h : Stp w v l) (o : Obj) : Stp (w.alloc o) v l := h.kept ((Kept.refl _ w).alloc o)
/-- The zero value of a record. -/
def Z30 : Array Value := #[.int .i64 0, .int .i64 0, .int .i64 0, .int .i64 0, .int .i64 0, .bool false, .bool false, .int .i64 0, .int .i64 0, .int .i64 0, .int .u8 0, .int .u8 0, .int .u8 0, .int .u8 0, .int .u8 0, .int .u8 0, .int .u8 0, .int .u8 0, .int .u8 0, .int .u8 0, .int .u8 0, .int .u8 0, .int .u8 0, .int .u8 0, .int .u8 0, .int .u8 0, .int .u8 0, .int .u8 0, .int .u8 0, .int .u8 0, .int .u8 0, .int .u8 0, .int .u8 0, .int .u8 0, .int .u8 0, .int .u8 0, .int .u8 0, .int .u8 0, .int .u8 0, .int .u8 0, .int .u8 0, .int .u8 0, .slice none 0 0, .slice none 0 0, .int .u8 0, .int .u8 0, .int .u8 0, .int .u8 0, .int .u8 0, .int .u8 0, .int .u8 0, .int .u8 0, .int .u8 0, .int .u8 0, .int .u8 0, .int .u8 0, .int .u8 0, .int .u8 0, .int .u8 0, .int .u8 0, .int .u8 0, .int .u8 0, .int .u8 0, .int .u8 0, .int .u8 0, .int .u8 0, .int .u8 0, .int .u8 0, .int .u8 0, .int .u8 0, .int .u8 0, .int .u8 0, .int .u8 0, .int .u8 0, .int .u8 0, .int .u8 0, .bool false, .int .u8 0, .int .u8 0, .int .u8 0, .int .u8 0, .int .u8 0, .int .u8 0, .int .u8 0, .int .u8 0, .int .u8 0, .int .u8 0, .int .u8 0, .int .u8 0, .int .u8 0, .int .u8 0, .int .u8 0, .int .u8 0, .int .u8 0, .int .u8 0, .int .u8 0, .int .u8 0, .int .u8 0, .int .u8 0, .int .u8 0, .int .u8 0, .int .u8 0, .int .u8 0, .int .u8 0, .int .u8 0, .int .u8 0, .int .u8 0, .int .u8 0, .int .u8 0]
theorem Tryd.isz30 : (Tryd.prog.info? 30).map (·.size) = some 109 := by kernel_rfl
section
variable {ops : Array Oper} {rest : List Oper} {dst : Option Tmp} {ty : TypeId} {pos : String} {aft : Array Edge} {a : Act} {w : World} {Q : Exit → Act → World → Prop}
/-- A record's variable is made. -/
theorem alloc30 (h : wpList Tryd.prog ops Q rest (a.put dst (.pointer (some ⟨w.heap.size, 0, none⟩))) (w.alloc (.cells Z30 30))) : wpList Tryd.prog ops Q (⟨dst, .alloc 30, ty, pos, aft, none⟩ :: rest) a w := by
  refine wpList_plain rfl fun K hK => ?_
  go_simp
  exact hK _ _ h
/-- A record of zeros. -/
theorem build30 (h : wpList Tryd.prog ops Q rest (a.put dst (.agg Z30)) w) : wpList Tryd.prog ops Q (⟨dst, .build 30 #[], ty, pos, aft, none⟩ :: rest) a w := by
  refine wpList_plain rfl fun K hK => ?_
  go_simp
  exact hK _ _ h
/-- A record's variable is written whole. -/
theorem store30 {x y : Operand} {g : Nat} {old C : Array Value} {t : TypeId}
    (hx : a.eval x = .pointer (some ⟨g, 0, none⟩)) (hy : a.eval y = .agg C) (hg : w.heap[g]? = some (.cells old t (0, 0))) (ho : old.size = 109) (hC : C.size = 109) (h1 : C.all (·.oneCell') = true)
    (h : wpList Tryd.prog ops Q rest (a.put dst undef) (w.setRow g C)) : wpList Tryd.prog ops Q (⟨dst, .store 30 x y, ty, pos, aft, none⟩ :: rest) a w :=
  wpList_store_row (P := Tryd.prog) (o := ⟨dst, .store 30 x y, ty, pos, aft, none⟩) rfl 30 x y rfl g C hx hy t old hg (by rw [Tryd.isz30, hC]) (by rw [ho, hC]) h1 h
/-- A record's variable is read whole. -/
theorem load30 {x : Operand} {g o : Nat} {C : Array Value}
    (hx : a.eval x = .pointer (some ⟨g, o, none⟩)) (hc : w.rangeAt g o C.toList) (hC : C.size = 109)
    (h : wpList Tryd.prog ops Q rest (a.put dst (.agg C)) w) : wpList Tryd.prog ops Q (⟨dst, .load 30 x, ty, pos, aft, none⟩ :: rest) a w := by
  have := wpList_load_mid (P := Tryd.prog) (ops := ops) (rest := rest) (op := ⟨dst, .load 30 x, ty, pos, aft, none⟩) (a := a) (w := w) (Q := Q) rfl 30 x rfl g o hx C.toList _ hc Tryd.underlying30 rfl (by rw [Tryd.isz30]; simp [hC])
  simp only [Array.toArray_toList] at this
  exact this h
end
section
variable {ops : Array Oper} {S : World → Prop} {dst : Option Tmp} {ty : TypeId} {pos : String} {aft : Array Edge} {gd : Option (Nat × Bool)} {x : Operand} {a : Act} {g : Nat} {C : Array Value}
theorem yields30 (hw : Region.wanted ⟨dst, .load 30 x, ty, pos, aft, gd⟩ (yielded ops a.tmps) = true) (hx : a.eval x = .pointer (some ⟨g, 0, none⟩)) (hg : ∀ w, S w → w.heap[g]? = some (.cells C 30 (0, 0))) (hC : C.size = 109) :
    YieldsIf Tryd.prog ops S ⟨dst, .load 30 x, ty, pos, aft, gd⟩ (.agg C) a := by
  refine .inl ⟨hw, fun w hS => ?_⟩
  have hl := run_loadAt_mid (P := Tryd.prog) w g 0 30 C.toList _ (range_row (hg w hS)) Tryd.underlying30 rfl (by rw [Tryd.isz30]; simp [hC])
  rw [Array.toArray_toList] at hl
  unfold execOp
  simp only [hx, Sem.run_bind, hl, Result.andThen_ok, Sem.run_pure]
end
theorem Z30_one : Z30.all (·.oneCell') = true := by kernel_rfl
theorem all_set {C : Array Value} (h : C.all (·.oneCell') = true) {v : Value} (hv : v.oneCell' = true) (i : Nat) : (C.setIfInBounds i v).all (·.oneCell') = true := by
  rw [Array.all_eq_true_iff_forall_mem] at h ⊢
  intro x hx
  rcases Array.mem_or_eq_of_mem_setIfInBounds hx with h1 | h1
  · exact h x h1
  · rw [h1]; exact hv
/-- A step's kind, in memory. -/
theorem Stp.kind {w : World} {v : Value} {l : List (Int × Int)} (h : Stp w v l) {k : Nat} (hk : k < l.length) : ∃ b o c, v = .slice (some ⟨b, o, none⟩) l.length c ∧ w.cell? ⟨b, o + k * 2 + 1, none⟩ = some (.int .i64 (kindAt l k)) ∧ w.cell? ⟨b, o + k * 2, none⟩ = some (.int .i64 l[k].1) ∧ b < w.heap.size := by
  obtain ⟨b, o, c, e, hx⟩ := h.rd.addr (by omega)
  obtain ⟨g1, g2⟩ := flat2_get hk
  have e2 := hx _ _ g2
  rw [← Nat.add_assoc] at e2
  refine ⟨b, o, c, e, ?_, hx _ _ g1, h.lt b (by rw [e]; rfl)⟩
  rw [e2, kindAt, List.getElem?_eq_getElem hk]; rfl
theorem Stp.nil (w : World) : Stp w (.slice none 0 0) [] := ⟨⟨rfl, none, 0, rfl, .inl ⟨rfl, rfl, rfl⟩⟩, fun k e => by cases e⟩
theorem all_range_eq' : ∀ (xs ys : List Int), xs.length = ys.length → (List.range xs.length).all (fun i => xs.getD i 0 == ys.getD i 0) = (xs == ys) := by
  intro xs
  induction xs with
  | nil => intro ys h; cases ys with
    | nil => rfl
    | cons y ys => simp at h
  | cons x xs ih =>
    intro ys h
    cases ys with
    | nil => simp at h
    | cons y ys =>
      have hl : xs.length = ys.length := by simpa using h
      rw [List.length_cons, List.range_succ_eq_map, List.all_cons, List.all_map]
      show ((x == y) && (List.range xs.length).all _) = (x == y && xs == ys)
      rw [← ih ys hl]
      rfl
theorem equal115 (w : World) (p q p' q' : Int) : (Op.equalIn 10000 115 (.agg #[.int .i64 p, .int .i64 q]) (.agg #[.int .i64 p', .int .i64 q'])).run Tryd.prog w = .ok ((p == p') && (q == q')) w := by
  have u3 := Tryd.underlying3
  have hS : Tryd.prog.underlying 115 = some (.struct (Tryd.prog.fieldsOf 115)) := by kernel_rfl
  have hp : Tryd.prog.stoodInHeld 115 = false := by kernel_rfl
  rw [show (10000 : Nat) = 9999 + 1 from rfl, run_equalIn_agg w 9999 115 _ _ hS hp]
  simp only [Program.fieldsOf, Tryd.underlying115]
  go_simp
  by_cases h1 : p = p' <;> by_cases h2 : q = q' <;> simp [h1, h2]
theorem guard115 (w : World) (x y : Operand) (xs ys : Array Value) : (eqGuard .neq 115 x y (.agg xs) (.agg ys)).run Tryd.prog w = .ok () w := run_eqGuard_agg w .neq 115 x y _ _ (by kernel_rfl)
attribute [local go_sem] equal115 guard115
/-- Two steps compared, where only reading is done. -/
theorem quiet_neq115 {ops : Array Oper} {rest : List Oper} {dst : Option Tmp} {ty rt : TypeId} {pos : String} {aft : Array Edge} {gd : Option (Nat × Bool)} {x y : Operand} {a : Act} {S : World → Prop} {K : Act → Prop} {p q p' q' : Int}
    (hw : Region.wanted ⟨dst, .binOp .neq 115 x y rt, ty, pos, aft, gd⟩ (yielded ops a.tmps) = true) (hx : a.eval x = .agg #[.int .i64 p, .int .i64 q]) (hy : a.eval y = .agg #[.int .i64 p', .int .i64 q']) (h : wpQuiet Tryd.prog ops S K rest (a.put dst (.bool (!((p == p') && (q == q')))))) :
    wpQuiet Tryd.prog ops S K (⟨dst, .binOp .neq 115 x y rt, ty, pos, aft, gd⟩ :: rest) a := by
  refine wpQuiet_step fun K' hK => ?_
  rw [if_pos hw]
  refine ⟨_, fun w hS => ?_, hK _ h⟩
  unfold Oper.quietAt execOp
  simp only [hx, hy, Sem.run_bind, guard115, run_neq_struct, equal115, Result.andThen_ok, Sem.run_pure]
  exact ⟨rfl, rfl⟩
theorem list_step' {xs ys : List (Int × Int)} {k : Nat} (h : xs.take k = ys.take k) (hx : k < xs.length) (hy : k < ys.length) (e : xs[k] = ys[k]) : xs.take (k + 1) = ys.take (k + 1) := by
  rw [← List.take_append_getElem hx, ← List.take_append_getElem hy, h, e]
set_option maxHeartbeats 2000000 in
theorem f_equal (va vb : Value) (l m : List (Int × Int)) (w : World) (ha : Stp w va l) (hb : Stp w vb m) (hll : l.length ≤ 1000000) : Calls Tryd.prog 107 #[va, vb] w (BPost (decide (l = m)) w) := by
  obtain ⟨a, c, rfl⟩ := ha.form
  obtain ⟨b, d, rfl⟩ := hb.form
  by_cases hlen : l.length = m.length
  · have t1 : ((l.length : Int) == m.length) = true := by rw [beq_iff_eq]; omega
    have t2 : ((l.length : Int) != m.length) = false := by rw [bne, t1]; rfl
    have HA := Lib.hid ha
    have HB := Lib.hid hb
    have HL := Lib.hid hlen
    clear ha hb hlen
    go_enter Tryd.func107, Tryd.ntmps107
    go_wp2
    go_loopw [13] (fun i wr => ∃ k : Nat, k ≤ l.length ∧ i = .int .i64 k ∧ l.take k = m.take k ∧ Kept (fun _ => False) w wr) (fun i _ => l.length - (intOf i).toNat)
    case atStart => exact ⟨0, Nat.zero_le _, rfl, rfl, Kept.refl _ _⟩
    case round =>
      obtain ⟨k, hk, rfl, ht, K⟩ := hrel
      have HT := Lib.hid ht
      clear ht
      by_cases hlt : k < l.length
      · have hlm : k < m.length := by have := HL.out; omega
        obtain ⟨b1, o1, c1, e1, x1, x0, -⟩ := (HA.out.kept K).kind hlt
        obtain ⟨b2, o2, c2, e2, y1, y0, -⟩ := (HB.out.kept K).kind hlm
        simp only [Value.slice.injEq, true_and] at e1 e2
        obtain ⟨rfl, rfl⟩ := e1
        obtain ⟨rfl, rfl⟩ := e2
        have k1 : kindAt l k = l[k].2 := by rw [kindAt, List.getElem?_eq_getElem hlt]; rfl
        have k2 : kindAt m k = m[k].2 := by rw [kindAt, List.getElem?_eq_getElem hlm]; rfl
        rw [k1] at x1
        rw [k2] at y1
        clear k1 k2
        generalize hxk : l[k] = x at x1 x0
        generalize hyk : m[k] = y at y1 y0
        have HXK := Lib.hid hxk
        have HYK := Lib.hid hyk
        clear hxk hyk
        obtain ⟨p, q⟩ := x
        obtain ⟨p', q'⟩ := y
        dsimp only at x0 x1 y0 y1
        have hd : ∀ n, Kept (fun _ => False) w (wr.drewN n) := fun n => K.drewN n
        have HD := Lib.hid hd
        clear hd
        by_cases hxy : (p == p' && q == q') = true
        · have hst : l.take (k + 1) = m.take (k + 1) := list_step' HT.out hlt hlm (by rw [HXK.out, HYK.out]; simp at hxy; rw [hxy.1, hxy.2])
          have HST := Lib.hid hst
          clear hst
          go_wp2
          refine wp_region_quiet_lit (by kernel_rfl) (by kernel_rfl) ?_
          repeat (first | ((with_reducible refine quiet_neq115 (p := p) (q := q) (p' := p') (q' := q') ?_ ?_ ?_ ?_); rfl; rfl; rfl; rw [hxy]) | quiet_step (fail))
          refine wpQuiet_nil ?_
          intro _ hw'
          obtain ⟨nq, hw''⟩ := hw'
          subst hw''
          go_wp2
          go_roundw
          case rel => exact ⟨k + 1, by omega, by go_num, HST.out, HD.out _⟩
          case measure => simp [intOf]; omega
        · have hxy : (p == p' && q == q') = false := by simpa using hxy
          have e : decide (l = m) = false := by
            simp only [decide_eq_false_iff_not]
            rintro rfl
            have := HXK.out.symm.trans HYK.out
            simp only [Prod.mk.injEq] at this
            simp [this.1, this.2] at hxy
          have HE := Lib.hid e
          clear e
          go_wp2
          refine wp_region_quiet_lit (by kernel_rfl) (by kernel_rfl) ?_
          repeat (first | ((with_reducible refine quiet_neq115 (p := p) (q := q) (p' := p') (q' := q') ?_ ?_ ?_ ?_); rfl; rfl; rfl; rw [hxy]) | quiet_step (fail))
          refine wpQuiet_nil ?_
          intro _ hw'
          obtain ⟨nq, hw''⟩ := hw'
          subst hw''
          go_wp2
          go_ret
          exact BPost.mk HE.out (HD.out _)
      · have e : l = m := by
          have h := HT.out
          rwa [List.take_of_length_le (by omega), List.take_of_length_le (by have := HL.out; omega)] at h
        have HE := Lib.hid (show decide (l = m) = true by simpa using e)
        clear e
        go_wp2
        go_ret
        exact BPost.mk HE.out K
  · have t1 : ((l.length : Int) == m.length) = false := by rw [beq_eq_false_iff_ne]; omega
    have t2 : ((l.length : Int) != m.length) = true := by rw [bne, t1]; rfl
    have HE := Lib.hid (show decide (l = m) = false by simp only [decide_eq_false_iff_not]; rintro rfl; exact hlen rfl)
    clear hlen ha hb
    go_enter Tryd.func107, Tryd.ntmps107
    go_wp2
    go_ret
    exact BPost.mk HE.out (Kept.refl _ _)
end Go.Proofs.YtklmhegmombegaaDoor.Re
