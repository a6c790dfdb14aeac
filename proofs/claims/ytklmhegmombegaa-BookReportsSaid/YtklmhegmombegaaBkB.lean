/-
  Steps of books' functions: loads, stores, results; the contract of the saga's Go whole; rotate. Conditions: as each theorem says.
-/
import Derived.Test.YtklmhegmombegaaBkA
set_option linter.unusedVariables false
set_option linter.unusedSimpArgs false
namespace Go.Proofs.Ytklmhegmombegaa
open Go Go.RowKit Plain

namespace Plain
/-- A saga that has come to be by records. -/
def GoodS (lim : Nat) (s : Sg) : Prop := ∃ n, mayB s.steps = true ∧ Inv s.steps lim n s
/-- The saga behind a record, or as it was. -/
def goR (s : Sg) (x : Rc) (lim : Nat) : Sg × Bool := match go s x lim with
  | some t => (t, true)
  | none => (s, false)
theorem Inv.go {l : List (Int × Int)} {lim n : Nat} {s t : Sg} {x : Rc} (h : Inv l lim n s) (hl : mayB l = true) (hg : Plain.go s x lim = some t) : Inv l lim (n + 1) t := by
  unfold Plain.go at hg
  split at hg
  · cases hg
  rename_i hn
  have ho : over s = false := by
    cases h : over s with
    | false => rfl
    | true => exact absurd (.inr (.inr h)) hn
  split at hg
  · split at hg
    · rename_i k2 hd
      cases hg
      obtain ⟨hw, _, _, hc⟩ := due_cases hd
      rcases hc with hc | hc | hc | hc
      · have := congrArg Du.kind hc.2.2; have k2' : (told x).kind = 2 := k2; rw [this] at k2'; cases k2'
      · have := congrArg Du.kind hc.2.2; have k2' : (told x).kind = 2 := k2; rw [this] at k2'; cases k2'
      · rw [hc.2.2]; exact h.sent hw ho (by omega) (by omega)
      · have := congrArg Du.kind hc.2.2; have k2' : (told x).kind = 2 := k2; rw [this] at k2'; cases k2'
    · cases hg
  split at hg
  · split at hg
    · rename_i k5 hd
      cases hg
      exact h.ended hl hd (by show ¬ x.kind = 2; omega)
    · cases hg
  split at hg
  · split at hg
    · cases hg
    rename_i hw
    have hw' : s.wait = true := by
      cases hh : s.wait with
      | true => rfl
      | false => exact absurd (.inl hh) hw
    split at hg
    · cases hg; exact h.answered hl ho hw' _
    · cases hg; exact h.lapsed hl ho hw'
  · cases hg
theorem go_steps {s t : Sg} {x : Rc} {lim : Nat} (hg : Plain.go s x lim = some t) : t.steps = s.steps := by
  unfold Plain.go at hg
  split at hg
  · cases hg
  split at hg
  · split at hg
    · cases hg; rfl
    · cases hg
  split at hg
  · split at hg
    · cases hg; rfl
    · cases hg
  split at hg
  · split at hg
    · cases hg
    split at hg
    · cases hg
      unfold answered
      split
      · split <;> rfl
      · split
        · rfl
        · split <;> rfl
    · cases hg
      unfold lapsed
      split
      · rfl
      · split <;> rfl
  · cases hg
theorem go_seq {s t : Sg} {x : Rc} {lim : Nat} (hg : Plain.go s x lim = some t) : x.seq = s.seq ∧ t.seq = s.seq + 1 := by
  unfold Plain.go at hg
  split at hg
  · cases hg
  rename_i hn
  refine ⟨by
    have := fun h => hn (.inl h)
    exact Decidable.not_not.1 this, ?_⟩
  split at hg
  · split at hg
    · cases hg; rfl
    · cases hg
  split at hg
  · split at hg
    · cases hg; rfl
    · cases hg
  split at hg
  · split at hg
    · cases hg
    split at hg
    · cases hg
      unfold answered
      split
      · split <;> rfl
      · split
        · rfl
        · split <;> rfl
    · cases hg
      unfold lapsed
      split
      · rfl
      · split <;> rfl
  · cases hg
theorem GoodS.go {lim : Nat} {s t : Sg} {x : Rc} (h : GoodS lim s) (hg : Plain.go s x lim = some t) : GoodS lim t := by
  obtain ⟨n, h1, h2⟩ := h
  refine ⟨n + 1, ?_, ?_⟩
  · rw [go_steps hg]; exact h1
  · rw [go_steps hg]; exact h2.go h1 hg
theorem GoodS.new {lim : Nat} {l : List (Int × Int)} (h : mayB l = true) : GoodS lim (new l) := ⟨0, h, Inv.new h⟩
theorem goR_steps (s : Sg) (x : Rc) (lim : Nat) : (goR s x lim).1.steps = s.steps := by
  unfold goR
  split
  · rename_i h; exact go_steps h
  · rfl
end Plain
/-- The saga's Go, whatever the record. -/
theorem f_goAny (s : Sg) (v : Value) (C : Array Value) (x : Rc) (lim : Nat) (w : World) (hC : Recish C x) (hg : GoodS lim s) (hs : Stp w v s.steps) (h1 : 1 ≤ lim) (h9 : lim ≤ 9) :
    Calls Try.prog 22 #[.agg (sgC s v), .agg C, .int .i64 lim] w fun e w' => e = .returned (.tuple #[.agg (sgC (goR s x lim).1 v), .bool (goR s x lim).2]) ∧ Kept (fun _ => False) w w' := by
  obtain ⟨n, hl, hi⟩ := hg
  have ok := hi.okay hl h9
  have hsq := hi.seq
  have hn := Nat.le_trans (hi.le hl) (most_le hl h9)
  have h0 := ne_nil hl
  have H : Calls Try.prog 22 #[.agg (sgC s v), .agg C, .int .i64 lim] w (GoPost s v x lim w) := by
    by_cases hq : x.seq = s.seq
    · cases ho : over s with
      | true => exact f_go_no s v C x lim w hC hs (.inr (.inr ho))
      | false => exact f_go_yes s v C x lim w hC ok hs h1 h9 hq h0 ho (fun hw => (hi.step_wait ho hw).1) (by omega)
    · exact f_go_no s v C x lim w hC hs (.inl hq)
  refine H.mono ?_
  rintro e w' ⟨rfl, k⟩
  refine ⟨?_, k⟩
  unfold goR
  cases go s x lim <;> rfl

/-! ## The cells of a book -/
theorem Try.isz54 : (Try.prog.info? 54).map (·.size) = some 5 := by kernel_rfl
def Z54 : Array Value := bkC (fun _ => 0) (.slice none 0 0)
theorem bkC_size (ep : Nat → Int) (sv : Value) : (bkC ep sv).size = 5 := rfl
theorem bkC_one (ep : Nat → Int) (a : Option Addr) (n c : Nat) : (bkC ep (.slice a n c)).all (·.oneCell') = true := by simp [bkC, Value.oneCell']
section
variable {ops : Array Oper} {rest : List Oper} {dst : Option Tmp} {ty : TypeId} {pos : String} {aft : Array Edge} {gd : Option (Nat × Bool)} {a : Act} {w : World} {S : World → Prop} {Q : Exit → Act → World → Prop} {K : Act → World → Prop} {E : Prop} {x y : Operand} {g o : Nat} {C : Array Value}
theorem load54 (hx : a.eval x = .pointer (some ⟨g, 0, none⟩)) (hg : w.heap[g]? = some (.cells C 54 (0, 0))) (hC : C.size = 5)
    (h : wpList Try.prog ops Q rest (a.put dst (.agg C)) w) : wpList Try.prog ops Q (⟨dst, .load 54 x, ty, pos, aft, none⟩ :: rest) a w := by
  have := wpList_load_mid (P := Try.prog) (ops := ops) (rest := rest) (op := ⟨dst, .load 54 x, ty, pos, aft, none⟩) (a := a) (w := w) (Q := Q) rfl 54 x rfl g 0 hx C.toList _ (range_row hg) Try.underlying54 rfl (by rw [Try.isz54]; simp [hC])
  simp only [Array.toArray_toList] at this
  exact this h
theorem store54 {old : Array Value} {t : TypeId} (hx : a.eval x = .pointer (some ⟨g, 0, none⟩)) (hy : a.eval y = .agg C) (hg : w.heap[g]? = some (.cells old t (0, 0))) (ho : old.size = 5) (hC : C.size = 5) (h1 : C.all (·.oneCell') = true)
    (h : wpList Try.prog ops Q rest (a.put dst undef) (w.setRow g C)) : wpList Try.prog ops Q (⟨dst, .store 54 x y, ty, pos, aft, none⟩ :: rest) a w :=
  wpList_store_row (P := Try.prog) (o := ⟨dst, .store 54 x y, ty, pos, aft, none⟩) rfl 54 x y rfl g C hx hy t old hg (by rw [Try.isz54, hC]) (by rw [ho, hC]) h1 h
theorem alloc54 (h : wpList Try.prog ops Q rest (a.put dst (.pointer (some ⟨w.heap.size, 0, none⟩))) (w.alloc (.cells Z54 54))) : wpList Try.prog ops Q (⟨dst, .alloc 54, ty, pos, aft, none⟩ :: rest) a w := by
  refine wpList_plain rfl fun K hK => ?_
  go_simp
  exact hK _ _ h
theorem yields54 (hw : Region.wanted ⟨dst, .load 54 x, ty, pos, aft, gd⟩ (yielded ops a.tmps) = true) (hx : a.eval x = .pointer (some ⟨g, 0, none⟩)) (hg : ∀ w, S w → w.heap[g]? = some (.cells C 54 (0, 0))) (hC : C.size = 5) :
    YieldsIf Try.prog ops S ⟨dst, .load 54 x, ty, pos, aft, gd⟩ (.agg C) a := by
  refine .inl ⟨hw, fun w hS => ?_⟩
  have hl := run_loadAt_mid (P := Try.prog) w g 0 54 C.toList _ (range_row (hg w hS)) Try.underlying54 rfl (by rw [Try.isz54]; simp [hC])
  rw [Array.toArray_toList] at hl
  unfold execOp
  simp only [hx, Sem.run_bind, hl, Result.andThen_ok, Sem.run_pure]
theorem yields27o (hw : Region.wanted ⟨dst, .load 27 x, ty, pos, aft, gd⟩ (yielded ops a.tmps) = true) (hx : a.eval x = .pointer (some ⟨g, o, none⟩)) (hg : ∀ w, S w → w.rangeAt g o C.toList) (hC : C.size = 10) :
    YieldsIf Try.prog ops S ⟨dst, .load 27 x, ty, pos, aft, gd⟩ (.agg C) a := by
  refine .inl ⟨hw, fun w hS => ?_⟩
  have hl := run_loadAt_mid (P := Try.prog) w g o 27 C.toList _ (hg w hS) Try.underlying27 rfl (by rw [Try.isz27]; simp [hC])
  rw [Array.toArray_toList] at hl
  unfold execOp
  simp only [hx, Sem.run_bind, hl, Result.andThen_ok, Sem.run_pure]
/-- A saga's variable is made, in a region that draws its order. -/
theorem step_alloc27 (hw : Region.wanted ⟨dst, .alloc 27, ty, pos, aft, gd⟩ (yielded ops a.tmps) = true) (h : K (a.put dst (.pointer (some ⟨w.heap.size, 0, none⟩))) (w.alloc (.cells Z27 27))) :
    if Region.wanted ⟨dst, .alloc 27, ty, pos, aft, gd⟩ (yielded ops a.tmps) = true then Oper.wp Try.prog ⟨dst, .alloc 27, ty, pos, aft, gd⟩ a w K Q else E := by
  rw [if_pos hw]
  go_simp
  exact h
/-- A saga is written, in a region that draws its order. -/
theorem step_store27 {cur : Array Value} {t : TypeId} (hw : Region.wanted ⟨dst, .store 27 x y, ty, pos, aft, gd⟩ (yielded ops a.tmps) = true) (hx : a.eval x = .pointer (some ⟨g, o, none⟩)) (hy : a.eval y = .agg C) (hC : C.size = 10) (h1 : C.all (·.oneCell') = true) (hg : w.heap[g]? = some (.cells cur t (0, 0))) (ho : o + 10 ≤ cur.size)
    (h : ∀ w', w'.heap[g]? = some (.cells (puts cur o C.toList) t (0, 0)) → Kept (fun i => i = g) w w' → K (a.put dst undef) w') :
    if Region.wanted ⟨dst, .store 27 x y, ty, pos, aft, gd⟩ (yielded ops a.tmps) = true then Oper.wp Try.prog ⟨dst, .store 27 x y, ty, pos, aft, gd⟩ a w K Q else E := by
  rw [if_pos hw]
  refine wp_store_mid (P := Try.prog) 27 x y rfl g o _ hx hy (fun j hj => ?_) (by rw [Try.isz27, hC]) h1 ?_
  · refine ⟨?_, free_of_block hg⟩
    rw [cell_of_block hg (by omega)]; rfl
  · exact h _ (setCells_block _ _ _ _ hg) (setCells_kept _ _ _)
/-- A book is written whole, in a region that draws its order. -/
theorem step_store54 {cur : Array Value} {t : TypeId} (hw : Region.wanted ⟨dst, .store 54 x y, ty, pos, aft, gd⟩ (yielded ops a.tmps) = true) (hx : a.eval x = .pointer (some ⟨g, 0, none⟩)) (hy : a.eval y = .agg C) (hC : C.size = 5) (h1 : C.all (·.oneCell') = true) (hg : w.heap[g]? = some (.cells cur t (0, 0))) (ho : cur.size = 5)
    (h : ∀ w', w'.heap[g]? = some (.cells (puts cur 0 C.toList) t (0, 0)) → Kept (fun i => i = g) w w' → K (a.put dst undef) w') :
    if Region.wanted ⟨dst, .store 54 x y, ty, pos, aft, gd⟩ (yielded ops a.tmps) = true then Oper.wp Try.prog ⟨dst, .store 54 x y, ty, pos, aft, gd⟩ a w K Q else E := by
  rw [if_pos hw]
  refine wp_store_mid (P := Try.prog) 54 x y rfl g 0 _ hx hy (fun j hj => ?_) (by rw [Try.isz54, hC]) h1 ?_
  · refine ⟨?_, free_of_block hg⟩
    rw [cell_of_block hg (by omega)]; rfl
  · exact h _ (setCells_block _ _ _ _ hg) (setCells_kept _ _ _)
end
theorem puts_all {C D : Array Value} (h : C.size = D.size) : puts C 0 D.toList = D := by
  apply Array.ext
  · rw [puts_size, h]
  · intro i h1 h2
    have h3 := puts_in D.toList C 0 (by simp; omega) i D[i] (by simp [h2])
    rw [Nat.zero_add, Array.getElem?_eq_getElem h1] at h3
    exact Option.some.inj h3
theorem results_54 {fn : Func} {p t : Tmp} (h : fn.results = #[.cell p 54, .tmp t]) (tmps : Array Value) (w : World) (g : Nat) {C : Array Value} {ty : TypeId} {fr : Nat × Nat} {v : Value}
    (hg : w.heap[g]? = some (.cells C ty fr)) (hC : C.size = 5) (hp : tmps.getD p undef = .pointer (some ⟨g, 0, none⟩)) (hv : tmps.getD t undef = v := by rfl) :
    (results fn tmps).run Try.prog w = .ok (.tuple #[.agg C, v]) w := by
  have hp' : tmps[p]?.getD undef = .pointer (some ⟨g, 0, none⟩) := by simpa using hp
  have hv' : tmps[t]?.getD undef = v := by simpa using hv
  simp [results, h, hp', hv', asAddr, run_loadVar_row (P := Try.prog) w g ty 54 C fr _ hg Try.underlying54 rfl (by rw [Try.isz54, hC])]

/-! ## What a record does to a book -/
/-- A book behind a record, or as it was. -/
def BgPost (r : Option Bk) (b : Bk) (sv : Value) (ss : List (Sg × Value)) (w : World) (e : Ending) (w' : World) : Prop :=
  ∃ sv' ss', e = .returned (.tuple #[.agg (bkC (r.getD b).ep sv'), .bool r.isSome]) ∧ BkIn w' sv' ss' ∧ ss'.map (·.1) = (r.getD b).sagas ∧ (∀ k, Own sv' ss' k → Own sv ss k ∨ w.heap.size ≤ k) ∧ Kept (fun _ => False) w w'
/-- It does not go. -/
theorem BgPost.no {r : Option Bk} {b : Bk} {sv : Value} {ss : List (Sg × Value)} {w w1 : World} (hr : r = none) (hb : ss.map (·.1) = b.sagas) (hB : BkIn w sv ss) (k : Kept (fun _ => False) w w1) (g : Nat) (hg : w.heap.size ≤ g) (C : Array Value) :
    BgPost r b sv ss w (.returned (.tuple #[.agg (bkC b.ep sv), .bool false])) (w1.setRow g C) := by
  subst hr
  exact ⟨sv, ss, rfl, (hB.kept k).keep (S := fun i => i = g) ⟨rfl, rfl, rfl, by simp [World.setRow], fun i _ hs => setRow_other _ _ _ _ hs⟩ (fun i hi e => by have := hB.own i hi; omega), hb, fun k hk => .inl hk, k.setRow hg _⟩
namespace Plain
def brotate (b : Bk) (x : Rx) : Option Bk := if x.epoch = b.ep x.part.toNat + 1 then some { b with ep := fun p => if p = x.part.toNat then x.epoch else b.ep p } else none
end Plain
set_option maxRecDepth 100000 in
set_option maxHeartbeats 4000000 in
theorem f_rotate (b : Bk) (sv : Value) (ss : List (Sg × Value)) (C : Array Value) (x : Rx) (lim : Int) (w : World) (hX : RecIn w C x) (hB : BkIn w sv ss) (hb : ss.map (·.1) = b.sagas) (hp : 0 ≤ x.part ∧ x.part ≤ 3) (hep : ∀ p, 0 ≤ b.ep p ∧ b.ep p ≤ 400) :
    Calls Try.prog 73 #[.agg (bkC b.ep sv), .agg C, .int .i64 lim] w (BgPost (brotate b x) b sv ss w) := by
  obtain ⟨g0, g1, g2⟩ := heap_alloc3 w (.cells (bkC b.ep sv) 54) (.cells C 41) (.cells Z54 54)
  have K3 := (((Kept.refl (fun _ => False) w).alloc (.cells (bkC b.ep sv) 54)).alloc (.cells C 41)).alloc (.cells Z54 54)
  obtain ⟨a, c, rfl⟩ := hB.form
  have x8 := row_cell g1 hX.c8
  have x9 := row_cell g1 hX.c9
  have G0 := Lib.hid g0
  have G2 := Lib.hid g2
  have HK := Lib.hid K3
  have HB := Lib.hid hB
  have HBS := Lib.hid hb
  have E : Hid (brotate b x = if x.epoch = b.ep x.part.toNat + 1 then some { b with ep := fun p => if p = x.part.toNat then x.epoch else b.ep p } else none) := rfl
  have hcells : ∀ p : Nat, p < 4 → (((w.alloc (.cells (bkC b.ep (.slice a ss.length c)) 54)).alloc (.cells C 41)).alloc (.cells Z54 54)).cell? ⟨w.heap.size, p, none⟩ = some (.int .i64 (b.ep p)) := fun p hp => row_cell g0 (by
    match p, hp with
    | 0, _ => rfl
    | 1, _ => rfl
    | 2, _ => rfl
    | 3, _ => rfl)
  obtain ⟨p, hpx⟩ : ∃ p : Nat, x.part = p := ⟨x.part.toNat, by omega⟩
  have hp4 : p < 4 := by omega
  rw [hpx] at x8 E
  rw [Int.toNat_natCast] at E
  have xe := hcells p hp4
  have hepp := hep p
  generalize hv : b.ep p = ev at xe hepp E
  clear g0 g1 g2 K3 hX hB hb hcells hp hpx hep
  have hone := Lib.hid (bkC_one b.ep a ss.length c)
  by_cases he : x.epoch = ev + 1
  · have t1 : (x.epoch == ev + 1) = true := by rw [beq_iff_eq]; exact he
    have t2 : (x.epoch != ev + 1) = false := by rw [bne, t1]; rfl
    rw [if_pos he] at E
    have fz := free_of_block (j := p) G0.out
    have EC : Hid ((bkC b.ep (.slice a ss.length c)).setIfInBounds p (.int .i64 x.epoch) = bkC (fun q => if q = p then x.epoch else b.ep q) (.slice a ss.length c)) := by
      show _ = _
      match p, hp4 with
      | 0, _ => rfl
      | 1, _ => rfl
      | 2, _ => rfl
      | 3, _ => rfl
    have wrp : IntKind.i64.wrap (ev + 1) = ev + 1 := by rw [IntKind.wrap_i64]; go_num
    clear he
    go_enter Try.func73, Try.ntmps73
    go_upto_region 1 with (first | fail | (with_reducible refine alloc54 ?_))
    generalize ((w.alloc (.cells (bkC b.ep (.slice a ss.length c)) 54)).alloc (.cells C 41)).alloc (.cells Z54 54) = w2 at *
    go_quiet (fail)
    go_upto_region 4 with (fail)
    have g4 := setCell_block (w := w2.drewN nq) (k := p) (show (w2.drewN nq).heap[w.heap.size]? = _ from G0.out) (.int .i64 x.epoch)
    have g2 := (setCell_heap_other (w2.drewN nq) ⟨w.heap.size, p, none⟩ (.int .i64 x.epoch) (w.heap.size + 1 + 1) (by show w.heap.size + 1 + 1 ≠ w.heap.size; omega)).trans (show (w2.drewN nq).heap[w.heap.size + 1 + 1]? = _ from G2.out)
    have k4 := (HK.out.drewN nq).setCell (p := ⟨w.heap.size, p, none⟩) (.inr (Nat.le_refl _)) (.int .i64 x.epoch)
    rw [EC.out] at g4
    have one4 := bkC_one (fun q => if q = p then x.epoch else b.ep q) a ss.length c
    have G4 := Lib.hid g4
    have G2' := Lib.hid g2
    have K4 := Lib.hid k4
    have O4 := Lib.hid one4
    clear g4 g2 k4 one4 fz x9 x8 xe
    generalize (w2.drewN nq).setCell _ _ = w3 at *
    go_wp2_with (first | fail | ((with_reducible refine load54 (g := w.heap.size) ?_ G4.out (bkC_size _ _) ?_); rfl) | ((with_reducible refine store54 ?_ ?_ G2'.out rfl (bkC_size _ _) O4.out ?_); rfl; rfl))
    refine bodyPost_ret (results_54 rfl _ _ _ (setRow_heap _ _ _ _ _ _ G2'.out) (bkC_size _ _) rfl) rfl ?_
    refine ⟨.slice a ss.length c, ss, by rw [E.out]; rfl, (HB.out.kept K4.out).keep (S := fun i => i = w.heap.size + 1 + 1) ⟨rfl, rfl, rfl, by simp [World.setRow], fun i _ hs => setRow_other _ _ _ _ hs⟩ (fun i hi e => by have := HB.out.own i hi; omega), by rw [E.out]; exact HBS.out, fun k hk => .inl hk, K4.out.setRow (by omega) _⟩
  · have t1 : (x.epoch == ev + 1) = false := by rw [beq_eq_false_iff_ne]; exact he
    have t2 : (x.epoch != ev + 1) = true := by rw [bne, t1]; rfl
    rw [if_neg he] at E
    have wrp : IntKind.i64.wrap (ev + 1) = ev + 1 := by rw [IntKind.wrap_i64]; go_num
    clear he
    go_enter Try.func73, Try.ntmps73
    go_upto_region 1 with (first | fail | (with_reducible refine alloc54 ?_))
    generalize ((w.alloc (.cells (bkC b.ep (.slice a ss.length c)) 54)).alloc (.cells C 41)).alloc (.cells Z54 54) = w2 at *
    go_quiet (fail)
    have G0' : Hid ((w2.drewN nq).heap[w.heap.size]? = some (.cells (bkC b.ep (.slice a ss.length c)) 54 (0, 0))) := G0.out
    have G2' : Hid ((w2.drewN nq).heap[w.heap.size + 1 + 1]? = some (.cells Z54 54 (0, 0))) := G2.out
    have K4 := Lib.hid (HK.out.drewN nq)
    clear x9 x8 xe
    go_wp2_with (first | fail | ((with_reducible refine load54 (g := w.heap.size) ?_ G0'.out (bkC_size _ _) ?_); rfl) | ((with_reducible refine store54 ?_ ?_ G2'.out rfl (bkC_size _ _) hone.out ?_); rfl; rfl))
    exact bodyPost_ret (results_54 rfl _ _ _ (setRow_heap _ _ _ _ _ _ G2'.out) (bkC_size _ _) rfl) rfl (BgPost.no E.out HBS.out HB.out K4.out _ (by omega) _)
end Go.Proofs.Ytklmhegmombegaa
