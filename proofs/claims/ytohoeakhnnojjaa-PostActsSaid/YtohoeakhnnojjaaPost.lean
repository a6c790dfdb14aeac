/-
  Contracts of the post's methods. Conditions: as each theorem says.
-/
import Derived.Test.YtohoeakhnnojjaaRows
import Derived.Test.YtohoeakhnnojjaaBuf
import Derived.Test.YtohoeakhnnojjaaComm
import Derived.Deep.MidRow
import Derived.BigQuiet
import Derived.WalkLawsBesides
import Derived.WalkSpells
import Derived.Lib.Hide
import Derived.MapViews
namespace Go.Proofs.Ytohoeakhnnojjaa
open Go Go.RowKit Go.Conc

/-- A value of a call's type: cells, each of one. -/
structure Callish (C : Array Value) : Prop where
  size : C.size = 41
  one : C.all (·.oneCell') = true
  lits : ∃ L, Try.prog.keyLits 3 28 C.toList = some L

/-- A POST behind the address ⟨D, 0⟩: its channel's block K holds the calls q. -/
structure IsPost (w : World) (base D K : Nat) (q : List (Array Value)) : Prop where
  block : w.heap[D]? = some (.cells #[.chan (some K)] 46 (0, 0))
  chan : ∃ s r, w.heap[K]? = some (.chan 24 (q.map Value.agg).toArray false s r false)
  loD : base ≤ D
  loK : base ≤ K
  most : q.length ≤ 24
  call : ∀ C ∈ q, Callish C

theorem IsPost.c0 {w : World} {base D K : Nat} {q : List (Array Value)} (h : IsPost w base D K q) : w.cell? ⟨D, 0, none⟩ = some (.chan (some K)) := by simp [World.cell?, h.block]
theorem IsPost.lt {w : World} {base D K : Nat} {q : List (Array Value)} (h : IsPost w base D K q) : D < w.heap.size := (Array.getElem?_eq_some_iff.1 h.block).1
theorem IsPost.ltK {w : World} {base D K : Nat} {q : List (Array Value)} (h : IsPost w base D K q) : K < w.heap.size := by obtain ⟨s, r, hc⟩ := h.chan; exact (Array.getElem?_eq_some_iff.1 hc).1
theorem IsPost.ne {w : World} {base D K : Nat} {q : List (Array Value)} (h : IsPost w base D K q) : D ≠ K := by
  rintro rfl
  obtain ⟨s, r, hc⟩ := h.chan
  rw [h.block] at hc; cases hc
theorem IsPost.kept {w w' : World} {base D K : Nat} {q : List (Array Value)} {S : Nat → Prop} (h : IsPost w base D K q) (hk : Kept S w w') (h1 : ¬ S D) (h2 : ¬ S K) : IsPost w' base D K q := by
  obtain ⟨s, r, hc⟩ := h.chan
  exact ⟨(hk.block D h.lt h1).trans h.block, ⟨s, r, (hk.block K h.ltK h2).trans hc⟩, h.loD, h.loK, h.most, h.call⟩

/-- The zero value of a call. -/
def Z28 : Array Value := #[.int .i64 0, .int .i64 0, .int .i64 0, .bool false, .int .i64 0, .int .i64 0, .bool false, .bool false, .int .i64 0, .int .u8 0, .int .u8 0, .int .u8 0, .int .u8 0, .int .u8 0, .int .u8 0, .int .u8 0, .int .u8 0, .int .u8 0, .int .u8 0, .int .u8 0, .int .u8 0, .int .u8 0, .int .u8 0, .int .u8 0, .int .u8 0, .int .u8 0, .int .u8 0, .int .u8 0, .int .u8 0, .int .u8 0, .int .u8 0, .int .u8 0, .int .u8 0, .int .u8 0, .int .u8 0, .int .u8 0, .int .u8 0, .int .u8 0, .int .u8 0, .int .u8 0, .int .u8 0]

theorem Try.isz28 : (Try.prog.info? 28).map (·.size) = some 41 := by kernel_rfl

/-- A call's variable is made. -/
theorem alloc28 {ops : Array Oper} {rest : List Oper} {dst : Option Tmp} {ty : TypeId} {pos : String} {aft : Array Edge} {a : Act} {w : World} {Q : Exit → Act → World → Prop}
    (h : wpList Try.prog ops Q rest (a.put dst (.pointer (some ⟨w.heap.size, 0, none⟩))) (w.alloc (.cells Z28 28))) : wpList Try.prog ops Q (⟨dst, .alloc 28, ty, pos, aft, none⟩ :: rest) a w := by
  refine wpList_plain rfl fun K hK => ?_
  go_simp
  exact hK _ _ h
/-- A call of zeros. -/
theorem build28 {ops : Array Oper} {rest : List Oper} {dst : Option Tmp} {ty : TypeId} {pos : String} {aft : Array Edge} {a : Act} {w : World} {Q : Exit → Act → World → Prop}
    (h : wpList Try.prog ops Q rest (a.put dst (.agg Z28)) w) : wpList Try.prog ops Q (⟨dst, .build 28 #[], ty, pos, aft, none⟩ :: rest) a w := by
  refine wpList_plain rfl fun K hK => ?_
  go_simp
  exact hK _ _ h
/-- A call's variable is written whole. -/
theorem store28 {ops : Array Oper} {rest : List Oper} {dst : Option Tmp} {ty : TypeId} {pos : String} {aft : Array Edge} {x y : Operand} {a : Act} {w : World} {Q : Exit → Act → World → Prop} {g : Nat} {old C : Array Value} {t : TypeId}
    (hx : a.eval x = .pointer (some ⟨g, 0, none⟩)) (hy : a.eval y = .agg C) (hg : w.heap[g]? = some (.cells old t (0, 0))) (ho : old.size = 41) (hC : Callish C)
    (h : wpList Try.prog ops Q rest (a.put dst undef) (w.setRow g C)) : wpList Try.prog ops Q (⟨dst, .store 28 x y, ty, pos, aft, none⟩ :: rest) a w :=
  wpList_store_row (P := Try.prog) (o := ⟨dst, .store 28 x y, ty, pos, aft, none⟩) rfl 28 x y rfl g C hx hy t old hg (by rw [Try.isz28, hC.size]) (by rw [ho, hC.size]) hC.one h

theorem setChan_other (w : World) (c cap : Nat) (buf : Array Value) (cl : Bool) (s r : Nat) (tm : Bool) (k : Nat) (h : k ≠ c) : (w.setChan c cap buf cl s r tm).heap[k]? = w.heap[k]? := by
  simp only [World.setChan]; rw [Array.getElem?_setIfInBounds_ne (by omega)]
theorem Kept.chan {S : Nat → Prop} {a w : World} (h : Kept S a w) {c : Nat} (hc : S c) (cap : Nat) (buf : Array Value) (cl : Bool) (s r : Nat) (tm : Bool) : Kept S a (w.setChan c cap buf cl s r tm) :=
  ⟨h.os, h.tape, h.output, by rw [size_setChan]; exact h.size, fun k hk hs => (setChan_other w c cap buf cl s r tm k (fun e => hs (e ▸ hc))).trans (h.block k hk hs)⟩
theorem IsPost.pushed {w w' : World} {base D K : Nat} {q : List (Array Value)} {C : Array Value} (h : IsPost w base D K q) (hC : Callish C) (hq : q.length < 24) (hD : w'.heap[D]? = w.heap[D]?)
    (hK : ∃ s r, w'.heap[K]? = some (.chan 24 ((q ++ [C]).map Value.agg).toArray false s r false)) : IsPost w' base D K (q ++ [C]) :=
  ⟨hD.trans h.block, hK, h.loD, h.loK, by simp; omega, by
    intro x hx
    rcases List.mem_append.1 hx with hx | hx
    · exact h.call x hx
    · simp at hx; subst hx; exact hC⟩
theorem IsPost.popped {w w' : World} {base D K : Nat} {q : List (Array Value)} {C : Array Value} (h : IsPost w base D K (C :: q)) (hD : w'.heap[D]? = w.heap[D]?)
    (hK : ∃ s r, w'.heap[K]? = some (.chan 24 (q.map Value.agg).toArray false s r false)) : IsPost w' base D K q :=
  ⟨hD.trans h.block, hK, h.loD, h.loK, by have := h.most; simp at this; omega, fun x hx => h.call x (List.mem_cons_of_mem _ hx)⟩

/-- Is there room? -/
def room (q : List (Array Value)) : Bool := decide (q.length < 24)
/-- What lies there behind a sending. -/
def sent (q : List (Array Value)) (C : Array Value) : List (Array Value) := if q.length < 24 then q ++ [C] else q


/-- A call's variable is read whole. -/
theorem load28 {ops : Array Oper} {rest : List Oper} {dst : Option Tmp} {ty : TypeId} {pos : String} {aft : Array Edge} {x : Operand} {a : Act} {w : World} {Q : Exit → Act → World → Prop} {g o : Nat} {C : Array Value}
    (hx : a.eval x = .pointer (some ⟨g, o, none⟩)) (hc : w.rangeAt g o C.toList) (hC : C.size = 41)
    (h : wpList Try.prog ops Q rest (a.put dst (.agg C)) w) : wpList Try.prog ops Q (⟨dst, .load 28 x, ty, pos, aft, none⟩ :: rest) a w := by
  have := wpList_load_mid (P := Try.prog) (ops := ops) (rest := rest) (op := ⟨dst, .load 28 x, ty, pos, aft, none⟩) (a := a) (w := w) (Q := Q) rfl 28 x rfl g o hx C.toList _ hc Try.underlying28 rfl (by rw [Try.isz28]; simp [hC])
  simp only [Array.toArray_toList] at this
  exact this h
theorem range_row {w : World} {g : Nat} {C : Array Value} {t : TypeId} {fz : Nat × Nat} (hg : w.heap[g]? = some (.cells C t fz)) : w.rangeAt g 0 C.toList := by
  intro j v hv
  rw [Nat.zero_add, cell_of_row w g j C t fz hg]
  simpa using hv

set_option maxHeartbeats 4000000 in
theorem f_send (base D K : Nat) (q : List (Array Value)) (C : Array Value) (w : World) (h : IsPost w base D K q) (hC : Callish C) (_hB : base ≤ w.heap.size) :
    Calls Try.prog 11 #[.pointer (some ⟨D, 0, none⟩), .agg C] w fun e w' => e = .returned (.bool (room q)) ∧
      IsPost w' base D K (sent q C) ∧ Kept (fun k => k = K) w w' := by
  refine calls_of_nwp Try.func11 rfl ?_
  simp only [Try.ntmps11, List.size_toArray, List.length_cons, List.length_nil, Nat.reduceAdd, Nat.reduceSub, Array.replicate_succ,
     Array.replicate_zero, List.push_toArray, List.append_toArray, List.nil_append, List.cons_append]
  have q0 := h.c0
  have hlt := h.lt
  have hltK := h.ltK
  refine nwp_seq_plain (fun K1 hK1 => ?_)
  go_wp2_with fail
  refine nwp_seq_plain (fun K2 hK2 => ?_)
  go_wp2_with fail
  refine nwp_seq_plain (fun K3 hK3 => ?_)
  go_wp2_with ((with_reducible refine load28 ?_ (range_row (heap_alloc_new w (.cells C 28))) hC.size ?_); rfl)
  simp only [Act.put, List.setIfInBounds_toArray, List.set_cons_succ, List.set_cons_zero]
  refine nwp_seq ?_
  obtain ⟨s, r, hc⟩ := h.chan
  have hc1 : (w.alloc (.cells C 28)).heap[K]? = _ := (Below.heap_alloc w _ K hltK).trans hc
  by_cases hq : q.length < 24
  · refine nwp_comm_lit (cases := #[scase K (.agg C) (.agg Z28)]) (blocking := false) (shape := .select) (w₁ := w.alloc (.cells C 28)) rfl (by simp [go_sem, execOp, scase, Act.eval, Z28]) (fun fr cs es hst => step_lone_select_send_room hst hc1 (by simpa using hq)) ?_
    simp only [Act.put, List.setIfInBounds_toArray, List.set_cons_succ, List.set_cons_zero]
    go_wp2_with fail
    refine nwp_of_wp ?_
    go_wp2_with fail
    go_ret
    have e1 : room q = true := by simp [room, hq]
    have e2 : sent q C = q ++ [C] := by simp [sent, hq]
    rw [e1, e2]
    refine ⟨rfl, ?_, ?_⟩
    · exact h.pushed hC hq (by rw [setChan_other _ _ _ _ _ _ _ _ _ h.ne]; exact Below.heap_alloc w _ D hlt) ⟨s + 1, r, by rw [heap_setChan _ _ _ _ _ _ _ _ (by simp; omega)]; simp⟩
    · exact ((Kept.refl (fun k => k = K) w).alloc _).chan (c := K) rfl _ _ _ _ _ _
  · refine nwp_comm_lit (cases := #[scase K (.agg C) (.agg Z28)]) (blocking := false) (shape := .select) (w₁ := w.alloc (.cells C 28)) rfl (by simp [go_sem, execOp, scase, Act.eval, Z28]) (fun fr cs es hst => step_lone_select_send_full hst hc1 (by simpa using hq)) ?_
    simp only [Act.put, List.setIfInBounds_toArray, List.set_cons_succ, List.set_cons_zero]
    go_wp2_with fail
    refine nwp_of_wp ?_
    go_wp2_with fail
    go_ret
    have e1 : room q = false := by simp [room, hq]
    have e2 : sent q C = q := by simp [sent, hq]
    rw [e1, e2]
    exact ⟨rfl, h.kept (S := fun _ => False) ((Kept.refl _ w).alloc _) id id, (Kept.refl _ w).alloc _⟩

theorem f_nilSend (C : Array Value) (w : World) (hC : Callish C) :
    Calls Try.prog 11 #[.pointer none, .agg C] w fun e w' => e = .returned (.bool false) ∧ Kept (fun _ => False) w w' := by
  have hsz := hC.size
  go_enter Try.func11, Try.ntmps11
  go_wp2_with fail
  go_ret
  exact ⟨rfl, (Kept.refl _ w).alloc _⟩

theorem f_nilLen (w : World) : Calls Try.prog 15 #[.pointer none] w fun e w' => e = .returned (.int .i64 0) ∧ w = w' := by
  go_enter Try.func15, Try.ntmps15
  go_wp2_with fail
  go_ret
  exact ⟨rfl, rfl⟩

theorem f_len (base D K : Nat) (q : List (Array Value)) (w : World) (h : IsPost w base D K q) :
    Calls Try.prog 15 #[.pointer (some ⟨D, 0, none⟩)] w fun e w' => e = .returned (.int .i64 q.length) ∧ w = w' := by
  have q0 := h.c0
  obtain ⟨s, r, hc⟩ := h.chan
  have hlen : (Builtin.len_ #[44] 3 #[.chan (some K)]).run Try.prog w = .ok (.int .i64 q.length) w := by
    rw [run_len_chan 44 3 Try.underlying44 hc]; simp [goInt]
  clear h hc
  go_enter Try.func15, Try.ntmps15
  go_wp2_with fail
  go_ret
  exact ⟨rfl, rfl⟩

theorem Try.iby28 : (Try.prog.info? 28).map (fun i => decide (i.bytes ≤ 200)) = some true := by kernel_rfl
theorem mk44 (w : World) : (Instr.makeChan 44 (.int .i64 24)).run Try.prog w = .ok (.chan (some w.heap.size)) (w.alloc (.chan 24 #[] false 0 0 false)) := by
  have hb := Try.iby28
  cases hi : Try.prog.info? 28 with
  | none => rw [hi] at hb; cases hb
  | some i =>
    have hb : i.bytes ≤ 200 := by simpa [hi] using hb
    simpa using run_makeChan (P := Try.prog) (w := w) Try.underlying44 hi .i64 24 (by omega) (by omega)

theorem f_new (w : World) :
    Calls Try.prog 16 #[] w fun e w' => e = .returned (.pointer (some ⟨w.heap.size + 1, 0, none⟩)) ∧ IsPost w' w.heap.size (w.heap.size + 1) w.heap.size [] ∧ Kept (fun _ => False) w w' := by
  have hm := mk44
  go_enter Try.func16, Try.ntmps16
  go_wp2_with fail
  go_ret
  have hk := ((Kept.refl (fun _ => False) w).alloc (.chan 24 #[] false 0 0 false)).alloc (.cells #[.chan (some w.heap.size)] 46)
  refine ⟨rfl, ⟨heap_alloc2_new _ _ _, ⟨0, 0, heap_alloc2_old _ _ _⟩, by omega, Nat.le_refl _, by simp, by simp⟩, hk⟩

theorem Kept.setRow {S : Nat → Prop} {a w : World} (h : Kept S a w) {g : Nat} (hg : a.heap.size ≤ g) (c : Array Value) : Kept S a (w.setRow g c) :=
  ⟨h.os, h.tape, h.output, by simpa [World.setRow] using h.size, fun k hk hs => (setRow_other w g k c (by omega)).trans (h.block k hk hs)⟩
/-- The two results of Next. -/
theorem results_next {fn : Func} {p t : Tmp} (h : fn.results = #[.cell p 28, .tmp t]) (tmps : Array Value) (w : World) (g : Nat) {C : Array Value} {ty : TypeId} {fr : Nat × Nat} {v : Value}
    (hg : w.heap[g]? = some (.cells C ty fr)) (hC : C.size = 41) (hp : tmps.getD p undef = .pointer (some ⟨g, 0, none⟩)) (hv : tmps.getD t undef = v := by rfl) :
    (results fn tmps).run Try.prog w = .ok (.tuple #[.agg C, v]) w := by
  have hp' : tmps[p]?.getD undef = .pointer (some ⟨g, 0, none⟩) := by simpa using hp
  have hv' : tmps[t]?.getD undef = v := by simpa using hv
  simp [results, h, hp', hv', asAddr, run_loadVar_row (P := Try.prog) w g ty 28 C fr _ hg Try.underlying28 rfl (by rw [Try.isz28, hC])]

theorem Z28_lits : (Try.prog.keyLits 3 28 Z28.toList).isSome = true := by kernel_rfl
theorem Z28_callish : Callish Z28 := ⟨rfl, by simp [Z28, Value.oneCell'], Option.isSome_iff_exists.1 Z28_lits⟩

/-- What Next hands over, and what is left. -/
def firstOf (q : List (Array Value)) : Array Value := q.headD Z28
def some1 (q : List (Array Value)) : Bool := !q.isEmpty

set_option maxHeartbeats 4000000 in
theorem f_next (base D K : Nat) (q : List (Array Value)) (w : World) (h : IsPost w base D K q) (_hB : base ≤ w.heap.size) :
    Calls Try.prog 10 #[.pointer (some ⟨D, 0, none⟩)] w fun e w' => e = .returned (.tuple #[.agg (firstOf q), .bool (some1 q)]) ∧
      IsPost w' base D K q.tail ∧ Kept (fun k => k = K) w w' := by
  refine calls_of_nwp Try.func10 rfl ?_
  simp only [Try.ntmps10, List.size_toArray, List.length_cons, List.length_nil, Nat.reduceAdd, Nat.reduceSub, Array.replicate_succ,
     Array.replicate_zero, List.push_toArray, List.append_toArray, List.nil_append, List.cons_append]
  have q0 := h.c0
  have hlt := h.lt
  have hltK := h.ltK
  refine nwp_seq_plain (fun K1 hK1 => ?_)
  go_wp2_with (with_reducible refine alloc28 ?_)
  refine nwp_seq_plain (fun K2 hK2 => ?_)
  go_wp2_with fail
  refine nwp_seq_plain (fun K3 hK3 => ?_)
  go_wp2_with fail
  refine nwp_seq ?_
  obtain ⟨s, r, hc⟩ := h.chan
  have hc1 : (w.alloc (.cells Z28 28)).heap[K]? = _ := (Below.heap_alloc w _ K hltK).trans hc
  have hn1 := heap_alloc_new w (.cells Z28 28)
  cases q with
  | nil =>
    simp only [List.map_nil] at hc1
    refine nwp_comm_lit (cases := #[rcase K (.agg Z28)]) (blocking := false) (shape := .select) (w₁ := w.alloc (.cells Z28 28)) rfl (by simp [go_sem, execOp, rcase, Act.eval, Z28]) (fun fr cs es hst => step_lone_select_default hst hc1) ?_
    simp only [Act.put, List.setIfInBounds_toArray, List.set_cons_succ, List.set_cons_zero]
    go_wp2_with fail
    refine nwp_of_wp ?_
    go_wp2_with (first | (with_reducible refine build28 ?_) | ((with_reducible refine store28 (C := Z28) ?_ ?_ hn1 rfl Z28_callish ?_); rfl; rfl))
    refine bodyPost_ret (results_next rfl _ _ _ (setRow_heap _ _ _ _ _ _ hn1) rfl rfl) rfl ⟨rfl, ?_, ?_⟩
    · exact h.kept (S := fun _ => False) (((Kept.refl _ w).alloc _).setRow (Nat.le_refl _) _) id id
    · exact ((Kept.refl _ w).alloc _).setRow (Nat.le_refl _) _
  | cons C q =>
    refine nwp_comm_lit (cases := #[rcase K (.agg Z28)]) (blocking := false) (shape := .select) (w₁ := w.alloc (.cells Z28 28)) rfl (by simp [go_sem, execOp, rcase, Act.eval, Z28]) (fun fr cs es hst => step_lone_select_recv_buf hst hc1 (by simp)) ?_
    simp only [Act.put, List.setIfInBounds_toArray, List.set_cons_succ, List.set_cons_zero]
    go_wp2_with fail
    refine nwp_of_wp ?_
    have hval : (List.map Value.agg (C :: q)).toArray.getD 0 undef = .agg C := by simp
    have hch : ((w.alloc (.cells Z28 28)).setChan K 24 (List.take q.length (List.map Value.agg q)).toArray false s (r + 1) false).heap[K]? = some (.chan 24 (q.map Value.agg).toArray false s (r + 1) false) := by
      rw [heap_setChan _ _ _ _ _ _ _ _ (by simp; omega), List.take_of_length_le (by simp)]
    have hDW : ((w.alloc (.cells Z28 28)).setChan K 24 (List.take q.length (List.map Value.agg q)).toArray false s (r + 1) false).heap[D]? = w.heap[D]? := by
      rw [setChan_other _ _ _ _ _ _ _ _ _ h.ne]; exact Below.heap_alloc w _ D hlt
    have hn2 : ((w.alloc (.cells Z28 28)).setChan K 24 (List.take q.length (List.map Value.agg q)).toArray false s (r + 1) false).heap[w.heap.size]? = some (.cells Z28 28 (0, 0)) := by
      rw [setChan_other _ _ _ _ _ _ _ _ _ (by omega)]; exact hn1
    have hk2 := ((Kept.refl (fun k => k = K) w).alloc (.cells Z28 28)).chan (c := K) rfl 24 (List.take q.length (List.map Value.agg q)).toArray false s (r + 1) false
    rw [hval]
    generalize (w.alloc (.cells Z28 28)).setChan K 24 (List.take q.length (List.map Value.agg q)).toArray false s (r + 1) false = w2 at hch hDW hn2 hk2 ⊢
    clear hn1 hc1 hval hc
    have hC : Callish C := h.call C (by simp)
    have hnlt : w.heap.size < w2.heap.size := (Array.getElem?_eq_some_iff.1 hn2).1
    have hn3 := heap_alloc_new w2 (.cells Z28 28)
    have hr3 := range_row (setRow_heap _ _ _ C _ _ hn3)
    have hn4 : ((w2.alloc (.cells Z28 28)).setRow w2.heap.size C).heap[w.heap.size]? = some (.cells Z28 28 (0, 0)) := by
      rw [setRow_other _ _ _ _ (by omega), Below.heap_alloc _ _ _ hnlt]; exact hn2
    have hk4 := ((hk2.alloc (.cells Z28 28)).setRow (g := w2.heap.size) (by omega) C).setRow (g := w.heap.size) (Nat.le_refl _) C
    have hfin : IsPost (((w2.alloc (.cells Z28 28)).setRow w2.heap.size C).setRow w.heap.size C) base D K q := by
      refine h.popped ?_ ⟨s, r + 1, ?_⟩
      · rw [setRow_other _ _ _ _ (by omega), setRow_other _ _ _ _ (by omega), Below.heap_alloc _ _ _ (by omega)]; exact hDW
      · rw [setRow_other _ _ _ _ (by omega), setRow_other _ _ _ _ (by omega), Below.heap_alloc _ _ _ (by omega)]; exact hch
    have hrow := setRow_heap _ _ _ C _ _ hn4
    go_wp2_with (first | (with_reducible refine alloc28 ?_) | ((with_reducible refine load28 ?_ hr3 hC.size ?_); rfl) | ((with_reducible refine store28 (C := C) ?_ ?_ hn3 rfl hC ?_); rfl; rfl) | ((with_reducible refine store28 (C := C) ?_ ?_ hn4 rfl hC ?_); rfl; rfl))
    exact bodyPost_ret (results_next rfl _ _ _ hrow hC.size rfl) rfl ⟨rfl, hfin, hk4⟩

theorem f_nilNext (w : World) :
    Calls Try.prog 10 #[.pointer none] w fun e w' => e = .returned (.tuple #[.agg Z28, .bool false]) ∧ Kept (fun _ => False) w w' := by
  have hn1 := heap_alloc_new w (.cells Z28 28)
  go_enter Try.func10, Try.ntmps10
  go_wp2_with (first | (with_reducible refine alloc28 ?_) | (with_reducible refine build28 ?_) | ((with_reducible refine store28 (C := Z28) ?_ ?_ hn1 rfl Z28_callish ?_); rfl; rfl))
  exact bodyPost_ret (results_next rfl _ _ _ (setRow_heap _ _ _ _ _ _ hn1) rfl rfl) rfl ⟨rfl, ((Kept.refl _ w).alloc _).setRow (Nat.le_refl _) _⟩
end Go.Proofs.Ytohoeakhnnojjaa
