/-
  Books, in plain Lean and in memory; lists of great elements; the contract of slices.Clone of sagas. Conditions: as each theorem says.
  Steps of books' functions: loads, stores, results; the contract of the saga's Go whole; rotate. Conditions: as each theorem says.
-/
import Derived.Test.YtklmhegmombegaaDoorNew
import Derived.Test.YtklmhegmombegaaDoorRecE
import Derived.Test.YtklmhegmombegaaDoorPlain
set_option linter.unusedVariables false
set_option linter.unusedSimpArgs false
namespace Go.Proofs.YtklmhegmombegaaDoor.Re
open Go Go.RowKit Go.Proofs.YtklmhegmombegaaDoor.Re.Plain Go.Proofs.YtklmhegmombegaaDoor
namespace Plain
/-- What it says of a call. -/
def Rx.rc (x : Rx) : Rc := ⟨x.kind, x.seq, x.step, x.tr, x.bk, x.good, x.nd⟩
end Plain
theorem RecIn.recish {w : World} {C : Array Value} {x : Rx} (h : RecIn w C x) : Recish C x.rc := ⟨h.size, h.one, h.c0, h.c2, h.c3, h.c4, h.c5, h.c6, h.c7⟩

/-! ## Lists of elements of s cells each -/
section
variable {α : Type} {f : α → List Value} {s : Nat}
theorem flat_len : ∀ (l : List α), (∀ x ∈ l, (f x).length = s) → (l.flatMap f).length = l.length * s := by
  intro l
  induction l with
  | nil => intro _; simp
  | cons x l ih =>
    intro h
    rw [List.flatMap_cons, List.length_append, ih (fun y hy => h y (List.mem_cons_of_mem _ hy)), h x (List.mem_cons_self ..), List.length_cons, Nat.succ_mul, Nat.add_comm]
theorem flat_get (hs : 0 < s) : ∀ (l : List α), (∀ x ∈ l, (f x).length = s) → ∀ k, (l.flatMap f)[k]? = (l[k / s]?).bind fun x => (f x)[k % s]? := by
  intro l
  induction l with
  | nil => intro _ k; simp
  | cons x l ih =>
    intro h k
    have hx := h x (List.mem_cons_self ..)
    rw [List.flatMap_cons]
    by_cases hk : k < s
    · rw [List.getElem?_append_left (by omega), Nat.div_eq_of_lt hk, Nat.mod_eq_of_lt hk]; rfl
    · have e1 : k / s = (k - s) / s + 1 := Nat.div_eq_sub_div hs (by omega)
      have e2 : k % s = (k - s) % s := Nat.mod_eq_sub_mod (by omega)
      rw [List.getElem?_append_right (by omega), hx, ih (fun y hy => h y (List.mem_cons_of_mem _ hy)), e1, e2, List.getElem?_cons_succ]
/-- The element at i, in memory. -/
theorem _root_.Go.Proofs.YtklmhegmombegaaDoor.Rd.elem {w : World} {v : Value} {l : List α} (h : Rd w s v l.length (l.flatMap f)) (hs : 0 < s) (hf : ∀ x ∈ l, (f x).length = s) {i : Nat} (hi : i < l.length) :
    ∃ b o c, v = .slice (some ⟨b, o, none⟩) l.length c ∧ w.rangeAt b (o + i * s) (f l[i]) := by
  obtain ⟨b, o, c, e, hc⟩ := h.addr (Nat.mul_pos (by omega) hs)
  refine ⟨b, o, c, e, fun j u hu => ?_⟩
  have hj : j < s := by have := (List.getElem?_eq_some_iff.1 hu).1; rwa [hf _ (List.getElem_mem _)] at this
  have hg : (l.flatMap f)[i * s + j]? = some u := by
    rw [flat_get hs l hf]
    have e1 : (i * s + j) / s = i := by rw [Nat.add_comm, Nat.add_mul_div_right _ _ hs, Nat.div_eq_of_lt hj, Nat.zero_add]
    have e2 : (i * s + j) % s = j := by rw [Nat.add_comm, Nat.add_mul_mod_self_right, Nat.mod_eq_of_lt hj]
    rw [e1, e2, List.getElem?_eq_getElem hi]; exact hu
  have := hc _ _ hg
  rwa [← Nat.add_assoc] at this
/-- One element is written over. -/
theorem flat_set (hs : 0 < s) {l : List α} (hf : ∀ x ∈ l, (f x).length = s) {i : Nat} {y : α} (hy : (f y).length = s) (hi : i < l.length) (cur : Array Value) (hc : cur.toList.take (l.length * s) = l.flatMap f) (hsz : l.length * s ≤ cur.size) :
    (puts cur (i * s) (f y)).toList.take (l.length * s) = (l.set i y).flatMap f := by
  have hf' : ∀ x ∈ l.set i y, (f x).length = s := fun x hx => by
    rcases List.mem_or_eq_of_mem_set hx with h | h
    · exact hf x h
    · rw [h]; exact hy
  have hle : (i + 1) * s ≤ l.length * s := Nat.mul_le_mul_right _ hi
  rw [Nat.succ_mul] at hle
  apply List.ext_getElem?
  intro k
  rw [flat_get hs _ hf', List.getElem?_take]
  by_cases hk : k < l.length * s
  · rw [if_pos hk, Array.getElem?_toList]
    have hold : cur[k]? = (l[k / s]?).bind fun x => (f x)[k % s]? := by
      have h0 := congrArg (fun (z : List Value) => z[k]?) hc
      simp only [List.getElem?_take, if_pos hk, Array.getElem?_toList] at h0
      rw [h0, flat_get hs l hf]
    have hmod := Nat.mod_lt k hs
    have hdm := Nat.div_add_mod k s
    by_cases e : k / s = i
    · have hk2 : k = i * s + k % s := by rw [← e, Nat.mul_comm]; omega
      have : (puts cur (i * s) (f y))[k]? = (f y)[k % s]? := by
        have h1 : k % s < (f y).length := by rw [hy]; exact hmod
        have h2 := puts_in (f y) cur (i * s) (by rw [hy]; omega) (k % s) ((f y)[k % s]'h1) (List.getElem?_eq_getElem h1)
        rw [List.getElem?_eq_getElem h1, ← h2, ← hk2]
      rw [this, e, List.getElem?_set_self hi]; rfl
    · have hout : k < i * s ∨ i * s + (f y).length ≤ k := by
        rw [hy]
        rcases Nat.lt_or_gt_of_ne e with h | h
        · left
          have : (k / s + 1) * s ≤ i * s := Nat.mul_le_mul_right _ h
          rw [Nat.succ_mul, Nat.mul_comm] at this
          omega
        · right
          have : (i + 1) * s ≤ k / s * s := Nat.mul_le_mul_right _ h
          rw [Nat.succ_mul, Nat.mul_comm (k / s)] at this
          omega
      rw [puts_out _ _ _ _ hout, hold, List.getElem?_set_ne (Ne.symm e)]
  · rw [if_neg hk]
    have : (l.set i y)[k / s]? = none := by
      rw [List.getElem?_eq_none]
      rw [List.length_set, Nat.le_div_iff_mul_le hs]; omega
    rw [this]; rfl
end

/-! ## Books -/
namespace Plain
/-- A book: the participants' epochs, its sagas. -/
structure Bk where
  ep : Nat → Int
  sagas : List Sg
def Bk.zero : Bk := ⟨fun _ => 0, []⟩
end Plain
def bkC (ep : Nat → Int) (sv : Value) : Array Value := #[.int .i64 (ep 0), .int .i64 (ep 1), .int .i64 (ep 2), .int .i64 (ep 3), sv]
def fsg (p : Sg × Value) : List Value := (sgC p.1 p.2).toList
theorem fsg_len (p : Sg × Value) : (fsg p).length = 10 := rfl
/-- What blocks a book's value owns. -/
def Own (sv : Value) (ss : List (Sg × Value)) (k : Nat) : Prop := sv.ownBlock = some k ∨ ∃ p ∈ ss, p.2.ownBlock = some k
/-- sv holds the sagas ss (each with its steps' value). -/
structure BkIn (w : World) (sv : Value) (ss : List (Sg × Value)) : Prop where
  rd : Rd w 10 sv ss.length (ss.flatMap fsg)
  len : ss.length ≤ 1000
  st : ∀ p ∈ ss, Stp w p.2 p.1.steps
  lt : ∀ k, sv.ownBlock = some k → k < w.heap.size
theorem BkIn.own {w : World} {sv : Value} {ss : List (Sg × Value)} (h : BkIn w sv ss) : ∀ k, Own sv ss k → k < w.heap.size := fun k hk => by
  rcases hk with hk | ⟨p, hp, hk⟩
  · exact h.lt k hk
  · exact (h.st p hp).lt k hk
theorem BkIn.keep {w w' : World} {sv : Value} {ss : List (Sg × Value)} {S : Nat → Prop} (h : BkIn w sv ss) (k : Kept S w w') (hs : ∀ i, Own sv ss i → ¬ S i) : BkIn w' sv ss :=
  ⟨h.rd.kept k (fun i e => hs i (.inl e)), h.len, fun p hp => ⟨(h.st p hp).rd.kept k (fun i e => hs i (.inr ⟨p, hp, e⟩)), fun i e => Nat.lt_of_lt_of_le ((h.st p hp).lt i e) k.size⟩, fun i e => Nat.lt_of_lt_of_le (h.lt i e) k.size⟩
theorem BkIn.kept {w w' : World} {sv : Value} {ss : List (Sg × Value)} (h : BkIn w sv ss) (k : Kept (fun _ => False) w w') : BkIn w' sv ss := h.keep k (fun _ _ h => h)
theorem BkIn.nil (w : World) : BkIn w (.slice none 0 0) [] := ⟨⟨rfl, none, 0, rfl, .inl ⟨rfl, rfl, rfl⟩⟩, by simp, by simp, fun k e => by cases e⟩
theorem BkIn.form {w : World} {sv : Value} {ss : List (Sg × Value)} (h : BkIn w sv ss) : ∃ a c, sv = .slice a ss.length c := by obtain ⟨_, a, c, e, _⟩ := h.rd; exact ⟨a, c, e⟩
theorem _root_.Go.Proofs.YtklmhegmombegaaDoor.Buf.bkIn {w : World} {base : Nat} {sv : Value} {ss : List (Sg × Value)} (h : Buf w base 133 10 sv ss.length (ss.flatMap fsg)) (hl : ss.length ≤ 1000) (hst : ∀ p ∈ ss, Stp w p.2 p.1.steps) : BkIn w sv ss := ⟨h.rd, hl, hst, fun k e => (h.lt k e).2⟩

theorem Tryd.ifull133 : (Tryd.prog.info? 133).map (fun i => (i.size, i.bytes, i.zero.map (·.cells.size))) = some (10, 88, some 10) := by kernel_rfl
theorem info133' : ∃ i z, Tryd.prog.info? 133 = some i ∧ i.size = 10 ∧ i.bytes = 88 ∧ i.zero = some z ∧ z.cells.size = 10 := by
  obtain ⟨i, hi, hb⟩ := Option.map_eq_some_iff.1 Tryd.ifull133
  simp only [Prod.mk.injEq] at hb
  obtain ⟨z, hz, hz2⟩ := Option.map_eq_some_iff.1 hb.2.2
  exact ⟨i, z, hi, hb.1, hb.2.1, hz, hz2⟩
theorem oneCell_flat10 {w : World} {l : List (Sg × Value)} (h : ∀ p ∈ l, Stp w p.2 p.1.steps) : ∀ u ∈ l.flatMap fsg, u.oneCell' = true := by
  intro u hu
  obtain ⟨p, hp, hu⟩ := List.mem_flatMap.1 hu
  obtain ⟨a, c, e⟩ := (h p hp).form
  have := sgC_one p.1 a p.1.steps.length c
  rw [← e] at this
  exact (Array.all_eq_true_iff_forall_mem.1 this) u (by simpa [fsg] using hu)
/-- Sagas are handed back, in new memory. -/
def CgPost (ss : List (Sg × Value)) (w : World) (e : Ending) (w' : World) : Prop := ∃ v, e = .returned v ∧ Buf w' w.heap.size 133 10 v ss.length (ss.flatMap fsg) ∧ Kept (fun _ => False) w w'
set_option maxRecDepth 100000 in
set_option maxHeartbeats 1000000 in
theorem f_cloneS (v : Value) (ss : List (Sg × Value)) (w : World) (hs : BkIn w v ss) : Calls Tryd.prog 137 #[v] w (CgPost ss w) := by
  obtain ⟨i, z, hi, hsz, hby, hz, hzs⟩ := info133'
  obtain ⟨a, c, rfl⟩ := hs.form
  have hlen := hs.len
  cases a with
  | none =>
    have h0 : ss.length = 0 ∧ c = 0 := by
      obtain ⟨_, a', c', e, h⟩ := hs.rd
      injection e with e1 e2 e3
      subst e1; subst e3
      rcases h with h | ⟨ad, h, _⟩
      · exact ⟨h.2.1, h.2.2⟩
      · cases h
    obtain ⟨h0, rfl⟩ := h0
    obtain rfl := List.eq_nil_of_length_eq_zero h0
    have hnil := fun w' (a : Option Addr) (n c : Nat) => Lib.run_eql_slice_nil (P := Tryd.prog) w' 86 133 a n c 0 0 Tryd.underlying86
    clear hs h0
    go_enter Tryd.func137, Tryd.ntmps137
    go_wp2_with fail
    go_ret
    exact ⟨_, rfl, Buf.nil _ _ _ _, Kept.refl _ _⟩
  | some ad =>
    have hnil := fun w' (a : Option Addr) (n c : Nat) => Lib.run_eql_slice_nil (P := Tryd.prog) w' 86 133 a n c 0 0 Tryd.underlying86
    have hn1 := heap_alloc_new w (.cells #[] 133)
    have hb1 : Buf (w.alloc (.cells #[] 133)) w.heap.size 133 10 (.slice (some ⟨w.heap.size, 0, none⟩) 0 0) 0 [] := ⟨rfl, .inr ⟨w.heap.size, 0, #[], rfl, Nat.le_refl _, hn1, Nat.le_refl _, by decide, by simp, rfl⟩⟩
    have hsrc : Src Tryd.prog 10 86 (.slice (some ad) ss.length c) ss.length (ss.flatMap fsg) (w.alloc (.cells #[] 133)) := (hs.rd.alloc _).src Tryd.underlying86 (oneCell_flat10 hs.st)
    have HB := Lib.hid hb1
    have HSR := Lib.hid hsrc
    clear hs hn1 hb1 hsrc
    go_enter Tryd.func137, Tryd.ntmps137
    go_wp2_with (first | fail | (at_builtin; refine wpList_append_buf _ rfl (.tmp 5) (.tmp 6) 86 86 rfl w.heap.size 133 i z 10 88 Tryd.underlying86 hi hz hsz hby hzs (by decide) (.slice (some ⟨w.heap.size, 0, none⟩) 0 0) 0 [] rfl HB.out _ _ _ rfl HSR.out (by unfold maxLen; omega) (by omega) (by simp) ?_; intro v' w' hb' hg' ho' hn'; have HB2 := Lib.hid hb'; have HG2 := Lib.hid hg'; clear hb' hg' ho' hn'))
    go_ret
    exact ⟨_, rfl, by simpa using HB2.out, ((Kept.refl _ w).alloc _).grown HG2.out (fun k hk => .inr (by cases hk; exact Nat.le_refl _))⟩
end Go.Proofs.YtklmhegmombegaaDoor.Re
namespace Go.Proofs.YtklmhegmombegaaDoor.Re
open Go Go.RowKit Go.Proofs.YtklmhegmombegaaDoor.Re.Plain Go.Proofs.YtklmhegmombegaaDoor

namespace Plain
/-- A saga that has come to be by records. -/
def GoodS (lim : Nat) (s : Sg) : Prop := ∃ n, mayB s.steps = true ∧ Inv s.steps lim n s
/-- The saga behind a record, or as it was. -/
def goR (s : Sg) (x : Rc) (lim : Nat) : Sg × Bool := match go s x lim with
  | some t => (t, true)
  | none => (s, false)
theorem Inv.go {l : List (Int × Int)} {lim n : Nat} {s t : Sg} {x : Rc} (h : Inv l lim n s) (hl : mayB l = true) (hg : Plain.go s x lim = some t) : Inv l lim (n + 1) t := by
  unfold Plain.go at hg
  split at hg
  · cases hg
  rename_i hn
  have ho : over s = false := by
    cases h : over s with
    | false => rfl
    | true => exact absurd (.inr (.inr h)) hn
  split at hg
  · split at hg
    · rename_i k2 hd
      cases hg
      obtain ⟨hw, _, _, hc⟩ := due_cases hd
      rcases hc with hc | hc | hc | hc
      · have := congrArg Du.kind hc.2.2; have k2' : (told x).kind = 2 := k2; rw [this] at k2'; cases k2'
      · have := congrArg Du.kind hc.2.2; have k2' : (told x).kind = 2 := k2; rw [this] at k2'; cases k2'
      · rw [hc.2.2]; exact h.sent hw ho (by omega) (by omega)
      · have := congrArg Du.kind hc.2.2; have k2' : (told x).kind = 2 := k2; rw [this] at k2'; cases k2'
    · cases hg
  split at hg
  · split at hg
    · rename_i k5 hd
      cases hg
      exact h.ended hl hd (by show ¬ x.kind = 2; omega)
    · cases hg
  split at hg
  · split at hg
    · cases hg
    rename_i hw
    have hw' : s.wait = true := by
      cases hh : s.wait with
      | true => rfl
      | false => exact absurd (.inl hh) hw
    split at hg
    · cases hg; exact h.answered hl ho hw' _
    · cases hg; exact h.lapsed hl ho hw'
  · cases hg
theorem go_steps {s t : Sg} {x : Rc} {lim : Nat} (hg : Plain.go s x lim = some t) : t.steps = s.steps := by
  unfold Plain.go at hg
  split at hg
  · cases hg
  split at hg
  · split at hg
    · cases hg; rfl
    · cases hg
  split at hg
  · split at hg
    · cases hg; rfl
    · cases hg
  split at hg
  · split at hg
    · cases hg
    split at hg
    · cases hg
      unfold answered
      split
      · split <;> rfl
      · split
        · rfl
        · split <;> rfl
    · cases hg
      unfold lapsed
      split
      · rfl
      · split <;> rfl
  · cases hg
theorem go_seq {s t : Sg} {x : Rc} {lim : Nat} (hg : Plain.go s x lim = some t) : x.seq = s.seq ∧ t.seq = s.seq + 1 := by
  unfold Plain.go at hg
  split at hg
  · cases hg
  rename_i hn
  refine ⟨by
    have := fun h => hn (.inl h)
    exact Decidable.not_not.1 this, ?_⟩
  split at hg
  · split at hg
    · cases hg; rfl
    · cases hg
  split at hg
  · split at hg
    · cases hg; rfl
    · cases hg
  split at hg
  · split at hg
    · cases hg
    split at hg
    · cases hg
      unfold answered
      split
      · split <;> rfl
      · split
        · rfl
        · split <;> rfl
    · cases hg
      unfold lapsed
      split
      · rfl
      · split <;> rfl
  · cases hg
theorem GoodS.go {lim : Nat} {s t : Sg} {x : Rc} (h : GoodS lim s) (hg : Plain.go s x lim = some t) : GoodS lim t := by
  obtain ⟨n, h1, h2⟩ := h
  refine ⟨n + 1, ?_, ?_⟩
  · rw [go_steps hg]; exact h1
  · rw [go_steps hg]; exact h2.go h1 hg
theorem GoodS.new {lim : Nat} {l : List (Int × Int)} (h : mayB l = true) : GoodS lim (new l) := ⟨0, h, Inv.new h⟩
theorem goR_steps (s : Sg) (x : Rc) (lim : Nat) : (goR s x lim).1.steps = s.steps := by
  unfold goR
  split
  · rename_i h; exact go_steps h
  · rfl
end Plain
/-- The saga's Go, whatever the record. -/
theorem f_goAny (s : Sg) (v : Value) (C : Array Value) (x : Rc) (lim : Nat) (w : World) (hC : Recish C x) (hg : GoodS lim s) (hs : Stp w v s.steps) (h1 : 1 ≤ lim) (h9 : lim ≤ 9) :
    Calls Tryd.prog 139 #[.agg (sgC s v), .agg C, .int .i64 lim] w fun e w' => e = .returned (.tuple #[.agg (sgC (goR s x lim).1 v), .bool (goR s x lim).2]) ∧ Kept (fun _ => False) w w' := by
  obtain ⟨n, hl, hi⟩ := hg
  have ok := hi.okay hl h9
  have hsq := hi.seq
  have hn := Nat.le_trans (hi.le hl) (most_le hl h9)
  have h0 := ne_nil hl
  have H : Calls Tryd.prog 139 #[.agg (sgC s v), .agg C, .int .i64 lim] w (GoPost s v x lim w) := by
    by_cases hq : x.seq = s.seq
    · cases ho : over s with
      | true => exact f_go_no s v C x lim w hC hs (.inr (.inr ho))
      | false => exact f_go_yes s v C x lim w hC ok hs h1 h9 hq h0 ho (fun hw => (hi.step_wait ho hw).1) (by omega)
    · exact f_go_no s v C x lim w hC hs (.inl hq)
  refine H.mono ?_
  rintro e w' ⟨rfl, k⟩
  refine ⟨?_, k⟩
  unfold goR
  cases go s x lim <;> rfl

/-! ## The cells of a book -/
theorem Tryd.isz88 : (Tryd.prog.info? 88).map (·.size) = some 5 := by kernel_rfl
def Z88 : Array Value := bkC (fun _ => 0) (.slice none 0 0)
theorem bkC_size (ep : Nat → Int) (sv : Value) : (bkC ep sv).size = 5 := rfl
theorem bkC_one (ep : Nat → Int) (a : Option Addr) (n c : Nat) : (bkC ep (.slice a n c)).all (·.oneCell') = true := by simp [bkC, Value.oneCell']
section
variable {ops : Array Oper} {rest : List Oper} {dst : Option Tmp} {ty : TypeId} {pos : String} {aft : Array Edge} {gd : Option (Nat × Bool)} {a : Act} {w : World} {S : World → Prop} {Q : Exit → Act → World → Prop} {K : Act → World → Prop} {E : Prop} {x y : Operand} {g o : Nat} {C : Array Value}
theorem load88 (hx : a.eval x = .pointer (some ⟨g, 0, none⟩)) (hg : w.heap[g]? = some (.cells C 88 (0, 0))) (hC : C.size = 5)
    (h : wpList Tryd.prog ops Q rest (a.put dst (.agg C)) w) : wpList Tryd.prog ops Q (⟨dst, .load 88 x, ty, pos, aft, none⟩ :: rest) a w := by
  have := wpList_load_mid (P := Tryd.prog) (ops := ops) (rest := rest) (op := ⟨dst, .load 88 x, ty, pos, aft, none⟩) (a := a) (w := w) (Q := Q) rfl 88 x rfl g 0 hx C.toList _ (range_row hg) Tryd.underlying88 rfl (by rw [Tryd.isz88]; simp [hC])
  simp only [Array.toArray_toList] at this
  exact this h
theorem store88 {old : Array Value} {t : TypeId} (hx : a.eval x = .pointer (some ⟨g, 0, none⟩)) (hy : a.eval y = .agg C) (hg : w.heap[g]? = some (.cells old t (0, 0))) (ho : old.size = 5) (hC : C.size = 5) (h1 : C.all (·.oneCell') = true)
    (h : wpList Tryd.prog ops Q rest (a.put dst undef) (w.setRow g C)) : wpList Tryd.prog ops Q (⟨dst, .store 88 x y, ty, pos, aft, none⟩ :: rest) a w :=
  wpList_store_row (P := Tryd.prog) (o := ⟨dst, .store 88 x y, ty, pos, aft, none⟩) rfl 88 x y rfl g C hx hy t old hg (by rw [Tryd.isz88, hC]) (by rw [ho, hC]) h1 h
theorem alloc88 (h : wpList Tryd.prog ops Q rest (a.put dst (.pointer (some ⟨w.heap.size, 0, none⟩))) (w.alloc (.cells Z88 88))) : wpList Tryd.prog ops Q (⟨dst, .alloc 88, ty, pos, aft, none⟩ :: rest) a w := by
  refine wpList_plain rfl fun K hK => ?_
  go_simp
  exact hK _ _ h
theorem yields88 (hw : Region.wanted ⟨dst, .load 88 x, ty, pos, aft, gd⟩ (yielded ops a.tmps) = true) (hx : a.eval x = .pointer (some ⟨g, 0, none⟩)) (hg : ∀ w, S w → w.heap[g]? = some (.cells C 88 (0, 0))) (hC : C.size = 5) :
    YieldsIf Tryd.prog ops S ⟨dst, .load 88 x, ty, pos, aft, gd⟩ (.agg C) a := by
  refine .inl ⟨hw, fun w hS => ?_⟩
  have hl := run_loadAt_mid (P := Tryd.prog) w g 0 88 C.toList _ (range_row (hg w hS)) Tryd.underlying88 rfl (by rw [Tryd.isz88]; simp [hC])
  rw [Array.toArray_toList] at hl
  unfold execOp
  simp only [hx, Sem.run_bind, hl, Result.andThen_ok, Sem.run_pure]
theorem yields133o (hw : Region.wanted ⟨dst, .load 133 x, ty, pos, aft, gd⟩ (yielded ops a.tmps) = true) (hx : a.eval x = .pointer (some ⟨g, o, none⟩)) (hg : ∀ w, S w → w.rangeAt g o C.toList) (hC : C.size = 10) :
    YieldsIf Tryd.prog ops S ⟨dst, .load 133 x, ty, pos, aft, gd⟩ (.agg C) a := by
  refine .inl ⟨hw, fun w hS => ?_⟩
  have hl := run_loadAt_mid (P := Tryd.prog) w g o 133 C.toList _ (hg w hS) Tryd.underlying133 rfl (by rw [Tryd.isz133]; simp [hC])
  rw [Array.toArray_toList] at hl
  unfold execOp
  simp only [hx, Sem.run_bind, hl, Result.andThen_ok, Sem.run_pure]
/-- A saga's variable is made, in a region that draws its order. -/
theorem step_alloc133 (hw : Region.wanted ⟨dst, .alloc 133, ty, pos, aft, gd⟩ (yielded ops a.tmps) = true) (h : K (a.put dst (.pointer (some ⟨w.heap.size, 0, none⟩))) (w.alloc (.cells Z133 133))) :
    if Region.wanted ⟨dst, .alloc 133, ty, pos, aft, gd⟩ (yielded ops a.tmps) = true then Oper.wp Tryd.prog ⟨dst, .alloc 133, ty, pos, aft, gd⟩ a w K Q else E := by
  rw [if_pos hw]
  go_simp
  exact h
/-- A saga is written, in a region that draws its order. -/
theorem step_store133 {cur : Array Value} {t : TypeId} (hw : Region.wanted ⟨dst, .store 133 x y, ty, pos, aft, gd⟩ (yielded ops a.tmps) = true) (hx : a.eval x = .pointer (some ⟨g, o, none⟩)) (hy : a.eval y = .agg C) (hC : C.size = 10) (h1 : C.all (·.oneCell') = true) (hg : w.heap[g]? = some (.cells cur t (0, 0))) (ho : o + 10 ≤ cur.size)
    (h : ∀ w', w'.heap[g]? = some (.cells (puts cur o C.toList) t (0, 0)) → Kept (fun i => i = g) w w' → K (a.put dst undef) w') :
    if Region.wanted ⟨dst, .store 133 x y, ty, pos, aft, gd⟩ (yielded ops a.tmps) = true then Oper.wp Tryd.prog ⟨dst, .store 133 x y, ty, pos, aft, gd⟩ a w K Q else E := by
  rw [if_pos hw]
  refine wp_store_mid (P := Tryd.prog) 133 x y rfl g o _ hx hy (fun j hj => ?_) (by rw [Tryd.isz133, hC]) h1 ?_
  · refine ⟨?_, free_of_block hg⟩
    rw [cell_of_block hg (by omega)]; rfl
  · exact h _ (setCells_block _ _ _ _ hg) (setCells_kept _ _ _)
/-- A book is written whole, in a region that draws its order. -/
theorem step_store88 {cur : Array Value} {t : TypeId} (hw : Region.wanted ⟨dst, .store 88 x y, ty, pos, aft, gd⟩ (yielded ops a.tmps) = true) (hx : a.eval x = .pointer (some ⟨g, 0, none⟩)) (hy : a.eval y = .agg C) (hC : C.size = 5) (h1 : C.all (·.oneCell') = true) (hg : w.heap[g]? = some (.cells cur t (0, 0))) (ho : cur.size = 5)
    (h : ∀ w', w'.heap[g]? = some (.cells (puts cur 0 C.toList) t (0, 0)) → Kept (fun i => i = g) w w' → K (a.put dst undef) w') :
    if Region.wanted ⟨dst, .store 88 x y, ty, pos, aft, gd⟩ (yielded ops a.tmps) = true then Oper.wp Tryd.prog ⟨dst, .store 88 x y, ty, pos, aft, gd⟩ a w K Q else E := by
  rw [if_pos hw]
  refine wp_store_mid (P := Tryd.prog) 88 x y rfl g 0 _ hx hy (fun j hj => ?_) (by rw [Tryd.isz88, hC]) h1 ?_
  · refine ⟨?_, free_of_block hg⟩
    rw [cell_of_block hg (by omega)]; rfl
  · exact h _ (setCells_block _ _ _ _ hg) (setCells_kept _ _ _)
end
theorem puts_all {C D : Array Value} (h : C.size = D.size) : puts C 0 D.toList = D := by
  apply Array.ext
  · rw [puts_size, h]
  · intro i h1 h2
    have h3 := puts_in D.toList C 0 (by simp; omega) i D[i] (by simp [h2])
    rw [Nat.zero_add, Array.getElem?_eq_getElem h1] at h3
    exact Option.some.inj h3
theorem results_88 {fn : Func} {p t : Tmp} (h : fn.results = #[.cell p 88, .tmp t]) (tmps : Array Value) (w : World) (g : Nat) {C : Array Value} {ty : TypeId} {fr : Nat × Nat} {v : Value}
    (hg : w.heap[g]? = some (.cells C ty fr)) (hC : C.size = 5) (hp : tmps.getD p undef = .pointer (some ⟨g, 0, none⟩)) (hv : tmps.getD t undef = v := by rfl) :
    (results fn tmps).run Tryd.prog w = .ok (.tuple #[.agg C, v]) w := by
  have hp' : tmps[p]?.getD undef = .pointer (some ⟨g, 0, none⟩) := by simpa using hp
  have hv' : tmps[t]?.getD undef = v := by simpa using hv
  simp [results, h, hp', hv', asAddr, run_loadVar_row (P := Tryd.prog) w g ty 88 C fr _ hg Tryd.underlying88 rfl (by rw [Tryd.isz88, hC])]

/-! ## What a record does to a book -/
/-- A book behind a record, or as it was. -/
def BgPost (r : Option Bk) (b : Bk) (sv : Value) (ss : List (Sg × Value)) (w : World) (e : Ending) (w' : World) : Prop :=
  ∃ sv' ss', e = .returned (.tuple #[.agg (bkC (r.getD b).ep sv'), .bool r.isSome]) ∧ BkIn w' sv' ss' ∧ ss'.map (·.1) = (r.getD b).sagas ∧ (∀ k, Own sv' ss' k → Own sv ss k ∨ w.heap.size ≤ k) ∧ Kept (fun _ => False) w w'
/-- It does not go. -/
theorem BgPost.no {r : Option Bk} {b : Bk} {sv : Value} {ss : List (Sg × Value)} {w w1 : World} (hr : r = none) (hb : ss.map (·.1) = b.sagas) (hB : BkIn w sv ss) (k : Kept (fun _ => False) w w1) (g : Nat) (hg : w.heap.size ≤ g) (C : Array Value) :
    BgPost r b sv ss w (.returned (.tuple #[.agg (bkC b.ep sv), .bool false])) (w1.setRow g C) := by
  subst hr
  exact ⟨sv, ss, rfl, (hB.kept k).keep (S := fun i => i = g) ⟨rfl, rfl, rfl, by simp [World.setRow], fun i _ hs => setRow_other _ _ _ _ hs⟩ (fun i hi e => by have := hB.own i hi; omega), hb, fun k hk => .inl hk, k.setRow hg _⟩
namespace Plain
def brotate (b : Bk) (x : Rx) : Option Bk := if x.epoch = b.ep x.part.toNat + 1 then some { b with ep := fun p => if p = x.part.toNat then x.epoch else b.ep p } else none
end Plain
set_option maxRecDepth 100000 in
set_option maxHeartbeats 4000000 in
theorem f_rotate (b : Bk) (sv : Value) (ss : List (Sg × Value)) (C : Array Value) (x : Rx) (lim : Int) (w : World) (hX : RecIn w C x) (hB : BkIn w sv ss) (hb : ss.map (·.1) = b.sagas) (hp : 0 ≤ x.part ∧ x.part ≤ 3) (hep : ∀ p, 0 ≤ b.ep p ∧ b.ep p ≤ 400) :
    Calls Tryd.prog 127 #[.agg (bkC b.ep sv), .agg C, .int .i64 lim] w (BgPost (brotate b x) b sv ss w) := by
  obtain ⟨g0, g1, g2⟩ := heap_alloc3 w (.cells (bkC b.ep sv) 88) (.cells C 30) (.cells Z88 88)
  have K3 := (((Kept.refl (fun _ => False) w).alloc (.cells (bkC b.ep sv) 88)).alloc (.cells C 30)).alloc (.cells Z88 88)
  obtain ⟨a, c, rfl⟩ := hB.form
  have x8 := row_cell g1 hX.c8
  have x9 := row_cell g1 hX.c9
  have G0 := Lib.hid g0
  have G2 := Lib.hid g2
  have HK := Lib.hid K3
  have HB := Lib.hid hB
  have HBS := Lib.hid hb
  have E : Hid (brotate b x = if x.epoch = b.ep x.part.toNat + 1 then some { b with ep := fun p => if p = x.part.toNat then x.epoch else b.ep p } else none) := rfl
  have hcells : ∀ p : Nat, p < 4 → (((w.alloc (.cells (bkC b.ep (.slice a ss.length c)) 88)).alloc (.cells C 30)).alloc (.cells Z88 88)).cell? ⟨w.heap.size, p, none⟩ = some (.int .i64 (b.ep p)) := fun p hp => row_cell g0 (by
    match p, hp with
    | 0, _ => rfl
    | 1, _ => rfl
    | 2, _ => rfl
    | 3, _ => rfl)
  obtain ⟨p, hpx⟩ : ∃ p : Nat, x.part = p := ⟨x.part.toNat, by omega⟩
  have hp4 : p < 4 := by omega
  rw [hpx] at x8 E
  rw [Int.toNat_natCast] at E
  have xe := hcells p hp4
  have hepp := hep p
  generalize hv : b.ep p = ev at xe hepp E
  clear g0 g1 g2 K3 hX hB hb hcells hp hpx hep
  have hone := Lib.hid (bkC_one b.ep a ss.length c)
  by_cases he : x.epoch = ev + 1
  · have t1 : (x.epoch == ev + 1) = true := by rw [beq_iff_eq]; exact he
    have t2 : (x.epoch != ev + 1) = false := by rw [bne, t1]; rfl
    rw [if_pos he] at E
    have fz := free_of_block (j := p) G0.out
    have EC : Hid ((bkC b.ep (.slice a ss.length c)).setIfInBounds p (.int .i64 x.epoch) = bkC (fun q => if q = p then x.epoch else b.ep q) (.slice a ss.length c)) := by
      show _ = _
      match p, hp4 with
      | 0, _ => rfl
      | 1, _ => rfl
      | 2, _ => rfl
      | 3, _ => rfl
    have wrp : IntKind.i64.wrap (ev + 1) = ev + 1 := by rw [IntKind.wrap_i64]; go_num
    clear he
    go_enter Tryd.func127, Tryd.ntmps127
    go_upto_region 1 with (first | fail | (with_reducible refine alloc88 ?_))
    generalize ((w.alloc (.cells (bkC b.ep (.slice a ss.length c)) 88)).alloc (.cells C 30)).alloc (.cells Z88 88) = w2 at *
    go_quiet (fail)
    go_upto_region 4 with (fail)
    have g4 := setCell_block (w := w2.drewN nq) (k := p) (show (w2.drewN nq).heap[w.heap.size]? = _ from G0.out) (.int .i64 x.epoch)
    have g2 := (setCell_heap_other (w2.drewN nq) ⟨w.heap.size, p, none⟩ (.int .i64 x.epoch) (w.heap.size + 1 + 1) (by show w.heap.size + 1 + 1 ≠ w.heap.size; omega)).trans (show (w2.drewN nq).heap[w.heap.size + 1 + 1]? = _ from G2.out)
    have k4 := (HK.out.drewN nq).setCell (p := ⟨w.heap.size, p, none⟩) (.inr (Nat.le_refl _)) (.int .i64 x.epoch)
    rw [EC.out] at g4
    have one4 := bkC_one (fun q => if q = p then x.epoch else b.ep q) a ss.length c
    have G4 := Lib.hid g4
    have G2' := Lib.hid g2
    have K4 := Lib.hid k4
    have O4 := Lib.hid one4
    clear g4 g2 k4 one4 fz x9 x8 xe
    generalize (w2.drewN nq).setCell _ _ = w3 at *
    go_wp2_with (first | fail | ((with_reducible refine load88 (g := w.heap.size) ?_ G4.out (bkC_size _ _) ?_); rfl) | ((with_reducible refine store88 ?_ ?_ G2'.out rfl (bkC_size _ _) O4.out ?_); rfl; rfl))
    refine bodyPost_ret (results_88 rfl _ _ _ (setRow_heap _ _ _ _ _ _ G2'.out) (bkC_size _ _) rfl) rfl ?_
    refine ⟨.slice a ss.length c, ss, by rw [E.out]; rfl, (HB.out.kept K4.out).keep (S := fun i => i = w.heap.size + 1 + 1) ⟨rfl, rfl, rfl, by simp [World.setRow], fun i _ hs => setRow_other _ _ _ _ hs⟩ (fun i hi e => by have := HB.out.own i hi; omega), by rw [E.out]; exact HBS.out, fun k hk => .inl hk, K4.out.setRow (by omega) _⟩
  · have t1 : (x.epoch == ev + 1) = false := by rw [beq_eq_false_iff_ne]; exact he
    have t2 : (x.epoch != ev + 1) = true := by rw [bne, t1]; rfl
    rw [if_neg he] at E
    have wrp : IntKind.i64.wrap (ev + 1) = ev + 1 := by rw [IntKind.wrap_i64]; go_num
    clear he
    go_enter Tryd.func127, Tryd.ntmps127
    go_upto_region 1 with (first | fail | (with_reducible refine alloc88 ?_))
    generalize ((w.alloc (.cells (bkC b.ep (.slice a ss.length c)) 88)).alloc (.cells C 30)).alloc (.cells Z88 88) = w2 at *
    go_quiet (fail)
    have G0' : Hid ((w2.drewN nq).heap[w.heap.size]? = some (.cells (bkC b.ep (.slice a ss.length c)) 88 (0, 0))) := G0.out
    have G2' : Hid ((w2.drewN nq).heap[w.heap.size + 1 + 1]? = some (.cells Z88 88 (0, 0))) := G2.out
    have K4 := Lib.hid (HK.out.drewN nq)
    clear x9 x8 xe
    go_wp2_with (first | fail | ((with_reducible refine load88 (g := w.heap.size) ?_ G0'.out (bkC_size _ _) ?_); rfl) | ((with_reducible refine store88 ?_ ?_ G2'.out rfl (bkC_size _ _) hone.out ?_); rfl; rfl))
    exact bodyPost_ret (results_88 rfl _ _ _ (setRow_heap _ _ _ _ _ _ G2'.out) (bkC_size _ _) rfl) rfl (BgPost.no E.out HBS.out HB.out K4.out _ (by omega) _)
end Go.Proofs.YtklmhegmombegaaDoor.Re
