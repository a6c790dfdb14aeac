/-
  Books, in plain Lean and in memory; lists of great elements; the contract of slices.Clone of sagas. Conditions: as each theorem says.
-/
import Derived.Test.YtklmhegmombegaaRecE
import Derived.Test.YtklmhegmombegaaLaw4
set_option linter.unusedVariables false
set_option linter.unusedSimpArgs false
namespace Go.Proofs.Ytklmhegmombegaa
open Go Go.RowKit Plain

/-! ## Lists of elements of s cells each -/
section
variable {α : Type} {f : α → List Value} {s : Nat}
theorem flat_len : ∀ (l : List α), (∀ x ∈ l, (f x).length = s) → (l.flatMap f).length = l.length * s := by
  intro l
  induction l with
  | nil => intro _; simp
  | cons x l ih =>
    intro h
    rw [List.flatMap_cons, List.length_append, ih (fun y hy => h y (List.mem_cons_of_mem _ hy)), h x (List.mem_cons_self ..), List.length_cons, Nat.succ_mul, Nat.add_comm]
theorem flat_get (hs : 0 < s) : ∀ (l : List α), (∀ x ∈ l, (f x).length = s) → ∀ k, (l.flatMap f)[k]? = (l[k / s]?).bind fun x => (f x)[k % s]? := by
  intro l
  induction l with
  | nil => intro _ k; simp
  | cons x l ih =>
    intro h k
    have hx := h x (List.mem_cons_self ..)
    rw [List.flatMap_cons]
    by_cases hk : k < s
    · rw [List.getElem?_append_left (by omega), Nat.div_eq_of_lt hk, Nat.mod_eq_of_lt hk]; rfl
    · have e1 : k / s = (k - s) / s + 1 := Nat.div_eq_sub_div hs (by omega)
      have e2 : k % s = (k - s) % s := Nat.mod_eq_sub_mod (by omega)
      rw [List.getElem?_append_right (by omega), hx, ih (fun y hy => h y (List.mem_cons_of_mem _ hy)), e1, e2, List.getElem?_cons_succ]
/-- The element at i, in memory. -/
theorem Rd.elem {w : World} {v : Value} {l : List α} (h : Rd w s v l.length (l.flatMap f)) (hs : 0 < s) (hf : ∀ x ∈ l, (f x).length = s) {i : Nat} (hi : i < l.length) :
    ∃ b o c, v = .slice (some ⟨b, o, none⟩) l.length c ∧ w.rangeAt b (o + i * s) (f l[i]) := by
  obtain ⟨b, o, c, e, hc⟩ := h.addr (Nat.mul_pos (by omega) hs)
  refine ⟨b, o, c, e, fun j u hu => ?_⟩
  have hj : j < s := by have := (List.getElem?_eq_some_iff.1 hu).1; rwa [hf _ (List.getElem_mem _)] at this
  have hg : (l.flatMap f)[i * s + j]? = some u := by
    rw [flat_get hs l hf]
    have e1 : (i * s + j) / s = i := by rw [Nat.add_comm, Nat.add_mul_div_right _ _ hs, Nat.div_eq_of_lt hj, Nat.zero_add]
    have e2 : (i * s + j) % s = j := by rw [Nat.add_comm, Nat.add_mul_mod_self_right, Nat.mod_eq_of_lt hj]
    rw [e1, e2, List.getElem?_eq_getElem hi]; exact hu
  have := hc _ _ hg
  rwa [← Nat.add_assoc] at this
/-- One element is written over. -/
theorem flat_set (hs : 0 < s) {l : List α} (hf : ∀ x ∈ l, (f x).length = s) {i : Nat} {y : α} (hy : (f y).length = s) (hi : i < l.length) (cur : Array Value) (hc : cur.toList.take (l.length * s) = l.flatMap f) (hsz : l.length * s ≤ cur.size) :
    (puts cur (i * s) (f y)).toList.take (l.length * s) = (l.set i y).flatMap f := by
  have hf' : ∀ x ∈ l.set i y, (f x).length = s := fun x hx => by
    rcases List.mem_or_eq_of_mem_set hx with h | h
    · exact hf x h
    · rw [h]; exact hy
  have hle : (i + 1) * s ≤ l.length * s := Nat.mul_le_mul_right _ hi
  rw [Nat.succ_mul] at hle
  apply List.ext_getElem?
  intro k
  rw [flat_get hs _ hf', List.getElem?_take]
  by_cases hk : k < l.length * s
  · rw [if_pos hk, Array.getElem?_toList]
    have hold : cur[k]? = (l[k / s]?).bind fun x => (f x)[k % s]? := by
      have h0 := congrArg (fun (z : List Value) => z[k]?) hc
      simp only [List.getElem?_take, if_pos hk, Array.getElem?_toList] at h0
      rw [h0, flat_get hs l hf]
    have hmod := Nat.mod_lt k hs
    have hdm := Nat.div_add_mod k s
    by_cases e : k / s = i
    · have hk2 : k = i * s + k % s := by rw [← e, Nat.mul_comm]; omega
      have : (puts cur (i * s) (f y))[k]? = (f y)[k % s]? := by
        have h1 : k % s < (f y).length := by rw [hy]; exact hmod
        have h2 := puts_in (f y) cur (i * s) (by rw [hy]; omega) (k % s) ((f y)[k % s]'h1) (List.getElem?_eq_getElem h1)
        rw [List.getElem?_eq_getElem h1, ← h2, ← hk2]
      rw [this, e, List.getElem?_set_self hi]; rfl
    · have hout : k < i * s ∨ i * s + (f y).length ≤ k := by
        rw [hy]
        rcases Nat.lt_or_gt_of_ne e with h | h
        · left
          have : (k / s + 1) * s ≤ i * s := Nat.mul_le_mul_right _ h
          rw [Nat.succ_mul, Nat.mul_comm] at this
          omega
        · right
          have : (i + 1) * s ≤ k / s * s := Nat.mul_le_mul_right _ h
          rw [Nat.succ_mul, Nat.mul_comm (k / s)] at this
          omega
      rw [puts_out _ _ _ _ hout, hold, List.getElem?_set_ne (Ne.symm e)]
  · rw [if_neg hk]
    have : (l.set i y)[k / s]? = none := by
      rw [List.getElem?_eq_none]
      rw [List.length_set, Nat.le_div_iff_mul_le hs]; omega
    rw [this]; rfl
end

/-! ## Books -/
namespace Plain
/-- A book: the participants' epochs, its sagas. -/
structure Bk where
  ep : Nat → Int
  sagas : List Sg
def Bk.zero : Bk := ⟨fun _ => 0, []⟩
end Plain
def bkC (ep : Nat → Int) (sv : Value) : Array Value := #[.int .i64 (ep 0), .int .i64 (ep 1), .int .i64 (ep 2), .int .i64 (ep 3), sv]
def fsg (p : Sg × Value) : List Value := (sgC p.1 p.2).toList
theorem fsg_len (p : Sg × Value) : (fsg p).length = 10 := rfl
/-- What blocks a book's value owns. -/
def Own (sv : Value) (ss : List (Sg × Value)) (k : Nat) : Prop := sv.ownBlock = some k ∨ ∃ p ∈ ss, p.2.ownBlock = some k
/-- sv holds the sagas ss (each with its steps' value). -/
structure BkIn (w : World) (sv : Value) (ss : List (Sg × Value)) : Prop where
  rd : Rd w 10 sv ss.length (ss.flatMap fsg)
  len : ss.length ≤ 1000
  st : ∀ p ∈ ss, Stp w p.2 p.1.steps
  lt : ∀ k, sv.ownBlock = some k → k < w.heap.size
theorem BkIn.own {w : World} {sv : Value} {ss : List (Sg × Value)} (h : BkIn w sv ss) : ∀ k, Own sv ss k → k < w.heap.size := fun k hk => by
  rcases hk with hk | ⟨p, hp, hk⟩
  · exact h.lt k hk
  · exact (h.st p hp).lt k hk
theorem BkIn.keep {w w' : World} {sv : Value} {ss : List (Sg × Value)} {S : Nat → Prop} (h : BkIn w sv ss) (k : Kept S w w') (hs : ∀ i, Own sv ss i → ¬ S i) : BkIn w' sv ss :=
  ⟨h.rd.kept k (fun i e => hs i (.inl e)), h.len, fun p hp => ⟨(h.st p hp).rd.kept k (fun i e => hs i (.inr ⟨p, hp, e⟩)), fun i e => Nat.lt_of_lt_of_le ((h.st p hp).lt i e) k.size⟩, fun i e => Nat.lt_of_lt_of_le (h.lt i e) k.size⟩
theorem BkIn.kept {w w' : World} {sv : Value} {ss : List (Sg × Value)} (h : BkIn w sv ss) (k : Kept (fun _ => False) w w') : BkIn w' sv ss := h.keep k (fun _ _ h => h)
theorem BkIn.nil (w : World) : BkIn w (.slice none 0 0) [] := ⟨⟨rfl, none, 0, rfl, .inl ⟨rfl, rfl, rfl⟩⟩, by simp, by simp, fun k e => by cases e⟩
theorem BkIn.form {w : World} {sv : Value} {ss : List (Sg × Value)} (h : BkIn w sv ss) : ∃ a c, sv = .slice a ss.length c := by obtain ⟨_, a, c, e, _⟩ := h.rd; exact ⟨a, c, e⟩
theorem Buf.bkIn {w : World} {base : Nat} {sv : Value} {ss : List (Sg × Value)} (h : Buf w base 27 10 sv ss.length (ss.flatMap fsg)) (hl : ss.length ≤ 1000) (hst : ∀ p ∈ ss, Stp w p.2 p.1.steps) : BkIn w sv ss := ⟨h.rd, hl, hst, fun k e => (h.lt k e).2⟩

theorem Try.ifull27 : (Try.prog.info? 27).map (fun i => (i.size, i.bytes, i.zero.map (·.cells.size))) = some (10, 88, some 10) := by kernel_rfl
theorem info27' : ∃ i z, Try.prog.info? 27 = some i ∧ i.size = 10 ∧ i.bytes = 88 ∧ i.zero = some z ∧ z.cells.size = 10 := by
  obtain ⟨i, hi, hb⟩ := Option.map_eq_some_iff.1 Try.ifull27
  simp only [Prod.mk.injEq] at hb
  obtain ⟨z, hz, hz2⟩ := Option.map_eq_some_iff.1 hb.2.2
  exact ⟨i, z, hi, hb.1, hb.2.1, hz, hz2⟩
theorem oneCell_flat10 {w : World} {l : List (Sg × Value)} (h : ∀ p ∈ l, Stp w p.2 p.1.steps) : ∀ u ∈ l.flatMap fsg, u.oneCell' = true := by
  intro u hu
  obtain ⟨p, hp, hu⟩ := List.mem_flatMap.1 hu
  obtain ⟨a, c, e⟩ := (h p hp).form
  have := sgC_one p.1 a p.1.steps.length c
  rw [← e] at this
  exact (Array.all_eq_true_iff_forall_mem.1 this) u (by simpa [fsg] using hu)
/-- Sagas are handed back, in new memory. -/
def CgPost (ss : List (Sg × Value)) (w : World) (e : Ending) (w' : World) : Prop := ∃ v, e = .returned v ∧ Buf w' w.heap.size 27 10 v ss.length (ss.flatMap fsg) ∧ Kept (fun _ => False) w w'
set_option maxRecDepth 100000 in
set_option maxHeartbeats 1000000 in
theorem f_cloneS (v : Value) (ss : List (Sg × Value)) (w : World) (hs : BkIn w v ss) : Calls Try.prog 80 #[v] w (CgPost ss w) := by
  obtain ⟨i, z, hi, hsz, hby, hz, hzs⟩ := info27'
  obtain ⟨a, c, rfl⟩ := hs.form
  have hlen := hs.len
  cases a with
  | none =>
    have h0 : ss.length = 0 ∧ c = 0 := by
      obtain ⟨_, a', c', e, h⟩ := hs.rd
      injection e with e1 e2 e3
      subst e1; subst e3
      rcases h with h | ⟨ad, h, _⟩
      · exact ⟨h.2.1, h.2.2⟩
      · cases h
    obtain ⟨h0, rfl⟩ := h0
    obtain rfl := List.eq_nil_of_length_eq_zero h0
    have hnil := fun w' (a : Option Addr) (n c : Nat) => Lib.run_eql_slice_nil (P := Try.prog) w' 52 27 a n c 0 0 Try.underlying52
    clear hs h0
    go_enter Try.func80, Try.ntmps80
    go_wp2_with fail
    go_ret
    exact ⟨_, rfl, Buf.nil _ _ _ _, Kept.refl _ _⟩
  | some ad =>
    have hnil := fun w' (a : Option Addr) (n c : Nat) => Lib.run_eql_slice_nil (P := Try.prog) w' 52 27 a n c 0 0 Try.underlying52
    have hn1 := heap_alloc_new w (.cells #[] 27)
    have hb1 : Buf (w.alloc (.cells #[] 27)) w.heap.size 27 10 (.slice (some ⟨w.heap.size, 0, none⟩) 0 0) 0 [] := ⟨rfl, .inr ⟨w.heap.size, 0, #[], rfl, Nat.le_refl _, hn1, Nat.le_refl _, by decide, by simp, rfl⟩⟩
    have hsrc : Src Try.prog 10 52 (.slice (some ad) ss.length c) ss.length (ss.flatMap fsg) (w.alloc (.cells #[] 27)) := (hs.rd.alloc _).src Try.underlying52 (oneCell_flat10 hs.st)
    have HB := Lib.hid hb1
    have HSR := Lib.hid hsrc
    clear hs hn1 hb1 hsrc
    go_enter Try.func80, Try.ntmps80
    go_wp2_with (first | fail | (at_builtin; refine wpList_append_buf _ rfl (.tmp 5) (.tmp 6) 52 52 rfl w.heap.size 27 i z 10 88 Try.underlying52 hi hz hsz hby hzs (by decide) (.slice (some ⟨w.heap.size, 0, none⟩) 0 0) 0 [] rfl HB.out _ _ _ rfl HSR.out (by unfold maxLen; omega) (by omega) (by simp) ?_; intro v' w' hb' hg' ho' hn'; have HB2 := Lib.hid hb'; have HG2 := Lib.hid hg'; clear hb' hg' ho' hn'))
    go_ret
    exact ⟨_, rfl, by simpa using HB2.out, ((Kept.refl _ w).alloc _).grown HG2.out (fun k hk => .inr (by cases hk; exact Nat.le_refl _))⟩
end Go.Proofs.Ytklmhegmombegaa
