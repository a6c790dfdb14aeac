/-
  What a journal's records make of a book, saga by saga; in plain Lean.
-/
import Derived.Test.YtklmhegmombegaaDoorBkN
import Derived.Test.YtklmhegmombegaaDoorBkP
set_option linter.unusedVariables false
set_option linter.unusedSimpArgs false
namespace Go.Proofs.YtklmhegmombegaaDoor.Re.Plain

/-- What one record does to a book. -/
inductive Turn (lim : Nat) (b : Bk) (x : Rx) : Bk → Prop
  | begin : x.kind = 1 → x.saga = b.sagas.length → mayB x.steps = true → Turn lim b x { b with sagas := b.sagas ++ [new x.steps] }
  | call {s t : Sg} : 2 ≤ x.kind → x.kind ≤ 5 → 0 ≤ x.saga → b.sagas[x.saga.toNat]? = some s → go s x.rc lim = some t → Turn lim b x { b with sagas := b.sagas.set x.saga.toNat t }
  | rot : x.kind = 6 → 0 ≤ x.part → x.part ≤ 3 → x.epoch = b.ep x.part.toNat + 1 → Turn lim b x { b with ep := fun p => if p = x.part.toNat then x.epoch else b.ep p }
theorem bcall_turn {b c : Bk} {x : Rx} {lim : Nat} (h : bcall b x lim = some c) (h2 : 2 ≤ x.kind) (h5 : x.kind ≤ 5) (h0 : 0 ≤ x.saga) : Turn lim b x c := by
  unfold bcall at h
  split at h
  · rename_i s hs
    split at h
    · rename_i t ht
      cases h
      exact .call h2 h5 h0 hs ht
    · cases h
  · cases h
theorem bgo_turn {b c : Bk} {x : Rx} {lim : Int} (h : bgo b x lim = some c) : 1 ≤ lim ∧ lim ≤ 9 ∧ Turn lim.toNat b x c := by
  unfold bgo at h
  split at h
  · rename_i hr
    obtain ⟨hx, hp, -, hk, -⟩ := right_ranges hr.1
    refine ⟨hr.2.1, hr.2.2, ?_⟩
    split at h
    · rename_i k1
      unfold bbegin at h
      split at h
      · rename_i hb
        cases h
        exact .begin k1 hb.1 hb.2.2
      · cases h
    rename_i k1
    split at h
    · rename_i k3
      exact bcall_turn (breceipt_some h) (by omega) (by omega) hx.1
    rename_i k3
    split at h
    · rename_i k6
      unfold brotate at h
      split at h
      · rename_i he
        cases h
        exact .rot k6 hp.1 hp.2 he
      · cases h
    · exact bcall_turn h (by omega) (by omega) hx.1
  · cases h

/-- The records of one saga. -/
def own (i : Nat) (l : List Rx) : List Rx := l.filter (onlyB i)
theorem own_snoc (i : Nat) (l : List Rx) (x : Rx) : own i (l ++ [x]) = if onlyB i x = true then own i l ++ [x] else own i l := by
  unfold own
  rw [List.filter_append]
  by_cases h : onlyB i x = true
  · rw [if_pos h]; simp [h]
  · rw [if_neg h]; simp [h]
/-- These records make this saga. -/
inductive Runs (lim : Nat) : List Rx → Sg → Prop
  | first {x : Rx} : x.kind = 1 → mayB x.steps = true → Runs lim [x] (new x.steps)
  | next {l : List Rx} {s t : Sg} {x : Rx} : Runs lim l s → go s x.rc lim = some t → Runs lim (l ++ [x]) t
def seqs (l : List Sg) : Nat := (l.map (·.seq)).sum
theorem seqs_set {l : List Sg} {i : Nat} {s t : Sg} (h : l[i]? = some s) (hs : t.seq = s.seq + 1) : seqs (l.set i t) = seqs l + 1 := by
  induction l generalizing i with
  | nil => cases h
  | cons a l ih =>
    cases i with
    | zero =>
      simp only [List.getElem?_cons_zero, Option.some.injEq] at h
      subst h
      simp [seqs, hs]; omega
    | succ i =>
      simp only [List.getElem?_cons_succ] at h
      have := ih h
      simp only [seqs, List.set_cons_succ, List.map_cons, List.sum_cons] at this ⊢
      omega
def eps (b : Bk) : Int := b.ep 0 + b.ep 1 + b.ep 2 + b.ep 3
/-- What holds of a book and the records that made it. -/
structure Made (lim : Nat) (l : List Rx) (b : Bk) : Prop where
  runs : ∀ i s, b.sagas[i]? = some s → Runs lim (own i l) s ∧ (own i l).length = s.seq
  none : ∀ i, b.sagas.length ≤ i → own i l = []
  many : (seqs b.sagas : Int) + eps b = l.length
theorem Made.zero (lim : Nat) : Made lim [] Bk.zero := ⟨fun i s h => by simp [Bk.zero] at h, fun i _ => rfl, by simp [Bk.zero, seqs, eps]⟩
theorem onlyB_iff {i : Nat} {x : Rx} : onlyB i x = true ↔ 1 ≤ x.kind ∧ x.kind ≤ 5 ∧ x.saga = i := by simp [onlyB]
theorem Made.turn {lim : Nat} {l : List Rx} {b c : Bk} {x : Rx} (h : Made lim l b) (ht : Turn lim b x c) : Made lim (l ++ [x]) c := by
  cases ht with
  | begin k1 hx hm =>
    refine ⟨fun i s hs => ?_, fun i hi => ?_, ?_⟩
    · rw [own_snoc]
      by_cases e : i = b.sagas.length
      · subst e
        rw [if_pos (onlyB_iff.2 ⟨by omega, by omega, hx⟩), h.none _ (Nat.le_refl _)]
        simp at hs
        subst hs
        exact ⟨.first k1 hm, rfl⟩
      · rw [if_neg (fun ho => by have := (onlyB_iff.1 ho).2.2; omega)]
        have hlt : i < b.sagas.length := by
          have := (List.getElem?_eq_some_iff.1 hs).1
          simp at this; omega
        rw [List.getElem?_append_left hlt] at hs
        exact h.runs i s hs
    · simp at hi
      rw [own_snoc, if_neg (fun ho => by have := (onlyB_iff.1 ho).2.2; omega)]
      exact h.none i (by omega)
    · have := h.many
      simp only [seqs, List.map_append, List.map_cons, List.map_nil, List.sum_append, List.sum_cons, List.sum_nil, List.length_append, List.length_singleton, eps, new] at this ⊢
      omega
  | @call s t h2 h5 h0 hs hg =>
    have hq := (go_seq hg).2
    have hlt : x.saga.toNat < b.sagas.length := (List.getElem?_eq_some_iff.1 hs).1
    refine ⟨fun i u hu => ?_, fun i hi => ?_, ?_⟩
    · rw [own_snoc]
      by_cases e : i = x.saga.toNat
      · subst e
        rw [if_pos (onlyB_iff.2 ⟨by omega, by omega, by omega⟩)]
        simp only [List.getElem?_set_self hlt, Option.some.injEq] at hu
        subst hu
        obtain ⟨h1, h2⟩ := h.runs _ s hs
        exact ⟨.next h1 hg, by simp [h2, hq]⟩
      · rw [if_neg (fun ho => by have := (onlyB_iff.1 ho).2.2; omega)]
        simp only [List.getElem?_set_ne (Ne.symm e)] at hu
        exact h.runs i u hu
    · simp only [List.length_set] at hi
      rw [own_snoc, if_neg (fun ho => by have := (onlyB_iff.1 ho).2.2; omega)]
      exact h.none i hi
    · have := h.many
      have e := seqs_set (l := b.sagas) (i := x.saga.toNat) (s := s) (t := t) hs hq
      simp only [List.length_append, List.length_singleton, eps] at this ⊢
      rw [e]
      omega
  | rot k6 hp0 hp3 he =>
    have hno : ∀ i, own i (l ++ [x]) = own i l := fun i => by
      rw [own_snoc, if_neg (fun ho => by have := (onlyB_iff.1 ho).2.1; omega)]
    refine ⟨fun i u hu => ?_, fun i hi => ?_, ?_⟩
    · rw [hno]; exact h.runs i u hu
    · rw [hno]; exact h.none i hi
    · have := h.many
      obtain ⟨p, hp⟩ : ∃ p : Nat, x.part.toNat = p := ⟨_, rfl⟩
      have hp4 : p = 0 ∨ p = 1 ∨ p = 2 ∨ p = 3 := by omega
      simp only [List.length_append, List.length_singleton, eps] at this ⊢
      rw [hp] at he ⊢
      rcases hp4 with rfl | rfl | rfl | rfl <;> simp <;> omega
theorem Made.from {lim : Int} : ∀ (l m : List Rx) (b : Bk) (k : Nat), Made lim.toNat m b → m.length = k → Made lim.toNat (m ++ l.take ((ofFrom lim b k l).2 - k)) (ofFrom lim b k l).1 := by
  intro l
  induction l with
  | nil => intro m b k h _; simpa [ofFrom] using h
  | cons x l ih =>
    intro m b k h hk
    cases hb : bgo b x lim with
    | none => rw [ofFrom_no hb]; simpa using h
    | some c =>
      rw [ofFrom_yes hb]
      have hge := (ofFrom_ge l c (k + 1) (lim := lim)).1
      have h1 := ih (m ++ [x]) c (k + 1) (h.turn (bgo_turn hb).2.2) (by simp [hk])
      have e : (ofFrom lim c (k + 1) l).2 - k = ((ofFrom lim c (k + 1) l).2 - (k + 1)) + 1 := by omega
      rw [e, List.take_succ_cons]
      simpa using h1
theorem bookOf_made (l : List Rx) (lim : Int) : Made lim.toNat (l.take (bookOf l lim).2) (bookOf l lim).1 := by
  have := Made.from (lim := lim) l [] Bk.zero 0 (Made.zero _) rfl
  simpa [bookOf] using this
/-- The first of records that go, go. -/
theorem ofFrom_take {lim : Int} : ∀ (l : List Rx) (b : Bk) (k n : Nat), n ≤ (ofFrom lim b k l).2 - k → (ofFrom lim b k (l.take n)).2 = k + n := by
  intro l
  induction l with
  | nil => intro b k n h; simp [ofFrom] at h ⊢; omega
  | cons x l ih =>
    intro b k n h
    cases n with
    | zero => simp [ofFrom]
    | succ n =>
      cases hb : bgo b x lim with
      | none => rw [ofFrom_no hb] at h; simp at h
      | some c =>
        rw [ofFrom_yes hb] at h
        rw [List.take_succ_cons, ofFrom_yes hb, ih c (k + 1) n (by omega)]
        omega
theorem ofFrom_snoc {lim : Int} : ∀ (l : List Rx) (b : Bk) (k : Nat) (x : Rx), (ofFrom lim b k l).2 = k + l.length → ofFrom lim b k (l ++ [x]) = match bgo (ofFrom lim b k l).1 x lim with
    | some c => (c, k + l.length + 1)
    | none => ((ofFrom lim b k l).1, k + l.length) := by
  intro l
  induction l with
  | nil =>
    intro b k x _
    cases hb : bgo b x lim with
    | none => simp [ofFrom, hb]
    | some c => simp [ofFrom, hb]
  | cons y l ih =>
    intro b k x h
    cases hb : bgo b y lim with
    | none => rw [ofFrom_no hb] at h; simp at h
    | some c =>
      rw [ofFrom_yes hb] at h
      rw [List.cons_append, ofFrom_yes hb, ofFrom_yes hb, ih c (k + 1) x (by rw [h]; simp; omega)]
      cases bgo (ofFrom lim c (k + 1) l).1 x lim with
      | none => simp; omega
      | some d => simp; omega
/-- One record more. -/
theorem book_next {l : List Rx} {lim : Int} {k : Nat} (h : k < (bookOf l lim).2) : ∃ x, bookOf (l.take k) lim = ((bookOf (l.take k) lim).1, k) ∧ bookOf (l.take (k + 1)) lim = ((bookOf (l.take (k + 1)) lim).1, k + 1) ∧ Turn lim.toNat (bookOf (l.take k) lim).1 x (bookOf (l.take (k + 1)) lim).1 := by
  have hle : (bookOf l lim).2 ≤ l.length := bookOf_le l lim
  have hlt : k < l.length := by omega
  have e1 : (bookOf (l.take k) lim).2 = k := by
    have := ofFrom_take l Bk.zero 0 k (lim := lim) (by unfold bookOf at h; omega)
    unfold bookOf; omega
  have e2 : (bookOf (l.take (k + 1)) lim).2 = k + 1 := by
    have := ofFrom_take l Bk.zero 0 (k + 1) (lim := lim) (by unfold bookOf at h; omega)
    unfold bookOf; omega
  refine ⟨l[k], Prod.ext rfl e1, Prod.ext rfl e2, ?_⟩
  have ht : l.take (k + 1) = l.take k ++ [l[k]] := by rw [List.take_add_one, List.getElem?_eq_getElem hlt]; rfl
  have hlen : (l.take k).length = k := by rw [List.length_take]; omega
  have hs := ofFrom_snoc (lim := lim) (l.take k) Bk.zero 0 l[k] (by rw [hlen]; unfold bookOf at e1; omega)
  rw [← ht] at hs
  have e3 : ofFrom lim Bk.zero 0 (l.take (k + 1)) = bookOf (l.take (k + 1)) lim := rfl
  have e4 : (ofFrom lim Bk.zero 0 (l.take k)).1 = (bookOf (l.take k) lim).1 := rfl
  rw [e3, e4] at hs
  cases hb : bgo (bookOf (l.take k) lim).1 l[k] lim with
  | none =>
    rw [hb] at hs
    have : (bookOf (l.take (k + 1)) lim).2 = 0 + (l.take k).length := by rw [hs]
    rw [e2, hlen] at this; omega
  | some c =>
    rw [hb] at hs
    have : (bookOf (l.take (k + 1)) lim).1 = c := by rw [hs]
    rw [this]
    exact (bgo_turn hb).2.2
theorem Runs.ne {lim : Nat} {l : List Rx} {s : Sg} (h : Runs lim l s) : l ≠ [] := by
  cases h with
  | first => simp
  | next => simp
theorem great_not {l : List Rx} (h : greatL l = false) : l.length ≤ 150 ∧ ∀ x ∈ l, x.steps.length ≤ 30 := by
  unfold greatL at h
  rw [Bool.or_eq_false_iff, decide_eq_false_iff_not] at h
  refine ⟨by omega, fun x hx => ?_⟩
  have h2 := List.any_eq_false.1 h.2 x hx
  unfold greatB at h2
  simp only [Bool.or_eq_true, decide_eq_true_eq, not_or] at h2
  omega
theorem onlyR_own (i : Nat) (rs : List (Array Value × Rx)) (n : Nat) : (onlyR i (rs.take n)).map (·.2) = own i ((rs.map (·.2)).take n) := by
  unfold onlyR own
  rw [← List.map_take]
  generalize rs.take n = l
  induction l with
  | nil => rfl
  | cons p l ih =>
    simp only [List.filter_cons, List.map_cons]
    by_cases h : onlyB i p.2 = true
    · rw [if_pos h, if_pos h, List.map_cons, ih]
    · rw [if_neg h, if_neg h, ih]
theorem seqs_le {l : List Sg} {k : Nat} : seqs (l.take k) ≤ seqs l := by
  induction l generalizing k with
  | nil => simp
  | cons a l ih =>
    cases k with
    | zero => simp [seqs]
    | succ k =>
      have := ih (k := k)
      simp only [seqs, List.take_succ_cons, List.map_cons, List.sum_cons] at this ⊢
      omega
theorem seqs_take {l : List Sg} {k : Nat} {s : Sg} (h : l[k]? = some s) : seqs (l.take (k + 1)) = seqs (l.take k) + s.seq := by
  obtain ⟨hlt, hs⟩ := List.getElem?_eq_some_iff.1 h
  rw [← List.take_append_getElem hlt, hs]
  simp [seqs]
/-- The first epochs' sum. -/
def epTo (b : Bk) : Nat → Int
  | 0 => 0
  | k + 1 => epTo b k + b.ep k
theorem epTo_four (b : Bk) : epTo b 4 = eps b := by simp [epTo, eps]
theorem epTo_le {lim : Nat} {b : Bk} (h : BGood lim b) (k : Nat) : 0 ≤ epTo b k ∧ epTo b k ≤ 400 * k := by
  induction k with
  | zero => simp [epTo]
  | succ k ih => have := h.ep k; simp only [epTo]; omega
end Go.Proofs.YtklmhegmombegaaDoor.Re.Plain
namespace Go.Proofs.YtklmhegmombegaaDoor.Re
open Go Go.RowKit Go.Proofs.YtklmhegmombegaaDoor.Re.Plain Go.Proofs.YtklmhegmombegaaDoor
/-- The first of the records. -/
theorem HoldsRs.take {w : World} {a : Addr} {c : Nat} {rs : List (Array Value × Rx)} {n : Nat} (h : HoldsRs w (.slice (some a) rs.length c) rs) (hn : n ≤ rs.length) : HoldsRs w (.slice (some a) n c) (rs.take n) := by
  have hl : (rs.take n).length = n := by rw [List.length_take]; omega
  have hfr : ∀ p ∈ rs.take n, (frc p).length = 109 := fun p hp => h.frcs p (List.mem_of_mem_take hp)
  refine ⟨?_, by rw [hl]; exact Nat.le_trans hn h.len, fun p hp => h.rin p (List.mem_of_mem_take hp)⟩
  obtain ⟨hx, a', c', e, hc⟩ := h.rd
  simp only [Value.slice.injEq, true_and] at e
  obtain ⟨rfl, rfl⟩ := e
  rw [hl]
  refine ⟨by rw [flat_len _ hfr, hl], some a, c, rfl, .inr ⟨a, rfl, fun j u hu => ?_⟩⟩
  rcases hc with ⟨h1, _⟩ | ⟨ad, e1, h2⟩
  · cases h1
  · cases e1
    refine h2 j u ?_
    rw [← List.take_append_drop n rs, List.flatMap_append, List.getElem?_append_left (List.getElem?_eq_some_iff.1 hu).1]
    exact hu
theorem bookOf_okay (l : List Rx) (lim : Int) : ∀ s ∈ (bookOf l lim).1.sagas, Okay s := by
  intro s hs
  by_cases h9 : 1 ≤ lim ∧ lim ≤ 9
  · exact GoodS.okay (lim := lim.toNat) ((good_bookOf l lim).sagas s hs) (by omega)
  · exfalso
    cases l with
    | nil => simp [bookOf, ofFrom, Bk.zero] at hs
    | cons x l =>
      have hb : bgo Bk.zero x lim = none := by
        cases h : bgo Bk.zero x lim with
        | none => rfl
        | some c => exact absurd ⟨(bgo_turn h).1, (bgo_turn h).2.1⟩ h9
      unfold bookOf at hs
      rw [ofFrom_no hb] at hs
      simp [Bk.zero] at hs
end Go.Proofs.YtklmhegmombegaaDoor.Re
