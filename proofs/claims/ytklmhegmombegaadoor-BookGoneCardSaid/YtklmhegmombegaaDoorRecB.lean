/-
  Setting a record's cells; storing into them in a region that draws its order. Conditions: as each theorem says.
-/
import Derived.Test.YtklmhegmombegaaDoorRecA
set_option linter.unusedVariables false
set_option linter.unusedSimpArgs false
namespace Go.Proofs.YtklmhegmombegaaDoor.Re
open Go Go.RowKit Go.Proofs.YtklmhegmombegaaDoor.Re.Plain

/-- Cells from o on. -/
def puts (C : Array Value) (o : Nat) : List Value → Array Value
  | [] => C
  | v :: vs => puts (C.setIfInBounds o v) (o + 1) vs
theorem puts_size (vs : List Value) : ∀ (C : Array Value) (o : Nat), (puts C o vs).size = C.size := by
  induction vs with
  | nil => intro C o; rfl
  | cons v vs ih => intro C o; rw [puts, ih]; simp
theorem puts_one (vs : List Value) (hv : ∀ v ∈ vs, v.oneCell' = true) : ∀ (C : Array Value) (o : Nat), C.all (·.oneCell') = true → (puts C o vs).all (·.oneCell') = true := by
  induction vs with
  | nil => intro C o h; exact h
  | cons v vs ih => intro C o h; rw [puts]; exact ih (fun v h => hv v (List.mem_cons_of_mem _ h)) _ _ (all_set h (hv v (List.mem_cons_self ..)) _)
theorem puts_out (vs : List Value) : ∀ (C : Array Value) (o i : Nat), i < o ∨ o + vs.length ≤ i → (puts C o vs)[i]? = C[i]? := by
  induction vs with
  | nil => intro C o i _; rfl
  | cons v vs ih =>
    intro C o i h
    simp only [List.length_cons] at h
    rw [puts, ih _ _ _ (by omega), Array.getElem?_setIfInBounds_ne (by omega)]
theorem puts_in (vs : List Value) : ∀ (C : Array Value) (o : Nat), o + vs.length ≤ C.size → ∀ j v, vs[j]? = some v → (puts C o vs)[o + j]? = some v := by
  induction vs with
  | nil => intro C o _ j v h; simp at h
  | cons u vs ih =>
    intro C o hs j v h
    simp only [List.length_cons] at hs
    rw [puts]
    cases j with
    | zero =>
      rw [puts_out _ _ _ _ (by omega), Nat.add_zero, Array.getElem?_setIfInBounds_self_of_lt (by omega)]
      simpa using h
    | succ j =>
      have := ih (C.setIfInBounds o u) (o + 1) (by simp; omega) j v (by simpa using h)
      rwa [show o + (j + 1) = o + 1 + j by omega]
theorem At.set {C : Array Value} {o i : Nat} {vs : List Value} (h : At C o vs) (hi : i < o ∨ o + vs.length ≤ i) (v : Value) : At (C.setIfInBounds i v) o vs := fun j u hu => by
  have hj := (List.getElem?_eq_some_iff.1 hu).1
  rw [Array.getElem?_setIfInBounds_ne (by omega)]; exact h j u hu
theorem At.puts {C : Array Value} {o i : Nat} {vs us : List Value} (h : At C o vs) (hi : i + us.length ≤ o ∨ o + vs.length ≤ i) : At (puts C i us) o vs := fun j u hu => by
  have hj := (List.getElem?_eq_some_iff.1 hu).1
  rw [puts_out _ _ _ _ (by omega)]; exact h j u hu
theorem hbs_len {l : List Int} (h : l.length = 32) : (hbs l).length = 32 := by simp [hbs, h]
theorem hbs_one (l : List Int) : ∀ v ∈ hbs l, v.oneCell' = true := ints_oneCell _ _
theorem get_set {C : Array Value} {i k : Nat} {v u : Value} (h : C[k]? = some u) (hne : i ≠ k) : (C.setIfInBounds i v)[k]? = some u := by rw [Array.getElem?_setIfInBounds_ne hne]; exact h
theorem get_self {C : Array Value} {i : Nat} {v : Value} (h : i < C.size) : (C.setIfInBounds i v)[i]? = some v := Array.getElem?_setIfInBounds_self_of_lt h
theorem get_puts {C : Array Value} {o k : Nat} {vs : List Value} {u : Value} (h : C[k]? = some u) (hne : k < o ∨ o + vs.length ≤ k) : (puts C o vs)[k]? = some u := by rw [puts_out _ _ _ _ hne]; exact h
set_option maxRecDepth 100000 in
theorem z30_10 : ∀ j, j < 32 → Z30[10 + j]? = some (.int .u8 0)
  | 0, _ => rfl
  | 1, _ => rfl
  | 2, _ => rfl
  | 3, _ => rfl
  | 4, _ => rfl
  | 5, _ => rfl
  | 6, _ => rfl
  | 7, _ => rfl
  | 8, _ => rfl
  | 9, _ => rfl
  | 10, _ => rfl
  | 11, _ => rfl
  | 12, _ => rfl
  | 13, _ => rfl
  | 14, _ => rfl
  | 15, _ => rfl
  | 16, _ => rfl
  | 17, _ => rfl
  | 18, _ => rfl
  | 19, _ => rfl
  | 20, _ => rfl
  | 21, _ => rfl
  | 22, _ => rfl
  | 23, _ => rfl
  | 24, _ => rfl
  | 25, _ => rfl
  | 26, _ => rfl
  | 27, _ => rfl
  | 28, _ => rfl
  | 29, _ => rfl
  | 30, _ => rfl
  | 31, _ => rfl
  | n + 32, h => absurd h (by omega)
set_option maxRecDepth 100000 in
theorem z30_44 : ∀ j, j < 32 → Z30[44 + j]? = some (.int .u8 0)
  | 0, _ => rfl
  | 1, _ => rfl
  | 2, _ => rfl
  | 3, _ => rfl
  | 4, _ => rfl
  | 5, _ => rfl
  | 6, _ => rfl
  | 7, _ => rfl
  | 8, _ => rfl
  | 9, _ => rfl
  | 10, _ => rfl
  | 11, _ => rfl
  | 12, _ => rfl
  | 13, _ => rfl
  | 14, _ => rfl
  | 15, _ => rfl
  | 16, _ => rfl
  | 17, _ => rfl
  | 18, _ => rfl
  | 19, _ => rfl
  | 20, _ => rfl
  | 21, _ => rfl
  | 22, _ => rfl
  | 23, _ => rfl
  | 24, _ => rfl
  | 25, _ => rfl
  | 26, _ => rfl
  | 27, _ => rfl
  | 28, _ => rfl
  | 29, _ => rfl
  | 30, _ => rfl
  | 31, _ => rfl
  | n + 32, h => absurd h (by omega)
set_option maxRecDepth 100000 in
theorem z30_77 : ∀ j, j < 32 → Z30[77 + j]? = some (.int .u8 0)
  | 0, _ => rfl
  | 1, _ => rfl
  | 2, _ => rfl
  | 3, _ => rfl
  | 4, _ => rfl
  | 5, _ => rfl
  | 6, _ => rfl
  | 7, _ => rfl
  | 8, _ => rfl
  | 9, _ => rfl
  | 10, _ => rfl
  | 11, _ => rfl
  | 12, _ => rfl
  | 13, _ => rfl
  | 14, _ => rfl
  | 15, _ => rfl
  | 16, _ => rfl
  | 17, _ => rfl
  | 18, _ => rfl
  | 19, _ => rfl
  | 20, _ => rfl
  | 21, _ => rfl
  | 22, _ => rfl
  | 23, _ => rfl
  | 24, _ => rfl
  | 25, _ => rfl
  | 26, _ => rfl
  | 27, _ => rfl
  | 28, _ => rfl
  | 29, _ => rfl
  | 30, _ => rfl
  | 31, _ => rfl
  | n + 32, h => absurd h (by omega)
theorem at_zero {o : Nat} (h : ∀ j, j < 32 → Z30[o + j]? = some (.int .u8 0)) : At Z30 o (hbs z32) := fun j v hv => by
  have hj : j < 32 := by have := (List.getElem?_eq_some_iff.1 hv).1; simpa [hbs, z32] using this
  have e : hbs z32 = List.replicate 32 (.int .u8 0) := rfl
  rw [e, List.getElem?_replicate, if_pos hj] at hv
  rw [h j hj, hv]
set_option maxRecDepth 100000 in
theorem RecIn.zero (w : World) : RecIn w Z30 Rx.zero where
  size := rfl
  one := Z30_one
  c0 := rfl
  c1 := rfl
  c2 := rfl
  c3 := rfl
  c4 := rfl
  c5 := rfl
  c6 := rfl
  c7 := rfl
  c8 := rfl
  c9 := rfl
  tagl := rfl
  tag := at_zero z30_10
  st := ⟨_, rfl, HoldsSt.nil w⟩
  da := ⟨_, rfl, HoldsBy.nil w⟩
  saltl := rfl
  salt := at_zero z30_44
  c76 := rfl
  coml := rfl
  com := at_zero z30_77

section
variable {w : World} {C : Array Value} {x : Rx}
theorem RecIn.set_kind (h : RecIn w C x) (n : Int) : RecIn w (C.setIfInBounds 0 (.int .i64 n)) { x with kind := n } :=
  ⟨(by simpa using h.size), (all_set h.one rfl _), (get_self (by rw [h.size]; decide)), (get_set h.c1 (by decide)), (get_set h.c2 (by decide)), (get_set h.c3 (by decide)), (get_set h.c4 (by decide)), (get_set h.c5 (by decide)), (get_set h.c6 (by decide)), (get_set h.c7 (by decide)), (get_set h.c8 (by decide)), (get_set h.c9 (by decide)), h.tagl, (h.tag.set (by rw [hbs_len h.tagl]; decide) _), (by obtain ⟨u, h1, h2⟩ := h.st; exact ⟨u, get_set h1 (by decide), h2⟩), (by obtain ⟨u, h1, h2⟩ := h.da; exact ⟨u, get_set h1 (by decide), h2⟩), h.saltl, (h.salt.set (by rw [hbs_len h.saltl]; decide) _), (get_set h.c76 (by decide)), h.coml, (h.com.set (by rw [hbs_len h.coml]; decide) _)⟩
theorem RecIn.set_saga (h : RecIn w C x) (n : Int) : RecIn w (C.setIfInBounds 1 (.int .i64 n)) { x with saga := n } :=
  ⟨(by simpa using h.size), (all_set h.one rfl _), (get_set h.c0 (by decide)), (get_self (by rw [h.size]; decide)), (get_set h.c2 (by decide)), (get_set h.c3 (by decide)), (get_set h.c4 (by decide)), (get_set h.c5 (by decide)), (get_set h.c6 (by decide)), (get_set h.c7 (by decide)), (get_set h.c8 (by decide)), (get_set h.c9 (by decide)), h.tagl, (h.tag.set (by rw [hbs_len h.tagl]; decide) _), (by obtain ⟨u, h1, h2⟩ := h.st; exact ⟨u, get_set h1 (by decide), h2⟩), (by obtain ⟨u, h1, h2⟩ := h.da; exact ⟨u, get_set h1 (by decide), h2⟩), h.saltl, (h.salt.set (by rw [hbs_len h.saltl]; decide) _), (get_set h.c76 (by decide)), h.coml, (h.com.set (by rw [hbs_len h.coml]; decide) _)⟩
theorem RecIn.set_seq (h : RecIn w C x) (n : Int) : RecIn w (C.setIfInBounds 2 (.int .i64 n)) { x with seq := n } :=
  ⟨(by simpa using h.size), (all_set h.one rfl _), (get_set h.c0 (by decide)), (get_set h.c1 (by decide)), (get_self (by rw [h.size]; decide)), (get_set h.c3 (by decide)), (get_set h.c4 (by decide)), (get_set h.c5 (by decide)), (get_set h.c6 (by decide)), (get_set h.c7 (by decide)), (get_set h.c8 (by decide)), (get_set h.c9 (by decide)), h.tagl, (h.tag.set (by rw [hbs_len h.tagl]; decide) _), (by obtain ⟨u, h1, h2⟩ := h.st; exact ⟨u, get_set h1 (by decide), h2⟩), (by obtain ⟨u, h1, h2⟩ := h.da; exact ⟨u, get_set h1 (by decide), h2⟩), h.saltl, (h.salt.set (by rw [hbs_len h.saltl]; decide) _), (get_set h.c76 (by decide)), h.coml, (h.com.set (by rw [hbs_len h.coml]; decide) _)⟩
theorem RecIn.set_step (h : RecIn w C x) (n : Int) : RecIn w (C.setIfInBounds 3 (.int .i64 n)) { x with step := n } :=
  ⟨(by simpa using h.size), (all_set h.one rfl _), (get_set h.c0 (by decide)), (get_set h.c1 (by decide)), (get_set h.c2 (by decide)), (get_self (by rw [h.size]; decide)), (get_set h.c4 (by decide)), (get_set h.c5 (by decide)), (get_set h.c6 (by decide)), (get_set h.c7 (by decide)), (get_set h.c8 (by decide)), (get_set h.c9 (by decide)), h.tagl, (h.tag.set (by rw [hbs_len h.tagl]; decide) _), (by obtain ⟨u, h1, h2⟩ := h.st; exact ⟨u, get_set h1 (by decide), h2⟩), (by obtain ⟨u, h1, h2⟩ := h.da; exact ⟨u, get_set h1 (by decide), h2⟩), h.saltl, (h.salt.set (by rw [hbs_len h.saltl]; decide) _), (get_set h.c76 (by decide)), h.coml, (h.com.set (by rw [hbs_len h.coml]; decide) _)⟩
theorem RecIn.set_tr (h : RecIn w C x) (n : Int) : RecIn w (C.setIfInBounds 4 (.int .i64 n)) { x with tr := n } :=
  ⟨(by simpa using h.size), (all_set h.one rfl _), (get_set h.c0 (by decide)), (get_set h.c1 (by decide)), (get_set h.c2 (by decide)), (get_set h.c3 (by decide)), (get_self (by rw [h.size]; decide)), (get_set h.c5 (by decide)), (get_set h.c6 (by decide)), (get_set h.c7 (by decide)), (get_set h.c8 (by decide)), (get_set h.c9 (by decide)), h.tagl, (h.tag.set (by rw [hbs_len h.tagl]; decide) _), (by obtain ⟨u, h1, h2⟩ := h.st; exact ⟨u, get_set h1 (by decide), h2⟩), (by obtain ⟨u, h1, h2⟩ := h.da; exact ⟨u, get_set h1 (by decide), h2⟩), h.saltl, (h.salt.set (by rw [hbs_len h.saltl]; decide) _), (get_set h.c76 (by decide)), h.coml, (h.com.set (by rw [hbs_len h.coml]; decide) _)⟩
theorem RecIn.set_bk (h : RecIn w C x) (n : Bool) : RecIn w (C.setIfInBounds 5 (.bool n)) { x with bk := n } :=
  ⟨(by simpa using h.size), (all_set h.one rfl _), (get_set h.c0 (by decide)), (get_set h.c1 (by decide)), (get_set h.c2 (by decide)), (get_set h.c3 (by decide)), (get_set h.c4 (by decide)), (get_self (by rw [h.size]; decide)), (get_set h.c6 (by decide)), (get_set h.c7 (by decide)), (get_set h.c8 (by decide)), (get_set h.c9 (by decide)), h.tagl, (h.tag.set (by rw [hbs_len h.tagl]; decide) _), (by obtain ⟨u, h1, h2⟩ := h.st; exact ⟨u, get_set h1 (by decide), h2⟩), (by obtain ⟨u, h1, h2⟩ := h.da; exact ⟨u, get_set h1 (by decide), h2⟩), h.saltl, (h.salt.set (by rw [hbs_len h.saltl]; decide) _), (get_set h.c76 (by decide)), h.coml, (h.com.set (by rw [hbs_len h.coml]; decide) _)⟩
theorem RecIn.set_good (h : RecIn w C x) (n : Bool) : RecIn w (C.setIfInBounds 6 (.bool n)) { x with good := n } :=
  ⟨(by simpa using h.size), (all_set h.one rfl _), (get_set h.c0 (by decide)), (get_set h.c1 (by decide)), (get_set h.c2 (by decide)), (get_set h.c3 (by decide)), (get_set h.c4 (by decide)), (get_set h.c5 (by decide)), (get_self (by rw [h.size]; decide)), (get_set h.c7 (by decide)), (get_set h.c8 (by decide)), (get_set h.c9 (by decide)), h.tagl, (h.tag.set (by rw [hbs_len h.tagl]; decide) _), (by obtain ⟨u, h1, h2⟩ := h.st; exact ⟨u, get_set h1 (by decide), h2⟩), (by obtain ⟨u, h1, h2⟩ := h.da; exact ⟨u, get_set h1 (by decide), h2⟩), h.saltl, (h.salt.set (by rw [hbs_len h.saltl]; decide) _), (get_set h.c76 (by decide)), h.coml, (h.com.set (by rw [hbs_len h.coml]; decide) _)⟩
theorem RecIn.set_nd (h : RecIn w C x) (n : Int) : RecIn w (C.setIfInBounds 7 (.int .i64 n)) { x with nd := n } :=
  ⟨(by simpa using h.size), (all_set h.one rfl _), (get_set h.c0 (by decide)), (get_set h.c1 (by decide)), (get_set h.c2 (by decide)), (get_set h.c3 (by decide)), (get_set h.c4 (by decide)), (get_set h.c5 (by decide)), (get_set h.c6 (by decide)), (get_self (by rw [h.size]; decide)), (get_set h.c8 (by decide)), (get_set h.c9 (by decide)), h.tagl, (h.tag.set (by rw [hbs_len h.tagl]; decide) _), (by obtain ⟨u, h1, h2⟩ := h.st; exact ⟨u, get_set h1 (by decide), h2⟩), (by obtain ⟨u, h1, h2⟩ := h.da; exact ⟨u, get_set h1 (by decide), h2⟩), h.saltl, (h.salt.set (by rw [hbs_len h.saltl]; decide) _), (get_set h.c76 (by decide)), h.coml, (h.com.set (by rw [hbs_len h.coml]; decide) _)⟩
theorem RecIn.set_part (h : RecIn w C x) (n : Int) : RecIn w (C.setIfInBounds 8 (.int .i64 n)) { x with part := n } :=
  ⟨(by simpa using h.size), (all_set h.one rfl _), (get_set h.c0 (by decide)), (get_set h.c1 (by decide)), (get_set h.c2 (by decide)), (get_set h.c3 (by decide)), (get_set h.c4 (by decide)), (get_set h.c5 (by decide)), (get_set h.c6 (by decide)), (get_set h.c7 (by decide)), (get_self (by rw [h.size]; decide)), (get_set h.c9 (by decide)), h.tagl, (h.tag.set (by rw [hbs_len h.tagl]; decide) _), (by obtain ⟨u, h1, h2⟩ := h.st; exact ⟨u, get_set h1 (by decide), h2⟩), (by obtain ⟨u, h1, h2⟩ := h.da; exact ⟨u, get_set h1 (by decide), h2⟩), h.saltl, (h.salt.set (by rw [hbs_len h.saltl]; decide) _), (get_set h.c76 (by decide)), h.coml, (h.com.set (by rw [hbs_len h.coml]; decide) _)⟩
theorem RecIn.set_epoch (h : RecIn w C x) (n : Int) : RecIn w (C.setIfInBounds 9 (.int .i64 n)) { x with epoch := n } :=
  ⟨(by simpa using h.size), (all_set h.one rfl _), (get_set h.c0 (by decide)), (get_set h.c1 (by decide)), (get_set h.c2 (by decide)), (get_set h.c3 (by decide)), (get_set h.c4 (by decide)), (get_set h.c5 (by decide)), (get_set h.c6 (by decide)), (get_set h.c7 (by decide)), (get_set h.c8 (by decide)), (get_self (by rw [h.size]; decide)), h.tagl, (h.tag.set (by rw [hbs_len h.tagl]; decide) _), (by obtain ⟨u, h1, h2⟩ := h.st; exact ⟨u, get_set h1 (by decide), h2⟩), (by obtain ⟨u, h1, h2⟩ := h.da; exact ⟨u, get_set h1 (by decide), h2⟩), h.saltl, (h.salt.set (by rw [hbs_len h.saltl]; decide) _), (get_set h.c76 (by decide)), h.coml, (h.com.set (by rw [hbs_len h.coml]; decide) _)⟩
theorem RecIn.set_gone (h : RecIn w C x) (n : Bool) : RecIn w (C.setIfInBounds 76 (.bool n)) { x with gone := n } :=
  ⟨(by simpa using h.size), (all_set h.one rfl _), (get_set h.c0 (by decide)), (get_set h.c1 (by decide)), (get_set h.c2 (by decide)), (get_set h.c3 (by decide)), (get_set h.c4 (by decide)), (get_set h.c5 (by decide)), (get_set h.c6 (by decide)), (get_set h.c7 (by decide)), (get_set h.c8 (by decide)), (get_set h.c9 (by decide)), h.tagl, (h.tag.set (by rw [hbs_len h.tagl]; decide) _), (by obtain ⟨u, h1, h2⟩ := h.st; exact ⟨u, get_set h1 (by decide), h2⟩), (by obtain ⟨u, h1, h2⟩ := h.da; exact ⟨u, get_set h1 (by decide), h2⟩), h.saltl, (h.salt.set (by rw [hbs_len h.saltl]; decide) _), (get_self (by rw [h.size]; decide)), h.coml, (h.com.set (by rw [hbs_len h.coml]; decide) _)⟩
theorem RecIn.set_steps (h : RecIn w C x) {v : Value} {l : List (Int × Int)} (hv : HoldsSt w v l) : RecIn w (C.setIfInBounds 42 v) { x with steps := l } :=
  ⟨(by simpa using h.size), (all_set h.one (by obtain ⟨a, c, rfl, _⟩ := hv; rfl) _), (get_set h.c0 (by decide)), (get_set h.c1 (by decide)), (get_set h.c2 (by decide)), (get_set h.c3 (by decide)), (get_set h.c4 (by decide)), (get_set h.c5 (by decide)), (get_set h.c6 (by decide)), (get_set h.c7 (by decide)), (get_set h.c8 (by decide)), (get_set h.c9 (by decide)), h.tagl, (h.tag.set (by rw [hbs_len h.tagl]; decide) _), ⟨v, get_self (by rw [h.size]; decide), hv⟩, (by obtain ⟨u, h1, h2⟩ := h.da; exact ⟨u, get_set h1 (by decide), h2⟩), h.saltl, (h.salt.set (by rw [hbs_len h.saltl]; decide) _), (get_set h.c76 (by decide)), h.coml, (h.com.set (by rw [hbs_len h.coml]; decide) _)⟩
theorem RecIn.set_data (h : RecIn w C x) {v : Value} {l : List Nat} (hv : HoldsBy w v l) : RecIn w (C.setIfInBounds 43 v) { x with data := l } :=
  ⟨(by simpa using h.size), (all_set h.one (by obtain ⟨a, c, rfl, _⟩ := hv; rfl) _), (get_set h.c0 (by decide)), (get_set h.c1 (by decide)), (get_set h.c2 (by decide)), (get_set h.c3 (by decide)), (get_set h.c4 (by decide)), (get_set h.c5 (by decide)), (get_set h.c6 (by decide)), (get_set h.c7 (by decide)), (get_set h.c8 (by decide)), (get_set h.c9 (by decide)), h.tagl, (h.tag.set (by rw [hbs_len h.tagl]; decide) _), (by obtain ⟨u, h1, h2⟩ := h.st; exact ⟨u, get_set h1 (by decide), h2⟩), ⟨v, get_self (by rw [h.size]; decide), hv⟩, h.saltl, (h.salt.set (by rw [hbs_len h.saltl]; decide) _), (get_set h.c76 (by decide)), h.coml, (h.com.set (by rw [hbs_len h.coml]; decide) _)⟩
theorem RecIn.set_tag (h : RecIn w C x) {l : List Int} (hl : l.length = 32) : RecIn w (puts C 10 (hbs l)) { x with tag := l } :=
  ⟨(by rw [puts_size]; exact h.size), (puts_one _ (hbs_one _) _ _ h.one), (get_puts h.c0 (by rw [hbs_len hl]; decide)), (get_puts h.c1 (by rw [hbs_len hl]; decide)), (get_puts h.c2 (by rw [hbs_len hl]; decide)), (get_puts h.c3 (by rw [hbs_len hl]; decide)), (get_puts h.c4 (by rw [hbs_len hl]; decide)), (get_puts h.c5 (by rw [hbs_len hl]; decide)), (get_puts h.c6 (by rw [hbs_len hl]; decide)), (get_puts h.c7 (by rw [hbs_len hl]; decide)), (get_puts h.c8 (by rw [hbs_len hl]; decide)), (get_puts h.c9 (by rw [hbs_len hl]; decide)), hl, (puts_in _ _ _ (by rw [hbs_len hl, h.size]; decide)), (by obtain ⟨u, h1, h2⟩ := h.st; exact ⟨u, get_puts h1 (by rw [hbs_len hl]; decide), h2⟩), (by obtain ⟨u, h1, h2⟩ := h.da; exact ⟨u, get_puts h1 (by rw [hbs_len hl]; decide), h2⟩), h.saltl, (h.salt.puts (by rw [hbs_len h.saltl, hbs_len hl]; decide)), (get_puts h.c76 (by rw [hbs_len hl]; decide)), h.coml, (h.com.puts (by rw [hbs_len h.coml, hbs_len hl]; decide))⟩
theorem RecIn.set_salt (h : RecIn w C x) {l : List Int} (hl : l.length = 32) : RecIn w (puts C 44 (hbs l)) { x with salt := l } :=
  ⟨(by rw [puts_size]; exact h.size), (puts_one _ (hbs_one _) _ _ h.one), (get_puts h.c0 (by rw [hbs_len hl]; decide)), (get_puts h.c1 (by rw [hbs_len hl]; decide)), (get_puts h.c2 (by rw [hbs_len hl]; decide)), (get_puts h.c3 (by rw [hbs_len hl]; decide)), (get_puts h.c4 (by rw [hbs_len hl]; decide)), (get_puts h.c5 (by rw [hbs_len hl]; decide)), (get_puts h.c6 (by rw [hbs_len hl]; decide)), (get_puts h.c7 (by rw [hbs_len hl]; decide)), (get_puts h.c8 (by rw [hbs_len hl]; decide)), (get_puts h.c9 (by rw [hbs_len hl]; decide)), h.tagl, (h.tag.puts (by rw [hbs_len h.tagl, hbs_len hl]; decide)), (by obtain ⟨u, h1, h2⟩ := h.st; exact ⟨u, get_puts h1 (by rw [hbs_len hl]; decide), h2⟩), (by obtain ⟨u, h1, h2⟩ := h.da; exact ⟨u, get_puts h1 (by rw [hbs_len hl]; decide), h2⟩), hl, (puts_in _ _ _ (by rw [hbs_len hl, h.size]; decide)), (get_puts h.c76 (by rw [hbs_len hl]; decide)), h.coml, (h.com.puts (by rw [hbs_len h.coml, hbs_len hl]; decide))⟩
theorem RecIn.set_com (h : RecIn w C x) {l : List Int} (hl : l.length = 32) : RecIn w (puts C 77 (hbs l)) { x with com := l } :=
  ⟨(by rw [puts_size]; exact h.size), (puts_one _ (hbs_one _) _ _ h.one), (get_puts h.c0 (by rw [hbs_len hl]; decide)), (get_puts h.c1 (by rw [hbs_len hl]; decide)), (get_puts h.c2 (by rw [hbs_len hl]; decide)), (get_puts h.c3 (by rw [hbs_len hl]; decide)), (get_puts h.c4 (by rw [hbs_len hl]; decide)), (get_puts h.c5 (by rw [hbs_len hl]; decide)), (get_puts h.c6 (by rw [hbs_len hl]; decide)), (get_puts h.c7 (by rw [hbs_len hl]; decide)), (get_puts h.c8 (by rw [hbs_len hl]; decide)), (get_puts h.c9 (by rw [hbs_len hl]; decide)), h.tagl, (h.tag.puts (by rw [hbs_len h.tagl, hbs_len hl]; decide)), (by obtain ⟨u, h1, h2⟩ := h.st; exact ⟨u, get_puts h1 (by rw [hbs_len hl]; decide), h2⟩), (by obtain ⟨u, h1, h2⟩ := h.da; exact ⟨u, get_puts h1 (by rw [hbs_len hl]; decide), h2⟩), h.saltl, (h.salt.puts (by rw [hbs_len h.saltl, hbs_len hl]; decide)), (get_puts h.c76 (by rw [hbs_len hl]; decide)), hl, (puts_in _ _ _ (by rw [hbs_len hl, h.size]; decide))⟩
end

/-- A block behind a store of many cells. -/
theorem setCells_block {b : Nat} {t : TypeId} (vs : List Value) : ∀ (w : World) (o : Nat) (C : Array Value), w.heap[b]? = some (.cells C t (0, 0)) → (w.setCells b o vs).heap[b]? = some (.cells (puts C o vs) t (0, 0)) := by
  induction vs with
  | nil => intro w o C h; exact h
  | cons v vs ih => intro w o C h; rw [World.setCells, puts]; exact ih _ _ _ (setCell_block h v)
theorem setCells_kept {b : Nat} (vs : List Value) : ∀ (w : World) (o : Nat), Kept (fun i => i = b) w (w.setCells b o vs) := by
  induction vs with
  | nil => intro w o; exact Kept.refl _ w
  | cons v vs ih => intro w o; rw [World.setCells]; exact ((Kept.refl (fun i => i = b) w).setCell (p := ⟨b, o, none⟩) (.inl rfl) v).trans (ih _ _)

theorem Tryd.isz26 : (Tryd.prog.info? 26).map (·.size) = some 32 := by kernel_rfl
section
variable {ops : Array Oper} {S : World → Prop} {dst : Option Tmp} {ty : TypeId} {pos : String} {aft : Array Edge} {gd : Option (Nat × Bool)} {x y : Operand} {a : Act} {w : World} {g o : Nat} {C : Array Value} {K : Act → World → Prop} {Q : Exit → Act → World → Prop} {E : Prop}
/-- A hash is read, in a region that draws its order. -/
theorem yields26 {l : List Int} (hw : Region.wanted ⟨dst, .load 26 x, ty, pos, aft, gd⟩ (yielded ops a.tmps) = true) (hx : a.eval x = .pointer (some ⟨g, o, none⟩)) (hg : ∀ w, S w → w.heap[g]? = some (.cells C 30 (0, 0))) (hl : l.length = 32) (hC : At C o (hbs l)) :
    YieldsIf Tryd.prog ops S ⟨dst, .load 26 x, ty, pos, aft, gd⟩ (.agg (hbs l).toArray) a :=
  yieldsIf_load_mid (P := Tryd.prog) hw 26 x rfl g o hx _ _ (fun w hS j v hv => by rw [cell_of_row _ _ _ _ _ _ (hg w hS)]; exact hC j v hv) Tryd.underlying26 rfl (by rw [Tryd.isz26, hbs_len hl])
/-- One cell is written, in a region that draws its order. -/
theorem step_put {v : Value} {t : TypeId} (hw : Region.wanted ⟨dst, .store t x y, ty, pos, aft, gd⟩ (yielded ops a.tmps) = true) (hx : a.eval x = .pointer (some ⟨g, o, none⟩)) (hy : a.eval y = v) (h1 : v.oneCell' = true) (hi : (Tryd.prog.info? t).map (·.size) = some 1) (hg : w.heap[g]? = some (.cells C 30 (0, 0))) (ho : o < C.size)
    (h : ∀ w', w'.heap[g]? = some (.cells (C.setIfInBounds o v) 30 (0, 0)) → Kept (fun i => i = g) w w' → K (a.put dst undef) w') :
    if Region.wanted ⟨dst, .store t x y, ty, pos, aft, gd⟩ (yielded ops a.tmps) = true then Oper.wp Tryd.prog ⟨dst, .store t x y, ty, pos, aft, gd⟩ a w K Q else E := by
  rw [if_pos hw]
  have hf := free_of_block (j := o) hg
  have hc := cell_of_block hg ho
  have e0 : ∀ j, j < ([v] : List Value).length → j = 0 := fun j hj => by simpa using hj
  have hs := run_storeCells_cells (P := Tryd.prog) g o [v] 0 w (fun j hj => by rw [e0 j hj]; simp [hc]) (fun j hj => by rw [e0 j hj]; simpa using hf) (by simpa using h1)
  have hn : v.cells = #[v] := by cases v <;> first | rfl | cases h1
  have hr : (Instr.storeAt t (.pointer (some ⟨g, o, none⟩)) v).run Tryd.prog w = .ok () (w.setCell ⟨g, o, none⟩ v) := by
    cases hq : Tryd.prog.info? t with
    | none => simp [hq] at hi
    | some i =>
      have hsz : i.size = 1 := by simpa [hq] using hi
      simp only [Nat.add_zero] at hs
      simp [Instr.storeAt, Instr.sureAddr, storeVar, sizeOf, typeInfo, hq, hn, hsz, hs, World.setCells]
  unfold Oper.wp execOp
  simp only [hx, hy, Sem.run_bind, Sem.run_pure, Result.andThen_ok, hr]
  exact h _ (setCell_block hg v) ((Kept.refl (fun i => i = g) w).setCell (p := ⟨g, o, none⟩) (.inl rfl) v)
/-- A hash is written, in a region that draws its order. -/
theorem step_puts {l : List Int} (hw : Region.wanted ⟨dst, .store 26 x y, ty, pos, aft, gd⟩ (yielded ops a.tmps) = true) (hx : a.eval x = .pointer (some ⟨g, o, none⟩)) (hy : a.eval y = .agg (hbs l).toArray) (hl : l.length = 32) (hg : w.heap[g]? = some (.cells C 30 (0, 0))) (ho : o + 32 ≤ C.size)
    (h : ∀ w', w'.heap[g]? = some (.cells (puts C o (hbs l)) 30 (0, 0)) → Kept (fun i => i = g) w w' → K (a.put dst undef) w') :
    if Region.wanted ⟨dst, .store 26 x y, ty, pos, aft, gd⟩ (yielded ops a.tmps) = true then Oper.wp Tryd.prog ⟨dst, .store 26 x y, ty, pos, aft, gd⟩ a w K Q else E := by
  rw [if_pos hw]
  refine wp_store_mid (P := Tryd.prog) 26 x y rfl g o _ hx hy (fun j hj => ?_) (by rw [Tryd.isz26]; simp [hbs_len hl]) (all_oneCell_toArray (hbs_one l)) ?_
  · have hj : j < 32 := by simpa [hbs_len hl] using hj
    refine ⟨?_, free_of_block hg⟩
    rw [cell_of_block hg (by omega)]; rfl
  · exact h _ (by simpa using setCells_block _ _ _ _ hg) (setCells_kept _ _ _)
/-- A hash is written, in a plain region. -/
theorem put26 {rest : List Oper} {l : List Int} (hx : a.eval x = .pointer (some ⟨g, o, none⟩)) (hy : a.eval y = .agg (hbs l).toArray) (hl : l.length = 32) (hg : w.heap[g]? = some (.cells C 30 (0, 0))) (ho : o + 32 ≤ C.size)
    (h : ∀ w', w'.heap[g]? = some (.cells (puts C o (hbs l)) 30 (0, 0)) → Kept (fun i => i = g) w w' → wpList Tryd.prog ops Q rest (a.put dst undef) w') :
    wpList Tryd.prog ops Q (⟨dst, .store 26 x y, ty, pos, aft, none⟩ :: rest) a w := by
  refine wpList_store_mid (P := Tryd.prog) rfl 26 x y rfl g o _ hx hy (fun j hj => ?_) (by rw [Tryd.isz26]; simp [hbs_len hl]) (all_oneCell_toArray (hbs_one l)) ?_
  · have hj : j < 32 := by simpa [hbs_len hl] using hj
    refine ⟨?_, free_of_block hg⟩
    rw [cell_of_block hg (by omega)]; rfl
  · exact h _ (by simpa using setCells_block _ _ _ _ hg) (setCells_kept _ _ _)
/-- A hash is read, in a plain region. -/
theorem load26 {rest : List Oper} {l : List Int} (hx : a.eval x = .pointer (some ⟨g, o, none⟩)) (hg : w.heap[g]? = some (.cells C 30 (0, 0))) (hl : l.length = 32) (hC : At C o (hbs l))
    (h : wpList Tryd.prog ops Q rest (a.put dst (.agg (hbs l).toArray)) w) : wpList Tryd.prog ops Q (⟨dst, .load 26 x, ty, pos, aft, none⟩ :: rest) a w :=
  wpList_load_mid (P := Tryd.prog) rfl 26 x rfl g o hx _ _ (fun j v hv => by rw [cell_of_row _ _ _ _ _ _ hg]; exact hC j v hv) Tryd.underlying26 rfl (by rw [Tryd.isz26, hbs_len hl]) h
end
end Go.Proofs.YtklmhegmombegaaDoor.Re
