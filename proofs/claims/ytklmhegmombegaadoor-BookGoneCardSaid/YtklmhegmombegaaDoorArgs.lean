/-
  What came in, opened: slices of elements of any number of cells; a field of an element; a slice of numbers.
-/
import Derived.Test.YtklmhegmombegaaDoorBuf
import Derived.ProofKit
import Derived.OpenShut
import Derived.Deep.Matrix
set_option linter.unusedVariables false
set_option linter.unusedSimpArgs false
namespace Go.Proofs.YtklmhegmombegaaDoor
open Go Go.RowKit Go.ChangeShapes Go.WideShapes Go.ChangeAt

section
variable {H : Type} {enc : TypeId × Value → H} {P : Program} {w : World}

/-- The reading of a value's cells. -/
def Reads (enc : TypeId × Value → H) (P : Program) (w : World) (t : TypeId) (cs : List Value) : Prop := ∃ m x, DataW.trod enc P w 0 (fun _ => true) true m t cs = some x

/-- A slice that came in: n elements of s cells each; element i's cells are 'F i'. -/
def Elems (enc : TypeId × Value → H) (P : Program) (w : World) (e : TypeId) (s : Nat) (a : Option Addr) (n : Nat) (F : Nat → List Value) : Prop :=
  n ≤ maxLen ∧ (n = 0 ∨ ∃ b o, a = some ⟨b, o, none⟩ ∧ ∀ i, i < n → (F i).length = s ∧ Reads enc P w e (F i) ∧ ∀ j, j < s → w.cell? ⟨b, o + i * s + j, none⟩ = (F i)[j]?)

theorem addr_plain {a : Addr} {v : Value} (h : w.cell? (a.add 0) = some v) : ∃ b o, a = ⟨b, o, none⟩ := by
  obtain ⟨b, o, sp⟩ := a
  cases sp with
  | none => exact ⟨b, o, rfl⟩
  | some t =>
    simp [World.cell?, Addr.add] at h
    split at h <;> cases h

theorem open_elems {t e : TypeId} {s : Nat} (ht : P.underlying t = some (.slice e)) (hs : P.cellsOf e = s) (hs0 : 0 < s) {cs : List Value} (h : Reads enc P w t cs) :
    ∃ a n c F, cs = [.slice a n c] ∧ n ≤ c ∧ (a = none → n = 0 ∧ c = 0) ∧ Elems enc P w e s a n F := by
  obtain ⟨m, x, h⟩ := h
  rcases Deep.open_slice ht h with ⟨rfl, _⟩ | ⟨a, len, cap, m', n, D, Pl, rfl, hb, hl, hm, hmm, rfl, hx⟩
  · exact ⟨none, 0, 0, fun _ => [], rfl, Nat.le_refl _, fun _ => ⟨rfl, rfl⟩, by unfold maxLen; omega, .inl rfl⟩
  · simp only [if_true] at hmm
    subst hmm
    rw [hs] at hx
    obtain ⟨F, hF⟩ := Deep.choose_lt (n := m') (α := List Value) (p := fun i cs' => w.cells? 0 (a.add (i * s)) s = some cs' ∧ ∃ y, DataW.trod enc P w 0 (fun _ => true) true n e cs' = some y)
      (fun i hi => by obtain ⟨cs', h1, h2⟩ := hx i hi; exact ⟨cs', h1, _, h2⟩)
    refine ⟨some a, len, m', F, rfl, hl, by simp, by omega, ?_⟩
    by_cases h0 : len = 0
    · exact .inl h0
    right
    have hlen : ∀ i, i < m' → (F i).length = s := fun i hi => (World.cells?_some (hF i hi).1).2.1
    have hcell : ∀ i, i < m' → ∀ j, j < s → w.cell? ((a.add (i * s)).add j) = (F i)[j]? := fun i hi j hj => (World.cells?_some (hF i hi).1).2.2 j hj
    have h00 := hcell 0 (by omega) 0 hs0
    have hl0 := hlen 0 (by omega)
    rw [List.getElem?_eq_getElem (by omega)] at h00
    have e0 : a.add (0 * s) = a := by simp [Addr.add]
    rw [e0] at h00
    obtain ⟨b, o, rfl⟩ := addr_plain h00
    refine ⟨b, o, rfl, fun i hi => ⟨hlen i (by omega), ⟨n, (hF i (by omega)).2⟩, fun j hj => ?_⟩⟩
    have := hcell i (by omega) j hj
    rwa [Addr.add_none, Addr.add_none] at this

theorem Reads.int {t : TypeId} {k : IntKind} (ht : P.underlying t = some (.int k)) {cs : List Value} (h : Reads enc P w t cs) : ∃ n : Int, cs = [.int k n] ∧ (Lit.int k n).wf = true := by
  obtain ⟨m, x, h⟩ := h
  obtain ⟨n, h1, _, h2⟩ := DataW.trod_int ht h
  exact ⟨n, h1, h2⟩
/-- A struct's field. -/
theorem Reads.field {t : TypeId} {fs : Array Field} (ht : P.underlying t = some (.struct fs)) {cs : List Value} (h : Reads enc P w t cs) {i : Nat} {f : Field} (hf : fs[i]? = some f) :
    Reads enc P w f.type ((cs.drop f.offset).take (P.cellsOf f.type)) := by
  obtain ⟨m, x, h⟩ := h
  obtain ⟨xs, n, _, _, _, hl, hx⟩ := DataW.trod_struct ht h
  have hi : i < xs.length := by rw [hl]; exact (Array.getElem?_eq_some_iff.1 hf).1
  have := hx i f hf
  rw [List.getElem?_eq_getElem hi] at this
  exact ⟨n, _, this⟩
/-- A slice of numbers. -/
theorem Reads.ints {t e : TypeId} {k : IntKind} (ht : P.underlying t = some (.slice e)) (he : P.underlying e = some (.int k)) (hs : P.cellsOf e = 1) {cs : List Value} (h : Reads enc P w t cs) :
    ∃ (a : Option Addr) (c : Nat) (zs : List Int), cs = [.slice a zs.length c] ∧ zs.length ≤ maxLen ∧ Rd w 1 (.slice a zs.length c) zs.length (zs.map (Value.int k)) ∧ ∀ z ∈ zs, (Lit.int k z).wf = true := by
  obtain ⟨m, x, h⟩ := h
  rcases open_ints ht he hs h with ⟨rfl, _⟩ | ⟨a, len, cap, zs, rfl, _, hl, hm, hz, _, hc, hw⟩
  · exact ⟨none, 0, [], rfl, by simp [maxLen], ⟨rfl, none, 0, rfl, .inl ⟨rfl, rfl, rfl⟩⟩, by simp⟩
  · simp only [if_true] at hz
    have hl' : (zs.take len).length = len := by rw [List.length_take]; omega
    refine ⟨some a, cap, zs.take len, by rw [hl'], by omega, ?_, fun z hz => hw z (List.mem_of_mem_take hz)⟩
    rw [hl']
    refine ⟨by simp; omega, some a, cap, rfl, .inr ⟨a, rfl, fun j u hu => ?_⟩⟩
    have hj : j < len := by
      have := (List.getElem?_eq_some_iff.1 hu).1
      simp at this; omega
    rw [hc j (by omega)]
    simp [hj] at hu
    obtain ⟨z, hz, rfl⟩ := hu
    simp [List.getD, hz]
theorem Reads.of_trod {t : TypeId} {v : Value} {d : DataW H} {p : List MemPlace} (h : DataW.Trod enc P w 0 (fun _ => true) true t v d p) : Reads enc P w t v.cells.toList := by
  obtain ⟨m, h⟩ := h
  exact ⟨m, _, h⟩
end
end Go.Proofs.YtklmhegmombegaaDoor
