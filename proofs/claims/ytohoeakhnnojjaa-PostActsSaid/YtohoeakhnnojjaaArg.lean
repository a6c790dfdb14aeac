/-
  What came in: a slice of calls, a slice of acts.
-/
import Derived.Test.YtohoeakhnnojjaaArgs
import Derived.Test.YtohoeakhnnojjaaSame
import Derived.DeepKeys2
namespace Go.Proofs.Ytohoeakhnnojjaa
open Go Go.RowKit Go.ChangeShapes Go.WideShapes Go.ChangeAt

/-- A slice of calls that came in. -/
def IsCalls (w : World) (v : Value) : Prop :=
  ∃ (a : Option Addr) (c : Nat) (q : List (Array Value)), v = .slice a q.length c ∧ q.length ≤ maxLen ∧ (∀ C ∈ q, Callish C) ∧ Rd w 41 v q.length (flat q)
/-- A slice of acts that came in: their kinds, their calls. -/
def IsActs (w : World) (v : Value) : Prop :=
  ∃ (a : Option Addr) (n c : Nat) (K : Nat → Int) (q : Nat → Array Value), v = .slice a n c ∧ n ≤ maxLen ∧ (n = 0 ∨ ∃ b o, a = some ⟨b, o, none⟩ ∧
    ∀ i, i < n → w.cell? ⟨b, o + i * 42, none⟩ = some (.int .i64 (K i)) ∧ Callish (q i) ∧ w.rangeAt b (o + i * 42 + 1) (q i).toList)

theorem cells28 : Try.prog.cellsOf 28 = 41 := by kernel_rfl
theorem cells39 : Try.prog.cellsOf 39 = 42 := by kernel_rfl
theorem cells3 : Try.prog.cellsOf 3 = 1 := by kernel_rfl
theorem tiled28 : Try.prog.tiled 3 28 = true := by kernel_rfl

theorem Callish.of_reads {H : Type} {enc : TypeId × Value → H} {w : World} {cs : List Value} (hl : cs.length = 41) (h : Reads enc Try.prog w 28 cs) : Callish cs.toArray := by
  obtain ⟨m, x, hx⟩ := h
  have hk := (keyLits_of_trod 3 28 keyType28 m cs x hx).1
  have hc := cells_of_lits 3 28 tiled28 3 cs _ hk
  refine ⟨by simp [hl], ?_, _, hk⟩
  refine Array.all_eq_true_iff_forall_mem.2 fun v hv => ?_
  have hv' : v ∈ cs := by simpa using hv
  rw [hc] at hv'
  obtain ⟨l, _, rfl⟩ := List.mem_map.1 hv'
  cases l <;> rfl

theorem IsCalls.of {H : Type} {enc : TypeId × Value → H} {W : World} {base : Nat} {v : Value} {d : DataW H} {p : List MemPlace} (ho : Value.okWide Try.prog W .any base 32 v)
    (h : DataW.Trod enc Try.prog W 0 (fun _ => true) true 32 v d p) : IsCalls W v := by
  obtain ⟨a0, len, cap, rfl⟩ := okWide_slice Try.underlying32 ho
  obtain ⟨a, n, c, F, hcs, _, hnil, hm, hF⟩ := open_elems Try.underlying32 cells28 (by decide) (Reads.of_trod h)
  have hcs' : Value.slice a0 len cap = .slice a n c := by simpa [Value.cells] using hcs
  rw [hcs']
  have hlen : ((List.range n).map fun i => (F i).toArray).length = n := by simp
  have hget : ∀ i, i < n → ((List.range n).map fun i => (F i).toArray)[i]? = some (F i).toArray := fun i hi => by simp [hi]
  have hall : ∀ C ∈ (List.range n).map fun i => (F i).toArray, Callish C := by
    intro C hC
    obtain ⟨i, hi, rfl⟩ := List.mem_map.1 hC
    have hi' : i < n := by simpa using hi
    rcases hF with h0 | ⟨b, o, rfl, hx⟩
    · omega
    · exact Callish.of_reads (hx i hi').1 (hx i hi').2.1
  refine ⟨a, c, (List.range n).map fun i => (F i).toArray, by rw [hlen], by rw [hlen]; exact hm, hall, ?_⟩
  rw [hlen]
  refine ⟨by rw [flat_length hall, hlen], a, c, rfl, ?_⟩
  rcases hF with h0 | ⟨b, o, rfl, hx⟩
  · subst h0
    cases a with
    | none => exact .inl ⟨rfl, rfl, (hnil rfl).2⟩
    | some ad => exact .inr ⟨ad, rfl, fun j u hu => by simp [flat] at hu⟩
  · refine .inr ⟨_, rfl, fun j u hu => ?_⟩
    have hj : j < n * 41 := by
      have := (List.getElem?_eq_some_iff.1 hu).1
      rwa [flat_length hall, hlen] at this
    have hk : j / 41 < n := by omega
    have hr : j % 41 < 41 := Nat.mod_lt _ (by decide)
    obtain ⟨h1, _, h2⟩ := hx _ hk
    have hv : (F (j / 41)).toArray.toList[j % 41]? = some ((F (j / 41))[j % 41]'(by omega)) := by simp
    have hf := flat_get hall (hget _ hk) _ _ hv
    have e : j / 41 * 41 + j % 41 = j := by omega
    rw [e, hu] at hf
    rw [Addr.add_none]
    have := h2 _ hr
    rw [Nat.add_assoc, e] at this
    rw [this, List.getElem?_eq_getElem (by omega), hf]

theorem IsActs.of {H : Type} {enc : TypeId × Value → H} {W : World} {base : Nat} {v : Value} {d : DataW H} {p : List MemPlace} (ho : Value.okWide Try.prog W .any base 22 v)
    (h : DataW.Trod enc Try.prog W 0 (fun _ => true) true 22 v d p) : IsActs W v := by
  obtain ⟨a0, len, cap, rfl⟩ := okWide_slice Try.underlying22 ho
  obtain ⟨a, n, c, F, hcs, _, _, hm, hF⟩ := open_elems Try.underlying22 cells39 (by decide) (Reads.of_trod h)
  have hcs' : Value.slice a0 len cap = .slice a n c := by simpa [Value.cells] using hcs
  rw [hcs']
  have each : ∀ i, i < n → ∃ q : Int × Array Value, n = 0 ∨ ∃ b o, a = some ⟨b, o, none⟩ ∧ W.cell? ⟨b, o + i * 42, none⟩ = some (.int .i64 q.1) ∧ Callish q.2 ∧ W.rangeAt b (o + i * 42 + 1) q.2.toList := by
    intro i hi
    rcases hF with h0 | ⟨b, o, rfl, hx⟩
    · omega
    obtain ⟨hl, hr, hc⟩ := hx i hi
    have r0 : Reads enc Try.prog W 3 (((F i).drop 0).take (Try.prog.cellsOf 3)) := hr.field Try.underlying39 (i := 0) rfl
    have r1 : Reads enc Try.prog W 28 (((F i).drop 1).take (Try.prog.cellsOf 28)) := hr.field Try.underlying39 (i := 1) rfl
    rw [cells3] at r0
    rw [cells28] at r1
    obtain ⟨k, e0, _⟩ := Reads.int Try.underlying3 r0
    have hl1 : (((F i).drop 1).take 41).length = 41 := by simp [hl]
    refine ⟨(k, (((F i).drop 1).take 41).toArray), .inr ⟨b, o, rfl, ?_, Callish.of_reads hl1 r1, ?_⟩⟩
    · have := hc 0 (by decide)
      rw [Nat.add_zero] at this
      rw [this]
      have e : (F i)[0]? = (((F i).drop 0).take 1)[0]? := by simp
      rw [e, e0]; rfl
    · intro j u hu
      have hj : j < 41 := by
        have := (List.getElem?_eq_some_iff.1 hu).1
        simp [hl] at this; omega
      have := hc (1 + j) (by omega)
      rw [← Nat.add_assoc] at this
      rw [this]
      simpa [hj, Nat.add_comm] using hu
  obtain ⟨q, hq⟩ := Deep.choose_lt each
  refine ⟨a, n, c, fun i => (q i).1, fun i => (q i).2, rfl, hm, ?_⟩
  rcases hF with h0 | ⟨b, o, rfl, _⟩
  · exact .inl h0
  · by_cases h0 : n = 0
    · exact .inl h0
    refine .inr ⟨b, o, rfl, fun i hi => ?_⟩
    rcases hq i hi with h1 | ⟨b', o', e, h2⟩
    · omega
    · simp only [Option.some.injEq, Addr.mk.injEq] at e
      obtain ⟨rfl, rfl, _⟩ := e
      exact h2
end Go.Proofs.Ytohoeakhnnojjaa
