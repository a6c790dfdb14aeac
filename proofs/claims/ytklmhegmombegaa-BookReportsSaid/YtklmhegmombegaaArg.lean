/-
  What came in: a slice of steps; a slice of numbers; a record.
-/
import Derived.Test.YtklmhegmombegaaArgs
import Derived.Test.YtklmhegmombegaaAlive
set_option linter.unusedVariables false
set_option linter.unusedSimpArgs false
namespace Go.Proofs.Ytklmhegmombegaa
open Go Go.RowKit Go.ChangeShapes Go.WideShapes Go.ChangeAt Plain

/-- A slice of steps that came in. -/
def IsSteps (w : World) (v : Value) : Prop :=
  ∃ (a : Option Addr) (c : Nat) (l : List (Int × Int)), v = .slice a l.length c ∧ l.length ≤ maxLen ∧ (l = [] ∨ Stp w v l)
theorem cells34 : Try.prog.cellsOf 34 = 2 := by kernel_rfl
theorem cells3 : Try.prog.cellsOf 3 = 1 := by kernel_rfl
set_option maxRecDepth 100000 in
theorem IsSteps.of {H : Type} {enc : TypeId × Value → H} {W : World} {base : Nat} {v : Value} {d : DataW H} {p : List MemPlace} (ho : Value.okWide Try.prog W .any base 22 v)
    (h : DataW.Trod enc Try.prog W 0 (fun _ => true) true 22 v d p) : IsSteps W v := by
  obtain ⟨a0, len, cap, rfl⟩ := okWide_slice Try.underlying22 ho
  obtain ⟨a, n, c, F, hcs, _, _, hm, hF⟩ := open_elems Try.underlying22 cells34 (by decide) (Reads.of_trod h)
  have hcs' : Value.slice a0 len cap = .slice a n c := by simpa [Value.cells] using hcs
  rw [hcs']
  rcases hF with rfl | ⟨b, o, rfl, hx⟩
  · exact ⟨a, c, [], rfl, Nat.zero_le _, .inl rfl⟩
  by_cases h0 : n = 0
  · subst h0; exact ⟨_, c, [], rfl, Nat.zero_le _, .inl rfl⟩
  have each : ∀ i, i < n → ∃ q : Int × Int, W.cell? ⟨b, o + i * 2, none⟩ = some (.int .i64 q.1) ∧ W.cell? ⟨b, o + i * 2 + 1, none⟩ = some (.int .i64 q.2) := by
    intro i hi
    obtain ⟨hl, hr, hc⟩ := hx i hi
    have r0 : Reads enc Try.prog W 3 (((F i).drop 0).take (Try.prog.cellsOf 3)) := hr.field Try.underlying34 (i := 0) rfl
    have r1 : Reads enc Try.prog W 3 (((F i).drop 1).take (Try.prog.cellsOf 3)) := hr.field Try.underlying34 (i := 1) rfl
    rw [cells3] at r0 r1
    obtain ⟨k, e0, _⟩ := Reads.int Try.underlying3 r0
    obtain ⟨m, e1, _⟩ := Reads.int Try.underlying3 r1
    refine ⟨(k, m), ?_, ?_⟩
    · have := hc 0 (by decide)
      rw [Nat.add_zero] at this
      rw [this]
      have e : (F i)[0]? = (((F i).drop 0).take 1)[0]? := by simp
      rw [e, e0]; rfl
    · have := hc 1 (by decide)
      rw [this]
      have e : (F i)[1]? = (((F i).drop 1).take 1)[0]? := by simp
      rw [e, e1]; rfl
  obtain ⟨q, hq⟩ := Deep.choose_lt each
  have hlen : ((List.range n).map q).length = n := by simp
  have hst : Stp W (.slice (some ⟨b, o, none⟩) n c) ((List.range n).map q) := by
    refine ⟨?_, fun k e => ?_⟩
    · rw [hlen]
      refine ⟨by rw [flat2_length, hlen], _, c, rfl, .inr ⟨_, rfl, fun j u hu => ?_⟩⟩
      have hj : j < n * 2 := by
        have := (List.getElem?_eq_some_iff.1 hu).1
        rwa [flat2_length, hlen] at this
      have hk : j / 2 < n := by omega
      obtain ⟨g1, g2⟩ := flat2_get (l := (List.range n).map q) (i := j / 2) (by rw [hlen]; exact hk)
      obtain ⟨h1, h2⟩ := hq (j / 2) hk
      have e' : ((List.range n).map q)[j / 2]'(by rw [hlen]; exact hk) = q (j / 2) := by simp
      rw [e'] at g1 g2
      rw [Addr.add_none]
      rcases Nat.mod_two_eq_zero_or_one j with hm2 | hm2
      · have ej : j / 2 * 2 = j := by omega
        rw [ej] at g1 h1
        rw [h1, ← g1, hu]
      · have ej : j / 2 * 2 + 1 = j := by omega
        rw [Nat.add_assoc, ej] at h2
        rw [ej] at g2
        rw [h2, ← g2, hu]
    · cases e
      have h1 := (hq 0 (by omega)).1
      simp only [World.cell?] at h1
      cases hb : W.heap[b]? with
      | none => rw [hb] at h1; simp at h1
      | some ob => exact (Array.getElem?_eq_some_iff.1 hb).1
  refine ⟨_, c, (List.range n).map q, by rw [hlen], by rw [hlen]; exact hm, .inr hst⟩

/-- May's answer where there are none, or too many. -/
theorem f_mayno (a : Option Addr) (n c : Nat) (w : World) (hn : ¬ (1 ≤ n ∧ n ≤ 6)) : Calls Try.prog 14 #[.slice a n c] w (BPost false w) := by
  have hwi : wi (n : Int) 1 6 = false := wi_false (by omega)
  have HW := Lib.hid hwi
  clear hwi hn
  go_enter Try.func14, Try.ntmps14
  go_wp2_with fail
  refine (f_within_is HW.out _).mono ?_
  rintro e w1 ⟨rfl, rfl⟩
  go_wp2_with fail
  go_ret
  exact BPost.mk rfl (Kept.refl _ _)
/-- What May says of steps that came in. -/
theorem IsSteps.may {w : World} {v : Value} (h : IsSteps w v) : ∃ b, (∀ w', Kept (fun _ => False) w w' → Calls Try.prog 14 #[v] w' (BPost b w')) ∧ (b = true → ∃ (a : Option Addr) (c : Nat) (l : List (Int × Int)), v = .slice a l.length c ∧ Stp w v l ∧ mayB l = true) := by
  obtain ⟨a, c, l, rfl, hm, hl⟩ := h
  by_cases hn : 1 ≤ l.length ∧ l.length ≤ 6
  · have hst : Stp w (.slice a l.length c) l := by
      rcases hl with rfl | h
      · simp at hn
      · exact h
    exact ⟨mayB l, fun w' k => f_may _ l w' (hst.kept k) (by omega), fun hb => ⟨a, c, l, rfl, hst, hb⟩⟩
  · exact ⟨false, fun w' _ => f_mayno a l.length c w' hn, fun h => by cases h⟩
end Go.Proofs.Ytklmhegmombegaa
