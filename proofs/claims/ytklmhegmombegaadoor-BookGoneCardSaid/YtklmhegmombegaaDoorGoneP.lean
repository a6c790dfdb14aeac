/-
  Records redacted, in plain Lean. No program in sight.
-/
import Derived.Test.YtklmhegmombegaaDoorBkQ
set_option linter.unusedVariables false
set_option linter.unusedSimpArgs false
namespace Go.Proofs.YtklmhegmombegaaDoor.Re.Plain
/-- A record redacted, with a commitment. -/
def redX (x : Rx) (cm : List Int) : Rx := { Rx.zero with kind := 1, saga := x.saga, steps := x.steps, gone := true, com := cm }
theorem right_red {x : Rx} {cm : List Int} (h : rightB x = true) (hk : x.kind = 1) : rightB (redX x cm) = true := by
  have h' := h
  unfold rightB at h
  rw [Bool.and_eq_true] at h
  obtain ⟨hr, -⟩ := h
  unfold rangesB at hr
  rw [if_pos hk] at hr
  simp only [Bool.and_eq_true] at hr
  obtain ⟨h1, -, -, h4, h5, -⟩ := hr
  unfold rightB
  rw [Bool.and_eq_true]
  constructor
  · unfold rangesB redX
    simp only [Rx.zero, if_true, Bool.and_eq_true]
    exact ⟨h1, rfl, rfl, h4, h5, rfl⟩
  · refine decide_eq_true ?_
    unfold keptX
    rw [if_pos (show (redX x cm).kind = 1 from rfl), if_pos (show (redX x cm).gone = true from rfl)]
    rfl
theorem bgo_red {x : Rx} {cm : List Int} (h : rightB x = true) (hk : x.kind = 1) (b : Bk) (lim : Int) : bgo b (redX x cm) lim = bgo b x lim := by
  unfold bgo
  rw [right_red h hk, h]
  have e1 : (redX x cm).kind = 1 := rfl
  have e2 : bbegin b (redX x cm) = bbegin b x := rfl
  rw [e1, hk, e2]
  simp
/-- Two records let a book go alike. -/
def Like (x y : Rx) : Prop := ∀ (b : Bk) (lim : Int), bgo b y lim = bgo b x lim
theorem ofFrom_like {lim : Int} : ∀ (l m : List Rx) (b : Bk) (k : Nat), l.length = m.length → (∀ (i : Nat) (x y : Rx), l[i]? = some x → m[i]? = some y → Like x y) → ofFrom lim b k m = ofFrom lim b k l
  | [], [], _, _, _, _ => rfl
  | [], _ :: _, _, _, h, _ => by simp at h
  | _ :: _, [], _, _, h, _ => by simp at h
  | x :: l, y :: m, b, k, h, hl => by
    have e := hl 0 x y rfl rfl b lim
    have hr : ∀ (c : Bk), ofFrom lim c (k + 1) m = ofFrom lim c (k + 1) l := fun c => ofFrom_like l m c (k + 1) (by simpa using h) (fun i x' y' hx hy => hl (i + 1) x' y' (by simpa using hx) (by simpa using hy))
    cases hb : bgo b x lim with
    | none => rw [ofFrom_no hb, ofFrom_no (e.trans hb)]
    | some c => rw [ofFrom_yes hb, ofFrom_yes (e.trans hb), hr]
theorem bookOf_like {l m : List Rx} {lim : Int} (h : l.length = m.length) (hl : ∀ (i : Nat) (x y : Rx), l[i]? = some x → m[i]? = some y → Like x y) : bookOf m lim = bookOf l lim := ofFrom_like l m _ _ h hl
/-- Of a clean report, nothing is missing. -/
theorem clean_none {l : List Rx} {lim : Int} (hc : cleanB (repL (bookOf l lim).1.sagas) = true) : ∀ q ∈ repL (bookOf l lim).1.sagas, q.2 = 0 := by
  intro q hq
  have hg : BGood lim.toNat (bookOf l lim).1 := BGood.of l Bk.zero 0 (BGood.zero _)
  obtain ⟨s, hs, rfl⟩ := List.mem_map.1 hq
  obtain ⟨n, hm, hi⟩ := hg.sagas s hs
  have hd : notDone (lineOf s) = false := by
    unfold cleanB at hc
    rw [Bool.not_eq_true'] at hc
    simpa using List.any_eq_false.1 hc _ hq
  have h23 : s.phase = 2 ∨ s.phase = 3 := by
    simp only [notDone, lineOf, Bool.and_eq_false_iff, bne_eq_false_iff_eq] at hd
    omega
  have ho : over s = true := by
    unfold over
    rcases h23 with h | h <;> rw [h] <;> rfl
  have h0 := (ends_all hm hi ho).2.2.1
  have : missing s = 0 := by
    rcases h0 with h | h
    · omega
    · exact h
  show ((missing s : Nat) : Int) = 0
  rw [this]; rfl
end Go.Proofs.YtklmhegmombegaaDoor.Re.Plain
