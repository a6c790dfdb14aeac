/-
  Keys, in plain Lean and in memory; the contracts of May, known, Part. Conditions: as each theorem says.
-/
import Derived.Test.YtklmhegmombegaaDoorMacA
import Derived.Test.YtklmhegmombegaaDoorRecE
set_option linter.unusedVariables false
set_option linter.unusedSimpArgs false
namespace Go.Proofs.YtklmhegmombegaaDoor
open Go Go.RowKit Plain
open Go.Proofs.YtklmhegmombegaaDoor.Re (wi wi_true wi_false)

namespace Plain
/-- Keys. -/
structure Ky where
  parts : List (List Nat)
  wits : List (List Nat)
  need : Int
def z32n : List Nat := List.replicate 32 0
def kMay (k : Ky) : Bool := wi k.parts.length 1 4 && (wi k.wits.length 1 4 && wi k.need 1 k.wits.length)
def kKnown (k : Ky) (part epoch : Int) : Bool := kMay k && (wi part 0 ((k.parts.length : Int) - 1) && wi epoch 0 400)
def kPart (k : Ky) (part epoch : Int) : List Nat := if kKnown k part epoch = true then macKey (k.parts.getD part.toNat z32n) [1, epoch] else z32n
theorem kPart_len (k : Ky) (p e : Int) : (kPart k p e).length = 32 := by
  unfold kPart
  split
  · exact sha_len _
  · rfl
theorem kPart_all (k : Ky) (p e : Int) : All8 (kPart k p e) := by
  unfold kPart
  split
  · exact sha_all _
  · intro x hx; rw [List.eq_of_mem_replicate hx]; decide
end Plain

/-- Hashes that a slice holds. -/
structure HHash (w : World) (v : Value) (l : List (List Nat)) : Prop where
  rd : Rd w 32 v l.length (l.flatMap bys)
  each : ∀ h ∈ l, h.length = 32 ∧ All8 h
  len : l.length ≤ 1000
  lt : ∀ k, v.ownBlock = some k → k < w.heap.size
theorem HHash.kept {w w' : World} {v : Value} {l : List (List Nat)} (h : HHash w v l) (k : Kept (fun _ => False) w w') : HHash w' v l := ⟨h.rd.kept k (fun _ _ h => h), h.each, h.len, fun j e => Nat.lt_of_lt_of_le (h.lt j e) k.size⟩
theorem HHash.form {w : World} {v : Value} {l : List (List Nat)} (h : HHash w v l) : ∃ a c, v = .slice a l.length c := by obtain ⟨_, a, c, e, _⟩ := h.rd; exact ⟨a, c, e⟩
theorem flat32_get {l : List (List Nat)} (h : ∀ x ∈ l, x.length = 32) {i j : Nat} (hi : i < l.length) (hj : j < 32) : (l.flatMap bys)[i * 32 + j]? = some (.int .u8 ((l[i].getD j 0 : Nat) : Int)) := by
  induction l generalizing i with
  | nil => simp at hi
  | cons x l ih =>
    have hx := h x (by simp)
    rw [List.flatMap_cons]
    cases i with
    | zero =>
      rw [List.getElem?_append_left (by rw [bys_len, hx]; omega), Nat.zero_mul, Nat.zero_add]
      simp [bys, List.getD_eq_getElem?_getD, List.getElem?_eq_getElem (show j < x.length by omega)]
    | succ i =>
      rw [List.getElem?_append_right (by rw [bys_len, hx]; omega), bys_len, hx, show (i + 1) * 32 + j - 32 = i * 32 + j by omega, ih (fun y hy => h y (by simp [hy])) (by simpa using hi)]
      rfl
/-- One of the hashes, in memory. -/
theorem HHash.at {w : World} {v : Value} {l : List (List Nat)} (h : HHash w v l) {i : Nat} (hi : i < l.length) : ∃ b o c, v = .slice (some ⟨b, o, none⟩) l.length c ∧ b < w.heap.size ∧ w.rangeAt b (o + i * 32) (ints .u8 l[i]).toList := by
  obtain ⟨b, o, c, e, hc⟩ := h.rd.addr (by omega)
  refine ⟨b, o, c, e, h.lt b (by rw [e]; rfl), fun j v hv => ?_⟩
  rw [ints_toList, List.getElem?_map] at hv
  obtain ⟨n, hn, rfl⟩ := Option.map_eq_some_iff.1 hv
  have hj : j < 32 := by have := (List.getElem?_eq_some_iff.1 hn).1; rwa [(h.each _ (List.getElem_mem hi)).1] at this
  have := hc (i * 32 + j) _ (flat32_get (fun x hx => (h.each x hx).1) hi hj)
  rw [← Nat.add_assoc] at this
  rw [this, List.getD_eq_getElem?_getD, hn]; rfl
structure KyIn (w : World) (pv wv : Value) (k : Ky) : Prop where
  parts : HHash w pv k.parts
  wits : HHash w wv k.wits
theorem KyIn.kept {w w' : World} {pv wv : Value} {k : Ky} (h : KyIn w pv wv k) (kk : Kept (fun _ => False) w w') : KyIn w' pv wv k := ⟨h.parts.kept kk, h.wits.kept kk⟩

theorem f_within (n lo hi : Int) (w : World) : Calls Tryd.prog 53 #[.int .i64 n, .int .i64 lo, .int .i64 hi] w fun e w' => e = .returned (.bool (wi n lo hi)) ∧ w = w' := by
  unfold wi
  by_cases h : lo ≤ n
  · have h1 : decide (lo ≤ n) = true := by simpa using h
    go_enter Tryd.func53, Tryd.ntmps53
    go_wp2_with fail
    go_ret
    exact ⟨by simp [h], rfl⟩
  · have h1 : decide (lo ≤ n) = false := by simpa using h
    go_enter Tryd.func53, Tryd.ntmps53
    go_wp2_with fail
    go_ret
    exact ⟨by simp, rfl⟩
theorem f_within_is {n lo hi : Int} {b : Bool} (h : wi n lo hi = b) (w : World) : Calls Tryd.prog 53 #[.int .i64 n, .int .i64 lo, .int .i64 hi] w fun e w' => e = .returned (.bool b) ∧ w = w' := by
  subst h; exact f_within n lo hi w
theorem f_may (pv wv : Value) (k : Ky) (w : World) (h : KyIn w pv wv k) : Calls Tryd.prog 19 #[.agg #[pv, wv, .int .i64 k.need]] w (BPost (kMay k) w) := by
  obtain ⟨pa, pc, rfl⟩ := h.parts.form
  obtain ⟨wa, wc, rfl⟩ := h.wits.form
  obtain ⟨P, W, nd⟩ := k
  dsimp only
  cases h1 : wi P.length 1 4 with
  | false =>
    have E : Hid (kMay ⟨P, W, nd⟩ = false) := by show _ = _; simp [kMay, h1]
    have W1 := Lib.hid h1
    clear h1 h
    go_enter Tryd.func19, Tryd.ntmps19
    go_wp2_with fail
    refine (f_within_is W1.out _).mono ?_
    rintro e w1 ⟨rfl, rfl⟩
    go_wp2_with fail
    go_ret
    exact BPost.mk E.out ((Kept.refl _ w).alloc _)
  | true =>
    cases h2 : wi W.length 1 4 with
    | false =>
      have E : Hid (kMay ⟨P, W, nd⟩ = false) := by show _ = _; simp [kMay, h1, h2]
      have W1 := Lib.hid h1
      have W2 := Lib.hid h2
      clear h1 h2 h
      go_enter Tryd.func19, Tryd.ntmps19
      go_wp2_with fail
      refine (f_within_is W1.out _).mono ?_
      rintro e w1 ⟨rfl, rfl⟩
      go_wp2_with fail
      refine (f_within_is W2.out _).mono ?_
      rintro e w1 ⟨rfl, rfl⟩
      go_wp2_with fail
      go_ret
      exact BPost.mk E.out ((Kept.refl _ w).alloc _)
    | true =>
      have E : Hid (kMay ⟨P, W, nd⟩ = wi nd 1 W.length) := by show _ = _; simp [kMay, h1, h2]
      have W1 := Lib.hid h1
      have W2 := Lib.hid h2
      clear h1 h2 h
      go_enter Tryd.func19, Tryd.ntmps19
      go_wp2_with fail
      refine (f_within_is W1.out _).mono ?_
      rintro e w1 ⟨rfl, rfl⟩
      go_wp2_with fail
      refine (f_within_is W2.out _).mono ?_
      rintro e w1 ⟨rfl, rfl⟩
      go_wp2_with fail
      refine (f_within _ _ _ _).mono ?_
      rintro e w1 ⟨rfl, rfl⟩
      go_wp2_with fail
      go_ret
      exact BPost.mk E.out ((Kept.refl _ w).alloc _)
end Go.Proofs.YtklmhegmombegaaDoor
