/-
  The document's example, in plain Lean. Conditions: none.
-/
import Derived.Test.YtklmhegmombegaaDoorCheckA
set_option linter.unusedVariables false
set_option linter.unusedSimpArgs false
namespace Go.Proofs.YtklmhegmombegaaDoor
open Go Go.RowKit Plain
open Go.Proofs.YtklmhegmombegaaDoor.Re.Plain (Rx rightB)
namespace Plain
/-- A hash of one byte. -/
def h1 (n : Nat) : List Nat := n :: List.replicate 31 0
def kFew : Ky := ⟨[h1 1, h1 2], [h1 3, h1 4, h1 5], 2⟩
def xA (gd : Bool) (tg : List Nat) : Rx := { Re.Plain.Rx.zero with kind := 3, seq := 2, tr := 1, good := gd, part := 1, tag := tg.map fun (n : Nat) => (n : Int) }
def tA : List Nat := kRec kFew (xA true z32n)
theorem part_eq {p e : Int} {k : List Nat} (h : kKnown kFew p e = true) (hk : kFew.parts.getD p.toNat z32n = k) : kPart kFew p e = macKey k [1, e] := by rw [kPart, if_pos h, hk]
theorem kRec_xA (gd : Bool) (tg : List Nat) : kRec kFew (xA gd tg) = macKey (macKey (h1 2) [1, 0]) [2, 0, 0, 0, bitI gd] := by
  have hkn : kKnown kFew (xA gd tg).part (xA gd tg).epoch = true := by cases gd <;> rfl
  have hk : (xA gd tg).kind = 3 := rfl
  have hp : kPart kFew (xA gd tg).part (xA gd tg).epoch = macKey (h1 2) [1, 0] := part_eq hkn rfl
  rw [kRec, if_pos ⟨hk, hkn⟩, hp]
  cases gd <;> rfl
theorem tA_eq : tA = macKey (macKey (h1 2) [1, 0]) [2, 0, 0, 0, 1] := by rw [tA, kRec_xA]; rw [bitI, if_pos rfl]
theorem tA_ne : macKey (macKey (h1 2) [1, 0]) [2, 0, 0, 0, 0] ≠ macKey (macKey (h1 2) [1, 0]) [2, 0, 0, 0, 1] := by
  unfold macKey tagOf
  simp only [sha_shaF]
  decide +kernel
theorem kPart_ne : kPart kFew 0 1 ≠ kPart kFew 0 2 := by
  have e1 : kPart kFew 0 1 = macKey (h1 1) [1, 1] := part_eq (by rfl) rfl
  have e2 : kPart kFew 0 2 = macKey (h1 1) [1, 2] := part_eq (by rfl) rfl
  rw [e1, e2]
  unfold macKey tagOf
  simp only [sha_shaF]
  decide +kernel
theorem kPart_none : kPart kFew 2 0 = z32n := by rfl
theorem kMay_few : kMay kFew = true := by rfl
theorem check1 (n : Int) (root : List Nat) (hn : kSigns kFew 1 n = true) : kCheck kFew n root [(1, kSign kFew 1 n root)] = 8 := by
  obtain ⟨_, _, _, h0, h4⟩ := kSigns_iff hn
  have hw : Re.wi n 0 400 = true := Re.wi_true h0 h4
  unfold kCheck
  rw [kMay_few, hw]
  have hg : goodS kFew n root had0 [(1, kSign kFew 1 n root)] = true := by
    simp only [goodS, decide_true]
    rfl
  rw [hg]; rfl
theorem check2 (n : Int) (root : List Nat) (h0 : 0 ≤ n) (h4 : n ≤ 400) : kCheck kFew n root [(1, kSign kFew 1 n root), (0, kSign kFew 0 n root)] = 0 := by
  have hw : Re.wi n 0 400 = true := Re.wi_true h0 h4
  unfold kCheck
  rw [kMay_few, hw]
  have hg : goodS kFew n root had0 [(1, kSign kFew 1 n root), (0, kSign kFew 0 n root)] = true := by
    simp only [goodS, decide_true]
    rfl
  rw [hg]; rfl
theorem right_xA (gd : Bool) (tg : List Nat) : rightB (xA gd tg) = true := by
  cases gd <;> simp [rightB, Re.Plain.rangesB, xA, Re.Plain.keptX, Re.Plain.Rx.zero, Re.wi]
theorem holds_xA : kHolds kFew (xA true tA) tA = true := by
  unfold kHolds
  rw [right_xA, kRec_xA, tA_eq]
  have : decide (macKey (macKey (h1 2) [1, 0]) [2, 0, 0, 0, bitI true] = macKey (macKey (h1 2) [1, 0]) [2, 0, 0, 0, 1]) = true := decide_eq_true rfl
  rw [this]; rfl
theorem holds_yA : kHolds kFew (xA false tA) tA = false := by
  unfold kHolds
  rw [right_xA, kRec_xA, tA_eq]
  have : decide (macKey (macKey (h1 2) [1, 0]) [2, 0, 0, 0, bitI false] = macKey (macKey (h1 2) [1, 0]) [2, 0, 0, 0, 1]) = false := decide_eq_false tA_ne
  rw [this]; simp
end Plain
end Go.Proofs.YtklmhegmombegaaDoor
