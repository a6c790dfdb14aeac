/-
  Laws for the walks of KeysBare and KeysEnough. Conditions: as each theorem says.
-/
import Derived.Test.YtklmhegmombegaaDoorLongA
set_option linter.unusedVariables false
set_option linter.unusedSimpArgs false
set_option maxRecDepth 100000
namespace Go.Proofs.YtklmhegmombegaaDoor
open Go Go.RowKit Plain

section
variable {ops : Array Oper} {rest : List Oper} {dst : Option Tmp} {ty : TypeId} {pos : String} {aft : Array Edge} {gd : Option (Nat × Bool)} {a : Act} {w : World} {Q : Exit → Act → World → Prop}
theorem build40v {k : Int} {x y : Operand} {tag : List Nat} (hx : a.eval x = .int .i64 k) (hy : a.eval y = .agg (ints .u8 tag)) (hl : tag.length = 32) (h : wpList Tryd.prog ops Q rest (a.put dst (.agg (ptA k tag (.slice none 0 0)))) w) : wpList Tryd.prog ops Q (⟨dst, .build 40 #[(0, x), (1, y)], ty, pos, aft, none⟩ :: rest) a w := by
  refine wpList_buildTo (P := Tryd.prog) rfl 40 _ rfl dst rfl (ptA k tag (.slice none 0 0)) ?_ h
  simp only [List.map_toArray, List.map_cons, List.map_nil, hx, hy]
  exact built40 tag hl
theorem build49v {k : Int} {x y : Operand} {tag : List Nat} (hx : a.eval x = .int .i64 k) (hy : a.eval y = .agg (ints .u8 tag)) (hl : tag.length = 32) (h : wpList Tryd.prog ops Q rest (a.put dst (.agg (sigC (k, tag)).toArray)) w) : wpList Tryd.prog ops Q (⟨dst, .build 49 #[(0, x), (1, y)], ty, pos, aft, none⟩ :: rest) a w := by
  refine wpList_buildTo (P := Tryd.prog) rfl 49 _ rfl dst rfl (sigC (k, tag)).toArray ?_ h
  simp only [List.map_toArray, List.map_cons, List.map_nil, hx, hy]
  exact built49 tag hl
theorem build49n (k : Int) (h : wpList Tryd.prog ops Q rest (a.put dst (.agg (sigC (k, z32n)).toArray)) w) : wpList Tryd.prog ops Q (⟨dst, .build 49 #[(0, .const (.int .i64 k))], ty, pos, aft, none⟩ :: rest) a w := by
  refine wpList_plain rfl fun K hK => ?_
  go_simp
  exact hK _ _ h
/-- Signatures in a row. -/
def rowsS (l : List (Int × List Nat)) : Array Value := (l.flatMap sigC).toArray
theorem slice38_2 {x y : Operand} {s t : Int × List Nat} (hx : a.eval x = .agg (sigC s).toArray) (hC : s.2.length = 32) (hy : a.eval y = .agg (sigC t).toArray) (hD : t.2.length = 32)
    (h : wpList Tryd.prog ops Q rest (a.put dst (.slice (some ⟨w.heap.size, 0, none⟩) 2 2)) (w.alloc (.cells (rowsS [s, t]) 49))) : wpList Tryd.prog ops Q (⟨dst, .buildSlice 38 2 #[(0, x), (1, y)], ty, pos, aft, none⟩ :: rest) a w := by
  obtain ⟨i, hi, hs, hb, hz⟩ := info49'
  refine wpList_buildSlice (P := Tryd.prog) (o := ⟨dst, .buildSlice 38 2 #[(0, x), (1, y)], ty, pos, aft, none⟩) rfl 38 49 2 #[(0, x), (1, y)] rfl (rowsS [s, t]) i (.agg Z49z) Tryd.underlying38 hi hz (by rw [hs]; decide) (by rw [hs]; decide) ?_ h
  rw [hs]
  have := Great.fill_whole (s := 33) (by decide) [.agg (sigC s).toArray, .agg (sigC t).toArray] ((Array.range (2 * 33)).map ((Value.agg Z49z).cells[· % (Value.agg Z49z).cells.size]!)) (by simp [Value.cells, sigC_len hC, sigC_len hD]) (by simp)
  simp only [List.zipIdx_cons, List.zipIdx_nil, List.map_cons, List.map_nil, List.flatMap_cons, List.flatMap_nil, Value.cells, List.append_nil, Nat.zero_add, Nat.reduceAdd] at this
  simp only [List.map_toArray, List.map_cons, List.map_nil, hx, hy, Value.cells]
  rw [this]
  simp [rowsS]
theorem HSigs.of_rows {w : World} {g : Nat} {l : List (Int × List Nat)} {t : TypeId} (hg : w.heap[g]? = some (.cells (rowsS l) t (0, 0))) (h : ∀ s ∈ l, s.2.length = 32 ∧ All8 s.2 ∧ W64 s.1) (hl : l.length ≤ 1000) (c : Nat) : HSigs w (.slice (some ⟨g, 0, none⟩) l.length c) l := by
  have hz : ∀ (l : List (Int × List Nat)), (∀ s ∈ l, s.2.length = 32) → (l.flatMap sigC).length = l.length * 33 := by
    intro l
    induction l with
    | nil => intro _; rfl
    | cons x l ih => intro h; rw [List.flatMap_cons, List.length_append, ih (fun y hy => h y (by simp [hy])), sigC_len (h x (by simp)), List.length_cons]; omega
  have hz' := hz l fun x hx => (h x hx).1
  exact HSigs.of_block hg (by rw [rowsS, List.toList_toArray]; exact List.take_of_length_le (by omega)) (by rw [rowsS, List.size_toArray]; omega) h hl c
end
theorem HSigs.nil (w : World) : HSigs w (.slice none 0 0) [] := ⟨⟨rfl, none, 0, rfl, .inl ⟨rfl, rfl, rfl⟩⟩, by simp, Nat.zero_le _, fun k e => by simp [Value.ownBlock] at e⟩
namespace Plain
theorem check_nil {k : Ky} {n : Int} (root : List Nat) (hm : kMay k = true) (h0 : 0 ≤ n) (h4 : n ≤ 400) : kCheck k n root [] = 8 := by
  have hw : Re.wi n 0 400 = true := Re.wi_true h0 h4
  have hnd : 1 ≤ k.need := by
    simp only [kMay, Bool.and_eq_true] at hm
    exact (wi_le hm.2.2).1
  unfold kCheck
  rw [hm, hw]
  have hg : goodS k n root had0 [] = true := rfl
  rw [hg]
  simp only [Bool.and_self, if_true, List.length_nil, Int.natCast_zero]
  rw [if_pos (by omega)]
theorem check_bad {k : Ky} {n : Int} {root : List Nat} {l : List (Int × List Nat)} (hm : kMay k = true) (h0 : 0 ≤ n) (h4 : n ≤ 400) (hg : goodS k n root had0 l = false) : kCheck k n root l = 8 := by
  have hw : Re.wi n 0 400 = true := Re.wi_true h0 h4
  unfold kCheck
  rw [hm, hw, hg]; rfl
theorem wits_le {k : Ky} (hm : kMay k = true) : 1 ≤ k.wits.length ∧ k.wits.length ≤ 4 ∧ 1 ≤ k.need ∧ k.need ≤ k.wits.length := by
  simp only [kMay, Bool.and_eq_true] at hm
  have h1 := wi_le hm.2.1
  have h2 := wi_le hm.2.2
  omega
/-- A witness that there is not. -/
theorem good_nine {k : Ky} (n : Int) (root : List Nat) (s : Int × List Nat) (t : List Nat) (hm : kMay k = true) : goodS k n root had0 [s, (9, t)] = false := by
  have h := wits_le hm
  have h9 : Re.wi 9 0 ((k.wits.length : Int) - 1) = false := Re.wi_false (by omega)
  simp only [goodS, h9, Bool.false_and, Bool.and_false]
theorem sign_out {k : Ky} (n : Int) (root : List Nat) : kSign k (k.wits.length : Int) n root = z32n := by
  have h9 : Re.wi (k.wits.length : Int) 0 ((k.wits.length : Int) - 1) = false := Re.wi_false (by omega)
  unfold kSign kSigns
  rw [h9]
  simp
end Plain
end Go.Proofs.YtklmhegmombegaaDoor

