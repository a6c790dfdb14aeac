/-
  The document's example, in plain Lean. Conditions: none.
  The contract of law 10's Few. Conditions: as the theorem says.
-/
import Derived.Test.YtklmhegmombegaaDoorCheckA
set_option linter.unusedVariables false
set_option linter.unusedSimpArgs false
namespace Go.Proofs.YtklmhegmombegaaDoor
open Go Go.RowKit Plain
open Go.Proofs.YtklmhegmombegaaDoor.Re.Plain (Rx rightB)
namespace Plain
/-- A hash of one byte. -/
def h1 (n : Nat) : List Nat := n :: List.replicate 31 0
def kFew : Ky := ⟨[h1 1, h1 2], [h1 3, h1 4, h1 5], 2⟩
def xA (gd : Bool) (tg : List Nat) : Rx := { Re.Plain.Rx.zero with kind := 3, seq := 2, tr := 1, good := gd, part := 1, tag := tg.map fun (n : Nat) => (n : Int) }
def tA : List Nat := kRec kFew (xA true z32n)
theorem part_eq {p e : Int} {k : List Nat} (h : kKnown kFew p e = true) (hk : kFew.parts.getD p.toNat z32n = k) : kPart kFew p e = macKey k [1, e] := by rw [kPart, if_pos h, hk]
theorem kRec_xA (gd : Bool) (tg : List Nat) : kRec kFew (xA gd tg) = macKey (macKey (h1 2) [1, 0]) [2, 0, 0, 0, bitI gd] := by
  have hkn : kKnown kFew (xA gd tg).part (xA gd tg).epoch = true := by cases gd <;> rfl
  have hk : (xA gd tg).kind = 3 := rfl
  have hp : kPart kFew (xA gd tg).part (xA gd tg).epoch = macKey (h1 2) [1, 0] := part_eq hkn rfl
  rw [kRec, if_pos ⟨hk, hkn⟩, hp]
  cases gd <;> rfl
theorem tA_eq : tA = macKey (macKey (h1 2) [1, 0]) [2, 0, 0, 0, 1] := by rw [tA, kRec_xA]; rw [bitI, if_pos rfl]
theorem tA_ne : macKey (macKey (h1 2) [1, 0]) [2, 0, 0, 0, 0] ≠ macKey (macKey (h1 2) [1, 0]) [2, 0, 0, 0, 1] := by
  unfold macKey tagOf
  simp only [sha_shaF]
  decide +kernel
theorem kPart_ne : kPart kFew 0 1 ≠ kPart kFew 0 2 := by
  have e1 : kPart kFew 0 1 = macKey (h1 1) [1, 1] := part_eq (by rfl) rfl
  have e2 : kPart kFew 0 2 = macKey (h1 1) [1, 2] := part_eq (by rfl) rfl
  rw [e1, e2]
  unfold macKey tagOf
  simp only [sha_shaF]
  decide +kernel
theorem kPart_none : kPart kFew 2 0 = z32n := by rfl
theorem kMay_few : kMay kFew = true := by rfl
theorem check1 (n : Int) (root : List Nat) (hn : kSigns kFew 1 n = true) : kCheck kFew n root [(1, kSign kFew 1 n root)] = 8 := by
  obtain ⟨_, _, _, h0, h4⟩ := kSigns_iff hn
  have hw : Re.wi n 0 400 = true := Re.wi_true h0 h4
  unfold kCheck
  rw [kMay_few, hw]
  have hg : goodS kFew n root had0 [(1, kSign kFew 1 n root)] = true := by
    simp only [goodS, decide_true]
    rfl
  rw [hg]; rfl
theorem check2 (n : Int) (root : List Nat) (h0 : 0 ≤ n) (h4 : n ≤ 400) : kCheck kFew n root [(1, kSign kFew 1 n root), (0, kSign kFew 0 n root)] = 0 := by
  have hw : Re.wi n 0 400 = true := Re.wi_true h0 h4
  unfold kCheck
  rw [kMay_few, hw]
  have hg : goodS kFew n root had0 [(1, kSign kFew 1 n root), (0, kSign kFew 0 n root)] = true := by
    simp only [goodS, decide_true]
    rfl
  rw [hg]; rfl
theorem right_xA (gd : Bool) (tg : List Nat) : rightB (xA gd tg) = true := by
  cases gd <;> simp [rightB, Re.Plain.rangesB, xA, Re.Plain.keptX, Re.Plain.Rx.zero, Re.wi]
theorem holds_xA : kHolds kFew (xA true tA) tA = true := by
  unfold kHolds
  rw [right_xA, kRec_xA, tA_eq]
  have : decide (macKey (macKey (h1 2) [1, 0]) [2, 0, 0, 0, bitI true] = macKey (macKey (h1 2) [1, 0]) [2, 0, 0, 0, 1]) = true := decide_eq_true rfl
  rw [this]; rfl
theorem holds_yA : kHolds kFew (xA false tA) tA = false := by
  unfold kHolds
  rw [right_xA, kRec_xA, tA_eq]
  have : decide (macKey (macKey (h1 2) [1, 0]) [2, 0, 0, 0, bitI false] = macKey (macKey (h1 2) [1, 0]) [2, 0, 0, 0, 1]) = false := decide_eq_false tA_ne
  rw [this]; simp
end Plain
end Go.Proofs.YtklmhegmombegaaDoor
namespace Go.Proofs.YtklmhegmombegaaDoor
open Go Go.RowKit Plain

theorem Tryd.ifull26 : (Tryd.prog.info? 26).map (fun i => (i.size, i.bytes, i.zero)) = some (32, 32, some (.agg Z26)) := by kernel_rfl
theorem info26' : ∃ i, Tryd.prog.info? 26 = some i ∧ i.size = 32 ∧ i.bytes = 32 ∧ i.zero = some (.agg Z26) := by
  obtain ⟨i, hi, hb⟩ := Option.map_eq_some_iff.1 Tryd.ifull26
  simp only [Prod.mk.injEq] at hb
  exact ⟨i, hi, hb.1, hb.2.1, hb.2.2⟩
section
variable {ops : Array Oper} {rest : List Oper} {dst : Option Tmp} {ty : TypeId} {pos : String} {aft : Array Edge} {a : Act} {w : World} {Q : Exit → Act → World → Prop}
theorem build26c (n : Nat) (h : wpList Tryd.prog ops Q rest (a.put dst (.agg (ints .u8 (h1 n)))) w) : wpList Tryd.prog ops Q (⟨dst, .build 26 #[(0, .const (.int .u8 (n : Nat)))], ty, pos, aft, none⟩ :: rest) a w := by
  refine wpList_plain rfl fun K hK => ?_
  go_simp
  exact hK _ _ h
/-- Hashes in a row. -/
def rows (l : List (List Nat)) : Array Value := (l.flatMap bys).toArray
theorem slice22_2 {x y : Operand} {l m : List Nat} (hx : a.eval x = .agg (ints .u8 l)) (zx : l.length = 32) (hy : a.eval y = .agg (ints .u8 m)) (zy : m.length = 32)
    (h : wpList Tryd.prog ops Q rest (a.put dst (.slice (some ⟨w.heap.size, 0, none⟩) 2 2)) (w.alloc (.cells (rows [l, m]) 26))) : wpList Tryd.prog ops Q (⟨dst, .buildSlice 22 2 #[(0, x), (1, y)], ty, pos, aft, none⟩ :: rest) a w := by
  obtain ⟨i, hi, hs, hb, hz⟩ := info26'
  refine wpList_buildSlice (P := Tryd.prog) (o := ⟨dst, .buildSlice 22 2 #[(0, x), (1, y)], ty, pos, aft, none⟩) rfl 22 26 2 #[(0, x), (1, y)] rfl (rows [l, m]) i (.agg Z26) Tryd.underlying22 hi hz (by rw [hs]; decide) (by rw [hs]; decide) ?_ h
  rw [hs]
  have := Great.fill_whole (s := 32) (by decide) [.agg (ints .u8 l), .agg (ints .u8 m)] ((Array.range (2 * 32)).map ((Value.agg Z26).cells[· % (Value.agg Z26).cells.size]!)) (by simp [Value.cells, ints_size, zx, zy]) (by simp)
  simp only [List.zipIdx_cons, List.zipIdx_nil, List.map_cons, List.map_nil, List.flatMap_cons, List.flatMap_nil, Value.cells, List.append_nil, Nat.zero_add, Nat.reduceAdd] at this
  simp only [Array.toList_map, List.map_cons, List.map_nil, hx, hy, Value.cells]
  rw [this]
  simp [rows, bys, ints]
theorem slice22_3 {x y z : Operand} {l m o : List Nat} (hx : a.eval x = .agg (ints .u8 l)) (zx : l.length = 32) (hy : a.eval y = .agg (ints .u8 m)) (zy : m.length = 32) (hzz : a.eval z = .agg (ints .u8 o)) (zz : o.length = 32)
    (h : wpList Tryd.prog ops Q rest (a.put dst (.slice (some ⟨w.heap.size, 0, none⟩) 3 3)) (w.alloc (.cells (rows [l, m, o]) 26))) : wpList Tryd.prog ops Q (⟨dst, .buildSlice 22 3 #[(0, x), (1, y), (2, z)], ty, pos, aft, none⟩ :: rest) a w := by
  obtain ⟨i, hi, hs, hb, hz⟩ := info26'
  refine wpList_buildSlice (P := Tryd.prog) (o := ⟨dst, .buildSlice 22 3 #[(0, x), (1, y), (2, z)], ty, pos, aft, none⟩) rfl 22 26 3 #[(0, x), (1, y), (2, z)] rfl (rows [l, m, o]) i (.agg Z26) Tryd.underlying22 hi hz (by rw [hs]; decide) (by rw [hs]; decide) ?_ h
  rw [hs]
  have := Great.fill_whole (s := 32) (by decide) [.agg (ints .u8 l), .agg (ints .u8 m), .agg (ints .u8 o)] ((Array.range (3 * 32)).map ((Value.agg Z26).cells[· % (Value.agg Z26).cells.size]!)) (by simp [Value.cells, ints_size, zx, zy, zz]) (by simp)
  simp only [List.zipIdx_cons, List.zipIdx_nil, List.map_cons, List.map_nil, List.flatMap_cons, List.flatMap_nil, Value.cells, List.append_nil, Nat.zero_add, Nat.reduceAdd] at this
  simp only [Array.toList_map, List.map_cons, List.map_nil, hx, hy, hzz, Value.cells]
  rw [this]
  simp [rows, bys, ints]
end
theorem HHash.of_rows {w : World} {g : Nat} {l : List (List Nat)} {t : TypeId} (hg : w.heap[g]? = some (.cells (rows l) t (0, 0))) (h : ∀ x ∈ l, x.length = 32 ∧ All8 x) (hl : l.length ≤ 1000) (c : Nat) : HHash w (.slice (some ⟨g, 0, none⟩) l.length c) l := by
  have hz : ∀ (l : List (List Nat)), (∀ x ∈ l, x.length = 32) → (l.flatMap bys).length = l.length * 32 := by
    intro l
    induction l with
    | nil => intro _; rfl
    | cons x l ih => intro h; rw [List.flatMap_cons, List.length_append, ih (fun y hy => h y (by simp [hy])), bys_len, h x (by simp), List.length_cons]; omega
  have hz' := hz l fun x hx => (h x hx).1
  have := Rd.of_block hg 32 l.length c (by rw [rows, List.size_toArray]; omega)
  rw [rows, List.toList_toArray, List.take_of_length_le (by omega)] at this
  exact ⟨this, h, hl, fun k e => by simp only [Value.ownBlock, Option.some.injEq] at e; subst e; exact row_lt hg⟩
theorem h1_len (n : Nat) : (h1 n).length = 32 := rfl
theorem h1_all {n : Nat} (h : n < 256) : All8 (h1 n) := by
  intro x hx
  rcases List.mem_cons.1 hx with rfl | hx
  · exact h
  · rw [List.eq_of_mem_replicate hx]; decide
theorem Tryd.isz24 : (Tryd.prog.info? 24).map (·.size) = some 3 := by kernel_rfl
theorem results_24 {fn : Func} {p : Tmp} (h : fn.results = #[.cell p 24]) (tmps : Array Value) (w : World) (g : Nat) {C : Array Value} {ty : TypeId} {fr : Nat × Nat}
    (hg : w.heap[g]? = some (.cells C ty fr)) (hC : C.size = 3) (hp : tmps.getD p undef = .pointer (some ⟨g, 0, none⟩)) :
    (results fn tmps).run Tryd.prog w = .ok (.agg C) w := by
  have hp' : tmps[p]?.getD undef = .pointer (some ⟨g, 0, none⟩) := by simpa using hp
  simp [results, h, hp', asAddr, run_loadVar_row (P := Tryd.prog) w g ty 24 C fr _ hg Tryd.underlying24 rfl (by rw [Tryd.isz24, hC])]
/-- New keys are handed back. -/
def KPost (k : Ky) (w : World) (e : Ending) (w' : World) : Prop := ∃ pv wv, e = .returned (.agg #[pv, wv, .int .i64 k.need]) ∧ KyIn w' pv wv k ∧ Kept (fun _ => False) w w'
set_option maxRecDepth 100000 in
set_option maxHeartbeats 4000000 in
theorem f_few (w : World) : Calls Tryd.prog 52 #[] w (KPost kFew w) := by
  have hz := Lib.hid h1_len
  go_enter Tryd.func52, Tryd.ntmps52
  go_wp2_with (first | fail | (with_reducible refine build26c 1 ?_) | (with_reducible refine build26c 2 ?_) | (with_reducible refine build26c 3 ?_) | (with_reducible refine build26c 4 ?_) | (with_reducible refine build26c 5 ?_) | ((with_reducible refine slice22_2 (l := h1 1) (m := h1 2) ?_ (hz.out _) ?_ (hz.out _) ?_); rfl; rfl) | ((with_reducible refine slice22_3 (l := h1 3) (m := h1 4) (o := h1 5) ?_ (hz.out _) ?_ (hz.out _) ?_ (hz.out _) ?_); rfl; rfl; rfl))
  obtain ⟨g1, g2, g3⟩ := heap_alloc3 w (.cells #[.slice (some ⟨w.heap.size + 1, 0, none⟩) 2 2, .slice (some ⟨w.heap.size + 1 + 1, 0, none⟩) 3 3, .int .i64 2] 24) (.cells (rows [h1 1, h1 2]) 26) (.cells (rows [h1 3, h1 4, h1 5]) 26)
  have k1 := (((Kept.refl (fun _ => False) w).alloc (.cells #[.slice (some ⟨w.heap.size + 1, 0, none⟩) 2 2, .slice (some ⟨w.heap.size + 1 + 1, 0, none⟩) 3 3, .int .i64 2] 24)).alloc (.cells (rows [h1 1, h1 2]) 26)).alloc (.cells (rows [h1 3, h1 4, h1 5]) 26)
  refine bodyPost_ret (results_24 rfl _ _ _ g1 rfl rfl) rfl ?_
  refine ⟨_, _, rfl, ⟨HHash.of_rows (l := [h1 1, h1 2]) g2 (fun x hx => ?_) (by decide) 2, HHash.of_rows (l := [h1 3, h1 4, h1 5]) g3 (fun x hx => ?_) (by decide) 3⟩, k1⟩
  · simp only [List.mem_cons, List.not_mem_nil, or_false] at hx
    rcases hx with rfl | rfl
    · exact ⟨h1_len 1, h1_all (by decide)⟩
    · exact ⟨h1_len 2, h1_all (by decide)⟩
  · simp only [List.mem_cons, List.not_mem_nil, or_false] at hx
    rcases hx with rfl | rfl | rfl
    · exact ⟨h1_len 3, h1_all (by decide)⟩
    · exact ⟨h1_len 4, h1_all (by decide)⟩
    · exact ⟨h1_len 5, h1_all (by decide)⟩
end Go.Proofs.YtklmhegmombegaaDoor
