/-
  A participant in memory; the contract of its note (101). Conditions: as each theorem says.
  What a participant says (68). Conditions: as each theorem says.
-/
import Derived.Test.YtklmhegmombegaaDoorPaA
import Derived.Test.YtklmhegmombegaaDoorLast
set_option linter.unusedVariables false
set_option linter.unusedSimpArgs false
set_option maxRecDepth 100000
namespace Go.Proofs.YtklmhegmombegaaDoor
open Go Go.RowKit Plain
/-- The cells of an entry, of entries. -/
def enC (e : En) : List Value := [.int .i64 e.saga, .int .i64 e.step, .bool e.back, .bool e.good]
def ensC (l : List En) : List Value := l.flatMap enC
theorem ensC_len (l : List En) : (ensC l).length = l.length * 4 := by
  induction l with
  | nil => rfl
  | cons e l ih => rw [ensC, List.flatMap_cons, List.length_append, List.length_cons, ← ensC, ih]; simp [enC]; omega
theorem ensC_snoc (l : List En) (e : En) : ensC (l ++ [e]) = ensC l ++ enC e := by simp [ensC]
theorem ensC_one (l : List En) : ∀ u ∈ ensC l, u.oneCell' = true := by
  intro u hu
  obtain ⟨e, _, hu⟩ := List.mem_flatMap.1 hu
  simp only [enC, List.mem_cons, List.not_mem_nil, or_false] at hu
  rcases hu with rfl | rfl | rfl | rfl <;> rfl
theorem Laid.old {w0 w : World} (h : Laid w0) (k : Kept (fun i => w0.heap.size ≤ i) w0 w) : Laid w :=
  ⟨fun i hi => (k.cell (World.block_lt_of_cell? w0 _ (h.first i hi)) (Nat.not_le.2 (World.block_lt_of_cell? w0 _ (h.first i hi)))).trans (h.first i hi),
   fun i hi => (k.cell (World.block_lt_of_cell? w0 _ (h.k i hi)) (Nat.not_le.2 (World.block_lt_of_cell? w0 _ (h.k i hi)))).trans (h.k i hi)⟩
theorem HHash.old {w0 w : World} {v : Value} {l : List (List Nat)} (h : HHash w0 v l) (k : Kept (fun i => w0.heap.size ≤ i) w0 w) : HHash w v l :=
  ⟨h.rd.old k, h.each, h.len, fun j e => Nat.lt_of_lt_of_le (h.lt j e) k.size⟩
theorem KyIn.old {w0 w : World} {pv wv : Value} {ky : Ky} (h : KyIn w0 pv wv ky) (k : Kept (fun i => w0.heap.size ≤ i) w0 w) : KyIn w pv wv ky := ⟨h.parts.old k, h.wits.old k⟩
/-- A participant, made behind the world w0. -/
structure Pa (w0 w : World) (g r : Nat) (pv wv sv : Value) (k : Ky) (n ep : Int) (l : List En) : Prop where
  blk : w.heap[g]? = some (.cells (paC pv wv k.need n ep r sv) 118 (0, 0))
  map : MapIn w r l
  buf : Buf w w0.heap.size 76 4 sv l.length (ensC l)
  keys : KyIn w0 pv wv k
  laid : Laid w0
  kept : Kept (fun i => w0.heap.size ≤ i) w0 w
  fit : ∀ e ∈ l, e.fit
  nodup : (l.map En.key).Nodup
  lo : w0.heap.size ≤ g ∧ w0.heap.size ≤ r
/-- What it may write. -/
def PaS (g r : Nat) (sv : Value) (i : Nat) : Prop := i = g ∨ i = r ∨ sv.ownBlock = some i
section
variable {w0 w w' : World} {g r : Nat} {pv wv sv : Value} {k : Ky} {n ep : Int} {l : List En}
theorem Pa.rg (h : Pa w0 w g r pv wv sv k n ep l) : r ≠ g := by
  rintro rfl
  have := h.map.symm.trans h.blk
  simp at this
theorem Pa.vg (h : Pa w0 w g r pv wv sv k n ep l) : sv.ownBlock ≠ some g := h.buf.ne_of_type h.blk (by decide)
theorem Pa.vr (h : Pa w0 w g r pv wv sv k n ep l) : sv.ownBlock ≠ some r := by
  intro hk
  rcases h.buf.2 with ⟨rfl, _⟩ | ⟨j, cap, cur, rfl, _, hg, _⟩
  · simp [Value.ownBlock] at hk
  · simp [Value.ownBlock] at hk
    subst hk
    have := h.map.symm.trans hg
    simp at this
theorem Pa.ltg (h : Pa w0 w g r pv wv sv k n ep l) : g < w.heap.size := row_lt h.blk
theorem Pa.ltr (h : Pa w0 w g r pv wv sv k n ep l) : r < w.heap.size := row_lt h.map
theorem Pa.ltS (h : Pa w0 w g r pv wv sv k n ep l) {i : Nat} (hi : PaS g r sv i) : i < w.heap.size := by
  rcases hi with rfl | rfl | hi
  · exact h.ltg
  · exact h.ltr
  · exact (h.buf.lt i hi).2
theorem Pa.other (h : Pa w0 w g r pv wv sv k n ep l) {j : Nat} {C : Array Value} {t : TypeId} {fz : Nat × Nat} (hj : w.heap[j]? = some (.cells C t fz)) (h1 : t ≠ 118) (h2 : t ≠ 76) : ¬ PaS g r sv j := by
  rintro (rfl | rfl | hi)
  · have := hj.symm.trans h.blk
    simp at this; exact h1 this.2.1
  · have := h.map.symm.trans hj
    simp at this
  · exact h.buf.ne_of_type hj h2 hi
theorem Pa.loS (h : Pa w0 w g r pv wv sv k n ep l) : ∀ i, PaS g r sv i → w0.heap.size ≤ i := by
  rintro i (rfl | rfl | hi)
  · exact h.lo.1
  · exact h.lo.2
  · exact (h.buf.lt i hi).1
theorem Pa.keysNow (h : Pa w0 w g r pv wv sv k n ep l) : KyIn w pv wv k := h.keys.old h.kept
theorem Pa.laidNow (h : Pa w0 w g r pv wv sv k n ep l) : Laid w := h.laid.old h.kept
/-- It stands where what it owns stays. -/
theorem Pa.next {S : Nat → Prop} (h : Pa w0 w g r pv wv sv k n ep l) (kk : Kept S w w') (hs : ∀ i, PaS g r sv i → ¬ S i) (hlo : ∀ i, i < w.heap.size → S i → w0.heap.size ≤ i) : Pa w0 w' g r pv wv sv k n ep l :=
  ⟨(kk.block g h.ltg (hs g (.inl rfl))).trans h.blk, (kk.block r h.ltr (hs r (.inr (.inl rfl)))).trans h.map, h.buf.kept kk (fun i hi => hs i (.inr (.inr hi))), h.keys, h.laid,
   ⟨kk.os.trans h.kept.os, kk.tape.trans h.kept.tape, kk.output.trans h.kept.output, Nat.le_trans h.kept.size kk.size, fun i hi hn => (kk.block i (Nat.lt_of_lt_of_le hi h.kept.size) (fun hS => hn (hlo i (Nat.lt_of_lt_of_le hi h.kept.size) hS))).trans (h.kept.block i hi hn)⟩,
   h.fit, h.nodup, h.lo⟩
theorem Pa.same (h : Pa w0 w g r pv wv sv k n ep l) (kk : Kept (fun _ => False) w w') : Pa w0 w' g r pv wv sv k n ep l := h.next kk (fun _ _ e => e) (fun _ _ e => e.elim)
end
theorem Tryd.ifull76 : (Tryd.prog.info? 76).map (fun i => (i.size, i.bytes, i.zero)) = some (4, 24, some (.agg #[.int .i64 0, .int .i64 0, .bool false, .bool false])) := by kernel_rfl
theorem info76' : ∃ i, Tryd.prog.info? 76 = some i ∧ i.size = 4 ∧ i.bytes = 24 ∧ i.zero = some (.agg #[.int .i64 0, .int .i64 0, .bool false, .bool false]) := by
  obtain ⟨i, hi, hb⟩ := Option.map_eq_some_iff.1 Tryd.ifull76
  simp only [Prod.mk.injEq] at hb
  exact ⟨i, hi, hb.1, hb.2.1, hb.2.2⟩
/-- It has noted an entry. -/
def NotePost (w0 w : World) (g r : Nat) (pv wv sv : Value) (k : Ky) (n ep : Int) (l : List En) (e : Ending) (w' : World) : Prop :=
  e = .returned (.tuple #[]) ∧ ∃ sv', Pa w0 w' g r pv wv sv' k n ep l ∧ Kept (PaS g r sv) w w' ∧ (sv'.ownBlock = sv.ownBlock ∨ ∀ i, sv'.ownBlock = some i → w.heap.size ≤ i)
theorem NotePost.mk {w0 w w' : World} {g r : Nat} {pv wv sv sv' : Value} {k : Ky} {n ep : Int} {l : List En} (h : Pa w0 w' g r pv wv sv' k n ep l) (kk : Kept (PaS g r sv) w w') (hv : sv'.ownBlock = sv.ownBlock ∨ ∀ i, sv'.ownBlock = some i → w.heap.size ≤ i) : NotePost w0 w g r pv wv sv k n ep l (.returned (.tuple #[])) w' := ⟨rfl, sv', h, kk, hv⟩
theorem src_en {w : World} {b : Nat} {e : En} (h : w.heap[b]? = some (.cells (enC e).toArray 76 (0, 0))) : Src Tryd.prog 4 63 (.slice (some ⟨b, 0, none⟩) 1 1) 1 (enC e) w := by
  have := Rd.of_block h 4 1 1 (by simp [enC])
  have e1 : ((enC e).toArray.toList.take (1 * 4)) = enC e := by simp [enC]
  rw [e1] at this
  exact this.src Tryd.underlying63 (fun u hu => ensC_one [e] u (by simpa [ensC] using hu))
theorem paC_set (pv wv sv sv' : Value) (need n ep : Int) (r : Nat) : (paC pv wv need n ep r sv).setIfInBounds 6 sv' = paC pv wv need n ep r sv' := rfl
set_option maxHeartbeats 4000000 in
theorem f_note (w0 : World) (g r : Nat) (pv wv sv : Value) (k : Ky) (n ep : Int) (l : List En) (x : En) (w : World) (h : Pa w0 w g r pv wv sv k n ep l) (hx : x.fit) (hno : hadE l x.key = none) (hl : l.length ≤ 1000) :
    Calls Tryd.prog 101 #[.pointer (some ⟨g, 0, none⟩), .agg #[.int .i64 x.saga, .int .i64 x.step, .bool x.back], .bool x.good] w (NotePost w0 w g r pv wv sv k n ep (l ++ [x])) := by
  obtain ⟨i76, hi76, hs76, hb76, hz76⟩ := info76'
  have k1 := ((Kept.refl (fun _ => False) w).alloc (.cells #[.int .i64 x.saga, .int .i64 x.step, .bool x.back] 150)).drew
  have GB := Lib.hid (show ((w.alloc (.cells #[.int .i64 x.saga, .int .i64 x.step, .bool x.back] 150)).drew).heap[w.heap.size]? = _ from heap_alloc_new w (.cells #[.int .i64 x.saga, .int .i64 x.step, .bool x.back] 150))
  have HP := Lib.hid (h.same k1)
  have HPW := Lib.hid h
  have K1 := Lib.hid k1
  have HX := Lib.hid hx
  have HNO := Lib.hid hno
  have HL := Lib.hid hl
  have HI := Lib.hid (And.intro hi76 (And.intro hs76 (And.intro hb76 hz76)))
  clear k1 h hx hno hl hi76 hs76 hb76 hz76
  go_enter Tryd.func101, Tryd.ntmps101
  go_upto_region 1 with (fail)
  refine wp_region_last_drew (S := fun w' => Kept (fun _ => False) (w.alloc (.cells #[.int .i64 x.saga, .int .i64 x.step, .bool x.back] 150)).drew w') 6 (by kernel_rfl) (Kept.refl _ _) (fun hHeld => ?_)
  generalize (w.alloc (.cells #[.int .i64 x.saga, .int .i64 x.step, .bool x.back] 150)).drew = w2 at *

  refine wpAnyL_take (i := 0) (oi := ⟨some 6, _, _, _, _, _⟩) (v := .pointer (some ⟨g, 0, none⟩)) [6] rfl (by kernel_rfl) (by kernel_rfl) (by kernel_rfl) (by kernel_rfl) (fun _ _ _ h => h) (Or.inl ⟨by kernel_rfl, fun w' hS => by go_simp⟩) (by assumption) ?_
  try simp only [Act.put, List.setIfInBounds_toArray, List.set_cons_succ, List.set_cons_zero]
  refine wpAnyL_take (i := 1) (oi := ⟨some 7, _, _, _, _, _⟩) (v := .pointer (some ⟨g, 0, none⟩)) [6] rfl (by kernel_rfl) (by kernel_rfl) (by kernel_rfl) (by kernel_rfl) (fun _ _ _ h => h) (Or.inl ⟨by kernel_rfl, fun w' hS => by go_simp⟩) (by assumption) ?_
  try simp only [Act.put, List.setIfInBounds_toArray, List.set_cons_succ, List.set_cons_zero]
  refine wpAnyL_take (i := 2) (oi := ⟨some 8, _, _, _, _, _⟩) (v := .pointer (some ⟨g, 5, none⟩)) [6] rfl (by kernel_rfl) (by kernel_rfl) (by kernel_rfl) (by kernel_rfl) (fun _ _ _ h => h) (Or.inl ⟨by kernel_rfl, fun w' hS => by go_simp⟩) (by assumption) ?_
  try simp only [Act.put, List.setIfInBounds_toArray, List.set_cons_succ, List.set_cons_zero]
  refine wpAnyL_take (i := 3) (oi := ⟨some 9, _, _, _, _, _⟩) (v := .map (some r)) [6] rfl (by kernel_rfl) (by kernel_rfl) (by kernel_rfl) (by kernel_rfl) (fun _ _ _ h => h) (Or.inl ⟨by kernel_rfl, fun w' hS => by have c := row_cell (k := 5) (hS.row HP.out.blk) (v := .map (some r)) (rfl); go_simp⟩) (by assumption) ?_
  try simp only [Act.put, List.setIfInBounds_toArray, List.set_cons_succ, List.set_cons_zero]
  refine wpAnyL_take (i := 4) (oi := ⟨some 10, _, _, _, _, _⟩) (v := .agg #[.int .i64 x.saga, .int .i64 x.step, .bool x.back]) [6] rfl (by kernel_rfl) (by kernel_rfl) (by kernel_rfl) (by kernel_rfl) (fun _ _ _ h => h) (Or.inl ⟨by kernel_rfl, fun w' hS => by have c0 := row_cell (k := 0) (hS.row GB.out) (v := .int .i64 x.saga) (rfl); have c1 := row_cell (k := 1) (hS.row GB.out) (v := .int .i64 x.step) (rfl); have c2 := row_cell (k := 2) (hS.row GB.out) (v := .bool x.back) (rfl); go_simp⟩) (by assumption) ?_
  try simp only [Act.put, List.setIfInBounds_toArray, List.set_cons_succ, List.set_cons_zero]
  refine wpAnyL_take (i := 5) (oi := ⟨some 11, _, _, _, _, _⟩) (v := .bool x.good) [6] rfl (by kernel_rfl) (by kernel_rfl) (by kernel_rfl) (by kernel_rfl) (fun _ _ _ h => h) (Or.inl ⟨by kernel_rfl, fun w' hS => by go_simp⟩) (by assumption) ?_
  try simp only [Act.put, List.setIfInBounds_toArray, List.set_cons_succ, List.set_cons_zero]
  refine wpAnyL_ready (rs := [6]) (by kernel_rfl) (by simp) ?_
  refine AllReadyL.ends (o := _) rfl (fun K hK => ?_)
  refine step_note116 x (by kernel_rfl) rfl rfl rfl HP.out.map HP.out.fit HP.out.nodup HX.out HNO.out ?_
  intro w3 hm3 k3
  refine hK.out _ _ ?_
  clear hK K
  try simp only [Act.put, List.setIfInBounds_toArray, List.set_cons_succ, List.set_cons_zero]
  refine wpAnyL_done (by kernel_rfl) ?_ _
  have k3d := k3.drew
  have GB3 := Lib.hid (k3d.rowS (by intro e; have e' : w.heap.size = r := e; have := HPW.out.ltr; omega) GB.out)
  have GP3 := Lib.hid (k3d.rowS (by intro e; exact HP.out.rg e.symm) HP.out.blk)
  have BF3 := Lib.hid (HP.out.buf.kept k3d (fun i hi e => HP.out.vr (by have e' : i = r := e; rw [hi, e'])))
  have HM3 := Lib.hid (show MapIn w3.drew r (l ++ [x]) from hm3)
  have K3 := Lib.hid k3d
  have HSZ3 : Hid (w2.heap.size ≤ w3.drew.heap.size) := k3d.size
  clear k3 k3d hm3
  go_upto_region 2 with (fail)
  refine wp_region_last_drew (S := fun w' => Kept (fun i => sv.ownBlock = some i) w3.drew w') 17 (by kernel_rfl) (Kept.refl _ _) (fun hHeld => ?_)
  have HVG := Lib.hid HP.out.vg
  have HVB := Lib.hid (BF3.out.ne_of_type GB3.out (by decide))
  generalize w3.drew = w4 at *
  refine wpAnyL_take (i := 0) (oi := ⟨some 12, _, _, _, _, _⟩) (v := .pointer (some ⟨g, 0, none⟩)) [17] rfl (by kernel_rfl) (by kernel_rfl) (by kernel_rfl) (by kernel_rfl) (fun _ _ _ h => h) (Or.inl ⟨by kernel_rfl, fun w' hS => by go_simp⟩) (by assumption) ?_
  try simp only [Act.put, List.setIfInBounds_toArray, List.set_cons_succ, List.set_cons_zero]
  refine wpAnyL_take (i := 1) (oi := ⟨some 13, _, _, _, _, _⟩) (v := .pointer (some ⟨g, 0, none⟩)) [17] rfl (by kernel_rfl) (by kernel_rfl) (by kernel_rfl) (by kernel_rfl) (fun _ _ _ h => h) (Or.inl ⟨by kernel_rfl, fun w' hS => by go_simp⟩) (by assumption) ?_
  try simp only [Act.put, List.setIfInBounds_toArray, List.set_cons_succ, List.set_cons_zero]
  refine wpAnyL_take (i := 2) (oi := ⟨some 14, _, _, _, _, _⟩) (v := .pointer (some ⟨g, 0, none⟩)) [17] rfl (by kernel_rfl) (by kernel_rfl) (by kernel_rfl) (by kernel_rfl) (fun _ _ _ h => h) (Or.inl ⟨by kernel_rfl, fun w' hS => by go_simp⟩) (by assumption) ?_
  try simp only [Act.put, List.setIfInBounds_toArray, List.set_cons_succ, List.set_cons_zero]
  refine wpAnyL_take (i := 3) (oi := ⟨some 15, _, _, _, _, _⟩) (v := .pointer (some ⟨g, 6, none⟩)) [17] rfl (by kernel_rfl) (by kernel_rfl) (by kernel_rfl) (by kernel_rfl) (fun _ _ _ h => h) (Or.inl ⟨by kernel_rfl, fun w' hS => by go_simp⟩) (by assumption) ?_
  try simp only [Act.put, List.setIfInBounds_toArray, List.set_cons_succ, List.set_cons_zero]
  refine wpAnyL_take (i := 4) (oi := ⟨some 16, _, _, _, _, _⟩) (v := sv) [17] rfl (by kernel_rfl) (by kernel_rfl) (by kernel_rfl) (by kernel_rfl) (fun _ _ _ h => h) (Or.inl ⟨by kernel_rfl, fun w' hS => by have c := row_cell (k := 6) (hS.rowS HVG.out GP3.out) (v := sv) (rfl); go_simp⟩) (by assumption) ?_
  try simp only [Act.put, List.setIfInBounds_toArray, List.set_cons_succ, List.set_cons_zero]
  refine wpAnyL_take (i := 5) (oi := ⟨some 17, _, _, _, _, _⟩) (v := .pointer (some ⟨w.heap.size, 0, none⟩)) [17] rfl (by kernel_rfl) (by kernel_rfl) (by kernel_rfl) (by kernel_rfl) (fun _ _ _ h => h) (Or.inl ⟨by kernel_rfl, fun w' hS => by go_simp⟩) (by assumption) ?_
  try simp only [Act.put, List.setIfInBounds_toArray, List.set_cons_succ, List.set_cons_zero]
  refine wpAnyL_take (i := 6) (oi := ⟨some 18, _, _, _, _, _⟩) (v := .int .i64 x.saga) [17] rfl (by kernel_rfl) (by kernel_rfl) (by kernel_rfl) (by kernel_rfl) (fun _ _ _ h => h) (Or.inl ⟨by kernel_rfl, fun w' hS => by have c := row_cell (k := 0) (hS.rowS HVB.out GB3.out) (v := .int .i64 x.saga) (rfl); go_simp⟩) (by assumption) ?_
  try simp only [Act.put, List.setIfInBounds_toArray, List.set_cons_succ, List.set_cons_zero]
  refine wpAnyL_take (i := 7) (oi := ⟨some 19, _, _, _, _, _⟩) (v := .pointer (some ⟨w.heap.size, 1, none⟩)) [17] rfl (by kernel_rfl) (by kernel_rfl) (by kernel_rfl) (by kernel_rfl) (fun _ _ _ h => h) (Or.inl ⟨by kernel_rfl, fun w' hS => by go_simp⟩) (by assumption) ?_
  try simp only [Act.put, List.setIfInBounds_toArray, List.set_cons_succ, List.set_cons_zero]
  refine wpAnyL_take (i := 8) (oi := ⟨some 20, _, _, _, _, _⟩) (v := .int .i64 x.step) [17] rfl (by kernel_rfl) (by kernel_rfl) (by kernel_rfl) (by kernel_rfl) (fun _ _ _ h => h) (Or.inl ⟨by kernel_rfl, fun w' hS => by have c := row_cell (k := 1) (hS.rowS HVB.out GB3.out) (v := .int .i64 x.step) (rfl); go_simp⟩) (by assumption) ?_
  try simp only [Act.put, List.setIfInBounds_toArray, List.set_cons_succ, List.set_cons_zero]
  refine wpAnyL_take (i := 9) (oi := ⟨some 21, _, _, _, _, _⟩) (v := .pointer (some ⟨w.heap.size, 2, none⟩)) [17] rfl (by kernel_rfl) (by kernel_rfl) (by kernel_rfl) (by kernel_rfl) (fun _ _ _ h => h) (Or.inl ⟨by kernel_rfl, fun w' hS => by go_simp⟩) (by assumption) ?_
  try simp only [Act.put, List.setIfInBounds_toArray, List.set_cons_succ, List.set_cons_zero]
  refine wpAnyL_take (i := 10) (oi := ⟨some 22, _, _, _, _, _⟩) (v := .bool x.back) [17] rfl (by kernel_rfl) (by kernel_rfl) (by kernel_rfl) (by kernel_rfl) (fun _ _ _ h => h) (Or.inl ⟨by kernel_rfl, fun w' hS => by have c := row_cell (k := 2) (hS.rowS HVB.out GB3.out) (v := .bool x.back) (rfl); go_simp⟩) (by assumption) ?_
  try simp only [Act.put, List.setIfInBounds_toArray, List.set_cons_succ, List.set_cons_zero]
  refine wpAnyL_take (i := 11) (oi := ⟨some 23, _, _, _, _, _⟩) (v := .bool x.good) [17] rfl (by kernel_rfl) (by kernel_rfl) (by kernel_rfl) (by kernel_rfl) (fun _ _ _ h => h) (Or.inl ⟨by kernel_rfl, fun w' hS => by go_simp⟩) (by assumption) ?_
  try simp only [Act.put, List.setIfInBounds_toArray, List.set_cons_succ, List.set_cons_zero]
  refine wpAnyL_take (i := 12) (oi := ⟨some 24, _, _, _, _, _⟩) (v := .agg #[.int .i64 x.saga, .int .i64 x.step, .bool x.back, .bool x.good]) [17] rfl (by kernel_rfl) (by kernel_rfl) (by kernel_rfl) (by kernel_rfl) (fun _ _ _ h => h) (Or.inl ⟨by kernel_rfl, fun w' hS => by go_simp⟩) (by assumption) ?_
  try simp only [Act.put, List.setIfInBounds_toArray, List.set_cons_succ, List.set_cons_zero]
  refine wpAnyL_ready (rs := [13]) (by kernel_rfl) (by simp) ?_
  refine AllReadyL.cons (o := _) rfl (fun K hK => ?_) AllReadyL.nil
  have k5 := (Kept.refl (fun i => sv.ownBlock = some i) w4).alloc (.cells #[.int .i64 x.saga, .int .i64 x.step, .bool x.back, .bool x.good] 76)
  have hsrc := src_en (e := x) (heap_alloc_new w4 (.cells #[.int .i64 x.saga, .int .i64 x.step, .bool x.back, .bool x.good] 76))
  have hbf := BF3.out.kept ((Kept.refl (fun _ => False) w4).alloc (.cells #[.int .i64 x.saga, .int .i64 x.step, .bool x.back, .bool x.good] 76)) (fun _ _ e => e)
  have HSRC := Lib.hid hsrc
  have HBF := Lib.hid hbf
  have hw45 : w4.heap.size ≤ (w4.alloc (.cells #[.int .i64 x.saga, .int .i64 x.step, .bool x.back, .bool x.good] 76)).heap.size := by simp
  have HW45 := Lib.hid hw45
  clear hsrc hbf hw45
  go_simp
  refine hK.out _ _ k5 (fun hHeld => ?_)
  clear hK K
  try simp only [Act.put, List.setIfInBounds_toArray, List.set_cons_succ, List.set_cons_zero]
  refine wpAnyL_ready (rs := [14]) (by kernel_rfl) (by simp) ?_
  refine AllReadyL.cons (o := _) rfl (fun K hK => ?_) AllReadyL.nil
  obtain ⟨hi76, hs76, hb76, hz76⟩ := HI.out
  have hl1000 := HL.out
  refine step_append_buf _ rfl (.tmp 16) (.tmp 25) 63 63 rfl w0.heap.size 76 i76 (.agg #[.int .i64 0, .int .i64 0, .bool false, .bool false]) 4 24 Tryd.underlying63 hi76 hz76 hs76 hb76 rfl (by decide) sv l.length (ensC l) rfl HBF.out _ _ _ rfl HSRC.out (by unfold maxLen; omega) (by omega) (by have := HP.out.kept.size; have := HSZ3.out; have := HW45.out; omega) ?_
  intro sv' w6 hb6 hg6 ho6 _
  have k6 := k5.grown hg6 (fun j hj => .inl hj)
  have HB6 := Lib.hid hb6
  have HO6 := Lib.hid ho6
  have K6 := Lib.hid k6
  clear hb6 hg6 ho6 hi76 hs76 hb76 hz76
  obtain ⟨a6, c6, rfl, _, _⟩ := HB6.out.form
  refine hK.out _ _ k6 (fun hHeld => ?_)
  clear hK K
  try simp only [Act.put, List.setIfInBounds_toArray, List.set_cons_succ, List.set_cons_zero]
  refine wpAnyL_take (i := 15) (oi := ⟨some 27, _, _, _, _, _⟩) (v := .pointer (some ⟨g, 0, none⟩)) [16, 17] rfl (by kernel_rfl) (by kernel_rfl) (by kernel_rfl) (by kernel_rfl) (fun _ _ _ h => h) (Or.inl ⟨by kernel_rfl, fun w' hS => by go_simp⟩) (by assumption) ?_
  try simp only [Act.put, List.setIfInBounds_toArray, List.set_cons_succ, List.set_cons_zero]
  refine wpAnyL_take (i := 16) (oi := ⟨some 28, _, _, _, _, _⟩) (v := .pointer (some ⟨g, 6, none⟩)) [17] rfl (by kernel_rfl) (by kernel_rfl) (by kernel_rfl) (by kernel_rfl) (fun _ _ _ h => h) (Or.inl ⟨by kernel_rfl, fun w' hS => by go_simp⟩) (by assumption) ?_
  try simp only [Act.put, List.setIfInBounds_toArray, List.set_cons_succ, List.set_cons_zero]
  refine wpAnyL_ready (rs := [17]) (by kernel_rfl) (by simp) ?_
  refine AllReadyL.ends (o := _) rfl (fun K hK => ?_)
  have GP6 := Lib.hid (K6.out.rowS HVG.out GP3.out)
  have cc6 := row_cell (k := 6) GP6.out (v := sv) rfl
  have f6 := free_of_block (j := 6) GP6.out
  go_simp
  refine hK.out _ _ ?_
  clear hK K
  try simp only [Act.put, List.setIfInBounds_toArray, List.set_cons_succ, List.set_cons_zero]
  refine wpAnyL_done (by kernel_rfl) ?_ _
  go_wp2_with fail
  go_end0
  have kA : Kept (PaS g r sv) w2 w6 := (K3.out.mono (fun _ _ e => .inr (.inl e))).trans (K6.out.mono (fun _ _ e => .inr (.inr e)))
  have kB := kA.setCell (p := ⟨g, 6, none⟩) (.inl (.inl rfl)) (.slice a6 (l.length + 1) c6)
  have hkall : Kept (PaS g r sv) w (w6.setCell ⟨g, 6, none⟩ (.slice a6 (l.length + 1) c6)) := (K1.out.mono (fun _ _ e => e.elim)).trans kB
  have hrg := HP.out.rg
  refine NotePost.mk (sv' := .slice a6 (l.length + 1) c6) ⟨?_, ?_, ?_, HP.out.keys, HP.out.laid, HPW.out.kept.trans' hkall (fun i _ hi => HPW.out.loS i hi), ?_, ?_, HP.out.lo⟩ hkall ?_
  · have := setCell_block (k := 6) GP6.out (.slice a6 (l.length + 1) c6)
    rw [paC_set] at this
    exact this
  · unfold MapIn
    rw [setCell_heap_other _ _ _ _ hrg]
    exact (K6.out.block r (row_lt HM3.out) HP.out.vr).trans HM3.out
  · have hb := HB6.out.setCell (a := ⟨g, 6, none⟩) (HB6.out.ne_of_type GP6.out (by decide)) (.slice a6 (l.length + 1) c6)
    rw [ensC_snoc, List.length_append]
    exact hb
  · intro e he
    rcases List.mem_append.1 he with he | he
    · exact HP.out.fit e he
    · rw [List.mem_singleton.1 he]; exact HX.out
  · rw [List.map_append, List.nodup_append]
    refine ⟨HP.out.nodup, by simp, ?_⟩
    intro a ha b hb e
    simp only [List.map_cons, List.map_nil, List.mem_singleton] at hb
    obtain ⟨y, hy, hyk⟩ := List.mem_map.1 ha
    have := HNO.out
    simp only [hadE, Option.map_eq_none_iff, List.find?_eq_none] at this
    exact this y hy (by rw [hyk, e, hb]; simp)
  · rcases HO6.out with h6 | h6
    · exact .inl h6
    · right
      intro i hi
      rw [h6] at hi
      have e1 := Option.some.inj hi
      have := K1.out.size
      have := HSZ3.out
      have := HW45.out
      omega
end Go.Proofs.YtklmhegmombegaaDoor
namespace Go.Proofs.YtklmhegmombegaaDoor
open Go Go.RowKit Plain
/-- Was it compensated ahead? -/
def pUndone (l : List En) (c : Cl) : Bool := !c.back && (hadE l (c.saga, c.step, true)).getD false
def pGood (l : List En) (c : Cl) (refuse : Bool) : Bool := !refuse && !pUndone l c
/-- Is it noted? -/
def pNotes (l : List En) (c : Cl) (refuse : Bool) : Bool := pGood l c refuse || (!c.back && (pUndone l c || (c.kind != 3)))
/-- What is said, and what is remembered then. -/
def pSays (l : List En) (c : Cl) (refuse : Bool) : Bool × List En :=
  match hadE l (c.saga, c.step, c.back) with
  | some b => (b, l)
  | none => (pGood l c refuse, if pNotes l c refuse = true then l ++ [⟨c.saga, c.step, c.back, pGood l c refuse⟩] else l)
/-- A participant has answered. -/
def PaPost (v : Value) (w0 w : World) (g r : Nat) (pv wv sv : Value) (k : Ky) (n ep : Int) (l : List En) (e : Ending) (w' : World) : Prop :=
  e = .returned v ∧ ∃ sv', Pa w0 w' g r pv wv sv' k n ep l ∧ Kept (PaS g r sv) w w' ∧ (sv'.ownBlock = sv.ownBlock ∨ ∀ i, sv'.ownBlock = some i → w.heap.size ≤ i)
theorem PaPost.mk {v v' : Value} {w0 w w' : World} {g r : Nat} {pv wv sv sv' : Value} {k : Ky} {n ep : Int} {l l' : List En} (hv : v' = v) (hl : l' = l) (h : Pa w0 w' g r pv wv sv' k n ep l') (kk : Kept (PaS g r sv) w w') (ho : sv'.ownBlock = sv.ownBlock ∨ ∀ i, sv'.ownBlock = some i → w.heap.size ≤ i) : PaPost v w0 w g r pv wv sv k n ep l (.returned v') w' := by
  subst hv hl; exact ⟨rfl, sv', h, kk, ho⟩
section
variable {ops : Array Oper} {dst : Option Tmp} {ty : TypeId} {pos : String} {aft : Array Edge} {gd : Option (Nat × Bool)} {a : Act} {S : World → Prop}
theorem yields_lookT {m x : Operand} {r : Nat} {l : List En} {s t : Int} {b u y : Bool} {o : Option Bool} (ho : hadE l (s, t, b) = o) (hu : o.getD false = u) (hy : o.isSome = y) (hw : Region.wanted ⟨dst, .lookup 116 m x true, ty, pos, aft, gd⟩ (yielded ops a.tmps) = true) (hm : a.eval m = .map (some r)) (hx : a.eval x = keyV s t b) (hb : ∀ w, S w → MapIn w r l) (hl : ∀ e ∈ l, e.fit) (hn : (l.map En.key).Nodup) (hs : W64 s) (ht : W64 t) :
    YieldsIf Tryd.prog ops S ⟨dst, .lookup 116 m x true, ty, pos, aft, gd⟩ (.tuple #[.bool u, .bool y]) a := by
  have h := yields_look116 (ok := true) hw hm hx hb hl hn hs ht
  rw [ho, hu, hy] at h
  exact h
theorem yields_lookF {m x : Operand} {r : Nat} {l : List En} {s t : Int} {b u : Bool} (hu : (hadE l (s, t, b)).getD false = u) (hw : Region.wanted ⟨dst, .lookup 116 m x false, ty, pos, aft, gd⟩ (yielded ops a.tmps) = true) (hm : a.eval m = .map (some r)) (hx : a.eval x = keyV s t b) (hb : ∀ w, S w → MapIn w r l) (hl : ∀ e ∈ l, e.fit) (hn : (l.map En.key).Nodup) (hs : W64 s) (ht : W64 t) :
    YieldsIf Tryd.prog ops S ⟨dst, .lookup 116 m x false, ty, pos, aft, gd⟩ (.bool u) a := by
  have h := yields_look116 (ok := false) hw hm hx hb hl hn hs ht
  rw [hu] at h
  exact h
end
set_option maxHeartbeats 8000000 in
theorem f_says (w0 : World) (g r : Nat) (pv wv sv : Value) (k : Ky) (n ep : Int) (l : List En) (c : Cl) (refuse : Bool) (w : World) (h : Pa w0 w g r pv wv sv k n ep l) (hs : W64 c.saga) (ht : W64 c.step) (hl : l.length ≤ 1000) :
    Calls Tryd.prog 68 #[.pointer (some ⟨g, 0, none⟩), .agg (clC c), .bool refuse] w (PaPost (.bool (pSays l c refuse).1) w0 w g r pv wv sv k n ep (pSays l c refuse).2) := by
  have k1 := (((Kept.refl (fun _ => False) w).alloc (.cells (clC c) 59)).alloc (.cells #[.int .i64 c.saga, .int .i64 c.step, .bool c.back] 150)).drew
  have gc := heap_alloc_new w (.cells (clC c) 59)
  have GK := Lib.hid (show (((w.alloc (.cells (clC c) 59)).alloc (.cells #[.int .i64 c.saga, .int .i64 c.step, .bool c.back] 150)).drew).heap[w.heap.size + 1]? = _ from heap_alloc2_new w _ _)
  have GC := Lib.hid (show (((w.alloc (.cells (clC c) 59)).alloc (.cells #[.int .i64 c.saga, .int .i64 c.step, .bool c.back] 150)).drew).heap[w.heap.size]? = _ from heap_alloc2_old w _ _)
  have HP := Lib.hid (h.same k1)
  have HPW := Lib.hid h
  have K1 := Lib.hid k1
  have HS := Lib.hid (And.intro hs ht)
  have HL := Lib.hid hl
  have HB := Lib.hid (show hadE l (c.saga, c.step, c.back) = hadE l (c.saga, c.step, c.back) from rfl)
  have c0 := row_cell (k := 0) gc (v := .int .i64 c.saga) (by simp [clC])
  have c1 := row_cell (k := 1) gc (v := .int .i64 c.step) (by simp [clC])
  have c3 := row_cell (k := 3) gc (v := .bool c.back) (by simp [clC])
  clear gc k1 h hs ht hl HB
  go_enter Tryd.func68, Tryd.ntmps68
  go_upto_region 2 with (fail)
  clear c0 c1 c3
  refine wp_region_held_drew (S := fun w' => Kept (fun _ => False) ((w.alloc (.cells (clC c) 59)).alloc (.cells #[.int .i64 c.saga, .int .i64 c.step, .bool c.back] 150)).drew w') (by kernel_rfl) (Kept.refl _ _) (fun hHeld => ?_)
  generalize ((w.alloc (.cells (clC c) 59)).alloc (.cells #[.int .i64 c.saga, .int .i64 c.step, .bool c.back] 150)).drew = w2 at *
  cases hh : hadE l (c.saga, c.step, c.back) with

  | some b =>
    have E : Hid (pSays l c refuse = (b, l)) := by show _ = _; simp [pSays, hh]
    refine wpAnyH_take (i := 0) (oi := ⟨some 20, _, _, _, _, _⟩) (v := .pointer (some ⟨g, 0, none⟩)) rfl (by kernel_rfl) (by kernel_rfl) (by kernel_rfl) (fun _ _ _ h => h) (Or.inl ⟨by kernel_rfl, fun w' hS => by go_simp⟩) (by assumption) ?_
    try simp only [Act.put, List.setIfInBounds_toArray, List.set_cons_succ, List.set_cons_zero]
    refine wpAnyH_take (i := 1) (oi := ⟨some 21, _, _, _, _, _⟩) (v := .pointer (some ⟨g, 0, none⟩)) rfl (by kernel_rfl) (by kernel_rfl) (by kernel_rfl) (fun _ _ _ h => h) (Or.inl ⟨by kernel_rfl, fun w' hS => by go_simp⟩) (by assumption) ?_
    try simp only [Act.put, List.setIfInBounds_toArray, List.set_cons_succ, List.set_cons_zero]
    refine wpAnyH_take (i := 2) (oi := ⟨some 22, _, _, _, _, _⟩) (v := .pointer (some ⟨g, 5, none⟩)) rfl (by kernel_rfl) (by kernel_rfl) (by kernel_rfl) (fun _ _ _ h => h) (Or.inl ⟨by kernel_rfl, fun w' hS => by go_simp⟩) (by assumption) ?_
    try simp only [Act.put, List.setIfInBounds_toArray, List.set_cons_succ, List.set_cons_zero]
    refine wpAnyH_take (i := 3) (oi := ⟨some 23, _, _, _, _, _⟩) (v := .map (some r)) rfl (by kernel_rfl) (by kernel_rfl) (by kernel_rfl) (fun _ _ _ h => h) (Or.inl ⟨by kernel_rfl, fun w' hS => by have c := row_cell (k := 5) (hS.row HP.out.blk) (v := .map (some r)) (rfl); go_simp⟩) (by assumption) ?_
    try simp only [Act.put, List.setIfInBounds_toArray, List.set_cons_succ, List.set_cons_zero]
    refine wpAnyH_take (i := 4) (oi := ⟨some 24, _, _, _, _, _⟩) (v := .agg #[.int .i64 c.saga, .int .i64 c.step, .bool c.back]) rfl (by kernel_rfl) (by kernel_rfl) (by kernel_rfl) (fun _ _ _ h => h) (Or.inl ⟨by kernel_rfl, fun w' hS => by have c0 := row_cell (k := 0) (hS.row GK.out) (v := .int .i64 c.saga) (rfl); have c1 := row_cell (k := 1) (hS.row GK.out) (v := .int .i64 c.step) (rfl); have c2 := row_cell (k := 2) (hS.row GK.out) (v := .bool c.back) (rfl); go_simp⟩) (by assumption) ?_
    try simp only [Act.put, List.setIfInBounds_toArray, List.set_cons_succ, List.set_cons_zero]
    refine wpAnyH_take (i := 5) (oi := ⟨some 25, _, _, _, _, _⟩) (v := .tuple #[.bool b, .bool true]) rfl (by kernel_rfl) (by kernel_rfl) (by kernel_rfl) (fun _ _ _ h => h) (yields_lookT (r := r) (l := l) (s := c.saga) (t := c.step) (b := c.back) hh rfl rfl (by kernel_rfl) rfl rfl (fun w' hS => (hS.block r HP.out.ltr id).trans HP.out.map) HP.out.fit HP.out.nodup HS.out.1 HS.out.2) (by assumption) ?_
    try simp only [Act.put, List.setIfInBounds_toArray, List.set_cons_succ, List.set_cons_zero]
    refine wpAnyH_take (i := 6) (oi := ⟨some 19, _, _, _, _, _⟩) (v := .tuple #[.bool b, .bool true]) rfl (by kernel_rfl) (by kernel_rfl) (by kernel_rfl) (fun _ _ _ h => h) (Or.inl ⟨by kernel_rfl, fun w' hS => by go_simp⟩) (by assumption) ?_
    try simp only [Act.put, List.setIfInBounds_toArray, List.set_cons_succ, List.set_cons_zero]
    refine wpAnyH_take (i := 7) (oi := ⟨some 26, _, _, _, _, _⟩) (v := .bool b) rfl (by kernel_rfl) (by kernel_rfl) (by kernel_rfl) (fun _ _ _ h => h) (Or.inl ⟨by kernel_rfl, fun w' hS => by go_simp⟩) (by assumption) ?_
    try simp only [Act.put, List.setIfInBounds_toArray, List.set_cons_succ, List.set_cons_zero]
    refine wpAnyH_take (i := 8) (oi := ⟨some 27, _, _, _, _, _⟩) (v := .bool true) rfl (by kernel_rfl) (by kernel_rfl) (by kernel_rfl) (fun _ _ _ h => h) (Or.inl ⟨by kernel_rfl, fun w' hS => by go_simp⟩) (by assumption) ?_
    try simp only [Act.put, List.setIfInBounds_toArray, List.set_cons_succ, List.set_cons_zero]
    refine wpAnyH_take (i := 9) (oi := ⟨some 8, _, _, _, _, _⟩) (v := .bool b) rfl (by kernel_rfl) (by kernel_rfl) (by kernel_rfl) (fun _ _ _ h => h) (Or.inl ⟨by kernel_rfl, fun w' hS => by go_simp⟩) (by assumption) ?_
    try simp only [Act.put, List.setIfInBounds_toArray, List.set_cons_succ, List.set_cons_zero]
    refine wpAnyH_take (i := 10) (oi := ⟨some 9, _, _, _, _, _⟩) (v := .bool true) rfl (by kernel_rfl) (by kernel_rfl) (by kernel_rfl) (fun _ _ _ h => h) (Or.inl ⟨by kernel_rfl, fun w' hS => by go_simp⟩) (by assumption) ?_
    try simp only [Act.put, List.setIfInBounds_toArray, List.set_cons_succ, List.set_cons_zero]
    refine wpAnyH_done (by kernel_rfl) ?_ _
    clear hh
    go_wp2_with fail
    go_ret
    exact PaPost.mk (show Value.bool b = _ by rw [E.out]) (by rw [E.out]) HP.out (K1.out.mono fun _ _ e => e.elim) (.inl rfl)
  | none =>
    have E1 : Hid ((pSays l c refuse).1 = pGood l c refuse) := by show _ = _; simp [pSays, hh]
    have E2 : Hid ((pSays l c refuse).2 = if pNotes l c refuse = true then l ++ [⟨c.saga, c.step, c.back, pGood l c refuse⟩] else l) := by show _ = _; simp [pSays, hh]
    refine wpAnyH_take (i := 0) (oi := ⟨some 20, _, _, _, _, _⟩) (v := .pointer (some ⟨g, 0, none⟩)) rfl (by kernel_rfl) (by kernel_rfl) (by kernel_rfl) (fun _ _ _ h => h) (Or.inl ⟨by kernel_rfl, fun w' hS => by go_simp⟩) (by assumption) ?_
    try simp only [Act.put, List.setIfInBounds_toArray, List.set_cons_succ, List.set_cons_zero]
    refine wpAnyH_take (i := 1) (oi := ⟨some 21, _, _, _, _, _⟩) (v := .pointer (some ⟨g, 0, none⟩)) rfl (by kernel_rfl) (by kernel_rfl) (by kernel_rfl) (fun _ _ _ h => h) (Or.inl ⟨by kernel_rfl, fun w' hS => by go_simp⟩) (by assumption) ?_
    try simp only [Act.put, List.setIfInBounds_toArray, List.set_cons_succ, List.set_cons_zero]
    refine wpAnyH_take (i := 2) (oi := ⟨some 22, _, _, _, _, _⟩) (v := .pointer (some ⟨g, 5, none⟩)) rfl (by kernel_rfl) (by kernel_rfl) (by kernel_rfl) (fun _ _ _ h => h) (Or.inl ⟨by kernel_rfl, fun w' hS => by go_simp⟩) (by assumption) ?_
    try simp only [Act.put, List.setIfInBounds_toArray, List.set_cons_succ, List.set_cons_zero]
    refine wpAnyH_take (i := 3) (oi := ⟨some 23, _, _, _, _, _⟩) (v := .map (some r)) rfl (by kernel_rfl) (by kernel_rfl) (by kernel_rfl) (fun _ _ _ h => h) (Or.inl ⟨by kernel_rfl, fun w' hS => by have c := row_cell (k := 5) (hS.row HP.out.blk) (v := .map (some r)) (rfl); go_simp⟩) (by assumption) ?_
    try simp only [Act.put, List.setIfInBounds_toArray, List.set_cons_succ, List.set_cons_zero]
    refine wpAnyH_take (i := 4) (oi := ⟨some 24, _, _, _, _, _⟩) (v := .agg #[.int .i64 c.saga, .int .i64 c.step, .bool c.back]) rfl (by kernel_rfl) (by kernel_rfl) (by kernel_rfl) (fun _ _ _ h => h) (Or.inl ⟨by kernel_rfl, fun w' hS => by have c0 := row_cell (k := 0) (hS.row GK.out) (v := .int .i64 c.saga) (rfl); have c1 := row_cell (k := 1) (hS.row GK.out) (v := .int .i64 c.step) (rfl); have c2 := row_cell (k := 2) (hS.row GK.out) (v := .bool c.back) (rfl); go_simp⟩) (by assumption) ?_
    try simp only [Act.put, List.setIfInBounds_toArray, List.set_cons_succ, List.set_cons_zero]
    refine wpAnyH_take (i := 5) (oi := ⟨some 25, _, _, _, _, _⟩) (v := .tuple #[.bool false, .bool false]) rfl (by kernel_rfl) (by kernel_rfl) (by kernel_rfl) (fun _ _ _ h => h) (yields_lookT (r := r) (l := l) (s := c.saga) (t := c.step) (b := c.back) hh rfl rfl (by kernel_rfl) rfl rfl (fun w' hS => (hS.block r HP.out.ltr id).trans HP.out.map) HP.out.fit HP.out.nodup HS.out.1 HS.out.2) (by assumption) ?_
    try simp only [Act.put, List.setIfInBounds_toArray, List.set_cons_succ, List.set_cons_zero]
    refine wpAnyH_take (i := 6) (oi := ⟨some 19, _, _, _, _, _⟩) (v := .tuple #[.bool false, .bool false]) rfl (by kernel_rfl) (by kernel_rfl) (by kernel_rfl) (fun _ _ _ h => h) (Or.inl ⟨by kernel_rfl, fun w' hS => by go_simp⟩) (by assumption) ?_
    try simp only [Act.put, List.setIfInBounds_toArray, List.set_cons_succ, List.set_cons_zero]
    refine wpAnyH_take (i := 7) (oi := ⟨some 26, _, _, _, _, _⟩) (v := .bool false) rfl (by kernel_rfl) (by kernel_rfl) (by kernel_rfl) (fun _ _ _ h => h) (Or.inl ⟨by kernel_rfl, fun w' hS => by go_simp⟩) (by assumption) ?_
    try simp only [Act.put, List.setIfInBounds_toArray, List.set_cons_succ, List.set_cons_zero]
    refine wpAnyH_take (i := 8) (oi := ⟨some 27, _, _, _, _, _⟩) (v := .bool false) rfl (by kernel_rfl) (by kernel_rfl) (by kernel_rfl) (fun _ _ _ h => h) (Or.inl ⟨by kernel_rfl, fun w' hS => by go_simp⟩) (by assumption) ?_
    try simp only [Act.put, List.setIfInBounds_toArray, List.set_cons_succ, List.set_cons_zero]
    refine wpAnyH_take (i := 9) (oi := ⟨some 8, _, _, _, _, _⟩) (v := .bool false) rfl (by kernel_rfl) (by kernel_rfl) (by kernel_rfl) (fun _ _ _ h => h) (Or.inl ⟨by kernel_rfl, fun w' hS => by go_simp⟩) (by assumption) ?_
    try simp only [Act.put, List.setIfInBounds_toArray, List.set_cons_succ, List.set_cons_zero]
    refine wpAnyH_take (i := 10) (oi := ⟨some 9, _, _, _, _, _⟩) (v := .bool false) rfl (by kernel_rfl) (by kernel_rfl) (by kernel_rfl) (fun _ _ _ h => h) (Or.inl ⟨by kernel_rfl, fun w' hS => by go_simp⟩) (by assumption) ?_
    try simp only [Act.put, List.setIfInBounds_toArray, List.set_cons_succ, List.set_cons_zero]
    refine wpAnyH_done (by kernel_rfl) ?_ _
    have HNO := Lib.hid hh
    clear hh
    go_upto_region 5 with (fail)
    clear hHeld
    refine wp_region_held_drew (S := fun w' => Kept (fun _ => False) w2.drew w') (by kernel_rfl) (Kept.refl _ _) (fun hHeld => ?_)
    have kd := (Kept.refl (fun _ => False) w2).drew
    have GK3 := Lib.hid (kd.row GK.out)
    have GC3 := Lib.hid (kd.row GC.out)
    have HP3 := Lib.hid (HP.out.same kd)
    have K3 := Lib.hid (K1.out.trans kd)
    clear kd HP GK GC K1
    generalize w2.drew = w3 at *
    have cc3 := row_cell (k := 3) GC3.out (v := .bool c.back) (by simp [clC])
    have cc5 := row_cell (k := 5) GC3.out (v := .int .i64 c.kind) (by simp [clC])
    have q0 := row_cell (k := 0) GK3.out (v := .int .i64 c.saga) rfl
    have q1 := row_cell (k := 1) GK3.out (v := .int .i64 c.step) rfl
    have q2 := row_cell (k := 2) GK3.out (v := .bool c.back) rfl
    cases hbk : c.back with
    | true =>
      rw [hbk] at cc3 q2
      have EU : Hid (pUndone l c = false) := by show _ = _; simp [pUndone, hbk]
      have EG : Hid (pGood l c refuse = !refuse) := by show _ = _; simp [pGood, EU.out]
      have EN : Hid (pNotes l c refuse = !refuse) := by show _ = _; simp [pNotes, EG.out, hbk]
      have HBK := Lib.hid hbk
      refine wpAnyH_take (i := 0) (oi := ⟨some 30, _, _, _, _, _⟩) (v := .pointer (some ⟨w.heap.size, 3, none⟩)) rfl (by kernel_rfl) (by kernel_rfl) (by kernel_rfl) (fun _ _ _ h => h) (Or.inl ⟨by kernel_rfl, fun w' hS => by go_simp⟩) (by assumption) ?_
      try simp only [Act.put, List.setIfInBounds_toArray, List.set_cons_succ, List.set_cons_zero]
      refine wpAnyH_take (i := 1) (oi := ⟨some 31, _, _, _, _, _⟩) (v := .bool true) rfl (by kernel_rfl) (by kernel_rfl) (by kernel_rfl) (fun _ _ _ h => h) (Or.inl ⟨by kernel_rfl, fun w' hS => by have c := row_cell (k := 3) (hS.row GC3.out) (v := .bool true) (by simp [clC, hbk]); go_simp⟩) (by assumption) ?_
      try simp only [Act.put, List.setIfInBounds_toArray, List.set_cons_succ, List.set_cons_zero]
      refine wpAnyH_take (i := 2) (oi := ⟨some 32, _, _, _, _, _⟩) (v := .bool false) rfl (by kernel_rfl) (by kernel_rfl) (by kernel_rfl) (fun _ _ _ h => h) (Or.inl ⟨by kernel_rfl, fun w' hS => by go_simp⟩) (by assumption) ?_
      try simp only [Act.put, List.setIfInBounds_toArray, List.set_cons_succ, List.set_cons_zero]
      refine wpAnyH_take (i := 3) (oi := ⟨some 33, _, _, _, _, _⟩) (v := .bool false) rfl (by kernel_rfl) (by kernel_rfl) (by kernel_rfl) (fun _ _ _ h => h) (Or.inl ⟨by kernel_rfl, fun w' hS => by go_simp⟩) (by assumption) ?_
      try simp only [Act.put, List.setIfInBounds_toArray, List.set_cons_succ, List.set_cons_zero]
      refine wpAnyH_take (i := 4) (oi := ⟨some 34, _, _, _, _, _⟩) (v := undef) rfl (by kernel_rfl) (by kernel_rfl) (by kernel_rfl) (fun _ _ _ h => h) (Or.inr ⟨by kernel_rfl, rfl⟩) (by assumption) ?_
      try simp only [Act.put, List.setIfInBounds_toArray, List.set_cons_succ, List.set_cons_zero]
      refine wpAnyH_take (i := 5) (oi := ⟨some 35, _, _, _, _, _⟩) (v := undef) rfl (by kernel_rfl) (by kernel_rfl) (by kernel_rfl) (fun _ _ _ h => h) (Or.inr ⟨by kernel_rfl, rfl⟩) (by assumption) ?_
      try simp only [Act.put, List.setIfInBounds_toArray, List.set_cons_succ, List.set_cons_zero]
      refine wpAnyH_take (i := 6) (oi := ⟨some 36, _, _, _, _, _⟩) (v := undef) rfl (by kernel_rfl) (by kernel_rfl) (by kernel_rfl) (fun _ _ _ h => h) (Or.inr ⟨by kernel_rfl, rfl⟩) (by assumption) ?_
      try simp only [Act.put, List.setIfInBounds_toArray, List.set_cons_succ, List.set_cons_zero]
      refine wpAnyH_take (i := 7) (oi := ⟨some 37, _, _, _, _, _⟩) (v := undef) rfl (by kernel_rfl) (by kernel_rfl) (by kernel_rfl) (fun _ _ _ h => h) (Or.inr ⟨by kernel_rfl, rfl⟩) (by assumption) ?_
      try simp only [Act.put, List.setIfInBounds_toArray, List.set_cons_succ, List.set_cons_zero]
      refine wpAnyH_take (i := 8) (oi := ⟨some 38, _, _, _, _, _⟩) (v := undef) rfl (by kernel_rfl) (by kernel_rfl) (by kernel_rfl) (fun _ _ _ h => h) (Or.inr ⟨by kernel_rfl, rfl⟩) (by assumption) ?_
      try simp only [Act.put, List.setIfInBounds_toArray, List.set_cons_succ, List.set_cons_zero]
      refine wpAnyH_take (i := 9) (oi := ⟨some 39, _, _, _, _, _⟩) (v := undef) rfl (by kernel_rfl) (by kernel_rfl) (by kernel_rfl) (fun _ _ _ h => h) (Or.inr ⟨by kernel_rfl, rfl⟩) (by assumption) ?_
      try simp only [Act.put, List.setIfInBounds_toArray, List.set_cons_succ, List.set_cons_zero]
      refine wpAnyH_take (i := 10) (oi := ⟨some 40, _, _, _, _, _⟩) (v := undef) rfl (by kernel_rfl) (by kernel_rfl) (by kernel_rfl) (fun _ _ _ h => h) (Or.inr ⟨by kernel_rfl, rfl⟩) (by assumption) ?_
      try simp only [Act.put, List.setIfInBounds_toArray, List.set_cons_succ, List.set_cons_zero]
      refine wpAnyH_take (i := 11) (oi := ⟨some 41, _, _, _, _, _⟩) (v := undef) rfl (by kernel_rfl) (by kernel_rfl) (by kernel_rfl) (fun _ _ _ h => h) (Or.inr ⟨by kernel_rfl, rfl⟩) (by assumption) ?_
      try simp only [Act.put, List.setIfInBounds_toArray, List.set_cons_succ, List.set_cons_zero]
      refine wpAnyH_take (i := 12) (oi := ⟨some 42, _, _, _, _, _⟩) (v := undef) rfl (by kernel_rfl) (by kernel_rfl) (by kernel_rfl) (fun _ _ _ h => h) (Or.inr ⟨by kernel_rfl, rfl⟩) (by assumption) ?_
      try simp only [Act.put, List.setIfInBounds_toArray, List.set_cons_succ, List.set_cons_zero]
      refine wpAnyH_take (i := 13) (oi := ⟨some 43, _, _, _, _, _⟩) (v := undef) rfl (by kernel_rfl) (by kernel_rfl) (by kernel_rfl) (fun _ _ _ h => h) (Or.inr ⟨by kernel_rfl, rfl⟩) (by assumption) ?_
      try simp only [Act.put, List.setIfInBounds_toArray, List.set_cons_succ, List.set_cons_zero]
      refine wpAnyH_take (i := 14) (oi := ⟨some 44, _, _, _, _, _⟩) (v := .bool false) rfl (by kernel_rfl) (by kernel_rfl) (by kernel_rfl) (fun _ _ _ h => h) (Or.inl ⟨by kernel_rfl, fun w' hS => by go_simp⟩) (by assumption) ?_
      try simp only [Act.put, List.setIfInBounds_toArray, List.set_cons_succ, List.set_cons_zero]
      refine wpAnyH_take (i := 15) (oi := ⟨some 10, _, _, _, _, _⟩) (v := .bool false) rfl (by kernel_rfl) (by kernel_rfl) (by kernel_rfl) (fun _ _ _ h => h) (Or.inl ⟨by kernel_rfl, fun w' hS => by go_simp⟩) (by assumption) ?_
      try simp only [Act.put, List.setIfInBounds_toArray, List.set_cons_succ, List.set_cons_zero]
      refine wpAnyH_done (by kernel_rfl) ?_ _
      clear hbk
      cases refuse with
      | true =>
        go_wp2_with fail
        go_ret
        exact PaPost.mk (show Value.bool false = _ by rw [E1.out, EG.out] <;> rfl) (by rw [E2.out, EN.out]; simp) HP3.out (K3.out.mono fun _ _ e => e.elim) (.inl rfl)
      | false =>
        have HF := Lib.hid (f_note w0 g r pv wv sv k n ep l ⟨c.saga, c.step, c.back, true⟩ w3 HP3.out HS.out HNO.out HL.out)
        rw [HBK.out] at HF
        dsimp only at HF
        go_wp2_with fail
        refine HF.out.mono ?_
        rintro e w4 ⟨rfl, sv4, hp4, k4, ho4⟩
        have HP4 := Lib.hid hp4
        have K4 := Lib.hid k4
        have HO4 := Lib.hid ho4
        clear hp4 k4 ho4
        go_wp2_with fail
        go_ret
        exact PaPost.mk (show Value.bool true = _ by rw [E1.out, EG.out] <;> rfl) (by rw [E2.out, EN.out]; simp [HBK.out, EG.out]) HP4.out ((K3.out.mono fun _ _ e => e.elim).trans K4.out) (HO4.out.imp id fun h i hi => Nat.le_trans K3.out.size (h i hi))
    | false =>
      rw [hbk] at cc3 q2
      have HBK := Lib.hid hbk
      cases hu : (hadE l (c.saga, c.step, true)).getD false with
      | true =>
        have EU : Hid (pUndone l c = true) := by show _ = _; simp [pUndone, hbk, hu]
        have EG : Hid (pGood l c refuse = false) := by show _ = _; simp [pGood, EU.out]
        have EN : Hid (pNotes l c refuse = true) := by show _ = _; simp [pNotes, EG.out, EU.out, hbk]
        refine wpAnyH_take (i := 0) (oi := ⟨some 30, _, _, _, _, _⟩) (v := .pointer (some ⟨w.heap.size, 3, none⟩)) rfl (by kernel_rfl) (by kernel_rfl) (by kernel_rfl) (fun _ _ _ h => h) (Or.inl ⟨by kernel_rfl, fun w' hS => by go_simp⟩) (by assumption) ?_
        try simp only [Act.put, List.setIfInBounds_toArray, List.set_cons_succ, List.set_cons_zero]
        refine wpAnyH_take (i := 1) (oi := ⟨some 31, _, _, _, _, _⟩) (v := .bool false) rfl (by kernel_rfl) (by kernel_rfl) (by kernel_rfl) (fun _ _ _ h => h) (Or.inl ⟨by kernel_rfl, fun w' hS => by have c := row_cell (k := 3) (hS.row GC3.out) (v := .bool false) (by simp [clC, hbk]); go_simp⟩) (by assumption) ?_
        try simp only [Act.put, List.setIfInBounds_toArray, List.set_cons_succ, List.set_cons_zero]
        refine wpAnyH_take (i := 2) (oi := ⟨some 32, _, _, _, _, _⟩) (v := .bool true) rfl (by kernel_rfl) (by kernel_rfl) (by kernel_rfl) (fun _ _ _ h => h) (Or.inl ⟨by kernel_rfl, fun w' hS => by go_simp⟩) (by assumption) ?_
        try simp only [Act.put, List.setIfInBounds_toArray, List.set_cons_succ, List.set_cons_zero]
        refine wpAnyH_take (i := 3) (oi := ⟨some 33, _, _, _, _, _⟩) (v := .bool true) rfl (by kernel_rfl) (by kernel_rfl) (by kernel_rfl) (fun _ _ _ h => h) (Or.inl ⟨by kernel_rfl, fun w' hS => by go_simp⟩) (by assumption) ?_
        try simp only [Act.put, List.setIfInBounds_toArray, List.set_cons_succ, List.set_cons_zero]
        refine wpAnyH_take (i := 4) (oi := ⟨some 34, _, _, _, _, _⟩) (v := .pointer (some ⟨g, 0, none⟩)) rfl (by kernel_rfl) (by kernel_rfl) (by kernel_rfl) (fun _ _ _ h => h) (Or.inl ⟨by kernel_rfl, fun w' hS => by go_simp⟩) (by assumption) ?_
        try simp only [Act.put, List.setIfInBounds_toArray, List.set_cons_succ, List.set_cons_zero]
        refine wpAnyH_take (i := 5) (oi := ⟨some 35, _, _, _, _, _⟩) (v := .pointer (some ⟨g, 0, none⟩)) rfl (by kernel_rfl) (by kernel_rfl) (by kernel_rfl) (fun _ _ _ h => h) (Or.inl ⟨by kernel_rfl, fun w' hS => by go_simp⟩) (by assumption) ?_
        try simp only [Act.put, List.setIfInBounds_toArray, List.set_cons_succ, List.set_cons_zero]
        refine wpAnyH_take (i := 6) (oi := ⟨some 36, _, _, _, _, _⟩) (v := .pointer (some ⟨g, 5, none⟩)) rfl (by kernel_rfl) (by kernel_rfl) (by kernel_rfl) (fun _ _ _ h => h) (Or.inl ⟨by kernel_rfl, fun w' hS => by go_simp⟩) (by assumption) ?_
        try simp only [Act.put, List.setIfInBounds_toArray, List.set_cons_succ, List.set_cons_zero]
        refine wpAnyH_take (i := 7) (oi := ⟨some 37, _, _, _, _, _⟩) (v := .map (some r)) rfl (by kernel_rfl) (by kernel_rfl) (by kernel_rfl) (fun _ _ _ h => h) (Or.inl ⟨by kernel_rfl, fun w' hS => by have c := row_cell (k := 5) (hS.row HP3.out.blk) (v := .map (some r)) (rfl); go_simp⟩) (by assumption) ?_
        try simp only [Act.put, List.setIfInBounds_toArray, List.set_cons_succ, List.set_cons_zero]
        refine wpAnyH_take (i := 8) (oi := ⟨some 38, _, _, _, _, _⟩) (v := .pointer (some ⟨w.heap.size, 0, none⟩)) rfl (by kernel_rfl) (by kernel_rfl) (by kernel_rfl) (fun _ _ _ h => h) (Or.inl ⟨by kernel_rfl, fun w' hS => by go_simp⟩) (by assumption) ?_
        try simp only [Act.put, List.setIfInBounds_toArray, List.set_cons_succ, List.set_cons_zero]
        refine wpAnyH_take (i := 9) (oi := ⟨some 39, _, _, _, _, _⟩) (v := .int .i64 c.saga) rfl (by kernel_rfl) (by kernel_rfl) (by kernel_rfl) (fun _ _ _ h => h) (Or.inl ⟨by kernel_rfl, fun w' hS => by have c := row_cell (k := 0) (hS.row GC3.out) (v := .int .i64 c.saga) (by simp [clC]); go_simp⟩) (by assumption) ?_
        try simp only [Act.put, List.setIfInBounds_toArray, List.set_cons_succ, List.set_cons_zero]
        refine wpAnyH_take (i := 10) (oi := ⟨some 40, _, _, _, _, _⟩) (v := .pointer (some ⟨w.heap.size, 1, none⟩)) rfl (by kernel_rfl) (by kernel_rfl) (by kernel_rfl) (fun _ _ _ h => h) (Or.inl ⟨by kernel_rfl, fun w' hS => by go_simp⟩) (by assumption) ?_
        try simp only [Act.put, List.setIfInBounds_toArray, List.set_cons_succ, List.set_cons_zero]
        refine wpAnyH_take (i := 11) (oi := ⟨some 41, _, _, _, _, _⟩) (v := .int .i64 c.step) rfl (by kernel_rfl) (by kernel_rfl) (by kernel_rfl) (fun _ _ _ h => h) (Or.inl ⟨by kernel_rfl, fun w' hS => by have c := row_cell (k := 1) (hS.row GC3.out) (v := .int .i64 c.step) (by simp [clC]); go_simp⟩) (by assumption) ?_
        try simp only [Act.put, List.setIfInBounds_toArray, List.set_cons_succ, List.set_cons_zero]
        refine wpAnyH_take (i := 12) (oi := ⟨some 42, _, _, _, _, _⟩) (v := .agg #[.int .i64 c.saga, .int .i64 c.step, .bool true]) rfl (by kernel_rfl) (by kernel_rfl) (by kernel_rfl) (fun _ _ _ h => h) (Or.inl ⟨by kernel_rfl, fun w' hS => by go_simp⟩) (by assumption) ?_
        try simp only [Act.put, List.setIfInBounds_toArray, List.set_cons_succ, List.set_cons_zero]
        refine wpAnyH_take (i := 13) (oi := ⟨some 43, _, _, _, _, _⟩) (v := .bool true) rfl (by kernel_rfl) (by kernel_rfl) (by kernel_rfl) (fun _ _ _ h => h) (yields_lookF (r := r) (l := l) (s := c.saga) (t := c.step) (b := true) hu (by kernel_rfl) rfl rfl (fun w' hS => (hS.block r HP3.out.ltr id).trans HP3.out.map) HP3.out.fit HP3.out.nodup HS.out.1 HS.out.2) (by assumption) ?_
        try simp only [Act.put, List.setIfInBounds_toArray, List.set_cons_succ, List.set_cons_zero]
        refine wpAnyH_take (i := 14) (oi := ⟨some 44, _, _, _, _, _⟩) (v := .bool true) rfl (by kernel_rfl) (by kernel_rfl) (by kernel_rfl) (fun _ _ _ h => h) (Or.inl ⟨by kernel_rfl, fun w' hS => by go_simp⟩) (by assumption) ?_
        try simp only [Act.put, List.setIfInBounds_toArray, List.set_cons_succ, List.set_cons_zero]
        refine wpAnyH_take (i := 15) (oi := ⟨some 10, _, _, _, _, _⟩) (v := .bool true) rfl (by kernel_rfl) (by kernel_rfl) (by kernel_rfl) (fun _ _ _ h => h) (Or.inl ⟨by kernel_rfl, fun w' hS => by go_simp⟩) (by assumption) ?_
        try simp only [Act.put, List.setIfInBounds_toArray, List.set_cons_succ, List.set_cons_zero]
        refine wpAnyH_done (by kernel_rfl) ?_ _
        clear hbk hu
        have HF := Lib.hid (f_note w0 g r pv wv sv k n ep l ⟨c.saga, c.step, c.back, false⟩ w3 HP3.out HS.out HNO.out HL.out)
        rw [HBK.out] at HF
        dsimp only at HF
        cases refuse with
        | true =>
          go_wp2_with fail
          refine HF.out.mono ?_
          rintro e w4 ⟨rfl, sv4, hp4, k4, ho4⟩
          have HP4 := Lib.hid hp4
          have K4 := Lib.hid k4
          have HO4 := Lib.hid ho4
          clear hp4 k4 ho4
          go_wp2_with fail
          go_ret
          exact PaPost.mk (show Value.bool false = _ by rw [E1.out, EG.out] <;> rfl) (by rw [E2.out, EN.out]; simp [HBK.out, EG.out]) HP4.out ((K3.out.mono fun _ _ e => e.elim).trans K4.out) (HO4.out.imp id fun h i hi => Nat.le_trans K3.out.size (h i hi))
        | false =>
          go_wp2_with fail
          refine HF.out.mono ?_
          rintro e w4 ⟨rfl, sv4, hp4, k4, ho4⟩
          have HP4 := Lib.hid hp4
          have K4 := Lib.hid k4
          have HO4 := Lib.hid ho4
          clear hp4 k4 ho4
          go_wp2_with fail
          go_ret
          exact PaPost.mk (show Value.bool false = _ by rw [E1.out, EG.out] <;> rfl) (by rw [E2.out, EN.out]; simp [HBK.out, EG.out]) HP4.out ((K3.out.mono fun _ _ e => e.elim).trans K4.out) (HO4.out.imp id fun h i hi => Nat.le_trans K3.out.size (h i hi))
      | false =>
        have EU : Hid (pUndone l c = false) := by show _ = _; simp [pUndone, hbk, hu]
        have EG : Hid (pGood l c refuse = !refuse) := by show _ = _; simp [pGood, EU.out]
        have EN : Hid (pNotes l c refuse = (!refuse || (c.kind != 3))) := by show _ = _; simp [pNotes, EG.out, EU.out, hbk]
        refine wpAnyH_take (i := 0) (oi := ⟨some 30, _, _, _, _, _⟩) (v := .pointer (some ⟨w.heap.size, 3, none⟩)) rfl (by kernel_rfl) (by kernel_rfl) (by kernel_rfl) (fun _ _ _ h => h) (Or.inl ⟨by kernel_rfl, fun w' hS => by go_simp⟩) (by assumption) ?_
        try simp only [Act.put, List.setIfInBounds_toArray, List.set_cons_succ, List.set_cons_zero]
        refine wpAnyH_take (i := 1) (oi := ⟨some 31, _, _, _, _, _⟩) (v := .bool false) rfl (by kernel_rfl) (by kernel_rfl) (by kernel_rfl) (fun _ _ _ h => h) (Or.inl ⟨by kernel_rfl, fun w' hS => by have c := row_cell (k := 3) (hS.row GC3.out) (v := .bool false) (by simp [clC, hbk]); go_simp⟩) (by assumption) ?_
        try simp only [Act.put, List.setIfInBounds_toArray, List.set_cons_succ, List.set_cons_zero]
        refine wpAnyH_take (i := 2) (oi := ⟨some 32, _, _, _, _, _⟩) (v := .bool true) rfl (by kernel_rfl) (by kernel_rfl) (by kernel_rfl) (fun _ _ _ h => h) (Or.inl ⟨by kernel_rfl, fun w' hS => by go_simp⟩) (by assumption) ?_
        try simp only [Act.put, List.setIfInBounds_toArray, List.set_cons_succ, List.set_cons_zero]
        refine wpAnyH_take (i := 3) (oi := ⟨some 33, _, _, _, _, _⟩) (v := .bool true) rfl (by kernel_rfl) (by kernel_rfl) (by kernel_rfl) (fun _ _ _ h => h) (Or.inl ⟨by kernel_rfl, fun w' hS => by go_simp⟩) (by assumption) ?_
        try simp only [Act.put, List.setIfInBounds_toArray, List.set_cons_succ, List.set_cons_zero]
        refine wpAnyH_take (i := 4) (oi := ⟨some 34, _, _, _, _, _⟩) (v := .pointer (some ⟨g, 0, none⟩)) rfl (by kernel_rfl) (by kernel_rfl) (by kernel_rfl) (fun _ _ _ h => h) (Or.inl ⟨by kernel_rfl, fun w' hS => by go_simp⟩) (by assumption) ?_
        try simp only [Act.put, List.setIfInBounds_toArray, List.set_cons_succ, List.set_cons_zero]
        refine wpAnyH_take (i := 5) (oi := ⟨some 35, _, _, _, _, _⟩) (v := .pointer (some ⟨g, 0, none⟩)) rfl (by kernel_rfl) (by kernel_rfl) (by kernel_rfl) (fun _ _ _ h => h) (Or.inl ⟨by kernel_rfl, fun w' hS => by go_simp⟩) (by assumption) ?_
        try simp only [Act.put, List.setIfInBounds_toArray, List.set_cons_succ, List.set_cons_zero]
        refine wpAnyH_take (i := 6) (oi := ⟨some 36, _, _, _, _, _⟩) (v := .pointer (some ⟨g, 5, none⟩)) rfl (by kernel_rfl) (by kernel_rfl) (by kernel_rfl) (fun _ _ _ h => h) (Or.inl ⟨by kernel_rfl, fun w' hS => by go_simp⟩) (by assumption) ?_
        try simp only [Act.put, List.setIfInBounds_toArray, List.set_cons_succ, List.set_cons_zero]
        refine wpAnyH_take (i := 7) (oi := ⟨some 37, _, _, _, _, _⟩) (v := .map (some r)) rfl (by kernel_rfl) (by kernel_rfl) (by kernel_rfl) (fun _ _ _ h => h) (Or.inl ⟨by kernel_rfl, fun w' hS => by have c := row_cell (k := 5) (hS.row HP3.out.blk) (v := .map (some r)) (rfl); go_simp⟩) (by assumption) ?_
        try simp only [Act.put, List.setIfInBounds_toArray, List.set_cons_succ, List.set_cons_zero]
        refine wpAnyH_take (i := 8) (oi := ⟨some 38, _, _, _, _, _⟩) (v := .pointer (some ⟨w.heap.size, 0, none⟩)) rfl (by kernel_rfl) (by kernel_rfl) (by kernel_rfl) (fun _ _ _ h => h) (Or.inl ⟨by kernel_rfl, fun w' hS => by go_simp⟩) (by assumption) ?_
        try simp only [Act.put, List.setIfInBounds_toArray, List.set_cons_succ, List.set_cons_zero]
        refine wpAnyH_take (i := 9) (oi := ⟨some 39, _, _, _, _, _⟩) (v := .int .i64 c.saga) rfl (by kernel_rfl) (by kernel_rfl) (by kernel_rfl) (fun _ _ _ h => h) (Or.inl ⟨by kernel_rfl, fun w' hS => by have c := row_cell (k := 0) (hS.row GC3.out) (v := .int .i64 c.saga) (by simp [clC]); go_simp⟩) (by assumption) ?_
        try simp only [Act.put, List.setIfInBounds_toArray, List.set_cons_succ, List.set_cons_zero]
        refine wpAnyH_take (i := 10) (oi := ⟨some 40, _, _, _, _, _⟩) (v := .pointer (some ⟨w.heap.size, 1, none⟩)) rfl (by kernel_rfl) (by kernel_rfl) (by kernel_rfl) (fun _ _ _ h => h) (Or.inl ⟨by kernel_rfl, fun w' hS => by go_simp⟩) (by assumption) ?_
        try simp only [Act.put, List.setIfInBounds_toArray, List.set_cons_succ, List.set_cons_zero]
        refine wpAnyH_take (i := 11) (oi := ⟨some 41, _, _, _, _, _⟩) (v := .int .i64 c.step) rfl (by kernel_rfl) (by kernel_rfl) (by kernel_rfl) (fun _ _ _ h => h) (Or.inl ⟨by kernel_rfl, fun w' hS => by have c := row_cell (k := 1) (hS.row GC3.out) (v := .int .i64 c.step) (by simp [clC]); go_simp⟩) (by assumption) ?_
        try simp only [Act.put, List.setIfInBounds_toArray, List.set_cons_succ, List.set_cons_zero]
        refine wpAnyH_take (i := 12) (oi := ⟨some 42, _, _, _, _, _⟩) (v := .agg #[.int .i64 c.saga, .int .i64 c.step, .bool true]) rfl (by kernel_rfl) (by kernel_rfl) (by kernel_rfl) (fun _ _ _ h => h) (Or.inl ⟨by kernel_rfl, fun w' hS => by go_simp⟩) (by assumption) ?_
        try simp only [Act.put, List.setIfInBounds_toArray, List.set_cons_succ, List.set_cons_zero]
        refine wpAnyH_take (i := 13) (oi := ⟨some 43, _, _, _, _, _⟩) (v := .bool false) rfl (by kernel_rfl) (by kernel_rfl) (by kernel_rfl) (fun _ _ _ h => h) (yields_lookF (r := r) (l := l) (s := c.saga) (t := c.step) (b := true) hu (by kernel_rfl) rfl rfl (fun w' hS => (hS.block r HP3.out.ltr id).trans HP3.out.map) HP3.out.fit HP3.out.nodup HS.out.1 HS.out.2) (by assumption) ?_
        try simp only [Act.put, List.setIfInBounds_toArray, List.set_cons_succ, List.set_cons_zero]
        refine wpAnyH_take (i := 14) (oi := ⟨some 44, _, _, _, _, _⟩) (v := .bool false) rfl (by kernel_rfl) (by kernel_rfl) (by kernel_rfl) (fun _ _ _ h => h) (Or.inl ⟨by kernel_rfl, fun w' hS => by go_simp⟩) (by assumption) ?_
        try simp only [Act.put, List.setIfInBounds_toArray, List.set_cons_succ, List.set_cons_zero]
        refine wpAnyH_take (i := 15) (oi := ⟨some 10, _, _, _, _, _⟩) (v := .bool false) rfl (by kernel_rfl) (by kernel_rfl) (by kernel_rfl) (fun _ _ _ h => h) (Or.inl ⟨by kernel_rfl, fun w' hS => by go_simp⟩) (by assumption) ?_
        try simp only [Act.put, List.setIfInBounds_toArray, List.set_cons_succ, List.set_cons_zero]
        refine wpAnyH_done (by kernel_rfl) ?_ _
        clear hbk hu
        cases refuse with
        | false =>
          have HF := Lib.hid (f_note w0 g r pv wv sv k n ep l ⟨c.saga, c.step, c.back, true⟩ w3 HP3.out HS.out HNO.out HL.out)
          rw [HBK.out] at HF
          dsimp only at HF
          go_wp2_with fail
          refine HF.out.mono ?_
          rintro e w4 ⟨rfl, sv4, hp4, k4, ho4⟩
          have HP4 := Lib.hid hp4
          have K4 := Lib.hid k4
          have HO4 := Lib.hid ho4
          clear hp4 k4 ho4
          go_wp2_with fail
          go_ret
          exact PaPost.mk (show Value.bool true = _ by rw [E1.out, EG.out] <;> rfl) (by rw [E2.out, EN.out]; simp [HBK.out, EG.out]) HP4.out ((K3.out.mono fun _ _ e => e.elim).trans K4.out) (HO4.out.imp id fun h i hi => Nat.le_trans K3.out.size (h i hi))
        | true =>
          by_cases hk3 : c.kind = 3
          · rw [hk3] at cc5
            have EN3 : Hid (pNotes l c true = false) := by show _ = _; rw [EN.out, hk3]; rfl
            clear hk3 EN
            have EN := EN3
            go_wp2_with fail
            go_ret
            exact PaPost.mk (show Value.bool false = _ by rw [E1.out, EG.out] <;> rfl) (by rw [E2.out, EN.out]; simp) HP3.out (K3.out.mono fun _ _ e => e.elim) (.inl rfl)
          · have t3 : (c.kind != 3) = true := by simpa using hk3
            have EN3 : Hid (pNotes l c true = true) := by show _ = _; rw [EN.out, t3]; rfl
            clear hk3 EN
            have EN := EN3
            have HF := Lib.hid (f_note w0 g r pv wv sv k n ep l ⟨c.saga, c.step, c.back, false⟩ w3 HP3.out HS.out HNO.out HL.out)
            rw [HBK.out] at HF
            dsimp only at HF
            go_wp2_with fail
            refine HF.out.mono ?_
            rintro e w4 ⟨rfl, sv4, hp4, k4, ho4⟩
            have HP4 := Lib.hid hp4
            have K4 := Lib.hid k4
            have HO4 := Lib.hid ho4
            clear hp4 k4 ho4
            go_wp2_with fail
            go_ret
            exact PaPost.mk (show Value.bool false = _ by rw [E1.out, EG.out] <;> rfl) (by rw [E2.out, EN.out]; simp [HBK.out, EG.out]) HP4.out ((K3.out.mono fun _ _ e => e.elim).trans K4.out) (HO4.out.imp id fun h i hi => Nat.le_trans K3.out.size (h i hi))
end Go.Proofs.YtklmhegmombegaaDoor
