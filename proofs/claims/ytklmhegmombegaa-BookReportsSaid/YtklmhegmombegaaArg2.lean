/-
  What came in: a slice of bytes. (DRAFT: not built.)
-/
import Derived.Test.YtklmhegmombegaaArg
set_option linter.unusedVariables false
set_option linter.unusedSimpArgs false
namespace Go.Proofs.Ytklmhegmombegaa
open Go Go.RowKit Go.ChangeShapes Go.WideShapes Go.ChangeAt Plain

theorem cells5 : Try.prog.cellsOf 5 = 1 := by kernel_rfl
/-- A slice of bytes that came in. -/
def IsBytes (w : World) (v : Value) : Prop :=
  ∃ (a : Option Addr) (c : Nat) (zs : List Nat), v = .slice a zs.length c ∧ zs.length ≤ maxLen ∧ Rd w 1 v zs.length (zs.map fun (n : Nat) => Value.int .u8 (n : Int)) ∧ (∀ z ∈ zs, z < 256) ∧ (zs ≠ [] → ∀ k, v.ownBlock = some k → k < w.heap.size)
set_option maxRecDepth 100000 in
theorem IsBytes.of {H : Type} {enc : TypeId × Value → H} {W : World} {base : Nat} {v : Value} {d : DataW H} {p : List MemPlace} (ho : Value.okWide Try.prog W .any base 29 v)
    (h : DataW.Trod enc Try.prog W 0 (fun _ => true) true 29 v d p) : IsBytes W v := by
  obtain ⟨a0, len, cap, rfl⟩ := okWide_slice Try.underlying29 ho
  obtain ⟨a, c, zs, hcs, hm, hrd, hwf⟩ := Reads.ints Try.underlying29 Try.underlying5 cells5 (Reads.of_trod h)
  have hcs' : Value.slice a0 len cap = .slice a zs.length c := by simpa [Value.cells] using hcs
  rw [hcs']
  have hz : ∀ z ∈ zs, 0 ≤ z ∧ z ≤ 255 := fun z hz => by
    have h := hwf z hz
    simp [Lit.wf] at h
    have e1 : IntKind.u8.min = 0 := rfl
    have e2 : IntKind.u8.max = 255 := rfl
    omega
  have hmap : (zs.map Int.toNat).map (fun (n : Nat) => Value.int .u8 (n : Int)) = zs.map (Value.int .u8) := by
    rw [List.map_map]
    refine List.map_congr_left fun z hz' => ?_
    have := hz z hz'
    show Value.int .u8 ((z.toNat : Nat) : Int) = _
    rw [Int.toNat_of_nonneg this.1]
  refine ⟨a, c, zs.map Int.toNat, by simp, by simpa using hm, ?_, ?_, ?_⟩
  · rw [hmap, List.length_map]; exact hrd
  · intro z hz'
    obtain ⟨y, hy, rfl⟩ := List.mem_map.1 hz'
    have := hz y hy
    omega
  · intro hne k e
    have hpos : 0 < zs.length := by
      rcases zs with _ | ⟨z, zs⟩
      · simp at hne
      · simp
    obtain ⟨b, o, c', ev, hc⟩ := hrd.addr (by omega)
    simp only [Value.slice.injEq, true_and] at ev
    obtain ⟨rfl, rfl⟩ := ev
    cases e
    have h1 := hc 0 (.int .u8 zs[0]) (by simp [hpos])
    simp only [World.cell?] at h1
    cases hb : W.heap[b]? with
    | none => rw [hb] at h1; simp at h1
    | some ob => exact (Array.getElem?_eq_some_iff.1 hb).1

/-! ## A record that came in -/
theorem cell_one {P : Program} {w : World} {r : Reach} {b : Nat} {u : TypeId} {v : Value} (h : Cell.okWide P w r b u v) : v.oneCell' = true := by
  cases v <;> first | rfl | (exfalso; unfold Cell.okWide at h; split at h <;> first | (rename_i h2; cases h2) | (unfold Cell.ok at h; split at h <;> simp_all) | simp_all)
theorem okWide_of_cell {P : Program} {w : World} {r : Reach} {b : Nat} {u : TypeId} {v : Value} (hu : (∀ fs, P.underlying u ≠ some (.struct fs)) ∧ (∀ n e, P.underlying u ≠ some (.array n e))) (h : Cell.okWide P w r b u v) : Value.okWide P w r b u v := by
  unfold Value.okWide
  split
  · rename_i h2; exact absurd h2 (hu.1 _)
  · rename_i h2; exact absurd h2 (hu.2 _ _)
  · exact h
def types41 : List TypeId := [3, 3, 3, 3, 3, 4, 4, 3, 3, 3] ++ List.replicate 32 5 ++ [22, 29] ++ List.replicate 32 5 ++ [4] ++ List.replicate 32 5
set_option maxRecDepth 100000 in
theorem types41_eq : Try.prog.cellTypes Try.prog.depth 41 = some types41 := by kernel_rfl
set_option maxRecDepth 100000 in
theorem types41_len : types41.length = 109 := by kernel_rfl
theorem cells41 : Try.prog.cellsOf 41 = 109 := by kernel_rfl
section
variable {w : World} {r : Reach} {b : Nat} {C : Array Value}
set_option maxRecDepth 100000 in
theorem row41 (h : Row.okWide Try.prog w r b 41 C) : ∀ i v, C[i]? = some v → i < 109 → ∃ u, types41[i]? = some u ∧ Cell.okWide Try.prog w r b u v := by
  obtain ⟨ts, h1, _, h3⟩ := h
  rw [types41_eq, Option.some.injEq] at h1
  subst h1
  intro i v hv hi
  obtain ⟨u, h4, h5⟩ := h3 i v hv
  rw [types41_len, Nat.mod_eq_of_lt hi] at h4
  exact ⟨u, h4, h5⟩
set_option maxRecDepth 100000 in
theorem row41_int (h : Row.okWide Try.prog w r b 41 C) (hC : C.size = 109) (i : Nat) (hi : i < 109) (hu : types41[i]? = some 3) : ∃ n, C[i]? = some (.int .i64 n) := by
  obtain ⟨u, h1, h2⟩ := row41 h i C[i] (Array.getElem?_eq_getElem (by omega)) hi
  rw [hu, Option.some.injEq] at h1
  subst h1
  have h3 : Value.okWide Try.prog w r b 3 C[i] := okWide_of_cell (by rw [Try.underlying3]; exact ⟨fun _ h => (by cases h), fun _ _ h => (by cases h)⟩) h2
  obtain ⟨n, hn⟩ := okWide_int Try.underlying3 h3
  exact ⟨n, by rw [Array.getElem?_eq_getElem (by omega), hn]⟩
set_option maxRecDepth 100000 in
theorem row41_bool (h : Row.okWide Try.prog w r b 41 C) (hC : C.size = 109) (i : Nat) (hi : i < 109) (hu : types41[i]? = some 4) : ∃ n, C[i]? = some (.bool n) := by
  obtain ⟨u, h1, h2⟩ := row41 h i C[i] (Array.getElem?_eq_getElem (by omega)) hi
  rw [hu, Option.some.injEq] at h1
  subst h1
  have h3 : Value.okWide Try.prog w r b 4 C[i] := okWide_of_cell (by rw [Try.underlying4]; exact ⟨fun _ h => (by cases h), fun _ _ h => (by cases h)⟩) h2
  obtain ⟨n, hn⟩ := okWide_bool Try.underlying4 h3
  exact ⟨n, by rw [Array.getElem?_eq_getElem (by omega), hn]⟩
end
/-- A record that came in. -/
def IsRec (v : Value) : Prop := ∃ C x, v = .agg C ∧ Recish C x
set_option maxRecDepth 100000 in
theorem IsRec.of_ok {W : World} {base : Nat} {v : Value} (ho : Value.okWide Try.prog W .any base 41 v) : IsRec v := by
  simp only [Value.okWide, Try.underlying41] at ho
  obtain ⟨C, rfl, hs, hr⟩ := ho
  rw [cells41] at hs
  obtain ⟨k0, e0⟩ := row41_int hr hs 0 (by decide) (by kernel_rfl)
  obtain ⟨k2, e2⟩ := row41_int hr hs 2 (by decide) (by kernel_rfl)
  obtain ⟨k3, e3⟩ := row41_int hr hs 3 (by decide) (by kernel_rfl)
  obtain ⟨k4, e4⟩ := row41_int hr hs 4 (by decide) (by kernel_rfl)
  obtain ⟨k5, e5⟩ := row41_bool hr hs 5 (by decide) (by kernel_rfl)
  obtain ⟨k6, e6⟩ := row41_bool hr hs 6 (by decide) (by kernel_rfl)
  obtain ⟨k7, e7⟩ := row41_int hr hs 7 (by decide) (by kernel_rfl)
  refine ⟨C, ⟨k0, k2, k3, k4, k5, k6, k7⟩, rfl, hs, ?_, e0, e2, e3, e4, e5, e6, e7⟩
  refine Array.all_eq_true.2 fun i hi => ?_
  obtain ⟨u, _, h2⟩ := row41 hr i C[i] (Array.getElem?_eq_getElem hi) (by omega)
  exact cell_one h2
set_option maxRecDepth 100000 in
theorem IsRec.of {H : Type} {enc : TypeId × Value → H} {W : World} {base : Nat} {v : Value} {d : DataW H} {p : List MemPlace} (ho : Value.okWide Try.prog W .any base 41 v)
    (_h : DataW.Trod enc Try.prog W 0 (fun _ => true) true 41 v d p) : IsRec v := IsRec.of_ok ho
theorem Kept.row {w w' : World} {g : Nat} {o : Obj} (k : Kept (fun _ => False) w w') (h : w.heap[g]? = some o) : w'.heap[g]? = some o := (k.block g (Array.getElem?_eq_some_iff.1 h).1 id).trans h
theorem row_lt {w : World} {g : Nat} {o : Obj} (h : w.heap[g]? = some o) : g < w.heap.size := (Array.getElem?_eq_some_iff.1 h).1
end Go.Proofs.Ytklmhegmombegaa
