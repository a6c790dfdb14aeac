/-
  What came in: a slice of records.
-/
import Derived.Test.YtklmhegmombegaaBkM
set_option linter.unusedVariables false
set_option linter.unusedSimpArgs false
namespace Go.Proofs.Ytklmhegmombegaa
open Go Go.RowKit Go.ChangeShapes Go.WideShapes Go.ChangeAt Plain

section
variable {H : Type} {enc : TypeId × Value → H} {w : World}
theorem cells39 : Try.prog.cellsOf 39 = 32 := by kernel_rfl
theorem cells4 : Try.prog.cellsOf 4 = 1 := by kernel_rfl
theorem cells22 : Try.prog.cellsOf 22 = 1 := by kernel_rfl
theorem cells29 : Try.prog.cellsOf 29 = 1 := by kernel_rfl
theorem Reads.bool {t : TypeId} (ht : Try.prog.underlying t = some .bool) {cs : List Value} (h : Reads enc Try.prog w t cs) : ∃ b, cs = [.bool b] := by
  obtain ⟨m, x, h⟩ := h
  obtain ⟨b, h1, _⟩ := DataW.trod_bool ht h
  exact ⟨b, h1⟩
/-- A hash. -/
theorem Reads.hash {cs : List Value} (h : Reads enc Try.prog w 39 cs) : ∃ l : List Int, l.length = 32 ∧ cs = hbs l := by
  obtain ⟨m, x, h⟩ := h
  obtain ⟨xs, n, _, _, hl, hx, hi⟩ := DataW.trod_array Try.underlying39 h
  rw [cells39] at hl
  rw [cells5] at hi
  have each : ∀ i, i < 32 → ∃ z : Int, cs[i]? = some (.int .u8 z) := fun i hlt => by
    have h1 := hi i hlt
    rw [List.getElem?_eq_getElem (by omega)] at h1
    obtain ⟨z, hz, _⟩ := DataW.trod_int Try.underlying5 h1
    refine ⟨z, ?_⟩
    rw [Nat.mul_one] at hz
    have : ((cs.drop i).take 1)[0]? = some (.int .u8 z) := by rw [hz]; rfl
    simpa using this
  obtain ⟨f, hf⟩ := Deep.choose_lt each
  refine ⟨(List.range 32).map f, by simp, ?_⟩
  apply List.ext_getElem?
  intro i
  by_cases hlt : i < 32
  · rw [hf i hlt]
    simp [hbs, hlt]
  · rw [List.getElem?_eq_none (by omega), List.getElem?_eq_none (by simp [hbs]; omega)]
/-- Steps. -/
theorem Reads.steps {cs : List Value} (h : Reads enc Try.prog w 22 cs) : ∃ v l, cs = [v] ∧ HoldsSt w v l := by
  obtain ⟨a, n, c, F, rfl, _, _, hm, hF⟩ := open_elems Try.underlying22 cells34 (by decide) h
  rcases hF with rfl | ⟨b, o, rfl, hx⟩
  · exact ⟨_, [], rfl, a, c, rfl, Nat.zero_le _, fun h => absurd rfl h⟩
  have each : ∀ i, i < n → ∃ q : Int × Int, w.cell? ⟨b, o + i * 2, none⟩ = some (.int .i64 q.1) ∧ w.cell? ⟨b, o + i * 2 + 1, none⟩ = some (.int .i64 q.2) := by
    intro i hi
    obtain ⟨hl, hr, hc⟩ := hx i hi
    have r0 : Reads enc Try.prog w 3 (((F i).drop 0).take (Try.prog.cellsOf 3)) := hr.field Try.underlying34 (i := 0) rfl
    have r1 : Reads enc Try.prog w 3 (((F i).drop 1).take (Try.prog.cellsOf 3)) := hr.field Try.underlying34 (i := 1) rfl
    rw [cells3] at r0 r1
    obtain ⟨k, e0, _⟩ := Reads.int Try.underlying3 r0
    obtain ⟨m, e1, _⟩ := Reads.int Try.underlying3 r1
    refine ⟨(k, m), ?_, ?_⟩
    · have := hc 0 (by decide)
      rw [Nat.add_zero] at this
      rw [this]
      have e : (F i)[0]? = (((F i).drop 0).take 1)[0]? := by simp
      rw [e, e0]; rfl
    · have := hc 1 (by decide)
      rw [this]
      have e : (F i)[1]? = (((F i).drop 1).take 1)[0]? := by simp
      rw [e, e1]; rfl
  obtain ⟨q, hq⟩ := Deep.choose_lt each
  have hlen : ((List.range n).map q).length = n := by simp
  refine ⟨_, (List.range n).map q, rfl, some ⟨b, o, none⟩, c, by rw [hlen], by rw [hlen]; exact hm, fun hne => ?_⟩
  have hn : 0 < n := by
    rcases Nat.eq_zero_or_pos n with h0 | h0
    · subst h0; simp at hne
    · exact h0
  refine ⟨?_, fun k e => ?_⟩
  · rw [hlen]
    refine ⟨by rw [flat2_length, hlen], some ⟨b, o, none⟩, c, rfl, .inr ⟨_, rfl, fun j u hu => ?_⟩⟩
    have hj : j < n * 2 := by have := (List.getElem?_eq_some_iff.1 hu).1; rwa [flat2_length, hlen] at this
    have hk : j / 2 < ((List.range n).map q).length := by rw [hlen]; omega
    obtain ⟨g1, g2⟩ := flat2_get hk
    have hqk : ((List.range n).map q)[j / 2] = q (j / 2) := by simp
    rw [hqk] at g1 g2
    obtain ⟨h1, h2⟩ := hq (j / 2) (by omega)
    rw [Addr.add_none]
    rcases Nat.mod_two_eq_zero_or_one j with e | e
    · have ej : j / 2 * 2 = j := by omega
      rw [ej] at g1 h1
      rw [h1, ← g1, hu]
    · have ej : j / 2 * 2 + 1 = j := by omega
      rw [Nat.add_assoc, ej] at h2
      rw [ej] at g2
      rw [h2, ← g2, hu]
  · cases e
    have h1 := (hq 0 (by omega)).1
    exact World.block_lt_of_cell? w _ h1
/-- A payload. -/
theorem Reads.bytes {cs : List Value} (h : Reads enc Try.prog w 29 cs) : ∃ v l, cs = [v] ∧ HoldsBy w v l := by
  obtain ⟨a, c, zs, rfl, hm, hrd, hwf⟩ := Reads.ints Try.underlying29 Try.underlying5 cells5 h
  have hz : ∀ z ∈ zs, 0 ≤ z ∧ z ≤ 255 := fun z hz => by
    have h := hwf z hz
    simp [Lit.wf] at h
    have e1 : IntKind.u8.min = 0 := rfl
    have e2 : IntKind.u8.max = 255 := rfl
    omega
  have hmap : (zs.map Int.toNat).map (fun (n : Nat) => Value.int .u8 (n : Int)) = zs.map (Value.int .u8) := by
    rw [List.map_map]
    refine List.map_congr_left fun z hz' => ?_
    have := hz z hz'
    show Value.int .u8 ((z.toNat : Nat) : Int) = _
    rw [Int.toNat_of_nonneg this.1]
  refine ⟨_, zs.map Int.toNat, rfl, a, c, by simp, by simpa using hm, ?_, fun hne => ⟨?_, fun k e => ?_⟩⟩
  · intro z hz'
    obtain ⟨y, hy, rfl⟩ := List.mem_map.1 hz'
    have := hz y hy
    omega
  · rw [hmap, List.length_map]; exact hrd
  · have hpos : 0 < zs.length := by
      rcases zs with _ | ⟨z, zs⟩
      · simp at hne
      · simp
    obtain ⟨b, o, c', ev, hc⟩ := hrd.addr (by omega)
    simp only [Value.slice.injEq, true_and] at ev
    obtain ⟨rfl, rfl⟩ := ev
    cases e
    exact World.block_lt_of_cell? w _ (hc 0 (.int .u8 zs[0]) (by simp [hpos]))

theorem piece {cs : List Value} {k : Nat} {v : Value} (h : (cs.drop k).take 1 = [v]) : cs[k]? = some v := by
  have : ((cs.drop k).take 1)[0]? = some v := by rw [h]; rfl
  simpa using this
theorem pieces {cs us : List Value} {o n : Nat} (h : (cs.drop o).take n = us) (hl : us.length = n) : At cs.toArray o us := fun j v hv => by
  have hj : j < n := by have := (List.getElem?_eq_some_iff.1 hv).1; omega
  rw [← h] at hv
  simpa [hj] using hv
set_option maxRecDepth 100000 in
theorem RecIn.of_reads {cs : List Value} (hl : cs.length = 109) (h : Reads enc Try.prog w 41 cs) : ∃ x, RecIn w cs.toArray x := by
  have r0 : Reads enc Try.prog w 3 ((cs.drop 0).take (Try.prog.cellsOf 3)) := h.field Try.underlying41 (i := 0) rfl
  rw [cells3] at r0
  obtain ⟨z0, e0, _⟩ := Reads.int Try.underlying3 r0
  have r1 : Reads enc Try.prog w 3 ((cs.drop 1).take (Try.prog.cellsOf 3)) := h.field Try.underlying41 (i := 1) rfl
  rw [cells3] at r1
  obtain ⟨z1, e1, _⟩ := Reads.int Try.underlying3 r1
  have r2 : Reads enc Try.prog w 3 ((cs.drop 2).take (Try.prog.cellsOf 3)) := h.field Try.underlying41 (i := 2) rfl
  rw [cells3] at r2
  obtain ⟨z2, e2, _⟩ := Reads.int Try.underlying3 r2
  have r3 : Reads enc Try.prog w 3 ((cs.drop 3).take (Try.prog.cellsOf 3)) := h.field Try.underlying41 (i := 3) rfl
  rw [cells3] at r3
  obtain ⟨z3, e3, _⟩ := Reads.int Try.underlying3 r3
  have r4 : Reads enc Try.prog w 3 ((cs.drop 4).take (Try.prog.cellsOf 3)) := h.field Try.underlying41 (i := 4) rfl
  rw [cells3] at r4
  obtain ⟨z4, e4, _⟩ := Reads.int Try.underlying3 r4
  have r5 : Reads enc Try.prog w 4 ((cs.drop 5).take (Try.prog.cellsOf 4)) := h.field Try.underlying41 (i := 5) rfl
  rw [cells4] at r5
  obtain ⟨z5, e5⟩ := Reads.bool Try.underlying4 r5
  have r6 : Reads enc Try.prog w 4 ((cs.drop 6).take (Try.prog.cellsOf 4)) := h.field Try.underlying41 (i := 6) rfl
  rw [cells4] at r6
  obtain ⟨z6, e6⟩ := Reads.bool Try.underlying4 r6
  have r7 : Reads enc Try.prog w 3 ((cs.drop 7).take (Try.prog.cellsOf 3)) := h.field Try.underlying41 (i := 7) rfl
  rw [cells3] at r7
  obtain ⟨z7, e7, _⟩ := Reads.int Try.underlying3 r7
  have r8 : Reads enc Try.prog w 3 ((cs.drop 8).take (Try.prog.cellsOf 3)) := h.field Try.underlying41 (i := 8) rfl
  rw [cells3] at r8
  obtain ⟨z8, e8, _⟩ := Reads.int Try.underlying3 r8
  have r9 : Reads enc Try.prog w 3 ((cs.drop 9).take (Try.prog.cellsOf 3)) := h.field Try.underlying41 (i := 9) rfl
  rw [cells3] at r9
  obtain ⟨z9, e9, _⟩ := Reads.int Try.underlying3 r9
  have r76 : Reads enc Try.prog w 4 ((cs.drop 76).take (Try.prog.cellsOf 4)) := h.field Try.underlying41 (i := 14) rfl
  rw [cells4] at r76
  obtain ⟨z76, e76⟩ := Reads.bool Try.underlying4 r76
  have r10 : Reads enc Try.prog w 39 ((cs.drop 10).take (Try.prog.cellsOf 39)) := h.field Try.underlying41 (i := 10) rfl
  rw [cells39] at r10
  obtain ⟨z10, l10, e10⟩ := r10.hash
  have r44 : Reads enc Try.prog w 39 ((cs.drop 44).take (Try.prog.cellsOf 39)) := h.field Try.underlying41 (i := 13) rfl
  rw [cells39] at r44
  obtain ⟨z44, l44, e44⟩ := r44.hash
  have r77 : Reads enc Try.prog w 39 ((cs.drop 77).take (Try.prog.cellsOf 39)) := h.field Try.underlying41 (i := 15) rfl
  rw [cells39] at r77
  obtain ⟨z77, l77, e77⟩ := r77.hash
  have r42 : Reads enc Try.prog w 22 ((cs.drop 42).take (Try.prog.cellsOf 22)) := h.field Try.underlying41 (i := 11) rfl
  rw [cells22] at r42
  obtain ⟨v42, z42, e42, h42⟩ := r42.steps
  have r43 : Reads enc Try.prog w 29 ((cs.drop 43).take (Try.prog.cellsOf 29)) := h.field Try.underlying41 (i := 12) rfl
  rw [cells29] at r43
  obtain ⟨v43, z43, e43, h43⟩ := r43.bytes
  clear r0 r1 r2 r3 r4 r5 r6 r7 r8 r9 r76 r10 r44 r77 r42 r43
  have p10 := pieces e10 (hbs_len l10)
  have p44 := pieces e44 (hbs_len l44)
  have p77 := pieces e77 (hbs_len l77)
  have hget : ∀ k v, (cs.drop k).take 1 = [v] → cs.toArray[k]? = some v := fun k v hk => by rw [List.getElem?_toArray]; exact piece hk
  refine ⟨⟨z0, z1, z2, z3, z4, z5, z6, z7, z8, z9, z10, z42, z43, z44, z76, z77⟩, by simp [hl], ?_, hget _ _ e0, hget _ _ e1, hget _ _ e2, hget _ _ e3, hget _ _ e4, hget _ _ e5, hget _ _ e6, hget _ _ e7, hget _ _ e8, hget _ _ e9, l10, p10, ⟨v42, hget _ _ e42, h42⟩, ⟨v43, hget _ _ e43, h43⟩, l44, p44, hget _ _ e76, l77, p77⟩
  refine Array.all_eq_true.2 fun i hi => ?_
  have hi' : i < 109 := by simpa [hl] using hi
  have hone : ∀ v, cs.toArray[i]? = some v → v.oneCell' = true → cs.toArray[i].oneCell' = true := fun v hv h1 => by
    rw [Array.getElem?_eq_getElem hi, Option.some.injEq] at hv; rw [hv]; exact h1
  have hash : ∀ (o : Nat) (l : List Int), l.length = 32 → At cs.toArray o (hbs l) → o ≤ i → i < o + 32 → cs.toArray[i].oneCell' = true := fun o l hll ha h1 h2 => by
    have hj : i - o < (hbs l).length := by rw [hbs_len hll]; omega
    have := ha (i - o) _ (List.getElem?_eq_getElem hj)
    rw [show o + (i - o) = i by omega] at this
    exact hone _ this (hbs_one l _ (List.getElem_mem _))
  by_cases h10 : i < 10
  · have h10' : i = 0 ∨ i = 1 ∨ i = 2 ∨ i = 3 ∨ i = 4 ∨ i = 5 ∨ i = 6 ∨ i = 7 ∨ i = 8 ∨ i = 9 := by omega
    rcases h10' with rfl | rfl | rfl | rfl | rfl | rfl | rfl | rfl | rfl | rfl
    · exact hone _ (hget _ _ e0) rfl
    · exact hone _ (hget _ _ e1) rfl
    · exact hone _ (hget _ _ e2) rfl
    · exact hone _ (hget _ _ e3) rfl
    · exact hone _ (hget _ _ e4) rfl
    · exact hone _ (hget _ _ e5) rfl
    · exact hone _ (hget _ _ e6) rfl
    · exact hone _ (hget _ _ e7) rfl
    · exact hone _ (hget _ _ e8) rfl
    · exact hone _ (hget _ _ e9) rfl
  by_cases ha : i < 42
  · exact hash 10 z10 l10 p10 (by omega) (by omega)
  by_cases hb : i = 42
  · subst hb
    obtain ⟨_, _, rfl, _⟩ := h42
    exact hone _ (hget _ _ e42) rfl
  by_cases hc : i = 43
  · subst hc
    obtain ⟨_, _, rfl, _⟩ := h43
    exact hone _ (hget _ _ e43) rfl
  by_cases hd : i < 76
  · exact hash 44 z44 l44 p44 (by omega) (by omega)
  by_cases he : i = 76
  · subst he
    exact hone _ (hget _ _ e76) rfl
  · exact hash 77 z77 l77 p77 (by omega) (by omega)
set_option maxRecDepth 100000
instance : Inhabited Rx := ⟨Rx.zero⟩
/-- A slice of records that came in. -/
def IsRecs (w : World) (v : Value) : Prop := ∃ rs, HoldsRs w v rs
theorem IsRecs.of {H : Type} {enc : TypeId × Value → H} {W : World} {base : Nat} {v : Value} {d : DataW H} {p : List MemPlace} (ho : Value.okWide Try.prog W .any base 49 v)
    (h : DataW.Trod enc Try.prog W 0 (fun _ => true) true 49 v d p) : IsRecs W v := by
  obtain ⟨a0, len, cap, rfl⟩ := okWide_slice Try.underlying49 ho
  obtain ⟨a, n, c, F, hcs, _, hnil, hm, hF⟩ := open_elems Try.underlying49 cells41 (by decide) (Reads.of_trod h)
  have hcs' : Value.slice a0 len cap = .slice a n c := by simpa [Value.cells] using hcs
  rw [hcs']
  by_cases h0 : n = 0
  · subst h0
    refine ⟨[], ⟨rfl, a, c, rfl, ?_⟩, Nat.zero_le _, by simp⟩
    cases a with
    | none => exact .inl ⟨rfl, rfl, (hnil rfl).2⟩
    | some ad => exact .inr ⟨ad, rfl, fun j u hu => by simp at hu⟩
  rcases hF with rfl | ⟨b, o, rfl, hx⟩
  · exact absurd rfl h0
  have each : ∀ i, i < n → ∃ x : Rx, RecIn W (F i).toArray x := fun i hi => RecIn.of_reads (hx i hi).1 (hx i hi).2.1
  obtain ⟨q, hq⟩ := Deep.choose_lt each
  have hlen : ((List.range n).map fun i => ((F i).toArray, q i)).length = n := by simp
  have hfr : ∀ p ∈ (List.range n).map (fun i => ((F i).toArray, q i)), (frc p).length = 109 := fun p hp => by
    obtain ⟨i, hi, rfl⟩ := List.mem_map.1 hp
    simp [frc, (hx i (by simpa using hi)).1]
  refine ⟨(List.range n).map fun i => ((F i).toArray, q i), ?_, by rw [hlen]; exact hm, fun p hp => ?_⟩
  · rw [hlen]
    refine ⟨by rw [flat_len _ hfr, hlen], some ⟨b, o, none⟩, c, rfl, .inr ⟨_, rfl, fun j u hu => ?_⟩⟩
    have hj : j < n * 109 := by have := (List.getElem?_eq_some_iff.1 hu).1; rwa [flat_len _ hfr, hlen] at this
    rw [flat_get (by decide) _ hfr] at hu
    have hk : j / 109 < n := by omega
    rw [List.getElem?_map, List.getElem?_range hk] at hu
    simp only [Option.map_some, Option.bind_some, frc, List.toList_toArray] at hu
    obtain ⟨h1, _, h2⟩ := hx _ hk
    have h3 := h2 (j % 109) (Nat.mod_lt _ (by decide))
    rw [Addr.add_none]
    have e : o + j / 109 * 109 + j % 109 = o + j := by omega
    rw [e] at h3
    rw [h3, hu]
  · obtain ⟨i, hi, rfl⟩ := List.mem_map.1 hp
    exact hq i (by simpa using hi)
end
end Go.Proofs.Ytklmhegmombegaa
