/-
  What came in: steps, bytes, records, in memory. Conditions: as each theorem says.
-/
import Derived.Test.YtklmhegmombegaaDoorArgA
set_option linter.unusedVariables false
set_option linter.unusedSimpArgs false
set_option maxRecDepth 100000
namespace Go.Proofs.YtklmhegmombegaaDoor
open Go Go.RowKit Go.ChangeShapes Go.WideShapes Go.ChangeAt Plain
open Go.Proofs.YtklmhegmombegaaDoor.Re (RecIn hbs hbs_len hbs_one At HoldsSt HoldsBy Stp flat2_length flat2_get)
open Go.Proofs.YtklmhegmombegaaDoor.Re.Plain (Rx)

section
variable {H : Type} {enc : TypeId × Value → H} {w : World}
theorem cells115 : Tryd.prog.cellsOf 115 = 2 := by kernel_rfl
theorem cells4' : Tryd.prog.cellsOf 4 = 1 := by kernel_rfl
theorem cells27 : Tryd.prog.cellsOf 27 = 1 := by kernel_rfl
theorem cells28 : Tryd.prog.cellsOf 28 = 1 := by kernel_rfl
theorem cells30 : Tryd.prog.cellsOf 30 = 109 := by kernel_rfl
theorem Reads.bool {t : TypeId} (ht : Tryd.prog.underlying t = some .bool) {cs : List Value} (h : Reads enc Tryd.prog w t cs) : ∃ b, cs = [.bool b] := by
  obtain ⟨m, x, h⟩ := h
  obtain ⟨b, h1, _⟩ := DataW.trod_bool ht h
  exact ⟨b, h1⟩
theorem bys_hbs (l : List Nat) : bys l = hbs (l.map fun (n : Nat) => (n : Int)) := by simp [bys, hbs]
/-- Steps. -/
theorem Reads.steps {cs : List Value} (h : Reads enc Tryd.prog w 27 cs) : ∃ v l, cs = [v] ∧ HoldsSt w v l := by
  obtain ⟨a, n, c, F, rfl, _, _, hm, hF⟩ := open_elems Tryd.underlying27 cells115 (by decide) h
  rcases hF with rfl | ⟨b, o, rfl, hx⟩
  · exact ⟨_, [], rfl, a, c, rfl, Nat.zero_le _, fun h => absurd rfl h⟩
  have each : ∀ i, i < n → ∃ q : Int × Int, w.cell? ⟨b, o + i * 2, none⟩ = some (.int .i64 q.1) ∧ w.cell? ⟨b, o + i * 2 + 1, none⟩ = some (.int .i64 q.2) := by
    intro i hi
    obtain ⟨hl, hr, hc⟩ := hx i hi
    have r0 : Reads enc Tryd.prog w 3 (((F i).drop 0).take (Tryd.prog.cellsOf 3)) := hr.field Tryd.underlying115 (i := 0) rfl
    have r1 : Reads enc Tryd.prog w 3 (((F i).drop 1).take (Tryd.prog.cellsOf 3)) := hr.field Tryd.underlying115 (i := 1) rfl
    rw [cells3'] at r0 r1
    obtain ⟨k, e0, _⟩ := Reads.int Tryd.underlying3 r0
    obtain ⟨m, e1, _⟩ := Reads.int Tryd.underlying3 r1
    refine ⟨(k, m), ?_, ?_⟩
    · have := hc 0 (by decide)
      rw [Nat.add_zero] at this
      rw [this]
      have e : (F i)[0]? = (((F i).drop 0).take 1)[0]? := by simp
      rw [e, e0]; rfl
    · have := hc 1 (by decide)
      rw [this]
      have e : (F i)[1]? = (((F i).drop 1).take 1)[0]? := by simp
      rw [e, e1]; rfl
  obtain ⟨q, hq⟩ := Deep.choose_lt each
  have hlen : ((List.range n).map q).length = n := by simp
  refine ⟨_, (List.range n).map q, rfl, some ⟨b, o, none⟩, c, by rw [hlen], by rw [hlen]; exact hm, fun hne => ?_⟩
  have hn : 0 < n := by
    rcases Nat.eq_zero_or_pos n with h0 | h0
    · subst h0; simp at hne
    · exact h0
  refine ⟨?_, fun k e => ?_⟩
  · rw [hlen]
    refine ⟨by rw [flat2_length, hlen], some ⟨b, o, none⟩, c, rfl, .inr ⟨_, rfl, fun j u hu => ?_⟩⟩
    have hj : j < n * 2 := by have := (List.getElem?_eq_some_iff.1 hu).1; rwa [flat2_length, hlen] at this
    have hk : j / 2 < ((List.range n).map q).length := by rw [hlen]; omega
    obtain ⟨g1, g2⟩ := flat2_get hk
    have hqk : ((List.range n).map q)[j / 2] = q (j / 2) := by simp
    rw [hqk] at g1 g2
    obtain ⟨h1, h2⟩ := hq (j / 2) (by omega)
    rw [Addr.add_none]
    rcases Nat.mod_two_eq_zero_or_one j with e | e
    · have ej : j / 2 * 2 = j := by omega
      rw [ej] at g1 h1
      rw [h1, ← g1, hu]
    · have ej : j / 2 * 2 + 1 = j := by omega
      rw [Nat.add_assoc, ej] at h2
      rw [ej] at g2
      rw [h2, ← g2, hu]
  · cases e
    have h1 := (hq 0 (by omega)).1
    exact World.block_lt_of_cell? w _ h1
/-- A payload. -/
theorem Reads.bytes {cs : List Value} (h : Reads enc Tryd.prog w 28 cs) : ∃ v l, cs = [v] ∧ HoldsBy w v l := by
  obtain ⟨a, c, zs, rfl, hm, hrd, hwf⟩ := Reads.ints Tryd.underlying28 Tryd.underlying5 cells5' h
  have hz : ∀ z ∈ zs, 0 ≤ z ∧ z ≤ 255 := fun z hz => by
    have h := hwf z hz
    simp [Lit.wf] at h
    have e1 : IntKind.u8.min = 0 := rfl
    have e2 : IntKind.u8.max = 255 := rfl
    omega
  have hmap : (zs.map Int.toNat).map (fun (n : Nat) => Value.int .u8 (n : Int)) = zs.map (Value.int .u8) := by
    rw [List.map_map]
    refine List.map_congr_left fun z hz' => ?_
    have := hz z hz'
    show Value.int .u8 ((z.toNat : Nat) : Int) = _
    rw [Int.toNat_of_nonneg this.1]
  refine ⟨_, zs.map Int.toNat, rfl, a, c, by simp, by simpa using hm, ?_, fun hne => ⟨?_, fun k e => ?_⟩⟩
  · intro z hz'
    obtain ⟨y, hy, rfl⟩ := List.mem_map.1 hz'
    have := hz y hy
    omega
  · rw [hmap, List.length_map]; exact hrd
  · have hpos : 0 < zs.length := by
      rcases zs with _ | ⟨z, zs⟩
      · simp at hne
      · simp
    obtain ⟨b, o, c', ev, hc⟩ := hrd.addr (by omega)
    simp only [Value.slice.injEq, true_and] at ev
    obtain ⟨rfl, rfl⟩ := ev
    cases e
    exact World.block_lt_of_cell? w _ (hc 0 (.int .u8 zs[0]) (by simp [hpos]))
theorem pieces {cs us : List Value} {o n : Nat} (h : (cs.drop o).take n = us) (hl : us.length = n) : At cs.toArray o us := fun j v hv => by
  have hj : j < n := by have := (List.getElem?_eq_some_iff.1 hv).1; omega
  rw [← h] at hv
  simpa [hj] using hv
/-- What the numbers of a record that came in are. -/
structure RecFit (x : Rx) : Prop where
  saga : W64 x.saga
  seq : W64 x.seq
  step : W64 x.step
  tr : W64 x.tr
  part : W64 x.part
  epoch : W64 x.epoch
  tag : ∃ l : List Nat, All8 l ∧ x.tag = l.map fun (n : Nat) => (n : Int)
  salt : ∃ l : List Nat, All8 l ∧ x.salt = l.map fun (n : Nat) => (n : Int)
  com : ∃ l : List Nat, All8 l ∧ x.com = l.map fun (n : Nat) => (n : Int)
theorem RecIn.of_reads {cs : List Value} (hl : cs.length = 109) (h : Reads enc Tryd.prog w 30 cs) : ∃ x, RecIn w cs.toArray x ∧ RecFit x := by
  have r0 : Reads enc Tryd.prog w 3 ((cs.drop 0).take (Tryd.prog.cellsOf 3)) := h.field Tryd.underlying30 (i := 0) rfl
  rw [cells3'] at r0
  obtain ⟨z0, e0, q0⟩ := Reads.int Tryd.underlying3 r0
  have r1 : Reads enc Tryd.prog w 3 ((cs.drop 1).take (Tryd.prog.cellsOf 3)) := h.field Tryd.underlying30 (i := 1) rfl
  rw [cells3'] at r1
  obtain ⟨z1, e1, q1⟩ := Reads.int Tryd.underlying3 r1
  have r2 : Reads enc Tryd.prog w 3 ((cs.drop 2).take (Tryd.prog.cellsOf 3)) := h.field Tryd.underlying30 (i := 2) rfl
  rw [cells3'] at r2
  obtain ⟨z2, e2, q2⟩ := Reads.int Tryd.underlying3 r2
  have r3 : Reads enc Tryd.prog w 3 ((cs.drop 3).take (Tryd.prog.cellsOf 3)) := h.field Tryd.underlying30 (i := 3) rfl
  rw [cells3'] at r3
  obtain ⟨z3, e3, q3⟩ := Reads.int Tryd.underlying3 r3
  have r4 : Reads enc Tryd.prog w 3 ((cs.drop 4).take (Tryd.prog.cellsOf 3)) := h.field Tryd.underlying30 (i := 4) rfl
  rw [cells3'] at r4
  obtain ⟨z4, e4, q4⟩ := Reads.int Tryd.underlying3 r4
  have r7 : Reads enc Tryd.prog w 3 ((cs.drop 7).take (Tryd.prog.cellsOf 3)) := h.field Tryd.underlying30 (i := 7) rfl
  rw [cells3'] at r7
  obtain ⟨z7, e7, q7⟩ := Reads.int Tryd.underlying3 r7
  have r8 : Reads enc Tryd.prog w 3 ((cs.drop 8).take (Tryd.prog.cellsOf 3)) := h.field Tryd.underlying30 (i := 8) rfl
  rw [cells3'] at r8
  obtain ⟨z8, e8, q8⟩ := Reads.int Tryd.underlying3 r8
  have r9 : Reads enc Tryd.prog w 3 ((cs.drop 9).take (Tryd.prog.cellsOf 3)) := h.field Tryd.underlying30 (i := 9) rfl
  rw [cells3'] at r9
  obtain ⟨z9, e9, q9⟩ := Reads.int Tryd.underlying3 r9
  have r5 : Reads enc Tryd.prog w 4 ((cs.drop 5).take (Tryd.prog.cellsOf 4)) := h.field Tryd.underlying30 (i := 5) rfl
  rw [cells4'] at r5
  obtain ⟨z5, e5⟩ := Reads.bool Tryd.underlying4 r5
  have r6 : Reads enc Tryd.prog w 4 ((cs.drop 6).take (Tryd.prog.cellsOf 4)) := h.field Tryd.underlying30 (i := 6) rfl
  rw [cells4'] at r6
  obtain ⟨z6, e6⟩ := Reads.bool Tryd.underlying4 r6
  have r76 : Reads enc Tryd.prog w 4 ((cs.drop 76).take (Tryd.prog.cellsOf 4)) := h.field Tryd.underlying30 (i := 14) rfl
  rw [cells4'] at r76
  obtain ⟨z76, e76⟩ := Reads.bool Tryd.underlying4 r76
  have r10 : Reads enc Tryd.prog w 26 ((cs.drop 10).take (Tryd.prog.cellsOf 26)) := h.field Tryd.underlying30 (i := 10) rfl
  rw [cells26] at r10
  obtain ⟨n10, m10, a10, e10⟩ := r10.hashN
  rw [bys_hbs] at e10
  have l10 : (n10.map fun (n : Nat) => (n : Int)).length = 32 := by simp [m10]
  obtain ⟨z10, hz10⟩ : ∃ z, z = n10.map fun (n : Nat) => (n : Int) := ⟨_, rfl⟩
  rw [← hz10] at e10 l10
  have r44 : Reads enc Tryd.prog w 26 ((cs.drop 44).take (Tryd.prog.cellsOf 26)) := h.field Tryd.underlying30 (i := 13) rfl
  rw [cells26] at r44
  obtain ⟨n44, m44, a44, e44⟩ := r44.hashN
  rw [bys_hbs] at e44
  have l44 : (n44.map fun (n : Nat) => (n : Int)).length = 32 := by simp [m44]
  obtain ⟨z44, hz44⟩ : ∃ z, z = n44.map fun (n : Nat) => (n : Int) := ⟨_, rfl⟩
  rw [← hz44] at e44 l44
  have r77 : Reads enc Tryd.prog w 26 ((cs.drop 77).take (Tryd.prog.cellsOf 26)) := h.field Tryd.underlying30 (i := 15) rfl
  rw [cells26] at r77
  obtain ⟨n77, m77, a77, e77⟩ := r77.hashN
  rw [bys_hbs] at e77
  have l77 : (n77.map fun (n : Nat) => (n : Int)).length = 32 := by simp [m77]
  obtain ⟨z77, hz77⟩ : ∃ z, z = n77.map fun (n : Nat) => (n : Int) := ⟨_, rfl⟩
  rw [← hz77] at e77 l77
  have r42 : Reads enc Tryd.prog w 27 ((cs.drop 42).take (Tryd.prog.cellsOf 27)) := h.field Tryd.underlying30 (i := 11) rfl
  rw [cells27] at r42
  obtain ⟨v42, z42, e42, h42⟩ := r42.steps
  have r43 : Reads enc Tryd.prog w 28 ((cs.drop 43).take (Tryd.prog.cellsOf 28)) := h.field Tryd.underlying30 (i := 12) rfl
  rw [cells28] at r43
  obtain ⟨v43, z43, e43, h43⟩ := r43.bytes
  clear r0 r1 r2 r3 r4 r5 r6 r7 r8 r9 r76 r10 r44 r77 r42 r43
  have p10 := pieces e10 (hbs_len l10)
  have p44 := pieces e44 (hbs_len l44)
  have p77 := pieces e77 (hbs_len l77)
  have hget : ∀ k v, (cs.drop k).take 1 = [v] → cs.toArray[k]? = some v := fun k v hk => by rw [List.getElem?_toArray]; exact piece hk
  refine ⟨⟨z0, z1, z2, z3, z4, z5, z6, z7, z8, z9, z10, z42, z43, z44, z76, z77⟩, ⟨by simp [hl], ?_, hget _ _ e0, hget _ _ e1, hget _ _ e2, hget _ _ e3, hget _ _ e4, hget _ _ e5, hget _ _ e6, hget _ _ e7, hget _ _ e8, hget _ _ e9, l10, p10, ⟨v42, hget _ _ e42, h42⟩, ⟨v43, hget _ _ e43, h43⟩, l44, p44, hget _ _ e76, l77, p77⟩, ⟨W64.of_wf q1, W64.of_wf q2, W64.of_wf q3, W64.of_wf q4, W64.of_wf q8, W64.of_wf q9, ⟨n10, a10, hz10⟩, ⟨n44, a44, hz44⟩, ⟨n77, a77, hz77⟩⟩⟩
  refine Array.all_eq_true.2 fun i hi => ?_
  have hi' : i < 109 := by simpa [hl] using hi
  have hone : ∀ v, cs.toArray[i]? = some v → v.oneCell' = true → cs.toArray[i].oneCell' = true := fun v hv h1 => by
    rw [Array.getElem?_eq_getElem hi, Option.some.injEq] at hv; rw [hv]; exact h1
  have hash : ∀ (o : Nat) (l : List Int), l.length = 32 → At cs.toArray o (hbs l) → o ≤ i → i < o + 32 → cs.toArray[i].oneCell' = true := fun o l hll ha h1 h2 => by
    have hj : i - o < (hbs l).length := by rw [hbs_len hll]; omega
    have := ha (i - o) _ (List.getElem?_eq_getElem hj)
    rw [show o + (i - o) = i by omega] at this
    exact hone _ this (hbs_one l _ (List.getElem_mem _))
  by_cases h10 : i < 10
  · have h10' : i = 0 ∨ i = 1 ∨ i = 2 ∨ i = 3 ∨ i = 4 ∨ i = 5 ∨ i = 6 ∨ i = 7 ∨ i = 8 ∨ i = 9 := by omega
    rcases h10' with rfl | rfl | rfl | rfl | rfl | rfl | rfl | rfl | rfl | rfl
    · exact hone _ (hget _ _ e0) rfl
    · exact hone _ (hget _ _ e1) rfl
    · exact hone _ (hget _ _ e2) rfl
    · exact hone _ (hget _ _ e3) rfl
    · exact hone _ (hget _ _ e4) rfl
    · exact hone _ (hget _ _ e5) rfl
    · exact hone _ (hget _ _ e6) rfl
    · exact hone _ (hget _ _ e7) rfl
    · exact hone _ (hget _ _ e8) rfl
    · exact hone _ (hget _ _ e9) rfl
  by_cases ha : i < 42
  · exact hash 10 z10 l10 p10 (by omega) (by omega)
  by_cases hb : i = 42
  · subst hb
    obtain ⟨_, _, rfl, _⟩ := h42
    exact hone _ (hget _ _ e42) rfl
  by_cases hc : i = 43
  · subst hc
    obtain ⟨_, _, rfl, _⟩ := h43
    exact hone _ (hget _ _ e43) rfl
  by_cases hd : i < 76
  · exact hash 44 z44 l44 p44 (by omega) (by omega)
  by_cases he : i = 76
  · subst he
    exact hone _ (hget _ _ e76) rfl
  · exact hash 77 z77 l77 p77 (by omega) (by omega)
/-- A record that came in. -/
def IsRec (w : World) (v : Value) : Prop := ∃ C x, v = .agg C ∧ RecIn w C x ∧ RecFit x
theorem IsRec.of {W : World} {base : Nat} {v : Value} {d : DataW H} {p : List MemPlace} (ho : Value.okWide Tryd.prog W .any base 30 v)
    (h : DataW.Trod enc Tryd.prog W 0 (fun _ => true) true 30 v d p) : IsRec W v := by
  obtain ⟨⟨cs⟩, rfl, hz⟩ := okWide_struct Tryd.underlying30 ho
  have h' : Reads enc Tryd.prog W 30 cs := Reads.of_trod h
  rw [cells30] at hz
  obtain ⟨x, hx, hf⟩ := RecIn.of_reads (by simpa using hz) h'
  exact ⟨_, x, rfl, hx, hf⟩
/-- A hash that came in. -/
def IsHash (v : Value) : Prop := ∃ l : List Nat, v = .agg (ints .u8 l) ∧ l.length = 32 ∧ All8 l
theorem okWide_array {t : TypeId} {n : Nat} {e : TypeId} {base : Nat} {v : Value} (ht : Tryd.prog.underlying t = some (.array n e)) (h : Value.okWide Tryd.prog w .any base t v) : ∃ cs, v = .agg cs := by
  simp only [Value.okWide, ht] at h
  obtain ⟨cs, h1, _⟩ := h
  exact ⟨cs, h1⟩
theorem IsHash.of {W : World} {base : Nat} {v : Value} {d : DataW H} {p : List MemPlace} (ho : Value.okWide Tryd.prog W .any base 26 v)
    (h : DataW.Trod enc Tryd.prog W 0 (fun _ => true) true 26 v d p) : IsHash v := by
  obtain ⟨⟨cs⟩, rfl⟩ := okWide_array Tryd.underlying26 ho
  have h' : Reads enc Tryd.prog W 26 cs := Reads.of_trod h
  obtain ⟨l, hl, h8, e⟩ := h'.hashN
  exact ⟨l, by rw [e]; simp [ints, bys], hl, h8⟩
end
end Go.Proofs.YtklmhegmombegaaDoor
