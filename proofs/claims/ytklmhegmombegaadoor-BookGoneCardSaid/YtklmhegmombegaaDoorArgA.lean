/-
  What came in: keys, checkpoints, hashes, in memory; what the listed variables hold. Conditions: as each theorem says.
-/
import Derived.Test.YtklmhegmombegaaDoorArgs
import Derived.Test.YtklmhegmombegaaDoorCheckA
import Derived.Test.YtklmhegmombegaaDoorTie
import Derived.LaidMore
import Derived.LaidLaws
import Derived.LaidHandle
set_option linter.unusedVariables false
set_option linter.unusedSimpArgs false
set_option maxRecDepth 100000
namespace Go.Proofs.YtklmhegmombegaaDoor
open Go Go.RowKit Go.ChangeShapes Go.WideShapes Go.ChangeAt Plain

section
variable {H : Type} {enc : TypeId × Value → H} {w : World}
theorem cells26 : Tryd.prog.cellsOf 26 = 32 := by kernel_rfl
theorem cells5' : Tryd.prog.cellsOf 5 = 1 := by kernel_rfl
theorem cells3' : Tryd.prog.cellsOf 3 = 1 := by kernel_rfl
theorem cells22 : Tryd.prog.cellsOf 22 = 1 := by kernel_rfl
theorem cells38 : Tryd.prog.cellsOf 38 = 1 := by kernel_rfl
theorem cells49 : Tryd.prog.cellsOf 49 = 33 := by kernel_rfl
theorem cells24 : Tryd.prog.cellsOf 24 = 3 := by kernel_rfl
theorem cells40 : Tryd.prog.cellsOf 40 = 34 := by kernel_rfl
/-- A hash. -/
theorem Reads.hashN {cs : List Value} (h : Reads enc Tryd.prog w 26 cs) : ∃ l : List Nat, l.length = 32 ∧ All8 l ∧ cs = bys l := by
  obtain ⟨m, x, h⟩ := h
  obtain ⟨xs, n, _, _, hl, hx, hi⟩ := DataW.trod_array Tryd.underlying26 h
  rw [cells26] at hl
  rw [cells5'] at hi
  have each : ∀ i, i < 32 → ∃ z : Nat, z < 256 ∧ cs[i]? = some (.int .u8 (z : Int)) := fun i hlt => by
    have h1 := hi i hlt
    rw [List.getElem?_eq_getElem (by omega)] at h1
    obtain ⟨z, hz, _, hwf⟩ := DataW.trod_int Tryd.underlying5 h1
    simp [Lit.wf] at hwf
    have e1 : IntKind.u8.min = 0 := rfl
    have e2 : IntKind.u8.max = 255 := rfl
    refine ⟨z.toNat, by omega, ?_⟩
    rw [Nat.mul_one] at hz
    have : ((cs.drop i).take 1)[0]? = some (.int .u8 z) := by rw [hz]; rfl
    rw [show ((z.toNat : Nat) : Int) = z by omega]
    simpa using this
  obtain ⟨f, hf⟩ := Deep.choose_lt each
  refine ⟨(List.range 32).map f, by simp, fun z hz => ?_, ?_⟩
  · obtain ⟨i, hi, rfl⟩ := List.mem_map.1 hz
    exact (hf i (by simpa using hi)).1
  · apply List.ext_getElem?
    intro i
    by_cases hlt : i < 32
    · rw [(hf i hlt).2]
      simp [bys, hlt]
    · rw [List.getElem?_eq_none (by omega), List.getElem?_eq_none (by simp [bys]; omega)]
end

section
variable {H : Type} {enc : TypeId × Value → H} {w : World}
theorem shape_lt {b : Nat} {x : TypeId × Nat} (h : w.shape? b = some x) : b < w.heap.size := by
  unfold World.shape? at h
  cases hb : w.heap[b]? with
  | none => rw [hb] at h; simp at h
  | some o => exact (Array.getElem?_eq_some_iff.1 hb).1
theorem rowOk_lt {t u e : TypeId} {base i n c : Nat} {cs : Array Value} {a : Addr} (h : Row.okWide Tryd.prog w .any base t cs) (hts : (Tryd.prog.cellTypes Tryd.prog.depth t).bind (fun ts => ts[i % ts.length]?) = some u) (hu : Tryd.prog.underlying u = some (.slice e)) (hi : cs[i]? = some (.slice (some a) n c)) : a.block < w.heap.size := by
  obtain ⟨ts, h1, _, h2⟩ := h
  obtain ⟨u', hu', ho⟩ := h2 i _ hi
  rw [h1] at hts
  simp only [Option.bind_some] at hts
  obtain rfl : u' = u := by rw [hu'] at hts; exact Option.some.inj hts
  simp only [Cell.okWide, hu, Cell.ok, World.has] at ho
  obtain ⟨_, _, _, _, row, cells, hs, _⟩ := ho
  exact shape_lt hs
theorem okWide_row {t : TypeId} {fs : Array Field} {base : Nat} {v : Value} (ht : Tryd.prog.underlying t = some (.struct fs)) (h : Value.okWide Tryd.prog w .any base t v) : ∃ cs, v = .agg cs ∧ cs.size = Tryd.prog.cellsOf t ∧ Row.okWide Tryd.prog w .any base t cs := by
  simpa only [Value.okWide, ht] using h
theorem piece {cs : List Value} {k : Nat} {v : Value} (h : (cs.drop k).take 1 = [v]) : cs[k]? = some v := by
  have : ((cs.drop k).take 1)[0]? = some v := by rw [h]; rfl
  simpa using this
theorem W64.of_wf {n : Int} (h : (Lit.int .i64 n).wf = true) : W64 n := by
  simp [Lit.wf] at h
  have e1 : IntKind.i64.min = -9223372036854775808 := rfl
  have e2 : IntKind.i64.max = 9223372036854775807 := rfl
  unfold W64
  omega
/-- A slice of hashes. -/
theorem HHash.of_reads {cs : List Value} (h : Reads enc Tryd.prog w 22 cs) : ∃ a n c, cs = [.slice a n c] ∧ (n ≤ 1000 → (∀ k, Value.ownBlock (.slice a n c) = some k → k < w.heap.size) → ∃ l : List (List Nat), l.length = n ∧ HHash w (.slice a n c) l) := by
  obtain ⟨a, n, c, F, rfl, _, hnil, hm, hF⟩ := open_elems Tryd.underlying22 cells26 (by decide) h
  refine ⟨a, n, c, rfl, fun hn hlt => ?_⟩
  by_cases h0 : n = 0
  · subst h0
    refine ⟨[], rfl, ⟨⟨rfl, a, c, rfl, ?_⟩, by simp, Nat.zero_le _, hlt⟩⟩
    cases a with
    | none => exact .inl ⟨rfl, rfl, (hnil rfl).2⟩
    | some ad => exact .inr ⟨ad, rfl, fun j u hu => by simp at hu⟩
  rcases hF with rfl | ⟨b, o, rfl, hx⟩
  · exact absurd rfl h0
  have each : ∀ i, i < n → ∃ l : List Nat, l.length = 32 ∧ All8 l ∧ F i = bys l := fun i hi => Reads.hashN (hx i hi).2.1
  obtain ⟨q, hq⟩ := Deep.choose_lt each
  have hlen : ((List.range n).map q).length = n := by simp
  have h32 : ∀ x ∈ (List.range n).map q, x.length = 32 := fun x hx' => by
    obtain ⟨i, hi, rfl⟩ := List.mem_map.1 hx'
    exact (hq i (by simpa using hi)).1
  have hsum : ∀ (l : List (List Nat)), (∀ x ∈ l, x.length = 32) → (l.flatMap bys).length = l.length * 32 := by
    intro l
    induction l with
    | nil => intro _; rfl
    | cons x l ih => intro h; rw [List.flatMap_cons, List.length_append, ih (fun y hy => h y (by simp [hy])), bys_len, h x (by simp), List.length_cons]; omega
  refine ⟨(List.range n).map q, hlen, ?_⟩
  refine ⟨⟨by rw [hsum _ h32], some ⟨b, o, none⟩, c, by rw [hlen], .inr ⟨_, rfl, fun j u hu => ?_⟩⟩, fun x hx' => ?_, by rw [hlen]; exact hn, hlt⟩
  · have hj : j < n * 32 := by have := (List.getElem?_eq_some_iff.1 hu).1; rwa [hsum _ h32, hlen] at this
    have hk : j / 32 < ((List.range n).map q).length := by rw [hlen]; omega
    have hjj : j / 32 * 32 + j % 32 = j := by omega
    have g := flat32_get h32 hk (Nat.mod_lt j (by decide))
    rw [hjj, hu] at g
    obtain ⟨_, _, hc⟩ := hx (j / 32) (by omega)
    have := hc (j % 32) (Nat.mod_lt j (by decide))
    rw [Nat.add_assoc, hjj] at this
    rw [Addr.add_none, this, g]
    have hk' : j / 32 < n := by omega
    have hm32 : j % 32 < 32 := Nat.mod_lt j (by decide)
    have hql : j % 32 < (q (j / 32)).length := by rw [(hq _ hk').1]; exact hm32
    rw [(hq _ hk').2.2]
    simp [bys, List.getD_eq_getElem?_getD, List.getElem?_eq_getElem hql]
  · obtain ⟨i, hi, rfl⟩ := List.mem_map.1 hx'
    exact ⟨(hq i (by simpa using hi)).1, (hq i (by simpa using hi)).2.1⟩
/-- Keys that came in. -/
def IsKeys (w : World) (v : Value) : Prop := ∃ pa np pc wa nw wc nd, v = .agg #[.slice pa np pc, .slice wa nw wc, .int .i64 nd] ∧ W64 nd ∧ (np ≤ 1000 → nw ≤ 1000 → ∃ k : Ky, k.need = nd ∧ k.parts.length = np ∧ k.wits.length = nw ∧ KyIn w (.slice pa np pc) (.slice wa nw wc) k)
theorem IsKeys.of {W : World} {base : Nat} {v : Value} {d : DataW H} {p : List MemPlace} (ho : Value.okWide Tryd.prog W .any base 24 v)
    (h : DataW.Trod enc Tryd.prog W 0 (fun _ => true) true 24 v d p) : IsKeys W v := by
  obtain ⟨⟨cs⟩, rfl, hz, hrow⟩ := okWide_row Tryd.underlying24 ho
  have h' : Reads enc Tryd.prog W 24 cs := Reads.of_trod h
  rw [cells24] at hz
  have r0 : Reads enc Tryd.prog W 22 ((cs.drop 0).take (Tryd.prog.cellsOf 22)) := h'.field Tryd.underlying24 (i := 0) rfl
  have r1 : Reads enc Tryd.prog W 22 ((cs.drop 1).take (Tryd.prog.cellsOf 22)) := h'.field Tryd.underlying24 (i := 1) rfl
  have r2 : Reads enc Tryd.prog W 3 ((cs.drop 2).take (Tryd.prog.cellsOf 3)) := h'.field Tryd.underlying24 (i := 2) rfl
  rw [cells22] at r0 r1
  rw [cells3'] at r2
  obtain ⟨pa, np, pc, e0, m0⟩ := HHash.of_reads r0
  obtain ⟨wa, nw, wc, e1, m1⟩ := HHash.of_reads r1
  obtain ⟨nd, e2, hwf⟩ := Reads.int Tryd.underlying3 r2
  have g0 := piece e0
  have g1 := piece e1
  have g2 := piece e2
  have hcs : (⟨cs⟩ : Array Value) = #[.slice pa np pc, .slice wa nw wc, .int .i64 nd] := by
    match cs, hz, g0, g1, g2 with
    | [x, y, z], _, g0, g1, g2 =>
      simp only [List.getElem?_cons_zero, List.getElem?_cons_succ, Option.some.injEq] at g0 g1 g2
      subst g0 g1 g2; rfl
  rw [hcs]
  refine ⟨pa, np, pc, wa, nw, wc, nd, rfl, W64.of_wf hwf, fun hp hw => ?_⟩
  obtain ⟨lp, hlp, HP⟩ := m0 hp (fun k e => by
    cases pa with
    | none => simp [Value.ownBlock] at e
    | some a =>
      simp only [Value.ownBlock, Option.some.injEq] at e; subst e
      exact rowOk_lt (t := 24) (u := 22) (i := 0) hrow (by kernel_rfl) Tryd.underlying22 (by rw [List.getElem?_toArray]; exact g0))
  obtain ⟨lw, hlw, HW⟩ := m1 hw (fun k e => by
    cases wa with
    | none => simp [Value.ownBlock] at e
    | some a =>
      simp only [Value.ownBlock, Option.some.injEq] at e; subst e
      exact rowOk_lt (t := 24) (u := 22) (i := 1) hrow (by kernel_rfl) Tryd.underlying22 (by rw [List.getElem?_toArray]; exact g1))
  exact ⟨⟨lp, lw, nd⟩, rfl, hlp, hlw, ⟨HP, HW⟩⟩
/-- A signature. -/
theorem Reads.sig {cs : List Value} (hl : cs.length = 33) (h : Reads enc Tryd.prog w 49 cs) : ∃ s : Int × List Nat, s.2.length = 32 ∧ All8 s.2 ∧ W64 s.1 ∧ cs = sigC s := by
  have r0 : Reads enc Tryd.prog w 3 ((cs.drop 0).take (Tryd.prog.cellsOf 3)) := h.field Tryd.underlying49 (i := 0) rfl
  have r1 : Reads enc Tryd.prog w 26 ((cs.drop 1).take (Tryd.prog.cellsOf 26)) := h.field Tryd.underlying49 (i := 1) rfl
  rw [cells3'] at r0
  rw [cells26] at r1
  obtain ⟨z, e0, hwf⟩ := Reads.int Tryd.underlying3 r0
  obtain ⟨l, hl32, h8, e1⟩ := r1.hashN
  refine ⟨(z, l), hl32, h8, W64.of_wf hwf, ?_⟩
  rcases cs with _ | ⟨c, cs⟩
  · simp at hl
  · simp only [List.drop_zero, List.take_succ_cons, List.take_zero, List.cons.injEq, and_true] at e0
    subst e0
    rw [List.drop_succ_cons, List.drop_zero, List.take_of_length_le (by simp at hl; omega)] at e1
    rw [e1]; rfl
theorem flat33_len {l : List (Int × List Nat)} (h : ∀ x ∈ l, x.2.length = 32) : (l.flatMap sigC).length = l.length * 33 := by
  induction l with
  | nil => rfl
  | cons x l ih => rw [List.flatMap_cons, List.length_append, ih (fun y hy => h y (by simp [hy])), sigC_len (h x (by simp)), List.length_cons]; omega
/-- Signatures. -/
theorem HSigs.of_reads {cs : List Value} (h : Reads enc Tryd.prog w 38 cs) : ∃ a n c, cs = [.slice a n c] ∧ (n ≤ 1000 → (∀ k, Value.ownBlock (.slice a n c) = some k → k < w.heap.size) → ∃ l : List (Int × List Nat), l.length = n ∧ HSigs w (.slice a n c) l) := by
  obtain ⟨a, n, c, F, rfl, _, hnil, hm, hF⟩ := open_elems Tryd.underlying38 cells49 (by decide) h
  refine ⟨a, n, c, rfl, fun hn hlt => ?_⟩
  by_cases h0 : n = 0
  · subst h0
    refine ⟨[], rfl, ⟨⟨rfl, a, c, rfl, ?_⟩, by simp, Nat.zero_le _, hlt⟩⟩
    cases a with
    | none => exact .inl ⟨rfl, rfl, (hnil rfl).2⟩
    | some ad => exact .inr ⟨ad, rfl, fun j u hu => by simp at hu⟩
  rcases hF with rfl | ⟨b, o, rfl, hx⟩
  · exact absurd rfl h0
  have each : ∀ i, i < n → ∃ s : Int × List Nat, s.2.length = 32 ∧ All8 s.2 ∧ W64 s.1 ∧ F i = sigC s := fun i hi => Reads.sig (hx i hi).1 (hx i hi).2.1
  obtain ⟨q, hq⟩ := Deep.choose_lt (α := Int × List Nat) each
  have hlen : ((List.range n).map q).length = n := by simp
  have h32 : ∀ x ∈ (List.range n).map q, x.2.length = 32 := fun x hx' => by
    obtain ⟨i, hi, rfl⟩ := List.mem_map.1 hx'
    exact (hq i (by simpa using hi)).1
  refine ⟨(List.range n).map q, hlen, ?_⟩
  refine ⟨⟨by rw [flat33_len h32], some ⟨b, o, none⟩, c, by rw [hlen], .inr ⟨_, rfl, fun j u hu => ?_⟩⟩, fun x hx' => ?_, by rw [hlen]; exact hn, hlt⟩
  · have hj : j < n * 33 := by have := (List.getElem?_eq_some_iff.1 hu).1; rwa [flat33_len h32, hlen] at this
    have hk : j / 33 < ((List.range n).map q).length := by rw [hlen]; omega
    have hjj : j / 33 * 33 + j % 33 = j := by omega
    have g := flat33_get h32 hk (Nat.mod_lt j (by decide))
    rw [hjj, hu] at g
    obtain ⟨_, _, hc⟩ := hx (j / 33) (by omega)
    have := hc (j % 33) (Nat.mod_lt j (by decide))
    rw [Nat.add_assoc, hjj] at this
    rw [Addr.add_none, this, g, (hq _ (by omega)).2.2.2]
    simp
  · obtain ⟨i, hi, rfl⟩ := List.mem_map.1 hx'
    have := hq i (by simpa using hi)
    exact ⟨this.1, this.2.1, this.2.2.1⟩
/-- A checkpoint that came in. -/
def IsPoint (w : World) (v : Value) : Prop := ∃ C m root a n c, v = .agg C ∧ W64 m ∧ PtIn C m root (.slice a n c) ∧ (n ≤ 1000 → ∃ l : List (Int × List Nat), l.length = n ∧ HSigs w (.slice a n c) l)
theorem IsPoint.of {W : World} {base : Nat} {v : Value} {d : DataW H} {p : List MemPlace} (ho : Value.okWide Tryd.prog W .any base 40 v)
    (h : DataW.Trod enc Tryd.prog W 0 (fun _ => true) true 40 v d p) : IsPoint W v := by
  obtain ⟨⟨cs⟩, rfl, hz, hrow⟩ := okWide_row Tryd.underlying40 ho
  have h' : Reads enc Tryd.prog W 40 cs := Reads.of_trod h
  rw [cells40] at hz
  have r0 : Reads enc Tryd.prog W 3 ((cs.drop 0).take (Tryd.prog.cellsOf 3)) := h'.field Tryd.underlying40 (i := 0) rfl
  have r1 : Reads enc Tryd.prog W 26 ((cs.drop 1).take (Tryd.prog.cellsOf 26)) := h'.field Tryd.underlying40 (i := 1) rfl
  have r2 : Reads enc Tryd.prog W 38 ((cs.drop 33).take (Tryd.prog.cellsOf 38)) := h'.field Tryd.underlying40 (i := 2) rfl
  rw [cells3'] at r0
  rw [cells26] at r1
  rw [cells38] at r2
  obtain ⟨m, e0, hwf⟩ := Reads.int Tryd.underlying3 r0
  obtain ⟨root, hrl, hr8, e1⟩ := r1.hashN
  obtain ⟨a, n, c, e2, m2⟩ := HSigs.of_reads r2
  have g0 := piece e0
  have g2 := piece e2
  have hl34 : cs.length = 34 := by simpa using hz
  have hget : ∀ j v, (bys root)[j]? = some v → cs[1 + j]? = some v := fun j v hv => by
    have hj : j < 32 := by have := (List.getElem?_eq_some_iff.1 hv).1; rwa [bys_len, hrl] at this
    rw [← e1] at hv
    simpa [hj, Nat.add_comm] using hv
  refine ⟨⟨cs⟩, m, root, a, n, c, rfl, W64.of_wf hwf, ⟨hz, ?_, by rw [List.getElem?_toArray]; exact g0, fun j v hv => by rw [List.getElem?_toArray]; exact hget j v hv, hrl, hr8, by rw [List.getElem?_toArray]; exact g2⟩, fun hn => ?_⟩
  · refine Array.all_eq_true.2 fun i hi => ?_
    have hi' : i < 34 := by simpa [hl34] using hi
    have hone : ∀ v, cs[i]? = some v → v.oneCell' = true → (⟨cs⟩ : Array Value)[i].oneCell' = true := fun v hv h1 => by
      have : (⟨cs⟩ : Array Value)[i]? = some v := by rw [List.getElem?_toArray]; exact hv
      rw [Array.getElem?_eq_getElem hi, Option.some.injEq] at this; rw [this]; exact h1
    by_cases h0 : i = 0
    · subst h0; exact hone _ g0 rfl
    by_cases h3 : i = 33
    · subst h3; exact hone _ g2 rfl
    · have hj : i - 1 < (bys root).length := by rw [bys_len, hrl]; omega
      have := hget (i - 1) _ (List.getElem?_eq_getElem hj)
      rw [show 1 + (i - 1) = i by omega] at this
      refine hone _ this ?_
      simp [bys, Value.oneCell']
  · refine m2 hn (fun k e => ?_)
    cases a with
    | none => simp [Value.ownBlock] at e
    | some a =>
      simp only [Value.ownBlock, Option.some.injEq] at e; subst e
      exact rowOk_lt (t := 40) (u := 38) (i := 33) hrow (by kernel_rfl) Tryd.underlying38 (by rw [List.getElem?_toArray]; exact g2)
end
end Go.Proofs.YtklmhegmombegaaDoor
