/-
  Records that are redacted go alike, and come to the same book; of a clean report nothing is missing: 'Rows.BookGoneCardSaid', for every input. Conditions: none.
-/
import Derived.Test.YtklmhegmombegaaDoorGoneA
import Derived.Test.YtklmhegmombegaaDoorArgB
import Derived.Test.YtklmhegmombegaaDoorLayA
import Derived.Test.YtklmhegmombegaaDoorCards
import Derived.Test.YtklmhegmombegaaDoorTie
import Derived.OwnWalk
import Derived.ProofKit
import Derived.OpenShut
import Derived.ShutString
import Derived.ChangeOld
import Derived.Below
import Derived.LaidMore
import Derived.SevenTiedAt
set_option linter.unusedVariables false
set_option linter.unusedSimpArgs false
set_option maxRecDepth 100000
namespace Go.Proofs.YtklmhegmombegaaDoor.bookGone
open Go Go.ChangeShapes Go.WideShapes Go.ChangeAt Go.RowKit Plain
section
variable {H : Type} {enc : TypeId × Value → H} {w : World}
theorem nil_ok {cs : List Value} (hl : cs.length = 109) (h : Reads enc Tryd.prog w 30 cs) : Re.NilOk cs.toArray := by
  intro n c hc
  have r : Reads enc Tryd.prog w 28 ((cs.drop 43).take (Tryd.prog.cellsOf 28)) := h.field Tryd.underlying30 (i := 12) rfl
  rw [cells28] at r
  obtain ⟨a, c', zs, e, _, hrd, _⟩ := Reads.ints Tryd.underlying28 Tryd.underlying5 cells5' r
  have e' : (cs.drop 43).take 1 = [.slice a zs.length c'] := e
  have e2 : cs[43]? = some (.slice a zs.length c') := by
    have := congrArg (fun l => l[0]?) e'
    simpa using this
  have e3 : cs[43]? = some (.slice none n c) := by simpa using hc
  have e4 := Option.some.inj (e2.symm.trans e3)
  simp only [Value.slice.injEq] at e4
  obtain ⟨rfl, rfl, rfl⟩ := e4
  obtain ⟨_, a, c2, ev, hh⟩ := hrd
  simp only [Value.slice.injEq] at ev
  obtain ⟨rfl, _, rfl⟩ := ev
  rcases hh with ⟨_, _, h0⟩ | ⟨ad, h0, _⟩
  · exact h0
  · cases h0
/-- A slice of records that came in. -/
def IsRecsG (w : World) (v : Value) : Prop := ∃ rs, Re.HoldsRs w v rs ∧ ∀ p ∈ rs, RecFit p.2 ∧ Re.NilOk p.1
theorem IsRecsG.of {W : World} {base : Nat} {v : Value} {d : DataW H} {p : List MemPlace} (ho : Value.okWide Tryd.prog W .any base 81 v)
    (h : DataW.Trod enc Tryd.prog W 0 (fun _ => true) true 81 v d p) : IsRecsG W v := by
  obtain ⟨a0, len, cap, rfl⟩ := okWide_slice Tryd.underlying81 ho
  obtain ⟨a, n, c, F, hcs, _, hnil, hm, hF⟩ := open_elems Tryd.underlying81 cells30 (by decide) (Reads.of_trod h)
  have hcs' : Value.slice a0 len cap = .slice a n c := by simpa [Value.cells] using hcs
  rw [hcs']
  by_cases h0 : n = 0
  · subst h0
    refine ⟨[], ⟨⟨rfl, a, c, rfl, ?_⟩, Nat.zero_le _, by simp⟩, by simp⟩
    cases a with
    | none => exact .inl ⟨rfl, rfl, (hnil rfl).2⟩
    | some ad => exact .inr ⟨ad, rfl, fun j u hu => by simp at hu⟩
  rcases hF with rfl | ⟨b, o, rfl, hx⟩
  · exact absurd rfl h0
  have each : ∀ i, i < n → ∃ x : Re.Plain.Rx, Re.RecIn W (F i).toArray x ∧ RecFit x := fun i hi => RecIn.of_reads (hx i hi).1 (hx i hi).2.1
  haveI : Inhabited Re.Plain.Rx := ⟨Re.Plain.Rx.zero⟩
  obtain ⟨q, hq⟩ := Deep.choose_lt each
  have hlen : ((List.range n).map fun i => ((F i).toArray, q i)).length = n := by simp
  have hfr : ∀ p ∈ (List.range n).map (fun i => ((F i).toArray, q i)), (Re.frc p).length = 109 := fun p hp => by
    obtain ⟨i, hi, rfl⟩ := List.mem_map.1 hp
    simp [Re.frc, (hx i (by simpa using hi)).1]
  refine ⟨(List.range n).map fun i => ((F i).toArray, q i), ⟨?_, by rw [hlen]; exact hm, fun p hp => ?_⟩, fun p hp => ?_⟩
  · rw [hlen]
    refine ⟨by rw [Re.flat_len _ hfr, hlen], some ⟨b, o, none⟩, c, rfl, .inr ⟨_, rfl, fun j u hu => ?_⟩⟩
    have hj : j < n * 109 := by have := (List.getElem?_eq_some_iff.1 hu).1; rwa [Re.flat_len _ hfr, hlen] at this
    rw [Re.flat_get (by decide) _ hfr] at hu
    have hk : j / 109 < n := by omega
    rw [List.getElem?_map, List.getElem?_range hk] at hu
    simp only [Option.map_some, Option.bind_some, Re.frc, List.toList_toArray] at hu
    obtain ⟨h1, _, h2⟩ := hx _ hk
    have h3 := h2 (j % 109) (Nat.mod_lt _ (by decide))
    rw [Addr.add_none]
    have e : o + j / 109 * 109 + j % 109 = o + j := by omega
    rw [e] at h3
    rw [h3, hu]
  · obtain ⟨i, hi, rfl⟩ := List.mem_map.1 hp
    exact (hq i (by simpa using hi)).1
  · obtain ⟨i, hi, rfl⟩ := List.mem_map.1 hp
    exact ⟨(hq i (by simpa using hi)).2, nil_ok (hx i (by simpa using hi)).1 (hx i (by simpa using hi)).2.1⟩
end
theorem walk (W : World) (hL : Laid W) (v0 : Value) (h0 : IsRecsG W v0) (n : Int) (hn : (Lit.int .i64 n).wf = true) (m : Int) (hm : (Lit.int .u32 m).wf = true) :
    Calls Tryd.prog 16 #[v0, .int .i64 n, .int .u32 m] W fun e W' => e = .returned (.bool true) ∧ Below W.heap.size W W' := by
  obtain ⟨rs, hr, hf⟩ := h0
  refine (Re.c_gone v0 rs n m W hL hr hf).mono ?_
  rintro e w' ⟨rfl, k⟩
  exact ⟨rfl, k.below (Nat.le_refl _) (fun k h => h.elim)⟩
theorem own : ownKnob Tryd.prog.godebug = none := by kernel_rfl
theorem laidOut : laidOutB Tryd.prog = true := by kernel_rfl
set_option maxRecDepth 100000 in
theorem lifted (os : Os) (started : os.Started) (H : Type) (enc : TypeId × Value → H) :
    ReturnsInHanded {} Tryd.checked os 16 .any (fun w args => (Rows.bookGoneSpec.pre enc Tryd.prog Tryd.f16 [] false w args ∧ laidMetH Tryd.prog laidL w) ∧ sizedMet enc Tryd.prog Tryd.f16 (OpenSpec.ofChange Rows.bookGoneSpec) false w args)
      (Rows.bookGoneSpec.post enc Tryd.prog Tryd.f16 false true false false) := by
  refine returnsInHanded_of_change_and (C := Tryd.checked) (X := fun w _ => laidMetH Tryd.prog laidL w) (fun _ _ _ hh h => h.of_heap hh) own started (by kernel_rfl) Tryd.func16
    (ChangeSpec.witness_shaped (enc := enc) (C := Tryd.checked) (os := os) (X := fun w _ => laidMetH Tryd.prog laidL w) false (World.doorLaid Tryd.prog 400 os) #[.slice none 0 0, .int .i64 0, .int .u32 0] 8 rfl (World.shaped_of_RefB (by kernel_rfl) (by kernel_rfl)) (by kernel_rfl) (by kernel_rfl) (by kernel_rfl) (door_met os _)) ?_
  intro W base args ds gs before hval0 hW _ _ hLH _
  have hval : ∀ (j : Nat) t v, Tryd.f16.params[j]? = some t → args[j]? = some v → Value.okWide Tryd.prog W .any base t v := hval0
  have hW' := hW
  obtain ⟨p, q, hA0, hV, rfl, hfz, hnd⟩ := hW
  have hA : DataW.TrodAll enc Tryd.prog W 0 (fun _ => true) true Tryd.f16.params.toList args.toList ds p := hA0
  rw [Tryd.params16] at hA hval
  obtain ⟨v0, vs0, d0, ds0, p0, q0, hargs, rfl, rfl, h0, r0⟩ := trodAll_cons hA
  obtain ⟨v1, vs1, d1, ds1, p1, q1, rfl, rfl, rfl, h1, r1⟩ := trodAll_cons r0
  obtain ⟨v2, vs2, d2, ds2, p2, q2, rfl, rfl, rfl, h2, r2⟩ := trodAll_cons r1
  obtain ⟨rfl, rfl, rfl⟩ := trodAll_nil r2
  obtain rfl : args = #[v0, v1, v2] := by cases args; simp_all
  obtain ⟨rfl, rfl⟩ := trodVars_none hV
  have k0 := h0
  have lt0 : ∀ x ∈ p0, x.block < W.heap.size := by obtain ⟨m, hm⟩ := k0; exact DataW.trod_lt m _ _ _ hm
  have w0 := IsRecsG.of (hval 0 81 v0 rfl rfl) h0
  obtain ⟨a1, rfl, rfl, rfl, w1⟩ := open_int Tryd.underlying3 (hval 1 3 v1 rfl rfl) h1
  obtain ⟨a2, rfl, rfl, rfl, w2⟩ := open_int Tryd.underlying82 (hval 2 82 v2 rfl rfl) h2
  have hL := Laid.of hLH
  clear hA0 hval0
  refine (walk W hL v0 w0 a1 w1 a2 w2).mono fun e W' ⟨he, bel⟩ => ?_
  subst he
  exact ⟨_, rfl, _, _, _, [], _, [], hW', trodAll_mk1 (shut_bool Tryd.underlying4 _), (trodAll_cons_mk (Below.trod laidOut (by kernel_rfl) (of_decide_eq_true (by kernel_rfl)) k0 bel lt0) (trodAll_cons_mk (shut_int Tryd.underlying3 w1) (trodAll_cons_mk (shut_int Tryd.underlying82 w2) trodAll_mk0))), rfl, bel.frame _, fun h => by cases h⟩

theorem over : Rows.bookGoneRow.holds Tryd.pinned (OpenSpec.ofChange Rows.bookGoneSpec) :=
  OpenClaim.holds_of_wide 16 Tryd.f16 rfl rfl rfl rfl rfl rfl rfl ⟨rfl, rfl, rfl, rfl, rfl⟩ rfl rfl rfl rfl rfl (by kernel_rfl) Tryd.func16 (by kernel_rfl)
    (of_decide_eq_true (by kernel_rfl)) (by unfold Func.isWrapper; first | (rw [if_pos (by decide +kernel)]; kernel_rfl) | (rw [if_neg (by decide +kernel)]; exact ⟨rfl, rfl⟩))
    (fun os started H enc _ => lifted os started H enc)

theorem proved : Rows.BookGoneCardSaid :=
  Claim7.holds_tied_plain_at .later [] [.data, .data] true _ false
    over (fun _ h => by cases h) (by kernel_rfl) (fun _ h => by cases h) bookGone_row_tie rfl ⟨rfl, rfl⟩ (by kernel_rfl) rfl
    (fun f fn hf hfn => by
      obtain rfl : f = 16 := Option.some.inj ((show Tryd.prog.funcNamed "inspeximus/inspeximuslaw12.BookGone" = some 16 by kernel_rfl).symm.trans hf) |>.symm
      obtain rfl : fn = Tryd.f16 := (Option.some.inj (Tryd.func16.symm.trans hfn)).symm
      exact ⟨by kernel_rfl, fun j t ht => by
        rw [Tryd.params16] at ht
        have hm : t ∈ [81, 3, 82] := by have := Array.mem_of_getElem? ht; simpa [or_comm, or_left_comm, or_assoc] using this
        have hall : ([81, 3, 82].all fun u => !Tryd.prog.wantsStandIn u) = true := by kernel_rfl
        exact (show Tryd.prog.wantsStandIn t = false by simpa using List.all_eq_true.1 hall t hm)⟩)
    (by kernel_rfl)
#print axioms proved
end Go.Proofs.YtklmhegmombegaaDoor.bookGone
