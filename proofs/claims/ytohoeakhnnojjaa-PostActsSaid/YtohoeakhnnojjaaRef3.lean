/-
  The contract of the reference's Late. Conditions: as the theorem says.
-/
import Derived.Test.YtohoeakhnnojjaaRef2
namespace Go.Proofs.Ytohoeakhnnojjaa
open Go Go.RowKit Go.Conc
attribute [local go_sem ↓] load28_fold

section
variable {w w' : World} {base R : Nat} {v : Value} {q : List (Array Value)}
theorem IsRef.put' (h : IsRef w base R v q) {w3 : World} {v3 : Value} {q3 : List (Array Value)} (k3 : Kept (fun _ => False) w w3) (hb : Buf w3 w.heap.size 28 41 v3 q3.length (flat q3)) (hm : q3.length ≤ 24) (hc : ∀ C ∈ q3, Callish C) :
    ∃ v', IsRef (w3.setCell ⟨R, 0, none⟩ v3) base R v' q3 ∧ (∀ k, v'.ownBlock = some k → w.heap.size ≤ k) ∧ Kept (fun k => k = R) w (w3.setCell ⟨R, 0, none⟩ v3) := by
  have hR := h.lt
  have hlo := h.lo
  have ho := hb.lt
  have hne : v3.ownBlock ≠ some R := fun e => by have := (ho R e).1; omega
  have KS : Kept (fun k => k = R) w3 (w3.setCell ⟨R, 0, none⟩ v3) := (Kept.refl (fun k => k = R) w3).setCell (p := ⟨R, 0, none⟩) (.inl rfl) v3
  have hb3 : w3.heap[R]? = _ := (k3.block R hR id).trans h.block
  refine ⟨v3, ⟨setCell_block hb3 _, hlo, hb.rd.kept KS (fun k e e' => hne (by rw [e, show k = R from e'])), hm, hc, fun k e => ?_, hne, fun a n c e => ?_⟩, fun k e => (ho k e).1, (k3.mono fun _ _ h => h.elim).trans KS⟩
  · have h1 := ho k e
    have h2 := KS.size
    omega
  · obtain ⟨a', c', e', h1, _⟩ := hb.form
    rw [e'] at e; injection e with _ e2 e3; omega

set_option maxHeartbeats 8000000 in
theorem r_late (h : IsRef w base R v q) :
    Calls Try.prog 19 #[.pointer (some ⟨R, 0, none⟩)] w fun e w' => e = .returned (.bool (lates q)) ∧ ∃ v', IsRef w' base R v' (late q) ∧ (v'.ownBlock = v.ownBlock ∨ ∀ k, v'.ownBlock = some k → w.heap.size ≤ k) ∧ Kept (fun k => k = R) w w' := by
  obtain ⟨i, hi, hs, hby, hz⟩ := info28'
  have c0 := h.c0
  have hR := h.lt
  have hmost := h.most
  have hcap := h.cap
  obtain ⟨a, c, rfl⟩ := h.form
  have hqc : q.length ≤ c := hcap _ _ _ rfl
  have HH := Lib.hid h
  clear hcap
  by_cases hq : q.length < 2
  · have e1 : lates q = false := by simp [lates]; omega
    have e2 : late q = q := by simp [late, hq]
    rw [e1, e2]
    clear e1 e2 h
    go_enter Try.func19, Try.ntmps19
    go_wp2_with fail
    go_ret
    exact ⟨rfl, _, HH.out, .inl rfl, Kept.refl _ _⟩
  cases q with
  | nil => simp at hq
  | cons C q =>
    have hC : Callish C := h.calls C (by simp)
    have hcal : ∀ E ∈ q, Callish E := fun E hE => h.calls E (List.mem_cons_of_mem _ hE)
    have e1 : lates (C :: q) = true := by simp only [lates, decide_eq_true_eq]; omega
    have e2 : late (C :: q) = q ++ [C] := by rw [late, if_neg hq]; rfl
    rw [e1, e2]
    simp only [List.length_cons] at hq hqc hmost c0
    obtain ⟨b, o, c', e1, r1⟩ := h.rd.addr (by simp)
    simp only [Value.slice.injEq, true_and] at e1
    obtain ⟨rfl, rfl⟩ := e1
    have g1 := Rd.range h.calls r1 (k := 0) (C := C) rfl
    rw [Nat.zero_mul, Nat.add_zero] at g1
    have hfold := fold28 hC.size
    unfold Z28 at hfold
    have hsz := hC.size
    have HC := Lib.hid hC
    have HR3 : Hid (∀ w3, Kept (fun _ => False) w.drew w3 → w3.heap[R]? = some (.cells #[.slice (some ⟨b, o, none⟩) (q.length + 1) c] 37 (0, 0)) ∧ w3.rangeAt b o C.toList ∧ True) := fun w3 k =>
      ⟨(k.block R hR id).trans HH.out.block, fun j u hu => by
        have h1 := g1 j u hu
        exact (k.cell (p := ⟨b, o + j, none⟩) (World.block_lt_of_cell? w _ h1) id).trans h1, trivial⟩
    have HA : Hid (∀ w', Kept (fun _ => False) w.drew w' → Src Try.prog 41 32 (.slice (some ⟨b, o + 41, none⟩) q.length (c - 1)) q.length (flat q) w') := fun w' k => by
      have hrd : Rd w' 41 (.slice (some ⟨b, o + 41, none⟩) q.length (c - 1)) q.length (flat q) := by
        refine ⟨flat_length hcal, _, _, rfl, .inr ⟨_, rfl, fun j u hu => ?_⟩⟩
        rw [Addr.add_none]
        have := r1 (41 + j) u (by
          simp only [flat, List.flatMap_cons]
          rw [List.getElem?_append_right (by simp [hsz])]
          simpa [hsz, flat] using hu)
        rw [← Nat.add_assoc] at this
        exact (k.cell (p := ⟨b, o + 41 + j, none⟩) (World.block_lt_of_cell? w _ this) id).trans this
      exact hrd.src Try.underlying32 (oneCell_flat hcal)
    have HSC : Hid (∀ (w' : World) (g : Nat), w'.heap[g]? = some (.cells C 28 (0, 0)) → Src Try.prog 41 32 (.slice (some ⟨g, 0, none⟩) 1 1) 1 C.toList w') := fun w' g hg => by
      have h := Rd.of_block hg 41 1 1 (by rw [hsz]; decide)
      rw [List.take_of_length_le (by simp [hsz])] at h
      exact h.src Try.underlying32 (fun u hu => Array.all_eq_true_iff_forall_mem.1 HC.out.one u (by simpa using hu))
    have HB0 : Hid (∀ (w' : World) (g : Nat), w'.heap[g]? = some (.cells #[] 28 (0, 0)) → w.heap.size ≤ g → Buf w' w.heap.size 28 41 (.slice (some ⟨g, 0, none⟩) 0 0) 0 []) := fun w' g hg hl =>
      ⟨rfl, .inr ⟨g, 0, #[], rfl, hl, hg, Nat.le_refl _, by decide, by simp, rfl⟩⟩
    have hl : ∀ w' : World, w'.rangeAt b o C.toList → (load28Of (.pointer (some ⟨b, o, none⟩))).run Try.prog w' = .ok (.agg C) w' := fun w' hr => load28_of hr hsz
    have KA1 : Kept (fun _ => False) w.drew (w.drew.alloc (.cells #[] 28)) := (Kept.refl _ _).alloc _
    have KA2 : Kept (fun _ => False) w.drew ((w.drew.alloc (.cells C 28)).alloc (.cells #[] 28)) := ((Kept.refl _ _).alloc _).alloc _
    have KA3 : Kept (fun _ => False) w.drew ((w.drew.alloc (.cells #[] 28)).alloc (.cells C 28)) := ((Kept.refl _ _).alloc _).alloc _
    have hbA1 := HB0.out (w.drew.alloc (.cells #[] 28)) w.heap.size (heap_alloc_new w.drew _) (by omega)
    have hbA2 := HB0.out ((w.drew.alloc (.cells C 28)).alloc (.cells #[] 28)) (w.heap.size + 1) (heap_alloc2_new w.drew _ _) (by omega)
    have hbA3 := HB0.out ((w.drew.alloc (.cells #[] 28)).alloc (.cells C 28)) w.heap.size (heap_alloc2_old w.drew _ _) (by omega)
    have HBK2 : Hid (((w.drew.alloc (.cells C 28)).alloc (.cells #[] 28)).heap[w.heap.size]? = some (.cells C 28 (0, 0))) := heap_alloc2_old w.drew _ _
    have HBK3 : Hid (((w.drew.alloc (.cells #[] 28)).alloc (.cells C 28)).heap[w.heap.size + 1]? = some (.cells C 28 (0, 0))) := heap_alloc2_new w.drew _ _
    have hS1 : (w.alloc (.cells #[] 28)).rangeAt b o C.toList := World.rangeAt_alloc g1 _
    have hc1 : ¬ c = 1 := by omega
    have hlb : (1 : Int) ≤ (q.length : Int) + 1 := by omega
    have HCAL := Lib.hid hcal
    clear h r1 e1 e2 hcal hC
    go_enter Try.func19, Try.ntmps19
    go_wp2_with fail
    go_region_law (first
        | (refine step_append_buf _ rfl (.tmp 10) (.tmp 15) 32 32 rfl w.heap.size 28 i (.agg Z28) 41 96 Try.underlying32 hi hz hs hby rfl (by decide) (.slice (some ⟨w.heap.size, 0, none⟩) 0 0) 0 [] (by rfl) hbA1 _ _ _ (by rfl) (HA.out _ KA1) (by unfold maxLen; omega) (by omega) (by first | (simp; done) | (simp; omega)) ?_; intro v1 w2 hb1 hg1 ho1 hn1; have K2 : Kept (fun _ => False) w.drew w2 := KA1.grown hg1 (fun k hk => .inr (by cases hk; simp)); obtain ⟨hR2, hr2, _⟩ := HR3.out w2 K2; have c2 : w2.cell? ⟨R, 0, none⟩ = some (.slice (some ⟨b, o, none⟩) (q.length + 1) c) := (by simp [World.cell?, hR2]); clear hR2; have KB : Kept (fun _ => False) w.drew (w2.alloc (.cells C 28)) := K2.alloc _; have hbB : Buf (w2.alloc (.cells C 28)) w.heap.size 28 41 v1 (0 + q.length) ([] ++ flat q) := hb1.kept (S := fun _ => False) ((Kept.refl _ w2).alloc _) (fun _ _ h => h); have hsB := HSC.out (w2.alloc (.cells C 28)) w2.heap.size (heap_alloc_new w2 _))
        | (refine step_append_buf _ rfl (.tmp 10) (.tmp 15) 32 32 rfl w.heap.size 28 i (.agg Z28) 41 96 Try.underlying32 hi hz hs hby rfl (by decide) (.slice (some ⟨w.heap.size + 1, 0, none⟩) 0 0) 0 [] (by rfl) hbA2 _ _ _ (by rfl) (HA.out _ KA2) (by unfold maxLen; omega) (by omega) (by first | (simp; done) | (simp; omega)) ?_; intro v1 w2 hb1 hg1 ho1 hn1; have K2 : Kept (fun _ => False) w.drew w2 := KA2.grown hg1 (fun k hk => .inr (by cases hk; simp)); obtain ⟨hR2, hr2, _⟩ := HR3.out w2 K2; have c2 : w2.cell? ⟨R, 0, none⟩ = some (.slice (some ⟨b, o, none⟩) (q.length + 1) c) := (by simp [World.cell?, hR2]); clear hR2; have KB := K2; have hbB : Buf w2 w.heap.size 28 41 v1 (0 + q.length) ([] ++ flat q) := hb1; have hsB := HSC.out w2 w.heap.size ((hg1.block _ (by first | (simp; done) | (simp; omega)) (by intro e; simp [Value.ownBlock] at e)).trans HBK2.out))
        | (refine step_append_buf _ rfl (.tmp 10) (.tmp 15) 32 32 rfl w.heap.size 28 i (.agg Z28) 41 96 Try.underlying32 hi hz hs hby rfl (by decide) (.slice (some ⟨w.heap.size, 0, none⟩) 0 0) 0 [] (by rfl) hbA3 _ _ _ (by rfl) (HA.out _ KA3) (by unfold maxLen; omega) (by omega) (by first | (simp; done) | (simp; omega)) ?_; intro v1 w2 hb1 hg1 ho1 hn1; have K2 : Kept (fun _ => False) w.drew w2 := KA3.grown hg1 (fun k hk => .inr (by cases hk; simp)); obtain ⟨hR2, hr2, _⟩ := HR3.out w2 K2; have c2 : w2.cell? ⟨R, 0, none⟩ = some (.slice (some ⟨b, o, none⟩) (q.length + 1) c) := (by simp [World.cell?, hR2]); clear hR2; have KB := K2; have hbB : Buf w2 w.heap.size 28 41 v1 (0 + q.length) ([] ++ flat q) := hb1; have hsB := HSC.out w2 (w.heap.size + 1) ((hg1.block _ (by first | (simp; done) | (simp; omega)) (by intro e; simp [Value.ownBlock] at e)).trans HBK3.out))
        | (refine step_append_buf _ rfl (.tmp 16) (.tmp 23) 32 32 rfl w.heap.size 28 i (.agg Z28) 41 96 Try.underlying32 hi hz hs hby rfl (by decide) v1 (0 + q.length) ([] ++ flat q) (by rfl) hbB _ _ _ (by rfl) hsB (by unfold maxLen; omega) (by omega) (by have := KB.size; have e : w.drew.heap.size = w.heap.size := rfl; omega) ?_; intro v3 w3 hb3 hg3 ho3 hn3; have K3 : Kept (fun _ => False) w.drew w3 := KB.grown hg3 (fun k hk => .inr (hbB.lt k hk).1); obtain ⟨hR3, hr3, _⟩ := HR3.out w3 K3; have c3 : w3.cell? ⟨R, 0, none⟩ = some (.slice (some ⟨b, o, none⟩) (q.length + 1) c) := (by simp [World.cell?, hR3]); have f3 : w3.frozen? ⟨R, 0, none⟩ = false := (by simp [World.frozen?, hR3]); obtain ⟨a3, cap3, rfl, ha31, ha32⟩ := hb3.form; have HR3' := Lib.hid hR3; have HB3 := Lib.hid hb3; clear hR3 hb3))
    all_goals
      have HP := Lib.hid (HH.out.put' (q3 := q ++ [C]) (show Kept (fun _ => False) w w3 from ⟨K3.os, K3.tape, K3.output, K3.size, K3.block⟩) (by simpa [flat] using HB3.out) (by simp; omega) (fun E hE => by
        rcases List.mem_append.1 hE with h | h
        · exact HCAL.out E h
        · simp at h; subst h; exact HC.out))
      clear KA1 KA2 KA3 hbA1 hbA2 hbA3 hS1 hl hfold g1
      go_wp2_with fail
      go_ret
      obtain ⟨v', h1, h2, h3⟩ := HP.out
      exact ⟨rfl, v', by simpa using h1, .inr h2, by simpa using h3⟩
end
end Go.Proofs.Ytohoeakhnnojjaa
