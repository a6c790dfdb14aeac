/-
  Contracts of the reference's post. Conditions: as each theorem says.
-/
import Derived.Test.YtohoeakhnnojjaaAlive
import Derived.Deep.RegionHeld3
import Derived.Deep.RegionLaw
namespace Go.Proofs.Ytohoeakhnnojjaa
open Go Go.RowKit Go.Conc

theorem fold28 {C : Array Value} (hC : C.size = 41) : Array.foldl (fun (cs : Array Value) (x : Value × Nat) => cs.setIfInBounds x.snd x.fst) Z28 C.zipIdx 0 41 = C := by
  have := Great.fill_whole (s := 41) (by decide) [.agg C] Z28 (by simp [Value.cells, hC]) rfl
  have hz : Z28.size = 41 := rfl
  simp [Instr.fill, Value.cells, hC, hz] at this
  exact this
theorem oneCell_flat {q : List (Array Value)} (hq : ∀ C ∈ q, Callish C) : ∀ u ∈ flat q, u.oneCell' = true := by
  intro u hu
  obtain ⟨C, hC, hu⟩ := List.mem_flatMap.1 hu
  exact Array.all_eq_true_iff_forall_mem.1 (hq C hC).one u (by simpa using hu)

/-- A load of a call, folded: the walk is not to open it cell by cell. -/
noncomputable def load28Of (v : Value) : Sem Value := Instr.loadAt 28 v
theorem load28_fold (v : Value) : Instr.loadAt 28 v = load28Of v := rfl
theorem load28_of {w : World} {g o : Nat} {C : Array Value} (hr : w.rangeAt g o C.toList) (hC : C.size = 41) : (load28Of (.pointer (some ⟨g, o, none⟩))).run Try.prog w = .ok (.agg C) w := by
  have := run_loadAt_mid (P := Try.prog) w g o 28 C.toList _ hr Try.underlying28 rfl (by rw [Try.isz28]; simp [hC])
  rwa [Array.toArray_toList] at this
attribute [local go_sem ↓] load28_fold

/-- THE REFERENCE's POST behind the address ⟨R, 0⟩: its slice v holds the calls q. -/
structure IsRef (w : World) (base R : Nat) (v : Value) (q : List (Array Value)) : Prop where
  block : w.heap[R]? = some (.cells #[v] 37 (0, 0))
  lo : base ≤ R
  rd : Rd w 41 v q.length (flat q)
  most : q.length ≤ 24
  calls : ∀ C ∈ q, Callish C
  own : ∀ k, v.ownBlock = some k → base ≤ k ∧ k < w.heap.size
  ne : v.ownBlock ≠ some R
  cap : ∀ a n c, v = .slice a n c → n ≤ c

section
variable {w w' : World} {base R : Nat} {v : Value} {q : List (Array Value)}
theorem IsRef.lt (h : IsRef w base R v q) : R < w.heap.size := (Array.getElem?_eq_some_iff.1 h.block).1
theorem IsRef.c0 (h : IsRef w base R v q) : w.cell? ⟨R, 0, none⟩ = some v := by simp [World.cell?, h.block]
theorem IsRef.form (h : IsRef w base R v q) : ∃ a c, v = .slice a q.length c := by obtain ⟨_, a, c, hv, _⟩ := h.rd; exact ⟨a, c, hv⟩
theorem IsRef.kept {S : Nat → Prop} (h : IsRef w base R v q) (hk : Kept S w w') (h0 : ¬ S R) (h1 : ∀ k, v.ownBlock = some k → ¬ S k) : IsRef w' base R v q :=
  ⟨(hk.block R h.lt h0).trans h.block, h.lo, h.rd.kept hk h1, h.most, h.calls, fun k hk' => ⟨(h.own k hk').1, Nat.lt_of_lt_of_le (h.own k hk').2 hk.size⟩, h.ne, h.cap⟩
theorem IsRef.new (h : IsRef w base R v q) (hk : Kept (fun _ => False) w w') : IsRef w' base R v q := h.kept hk id (fun _ _ h => h)

theorem IsRef.put (h : IsRef w base R v q) {w3 : World} {v3 : Value} {q3 : List (Array Value)} (k3 : Kept (fun _ => False) w w3) (hb : Buf w3 (w.heap.size + 1) 28 41 v3 q3.length (flat q3)) (hm : q3.length ≤ 24) (hc : ∀ C ∈ q3, Callish C) :
    ∃ v', IsRef (w3.setCell ⟨R, 0, none⟩ v3) base R v' q3 ∧ (v' = v ∨ ∀ k, v'.ownBlock = some k → w.heap.size ≤ k) ∧ Kept (fun k => k = R) w (w3.setCell ⟨R, 0, none⟩ v3) := by
  have hR := h.lt
  have hlo := h.lo
  have ho := hb.lt
  have hne : v3.ownBlock ≠ some R := fun e => by have := (ho R e).1; omega
  have KS : Kept (fun k => k = R) w3 (w3.setCell ⟨R, 0, none⟩ v3) := (Kept.refl (fun k => k = R) w3).setCell (p := ⟨R, 0, none⟩) (.inl rfl) v3
  have hb3 : w3.heap[R]? = _ := (k3.block R hR id).trans h.block
  refine ⟨v3, ⟨setCell_block hb3 _, hlo, hb.rd.kept KS (fun k e e' => hne (by rw [e, show k = R from e'])), hm, hc, fun k e => ?_, hne, fun a n c e => ?_⟩, .inr fun k e => ?_, (k3.mono fun _ _ h => h.elim).trans KS⟩
  · have h1 := ho k e
    have h2 := KS.size
    omega
  · obtain ⟨a', c', e', h1, _⟩ := hb.form
    rw [e'] at e; injection e with _ e2 e3; omega
  · have := (ho k e).1; omega

set_option maxHeartbeats 1000000 in
theorem r_send (h : IsRef w base R v q) {C : Array Value} (hC : Callish C) :
    Calls Try.prog 17 #[.pointer (some ⟨R, 0, none⟩), .agg C] w fun e w' => e = .returned (.bool (room q)) ∧ ∃ v', IsRef w' base R v' (sent q C) ∧ (v' = v ∨ ∀ k, v'.ownBlock = some k → w.heap.size ≤ k) ∧ Kept (fun k => k = R) w w' := by
  obtain ⟨i, hi, hs, hby, hz⟩ := info28'
  have c0 := h.c0
  have hR := h.lt
  have hmost := h.most
  obtain ⟨a, c, rfl⟩ := h.form
  have HH := Lib.hid h
  by_cases hq : q.length < 24
  · have e1 : room q = true := by simp [room, hq]
    have e2 : sent q C = q ++ [C] := by simp [sent, hq]
    rw [e1, e2]
    have hfold := fold28 hC.size
    unfold Z28 at hfold
    have hsz := hC.size
    have HC := Lib.hid hC
    clear e1 e2 hC h
    have hS0 : (w.alloc (.cells C 28)).drew.rangeAt w.heap.size 0 C.toList := range_row (heap_alloc_new w (.cells C 28))
    have hW0 : Kept (fun _ => False) w (w.alloc (.cells C 28)) := (Kept.refl _ w).alloc _
    have hWs : (w.alloc (.cells C 28)).heap.size = w.heap.size + 1 := by simp
    have HA : Hid (∀ w', Kept (fun _ => False) (w.alloc (.cells C 28)).drew w' → Src Try.prog 41 32 (.slice a q.length c) q.length (flat q) w') := fun w' k =>
      (HH.out.new (hW0.trans (show Kept (fun _ => False) (w.alloc (.cells C 28)) w' from ⟨k.os, k.tape, k.output, k.size, k.block⟩))).rd.src Try.underlying32 (oneCell_flat HH.out.calls)
    have HSC : Hid (∀ (w' : World) (g : Nat), w'.heap[g]? = some (.cells C 28 (0, 0)) → Src Try.prog 41 32 (.slice (some ⟨g, 0, none⟩) 1 1) 1 C.toList w') := fun w' g hg => by
      have h := Rd.of_block hg 41 1 1 (by rw [hsz]; decide)
      rw [List.take_of_length_le (by simp [hsz])] at h
      exact h.src Try.underlying32 (fun u hu => Array.all_eq_true_iff_forall_mem.1 HC.out.one u (by simpa using hu))
    have HB0 : Hid (∀ (w' : World) (g : Nat), w'.heap[g]? = some (.cells #[] 28 (0, 0)) → w.heap.size + 1 ≤ g → Buf w' (w.heap.size + 1) 28 41 (.slice (some ⟨g, 0, none⟩) 0 0) 0 []) := fun w' g hg hl =>
      ⟨rfl, .inr ⟨g, 0, #[], rfl, hl, hg, Nat.le_refl _, by decide, by simp, rfl⟩⟩
    have HSW : Hid (∀ w', Kept (fun _ => False) (w.alloc (.cells C 28)).drew w' → w'.rangeAt w.heap.size 0 C.toList) := fun w' k j u hu =>
      (k.cell (p := ⟨w.heap.size, 0 + j, none⟩) (by show w.heap.size < (w.alloc _).heap.size; simp) id).trans (hS0 j u hu)
    have hl : ∀ w' : World, w'.rangeAt w.heap.size 0 C.toList → (load28Of (.pointer (some ⟨w.heap.size, 0, none⟩))).run Try.prog w' = .ok (.agg C) w' := fun w' hr => load28_of hr hsz
    have KA1 : Kept (fun _ => False) (w.alloc (.cells C 28)).drew ((w.alloc (.cells C 28)).drew.alloc (.cells #[] 28)) := (Kept.refl _ _).alloc _
    have KA2 : Kept (fun _ => False) (w.alloc (.cells C 28)).drew (((w.alloc (.cells C 28)).drew.alloc (.cells C 28)).alloc (.cells #[] 28)) := ((Kept.refl _ _).alloc _).alloc _
    have KA3 : Kept (fun _ => False) (w.alloc (.cells C 28)).drew (((w.alloc (.cells C 28)).drew.alloc (.cells #[] 28)).alloc (.cells C 28)) := ((Kept.refl _ _).alloc _).alloc _
    have hWd : (w.alloc (.cells C 28)).drew.heap.size = w.heap.size + 1 := hWs
    have hbA1 := HB0.out ((w.alloc (.cells C 28)).drew.alloc (.cells #[] 28)) (w.heap.size + 1) (by rw [← hWd]; exact heap_alloc_new _ _) (by omega)
    have hbA2 := HB0.out (((w.alloc (.cells C 28)).drew.alloc (.cells C 28)).alloc (.cells #[] 28)) (w.heap.size + 1 + 1) (by rw [← hWd]; exact heap_alloc2_new _ _ _) (by omega)
    have hbA3 := HB0.out (((w.alloc (.cells C 28)).drew.alloc (.cells #[] 28)).alloc (.cells C 28)) (w.heap.size + 1) (by rw [← hWd]; exact heap_alloc2_old _ _ _) (by omega)
    have hbk2 : (((w.alloc (.cells C 28)).drew.alloc (.cells C 28)).alloc (.cells #[] 28)).heap[w.heap.size + 1]? = some (.cells C 28 (0, 0)) := by rw [← hWd]; exact heap_alloc2_old _ _ _
    have hbk3 : (((w.alloc (.cells C 28)).drew.alloc (.cells #[] 28)).alloc (.cells C 28)).heap[w.heap.size + 1 + 1]? = some (.cells C 28 (0, 0)) := by rw [← hWd]; exact heap_alloc2_new _ _ _
    have HR3 : Hid (∀ w3, Kept (fun _ => False) (w.alloc (.cells C 28)).drew w3 → w3.heap[R]? = some (.cells #[.slice a q.length c] 37 (0, 0)) ∧ ∀ v, (w3.setCell ⟨R, 0, none⟩ v).rangeAt w.heap.size 0 C.toList) := fun w3 k =>
      ⟨(k.block R (by rw [hWd]; omega) id).trans ((Below.heap_alloc w _ R hR).trans HH.out.block), fun v j u hu => by
        rw [World.cell?_setCell_other _ _ _ _ (by intro e; simp only [Addr.mk.injEq] at e; omega)]
        exact HSW.out w3 k j u hu⟩
    have c01 : ((w.alloc (.cells C 28)).alloc (.cells C 28)).cell? ⟨R, 0, none⟩ = some (.slice a q.length c) := (World.cell?_of_block (a := ⟨R, 0, none⟩) ((((Kept.refl (fun _ => False) w).alloc _).alloc _).block R hR id)).trans c0
    have c02 : (((w.alloc (.cells C 28)).alloc (.cells C 28)).alloc (.cells #[] 28)).cell? ⟨R, 0, none⟩ = some (.slice a q.length c) := (World.cell?_of_block (a := ⟨R, 0, none⟩) (((((Kept.refl (fun _ => False) w).alloc _).alloc _).alloc _).block R hR id)).trans c0
    have c03 : (((w.alloc (.cells C 28)).alloc (.cells #[] 28)).alloc (.cells C 28)).cell? ⟨R, 0, none⟩ = some (.slice a q.length c) := (World.cell?_of_block (a := ⟨R, 0, none⟩) (((((Kept.refl (fun _ => False) w).alloc _).alloc _).alloc _).block R hR id)).trans c0
    have hS1 : (w.alloc (.cells C 28)).rangeAt w.heap.size 0 C.toList := hS0
    have hS2 : ((w.alloc (.cells C 28)).alloc (.cells #[] 28)).rangeAt w.heap.size 0 C.toList := World.rangeAt_alloc hS1 _
    have HWd := Lib.hid hWd
    have HBK2 := Lib.hid hbk2
    have HBK3 := Lib.hid hbk3
    clear hWs hWd hbk2 hbk3
    go_enter Try.func17, Try.ntmps17
    go_wp2_with fail
    go_region_law (first
        | (refine step_append_buf _ rfl (.tmp 12) (.tmp 16) 32 32 rfl (w.heap.size + 1) 28 i (.agg Z28) 41 96 Try.underlying32 hi hz hs hby rfl (by decide) (.slice (some ⟨w.heap.size + 1, 0, none⟩) 0 0) 0 [] (by rfl) hbA1 _ _ _ (by rfl) (HA.out _ KA1) (by unfold maxLen; omega) (by omega) (by simp) ?_; intro v1 w2 hb1 hg1 ho1 hn1; have K2 : Kept (fun _ => False) (w.alloc (.cells C 28)).drew w2 := KA1.grown hg1 (fun k hk => .inr (by cases hk; simp)); have hSr2 := HSW.out w2 K2; have KB : Kept (fun _ => False) (w.alloc (.cells C 28)).drew (w2.alloc (.cells C 28)) := K2.alloc _; have hbB : Buf (w2.alloc (.cells C 28)) (w.heap.size + 1) 28 41 v1 (0 + q.length) ([] ++ flat q) := hb1.kept (S := fun _ => False) ((Kept.refl _ w2).alloc _) (fun _ _ h => h); have hsB := HSC.out (w2.alloc (.cells C 28)) w2.heap.size (heap_alloc_new w2 _))
        | (refine step_append_buf _ rfl (.tmp 12) (.tmp 16) 32 32 rfl (w.heap.size + 1) 28 i (.agg Z28) 41 96 Try.underlying32 hi hz hs hby rfl (by decide) (.slice (some ⟨w.heap.size + 1 + 1, 0, none⟩) 0 0) 0 [] (by rfl) hbA2 _ _ _ (by rfl) (HA.out _ KA2) (by unfold maxLen; omega) (by omega) (by first | (simp; done) | (simp; omega)) ?_; intro v1 w2 hb1 hg1 ho1 hn1; have KB : Kept (fun _ => False) (w.alloc (.cells C 28)).drew w2 := KA2.grown hg1 (fun k hk => .inr (by cases hk; simp)); have hSr2 := HSW.out w2 KB; have hbB : Buf w2 (w.heap.size + 1) 28 41 v1 (0 + q.length) ([] ++ flat q) := hb1; have hsB := HSC.out w2 (w.heap.size + 1) ((hg1.block _ (by simp) (by simp [Value.ownBlock])).trans HBK2.out))
        | (refine step_append_buf _ rfl (.tmp 12) (.tmp 16) 32 32 rfl (w.heap.size + 1) 28 i (.agg Z28) 41 96 Try.underlying32 hi hz hs hby rfl (by decide) (.slice (some ⟨w.heap.size + 1, 0, none⟩) 0 0) 0 [] (by rfl) hbA3 _ _ _ (by rfl) (HA.out _ KA3) (by unfold maxLen; omega) (by omega) (by first | (simp; done) | (simp; omega)) ?_; intro v1 w2 hb1 hg1 ho1 hn1; have KB : Kept (fun _ => False) (w.alloc (.cells C 28)).drew w2 := KA3.grown hg1 (fun k hk => .inr (by cases hk; simp)); have hSr2 := HSW.out w2 KB; have hbB : Buf w2 (w.heap.size + 1) 28 41 v1 (0 + q.length) ([] ++ flat q) := hb1; have hsB := HSC.out w2 (w.heap.size + 1 + 1) ((hg1.block _ (by simp) (by simp [Value.ownBlock])).trans HBK3.out))
        | (refine step_append_buf _ rfl (.tmp 17) (.tmp 19) 32 32 rfl (w.heap.size + 1) 28 i (.agg Z28) 41 96 Try.underlying32 hi hz hs hby rfl (by decide) v1 (0 + q.length) ([] ++ flat q) (by rfl) hbB _ _ _ (by rfl) hsB (by unfold maxLen; omega) (by omega) (by have := KB.size; have e := HWd.out; omega) ?_; intro v3 w3 hb3 hg3 ho3 hn3; have K3 : Kept (fun _ => False) (w.alloc (.cells C 28)).drew w3 := KB.grown hg3 (fun k hk => .inr (by have := (hbB.lt k hk).1; have e := HWd.out; omega)); have hSr3 := HSW.out w3 K3; obtain ⟨hR3, hSr4⟩ := HR3.out w3 K3; have c3 : w3.cell? ⟨R, 0, none⟩ = some (.slice a q.length c) := (by simp [World.cell?, hR3]); have f3 : w3.frozen? ⟨R, 0, none⟩ = false := (by simp [World.frozen?, hR3]); obtain ⟨a3, cap3, rfl, ha31, ha32⟩ := hb3.form; have HR3' := Lib.hid hR3; have HB3 := Lib.hid hb3; clear hR3 hb3))
    all_goals
      have HP := Lib.hid (HH.out.put (q3 := q ++ [C]) (hW0.trans (show Kept (fun _ => False) (w.alloc (.cells C 28)) w3 from ⟨K3.os, K3.tape, K3.output, K3.size, K3.block⟩)) (by simpa [flat] using HB3.out) (by simp; omega) (fun E hE => by
        rcases List.mem_append.1 hE with h | h
        · exact HH.out.calls E h
        · simp at h; subst h; exact HC.out))
      clear KA1 KA2 KA3 hbA1 hbA2 hbA3 c01 c02 c03 hS1 hS2 hl hfold hS0
      go_wp2_with fail
      go_ret
      exact ⟨rfl, by simpa using HP.out⟩
  · have e1 : room q = false := by simp [room, hq]
    have e2 : sent q C = q := by simp [sent, hq]
    rw [e1, e2]
    have hsz := hC.size
    clear e1 e2 hC h
    go_enter Try.func17, Try.ntmps17
    go_wp2_with fail
    go_ret
    exact ⟨rfl, _, HH.out.new ((Kept.refl _ w).alloc _), .inl rfl, (Kept.refl _ w).alloc _⟩
end
end Go.Proofs.Ytohoeakhnnojjaa
