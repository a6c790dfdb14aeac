/-
  Contracts of the reference's Next and Twice. Conditions: as each theorem says.
-/
import Derived.Test.YtohoeakhnnojjaaRef
namespace Go.Proofs.Ytohoeakhnnojjaa
open Go Go.RowKit Go.Conc

section
variable {w w' : World} {base R : Nat} {v : Value} {q : List (Array Value)}
set_option maxHeartbeats 2000000 in
theorem r_twice (h : IsRef w base R v q) :
    Calls Try.prog 20 #[.pointer (some ⟨R, 0, none⟩)] w fun e w' => e = .returned (.bool (twices q)) ∧ ∃ v', IsRef w' base R v' (twice q) ∧ (v' = v ∨ ∀ k, v'.ownBlock = some k → w.heap.size ≤ k) ∧ Kept (fun k => k = R) w w' := by
  have c0 := h.c0
  have hmost := h.most
  have hcap := h.cap
  obtain ⟨a, c, rfl⟩ := h.form
  have HH := Lib.hid h
  clear hcap
  cases q with
  | nil =>
    have e1 : twices [] = false := rfl
    have e2 : twice [] = [] := rfl
    rw [e1, e2]
    clear e1 e2 h
    go_enter Try.func20, Try.ntmps20
    go_wp2_with fail
    go_ret
    exact ⟨rfl, _, HH.out, .inl rfl, Kept.refl _ _⟩
  | cons C q =>
    have hC : Callish C := h.calls C (by simp)
    obtain ⟨b, o, c', e1, r1⟩ := h.rd.addr (by simp)
    simp only [Value.slice.injEq, true_and] at e1
    obtain ⟨rfl, rfl⟩ := e1
    have g1 := Rd.range h.calls r1 (k := 0) (C := C) rfl
    have hs := r_send h hC
    have e1 : twices (C :: q) = room (C :: q) := by simp [twices, room]
    have e2 : twice (C :: q) = sent (C :: q) C := by
      unfold twice sent
      simp only [List.length_cons] at hmost ⊢
      by_cases h24 : q.length + 1 < 24
      · rw [if_neg (by omega), if_pos h24]; rfl
      · rw [if_pos (by omega), if_neg h24]
    rw [e1, e2]
    rw [Nat.zero_mul, Nat.add_zero] at g1
    clear e1 e2 r1 h
    go_enter Try.func20, Try.ntmps20
    go_wp2_with (first | fail | ((with_reducible refine load28 ?_ g1 hC.size ?_); rfl))
    refine hs.mono ?_
    rintro e w1 ⟨rfl, HR⟩
    have HP := Lib.hid HR
    clear HR
    go_wp2_with fail
    go_ret
    exact ⟨rfl, HP.out⟩

theorem IsRef.tail {C : Array Value} {b o c b' o' : Nat} (h : IsRef w base R (.slice (some ⟨b, o, none⟩) (q.length + 1) c) (C :: q)) (hb : b' = b) (ho : q = [] ∨ o' = o + 41) {w3 : World} (k3 : Kept (fun _ => False) w w3) :
    IsRef (w3.setCell ⟨R, 0, none⟩ (.slice (some ⟨b', o', none⟩) q.length (c - 1))) base R (.slice (some ⟨b', o', none⟩) q.length (c - 1)) q ∧ Kept (fun k => k = R) w (w3.setCell ⟨R, 0, none⟩ (.slice (some ⟨b', o', none⟩) q.length (c - 1))) := by
  subst hb
  have KS : Kept (fun k => k = R) w3 (w3.setCell ⟨R, 0, none⟩ (.slice (some ⟨b', o', none⟩) q.length (c - 1))) := (Kept.refl (fun k => k = R) w3).setCell (p := ⟨R, 0, none⟩) (.inl rfl) _
  have hb3 : w3.heap[R]? = _ := (k3.block R h.lt id).trans h.block
  have hcal : ∀ E ∈ q, Callish E := fun E hE => h.calls E (List.mem_cons_of_mem _ hE)
  have hne : b' ≠ R := fun e => h.ne (by rw [e]; rfl)
  have hbl := h.own b' rfl
  have hcap := h.cap _ _ _ rfl
  have hmost := h.most
  simp only [List.length_cons] at hmost
  refine ⟨⟨setCell_block hb3 _, h.lo, ?_, by omega, hcal, fun k e => ?_, fun e => hne (by cases e; rfl), fun a n c' e => by cases e; omega⟩, (k3.mono fun _ _ h => h.elim).trans KS⟩
  · refine ⟨flat_length hcal, _, _, rfl, .inr ⟨_, rfl, fun j u hu => ?_⟩⟩
    rcases ho with h0 | h0
    · subst h0; simp [flat] at hu
    · subst h0
      rw [Addr.add_none]
      obtain ⟨b2, o2, c2, e2, r2⟩ := h.rd.addr (by simp)
      simp only [Value.slice.injEq, Option.some.injEq, Addr.mk.injEq, and_true] at e2
      obtain ⟨⟨rfl, rfl⟩, _⟩ := e2
      have hsz := (h.calls C (by simp)).size
      have := r2 (41 + j) u (by
        simp only [flat, List.flatMap_cons]
        rw [List.getElem?_append_right (by simp [hsz])]
        simpa [hsz, flat] using hu)
      rw [← Nat.add_assoc] at this
      have hlt := World.block_lt_of_cell? w _ this
      exact (((k3.mono fun _ _ h => h.elim).trans KS).cell (p := ⟨b', o + 41 + j, none⟩) hlt hne).trans this
  · cases e
    exact ⟨hbl.1, Nat.lt_of_lt_of_le hbl.2 ((k3.mono fun _ _ h => h.elim).trans KS).size⟩

set_option maxHeartbeats 2000000 in
theorem r_next (h : IsRef w base R v q) :
    Calls Try.prog 18 #[.pointer (some ⟨R, 0, none⟩)] w fun e w' => e = .returned (.tuple #[.agg (firstOf q), .bool (some1 q)]) ∧ ∃ v', IsRef w' base R v' q.tail ∧ (v'.ownBlock = v.ownBlock ∨ ∀ k, v'.ownBlock = some k → w.heap.size ≤ k) ∧ Kept (fun k => k = R) w w' := by
  have c0 := h.c0
  have hmost := h.most
  have hR := h.lt
  have hcap := h.cap
  obtain ⟨a, c, rfl⟩ := h.form
  have hqc : q.length ≤ c := hcap _ _ _ rfl
  have HH := Lib.hid h
  have hn1 := heap_alloc_new w (.cells Z28 28)
  clear hcap
  cases q with
  | nil =>
    clear h
    go_enter Try.func18, Try.ntmps18
    go_wp2_with (first | fail | (with_reducible refine alloc28 ?_) | (with_reducible refine build28 ?_) | ((with_reducible refine store28 (C := Z28) ?_ ?_ hn1 rfl Z28_callish ?_); rfl; rfl))
    have k1 := ((Kept.refl (fun _ => False) w).alloc (.cells Z28 28)).setRow (g := w.heap.size) (Nat.le_refl _) Z28
    exact bodyPost_ret (results_next rfl _ _ _ (setRow_heap _ _ _ _ _ _ hn1) rfl rfl) rfl ⟨rfl, _, HH.out.new k1, .inl rfl, k1.mono fun _ _ h => h.elim⟩
  | cons C q =>
    have hC : Callish C := h.calls C (by simp)
    obtain ⟨b, o, c', e1, r1⟩ := h.rd.addr (by simp)
    simp only [Value.slice.injEq, true_and] at e1
    obtain ⟨rfl, rfl⟩ := e1
    have g1 := Rd.range h.calls r1 (k := 0) (C := C) rfl
    rw [Nat.zero_mul, Nat.add_zero] at g1
    have g2 := World.rangeAt_alloc g1 (.cells Z28 28)
    have hn2 : ((w.alloc (.cells Z28 28)).alloc (.cells Z28 28)).heap[w.heap.size + 1]? = some (.cells Z28 28 (0, 0)) := heap_alloc2_new _ _ _
    have hn20 : ((w.alloc (.cells Z28 28)).alloc (.cells Z28 28)).heap[w.heap.size]? = some (.cells Z28 28 (0, 0)) := heap_alloc2_old _ _ _
    have hn3 := setRow_heap _ _ _ C _ _ hn2
    have hn30 : (((w.alloc (.cells Z28 28)).alloc (.cells Z28 28)).setRow (w.heap.size + 1) C).heap[w.heap.size]? = some (.cells Z28 28 (0, 0)) := by rw [setRow_other _ _ _ _ (by omega)]; exact hn20
    have k3 : Kept (fun _ => False) w (((w.alloc (.cells Z28 28)).alloc (.cells Z28 28)).setRow (w.heap.size + 1) C) := (((Kept.refl _ w).alloc _).alloc _).setRow (by omega) _
    have hb3 : (((w.alloc (.cells Z28 28)).alloc (.cells Z28 28)).setRow (w.heap.size + 1) C).heap[R]? = _ := (k3.block R hR id).trans h.block
    have c3 : (((w.alloc (.cells Z28 28)).alloc (.cells Z28 28)).setRow (w.heap.size + 1) C).cell? ⟨R, 0, none⟩ = some (.slice (some ⟨b, o, none⟩) (q.length + 1) c) := by simp [World.cell?, hb3]
    have f3 : (((w.alloc (.cells Z28 28)).alloc (.cells Z28 28)).setRow (w.heap.size + 1) C).frozen? ⟨R, 0, none⟩ = false := by simp [World.frozen?, hb3]
    have HN3 := Lib.hid hn3
    have HN30 := Lib.hid hn30
    have HK3 := Lib.hid k3
    have hcc : 0 < c := by simp at hqc; omega
    have HT : Hid (∀ (o' : Nat), (q = [] ∨ o' = o + 41) → IsRef ((((w.alloc (.cells Z28 28)).alloc (.cells Z28 28)).setRow (w.heap.size + 1) C).setCell ⟨R, 0, none⟩ (.slice (some ⟨b, o', none⟩) q.length (c - 1))) base R (.slice (some ⟨b, o', none⟩) q.length (c - 1)) q ∧
      Kept (fun k => k = R) w ((((w.alloc (.cells Z28 28)).alloc (.cells Z28 28)).setRow (w.heap.size + 1) C).setCell ⟨R, 0, none⟩ (.slice (some ⟨b, o', none⟩) q.length (c - 1)))) := fun o' ho => h.tail rfl ho k3
    have HW4 : Hid (∀ u : Value, ((((w.alloc (.cells Z28 28)).alloc (.cells Z28 28)).setRow (w.heap.size + 1) C).setCell ⟨R, 0, none⟩ u).heap[w.heap.size + 1]? = some (.cells C 28 (0, 0)) ∧ ((((w.alloc (.cells Z28 28)).alloc (.cells Z28 28)).setRow (w.heap.size + 1) C).setCell ⟨R, 0, none⟩ u).heap[w.heap.size]? = some (.cells Z28 28 (0, 0))) := fun u =>
      ⟨(setCell_heap_other _ ⟨R, 0, none⟩ u _ (by show ¬ _ = R; omega)).trans hn3, (setCell_heap_other _ ⟨R, 0, none⟩ u _ (by show ¬ _ = R; omega)).trans hn30⟩
    clear h r1 g1 hn3 hn30 hb3 k3 hn20 hn1
    have HFin : Hid (∀ (o' : Nat), (q = [] ∨ o' = o + 41) → ∃ v', IsRef (((((w.alloc (.cells Z28 28)).alloc (.cells Z28 28)).setRow (w.heap.size + 1) C).setCell ⟨R, 0, none⟩ (.slice (some ⟨b, o', none⟩) q.length (c - 1))).setRow w.heap.size C) base R v' q ∧ (v'.ownBlock = (Value.slice (some ⟨b, o, none⟩) (q.length + 1) c).ownBlock ∨ ∀ k, v'.ownBlock = some k → w.heap.size ≤ k) ∧
      Kept (fun k => k = R) w (((((w.alloc (.cells Z28 28)).alloc (.cells Z28 28)).setRow (w.heap.size + 1) C).setCell ⟨R, 0, none⟩ (.slice (some ⟨b, o', none⟩) q.length (c - 1))).setRow w.heap.size C)) := fun o' ho => by
      obtain ⟨h1, h2⟩ := HT.out o' ho
      have hbw := (HH.out.own b rfl).2
      refine ⟨_, h1.kept (S := fun k => k = w.heap.size) ?_ (by show ¬ R = _; omega) (fun k e e' => by cases e; have : b = w.heap.size := e'; omega), .inl rfl, h2.setRow (Nat.le_refl _) _⟩
      exact ⟨rfl, rfl, rfl, by simp [World.setRow], fun k _ hs => setRow_other _ _ _ _ hs⟩
    by_cases hc1 : c = 1
    · subst hc1
      have hq0 : q = [] := List.eq_nil_of_length_eq_zero (by simp only [List.length_cons] at hqc; omega)
      have HQ0 := Lib.hid hq0
      clear hq0 HT
      go_enter Try.func18, Try.ntmps18
      go_wp2_with (first | fail | (with_reducible refine alloc28 ?_) | ((with_reducible refine load28 ?_ g2 hC.size ?_); rfl) | ((with_reducible refine store28 (C := C) ?_ ?_ (heap_alloc_new (w.alloc (.cells Z28 28)) (.cells Z28 28)) rfl hC ?_); rfl; rfl) | ((with_reducible refine load28 ?_ (range_row (HW4.out _).1) hC.size ?_); rfl) | ((with_reducible refine store28 (C := C) ?_ ?_ (HW4.out _).2 rfl hC ?_); rfl; rfl))
      exact bodyPost_ret (results_next rfl _ _ _ (setRow_heap _ _ _ _ _ _ (HW4.out _).2) hC.size rfl) rfl ⟨rfl, HFin.out o (.inl HQ0.out)⟩
    · clear HT
      go_enter Try.func18, Try.ntmps18
      go_wp2_with (first | fail | (with_reducible refine alloc28 ?_) | ((with_reducible refine load28 ?_ g2 hC.size ?_); rfl) | ((with_reducible refine store28 (C := C) ?_ ?_ (heap_alloc_new (w.alloc (.cells Z28 28)) (.cells Z28 28)) rfl hC ?_); rfl; rfl) | ((with_reducible refine load28 ?_ (range_row (HW4.out _).1) hC.size ?_); rfl) | ((with_reducible refine store28 (C := C) ?_ ?_ (HW4.out _).2 rfl hC ?_); rfl; rfl))
      exact bodyPost_ret (results_next rfl _ _ _ (setRow_heap _ _ _ _ _ _ (HW4.out _).2) hC.size rfl) rfl ⟨rfl, HFin.out (o + 41) (.inr rfl)⟩
end
end Go.Proofs.Ytohoeakhnnojjaa
