/-
  Contracts of the post's Late, round, List, Twice. Conditions: as each theorem says.
-/
import Derived.Test.YtohoeakhnnojjaaPost
namespace Go.Proofs.Ytohoeakhnnojjaa
open Go Go.RowKit Go.Conc

/-- What lies there behind Late. -/
def late (q : List (Array Value)) : List (Array Value) := if q.length < 2 then q else q.tail ++ [firstOf q]
def lates (q : List (Array Value)) : Bool := decide (2 ≤ q.length)
theorem firstOf_callish {q : List (Array Value)} (h : ∀ C ∈ q, Callish C) : Callish (firstOf q) := by
  cases q with
  | nil => exact Z28_callish
  | cons C q => exact h C (by simp)

theorem f_nilLate (w : World) : Calls Try.prog 12 #[.pointer none] w fun e w' => e = .returned (.bool false) ∧ w = w' := by
  go_enter Try.func12, Try.ntmps12
  go_wp2_with fail
  refine (f_nilLen w).mono ?_
  rintro e w1 ⟨rfl, rfl⟩
  go_wp2_with fail
  go_ret
  exact ⟨rfl, rfl⟩

set_option maxHeartbeats 4000000 in
theorem f_late (base D K : Nat) (q : List (Array Value)) (w : World) (h : IsPost w base D K q) (hB : base ≤ w.heap.size) :
    Calls Try.prog 12 #[.pointer (some ⟨D, 0, none⟩)] w fun e w' => e = .returned (.bool (lates q)) ∧
      IsPost w' base D K (late q) ∧ Kept (fun k => k = K) w w' := by
  have hmost := h.most
  by_cases hq : q.length < 2
  · have e1 : lates q = false := by simp [lates]; omega
    have e2 : late q = q := by simp [late, hq]
    rw [e1, e2]
    clear e1 e2
    go_enter Try.func12, Try.ntmps12
    go_wp2_with fail
    refine (f_len base D K q w h).mono ?_
    rintro e w1 ⟨rfl, rfl⟩
    go_wp2_with fail
    go_ret
    exact ⟨rfl, h, Kept.refl _ _⟩
  · have e1 : lates q = true := by simp [lates]; omega
    have e2 : late q = q.tail ++ [firstOf q] := by simp [late, hq]
    have hr : room q.tail = true := by simp [room]; omega
    have hs : sent q.tail (firstOf q) = q.tail ++ [firstOf q] := by simp [sent]; omega
    have hC := firstOf_callish h.call
    rw [e1, e2, ← hs, ← hr]
    have HR := Lib.hid hr
    clear e1 e2 hr hs
    have hd : (decide (q.length < 2)) = false := by simpa using hq
    go_enter Try.func12, Try.ntmps12
    go_wp2_with fail
    refine (f_len base D K q w h).mono ?_
    rintro e w1 ⟨rfl, rfl⟩
    go_wp2_with fail
    refine (f_next base D K q w h hB).mono ?_
    rintro e w1 ⟨rfl, h1, k1⟩
    obtain ⟨C, e3⟩ : ∃ C, firstOf q = C := ⟨_, rfl⟩
    rw [e3] at hC
    rw [e3]
    have hn1 := heap_alloc_new w1 (.cells Z28 28)
    have hr1 := range_row (setRow_heap _ _ _ C _ _ hn1)
    have hk2 := ((Kept.refl (fun _ => False) w1).alloc (.cells Z28 28)).setRow (g := w1.heap.size) (Nat.le_refl _) C
    have h2 := h1.kept hk2 id id
    go_wp2_with (first | fail | (with_reducible refine alloc28 ?_) | ((with_reducible refine load28 ?_ hr1 hC.size ?_); rfl) | ((with_reducible refine store28 (C := C) ?_ ?_ hn1 rfl hC ?_); rfl; rfl))
    have HE := Lib.hid e3
    clear e3
    refine (f_send base D K q.tail C _ h2 hC (by have := hk2.size; have := k1.size; omega)).mono ?_
    rintro e w3 ⟨rfl, h3, k3⟩
    go_wp2_with fail
    go_ret
    rw [HE.out]
    exact ⟨rfl, h3, (k1.trans (hk2.mono (fun _ _ h => h.elim))).trans k3⟩

theorem turn_first {q : List (Array Value)} {k : Nat} (h : k < q.length) : firstOf (q.drop k ++ q.take k) = q[k] ∧ (q.drop k ++ q.take k).tail = q.drop (k + 1) ++ q.take k := by
  rw [List.drop_eq_getElem_cons h]
  exact ⟨rfl, rfl⟩
theorem turn_sent {q : List (Array Value)} {k : Nat} (h : k < q.length) (hm : q.length ≤ 24) : sent (q.drop (k + 1) ++ q.take k) q[k] = q.drop (k + 1) ++ q.take (k + 1) := by
  have hl : (q.drop (k + 1) ++ q.take k).length < 24 := by simp; omega
  rw [sent, if_pos hl, List.append_assoc, List.take_append_getElem h]

set_option maxHeartbeats 4000000 in
/-- A round's closure: the function F with what it has captured; J speaks of what it keeps, after i rounds. -/
theorem f_round (w : World) (base D K : Nat) (q : List (Array Value)) (F : Nat) (xs : Array Value) (hF : ∀ (args : Array Value) (w : World), (callFunc F args).run Try.prog w = .ok (.enter F args) w) (S : Nat → Prop) (hS : Hid (¬ S D ∧ ¬ S K ∧ ∀ k, S k → k < w.heap.size)) (J : Nat → Value → World → Prop) (s0 : Value) (h : IsPost w base D K q) (hB : base ≤ w.heap.size) (h0 : J 0 s0 w)
    (hJ : Hid (∀ (i : Nat) (s : Value) (a b : World), J i s a → Kept (fun k => k = K) a b → J i s b))
    (hO : Hid (∀ (i : Nat) (s : Value) (a : World), J i s a → ∀ k, s.ownBlock = some k → w.heap.size ≤ k ∧ k < a.heap.size))
    (hsee : Hid (∀ (i : Nat) (s : Value) (C : Array Value) (w : World), q[i]? = some C → Callish C → J i s w → Calls Try.prog F (#[.int .i64 i, .agg C] ++ xs) w fun e w' => e = .returned (.tuple #[]) ∧ ∃ s', J (i + 1) s' w' ∧ Kept (fun k => S k ∨ s.ownBlock = some k) w w')) :
    Calls Try.prog 22 #[.pointer (some ⟨D, 0, none⟩), .func (.func F) #[] xs] w fun e w' => e = .returned (.tuple #[]) ∧ IsPost w' base D K q ∧ (∃ s, J q.length s w') ∧ Kept (fun k => k = K ∨ S k) w w' := by
  have hmost := h.most
  go_enter Try.func22, Try.ntmps22
  go_wp2_with fail
  refine (f_len base D K q w h).mono ?_
  rintro e w1 ⟨rfl, rfl⟩
  go_wp2_with fail
  go_loopw [9] (fun i wr => ∃ (k : Nat) (s : Value), k ≤ q.length ∧ i = .int .i64 k ∧ IsPost wr base D K (q.drop k ++ q.take k) ∧ J k s wr ∧ Kept (fun k => k = K ∨ S k) w wr) (fun i _ => q.length - (intOf i).toNat)
  case atStart => exact ⟨0, s0, Nat.zero_le _, rfl, by simpa using h, h0, Kept.refl _ _⟩
  case round =>
    obtain ⟨k, s, hk, rfl, hp, hj, hkw⟩ := hrel
    clear h0
    by_cases hlt : k < q.length
    · go_wp2_with fail
      refine (f_next base D K _ wr hp (by have := hkw.size; omega)).mono ?_
      rintro e w1 ⟨rfl, h1, k1⟩
      rw [(turn_first hlt).1]
      rw [(turn_first hlt).2] at h1
      have hC : Callish q[k] := h.call _ (List.getElem_mem hlt)
      have HG := Lib.hid (List.getElem?_eq_getElem hlt)
      have HT := Lib.hid (turn_sent hlt hmost)
      generalize q[k] = C at hC HG HT
      have j1 := hJ.out _ _ _ _ hj k1
      have o1 := hO.out _ _ _ j1
      clear hp hj
      have hn1 := heap_alloc_new w1 (.cells Z28 28)
      have hn2 := setRow_heap _ _ _ C _ _ hn1
      have hr1 := range_row hn2
      have hk2 := ((Kept.refl (fun _ => False) w1).alloc (.cells Z28 28)).setRow (g := w1.heap.size) (Nat.le_refl _) C
      have h2 := h1.kept hk2 id id
      have j2 := hJ.out _ _ _ _ j1 (hk2.mono fun _ _ h => h.elim)
      have hlt2 : w1.heap.size < ((w1.alloc (.cells Z28 28)).setRow w1.heap.size C).heap.size := (Array.getElem?_eq_some_iff.1 hn2).1
      have hSn : ¬ (S w1.heap.size ∨ s.ownBlock = some w1.heap.size) := fun e => by
        rcases e with e | e
        case inr => have := (o1 _ e).2; omega
        have := hS.out.2.2 _ e; have := hkw.size; have := k1.size; omega
      go_wp2_with (first | fail | (with_reducible refine alloc28 ?_) | ((with_reducible refine load28 ?_ hr1 hC.size ?_); rfl) | ((with_reducible refine store28 (C := C) ?_ ?_ hn1 rfl hC ?_); rfl; rfl))
      refine (hsee.out k s C _ HG.out hC j2).mono ?_
      rintro e w2 ⟨rfl, s', j3, k3⟩
      have hn4 := (k3.block _ hlt2 hSn).trans hn2
      have hr4 := range_row hn4
      have h4 := h2.kept k3 (fun e => by
        rcases e with e | e
        · exact hS.out.1 e
        · have := (o1 _ e).1; have := h.lt; omega) (fun e => by
        rcases e with e | e
        · exact hS.out.2.1 e
        · have := (o1 _ e).1; have := h.ltK; omega)
      clear hn1 hn2 hr1 j1 j2 h1
      have hkw2 := ((hkw.trans (k1.mono fun _ _ h => .inl h)).trans (hk2.mono fun _ _ h => h.elim)).trans' k3 (fun i hi e => by
        rcases e with e | e
        · exact .inr e
        · have := (o1 _ e).1; omega)
      clear hkw k1 hk2 k3 h2 o1
      have hB2 := hkw2.size
      go_wp2_with (first | fail | ((with_reducible refine load28 ?_ hr4 hC.size ?_); rfl))
      refine (f_send base D K _ C _ h4 hC (by omega)).mono ?_
      rintro e w3 ⟨rfl, h5, k5⟩
      have j5 := hJ.out _ _ _ _ j3 k5
      rw [HT.out] at h5
      have HP := Lib.hid h5
      clear h5 j3 h4 hn4 hr4 hlt2 hSn
      go_wp2_with fail
      go_roundw
      case rel => exact ⟨k + 1, s', by omega, by go_num, HP.out, j5, hkw2.trans (k5.mono fun _ _ h => .inl h)⟩
      case measure => simp [intOf]; omega
    · obtain rfl : q.length = k := by omega
      go_wp2_with fail
      go_end0
      exact ⟨rfl, by simpa using hp, ⟨s, hj⟩, hkw⟩
end Go.Proofs.Ytohoeakhnnojjaa
