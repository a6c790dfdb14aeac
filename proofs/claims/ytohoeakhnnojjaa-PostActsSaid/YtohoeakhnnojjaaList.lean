/-
  Contracts of the post's List and Twice. Conditions: as each theorem says.
-/
import Derived.Test.YtohoeakhnnojjaaRound
import Derived.Great.FillDense
import Derived.Great.BuildSlice
namespace Go.Proofs.Ytohoeakhnnojjaa
open Go Go.RowKit Go.Conc

theorem Try.ifull28 : (Try.prog.info? 28).map (fun i => (i.size, i.bytes, i.zero)) = some (41, 96, some (.agg Z28)) := by kernel_rfl
theorem info28' : ∃ i, Try.prog.info? 28 = some i ∧ i.size = 41 ∧ i.bytes = 96 ∧ i.zero = some (.agg Z28) := by
  obtain ⟨i, hi, hb⟩ := Option.map_eq_some_iff.1 Try.ifull28
  simp only [Prod.mk.injEq] at hb
  exact ⟨i, hi, hb.1, hb.2.1, hb.2.2⟩

/-- A slice of the one call C. -/
theorem buildOne {ops : Array Oper} {rest : List Oper} {dst : Option Tmp} {ty : TypeId} {pos : String} {aft : Array Edge} {x : Operand} {a : Act} {w : World} {Q : Exit → Act → World → Prop} {C : Array Value}
    (hx : a.eval x = .agg C) (hC : C.size = 41)
    (h : wpList Try.prog ops Q rest (a.put dst (.slice (some ⟨w.heap.size, 0, none⟩) 1 1)) (w.alloc (.cells C 28))) : wpList Try.prog ops Q (⟨dst, .buildSlice 32 1 #[(0, x)], ty, pos, aft, none⟩ :: rest) a w := by
  obtain ⟨i, hi, hs, hb, hz⟩ := info28'
  refine wpList_buildSlice (P := Try.prog) (o := ⟨dst, .buildSlice 32 1 #[(0, x)], ty, pos, aft, none⟩) rfl 32 28 1 #[(0, x)] rfl C i (.agg Z28) Try.underlying32 hi hz (by rw [hs]; decide) (by rw [hs]; decide) ?_ h
  rw [hs]
  have := Great.fill_whole (s := 41) (by decide) [.agg C] ((Array.range (1 * 41)).map ((Value.agg Z28).cells[· % (Value.agg Z28).cells.size]!)) (by simp [Value.cells, hC]) (by simp)
  simp only [Array.toList_map, List.map_cons, List.map_nil, hx, List.zipIdx_cons, List.zipIdx_nil, List.flatMap_cons, List.flatMap_nil, Value.cells, Array.toArray_toList, List.append_nil] at this ⊢
  exact this

/-- The calls' cells, side by side. -/
def flat (q : List (Array Value)) : List Value := q.flatMap Array.toList

set_option maxHeartbeats 4000000 in
theorem c_list (X lo : Nat) (v : Value) (n : Nat) (xs : List Value) (C : Array Value) (iv : Int) (w : World) (hX : w.heap[X]? = some (.cells #[v] 32 (0, 0))) (hb : Buf w lo 28 41 v n xs) (hlo : lo ≤ w.heap.size) (hn : n ≤ 1000) (hC : Callish C) :
    Calls Try.prog 24 #[.int .i64 iv, .agg C, .pointer (some ⟨X, 0, none⟩)] w fun e w' => e = .returned (.tuple #[]) ∧ ∃ v', w'.heap[X]? = some (.cells #[v'] 32 (0, 0)) ∧ Buf w' lo 28 41 v' (n + 1) (xs ++ C.toList) ∧
      (v'.ownBlock = v.ownBlock ∨ ∃ k, v'.ownBlock = some k ∧ w.heap.size ≤ k) ∧ Kept (fun k => k = X ∨ v.ownBlock = some k) w w' := by
  obtain ⟨i, hi, hs, hby, hz⟩ := info28'
  have hXlt : X < w.heap.size := (Array.getElem?_eq_some_iff.1 hX).1
  have c0 : w.cell? ⟨X, 0, none⟩ = some v := by simp [World.cell?, hX]
  have hne := hb.ne_of_type hX (by decide)
  have hn1 := heap_alloc_new w (.cells C 28)
  have hr1 := range_row hn1
  have hn2 := heap_alloc_new (w.alloc (.cells C 28)) (.cells C 28)
  have hsrc : Src Try.prog 41 32 (.slice (some ⟨(w.alloc (.cells C 28)).heap.size, 0, none⟩) 1 1) 1 C.toList ((w.alloc (.cells C 28)).alloc (.cells C 28)) := by
    have h := Rd.of_block hn2 41 1 1 (by rw [hC.size]; decide)
    rw [List.take_of_length_le (by simp [hC.size])] at h
    exact h.src Try.underlying32 (fun u hu => Array.all_eq_true_iff_forall_mem.1 hC.one u (by simpa using hu))
  have hb2 : Buf ((w.alloc (.cells C 28)).alloc (.cells C 28)) lo 28 41 v n xs := hb.kept (S := fun _ => False) (((Kept.refl _ w).alloc _).alloc _) (fun _ _ h => h)
  have hX2 : ((w.alloc (.cells C 28)).alloc (.cells C 28)).heap[X]? = _ := ((((Kept.refl (fun _ => False) w).alloc _).alloc _).block X hXlt id).trans hX
  have HB := Lib.hid hb
  have HX := Lib.hid hX
  have HX2 := Lib.hid hX2
  have HN := Lib.hid hn1
  have HN2 := Lib.hid hn2
  clear hb hX hX2 hn1 hn2
  go_enter Try.func24, Try.ntmps24
  go_wp2_with (first | fail | ((with_reducible refine load28 ?_ hr1 hC.size ?_); rfl) | ((with_reducible refine buildOne (C := C) ?_ hC.size ?_); rfl) | (at_builtin; go_loud (refine wpList_append_buf _ rfl (.tmp 5) (.tmp 7) 32 32 rfl lo 28 i (.agg Z28) 41 96 Try.underlying32 hi hz hs hby rfl (by decide) v n xs rfl hb2 _ _ _ rfl hsrc (by unfold maxLen; omega) (by omega) (by simp; omega) ?_; intro v' w' hb' hg' ho' hn'; obtain ⟨a', cap', rfl, ha1, ha2⟩ := hb'.form; have hblk := Lib.hid ((hg'.block X (by simp; omega) (fun e => hne e.symm)).trans HX2.out); have c0' : w'.cell? ⟨X, 0, none⟩ = some v := (by simp [World.cell?, hblk.out]); have f0' : w'.frozen? ⟨X, 0, none⟩ = false := (by simp [World.frozen?, hblk.out]))))
  go_end0
  refine ⟨rfl, _, setCell_block hblk.out _, hb'.setCell (hb'.ne_of_type hblk.out (by decide)) _, ?_, ?_⟩
  · rcases ho' with h | h
    · exact .inl h
    · exact .inr ⟨_, h, by simp; omega⟩
  · exact ((((Kept.refl (fun k => k = X ∨ v.ownBlock = some k) w).alloc _).alloc _).grown hg' (fun k hk => .inl (.inr hk))).setCell (.inl (.inl rfl)) _

theorem flat_take {q : List (Array Value)} {i : Nat} {C : Array Value} (h : q[i]? = some C) : flat (q.take (i + 1)) = flat (q.take i) ++ C.toList := by
  obtain ⟨hlt, rfl⟩ := List.getElem?_eq_some_iff.1 h
  unfold flat
  rw [← List.take_append_getElem hlt, List.flatMap_append]
  simp

/-- What the list's closure keeps. -/
def ListJ (q : List (Array Value)) (lo X : Nat) (i : Nat) (s : Value) (w : World) : Prop :=
  w.heap[X]? = some (.cells #[s] 32 (0, 0)) ∧ Buf w lo 28 41 s i (flat (q.take i)) ∧ lo ≤ w.heap.size

theorem list_hF (args : Array Value) (w : World) : (callFunc 24 args).run Try.prog w = .ok (.enter 24 args) w := by go_simp

set_option maxHeartbeats 4000000 in
theorem f_list (base D K : Nat) (q : List (Array Value)) (w : World) (h : IsPost w base D K q) (hB : base ≤ w.heap.size) :
    Calls Try.prog 14 #[.pointer (some ⟨D, 0, none⟩)] w fun e w' => ∃ v, e = .returned v ∧ Buf w' w.heap.size 28 41 v q.length (flat q) ∧ IsPost w' base D K q ∧ Kept (fun k => k = K) w w' := by
  have hDlt := h.lt
  have hKlt := h.ltK
  have hmost := h.most
  have k1 := (Kept.refl (fun _ => False) w).alloc (.cells #[.slice none 0 0] 32)
  have h1 := h.kept k1 id id
  have hX := heap_alloc_new w (.cells #[.slice none 0 0] 32)
  have hS : Hid (¬ (D = w.heap.size) ∧ ¬ (K = w.heap.size) ∧ ∀ k, k = w.heap.size → k < (w.alloc (.cells #[.slice none 0 0] 32)).heap.size) := ⟨by omega, by omega, fun k hk => by subst hk; simp⟩
  have hJ : Hid (∀ (i : Nat) (s : Value) (a b : World), ListJ q (w.heap.size + 1) w.heap.size i s a → Kept (fun k => k = K) a b → ListJ q (w.heap.size + 1) w.heap.size i s b) := fun i s a b hj hk =>
    ⟨(hk.block _ (Array.getElem?_eq_some_iff.1 hj.1).1 (by show ¬ _ = _; omega)).trans hj.1, hj.2.1.kept hk (fun k e e' => by have := (hj.2.1.lt k e).1; show False; omega), Nat.le_trans hj.2.2 hk.size⟩
  have hO : Hid (∀ (i : Nat) (s : Value) (a : World), ListJ q (w.heap.size + 1) w.heap.size i s a → ∀ k, s.ownBlock = some k → (w.alloc (.cells #[.slice none 0 0] 32)).heap.size ≤ k ∧ k < a.heap.size) := fun i s a hj k e => by
    have := hj.2.1.lt k e
    simp; omega
  have hsee : Hid (∀ (i : Nat) (s : Value) (C : Array Value) (w' : World), q[i]? = some C → Callish C → ListJ q (w.heap.size + 1) w.heap.size i s w' → Calls Try.prog 24 (#[.int .i64 i, .agg C] ++ #[.pointer (some ⟨w.heap.size, 0, none⟩)]) w' fun e w'' => e = .returned (.tuple #[]) ∧
      ∃ s', ListJ q (w.heap.size + 1) w.heap.size (i + 1) s' w'' ∧ Kept (fun k => k = w.heap.size ∨ s.ownBlock = some k) w' w'') := fun i s C w' hi hC hj => by
    have hil := (List.getElem?_eq_some_iff.1 hi).1
    refine (c_list w.heap.size (w.heap.size + 1) s i _ C i w' hj.1 hj.2.1 hj.2.2 (by omega) hC).mono ?_
    rintro e w'' ⟨rfl, v', h1, h2, _, h3⟩
    exact ⟨rfl, v', ⟨h1, by rw [flat_take hi]; exact h2, Nat.le_trans hj.2.2 h3.size⟩, h3⟩
  have h0 : ListJ q (w.heap.size + 1) w.heap.size 0 (.slice none 0 0) (w.alloc (.cells #[.slice none 0 0] 32)) := ⟨hX, by simpa [flat] using Buf.nil _ _ _ _, by simp⟩
  have HR := Lib.hid (f_round (w.alloc (.cells #[.slice none 0 0] 32)) base D K q 24 #[.pointer (some ⟨w.heap.size, 0, none⟩)] list_hF (fun k => k = w.heap.size) hS (ListJ q (w.heap.size + 1) w.heap.size) (.slice none 0 0) h1 (by simp; omega) h0 hJ hO hsee)
  have HX := Lib.hid hX
  clear h0 hsee hO hJ hS h1 hX
  go_enter Try.func14, Try.ntmps14
  go_wp2_with fail
  refine HR.out.mono ?_
  rintro e w2 ⟨rfl, hp, ⟨s, hj⟩, hk⟩
  have hk' := (k1.mono (T := fun k => k = K) fun _ _ h => h.elim).trans' hk (fun i hi e => by
    rcases e with e | e
    · exact e
    · exact absurd e (by show ¬ i = w.heap.size; omega))
  obtain ⟨a', cap', rfl, ha1, ha2⟩ := hj.2.1.form
  have c0 : w2.cell? ⟨w.heap.size, 0, none⟩ = some (.slice a' q.length cap') := by simp [World.cell?, hj.1]
  have HJ := Lib.hid hj
  clear hj hk HX
  go_wp2_with fail
  go_ret
  have hb := HJ.out.2.1
  rw [List.take_of_length_le (Nat.le_refl _)] at hb
  exact ⟨_, rfl, hb.mono (by omega), hp, hk'⟩

theorem f_nilRound (f : Value) (w : World) : Calls Try.prog 22 #[.pointer none, f] w fun e w' => e = .returned (.tuple #[]) ∧ w = w' := by
  go_enter Try.func22, Try.ntmps22
  go_wp2_with fail
  refine (f_nilLen w).mono ?_
  rintro e w1 ⟨rfl, rfl⟩
  go_wp2_with fail
  go_loopw [9] (fun i wr => i = .int .i64 0 ∧ w = wr) (fun _ _ => 0)
  case atStart => exact ⟨rfl, rfl⟩
  case round =>
    obtain ⟨rfl, rfl⟩ := hrel
    go_wp2_with fail
    go_end0
    exact ⟨rfl, rfl⟩

theorem f_nilList (w : World) : Calls Try.prog 14 #[.pointer none] w fun e w' => e = .returned (.slice none 0 0) ∧ Kept (fun _ => False) w w' := by
  have c0 : (w.alloc (.cells #[.slice none 0 0] 32)).cell? ⟨w.heap.size, 0, none⟩ = some (.slice none 0 0) := by rw [cell_of_row _ _ 0 _ _ _ (heap_alloc_new w _)]; rfl
  go_enter Try.func14, Try.ntmps14
  go_wp2_with fail
  refine (f_nilRound _ _).mono ?_
  rintro e w1 ⟨rfl, rfl⟩
  go_wp2_with fail
  go_ret
  exact ⟨rfl, (Kept.refl _ w).alloc _⟩

theorem f_nilTwice (w : World) : Calls Try.prog 13 #[.pointer none] w fun e w' => e = .returned (.bool false) ∧ w = w' := by
  go_enter Try.func13, Try.ntmps13
  go_wp2_with fail
  refine (f_nilLen w).mono ?_
  rintro e w1 ⟨rfl, rfl⟩
  go_wp2_with fail
  go_ret
  exact ⟨rfl, rfl⟩

/-- What the first round of Twice leaves in its variable. -/
def firstAt (q : List (Array Value)) (i : Nat) : Array Value := if i = 0 then Z28 else firstOf q
def TwiceJ (q : List (Array Value)) (X : Nat) (i : Nat) (s : Value) (w : World) : Prop :=
  w.heap[X]? = some (.cells (firstAt q i) 28 (0, 0)) ∧ s = .bool false

theorem c_twice (q : List (Array Value)) (hq : ∀ C ∈ q, Callish C) (X i : Nat) (s : Value) (C : Array Value) (w : World) (hi : q[i]? = some C) (hj : TwiceJ q X i s w) :
    Calls Try.prog 23 #[.int .i64 i, .agg C, .pointer (some ⟨X, 0, none⟩)] w fun e w' => e = .returned (.tuple #[]) ∧ ∃ s', TwiceJ q X (i + 1) s' w' ∧ Kept (fun k => k = X ∨ s.ownBlock = some k) w w' := by
  obtain ⟨hX, rfl⟩ := hj
  have hC : Callish C := hq C (List.mem_of_getElem? hi)
  have hXlt : X < w.heap.size := (Array.getElem?_eq_some_iff.1 hX).1
  have hn1 := heap_alloc_new w (.cells C 28)
  have hr1 := range_row hn1
  have hX1 : (w.alloc (.cells C 28)).heap[X]? = _ := (Below.heap_alloc w _ X hXlt).trans hX
  by_cases h0 : i = 0
  · subst h0
    have hold : (firstAt q 0).size = 41 := rfl
    have e1 : firstAt q (0 + 1) = C := by
      have : q.head? = some C := by rw [List.head?_eq_getElem?]; exact hi
      simp only [firstAt, firstOf]
      cases q with
      | nil => cases hi
      | cons D q => simp at hi; simp [hi]
    have HI := Lib.hid hi
    have HE := Lib.hid e1
    have HX := Lib.hid hX
    clear hi e1 hX hn1
    go_enter Try.func23, Try.ntmps23
    go_wp2_with (first | fail | ((with_reducible refine load28 ?_ hr1 hC.size ?_); rfl) | ((with_reducible refine store28 (C := C) ?_ ?_ hX1 hold hC ?_); rfl; rfl))
    go_end0
    refine ⟨rfl, .bool false, ⟨?_, rfl⟩, ?_⟩
    · rw [HE.out]; exact setRow_heap _ _ _ _ _ _ hX1
    · have k1 := (Kept.refl (fun k => k = X ∨ (Value.bool false).ownBlock = some k) w).alloc (.cells C 28)
      exact ⟨k1.os, k1.tape, k1.output, by simp [World.setRow], fun k hk hs => (setRow_other _ X k _ (fun e => hs (.inl e))).trans (k1.block k hk hs)⟩
  · have e1 : firstAt q (i + 1) = firstAt q i := by simp [firstAt, h0]
    have hb : (decide ((i : Int) = 0)) = false := by simp; omega
    have h00 : ¬ (i : Int) = 0 := by omega
    have hbe : ((i : Int) == 0) = false := by rw [beq_eq_false_iff_ne]; omega
    have HI := Lib.hid hi
    have HE := Lib.hid e1
    have HX := Lib.hid hX1
    clear hi e1 hX hX1 hn1 h0
    go_enter Try.func23, Try.ntmps23
    go_wp2_with fail
    go_end0
    refine ⟨rfl, .bool false, ⟨?_, rfl⟩, (Kept.refl _ w).alloc _⟩
    rw [HE.out]; exact HX.out

theorem twice_hF (args : Array Value) (w : World) : (callFunc 23 args).run Try.prog w = .ok (.enter 23 args) w := by go_simp

/-- What lies there behind Twice. -/
def twice (q : List (Array Value)) : List (Array Value) := if q.length = 0 ∨ q.length = 24 then q else q ++ [firstOf q]
def twices (q : List (Array Value)) : Bool := decide (0 < q.length ∧ q.length < 24)

set_option maxHeartbeats 4000000 in
theorem f_twice (base D K : Nat) (q : List (Array Value)) (w : World) (h : IsPost w base D K q) (hB : base ≤ w.heap.size) :
    Calls Try.prog 13 #[.pointer (some ⟨D, 0, none⟩)] w fun e w' => e = .returned (.bool (twices q)) ∧ IsPost w' base D K (twice q) ∧ Kept (fun k => k = K) w w' := by
  have hDlt := h.lt
  have hKlt := h.ltK
  have hmost := h.most
  by_cases hq : q.length = 0 ∨ q.length = 24
  · have e1 : twices q = false := by simp [twices]; omega
    have e2 : twice q = q := by rw [twice, if_pos hq]
    rw [e1, e2]
    clear e1 e2
    have HQ := Lib.hid hq
    rcases hq with h0 | h0
    · have t1 : ((q.length : Int) == 0) = true := by rw [beq_iff_eq]; omega
      clear h0
      go_enter Try.func13, Try.ntmps13
      go_wp2_with fail
      refine (f_len base D K q w h).mono ?_
      rintro e w1 ⟨rfl, rfl⟩
      go_wp2_with fail
      go_ret
      exact ⟨rfl, h, Kept.refl _ _⟩
    · have t1 : ((q.length : Int) == 0) = false := by rw [beq_eq_false_iff_ne]; omega
      have t2 : ((q.length : Int) == 24) = true := by rw [beq_iff_eq]; omega
      clear h0
      go_enter Try.func13, Try.ntmps13
      go_wp2_with fail
      refine (f_len base D K q w h).mono ?_
      rintro e w1 ⟨rfl, rfl⟩
      go_wp2_with fail
      go_ret
      exact ⟨rfl, h, Kept.refl _ _⟩
  · have e1 : twices q = room q := by simp only [twices, room, decide_eq_decide]; omega
    have e2 : twice q = sent q (firstOf q) := by simp only [twice, if_neg hq, sent]; rw [if_pos (by omega)]
    rw [e1, e2]
    have t1 : ((q.length : Int) == 0) = false := by rw [beq_eq_false_iff_ne]; omega
    have t2 : ((q.length : Int) == 24) = false := by rw [beq_eq_false_iff_ne]; omega
    have HQ := Lib.hid hq
    clear e1 e2 hq
    have k1 := (Kept.refl (fun _ => False) w).alloc (.cells Z28 28)
    have h1 := h.kept k1 id id
    have hX := heap_alloc_new w (.cells Z28 28)
    have hS : Hid (¬ (D = w.heap.size) ∧ ¬ (K = w.heap.size) ∧ ∀ k, k = w.heap.size → k < (w.alloc (.cells Z28 28)).heap.size) := ⟨by omega, by omega, fun k hk => by subst hk; simp⟩
    have hJ : Hid (∀ (i : Nat) (s : Value) (a b : World), TwiceJ q w.heap.size i s a → Kept (fun k => k = K) a b → TwiceJ q w.heap.size i s b) := fun i s a b hj hk =>
      ⟨(hk.block _ (Array.getElem?_eq_some_iff.1 hj.1).1 (by show ¬ _ = _; omega)).trans hj.1, hj.2⟩
    have hO : Hid (∀ (i : Nat) (s : Value) (a : World), TwiceJ q w.heap.size i s a → ∀ k, s.ownBlock = some k → (w.alloc (.cells Z28 28)).heap.size ≤ k ∧ k < a.heap.size) := fun i s a hj k e => by
      rw [hj.2] at e; cases e
    have hsee : Hid (∀ (i : Nat) (s : Value) (C : Array Value) (w' : World), q[i]? = some C → Callish C → TwiceJ q w.heap.size i s w' → Calls Try.prog 23 (#[.int .i64 i, .agg C] ++ #[.pointer (some ⟨w.heap.size, 0, none⟩)]) w' fun e w'' => e = .returned (.tuple #[]) ∧
        ∃ s', TwiceJ q w.heap.size (i + 1) s' w'' ∧ Kept (fun k => k = w.heap.size ∨ s.ownBlock = some k) w' w'') := fun i s C w' hi hC hj => c_twice q h.call w.heap.size i s C w' hi hj
    have h0 : TwiceJ q w.heap.size 0 (.bool false) (w.alloc (.cells Z28 28)) := ⟨hX, rfl⟩
    have HR := Lib.hid (f_round (w.alloc (.cells Z28 28)) base D K q 23 #[.pointer (some ⟨w.heap.size, 0, none⟩)] twice_hF (fun k => k = w.heap.size) hS (TwiceJ q w.heap.size) (.bool false) h1 (by simp; omega) h0 hJ hO hsee)
    clear h0 hsee hO hJ hS h1 hX
    go_enter Try.func13, Try.ntmps13
    go_wp2_with fail
    refine (f_len base D K q w h).mono ?_
    rintro e w1 ⟨rfl, rfl⟩
    go_wp2_with (first | fail | (with_reducible refine alloc28 ?_))
    refine HR.out.mono ?_
    rintro e w2 ⟨rfl, hp, ⟨s, hj⟩, hk⟩
    have hk' := (k1.mono (T := fun k => k = K) fun _ _ h => h.elim).trans' hk (fun i hi e => by
      rcases e with e | e
      · exact e
      · exact absurd e (by show ¬ i = w.heap.size; omega))
    have hC := firstOf_callish h.call
    have hj1 := hj.1
    rw [firstAt, if_neg (by have := HQ.out; omega)] at hj1
    have hr := range_row hj1
    have hsz := hk'.size
    clear hj hk HR k1 hj1
    go_wp2_with (first | fail | ((with_reducible refine load28 ?_ hr hC.size ?_); rfl))
    refine (f_send base D K q _ w2 hp hC (by omega)).mono ?_
    rintro e w3 ⟨rfl, h3, k3⟩
    go_wp2_with fail
    go_ret
    exact ⟨rfl, h3, hk'.trans k3⟩
end Go.Proofs.Ytohoeakhnnojjaa
