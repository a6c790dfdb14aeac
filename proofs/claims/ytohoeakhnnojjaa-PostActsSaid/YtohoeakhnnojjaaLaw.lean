/-
  A post inside a law: what it holds, and that nothing older has turned.
-/
import Derived.Test.YtohoeakhnnojjaaAlive
import Derived.Test.YtohoeakhnnojjaaArg
namespace Go.Proofs.Ytohoeakhnnojjaa
open Go Go.RowKit Go.Conc

/-- In a law that began in w: the post holds q; nothing older than the law has turned. -/
structure L (w wr : World) (D K : Nat) (q : List (Array Value)) : Prop where
  post : IsPost wr w.heap.size D K q
  kept : Kept (fun k => w.heap.size ≤ k) w wr

section
variable {w wr wx : World} {D K : Nat} {q : List (Array Value)}
theorem L.kept1 (h : L w wr D K q) {S : Nat → Prop} (hk : Kept S wr wx) (hs : ∀ k, S k → w.heap.size ≤ k) : Kept (fun k => w.heap.size ≤ k) w wx := h.kept.trans (hk.mono fun k _ e => hs k e)
theorem L.none (h : L w wr D K q) (hk : Kept (fun _ => False) wr wx) : L w wx D K q := ⟨h.post.kept hk id id, h.kept1 hk (fun _ e => e.elim)⟩
theorem L.most (h : L w wr D K q) : q.length ≤ 24 := h.post.most
theorem L.calls (h : L w wr D K q) : ∀ C ∈ q, Callish C := h.post.call
theorem L.lt (h : L w wr D K q) : w.heap.size ≤ wr.heap.size := h.kept.size
/-- What came in can be read still. -/
theorem L.cell (h : L w wr D K q) {p : Addr} {u : Value} (hp : w.cell? p = some u) : wr.cell? p = some u :=
  (h.kept.cell (World.block_lt_of_cell? w p hp) (Nat.not_le.2 (World.block_lt_of_cell? w p hp))).trans hp
theorem L.range (h : L w wr D K q) {b o : Nat} {cs : List Value} (hp : w.rangeAt b o cs) : wr.rangeAt b o cs := fun j v hv => h.cell (hp j v hv)
theorem L.new {w1 : World} (k1 : Kept (fun k => w.heap.size ≤ k) w w1) (h : IsPost wr w1.heap.size D K []) (k2 : Kept (fun _ => False) w1 wr) : L w wr D K [] :=
  ⟨⟨h.block, h.chan, Nat.le_trans k1.size h.loD, Nat.le_trans k1.size h.loK, h.most, h.call⟩, k1.trans (k2.mono fun _ _ e => e.elim)⟩

theorem l_send (h : L w wr D K q) {C : Array Value} (hC : Callish C) : Calls Try.prog 11 #[.pointer (some ⟨D, 0, none⟩), .agg C] wr fun e w' => e = .returned (.bool (room q)) ∧ L w w' D K (sent q C) := by
  refine (f_send _ D K q C wr h.post hC h.lt).mono ?_
  rintro e w' ⟨rfl, h1, k1⟩
  exact ⟨rfl, h1, h.kept1 k1 (fun k e => by rw [e]; exact h.post.loK)⟩
theorem l_next (h : L w wr D K q) : Calls Try.prog 10 #[.pointer (some ⟨D, 0, none⟩)] wr fun e w' => e = .returned (.tuple #[.agg (firstOf q), .bool (some1 q)]) ∧ L w w' D K q.tail := by
  refine (f_next _ D K q wr h.post h.lt).mono ?_
  rintro e w' ⟨rfl, h1, k1⟩
  exact ⟨rfl, h1, h.kept1 k1 (fun k e => by rw [e]; exact h.post.loK)⟩
theorem l_late (h : L w wr D K q) : Calls Try.prog 12 #[.pointer (some ⟨D, 0, none⟩)] wr fun e w' => e = .returned (.bool (lates q)) ∧ L w w' D K (late q) := by
  refine (f_late _ D K q wr h.post h.lt).mono ?_
  rintro e w' ⟨rfl, h1, k1⟩
  exact ⟨rfl, h1, h.kept1 k1 (fun k e => by rw [e]; exact h.post.loK)⟩
theorem l_twice (h : L w wr D K q) : Calls Try.prog 13 #[.pointer (some ⟨D, 0, none⟩)] wr fun e w' => e = .returned (.bool (twices q)) ∧ L w w' D K (twice q) := by
  refine (f_twice _ D K q wr h.post h.lt).mono ?_
  rintro e w' ⟨rfl, h1, k1⟩
  exact ⟨rfl, h1, h.kept1 k1 (fun k e => by rw [e]; exact h.post.loK)⟩
theorem l_len (h : L w wr D K q) : Calls Try.prog 15 #[.pointer (some ⟨D, 0, none⟩)] wr fun e w' => e = .returned (.int .i64 q.length) ∧ wr = w' := f_len _ D K q wr h.post
theorem l_list (h : L w wr D K q) : Calls Try.prog 14 #[.pointer (some ⟨D, 0, none⟩)] wr fun e w' => ∃ a c, e = .returned (.slice a q.length c) ∧ Buf w' wr.heap.size 28 41 (.slice a q.length c) q.length (flat q) ∧ L w w' D K q ∧ Kept (fun k => k = K) wr w' := by
  refine (f_list _ D K q wr h.post h.lt).mono ?_
  rintro e w' ⟨v, rfl, hb, h1, k1⟩
  obtain ⟨a, c, rfl, _⟩ := hb.form
  exact ⟨a, c, rfl, hb, ⟨h1, h.kept1 k1 (fun k e => by rw [e]; exact h.post.loK)⟩, k1⟩
end
theorem l_new {w w1 : World} (k1 : Kept (fun k => w.heap.size ≤ k) w w1) : Calls Try.prog 16 #[] w1 fun e w' => ∃ D K, e = .returned (.pointer (some ⟨D, 0, none⟩)) ∧ L w w' D K [] := by
  refine (f_new w1).mono ?_
  rintro e w' ⟨rfl, h1, k2⟩
  exact ⟨_, _, rfl, .new k1 h1 k2⟩

theorem sent_length (q : List (Array Value)) (C : Array Value) : (sent q C).length = q.length + (if room q = true then 1 else 0) := by
  by_cases h : q.length < 24 <;> simp [sent, room, h]
theorem late_length (q : List (Array Value)) : (late q).length = q.length := by
  by_cases h : q.length < 2
  · simp [late, h]
  · simp [late, h]; omega
theorem twice_length (q : List (Array Value)) (hm : q.length ≤ 24) : (twice q).length = q.length + (if twices q = true then 1 else 0) := by
  unfold twice twices
  by_cases h : q.length = 0 ∨ q.length = 24
  · rw [if_pos h, if_neg (by simp; omega)]; rfl
  · rw [if_neg h, if_pos (by simp; omega)]; simp
/-! The same, with what turned beside the law's post. -/
section
variable {w wr : World} {D K : Nat} {q : List (Array Value)}
theorem k_send (h : L w wr D K q) {C : Array Value} (hC : Callish C) : Calls Try.prog 11 #[.pointer (some ⟨D, 0, none⟩), .agg C] wr fun e w' => e = .returned (.bool (room q)) ∧ L w w' D K (sent q C) ∧ Kept (fun k => k = K) wr w' := by
  refine (f_send _ D K q C wr h.post hC h.lt).mono ?_
  rintro e w' ⟨rfl, h1, k1⟩
  exact ⟨rfl, ⟨h1, h.kept1 k1 (fun k e => by rw [e]; exact h.post.loK)⟩, k1⟩
theorem k_next (h : L w wr D K q) : Calls Try.prog 10 #[.pointer (some ⟨D, 0, none⟩)] wr fun e w' => e = .returned (.tuple #[.agg (firstOf q), .bool (some1 q)]) ∧ L w w' D K q.tail ∧ Kept (fun k => k = K) wr w' := by
  refine (f_next _ D K q wr h.post h.lt).mono ?_
  rintro e w' ⟨rfl, h1, k1⟩
  exact ⟨rfl, ⟨h1, h.kept1 k1 (fun k e => by rw [e]; exact h.post.loK)⟩, k1⟩
theorem k_late (h : L w wr D K q) : Calls Try.prog 12 #[.pointer (some ⟨D, 0, none⟩)] wr fun e w' => e = .returned (.bool (lates q)) ∧ L w w' D K (late q) ∧ Kept (fun k => k = K) wr w' := by
  refine (f_late _ D K q wr h.post h.lt).mono ?_
  rintro e w' ⟨rfl, h1, k1⟩
  exact ⟨rfl, ⟨h1, h.kept1 k1 (fun k e => by rw [e]; exact h.post.loK)⟩, k1⟩
theorem k_twice (h : L w wr D K q) : Calls Try.prog 13 #[.pointer (some ⟨D, 0, none⟩)] wr fun e w' => e = .returned (.bool (twices q)) ∧ L w w' D K (twice q) ∧ Kept (fun k => k = K) wr w' := by
  refine (f_twice _ D K q wr h.post h.lt).mono ?_
  rintro e w' ⟨rfl, h1, k1⟩
  exact ⟨rfl, ⟨h1, h.kept1 k1 (fun k e => by rw [e]; exact h.post.loK)⟩, k1⟩
/-- A list that was told, behind what turns the post alone. -/
theorem told {wx : World} {lo n : Nat} {v : Value} {xs : List Value} (h : Buf wr lo 28 41 v n xs) (hK : K < lo) (hk : Kept (fun k => k = K) wr wx) : Buf wx lo 28 41 v n xs :=
  h.kept hk (fun k e e' => by have := (h.lt k e).1; have : k = K := e'; omega)
end

/-- The calls, turned k times. -/
def turned (q : List (Array Value)) (k : Nat) : List (Array Value) := if q.length < 2 then q else q.drop k ++ q.take k
theorem turned_zero (q : List (Array Value)) : turned q 0 = q := by unfold turned; split <;> simp
theorem turned_all (q : List (Array Value)) : turned q q.length = q := by unfold turned; split <;> simp
theorem turned_length (q : List (Array Value)) (k : Nat) : (turned q k).length = q.length := by
  unfold turned
  split
  · rfl
  · simp; omega
theorem late_turned (q : List (Array Value)) (k : Nat) (h : k < q.length) : late (turned q k) = turned q (k + 1) := by
  by_cases h2 : q.length < 2
  · have e : turned q k = q := by simp [turned, h2]
    have e' : turned q (k + 1) = q := by simp [turned, h2]
    rw [e, e', late, if_pos h2]
  · have hl := turned_length q k
    rw [late, if_neg (by omega)]
    have e : turned q k = q.drop k ++ q.take k := by simp [turned, h2]
    have e' : turned q (k + 1) = q.drop (k + 1) ++ q.take (k + 1) := by simp [turned, h2]
    rw [e, e', (turn_first h).1, (turn_first h).2, List.append_assoc, List.take_append_getElem h]
theorem lates_turned (q : List (Array Value)) (k : Nat) : lates (turned q k) = lates q := by simp only [lates, turned_length]
/-- What lies there behind k sendings of l's calls. -/
def filled (l : List (Array Value)) (k : Nat) : List (Array Value) := (l.take k).take 24
theorem sent_filled (l : List (Array Value)) (k : Nat) (h : k < l.length) : sent (filled l k) l[k] = filled l (k + 1) := by
  have hl : (filled l k).length = min 24 k := by simp [filled]; omega
  unfold sent
  by_cases h24 : k < 24
  · have e : filled l k = l.take k := by rw [filled, List.take_of_length_le (by simp; omega)]
    have e' : filled l (k + 1) = l.take (k + 1) := by rw [filled, List.take_of_length_le (by simp; omega)]
    rw [if_pos (by omega), e, e', List.take_append_getElem h]
  · rw [if_neg (by omega), filled, filled, List.take_take, List.take_take]
    congr 1; omega
theorem filled_length (l : List (Array Value)) (k : Nat) (h : k ≤ l.length) : (filled l k).length = min 24 k := by simp [filled]; omega
end Go.Proofs.Ytohoeakhnnojjaa
