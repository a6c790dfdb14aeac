/-
  The document's example of the post. Conditions: none.
-/
import Derived.Test.YtohoeakhnnojjaaSame
namespace Go.Proofs.Ytohoeakhnnojjaa
open Go Go.RowKit Go.Conc

/-- A call of saga n. -/
def callOf (n : Int) : Array Value := Z28.setIfInBounds 0 (.int .i64 n)
theorem callOf_lits (n : Int) (h : n = 1 ∨ n = 2) : ∃ L, Try.prog.keyLits 3 28 (callOf n).toList = some L := by
  have h1 : (Try.prog.keyLits 3 28 (callOf 1).toList).isSome = true := by kernel_rfl
  have h2 : (Try.prog.keyLits 3 28 (callOf 2).toList).isSome = true := by kernel_rfl
  rcases h with rfl | rfl
  · exact Option.isSome_iff_exists.1 h1
  · exact Option.isSome_iff_exists.1 h2
theorem callOf_callish {n : Int} (h : n = 1 ∨ n = 2) : Callish (callOf n) := ⟨rfl, by
  have h1 : (callOf 1).all (·.oneCell') = true := by kernel_rfl
  have h2 : (callOf 2).all (·.oneCell') = true := by kernel_rfl
  rcases h with rfl | rfl
  · exact h1
  · exact h2, callOf_lits n h⟩
theorem buildOf {ops : Array Oper} {rest : List Oper} {dst : Option Tmp} {ty : TypeId} {pos : String} {aft : Array Edge} {n : Int} {a : Act} {w : World} {Q : Exit → Act → World → Prop}
    (h : wpList Try.prog ops Q rest (a.put dst (.agg (callOf n))) w) : wpList Try.prog ops Q (⟨dst, .build 28 #[(0, .const (.int .i64 n))], ty, pos, aft, none⟩ :: rest) a w := by
  refine wpList_plain rfl fun K hK => ?_
  go_simp
  exact hK _ _ h

set_option maxHeartbeats 4000000 in
theorem alive_true (w : World) : Calls Try.prog 9 #[] w fun e w' => e = .returned (.bool true) ∧ Kept (fun k => w.heap.size ≤ k) w w' := by
  have c1 := callOf_callish (n := 1) (.inl rfl)
  have c2 := callOf_callish (n := 2) (.inr rfl)
  have C1 := Lib.hid c1
  have C2 := Lib.hid c2
  clear c1 c2
  go_enter Try.func9, Try.ntmps9
  go_wp2_with fail
  refine (f_new w).mono ?_
  rintro e w1 ⟨rfl, h1, k1⟩
  obtain ⟨D, hD⟩ : ∃ D, w.heap.size + 1 = D := ⟨_, rfl⟩
  have K1 := k1.mono (T := fun k => w.heap.size ≤ k) fun _ _ h => h.elim
  rw [hD] at h1 ⊢
  have HD := Lib.hid hD
  clear hD k1
  go_wp2_with (first | fail | (with_reducible refine buildOf ?_))
  refine (f_send _ D _ _ _ _ h1 C1.out K1.size).mono ?_
  rintro e w2 ⟨rfl, h2, k2⟩
  have K2 := K1.trans (k2.mono fun _ _ h => Nat.le_of_eq h.symm)
  clear h1 K1 k2
  go_wp2_with (first | fail | (with_reducible refine buildOf ?_))
  refine (f_send _ D _ _ _ _ h2 C2.out K2.size).mono ?_
  rintro e w3 ⟨rfl, h3, k3⟩
  have K3 := K2.trans (k3.mono fun _ _ h => Nat.le_of_eq h.symm)
  clear h2 K2 k3
  go_wp2_with fail
  refine (f_late _ D _ _ _ h3 K3.size).mono ?_
  rintro e w4 ⟨rfl, h4, k4⟩
  have K4 := K3.trans (k4.mono fun _ _ h => Nat.le_of_eq h.symm)
  have e4 : late (sent (sent [] (callOf 1)) (callOf 2)) = [callOf 2, callOf 1] := rfl
  have E1 : lates (sent (sent [] (callOf 1)) (callOf 2)) = true := rfl
  have E2 : room (sent [] (callOf 1)) = true := rfl
  have E3 : room ([] : List (Array Value)) = true := rfl
  rw [e4] at h4
  rw [E1, E2, E3]
  clear h3 K3 k4 e4 E1 E2 E3
  go_wp2_with fail
  refine (f_list _ D _ _ _ h4 K4.size).mono ?_
  rintro e w5 ⟨v, rfl, hb, h5, k5⟩
  have K4size := K4.size
  have K5 := K4.trans (k5.mono fun _ _ h => Nat.le_of_eq h.symm)
  obtain ⟨g, cap, cur, rfl, _⟩ := hb.pos (by simp)
  have K4lt := h4.ltK
  have d0 : w5.cell? ⟨g, 0, none⟩ = some (.int .i64 2) := by simpa [Addr.add_lit] using hb.cells rfl 0 (.int .i64 2) rfl
  have d1 : w5.cell? ⟨g, 41, none⟩ = some (.int .i64 1) := by simpa [Addr.add_lit] using hb.cells rfl 41 (.int .i64 1) rfl
  have hglt := (hb.lt g rfl).1
  have HG := Lib.hid hglt
  have HB := Lib.hid hb
  clear h4 K4 hb
  go_wp2_with fail
  refine (f_next _ D _ _ _ h5 K5.size).mono ?_
  rintro e w6 ⟨rfl, h6, k6⟩
  have K6 := K5.trans (k6.mono fun _ _ h => Nat.le_of_eq h.symm)
  have e6 : firstOf [callOf 2, callOf 1] = callOf 2 := rfl
  have E6 : some1 [callOf 2, callOf 1] = true := rfl
  have t6 : [callOf 2, callOf 1].tail = [callOf 1] := rfl
  rw [t6] at h6
  rw [e6, E6]
  have hn6 := heap_alloc_new w6 (.cells Z28 28)
  have k7 := ((Kept.refl (fun _ => False) w6).alloc (.cells Z28 28)).setRow (g := w6.heap.size) (Nat.le_refl _) (callOf 2)
  have h7 := h6.kept k7 id id
  have d2 : ((w6.alloc (.cells Z28 28)).setRow w6.heap.size (callOf 2)).cell? ⟨w6.heap.size, 0, none⟩ = some (.int .i64 2) := by
    rw [cell_of_row _ _ 0 _ _ _ (setRow_heap _ _ _ _ _ _ hn6)]; rfl
  have hg5 : g < w5.heap.size := (HB.out.lt g rfl).2
  have hgw : ¬ g = w.heap.size := by have := HG.out; have := h5.ltK; omega
  have tr : ∀ (j : Nat) (u : Value), w5.cell? ⟨g, j, none⟩ = some u → ((w6.alloc (.cells Z28 28)).setRow w6.heap.size (callOf 2)).cell? ⟨g, j, none⟩ = some u := fun j u hu =>
    (k7.cell (p := ⟨g, j, none⟩) (Nat.lt_of_lt_of_le hg5 k6.size) id).trans ((k6.cell (p := ⟨g, j, none⟩) hg5 hgw).trans hu)
  have d0' := tr _ _ d0
  have d1' := tr _ _ d1
  have K7 := K6.trans (k7.mono fun _ _ h => h.elim)
  have C3 := callOf_callish (n := 2) (.inr rfl)
  have C4 := Lib.hid C3
  clear C3 d0 d1 tr k6 K6 h6 h5 k5 K5 hglt e6 E6 t6
  go_wp2_with (first | fail | (with_reducible refine alloc28 ?_) | ((with_reducible refine store28 (C := callOf 2) ?_ ?_ hn6 rfl C4.out ?_); rfl; rfl))
  refine (f_len _ D _ _ _ h7).mono ?_
  rintro e w8 ⟨rfl, rfl⟩
  go_wp2_with fail
  refine (f_twice _ D _ _ _ h7 K7.size).mono ?_
  rintro e w9 ⟨rfl, h9, k9⟩
  have e9 : twices [callOf 1] = true := rfl
  have t9 : twice [callOf 1] = [callOf 1, callOf 1] := rfl
  rw [t9] at h9
  rw [e9]
  have K9 := K7.trans (k9.mono fun _ _ h => Nat.le_of_eq h.symm)
  clear d0' d1' d2 hn6 k9 e9 t9
  go_wp2_with fail
  refine (f_len _ D _ _ _ h9).mono ?_
  rintro e w10 ⟨rfl, rfl⟩
  go_wp2_with fail
  go_ret
  exact ⟨rfl, K9⟩
end Go.Proofs.Ytohoeakhnnojjaa
