/-
  The contracts of wire's Num and of slices.Reverse of two bytes. Conditions: as each theorem says.
-/
import Derived.Test.YtklmhegmombegaaDoorKeyB
import Derived.BigRegion
set_option linter.unusedVariables false
set_option linter.unusedSimpArgs false
namespace Go.Proofs.YtklmhegmombegaaDoor
open Go Go.RowKit Plain

/-- The two bytes exchanged. -/
def swp (cur : Array Value) (x y : Nat) : Array Value := (cur.setIfInBounds 0 (.int .u8 (y : Nat))).setIfInBounds 1 (.int .u8 (x : Nat))
theorem swp_take {cur : Array Value} (x y : Nat) (h : 2 ≤ cur.size) : (swp cur x y).toList.take 2 = bys [y, x] := by
  obtain ⟨l⟩ := cur
  match l, h with
  | a :: b :: t, _ => simp [swp, bys]
  | [], h => simp at h
  | [a], h => simp at h
theorem f_rev1 (g cap : Nat) (w : World) : Calls Tryd.prog 118 #[.slice (some ⟨g, 0, none⟩) 1 cap] w fun e w' => (∃ v, e = .returned v) ∧ w = w' := by
  go_enter Tryd.func118, Tryd.ntmps118
  go_wp2_with fail
  go_loopw [2, 3] (fun i j wr => i = .int .i64 0 ∧ j = .int .i64 0 ∧ w = wr) (fun i _ _ => 0)
  case atStart => exact ⟨rfl, rfl, rfl⟩
  case round =>
    obtain ⟨rfl, rfl, rfl⟩ := hrel
    go_wp2_with fail
    go_end0
    exact ⟨⟨_, rfl⟩, rfl⟩
set_option maxRecDepth 100000 in
set_option maxHeartbeats 4000000 in
theorem f_rev2 (g cap x y : Nat) (cur : Array Value) (w : World) (hg : w.heap[g]? = some (.cells cur 5 (0, 0))) (h0 : cur[0]? = some (.int .u8 (x : Nat))) (h1 : cur[1]? = some (.int .u8 (y : Nat))) :
    Calls Tryd.prog 118 #[.slice (some ⟨g, 0, none⟩) 2 cap] w fun e w' => (∃ v, e = .returned v) ∧ w'.heap[g]? = some (.cells (swp cur x y) 5 (0, 0)) ∧ Kept (fun j => j = g) w w' := by
  have c0 := row_cell hg h0
  have c1 := row_cell hg h1
  have f0 := free_of_block (j := 0) hg
  have f1 := free_of_block (j := 1) hg
  have G := Lib.hid hg
  clear hg h0 h1
  go_enter Tryd.func118, Tryd.ntmps118
  go_wp2_with fail
  go_loopw [2, 3] (fun i j wr => (i = .int .i64 0 ∧ j = .int .i64 1 ∧ wr = w) ∨ (i = .int .i64 1 ∧ j = .int .i64 0 ∧ Hid (wr.heap[g]? = some (.cells (swp cur x y) 5 (0, 0))) ∧ Kept (fun j => j = g) w wr)) (fun i j _ => (intOf j).toNat)
  case atStart => exact .inl ⟨rfl, rfl, rfl⟩
  case round =>
    rcases hrel with ⟨rfl, rfl, rfl⟩ | ⟨rfl, rfl, HG, K⟩
    · go_upto_region 3 with (fail)
      go_region
      have hn : ((wr.setCell ⟨g, 0, none⟩ (.int .u8 (y : Nat))).setCell ⟨g, 1, none⟩ (.int .u8 (x : Nat))).drew.heap[g]? = some (.cells (swp cur x y) 5 (0, 0)) := setCell_block (setCell_block G.out _) _
      have kn : Kept (fun j => j = g) wr ((wr.setCell ⟨g, 0, none⟩ (.int .u8 (y : Nat))).setCell ⟨g, 1, none⟩ (.int .u8 (x : Nat))).drew := (((Kept.refl (fun j => j = g) wr).setCell (p := ⟨g, 0, none⟩) (.inl rfl) _).setCell (p := ⟨g, 1, none⟩) (.inl rfl) _).drew
      have HNN := Lib.hid hn
      have KNN := Lib.hid kn
      clear hn kn c0 c1 f0 f1
      generalize ((wr.setCell ⟨g, 0, none⟩ (.int .u8 (y : Nat))).setCell ⟨g, 1, none⟩ (.int .u8 (x : Nat))).drew = wn at *
      go_wp2_with fail
      go_roundw
      case rel => exact .inr ⟨rfl, rfl, HNN.out, KNN.out⟩
      case measure => simp [intOf]
    · have KR := Lib.hid K
      clear K c0 c1 f0 f1
      go_wp2_with fail
      go_end0
      exact ⟨⟨_, rfl⟩, HG.out, KR.out⟩
namespace Plain
/-- A number's bytes, of a number that needs no third one. -/
def numB (n : Nat) : List Nat := if n < 128 then [n] else [n / 128 + 128, n % 128]
end Plain
theorem Buf.two {w : World} {base : Nat} {v : Value} {x y : Nat} (h : Buf w base 5 1 v 2 (bys [x, y])) : ∃ g cap cur, v = .slice (some ⟨g, 0, none⟩) 2 cap ∧ base ≤ g ∧ w.heap[g]? = some (.cells cur 5 (0, 0)) ∧ cur[0]? = some (.int .u8 (x : Nat)) ∧ cur[1]? = some (.int .u8 (y : Nat)) ∧ 2 ≤ cap ∧ cap ≤ maxLen ∧ cap ≤ cur.size := by
  rcases h.2 with ⟨_, h0⟩ | ⟨g, cap, cur, e, h1, h2, h3, h4, h5, h6⟩
  · omega
  · refine ⟨g, cap, cur, e, h1, h2, ?_, ?_, h3, h4, by omega⟩
    · have := congrArg (fun l => l[0]?) h6
      rw [List.getElem?_take] at this
      simpa [bys] using this
    · have := congrArg (fun l => l[1]?) h6
      rw [List.getElem?_take] at this
      simpa [bys] using this
set_option maxRecDepth 100000 in
set_option maxHeartbeats 4000000 in
theorem f_num (n : Nat) (w : World) (hn : n < 16384) : Calls Tryd.prog 94 #[.int .i64 n] w (ByPost (numB n) w) := by
  obtain ⟨i5, hi, hsz, hby, hz⟩ := info5'
  have t1 : ¬ ((n : Int) < 0) := by omega
  have t2 : ¬ (2147483647 < (n : Int)) := by omega
  by_cases hlt : n < 128
  · have E : Hid (numB n = [n]) := by show _ = _; rw [numB, if_pos hlt]
    have m1 : (n : Int) % 128 = (n : Int) := by omega
    have q1 : (n : Int) / 128 = 0 := by omega
    have q2 : (n : Int) / 2 ^ 7 = 0 := by omega
    have e1 := i_u8 n
    rw [show n % 256 = n by omega] at e1
    have hb1 := Lib.hid (Buf.byte w n (Nat.le_refl _))
    have k1 := Lib.hid ((Kept.refl (fun _ => False) w).alloc (.cells #[.int .u8 (n : Int)] 5))
    go_enter Tryd.func94, Tryd.ntmps94
    go_wp2_with fail
    generalize w.alloc (.cells #[.int .u8 (n : Int)] 5) = w1 at *
    go_loopw [0, 3] (fun a b wr => a = .int .i64 0 ∧ b = .slice (some ⟨w.heap.size, 0, none⟩) 1 1 ∧ w1 = wr) (fun _ _ _ => 0)
    case atStart => exact ⟨rfl, rfl, rfl⟩
    case round =>
      obtain ⟨rfl, rfl, rfl⟩ := hrel
      go_wp2_with fail
      refine (f_rev1 _ _ _).mono ?_
      rintro e w2 ⟨⟨v, rfl⟩, rfl⟩
      go_wp2_with fail
      go_ret
      exact ⟨_, rfl, by rw [E.out]; exact hb1.out, k1.out⟩
  · have E : Hid (numB n = [n / 128 + 128, n % 128]) := by show _ = _; rw [numB, if_neg hlt]
    obtain ⟨q, r, hq, hr, hnq⟩ : ∃ q r : Nat, n / 128 = q ∧ n % 128 = r ∧ n = 128 * q + r := ⟨n / 128, n % 128, rfl, rfl, by omega⟩
    have hr8 : r < 128 := by omega
    have hq8 : q < 128 := by omega
    have hq1 : 1 ≤ q := by omega
    rw [hq, hr] at E
    have m1 : (n : Int) % 128 = (r : Int) := by omega
    have q1 : (n : Int) / 128 = (q : Int) := by omega
    have q2 : (n : Int) / 2 ^ 7 = (q : Int) := by omega
    have e1 := i_u8 r
    rw [show r % 256 = r by omega] at e1
    have hb1 := Lib.hid (Buf.byte w r (Nat.le_refl _))
    have k1 := Lib.hid ((Kept.refl (fun _ => False) w).alloc (.cells #[.int .u8 (r : Int)] 5))
    clear hq hr hnq
    go_enter Tryd.func94, Tryd.ntmps94
    go_wp2_with fail
    generalize w.alloc (.cells #[.int .u8 (r : Int)] 5) = w1 at *
    clear m1 q1 q2 e1
    go_loopw [0, 3] (fun a b wr => (a = .int .i64 q ∧ b = .slice (some ⟨w.heap.size, 0, none⟩) 1 1 ∧ w1 = wr) ∨ (a = .int .i64 0 ∧ Hid (Buf wr w.heap.size 5 1 b 2 (bys [r, q + 128])) ∧ Kept (fun _ => False) w wr)) (fun a _ _ => (intOf a).toNat)
    case atStart => exact .inl ⟨rfl, rfl, rfl⟩
    case round =>
      rcases hrel with ⟨rfl, rfl, rfl⟩ | ⟨rfl, HB, K⟩
      · have m1 : (q : Int) % 128 = (q : Int) := by omega
        have q1 : (q : Int) / 128 = 0 := by omega
        have q2 : (q : Int) / 2 ^ 7 = 0 := by omega
        have e1 := i_u8 q
        rw [show q % 256 = q by omega] at e1
        have e2 : bits .or .u8 (q : Int) 128 = ((q + 128 : Nat) : Int) := by
          have := u8_or128_right (q : Int) (by omega) (by omega)
          rw [this]; omega
        have hq0 : 0 < (q : Int) := by omega
        have hb2 := Lib.hid (hb1.out.kept (S := fun _ => False) ((Kept.refl _ w1).alloc (.cells #[.int .u8 ((q + 128 : Nat) : Int)] 5)) (fun _ _ h => h))
        have hsrc := Lib.hid (Src.byte w1 (q + 128))
        have k2 := Lib.hid (k1.out.alloc (.cells #[.int .u8 ((q + 128 : Nat) : Int)] 5))
        have hws := Lib.hid k2.out.size
        go_wp2_with (first | fail | (at_builtin; refine wpList_append_buf _ rfl (.tmp 20) (.tmp 25) 28 28 rfl w.heap.size 5 i5 (.int .u8 0) 1 1 Tryd.underlying28 hi hz hsz hby rfl (by decide) _ _ _ rfl hb2.out _ _ _ rfl hsrc.out (by decide) (by decide) hws.out ?_; intro v' w' hb' hg' ho' hn'; have HB4 := Lib.hid hb'; have HG4 := Lib.hid hg'; clear hb' hg' ho' hn'))
        have KF : Hid (Kept (fun _ => False) w w') := k2.out.grown HG4.out (fun j hj => by have hj' : some w.heap.size = some j := hj; simp only [Option.some.injEq] at hj'; exact .inr (by omega))
        go_roundw
        case rel => exact .inr ⟨rfl, HB4.out, KF.out⟩
        case measure => simp [intOf]; omega
      · obtain ⟨g, cap, cur, rfl, hbg, hrow, h0, h1, hc2, hcm, hcs⟩ := HB.out.two
        have HF := Lib.hid (f_rev2 g cap r (q + 128) cur wr hrow h0 h1)
        have KR := Lib.hid K
        have HS : Hid (bys [q + 128, r] = ((swp cur r (q + 128)).toList.take (2 * 1))) := by
          show _ = _
          exact (swp_take r (q + 128) (by omega)).symm
        clear hrow h0 h1 K
        go_wp2_with fail
        refine HF.out.mono ?_
        rintro e w2 ⟨⟨v, rfl⟩, hr2, k2⟩
        have KF : Hid (Kept (fun _ => False) w w2) := KR.out.trans' k2 (fun i hi e => by omega)
        have HB2 : Hid (Buf w2 w.heap.size 5 1 (.slice (some ⟨g, 0, none⟩) 2 cap) 2 (bys [q + 128, r])) := ⟨rfl, .inr ⟨g, cap, _, rfl, hbg, hr2, hc2, hcm, by simp [swp]; omega, HS.out.symm⟩⟩
        clear hr2 k2 HF
        go_wp2_with fail
        go_ret
        exact ⟨_, rfl, by rw [E.out]; exact HB2.out, KF.out⟩
end Go.Proofs.YtklmhegmombegaaDoor
