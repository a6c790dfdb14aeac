/-
  The contracts of Fill, Grow, Concat. Conditions: as each theorem says.
-/
import Derived.Test.YtklmhegmombegaaDoorShaC
import Derived.Lib.AppendZeros
set_option linter.unusedVariables false
set_option linter.unusedSimpArgs false
namespace Go.Proofs.YtklmhegmombegaaDoor
open Go Go.RowKit Plain

/-- The cells of bytes. -/
def bys (l : List Nat) : List Value := l.map fun (n : Nat) => Value.int .u8 (n : Int)
theorem bys_len (l : List Nat) : (bys l).length = l.length := by simp [bys]
theorem bys_app (l m : List Nat) : bys (l ++ m) = bys l ++ bys m := by simp [bys]
theorem bys_one (l : List Nat) : ∀ u ∈ bys l, u.oneCell' = true := fun u hu => by obtain ⟨n, _, rfl⟩ := List.mem_map.1 hu; rfl
/-- New bytes are handed back. -/
def ByPost (l : List Nat) (w : World) (e : Ending) (w' : World) : Prop := ∃ v, e = .returned v ∧ Buf w' w.heap.size 5 1 v l.length (bys l) ∧ Kept (fun _ => False) w w'
theorem Buf.bytes {w : World} {base : Nat} {v : Value} {l : List Nat} (h : Buf w base 5 1 v l.length (bys l)) (h8 : All8 l) : HBytes w v l := by
  refine ⟨h.rd, h8, ?_, fun k e _ => (h.lt k e).2⟩
  rcases h.2 with ⟨_, h0⟩ | ⟨g, cap, cur, _, _, _, h1, h2, _⟩
  · rw [h0]; exact Nat.zero_le _
  · exact Nat.le_trans h1 h2
theorem HBytes.src {w : World} {v : Value} {l : List Nat} (h : HBytes w v l) : Src Tryd.prog 1 28 v l.length (bys l) w := h.1.src Tryd.underlying28 (bys_one l)
theorem Tryd.ifull5 : (Tryd.prog.info? 5).map (fun i => (i.size, i.bytes, i.zero)) = some (1, 1, some (.int .u8 0)) := by kernel_rfl
theorem info5' : ∃ i, Tryd.prog.info? 5 = some i ∧ i.size = 1 ∧ i.bytes = 1 ∧ i.zero = some (.int .u8 0) := by
  obtain ⟨i, hi, hb⟩ := Option.map_eq_some_iff.1 Tryd.ifull5
  simp only [Prod.mk.injEq] at hb
  exact ⟨i, hi, hb.1, hb.2.1, hb.2.2⟩
/-- A new row of one byte, as a slice. -/
theorem Src.byte (w : World) (n : Nat) : Src Tryd.prog 1 28 (.slice (some ⟨w.heap.size, 0, none⟩) 1 1) 1 (bys [n]) (w.alloc (.cells #[.int .u8 (n : Int)] 5)) := by
  have h := Rd.of_block (heap_alloc_new w (.cells #[.int .u8 (n : Int)] 5)) 1 1 1 (Nat.le_refl 1)
  exact h.src Tryd.underlying28 (fun u hu => by obtain rfl := List.mem_singleton.1 hu; rfl)
theorem Buf.byte (w : World) (n : Nat) {base : Nat} (hb : base ≤ w.heap.size) : Buf (w.alloc (.cells #[.int .u8 (n : Int)] 5)) base 5 1 (.slice (some ⟨w.heap.size, 0, none⟩) 1 1) 1 (bys [n]) :=
  ⟨rfl, .inr ⟨w.heap.size, 1, _, rfl, hb, heap_alloc_new w _, Nat.le_refl _, by decide, Nat.le_refl 1, rfl⟩⟩

theorem fill_zeros {n m : Nat} (h1 : 1 ≤ m) (hk : m ≤ zerosOf n + 1) : ((n + m) % 64 = 56) ↔ m = zerosOf n + 1 := by unfold zerosOf at *; omega
/-- How long a slice is. -/
def lenV : Value → Nat
  | .slice _ m _ => m
  | _ => 0
theorem zerosOf_le (n : Nat) : zerosOf n ≤ 63 := by unfold zerosOf; omega
def byteAt (N i : Nat) : Nat := N / 2 ^ (8 * i) % 256
theorem be8_take (N : Nat) {m : Nat} (hm : m < 8) : (be8 N).take (m + 1) = (be8 N).take m ++ [byteAt N (7 - m)] := by
  have h : m = 0 ∨ m = 1 ∨ m = 2 ∨ m = 3 ∨ m = 4 ∨ m = 5 ∨ m = 6 ∨ m = 7 := by omega
  rcases h with rfl | rfl | rfl | rfl | rfl | rfl | rfl | rfl <;> simp [be8, byteAt]
theorem i_u8 (x : Nat) : IntKind.u8.wrap (x : Int) = ((x % 256 : Nat) : Int) := by rw [IntKind.wrap_u8']; omega
theorem i_shr64 (x m : Nat) : IntKind.u8.wrap ((x : Int) / 2 ^ m) = ((x / 2 ^ m % 256 : Nat) : Int) := by
  rw [show ((x : Int) / 2 ^ m) = ((x / 2 ^ m : Nat) : Int) by simp, i_u8]
set_option maxRecDepth 100000 in
set_option maxHeartbeats 4000000 in
theorem f_fill (n : Nat) (w : World) (hn : n ≤ 1000000000) : Calls Tryd.prog 120 #[.int .i64 n] w (ByPost (fill n) w) := by
  obtain ⟨i, hi, hsz, hby, hz⟩ := info5'
  have hb0 := Lib.hid (Buf.byte w 128 (Nat.le_refl _))
  have k0 := Lib.hid ((Kept.refl (fun _ => False) w).alloc (.cells #[.int .u8 128] 5))
  have hzl := zerosOf_le n
  have HFZ := Lib.hid (fun m (h1 : 1 ≤ m) (hk : m ≤ zerosOf n + 1) => fill_zeros h1 hk)
  have HFL : Hid (fill n = 128 :: (List.replicate (zerosOf n) 0 ++ be8 (n * 8 % 2 ^ 64))) := rfl
  have HN8 : Hid (n * 8 % 2 ^ 64 = n * 8) := by show _ = _; omega
  rw [HN8.out] at HFL
  generalize zerosOf n = z at *
  clear HN8
  have hnn : ¬ ((n : Int) < 0) := by omega
  go_enter Tryd.func120, Tryd.ntmps120
  go_wp2_with fail
  generalize w.alloc (.cells #[.int .u8 128] 5) = w1 at *
  go_loopw [3] (fun v wr => ∃ m : Nat, 1 ≤ m ∧ m ≤ z + 1 ∧ Hid (Buf wr w.heap.size 5 1 v m (bys (128 :: List.replicate (m - 1) 0))) ∧ Kept (fun _ => False) w wr) (fun v _ => 100 - lenV v)
  case atStart => exact ⟨1, Nat.le_refl _, by omega, hb0.out, k0.out⟩
  case round =>
    obtain ⟨m, h1m, hmz, HB, K⟩ := hrel
    have KR := Lib.hid K
    obtain ⟨a, c, rfl, _⟩ := HB.out.form
    have hfz := HFZ.out m h1m hmz
    have hws := K.size
    clear K
    by_cases hlt : m = z + 1
    · have t1 : (((n : Int) + (m : Int)) % 64 != 56) = false := by
        have := hfz.2 hlt
        simp; omega
      have HM := Lib.hid hlt
      clear hfz hlt
      go_wp2_with fail
      have HB0 : Hid (Buf wr w.heap.size 5 1 (.slice a m c) (m + 0) (bys (128 :: List.replicate z 0 ++ (be8 (n * 8)).take 0))) := by
        show Buf _ _ _ _ _ _ _
        have h := HB.out
        rw [HM.out] at h ⊢
        simpa using h
      go_loopw [3, 5] (fun v i wr => ∃ j : Nat, j ≤ 8 ∧ i = .int .i64 (7 - (j : Int)) ∧ Hid (Buf wr w.heap.size 5 1 v (m + j) (bys (128 :: List.replicate z 0 ++ (be8 (n * 8)).take j))) ∧ Kept (fun _ => False) w wr) (fun _ i _ => (intOf i + 1).toNat)
      case atStart => exact ⟨0, by omega, rfl, HB0.out, KR.out⟩
      case round =>
        obtain ⟨j, hj8, rfl, HB, K⟩ := hrel
        have KR := Lib.hid K
        obtain ⟨a, c, rfl, _⟩ := HB.out.form
        have hws := K.size
        clear K
        by_cases hlt : j < 8
        · obtain ⟨q, hq⟩ : ∃ q, q + j = 7 := ⟨7 - j, by omega⟩
          have e7 : (7 - (j : Int)) = (q : Int) := by omega
          rw [e7]
          have n1 : (8 * (q : Int)).toNat = 8 * q := by omega
          have eb : IntKind.u8.wrap ((n : Int) * 8 / 2 ^ (8 * q)) = ((byteAt (n * 8) q : Nat) : Int) := by
            have h := i_shr64 (n * 8) (8 * q)
            rw [show ((n * 8 : Nat) : Int) = (n : Int) * 8 by simp] at h
            exact h
          have hsrc := Lib.hid (Src.byte wr (byteAt (n * 8) q))
          have hbuf : Hid (Buf (wr.alloc (.cells #[.int .u8 ((byteAt (n * 8) q : Nat) : Int)] 5)) w.heap.size 5 1 (.slice a (m + j) c) (m + j) (bys (128 :: List.replicate z 0 ++ (be8 (n * 8)).take j))) := HB.out.kept (S := fun _ => False) ((Kept.refl _ wr).alloc _) (fun _ _ h => h)
          have hws2 : w.heap.size ≤ (wr.alloc (.cells #[.int .u8 ((byteAt (n * 8) q : Nat) : Int)] 5)).heap.size := by simp; omega
          have HW2 := Lib.hid hws2
          have hq7 : q ≤ 7 := by omega
          have HBT := Lib.hid (be8_take (n * 8) hlt)
          have HQ : Hid (q = 7 - j) := by show _ = _; omega
          have HME : Hid (m = z + 1) := HM.out
          clear hws2 e7 hq
          go_wp2_with (first | fail | (at_builtin; refine wpList_append_buf _ rfl (.tmp 25) (.tmp 31) 28 28 rfl w.heap.size 5 i (.int .u8 0) 1 1 Tryd.underlying28 hi hz hsz hby rfl (by decide) (.slice a (m + j) c) (m + j) (bys (128 :: List.replicate z 0 ++ (be8 (n * 8)).take j)) rfl hbuf.out _ _ _ rfl hsrc.out (by unfold maxLen; omega) (by omega) HW2.out ?_; intro v' w' hb' hg' ho' hn'; have HB3 := Lib.hid hb'; have HG3 := Lib.hid hg'; clear hb' hg' ho' hn'))
          have HB4 : Hid (Buf w' w.heap.size 5 1 v' (m + (j + 1)) (bys (128 :: List.replicate z 0 ++ (be8 (n * 8)).take (j + 1)))) := by
            have h := HB3.out
            rw [← bys_app, List.append_assoc, HQ.out, ← HBT.out] at h
            exact h
          have KF : Hid (Kept (fun _ => False) w w') := (KR.out.alloc (.cells #[.int .u8 ((byteAt (n * 8) q : Nat) : Int)] 5)).grown HG3.out (fun j hj => .inr (HB.out.lt j hj).1)
          have hq2 := HQ.out
          go_roundw
          case rel => exact ⟨j + 1, by omega, by congr 1; omega, HB4.out, KF.out⟩
          case measure => simp [intOf]
        · obtain rfl : j = 8 := by omega
          have HBF : Hid (Buf wr w.heap.size 5 1 (.slice a (m + 8) c) (fill n).length (bys (fill n))) := by
            have h := HB.out
            have h8 : (be8 (n * 8)).take 8 = be8 (n * 8) := List.take_of_length_le (by simp [be8])
            rw [h8] at h
            show Buf _ _ _ _ _ _ _
            have hl : (fill n).length = m + 8 := by rw [HFL.out, HM.out]; simp [be8]
            rw [hl, HFL.out]
            exact h
          go_wp2_with fail
          go_ret
          exact ⟨_, rfl, HBF.out, KR.out⟩
    · have t1 : (((n : Int) + (m : Int)) % 64 != 56) = true := by
        have h3 : ¬ ((n + m) % 64 = 56) := fun h => hlt (hfz.1 h)
        simp; omega
      have hsrc := Lib.hid (Src.byte wr 0)
      have hbuf : Hid (Buf (wr.alloc (.cells #[.int .u8 0] 5)) w.heap.size 5 1 (.slice a m c) m (bys (128 :: List.replicate (m - 1) 0))) := HB.out.kept (S := fun _ => False) ((Kept.refl _ wr).alloc _) (fun _ _ h => h)
      have hws2 : w.heap.size ≤ (wr.alloc (.cells #[.int .u8 0] 5)).heap.size := by simp; omega
      have HW2 := Lib.hid hws2
      clear hfz hws2
      go_wp2_with (first | fail | (at_builtin; refine wpList_append_buf _ rfl (.tmp 15) (.tmp 16) 28 28 rfl w.heap.size 5 i (.int .u8 0) 1 1 Tryd.underlying28 hi hz hsz hby rfl (by decide) (.slice a m c) m (bys (128 :: List.replicate (m - 1) 0)) rfl hbuf.out _ _ _ rfl hsrc.out (by unfold maxLen; omega) (by omega) HW2.out ?_; intro v' w' hb' hg' ho' hn'; have HB3 := Lib.hid hb'; have HG3 := Lib.hid hg'; clear hb' hg' ho' hn'))
      have HB4 : Hid (Buf w' w.heap.size 5 1 v' (m + 1) (bys (128 :: List.replicate (m + 1 - 1) 0))) := by
        have h := HB3.out
        rw [← bys_app] at h
        show Buf _ _ _ _ _ _ _
        obtain ⟨j, rfl⟩ : ∃ j, m = j + 1 := ⟨m - 1, by omega⟩
        simpa [List.replicate_succ'] using h
      have KF : Hid (Kept (fun _ => False) w w') := (KR.out.alloc (.cells #[.int .u8 0] 5)).grown HG3.out (fun j hj => .inr (HB.out.lt j hj).1)
      obtain ⟨a', c', hv', _⟩ := HB4.out.form
      subst hv'
      go_roundw
      case rel => exact ⟨m + 1, by omega, by omega, HB4.out, KF.out⟩
      case measure => simp [lenV]; omega

/-! ## Grow, Concat -/
set_option maxRecDepth 100000 in
/-- Room for n bytes, of nothing. -/
theorem f_grow (n : Nat) (w : World) (hn : n ≤ 1000000000) : Calls Tryd.prog 130 #[.slice none 0 0, .int .i64 n] w (fun e w' => ∃ v, e = .returned v ∧ Buf w' w.heap.size 5 1 v 0 [] ∧ Kept (fun _ => False) w w') := by
  obtain ⟨i, hi, hsz, hby, hz⟩ := info5'
  have hnn : ¬ ((n : Int) < 0) := by omega
  by_cases h0 : n = 0
  · subst h0
    go_enter Tryd.func130, Tryd.ntmps130
    go_wp2_with fail
    go_ret
    exact ⟨_, rfl, Buf.nil _ _ _ _, Kept.refl _ _⟩
  · have hp : 0 < (n : Int) := by omega
    have hr := Lib.hid (Lib.run_append_nil_zeros (P := Tryd.prog) w 28 3 28 5 i (.int .u8 0) .i64 .i64 Tryd.underlying28 Tryd.underlying3 hi hz n (by omega) (by rw [hsz]; decide) (by omega) (by rw [hby]; omega))
    have hge := grownCap_ge w n 0 5
    have hcm := grownCap_le_maxLen w n 0 5 (by unfold maxLen; omega)
    have hg := heap_alloc_new w.drew (.cells (Builtin.zeroCells (Value.int .u8 0).cells n ++ Builtin.zeroCells (Value.int .u8 0).cells (grownCap w n 0 5 - n)) 5)
    have HB : Hid (Buf (w.drew.alloc (.cells (Builtin.zeroCells (Value.int .u8 0).cells n ++ Builtin.zeroCells (Value.int .u8 0).cells (grownCap w n 0 5 - n)) 5)) w.heap.size 5 1 (.slice (some ⟨w.heap.size, 0, none⟩) 0 (grownCap w n 0 5)) 0 []) :=
      ⟨rfl, .inr ⟨w.heap.size, _, _, rfl, Nat.le_refl _, hg, Nat.zero_le _, hcm, by simp [Builtin.zeroCells, Value.cells]; omega, rfl⟩⟩
    have KF := Lib.hid (((Kept.refl (fun _ => False) w).drew).alloc (.cells (Builtin.zeroCells (Value.int .u8 0).cells n ++ Builtin.zeroCells (Value.int .u8 0).cells (grownCap w n 0 5 - n)) 5))
    clear hg
    generalize (w.drew.alloc (.cells (Builtin.zeroCells (Value.int .u8 0).cells n ++ Builtin.zeroCells (Value.int .u8 0).cells (grownCap w n 0 5 - n)) 5)) = w2 at *
    generalize grownCap w n 0 5 = cap at *
    go_enter Tryd.func130, Tryd.ntmps130
    go_wp2_with (first | fail | (at_builtin; refine Lib.wpList_append_run _ rfl _ _ _ _ rfl _ _ rfl rfl _ _ hr.out ?_))
    go_ret
    exact ⟨_, rfl, HB.out, KF.out⟩
/-- A slice of slices of bytes. -/
def HParts (w : World) (v : Value) (ps : List (Value × List Nat)) : Prop := Rd w 1 v ps.length (ps.map (·.1)) ∧ (∀ p ∈ ps, HBytes w p.1 p.2) ∧ ps.length ≤ maxLen ∧ ∀ k, v.ownBlock = some k → k < w.heap.size
theorem HParts.kept {w w' : World} {v : Value} {ps : List (Value × List Nat)} (h : HParts w v ps) (k : Kept (fun _ => False) w w') : HParts w' v ps :=
  ⟨h.1.kept k (fun _ _ h => h), fun p hp => (h.2.1 p hp).kept k, h.2.2.1, fun j e => Nat.lt_of_lt_of_le (h.2.2.2 j e) k.size⟩
theorem HParts.form {w : World} {v : Value} {ps : List (Value × List Nat)} (h : HParts w v ps) : ∃ a c, v = .slice a ps.length c := by obtain ⟨⟨_, a, c, e, _⟩, _⟩ := h; exact ⟨a, c, e⟩
theorem HParts.at {w : World} {v : Value} {ps : List (Value × List Nat)} (h : HParts w v ps) {i : Nat} (hi : i < ps.length) : ∃ b o c, v = .slice (some ⟨b, o, none⟩) ps.length c ∧ w.cell? ⟨b, o + i, none⟩ = some ps[i].1 := by
  obtain ⟨b, o, c, e, hc⟩ := h.1.addr (by omega)
  exact ⟨b, o, c, e, hc i _ (by simp [hi])⟩
/-- All bytes of the first k. -/
def partsTo (ps : List (Value × List Nat)) (k : Nat) : List Nat := (ps.take k).flatMap (·.2)
theorem partsTo_succ {ps : List (Value × List Nat)} {k : Nat} (h : k < ps.length) : partsTo ps (k + 1) = partsTo ps k ++ ps[k].2 := by
  unfold partsTo
  rw [← List.take_append_getElem h, List.flatMap_append]; simp
theorem partsTo_le (ps : List (Value × List Nat)) (k : Nat) : (partsTo ps k).length ≤ (ps.flatMap (·.2)).length := by
  unfold partsTo
  conv => rhs; rw [← List.take_append_drop k ps]
  rw [List.flatMap_append, List.length_append]; omega
set_option maxRecDepth 100000 in
set_option maxHeartbeats 4000000 in
theorem f_concat (v : Value) (ps : List (Value × List Nat)) (w : World) (hP : HParts w v ps) (ht : (ps.flatMap (·.2)).length ≤ 1000000000) : Calls Tryd.prog 117 #[v] w (ByPost (ps.flatMap (·.2)) w) := by
  obtain ⟨i, hi, hsz, hby, hz⟩ := info5'
  obtain ⟨a, c, rfl⟩ := hP.form
  have hlm := hP.2.2.1
  unfold maxLen at hlm
  have HP := Lib.hid hP
  have HTL := Lib.hid (fun k => Nat.le_trans (partsTo_le ps k) ht)
  have HG := Lib.hid (fun w' => f_grow (ps.flatMap (·.2)).length w' ht)
  clear hP
  go_enter Tryd.func117, Tryd.ntmps117
  go_wp2_with fail
  go_loop [3, 11] (fun s j => ∃ k : Nat, k ≤ ps.length ∧ j = .int .i64 k ∧ s = .int .i64 ((partsTo ps k).length : Nat)) (fun _ j => ps.length - (intOf j).toNat)
  case atStart => exact ⟨0, Nat.zero_le _, rfl, rfl⟩
  case round =>
    obtain ⟨k, hk, rfl, rfl⟩ := hrel
    have htk := HTL.out k
    have htk1 := HTL.out (k + 1)
    by_cases hlt : k < ps.length
    · obtain ⟨b1, o1, c1, e1, x0⟩ := HP.out.at hlt
      simp only [Value.slice.injEq, true_and] at e1
      obtain ⟨rfl, rfl⟩ := e1
      have HB := HP.out.2.1 ps[k] (List.getElem_mem _)
      have HS := Lib.hid (partsTo_succ hlt)
      have hls : (partsTo ps (k + 1)).length = (partsTo ps k).length + ps[k].2.length := by rw [HS.out, List.length_append]
      generalize ps[k] = p at x0 HB HS hls
      obtain ⟨pv, pl⟩ := p
      dsimp only at x0 HB HS hls
      obtain ⟨a2, c2, rfl⟩ := HB.form
      have HLS := Lib.hid hls
      rw [hls] at htk1
      generalize (partsTo ps k).length = tk at *
      have hn1 : ¬ ((tk : Int) + (pl.length : Int) < 0) := by omega
      clear hls
      go_wp2_with fail
      go_round
      case rel => exact ⟨k + 1, by omega, by go_num, by rw [HLS.out]; go_num⟩
      case measure => simp [intOf]; omega
    · obtain rfl : k = ps.length := by omega
      have he : partsTo ps ps.length = ps.flatMap (·.2) := by unfold partsTo; rw [List.take_length]
      rw [he]
      have HE := Lib.hid he
      obtain ⟨tl, htl⟩ : ∃ tl, (ps.flatMap (·.2)).length = tl := ⟨_, rfl⟩
      rw [htl] at HG ht ⊢
      have HTLN := Lib.hid htl
      clear htk htk1 he htl
      go_wp2_with fail
      refine (HG.out _).mono ?_
      rintro e w2 ⟨v2, rfl, hb2, k2⟩
      have HB2 := Lib.hid hb2
      have K2 := Lib.hid k2
      clear hb2 k2
      go_wp2_with fail
      go_loopw [6, 27] (fun x j wr => ∃ k : Nat, k ≤ ps.length ∧ j = .int .i64 k ∧ Hid (Buf wr w.heap.size 5 1 x (partsTo ps k).length (bys (partsTo ps k))) ∧ Kept (fun _ => False) w wr) (fun _ j _ => ps.length - (intOf j).toNat)
      case atStart => exact ⟨0, Nat.zero_le _, rfl, HB2.out, K2.out⟩
      case round =>
        obtain ⟨k, hk, rfl, HB, K⟩ := hrel
        have KR := Lib.hid K
        have htk := HTL.out k
        have htk1 := HTL.out (k + 1)
        obtain ⟨av, cv, rfl, _⟩ := HB.out.form
        by_cases hlt : k < ps.length
        · obtain ⟨b1, o1, c1, e1, x0⟩ := (HP.out.kept K).at hlt
          simp only [Value.slice.injEq, true_and] at e1
          obtain ⟨rfl, rfl⟩ := e1
          have hpb := (HP.out.kept K).2.1 ps[k] (List.getElem_mem _)
          have HS := Lib.hid (partsTo_succ hlt)
          generalize ps[k] = p at x0 hpb HS
          obtain ⟨pv, pl⟩ := p
          dsimp only at x0 hpb HS
          have hls : (partsTo ps (k + 1)).length = (partsTo ps k).length + pl.length := by rw [HS.out, List.length_append]
          rw [hls] at htk1
          obtain ⟨a2, c2, rfl⟩ := hpb.form
          have hsrc := Lib.hid hpb.src
          have HWS := Lib.hid K.size
          have HLS := Lib.hid hls
          clear hpb K hls
          go_wp2_with (first | fail | (at_builtin; refine wpList_append_buf _ rfl (.tmp 31) (.tmp 32) 28 28 rfl w.heap.size 5 i (.int .u8 0) 1 1 Tryd.underlying28 hi hz hsz hby rfl (by decide) _ _ _ rfl HB.out _ _ _ rfl hsrc.out (by unfold maxLen; omega) (by omega) HWS.out ?_; intro v' w' hb' hg' ho' hn'; have HB3 := Lib.hid hb'; have HG3 := Lib.hid hg'; clear hb' hg' ho' hn'))
          have HB4 : Hid (Buf w' w.heap.size 5 1 v' (partsTo ps (k + 1)).length (bys (partsTo ps (k + 1)))) := by
            show Buf _ _ _ _ _ _ _
            rw [HLS.out, HS.out, bys_app]
            exact HB3.out
          have KF : Hid (Kept (fun _ => False) w w') := KR.out.grown HG3.out (fun j hj => .inr (HB.out.lt j hj).1)
          go_roundw
          case rel => exact ⟨k + 1, by omega, by go_num, HB4.out, KF.out⟩
          case measure => simp [intOf]; omega
        · obtain rfl : k = ps.length := by omega
          clear K htk htk1
          have HBF : Hid (Buf wr w.heap.size 5 1 (.slice av (partsTo ps ps.length).length cv) (ps.flatMap (·.2)).length (bys (ps.flatMap (·.2)))) := by
            have h := HB.out
            show Buf _ _ _ _ _ _ _
            rw [HE.out] at h ⊢
            exact h
          go_wp2_with fail
          go_ret
          exact ⟨_, rfl, HBF.out, KR.out⟩
end Go.Proofs.YtklmhegmombegaaDoor
