/-
  The contract of mac's Of. Conditions: as each theorem says.
  The contracts of mac's Of and keys' text. Conditions: as each theorem says.
-/
import Derived.Test.YtklmhegmombegaaDoorNumA
import Derived.Test.YtklmhegmombegaaDoorKeyD
set_option linter.unusedVariables false
set_option linter.unusedSimpArgs false
namespace Go.Proofs.YtklmhegmombegaaDoor
open Go Go.RowKit Plain

namespace Plain
/-- Bytes behind how many they are. -/
def lenB (l : List Nat) : List Nat := beN 4 l.length ++ l
theorem lenB_len (l : List Nat) : (lenB l).length = 4 + l.length := by rw [lenB, List.length_append, beN_len]
theorem lenB_all {l : List Nat} (h : All8 l) : All8 (lenB l) := fun x hx => by
  rcases List.mem_append.1 hx with hx | hx
  · exact beN_all _ _ x hx
  · exact h x hx
/-- The digest of a domain and parts. -/
def macOf (d : Nat) (ls : List (List Nat)) : List Nat := sha (d :: ls.flatMap lenB)
end Plain
theorem i_u64n {n : Nat} (h : n < 18446744073709551616) : IntKind.u64.wrap (n : Int) = (n : Int) := by rw [IntKind.wrap_u64]; omega
set_option maxRecDepth 100000 in
set_option maxHeartbeats 4000000 in
theorem f_of1 (v : Value) (l : List Nat) (w : World) (h : HBytes w v l) (hl : l.length ≤ 1000000) : Calls Tryd.prog 116 #[v] w (ByPost (lenB l) w) := by
  have HR := Lib.hid (f_row l.length 4 w (by omega) (.inr rfl))
  have e1 := i_u64n (n := l.length) (by omega)
  have H := Lib.hid h
  obtain ⟨a, c, rfl⟩ := h.form
  have HL : Hid (lenB l = beN 4 l.length ++ l) := rfl
  have HBA := Lib.hid (beN_all 4 l.length)
  have HBL := Lib.hid (beN_len 4 l.length)
  generalize beN 4 l.length = bl at *
  clear h
  go_enter Tryd.func116, Tryd.ntmps116
  go_wp2_with fail
  refine HR.out.mono ?_
  rintro e w1 ⟨v1, rfl, hb1, k1⟩
  have HX1 := Lib.hid (Buf.bytes hb1 HBA.out)
  have H1 := Lib.hid (H.out.kept k1)
  rw [HBL.out] at hb1
  obtain ⟨a1, c1, rfl, -, -⟩ := hb1.form
  have k2 := (Kept.refl (fun _ => False) w1).alloc (.cells #[.slice a1 4 c1, .slice a l.length c] 28)
  have hn2 := heap_alloc_new w1 (.cells #[.slice a1 4 c1, .slice a l.length c] 28)
  have HP : Hid (HParts (w1.alloc (.cells #[.slice a1 4 c1, .slice a l.length c] 28)) (.slice (some ⟨w1.heap.size, 0, none⟩) 2 2) [(.slice a1 4 c1, bl), (.slice a l.length c, l)]) :=
    HParts.of_block (ps := [(.slice a1 4 c1, bl), (.slice a l.length c, l)]) hn2 rfl (by simp) (fun p hp => by
      rcases List.mem_cons.1 hp with rfl | hp
      · exact HX1.out.kept k2
      · obtain rfl := List.mem_singleton.1 hp
        exact H1.out.kept k2) (by simp; decide) 2
  have HT : Hid ([(.slice a1 4 c1, bl), ((.slice a l.length c, l) : Value × List Nat)].flatMap (·.2) = bl ++ l) := by show _ = _; simp
  have HC := Lib.hid (f_concat _ _ _ HP.out (by rw [HT.out, List.length_append, HBL.out]; omega))
  rw [HT.out, ← HL.out] at HC
  have K2 := Lib.hid (k1.trans k2)
  have hsz : w.heap.size ≤ (w1.alloc (.cells #[.slice a1 4 c1, .slice a l.length c] 28)).heap.size := K2.out.size
  have HSZ := Lib.hid hsz
  clear k1 k2 hn2 hb1 HX1 H1 hsz
  go_wp2_with fail
  refine HC.out.mono ?_
  rintro e w3 ⟨v3, rfl, hb3, k3⟩
  have HB3 := Lib.hid (hb3.mono HSZ.out)
  have K3 := Lib.hid (K2.out.trans k3)
  clear hb3 k3
  go_wp2_with fail
  go_ret
  exact ⟨_, rfl, HB3.out, K3.out⟩
theorem len_take_le (f : Value × List Nat → List Nat) (ps : List (Value × List Nat)) (k : Nat) : ((ps.take k).flatMap f).length ≤ (ps.flatMap f).length := by
  conv => rhs; rw [← List.take_append_drop k ps]
  rw [List.flatMap_append, List.length_append]; omega
theorem take_flat_succ (f : Value × List Nat → List Nat) {ps : List (Value × List Nat)} {k : Nat} (h : k < ps.length) : (ps.take (k + 1)).flatMap f = (ps.take k).flatMap f ++ f ps[k] := by
  rw [← List.take_append_getElem h, List.flatMap_append]; simp
set_option maxRecDepth 100000 in
set_option maxHeartbeats 4000000 in
theorem f_joinedB (v : Value) (ps : List (Value × List Nat)) (w : World) (hv : HParts w v ps) (hn : ps.length ≤ 1000) (ht : (ps.flatMap fun p => lenB p.2).length ≤ 1000000) : Calls Tryd.prog 115 #[v, .func (.func 116) #[] #[]] w (ByPost (ps.flatMap fun p => lenB p.2) w) := by
  obtain ⟨i5, hi, hsz, hby, hz⟩ := info5'
  obtain ⟨a, c, rfl⟩ := hv.form
  have HV := Lib.hid hv
  have HLE := Lib.hid (fun k => Nat.le_trans (len_take_le (fun p => lenB p.2) ps k) ht)
  clear hv
  go_enter Tryd.func115, Tryd.ntmps115
  go_wp2_with fail
  go_loopw [5, 10] (fun x j wr => ∃ k : Nat, k ≤ ps.length ∧ j = .int .i64 k ∧ Hid (Buf wr w.heap.size 5 1 x ((ps.take k).flatMap fun p => lenB p.2).length (bys ((ps.take k).flatMap fun p => lenB p.2))) ∧ Kept (fun _ => False) w wr) (fun _ j _ => ps.length - (intOf j).toNat)
  case atStart => exact ⟨0, Nat.zero_le _, rfl, Buf.nil _ _ _ _, Kept.refl _ _⟩
  case round =>
    obtain ⟨k, hk, rfl, HB, K⟩ := hrel
    have KR := Lib.hid K
    obtain ⟨av, cv, rfl, _⟩ := HB.out.form
    by_cases hlt : k < ps.length
    · have hle := HLE.out (k + 1)
      have hle0 := HLE.out k
      have HS := Lib.hid (take_flat_succ (fun p => lenB p.2) hlt)
      rw [HS.out, List.length_append] at hle
      generalize ((ps.take k).flatMap fun p => lenB p.2) = pre at *
      obtain ⟨b1, o1, c1, e1, x0⟩ := (HV.out.kept K).at hlt
      simp only [Value.slice.injEq, true_and] at e1
      obtain ⟨rfl, rfl⟩ := e1
      have hz1 : HBytes wr ps[k].1 ps[k].2 := (HV.out.kept K).2.1 _ (List.getElem_mem hlt)
      have hll : ps[k].2.length ≤ 1000000 := by have := lenB_len ps[k].2; omega
      have HF := Lib.hid (f_of1 ps[k].1 ps[k].2 wr hz1 hll)
      have HLA := Lib.hid (lenB_all hz1.2.1)
      clear hz1 hll
      generalize ps[k].1 = zv at *
      generalize lenB ps[k].2 = zl at *
      clear K
      go_wp2_with fail
      refine HF.out.mono ?_
      rintro e w3 ⟨v3, rfl, hb3, k3⟩
      have hsrc := Lib.hid (Buf.bytes hb3 HLA.out).src
      have HB3 := Lib.hid (HB.out.kept k3 (fun _ _ h => h))
      have K3 := Lib.hid (KR.out.trans k3)
      have HWS := Lib.hid K3.out.size
      obtain ⟨a3, c3, rfl, -, -⟩ := hb3.form
      clear hb3 k3
      go_wp2_with (first | fail | (at_builtin; refine wpList_append_buf _ rfl (.tmp 14) (.tmp 17) 28 28 rfl w.heap.size 5 i5 (.int .u8 0) 1 1 Tryd.underlying28 hi hz hsz hby rfl (by decide) _ _ _ rfl HB3.out _ _ _ rfl hsrc.out (by unfold maxLen; omega) (by omega) HWS.out ?_; intro v' w' hb' hg' ho' hn'; have HB4 := Lib.hid hb'; have HG4 := Lib.hid hg'; clear hb' hg' ho' hn'))
      have HB5 : Hid (Buf w' w.heap.size 5 1 v' ((ps.take (k + 1)).flatMap fun p => lenB p.2).length (bys ((ps.take (k + 1)).flatMap fun p => lenB p.2))) := by
        show Buf _ _ _ _ _ _ _
        rw [HS.out, bys_app, List.length_append]
        exact HB4.out
      have KF : Hid (Kept (fun _ => False) w w') := K3.out.grown HG4.out (fun j hj => .inr (HB.out.lt j hj).1)
      go_roundw
      case rel => exact ⟨k + 1, by omega, by go_num, HB5.out, KF.out⟩
      case measure => simp [intOf]; omega
    · obtain rfl : k = ps.length := by omega
      clear K
      go_wp2_with fail
      go_ret
      exact ⟨_, rfl, by have h := HB.out; simp only [List.take_length] at h ⊢; exact h, KR.out⟩
end Go.Proofs.YtklmhegmombegaaDoor
namespace Go.Proofs.YtklmhegmombegaaDoor
open Go Go.RowKit Plain

set_option maxRecDepth 100000 in
set_option maxHeartbeats 4000000 in
theorem f_of (d : Nat) (v : Value) (ps : List (Value × List Nat)) (w : World) (hL : Laid w) (hd : d < 256) (hv : HParts w v ps) (hn : ps.length ≤ 1000) (ht : (ps.flatMap fun p => lenB p.2).length ≤ 1000000) : Calls Tryd.prog 93 #[.int .i64 d, v] w (RPost (.agg (ints .u8 (macOf d (ps.map (·.2))))) w) := by
  obtain ⟨a, c, rfl⟩ := hv.form
  have e1 := i_u8 d
  rw [show d % 256 = d by omega] at e1
  have g4 := heap_alloc2_old w (.cells Z26 26) (.cells #[.int .u8 (d : Int)] 5)
  have g7 := heap_alloc2_new w (.cells Z26 26) (.cells #[.int .u8 (d : Int)] 5)
  have k1 := ((Kept.refl (fun _ => False) w).alloc (.cells Z26 26)).alloc (.cells #[.int .u8 (d : Int)] 5)
  have HJ := Lib.hid (f_joinedB _ ps _ (hv.kept k1) hn ht)
  have G4 := Lib.hid g4
  have G7 := Lib.hid g7
  have K1 := Lib.hid k1
  have HL := Lib.hid (hL.kept k1)
  have HM : Hid (macOf d (ps.map (·.2)) = sha ([d] ++ ps.flatMap fun p => lenB p.2)) := by show _ = _; rw [macOf, List.flatMap_map]; rfl
  have HTA : Hid (All8 (ps.flatMap fun p => lenB p.2)) := fun x hx => by
    obtain ⟨p, hp, hx⟩ := List.mem_flatMap.1 hx
    exact lenB_all (hv.2.1 p hp).2.1 x hx
  have hd8 : All8 [d] := fun x hx => by obtain rfl := List.mem_singleton.1 hx; exact hd
  have HD8 := Lib.hid hd8
  generalize (ps.flatMap fun p => lenB p.2) = tx at *
  have hmz : Hid ((ints .u8 (macOf d (ps.map (·.2)))).size = 32) := by show _ = _; rw [ints_size, HM.out, sha_len]
  have hmo := Lib.hid (ints_one .u8 (macOf d (ps.map (·.2))))
  clear k1 g4 g7 hL hv hd8
  go_enter Tryd.func93, Tryd.ntmps93
  go_wp2_with (first | fail | (with_reducible refine alloc26 ?_))
  generalize ((w.alloc (.cells Z26 26)).alloc (.cells #[.int .u8 (d : Int)] 5)) = w1 at *
  refine HJ.out.mono ?_
  rintro e w2 ⟨v2, rfl, hb2, k2⟩
  have HX2 := Lib.hid (Buf.bytes hb2 HTA.out)
  have HX7 : Hid (HBytes w2 (.slice (some ⟨w.heap.size + 1, 0, none⟩) 1 1) [d]) := HBytes.hash (l := [d]) (k2.row G7.out) HD8.out (by simp; decide) 1
  have G42 := Lib.hid (k2.row G4.out)
  have HL2 := Lib.hid (HL.out.kept k2)
  have K2 := Lib.hid (K1.out.trans k2)
  obtain ⟨a2, c2, rfl, -, -⟩ := hb2.form
  have k3 := (Kept.refl (fun _ => False) w2).alloc (.cells #[.slice (some ⟨w.heap.size + 1, 0, none⟩) 1 1, .slice a2 tx.length c2] 28)
  have hn3 := heap_alloc_new w2 (.cells #[.slice (some ⟨w.heap.size + 1, 0, none⟩) 1 1, .slice a2 tx.length c2] 28)
  have HP : Hid (HParts (w2.alloc (.cells #[.slice (some ⟨w.heap.size + 1, 0, none⟩) 1 1, .slice a2 tx.length c2] 28)) (.slice (some ⟨w2.heap.size, 0, none⟩) 2 2) [(.slice (some ⟨w.heap.size + 1, 0, none⟩) 1 1, [d]), (.slice a2 tx.length c2, tx)]) :=
    HParts.of_block (ps := [(.slice (some ⟨w.heap.size + 1, 0, none⟩) 1 1, [d]), (.slice a2 tx.length c2, tx)]) hn3 rfl (by simp) (fun p hp => by
      rcases List.mem_cons.1 hp with rfl | hp
      · exact HX7.out.kept k3
      · obtain rfl := List.mem_singleton.1 hp
        exact HX2.out.kept k3) (by simp; decide) 2
  have HT : Hid ([(.slice (some ⟨w.heap.size + 1, 0, none⟩) 1 1, [d]), ((.slice a2 tx.length c2, tx) : Value × List Nat)].flatMap (·.2) = [d] ++ tx) := by show _ = _; simp
  have HS := Lib.hid (f_sum _ _ _ (HL2.out.kept k3) HP.out (by rw [HT.out, List.length_append]; simp; omega))
  rw [HT.out, ← HM.out] at HS
  have G43 := Lib.hid (k3.row G42.out)
  have K3 := Lib.hid (K2.out.trans k3)
  generalize hTG : ints .u8 (macOf d (ps.map (·.2))) = TG at *
  clear k2 k3 hn3 hb2 HX2 HX7 HL2 K2 HP
  go_wp2_with fail
  refine HS.out.mono ?_
  rintro e w4 ⟨rfl, k4⟩
  have G44 := Lib.hid (k4.row G43.out)
  have K4 := Lib.hid (K3.out.trans k4)
  clear k4
  go_wp2_with (first | fail | ((with_reducible refine store26 (C := TG) ?_ ?_ G44.out Z26_size hmz.out hmo.out ?_); rfl; rfl))
  exact bodyPost_ret (results_26 rfl _ _ _ (setRow_heap _ _ _ _ _ _ G44.out) hmz.out rfl) rfl (RPost.mk (by first | rfl | exact congrArg Value.agg hTG.symm) (K4.out.setRow (by omega) _))

/-! ## A checkpoint's text -/
/-- The cells of a checkpoint. -/
structure PtIn (C : Array Value) (n : Int) (root : List Nat) (sv : Value) : Prop where
  size : C.size = 34
  one : C.all (·.oneCell') = true
  c0 : C[0]? = some (.int .i64 n)
  rt : ∀ j v, (bys root)[j]? = some v → C[1 + j]? = some v
  rl : root.length = 32
  r8 : All8 root
  c33 : C[33]? = some sv
namespace Plain
def ptText (n : Int) (root : List Nat) : List Nat := macOf 6 [numB n.toNat, root]
theorem numB_all {n : Nat} (h : n < 16384) : All8 (numB n) := by
  unfold numB
  intro x hx
  split at hx
  · obtain rfl := List.mem_singleton.1 hx; omega
  · simp only [List.mem_cons, List.not_mem_nil, or_false] at hx
    rcases hx with rfl | rfl <;> omega
theorem numB_len (n : Nat) : (numB n).length ≤ 2 := by unfold numB; split <;> simp
end Plain
/-- A part of a block, as bytes. -/
theorem HBytes.part {w : World} {g o : Nat} {t : TypeId} {C : Array Value} {l : List Nat} (hg : w.heap[g]? = some (.cells C t (0, 0))) (hC : ∀ j v, (bys l)[j]? = some v → C[o + j]? = some v) (h8 : All8 l) (hl : l.length ≤ maxLen) (c : Nat) : HBytes w (.slice (some ⟨g, o, none⟩) l.length c) l := by
  refine ⟨⟨by simp, _, c, rfl, .inr ⟨_, rfl, fun j v hv => ?_⟩⟩, h8, hl, fun k e _ => by simp only [Value.ownBlock, Option.some.injEq] at e; subst e; exact row_lt hg⟩
  rw [Addr.add_none]
  exact row_cell hg (hC j v hv)
set_option maxRecDepth 100000 in
set_option maxHeartbeats 4000000 in
theorem f_text (C : Array Value) (n : Int) (root : List Nat) (sv : Value) (w : World) (hL : Laid w) (hp : PtIn C n root sv) (h0 : 0 ≤ n) (h1 : n ≤ 400) : Calls Tryd.prog 60 #[.agg C] w (RPost (.agg (ints .u8 (ptText n root))) w) := by
  obtain ⟨N, rfl⟩ : ∃ N : Nat, n = N := ⟨n.toNat, by omega⟩
  have g1 := heap_alloc2_old w (.cells C 40) (.cells Z26 26)
  have g2 := heap_alloc2_new w (.cells C 40) (.cells Z26 26)
  have k1 := ((Kept.refl (fun _ => False) w).alloc (.cells C 40)).alloc (.cells Z26 26)
  have HPT := Lib.hid hp
  have G1 := Lib.hid g1
  have G2 := Lib.hid g2
  have K1 := Lib.hid k1
  have HL := Lib.hid (hL.kept k1)
  have HM : Hid (ptText (N : Int) root = macOf 6 [numB N, root]) := by show _ = _; rw [ptText, Int.toNat_natCast]
  have hNA := Lib.hid (numB_all (n := N) (by omega))
  have hNL := Lib.hid (numB_len N)
  have hmz : Hid ((ints .u8 (ptText N root)).size = 32) := by show _ = _; rw [ints_size, HM.out]; exact sha_len _
  have hmo := Lib.hid (ints_one .u8 (ptText N root))
  have HN := Lib.hid (fun w' => f_num N w' (by omega))
  clear g1 g2 k1 hL hp
  go_enter Tryd.func60, Tryd.ntmps60
  go_upto_region 1 with (first | fail | (with_reducible refine alloc26 ?_))
  generalize ((w.alloc (.cells C 40)).alloc (.cells Z26 26)) = w1 at *
  have k1d := (Kept.refl (fun _ => False) w1).drew
  have G2d := Lib.hid (k1d.row G2.out)
  have K1d := Lib.hid (K1.out.trans k1d)
  have HLd := Lib.hid (HL.out.kept k1d)
  have hS0 : w1.drew.heap[w.heap.size]? = some (.cells C 40 (0, 0)) := k1d.row G1.out
  refine wp_region_held_drew (S := fun w' => w'.heap[w.heap.size]? = some (.cells C 40 (0, 0))) (by kernel_rfl) hS0 (fun hHeld => ?_)
  clear k1d G1 G2 K1 HL
  generalize w1.drew = w2 at *
  refine wpAnyH_take (i := 0) (oi := ⟨some 3, _, _, _, _, _⟩) (v := .pointer (some ⟨w.heap.size, 0, none⟩)) rfl (by kernel_rfl) (by kernel_rfl) (by kernel_rfl) (fun _ _ _ h => h) (Or.inl ⟨by kernel_rfl, fun w' hS => by go_simp⟩) (by assumption) ?_
  try simp only [Act.put, List.setIfInBounds_toArray, List.set_cons_succ, List.set_cons_zero]
  refine wpAnyH_take (i := 1) (oi := ⟨some 4, _, _, _, _, _⟩) (v := .int .i64 N) rfl (by kernel_rfl) (by kernel_rfl) (by kernel_rfl) (fun _ _ _ h => h) (Or.inl ⟨by kernel_rfl, fun w' hS => by have c := row_cell hS HPT.out.c0; go_simp⟩) (by assumption) ?_
  try simp only [Act.put, List.setIfInBounds_toArray, List.set_cons_succ, List.set_cons_zero]
  refine wpAnyH_take (i := 3) (oi := ⟨some 6, _, _, _, _, _⟩) (v := .pointer (some ⟨w.heap.size, 1, none⟩)) rfl (by kernel_rfl) (by kernel_rfl) (by kernel_rfl) (fun _ _ _ h => h) (Or.inl ⟨by kernel_rfl, fun w' hS => by go_simp⟩) (by assumption) ?_
  try simp only [Act.put, List.setIfInBounds_toArray, List.set_cons_succ, List.set_cons_zero]
  refine wpAnyH_take (i := 4) (oi := ⟨some 7, _, _, _, _, _⟩) (v := .slice (some ⟨w.heap.size, 1, none⟩) 32 32) rfl (by kernel_rfl) (by kernel_rfl) (by kernel_rfl) (fun _ _ _ h => h) (Or.inl ⟨by kernel_rfl, fun w' hS => by go_simp⟩) (by assumption) ?_
  try simp only [Act.put, List.setIfInBounds_toArray, List.set_cons_succ, List.set_cons_zero]
  refine wpAnyH_ready (rs := [2]) (by kernel_rfl) (by simp) ?_
  refine AllReadyH.cons (o := _) rfl (fun K hK => ?_) AllReadyH.nil
  go_simp
  refine (HN.out w2).mono ?_
  rintro e w3 ⟨v3, rfl, hb3, k3⟩
  have HX3 := Lib.hid (Buf.bytes hb3 hNA.out)
  have hS1 : w3.heap[w.heap.size]? = some (.cells C 40 (0, 0)) := k3.row hS0
  have G23 := Lib.hid (k3.row G2d.out)
  have K3 := Lib.hid (K1d.out.trans k3)
  have HL3 := Lib.hid (HLd.out.kept k3)
  obtain ⟨a3, c3, rfl, -, -⟩ := hb3.form
  clear hb3 k3 G2d K1d HLd HN
  go_wp2_with fail
  refine hK.out _ _ hS1 (fun hHeld => ?_)
  clear hK K
  try simp only [Act.put, List.setIfInBounds_toArray, List.set_cons_succ, List.set_cons_zero]
  refine wpAnyH_ready (rs := [5]) (by kernel_rfl) (by simp) ?_
  refine AllReadyH.cons (o := _) rfl (fun K hK => ?_) AllReadyH.nil
  have hXR : HBytes w3 (.slice (some ⟨w.heap.size, 1, none⟩) 32 32) root := by
    have h := HBytes.part hS1 HPT.out.rt HPT.out.r8 (by rw [HPT.out.rl]; decide) 32
    rwa [HPT.out.rl] at h
  have k4 := (Kept.refl (fun _ => False) w3).alloc (.cells #[.slice a3 (numB N).length c3, .slice (some ⟨w.heap.size, 1, none⟩) 32 32] 28)
  have HP : Hid (HParts (w3.alloc (.cells #[.slice a3 (numB N).length c3, .slice (some ⟨w.heap.size, 1, none⟩) 32 32] 28)) (.slice (some ⟨w3.heap.size, 0, none⟩) 2 2) [(.slice a3 (numB N).length c3, numB N), (.slice (some ⟨w.heap.size, 1, none⟩) 32 32, root)]) :=
    HParts.of_block (ps := [(.slice a3 (numB N).length c3, numB N), (.slice (some ⟨w.heap.size, 1, none⟩) 32 32, root)]) (heap_alloc_new w3 _) rfl (by simp) (fun p hp => by
      rcases List.mem_cons.1 hp with rfl | hp
      · exact HX3.out.kept k4
      · obtain rfl := List.mem_singleton.1 hp
        exact hXR.kept k4) (by simp; decide) 2
  have HO := Lib.hid (f_of 6 _ _ _ (HL3.out.kept k4) (by decide) HP.out (by simp) (by simp [lenB_len, HPT.out.rl]; have := hNL.out; omega))
  have HT : Hid ([(.slice a3 (numB N).length c3, numB N), ((.slice (some ⟨w.heap.size, 1, none⟩) 32 32, root) : Value × List Nat)].map (·.2) = [numB N, root]) := rfl
  rw [HT.out, ← HM.out] at HO
  have hS2 : (w3.alloc (.cells #[.slice a3 (numB N).length c3, .slice (some ⟨w.heap.size, 1, none⟩) 32 32] 28)).heap[w.heap.size]? = some (.cells C 40 (0, 0)) := k4.row hS1
  have G24 := Lib.hid (k4.row G23.out)
  have K4 := Lib.hid (K3.out.trans k4)
  clear hXR k4 HX3 G23 K3 HL3 HP HT
  go_simp
  refine hK.out _ _ hS2 (fun hHeld => ?_)
  clear hK K
  try simp only [Act.put, List.setIfInBounds_toArray, List.set_cons_succ, List.set_cons_zero]
  refine wpAnyH_ready (rs := [6]) (by kernel_rfl) (by simp) ?_
  refine AllReadyH.cons (o := _) rfl (fun K hK => ?_) AllReadyH.nil
  go_simp
  refine HO.out.mono ?_
  rintro e w5 ⟨rfl, k5⟩
  have hS3 : w5.heap[w.heap.size]? = some (.cells C 40 (0, 0)) := k5.row hS2
  have G25 := Lib.hid (k5.row G24.out)
  have K5 := Lib.hid (K4.out.trans k5)
  clear k5 G24 K4 HO hS2
  go_wp2_with fail
  refine hK.out _ _ hS3 (fun hHeld => ?_)
  clear hK K
  try simp only [Act.put, List.setIfInBounds_toArray, List.set_cons_succ, List.set_cons_zero]
  refine wpAnyH_ready (rs := [7]) (by kernel_rfl) (by simp) ?_
  refine AllReadyH.cons (o := _) rfl (fun K hK => ?_) AllReadyH.nil
  refine step_store26 (C := ints .u8 (ptText N root)) (g := w.heap.size + 1) (o := 0) (by kernel_rfl) rfl rfl hmz.out hmo.out G25.out (by rw [Z26_size]; decide) ?_
  intro wn Yn kn
  rw [puts_all (by rw [Z26_size, hmz.out])] at Yn
  have KWn : Kept (fun _ => False) w wn := K5.out.trans' kn (fun i hi e => by omega)
  have hS4 : wn.heap[w.heap.size]? = some (.cells C 40 (0, 0)) := kn.rowS (by omega) hS3
  refine hK.out _ _ hS4 (fun hHeld => ?_)
  clear hK K
  try simp only [Act.put, List.setIfInBounds_toArray, List.set_cons_succ, List.set_cons_zero]
  refine wpAnyH_done (by kernel_rfl) ?_ _
  have HYN := Lib.hid Yn
  have HKN := Lib.hid KWn
  clear Yn KWn kn
  go_wp2_with fail
  exact bodyPost_ret (results_26 rfl _ _ _ HYN.out hmz.out rfl) rfl (RPost.mk rfl HKN.out)
end Go.Proofs.YtklmhegmombegaaDoor
