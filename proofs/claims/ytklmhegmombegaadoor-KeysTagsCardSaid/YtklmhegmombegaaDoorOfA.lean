/-
  The contract of mac's Of. Conditions: as each theorem says.
-/
import Derived.Test.YtklmhegmombegaaDoorNumA
import Derived.Test.YtklmhegmombegaaDoorKeyD
set_option linter.unusedVariables false
set_option linter.unusedSimpArgs false
namespace Go.Proofs.YtklmhegmombegaaDoor
open Go Go.RowKit Plain

namespace Plain
/-- Bytes behind how many they are. -/
def lenB (l : List Nat) : List Nat := beN 4 l.length ++ l
theorem lenB_len (l : List Nat) : (lenB l).length = 4 + l.length := by rw [lenB, List.length_append, beN_len]
theorem lenB_all {l : List Nat} (h : All8 l) : All8 (lenB l) := fun x hx => by
  rcases List.mem_append.1 hx with hx | hx
  · exact beN_all _ _ x hx
  · exact h x hx
/-- The digest of a domain and parts. -/
def macOf (d : Nat) (ls : List (List Nat)) : List Nat := sha (d :: ls.flatMap lenB)
end Plain
theorem i_u64n {n : Nat} (h : n < 18446744073709551616) : IntKind.u64.wrap (n : Int) = (n : Int) := by rw [IntKind.wrap_u64]; omega
set_option maxRecDepth 100000 in
set_option maxHeartbeats 4000000 in
theorem f_of1 (v : Value) (l : List Nat) (w : World) (h : HBytes w v l) (hl : l.length ≤ 1000000) : Calls Tryd.prog 116 #[v] w (ByPost (lenB l) w) := by
  have HR := Lib.hid (f_row l.length 4 w (by omega) (.inr rfl))
  have e1 := i_u64n (n := l.length) (by omega)
  have H := Lib.hid h
  obtain ⟨a, c, rfl⟩ := h.form
  have HL : Hid (lenB l = beN 4 l.length ++ l) := rfl
  have HBA := Lib.hid (beN_all 4 l.length)
  have HBL := Lib.hid (beN_len 4 l.length)
  generalize beN 4 l.length = bl at *
  clear h
  go_enter Tryd.func116, Tryd.ntmps116
  go_wp2_with fail
  refine HR.out.mono ?_
  rintro e w1 ⟨v1, rfl, hb1, k1⟩
  have HX1 := Lib.hid (Buf.bytes hb1 HBA.out)
  have H1 := Lib.hid (H.out.kept k1)
  rw [HBL.out] at hb1
  obtain ⟨a1, c1, rfl, -, -⟩ := hb1.form
  have k2 := (Kept.refl (fun _ => False) w1).alloc (.cells #[.slice a1 4 c1, .slice a l.length c] 28)
  have hn2 := heap_alloc_new w1 (.cells #[.slice a1 4 c1, .slice a l.length c] 28)
  have HP : Hid (HParts (w1.alloc (.cells #[.slice a1 4 c1, .slice a l.length c] 28)) (.slice (some ⟨w1.heap.size, 0, none⟩) 2 2) [(.slice a1 4 c1, bl), (.slice a l.length c, l)]) :=
    HParts.of_block (ps := [(.slice a1 4 c1, bl), (.slice a l.length c, l)]) hn2 rfl (by simp) (fun p hp => by
      rcases List.mem_cons.1 hp with rfl | hp
      · exact HX1.out.kept k2
      · obtain rfl := List.mem_singleton.1 hp
        exact H1.out.kept k2) (by simp; decide) 2
  have HT : Hid ([(.slice a1 4 c1, bl), ((.slice a l.length c, l) : Value × List Nat)].flatMap (·.2) = bl ++ l) := by show _ = _; simp
  have HC := Lib.hid (f_concat _ _ _ HP.out (by rw [HT.out, List.length_append, HBL.out]; omega))
  rw [HT.out, ← HL.out] at HC
  have K2 := Lib.hid (k1.trans k2)
  have hsz : w.heap.size ≤ (w1.alloc (.cells #[.slice a1 4 c1, .slice a l.length c] 28)).heap.size := K2.out.size
  have HSZ := Lib.hid hsz
  clear k1 k2 hn2 hb1 HX1 H1 hsz
  go_wp2_with fail
  refine HC.out.mono ?_
  rintro e w3 ⟨v3, rfl, hb3, k3⟩
  have HB3 := Lib.hid (hb3.mono HSZ.out)
  have K3 := Lib.hid (K2.out.trans k3)
  clear hb3 k3
  go_wp2_with fail
  go_ret
  exact ⟨_, rfl, HB3.out, K3.out⟩
theorem len_take_le (f : Value × List Nat → List Nat) (ps : List (Value × List Nat)) (k : Nat) : ((ps.take k).flatMap f).length ≤ (ps.flatMap f).length := by
  conv => rhs; rw [← List.take_append_drop k ps]
  rw [List.flatMap_append, List.length_append]; omega
theorem take_flat_succ (f : Value × List Nat → List Nat) {ps : List (Value × List Nat)} {k : Nat} (h : k < ps.length) : (ps.take (k + 1)).flatMap f = (ps.take k).flatMap f ++ f ps[k] := by
  rw [← List.take_append_getElem h, List.flatMap_append]; simp
set_option maxRecDepth 100000 in
set_option maxHeartbeats 4000000 in
theorem f_joinedB (v : Value) (ps : List (Value × List Nat)) (w : World) (hv : HParts w v ps) (hn : ps.length ≤ 1000) (ht : (ps.flatMap fun p => lenB p.2).length ≤ 1000000) : Calls Tryd.prog 115 #[v, .func (.func 116) #[] #[]] w (ByPost (ps.flatMap fun p => lenB p.2) w) := by
  obtain ⟨i5, hi, hsz, hby, hz⟩ := info5'
  obtain ⟨a, c, rfl⟩ := hv.form
  have HV := Lib.hid hv
  have HLE := Lib.hid (fun k => Nat.le_trans (len_take_le (fun p => lenB p.2) ps k) ht)
  clear hv
  go_enter Tryd.func115, Tryd.ntmps115
  go_wp2_with fail
  go_loopw [5, 10] (fun x j wr => ∃ k : Nat, k ≤ ps.length ∧ j = .int .i64 k ∧ Hid (Buf wr w.heap.size 5 1 x ((ps.take k).flatMap fun p => lenB p.2).length (bys ((ps.take k).flatMap fun p => lenB p.2))) ∧ Kept (fun _ => False) w wr) (fun _ j _ => ps.length - (intOf j).toNat)
  case atStart => exact ⟨0, Nat.zero_le _, rfl, Buf.nil _ _ _ _, Kept.refl _ _⟩
  case round =>
    obtain ⟨k, hk, rfl, HB, K⟩ := hrel
    have KR := Lib.hid K
    obtain ⟨av, cv, rfl, _⟩ := HB.out.form
    by_cases hlt : k < ps.length
    · have hle := HLE.out (k + 1)
      have hle0 := HLE.out k
      have HS := Lib.hid (take_flat_succ (fun p => lenB p.2) hlt)
      rw [HS.out, List.length_append] at hle
      generalize ((ps.take k).flatMap fun p => lenB p.2) = pre at *
      obtain ⟨b1, o1, c1, e1, x0⟩ := (HV.out.kept K).at hlt
      simp only [Value.slice.injEq, true_and] at e1
      obtain ⟨rfl, rfl⟩ := e1
      have hz1 : HBytes wr ps[k].1 ps[k].2 := (HV.out.kept K).2.1 _ (List.getElem_mem hlt)
      have hll : ps[k].2.length ≤ 1000000 := by have := lenB_len ps[k].2; omega
      have HF := Lib.hid (f_of1 ps[k].1 ps[k].2 wr hz1 hll)
      have HLA := Lib.hid (lenB_all hz1.2.1)
      clear hz1 hll
      generalize ps[k].1 = zv at *
      generalize lenB ps[k].2 = zl at *
      clear K
      go_wp2_with fail
      refine HF.out.mono ?_
      rintro e w3 ⟨v3, rfl, hb3, k3⟩
      have hsrc := Lib.hid (Buf.bytes hb3 HLA.out).src
      have HB3 := Lib.hid (HB.out.kept k3 (fun _ _ h => h))
      have K3 := Lib.hid (KR.out.trans k3)
      have HWS := Lib.hid K3.out.size
      obtain ⟨a3, c3, rfl, -, -⟩ := hb3.form
      clear hb3 k3
      go_wp2_with (first | fail | (at_builtin; refine wpList_append_buf _ rfl (.tmp 14) (.tmp 17) 28 28 rfl w.heap.size 5 i5 (.int .u8 0) 1 1 Tryd.underlying28 hi hz hsz hby rfl (by decide) _ _ _ rfl HB3.out _ _ _ rfl hsrc.out (by unfold maxLen; omega) (by omega) HWS.out ?_; intro v' w' hb' hg' ho' hn'; have HB4 := Lib.hid hb'; have HG4 := Lib.hid hg'; clear hb' hg' ho' hn'))
      have HB5 : Hid (Buf w' w.heap.size 5 1 v' ((ps.take (k + 1)).flatMap fun p => lenB p.2).length (bys ((ps.take (k + 1)).flatMap fun p => lenB p.2))) := by
        show Buf _ _ _ _ _ _ _
        rw [HS.out, bys_app, List.length_append]
        exact HB4.out
      have KF : Hid (Kept (fun _ => False) w w') := K3.out.grown HG4.out (fun j hj => .inr (HB.out.lt j hj).1)
      go_roundw
      case rel => exact ⟨k + 1, by omega, by go_num, HB5.out, KF.out⟩
      case measure => simp [intOf]; omega
    · obtain rfl : k = ps.length := by omega
      clear K
      go_wp2_with fail
      go_ret
      exact ⟨_, rfl, by have h := HB.out; simp only [List.take_length] at h ⊢; exact h, KR.out⟩
end Go.Proofs.YtklmhegmombegaaDoor
