/-
  The blocks of a text, handed on one by one: the iterator's contract. Conditions: as each theorem says.
-/
import Derived.Test.YtklmhegmombegaaDoorShaD
import Derived.RangeFuncCalls
import Derived.RangeFuncLeaves
import Derived.RangeFuncBox
import Derived.OwnWalkIn
import Derived.TacticsInMore
import Derived.LoopNIn
import Derived.WalkSpells
set_option linter.unusedVariables false
set_option linter.unusedSimpArgs false
namespace Go.Proofs.YtklmhegmombegaaDoor
open Go Go.RowKit Plain

attribute [local go_sem] Oper.semAt_some

set_option maxHeartbeats 1000000 in
theorem f_blocks (a : Option Addr) (n c : Nat) (w : World) : Calls Tryd.prog 119 #[.slice a n c] w fun e w' => e = .returned (.func (.func 131) #[] #[.pointer (some ⟨w.heap.size, 0, none⟩)]) ∧ w' = w.alloc (.cells #[.slice a n c] 28) := by
  have hmf : ∀ (fn : Fn) (first cap : Array Value) (w : World), (Instr.makeFunc fn first cap).run Tryd.prog w = .ok (.func fn first cap) w := fun _ _ _ _ => rfl
  go_enter Tryd.func119, Tryd.ntmps119
  go_wp2_with fail
  go_ret
  exact ⟨rfl, rfl⟩

/-- The box of what is left, behind m blocks. -/
def LeftIn (Bs b o N cap : Nat) (m : Nat) (w : World) : Prop := ∃ ad, w.heap[Bs]? = some (.cells #[.slice ad (64 * (N - m)) (cap - 64 * m)] 28 (0, 0)) ∧ (m < N → ad = some ⟨b, o + 64 * m, none⟩)
theorem LeftIn.mk {Bs b o N cap m n c : Nat} {ad : Option Addr} {w : World} (h : w.heap[Bs]? = some (.cells #[.slice ad n c] 28 (0, 0))) (hn : 64 * (N - m) = n) (hc : cap - 64 * m = c) (ha : m < N → ad = some ⟨b, o + 64 * m, none⟩) : LeftIn Bs b o N cap m w := by
  subst hn; subst hc; exact ⟨ad, h, ha⟩
/-- How much is left. -/
def boxLen (Bs : Nat) (w : World) : Nat := match w.heap[Bs]? with
  | some (.cells cs _ _) => lenV (cs[0]?.getD undef)
  | _ => 0
theorem boxLen_eq {Bs n c : Nat} {ad : Option Addr} {w : World} {t : TypeId} (h : w.heap[Bs]? = some (.cells #[.slice ad n c] t (0, 0))) : boxLen Bs w = n := by unfold boxLen; rw [h]; rfl
set_option maxRecDepth 100000 in
set_option maxHeartbeats 4000000 in
theorem f_iter (n l Bs b o N cap : Nat) (hn : 1 ≤ n) (hN : N ≤ 100000000) (hcap : 64 * N ≤ cap) (hc63 : cap ≤ 9223372036854775807) (J : Nat → World → Prop)
    (hY : ∀ m W, m < N → J m W → LeftIn Bs b o N cap m W → YieldAt Fence.wide (n - 1) Tryd.prog l #[.slice (some ⟨b, o + 64 * m, none⟩) 64 (cap - 64 * m)] W fun e W' => e = .returned (.bool true) ∧ J (m + 1) W' ∧ LeftIn Bs b o N cap m W')
    (hJ : ∀ m W v, J m W → J m (W.setCell ⟨Bs, 0, none⟩ v)) (W : World) (h0 : J 0 W) (hL : LeftIn Bs b o N cap 0 W) :
    CallsIn Fence.wide n Tryd.prog 131 #[.func (.yield l) #[] #[], .pointer (some ⟨Bs, 0, none⟩)] W fun e W' => (∃ v, e = .returned v) ∧ J N W' := by
  refine callsIn_of_wp Tryd.func131 rfl trivial ?_ rfl
  simp only [Tryd.ntmps131, List.size_toArray, List.length_cons, List.length_nil, Nat.reduceAdd, Nat.reduceSub, Array.replicate_succ, Array.replicate_zero, List.push_toArray, List.append_toArray, List.nil_append, List.cons_append]
  have HY := Lib.hid hY
  have HJ := Lib.hid hJ
  clear hY hJ
  gi_wp2
  gi_loopw [] (fun wr => ∃ m : Nat, m ≤ N ∧ J m wr ∧ LeftIn Bs b o N cap m wr) (fun wr => boxLen Bs wr)
  case atStart => exact ⟨0, Nat.zero_le _, h0, hL⟩
  case round =>
    obtain ⟨m, hm, hJm, hLm⟩ := hrel
    obtain ⟨ad, hrow, had⟩ := hLm
    have bc := row_cell hrow (show (#[Value.slice ad (64 * (N - m)) (cap - 64 * m)])[0]? = some (.slice ad (64 * (N - m)) (cap - 64 * m)) from rfl)
    have HBL := Lib.hid (boxLen_eq hrow)
    by_cases hlt : m < N
    · obtain rfl := had hlt
      obtain ⟨fn, tmps, assign, body, hy, hR⟩ := HY.out m wr hlt hJm ⟨_, hrow, fun _ => rfl⟩
      obtain ⟨L, hL2⟩ : ∃ L, 64 * (N - m) = L := ⟨_, rfl⟩
      obtain ⟨C, hC2⟩ : ∃ C, cap - 64 * m = C := ⟨_, rfl⟩
      obtain ⟨O, hO2⟩ : ∃ O, o + 64 * m = O := ⟨_, rfl⟩
      have HL := Lib.hid hL2
      have HC := Lib.hid hC2
      have HO := Lib.hid hO2
      rw [hL2] at bc HBL
      rw [hC2, hO2] at bc hy
      have h64 : 64 ≤ (L : Int) := by omega
      have hLC : L ≤ C := by omega
      have hC64 : 64 ≤ (C : Int) := by omega
      have hC3 : C ≤ 9223372036854775807 := by omega
      clear hL2 hC2 hO2 hrow had
      gi_wp2
      refine hR.mono ?_
      rintro e W3 ⟨rfl, hJ3, ad3, hrow3, had3⟩
      obtain rfl := had3 hlt
      rw [HL.out, HC.out, HO.out] at hrow3
      have bc3 := row_cell hrow3 (show (#[Value.slice (some ⟨b, O, none⟩) L C])[0]? = some (.slice (some ⟨b, O, none⟩) L C) from rfl)
      have bf3 := free_of_block (j := 0) hrow3
      have HR3 := Lib.hid hrow3
      clear hrow3 had3 bc
      by_cases hC : C = 64
      · obtain rfl : L = 64 := by omega
        subst hC
        have hB3 : Hid ((W3.setCell ⟨Bs, 0, none⟩ (.slice (some ⟨b, O, none⟩) 0 0)).heap[Bs]? = some (.cells #[.slice (some ⟨b, O, none⟩) 0 0] 28 (0, 0))) := setCell_block HR3.out _
        have HJ3 := Lib.hid (HJ.out _ _ (.slice (some ⟨b, O, none⟩) 0 0) hJ3)
        gi_wp2
        have hL4 := LeftIn.mk (b := b) (o := o) (N := N) (cap := cap) (m := m + 1) hB3.out (by have := HL.out; omega) (by have := HC.out; omega) (fun h => by have := HL.out; omega)
        have HL4 := Lib.hid hL4
        have hbl := boxLen_eq hB3.out
        have HBL2 := Lib.hid hbl
        clear hL4 hbl
        go_roundw
        case rel => exact ⟨m + 1, by omega, HJ3.out, HL4.out⟩
        case measure => rw [HBL.out, HBL2.out]; omega
      · have hB3 : Hid ((W3.setCell ⟨Bs, 0, none⟩ (.slice (some ⟨b, O + 64, none⟩) (L - 64) (C - 64))).heap[Bs]? = some (.cells #[.slice (some ⟨b, O + 64, none⟩) (L - 64) (C - 64)] 28 (0, 0))) := setCell_block HR3.out _
        have HJ3 := Lib.hid (HJ.out _ _ (.slice (some ⟨b, O + 64, none⟩) (L - 64) (C - 64)) hJ3)
        have hC' : ¬ (64 = C) := Ne.symm hC
        gi_wp2
        have hL4 := LeftIn.mk (b := b) (o := o) (N := N) (cap := cap) (m := m + 1) hB3.out (by have := HL.out; omega) (by have := HC.out; omega) (fun h => by have := HO.out; congr 2; omega)
        have HL4 := Lib.hid hL4
        have hbl := boxLen_eq hB3.out
        have HBL2 := Lib.hid hbl
        clear hL4 hbl
        go_roundw
        case rel => exact ⟨m + 1, by omega, HJ3.out, HL4.out⟩
        case measure => rw [HBL.out, HBL2.out]; omega
    · obtain rfl : m = N := by omega
      have e0 : 64 * (m - m) = 0 := by omega
      rw [e0] at bc
      have HJM := Lib.hid hJm
      clear hrow had e0
      gi_wp2
      go_end0
      exact ⟨⟨_, rfl⟩, HJM.out⟩
end Go.Proofs.YtklmhegmombegaaDoor
