/-
  Contracts of the reference's Has and Target. Conditions: as each theorem says.
-/
import Derived.Test.YtklmhegmombegaaNew
set_option linter.unusedVariables false
set_option linter.unusedSimpArgs false
namespace Go.Proofs.Ytklmhegmombegaa
open Go Go.RowKit Plain

set_option maxHeartbeats 1000000 in
theorem f_has (d i : Nat) (w : World) (hd : d < 64) (hi : i ≤ 1000) : Calls Try.prog 20 #[.int .i64 d, .int .i64 i] w fun e w' => e = .returned (.bool (d.testBit i)) ∧ w = w' := by
  have HB := Lib.hid (Nat.testBit_eq_decide_div_mod_eq (x := d) (i := i))
  go_enter Try.func20, Try.ntmps20
  go_wp2_with fail
  go_loop [0, 5] (fun s j => ∃ k : Nat, k ≤ i ∧ j = .int .i64 k ∧ s = .int .i64 ((d / 2 ^ k : Nat) : Int)) (fun _ j => i - (intOf j).toNat)
  case atStart => exact ⟨0, Nat.zero_le _, rfl, by simp⟩
  case round =>
    obtain ⟨k, hk, rfl, rfl⟩ := hrel
    have hle : d / 2 ^ k ≤ d := Nat.div_le_self _ _
    by_cases hlt : k < i
    · have e : d / 2 ^ (k + 1) = d / 2 ^ k / 2 := by rw [Nat.pow_succ, Nat.div_div_eq_div_mul]
      have HE := Lib.hid e
      clear e
      generalize d / 2 ^ k = m at hle HE
      go_wp2_with fail
      go_round
      case rel => exact ⟨k + 1, by omega, by go_num, by rw [HE.out]; simp⟩
      case measure => simp [intOf]; omega
    · obtain rfl : k = i := by omega
      generalize d / 2 ^ k = m at hle HB
      go_wp2_with fail
      go_ret
      refine ⟨?_, rfl⟩
      rw [HB.out]
      show Ending.returned (.bool _) = _
      congr 2
      rw [Bool.eq_iff_iff]
      simp
      omega

theorem lastOf_succ (p : Nat → Bool) (n : Nat) : lastOf p (n + 1) = if p n = true then (n : Int) else lastOf p n := rfl
set_option maxHeartbeats 4000000 in
theorem f_rtarget (s : Sg) (v : Value) (w : World) (ok : Okay s) (hs : Stp w v s.steps) : Calls Try.prog 44 #[.agg (sgC s v)] w fun e w' => e = .returned (.int .i64 (target s)) ∧ Kept (fun _ => False) w w' := by
  have hs1 := hs.alloc (.cells (sgC s v) 27)
  have HS := Lib.hid hs1
  have KW := (Kept.refl (fun _ => False) w).alloc (.cells (sgC s v) 27)
  have b := heap_alloc_new w (.cells (sgC s v) 27)
  obtain ⟨a, c, rfl⟩ := hs.form
  obtain ⟨st, ph, po, tr, wt, bk, dn, un, my, sq⟩ := s
  have hlen : st.length ≤ 6 := ok.len
  have hdn : dn < 64 := ok.done
  have hun : un < 64 := ok.undone
  have hmy : my < 64 := ok.may
  clear hs hs1 ok
  unfold sgC at *
  dsimp only at *
  obtain ⟨b0, b1, b2, b3, b4, b5, b6, b7, b8, b9⟩ := cells10 b
  have hT : Hid (target ⟨st, ph, po, tr, wt, bk, dn, un, my, sq⟩ = lastOf (opn ⟨st, ph, po, tr, wt, bk, dn, un, my, sq⟩) st.length) := rfl
  rw [hT.out]
  clear b b1 b2 b3 b4 b5 b9
  have HK := Lib.hid KW
  clear KW
  go_enter Try.func44, Try.ntmps44
  go_wp2_with fail
  generalize w.alloc (.cells #[.slice a st.length c, .int .i64 ph, .int .i64 po, .int .i64 tr, .bool wt, .bool bk, .int .i64 dn, .int .i64 un, .int .i64 my, .int .i64 sq] 27) = w1 at *
  go_loop [3, 4] (fun o j => ∃ k : Nat, k ≤ st.length ∧ j = .int .i64 k ∧ o = .int .i64 (lastOf (opn ⟨st, ph, po, tr, wt, bk, dn, un, my, sq⟩) k)) (fun _ j => st.length - (intOf j).toNat)
  case atStart => exact ⟨0, Nat.zero_le _, rfl, rfl⟩
  case round =>
    obtain ⟨k, hk, rfl, rfl⟩ := hrel
    have hlo := lastOf_lt (opn ⟨st, ph, po, tr, wt, bk, dn, un, my, sq⟩) k
    have HL := Lib.hid (lastOf_succ (opn ⟨st, ph, po, tr, wt, bk, dn, un, my, sq⟩) k)
    by_cases hlt : k < st.length
    · obtain ⟨bb, o, c', ev, c1, _, _⟩ := HS.out.kind hlt
      simp only [Value.slice.injEq, true_and] at ev
      obtain ⟨rfl, rfl⟩ := ev
      have hop : Hid (opn ⟨st, ph, po, tr, wt, bk, dn, un, my, sq⟩ k = ((kindAt st k == 1) && (dn.testBit k || my.testBit k) && !un.testBit k)) := rfl
      have HD := Lib.hid (fun w' => f_has dn k w' hdn (by omega))
      have HM := Lib.hid (fun w' => f_has my k w' hmy (by omega))
      have HU := Lib.hid (fun w' => f_has un k w' hun (by omega))
      generalize kindAt st k = kd at c1 hop
      generalize dn.testBit k = td at HD hop
      generalize my.testBit k = tm at HM hop
      generalize un.testBit k = tu at HU hop
      generalize lastOf (opn ⟨st, ph, po, tr, wt, bk, dn, un, my, sq⟩) k = lk at hlo HL
      by_cases hkd : kd = 1
      · have t1 : (kd == 1) = true := by rw [beq_iff_eq]; exact hkd
        rw [t1] at hop
        clear hkd
        cases td with
        | true =>
          cases tu with
          | true =>
            have E : Hid (lastOf (opn ⟨st, ph, po, tr, wt, bk, dn, un, my, sq⟩) (k + 1) = lk) := by show _ = _; rw [HL.out, hop.out]; rfl
            go_wp2_with fail
            refine (HD.out _).mono ?_
            rintro e w2 ⟨rfl, rfl⟩
            go_wp2_with fail
            refine (HU.out _).mono ?_
            rintro e w2 ⟨rfl, rfl⟩
            go_wp2_with fail
            go_round
            case rel => exact ⟨k + 1, by omega, by go_num, by rw [E.out]⟩
            case measure => simp [intOf]; omega
          | false =>
            have E : Hid (lastOf (opn ⟨st, ph, po, tr, wt, bk, dn, un, my, sq⟩) (k + 1) = k) := by show _ = _; rw [HL.out, hop.out]; rfl
            go_wp2_with fail
            refine (HD.out _).mono ?_
            rintro e w2 ⟨rfl, rfl⟩
            go_wp2_with fail
            refine (HU.out _).mono ?_
            rintro e w2 ⟨rfl, rfl⟩
            go_wp2_with fail
            go_round
            case rel => exact ⟨k + 1, by omega, by go_num, by rw [E.out]⟩
            case measure => simp [intOf]; omega
        | false =>
          cases tm with
          | true =>
            cases tu with
            | true =>
              have E : Hid (lastOf (opn ⟨st, ph, po, tr, wt, bk, dn, un, my, sq⟩) (k + 1) = lk) := by show _ = _; rw [HL.out, hop.out]; rfl
              go_wp2_with fail
              refine (HD.out _).mono ?_
              rintro e w2 ⟨rfl, rfl⟩
              go_wp2_with fail
              refine (HM.out _).mono ?_
              rintro e w2 ⟨rfl, rfl⟩
              go_wp2_with fail
              refine (HU.out _).mono ?_
              rintro e w2 ⟨rfl, rfl⟩
              go_wp2_with fail
              go_round
              case rel => exact ⟨k + 1, by omega, by go_num, by rw [E.out]⟩
              case measure => simp [intOf]; omega
            | false =>
              have E : Hid (lastOf (opn ⟨st, ph, po, tr, wt, bk, dn, un, my, sq⟩) (k + 1) = k) := by show _ = _; rw [HL.out, hop.out]; rfl
              go_wp2_with fail
              refine (HD.out _).mono ?_
              rintro e w2 ⟨rfl, rfl⟩
              go_wp2_with fail
              refine (HM.out _).mono ?_
              rintro e w2 ⟨rfl, rfl⟩
              go_wp2_with fail
              refine (HU.out _).mono ?_
              rintro e w2 ⟨rfl, rfl⟩
              go_wp2_with fail
              go_round
              case rel => exact ⟨k + 1, by omega, by go_num, by rw [E.out]⟩
              case measure => simp [intOf]; omega
          | false =>
            have E : Hid (lastOf (opn ⟨st, ph, po, tr, wt, bk, dn, un, my, sq⟩) (k + 1) = lk) := by show _ = _; rw [HL.out, hop.out]; rfl
            go_wp2_with fail
            refine (HD.out _).mono ?_
            rintro e w2 ⟨rfl, rfl⟩
            go_wp2_with fail
            refine (HM.out _).mono ?_
            rintro e w2 ⟨rfl, rfl⟩
            go_wp2_with fail
            go_round
            case rel => exact ⟨k + 1, by omega, by go_num, by rw [E.out]⟩
            case measure => simp [intOf]; omega
      · have t1 : (kd == 1) = false := by rw [beq_eq_false_iff_ne]; exact hkd
        rw [t1] at hop
        have E : Hid (lastOf (opn ⟨st, ph, po, tr, wt, bk, dn, un, my, sq⟩) (k + 1) = lk) := by show _ = _; rw [HL.out, hop.out]; rfl
        clear hkd
        go_wp2_with fail
        go_round
        case rel => exact ⟨k + 1, by omega, by go_num, by rw [E.out]⟩
        case measure => simp [intOf]; omega
    · obtain rfl : k = st.length := by omega
      obtain ⟨lk, hlk⟩ : ∃ lk, lastOf (opn ⟨st, ph, po, tr, wt, bk, dn, un, my, sq⟩) st.length = lk := ⟨_, rfl⟩
      rw [hlk]
      have HLK := Lib.hid hlk
      clear hlk hlo HL
      go_wp2_with fail
      go_ret
      exact ⟨by rw [HLK.out]; rfl, HK.out⟩
end Go.Proofs.Ytklmhegmombegaa
