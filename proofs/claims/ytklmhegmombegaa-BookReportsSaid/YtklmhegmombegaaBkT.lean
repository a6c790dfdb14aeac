/-
  Contracts of the reference's Put, Missing, Lines. Conditions: as each theorem says.
-/
import Derived.Test.YtklmhegmombegaaBkL
set_option linter.unusedVariables false
set_option linter.unusedSimpArgs false
namespace Go.Proofs.Ytklmhegmombegaa
open Go Go.RowKit Plain

namespace Plain
/-- All steps that are done are the saga's. -/
def DoneIn (s : Sg) : Prop := s.done < 2 ^ s.steps.length
/-- What of a saga is missing, as a test of a step. -/
def mis (s : Sg) (i : Nat) : Bool := (s.phase != 2) && (s.done.testBit i && !s.undone.testBit i)
theorem missing_bit {s : Sg} (hl : s.steps.length ≤ 6) (hd : DoneIn s) (i : Nat) : (missing s).testBit i = mis s i := by
  unfold missing mis
  by_cases h2 : s.phase = 2
  · simp [h2]
  · rw [if_neg h2, testBit_clr]
    have e : (s.phase != 2) = true := by simp [h2]
    rw [e, Bool.true_and]
    by_cases hi : i < 6
    · simp [hi]
    · have : s.done.testBit i = false := Nat.testBit_lt_two_pow (Nat.lt_of_lt_of_le hd (Nat.pow_le_pow_right (by decide) (by omega)))
      simp [this]
theorem missing_lt {s : Sg} (hd : DoneIn s) : missing s < 2 ^ s.steps.length := by
  unfold missing
  split
  · exact Nat.two_pow_pos _
  · exact Nat.lt_of_le_of_lt Nat.and_le_left hd
theorem mod_step (m k : Nat) : m % 2 ^ (k + 1) = m % 2 ^ k + (if m.testBit k = true then 2 ^ k else 0) := by
  rw [Nat.mod_pow_succ, Nat.testBit_eq_decide_div_mod_eq]
  rcases Nat.mod_two_eq_zero_or_one (m / 2 ^ k) with h | h <;> simp [h]
end Plain

set_option maxHeartbeats 2000000 in
/-- A step that isn't there yet is put into a set. -/
theorem f_put (d i : Nat) (w : World) (hd : d < 2 ^ i) (hi : i ≤ 6) : Calls Try.prog 64 #[.int .i64 d, .int .i64 i] w fun e w' => e = .returned (.int .i64 ((d + 2 ^ i : Nat) : Int)) ∧ w = w' := by
  have h64 : 2 ^ i ≤ 64 := (Nat.pow_le_pow_right (by decide) hi : 2 ^ i ≤ 2 ^ 6)
  have hb : d.testBit i = false := Nat.testBit_lt_two_pow hd
  have HH := f_has d i w (by omega) (by omega)
  rw [hb] at HH
  have H := Lib.hid HH
  clear HH hb
  go_enter Try.func64, Try.ntmps64
  go_wp2_with fail
  refine H.out.mono ?_
  rintro e w1 ⟨rfl, rfl⟩
  go_wp2_with fail
  go_loop [5, 6] (fun p j => ∃ k : Nat, k ≤ i ∧ j = .int .i64 k ∧ p = .int .i64 ((2 ^ k : Nat) : Int)) (fun _ j => i - (intOf j).toNat)
  case atStart => exact ⟨0, Nat.zero_le _, rfl, rfl⟩
  case round =>
    obtain ⟨k, hk, rfl, rfl⟩ := hrel
    have hp : 2 ^ k ≤ 2 ^ i := Nat.pow_le_pow_right (by decide) hk
    have HP : Hid (2 ^ (k + 1) = 2 ^ k * 2) := Nat.pow_succ ..
    by_cases hlt : k < i
    · generalize 2 ^ k = m at hp HP
      go_wp2_with fail
      go_round
      case rel => exact ⟨k + 1, by omega, by go_num, by rw [HP.out]; go_num⟩
      case measure => simp [intOf]; omega
    · obtain rfl : k = i := by omega
      have HF : Hid ((2 ^ k : Nat) ≤ 64) := h64
      have HE : Hid (d < 2 ^ k) := hd
      clear HP hp h64 hd
      obtain ⟨m, hm⟩ : ∃ m : Nat, 2 ^ k = m := ⟨_, rfl⟩
      rw [hm] at HF HE ⊢
      have hm1 : m ≤ 64 := HF.out
      have hm2 : d < m := HE.out
      have HM : Hid (((m : Nat) : Int) = 2 ^ k) := by show _ = _; rw [← hm]; simp
      clear hm HF HE
      go_wp2_with fail
      go_ret
      exact ⟨by simp [HM.out], rfl⟩

set_option maxHeartbeats 4000000 in
theorem f_rmissing (s : Sg) (v : Value) (w : World) (ok : Okay s) (hs : Stp w v s.steps) (hdn : DoneIn s) : Calls Try.prog 51 #[.agg (sgC s v)] w fun e w' => e = .returned (.int .i64 (missing s)) ∧ Kept (fun _ => False) w w' := by
  have HB := Lib.hid (missing_bit ok.len hdn)
  have HT := Lib.hid (missing_lt hdn)
  have HSP : Hid (∀ i, mis s i = ((s.phase != 2) && (s.done.testBit i && !s.undone.testBit i))) := fun _ => rfl
  generalize hM : missing s = M at HB HT ⊢
  generalize hG : mis s = G at HB HSP
  clear hM hG hdn
  have KW := (Kept.refl (fun _ => False) w).alloc (.cells (sgC s v) 27)
  have b := heap_alloc_new w (.cells (sgC s v) 27)
  obtain ⟨a, c, rfl⟩ := hs.form
  obtain ⟨st, ph, po, tr, wt, bk, dn, un, my, sq⟩ := s
  have hlen : st.length ≤ 6 := ok.len
  have hdn : dn < 64 := ok.done
  have hun : un < 64 := ok.undone
  clear hs ok
  unfold sgC at *
  dsimp only at *
  obtain ⟨b0, b1, b2, b3, b4, b5, b6, b7, b8, b9⟩ := cells10 b
  have h64 : 2 ^ st.length ≤ 64 := (Nat.pow_le_pow_right (by decide) hlen : 2 ^ st.length ≤ 2 ^ 6)
  clear b b2 b3 b4 b5 b8 b9
  have HK := Lib.hid KW
  clear KW
  go_enter Try.func51, Try.ntmps51
  go_wp2_with fail
  generalize w.alloc (.cells #[.slice a st.length c, .int .i64 ph, .int .i64 po, .int .i64 tr, .bool wt, .bool bk, .int .i64 dn, .int .i64 un, .int .i64 my, .int .i64 sq] 27) = w1 at *
  go_loop [3, 4] (fun o j => ∃ k : Nat, k ≤ st.length ∧ j = .int .i64 k ∧ o = .int .i64 ((M % 2 ^ k : Nat) : Int)) (fun _ j => st.length - (intOf j).toNat)
  case atStart => exact ⟨0, Nat.zero_le _, rfl, by simp [Nat.mod_one]⟩
  case round =>
    obtain ⟨k, hk, rfl, rfl⟩ := hrel
    have hmk : M % 2 ^ k < 2 ^ k := Nat.mod_lt _ (Nat.two_pow_pos _)
    have hpk : 2 ^ k ≤ 64 := Nat.le_trans (Nat.pow_le_pow_right (by decide) hk) h64
    by_cases hlt : k < st.length
    · have HST : Hid (M % 2 ^ (k + 1) = M % 2 ^ k + (if G k = true then 2 ^ k else 0)) := by show _ = _; rw [mod_step, HB.out]
      have HD := Lib.hid (fun w' => f_has dn k w' hdn (by omega))
      have HU := Lib.hid (fun w' => f_has un k w' hun (by omega))
      have HP := Lib.hid (fun w' => f_put (M % 2 ^ k) k w' hmk (by omega))
      have hop := HSP.out k
      generalize G k = g at HST hop
      generalize dn.testBit k = td at HD hop
      generalize un.testBit k = tu at HU hop
      generalize M % 2 ^ k = o at hmk HST HP
      generalize 2 ^ k = q at hmk hpk HST HP
      have HO := Lib.hid hop
      clear hop h64
      by_cases h2 : ph = 2
      · have t1 : ((ph : Int) != 2) = false := by rw [bne, h2]; rfl
        have E : Hid (M % 2 ^ (k + 1) = o) := by show _ = _; rw [HST.out, HO.out]; simp [h2]
        clear h2
        go_wp2_with fail
        go_round
        case rel => exact ⟨k + 1, by omega, by go_num, by rw [E.out]⟩
        case measure => simp [intOf]; omega
      have t1 : ((ph : Int) != 2) = true := by rw [bne_iff_ne]; omega
      have t0 : Hid ((ph != 2) = true) := by show _ = _; simp [h2]
      clear h2
      cases td with
      | false =>
        have E : Hid (M % 2 ^ (k + 1) = o) := by show _ = _; rw [HST.out, HO.out]; simp
        go_wp2_with fail
        refine (HD.out _).mono ?_
        rintro e w2 ⟨rfl, rfl⟩
        go_wp2_with fail
        go_round
        case rel => exact ⟨k + 1, by omega, by go_num, by rw [E.out]⟩
        case measure => simp [intOf]; omega
      | true =>
        cases tu with
        | true =>
          have E : Hid (M % 2 ^ (k + 1) = o) := by show _ = _; rw [HST.out, HO.out]; simp
          go_wp2_with fail
          refine (HD.out _).mono ?_
          rintro e w2 ⟨rfl, rfl⟩
          go_wp2_with fail
          refine (HU.out _).mono ?_
          rintro e w2 ⟨rfl, rfl⟩
          go_wp2_with fail
          go_round
          case rel => exact ⟨k + 1, by omega, by go_num, by rw [E.out]⟩
          case measure => simp [intOf]; omega
        | false =>
          have E : Hid (M % 2 ^ (k + 1) = o + q) := by show _ = _; rw [HST.out, HO.out, t0.out]; simp
          go_wp2_with fail
          refine (HD.out _).mono ?_
          rintro e w2 ⟨rfl, rfl⟩
          go_wp2_with fail
          refine (HU.out _).mono ?_
          rintro e w2 ⟨rfl, rfl⟩
          go_wp2_with fail
          refine (HP.out _).mono ?_
          rintro e w2 ⟨rfl, rfl⟩
          go_wp2_with fail
          go_round
          case rel => exact ⟨k + 1, by omega, by go_num, by rw [E.out]; go_num⟩
          case measure => simp [intOf]; omega
    · obtain rfl : k = st.length := by omega
      have E : Hid (M % 2 ^ st.length = M) := Nat.mod_eq_of_lt HT.out
      rw [E.out]
      have hM : M ≤ 64 := by have := HT.out; omega
      clear hmk hpk h64
      go_wp2_with fail
      go_ret
      exact ⟨rfl, HK.out⟩

/-! ## Lines -/
theorem guard60n (w : World) (x y : Operand) (xs ys : Array Value) : (eqGuard .neq 60 x y (.agg xs) (.agg ys)).run Try.prog w = .ok () w := run_eqGuard_agg w .neq 60 x y _ _ (by kernel_rfl)
theorem quiet_neq60 {ops : Array Oper} {rest : List Oper} {dst : Option Tmp} {ty rt : TypeId} {pos : String} {aft : Array Edge} {gd : Option (Nat × Bool)} {x y : Operand} {a : Act} {S : World → Prop} {K : Act → Prop} {p q p' q' : Int}
    (hw : Region.wanted ⟨dst, .binOp .neq 60 x y rt, ty, pos, aft, gd⟩ (yielded ops a.tmps) = true) (hx : a.eval x = .agg #[.int .i64 p, .int .i64 q]) (hy : a.eval y = .agg #[.int .i64 p', .int .i64 q']) (h : wpQuiet Try.prog ops S K rest (a.put dst (.bool (!((p == p') && (q == q')))))) :
    wpQuiet Try.prog ops S K (⟨dst, .binOp .neq 60 x y rt, ty, pos, aft, gd⟩ :: rest) a := by
  refine wpQuiet_step fun K' hK => ?_
  rw [if_pos hw]
  refine ⟨_, fun w hS => ?_, hK _ h⟩
  unfold Oper.quietAt execOp
  simp only [hx, hy, Sem.run_bind, guard60n, run_neq_struct, equal60, Result.andThen_ok, Sem.run_pure]
  exact ⟨rfl, rfl⟩

set_option maxHeartbeats 2000000 in
theorem f_rlines (va vb : Value) (l m : List (Int × Int)) (w : World) (ha : Stp w va l) (hb : Stp w vb m) (hll : l.length ≤ 1000000) : Calls Try.prog 30 #[va, vb] w (BPost (decide (l = m)) w) := by
  obtain ⟨a, c, rfl⟩ := ha.form
  obtain ⟨b, d, rfl⟩ := hb.form
  by_cases hlen : l.length = m.length
  · have t1 : ((l.length : Int) == m.length) = true := by rw [beq_iff_eq]; omega
    have t2 : ((l.length : Int) != m.length) = false := by rw [bne, t1]; rfl
    have HA := Lib.hid ha
    have HB := Lib.hid hb
    have HL := Lib.hid hlen
    clear ha hb hlen
    go_enter Try.func30, Try.ntmps30
    go_wp2
    go_loopw [5] (fun i wr => ∃ k : Nat, k ≤ l.length ∧ i = .int .i64 k ∧ l.take k = m.take k ∧ Kept (fun _ => False) w wr) (fun i _ => l.length - (intOf i).toNat)
    case atStart => exact ⟨0, Nat.zero_le _, rfl, rfl, Kept.refl _ _⟩
    case round =>
      obtain ⟨k, hk, rfl, ht, K⟩ := hrel
      have HT := Lib.hid ht
      clear ht
      by_cases hlt : k < l.length
      · have hlm : k < m.length := by have := HL.out; omega
        obtain ⟨b1, o1, c1, e1, x1, x0, -⟩ := (HA.out.kept K).kind hlt
        obtain ⟨b2, o2, c2, e2, y1, y0, -⟩ := (HB.out.kept K).kind hlm
        simp only [Value.slice.injEq, true_and] at e1 e2
        obtain ⟨rfl, rfl⟩ := e1
        obtain ⟨rfl, rfl⟩ := e2
        have k1 : kindAt l k = l[k].2 := by rw [kindAt, List.getElem?_eq_getElem hlt]; rfl
        have k2 : kindAt m k = m[k].2 := by rw [kindAt, List.getElem?_eq_getElem hlm]; rfl
        rw [k1] at x1
        rw [k2] at y1
        clear k1 k2
        generalize hxk : l[k] = x at x1 x0
        generalize hyk : m[k] = y at y1 y0
        have HXK := Lib.hid hxk
        have HYK := Lib.hid hyk
        clear hxk hyk
        obtain ⟨p, q⟩ := x
        obtain ⟨p', q'⟩ := y
        dsimp only at x0 x1 y0 y1
        have hd : ∀ n, Kept (fun _ => False) w (wr.drewN n) := fun n => K.drewN n
        have HD := Lib.hid hd
        clear hd
        by_cases hxy : (p == p' && q == q') = true
        · have hst : l.take (k + 1) = m.take (k + 1) := list_step' HT.out hlt hlm (by rw [HXK.out, HYK.out]; simp at hxy; rw [hxy.1, hxy.2])
          have HST := Lib.hid hst
          clear hst
          go_wp2
          refine wp_region_quiet_lit (by kernel_rfl) (by kernel_rfl) ?_
          repeat (first | ((with_reducible refine quiet_neq60 (p := p) (q := q) (p' := p') (q' := q') ?_ ?_ ?_ ?_); rfl; rfl; rfl; rw [hxy]) | quiet_step (fail))
          refine wpQuiet_nil ?_
          intro _ hw'
          obtain ⟨nq, hw''⟩ := hw'
          subst hw''
          go_wp2
          go_roundw
          case rel => exact ⟨k + 1, by omega, by go_num, HST.out, HD.out _⟩
          case measure => simp [intOf]; omega
        · have hxy : (p == p' && q == q') = false := by simpa using hxy
          have e : decide (l = m) = false := by
            simp only [decide_eq_false_iff_not]
            rintro rfl
            have := HXK.out.symm.trans HYK.out
            simp only [Prod.mk.injEq] at this
            simp [this.1, this.2] at hxy
          have HE := Lib.hid e
          clear e
          go_wp2
          refine wp_region_quiet_lit (by kernel_rfl) (by kernel_rfl) ?_
          repeat (first | ((with_reducible refine quiet_neq60 (p := p) (q := q) (p' := p') (q' := q') ?_ ?_ ?_ ?_); rfl; rfl; rfl; rw [hxy]) | quiet_step (fail))
          refine wpQuiet_nil ?_
          intro _ hw'
          obtain ⟨nq, hw''⟩ := hw'
          subst hw''
          go_wp2
          go_ret
          exact BPost.mk HE.out (HD.out _)
      · have e : l = m := by
          have h := HT.out
          rwa [List.take_of_length_le (by omega), List.take_of_length_le (by have := HL.out; omega)] at h
        have HE := Lib.hid (show decide (l = m) = true by simpa using e)
        clear e
        go_wp2
        go_ret
        exact BPost.mk HE.out K
  · have t1 : ((l.length : Int) == m.length) = false := by rw [beq_eq_false_iff_ne]; omega
    have t2 : ((l.length : Int) != m.length) = true := by rw [bne, t1]; rfl
    have HE := Lib.hid (show decide (l = m) = false by simp only [decide_eq_false_iff_not]; rintro rfl; exact hlen rfl)
    clear hlen ha hb
    go_enter Try.func30, Try.ntmps30
    go_wp2
    go_ret
    exact BPost.mk HE.out (Kept.refl _ _)


end Go.Proofs.Ytklmhegmombegaa
