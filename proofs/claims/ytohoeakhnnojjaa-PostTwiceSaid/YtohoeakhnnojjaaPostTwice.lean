/-
  A call that comes twice comes once more, at the end, and no other does: 'Rows.PostTwiceSaid', for every input. Conditions: none.
-/
import Derived.Test.YtohoeakhnnojjaaLaw
import Derived.Deep.DeepCutAuto
import Derived.Deep.CutBlock
import Derived.ProofKit
import Derived.OpenShut
import Derived.ShutString
import Derived.ChangeOld
import Derived.Below
namespace Go.Proofs.Ytohoeakhnnojjaa
open Go Go.RowKit Go.Conc
/-- What lies there behind k sendings of l's calls. -/
def filled (l : List (Array Value)) (k : Nat) : List (Array Value) := (l.take k).take 24
theorem sent_filled (l : List (Array Value)) (k : Nat) (h : k < l.length) : sent (filled l k) l[k] = filled l (k + 1) := by
  have hl : (filled l k).length = min 24 k := by simp [filled]; omega
  unfold sent
  by_cases h24 : k < 24
  · have e : filled l k = l.take k := by rw [filled, List.take_of_length_le (by simp; omega)]
    have e' : filled l (k + 1) = l.take (k + 1) := by rw [filled, List.take_of_length_le (by simp; omega)]
    rw [if_pos (by omega), e, e', List.take_append_getElem h]
  · rw [if_neg (by omega), filled, filled, List.take_take, List.take_take]
    congr 1; omega
theorem filled_length (l : List (Array Value)) (k : Nat) (h : k ≤ l.length) : (filled l k).length = min 24 k := by simp [filled]; omega
end Go.Proofs.Ytohoeakhnnojjaa
namespace Go.Proofs.Ytohoeakhnnojjaa.postTwice
open Go.ChangeShapes Go.WideShapes Go.ChangeAt Go.RowKit
set_option linter.unusedVariables false
theorem own : ownKnob Try.prog.godebug = none := by kernel_rfl
theorem laidOut : laidOutB Try.prog = true := by kernel_rfl
theorem wf8 {n : Int} (h : (Lit.int .u8 n).wf = true) : 0 ≤ n ∧ n ≤ 255 := by
  simpa [Lit.wf, IntKind.min, IntKind.max, IntKind.signed, IntKind.bits] using h

set_option maxHeartbeats 4000000 in
theorem walk (w : World) (v0 : Value) (w0 : IsCalls w v0) (a1 : Int) (w1 : (Lit.int .u8 a1).wf = true) :
    Calls Try.prog 7 #[v0, .int .u8 a1] w fun e w' => e = .returned (.bool true) ∧ Below w.heap.size w w' := by
  obtain ⟨a, c, l, rfl, hm, hall, hrd⟩ := w0
  have h8 := wf8 w1
  clear w1
  obtain ⟨m, rfl⟩ : ∃ m : Nat, a1 = m := ⟨a1.toNat, by omega⟩
  unfold maxLen at hm
  have HA := Lib.hid hall
  have HR := Lib.hid hrd
  clear hall hrd
  go_enter Try.func7, Try.ntmps7
  go_wp2_with fail
  refine (alive_true w).mono ?_
  rintro e w1 ⟨rfl, hk1⟩
  by_cases h80 : 80 < l.length
  · go_wp2_with fail
    go_ret
    exact ⟨rfl, hk1.below (Nat.le_refl _) (fun k h => h)⟩
  by_cases h0 : l.length = 0
  · have t0 : ((l.length : Int) == 0) = true := by rw [beq_iff_eq]; omega
    clear h0
    go_wp2_with fail
    go_ret
    exact ⟨rfl, hk1.below (Nat.le_refl _) (fun k h => h)⟩
  have t0 : ((l.length : Int) == 0) = false := by rw [beq_eq_false_iff_ne]; omega
  go_wp2_with fail
  have hmod : m % l.length < l.length := Nat.mod_lt _ (by omega)
  have hwr : wrap64 (1 + (m : Int) % (l.length : Int)) = ((m % l.length + 1 : Nat) : Int) := by
    have : ((m % l.length : Nat) : Int) = (m : Int) % (l.length : Int) := by simp
    rw [← this, IntWalk.wrap64_in _ ⟨by omega, by omega⟩]; omega
  rw [hwr]
  clear hwr
  obtain ⟨kk, hkk⟩ : ∃ kk, m % l.length + 1 = kk := ⟨_, rfl⟩
  rw [hkk]
  have hkk1 : 1 ≤ kk := by omega
  have hkk2 : kk ≤ l.length := by omega
  clear hkk hmod h8
  refine (l_new hk1).mono ?_
  rintro e w2 ⟨D, K, rfl, hL0⟩
  clear hk1
  go_wp2_with fail
  go_loopw [7] (fun i wr => ∃ k : Nat, k ≤ kk ∧ i = .int .i64 k ∧ L w wr D K (filled l k)) (fun i _ => kk - (intOf i).toNat)
  case atStart => exact ⟨0, Nat.zero_le _, rfl, hL0⟩
  case round =>
    obtain ⟨k, hk, rfl, hL⟩ := hrel
    clear hL0
    by_cases hlt : k < kk
    · obtain ⟨b, o, c', e1, r1⟩ := HR.out.addr (by omega)
      simp only [Value.slice.injEq, true_and] at e1
      obtain ⟨rfl, rfl⟩ := e1
      have hltl : k < l.length := by omega
      have hC : Callish l[k] := HA.out _ (List.getElem_mem hltl)
      have g1 := hL.range (Rd.range HA.out r1 (List.getElem?_eq_getElem hltl))
      have HF := Lib.hid (sent_filled l k hltl)
      clear r1
      generalize l[k] = C at hC g1 HF
      go_wp2_with (first | fail | ((with_reducible refine load28 ?_ g1 hC.size ?_); rfl))
      refine (l_send hL hC).mono ?_
      rintro e wx ⟨rfl, h1⟩
      rw [HF.out] at h1
      have HL := Lib.hid h1
      clear h1 g1
      go_wp2_with fail
      go_roundw
      case rel => exact ⟨k + 1, by omega, by go_num, HL.out⟩
      case measure => simp [intOf]; omega
    · obtain rfl : kk = k := by omega
      have hql := filled_length l kk hkk2
      have hfl : ∃ C, l[0]? = some C ∧ firstOf (filled l kk) = C := by
        cases l with
        | nil => exact absurd rfl h0
        | cons C l => exact ⟨C, rfl, by cases kk with | zero => omega | succ kk => rfl⟩
      have hca := hL.calls
      generalize filled l kk = q at hL hql hfl hca
      obtain ⟨C0, hl0, hf0⟩ := hfl
      have HF0 := Lib.hid hf0
      have HL0 := Lib.hid hl0
      have hqp : 0 < q.length := by omega
      have hq24 : q.length ≤ 24 := by omega
      have HQ := Lib.hid hql
      clear hf0 hl0 hql
      go_wp2_with fail
      refine (l_list hL).mono ?_
      rintro e w3 ⟨b1, c1, rfl, hb, hL3, k3⟩
      have hKlt := hL.post.ltK
      generalize wr.heap.size = lo at hb hKlt
      clear hL k3
      go_wp2_with fail
      refine (k_twice hL3).mono ?_
      rintro e w4 ⟨rfl, hL4, k4⟩
      have hb4 := told hb hKlt k4
      clear hL3 k4 hb
      by_cases h24 : kk < 24
      · have e1 : twices q = true := by have := HQ.out; simp only [twices, decide_eq_true_eq]; omega
        have e2 : twice q = q ++ [C0] := by have := HQ.out; rw [twice, if_neg (by omega), HF0.out]
        have t24 : decide ((kk : Int) < 24) = true := by rw [decide_eq_true_eq]; omega
        rw [e1]
        rw [e2] at hL4
        clear e1 e2
        go_wp2_with fail
        refine (l_list hL4).mono ?_
        rintro e w5 ⟨b2, c2, rfl, hb5, hL5, k5⟩
        have hb6 := told hb4 hKlt k5
        have hca5 := hL5.calls
        have HL := Lib.hid hL5
        have e5 : (q ++ [C0]).length = q.length + 1 := by simp
        rw [e5] at hb5 ⊢
        clear hL4 hb4 k5 hL5 e5
        have hcap : q.length + 1 ≤ c2 := by
          obtain ⟨_, _, e, hc, _⟩ := hb5.form
          cases e; exact hc
        have rd5 := hb5.rd
        have rdw := hb6.rd
        have e6 : (flat (q ++ [C0])).take (q.length * 41) = flat q := by
          have h1 : flat (q ++ [C0]) = flat q ++ C0.toList := by simp [flat]
          rw [h1, ← flat_length hca, List.take_left]
        have rdc := rd5.cut (m := q.length) (by omega)
        rw [e6] at rdc
        obtain ⟨b, o, c', e1, r1⟩ := HR.out.addr (by omega)
        simp only [Value.slice.injEq, true_and] at e1
        obtain ⟨rfl, rfl⟩ := e1
        obtain ⟨g2, o2, c', e1, r2⟩ := rd5.addr (by omega)
        simp only [Value.slice.injEq, true_and] at e1
        obtain ⟨rfl, rfl⟩ := e1
        have g1 := Rd.range HA.out r1 HL0.out
        have g2' := Rd.range hca5 r2 (k := q.length) (C := C0) (by simp)
        rw [Nat.zero_mul, Nat.add_zero] at g1
        have G1 : ∀ w', (∃ n, w' = w5.drewN n) → w'.rangeAt b o C0.toList := by rintro w' ⟨n, rfl⟩; exact HL.out.range g1
        have G2 : ∀ w', (∃ n, w' = w5.drewN n) → w'.rangeAt g2 (o2 + q.length * 41) C0.toList := by rintro w' ⟨n, rfl⟩; exact g2'
        have hC : Callish C0 := hca5 C0 (by simp)
        have HE := eq28_self hC
        have HS : Hid (∀ n, Calls Try.prog 21 #[.slice (some ⟨g2, o2, none⟩) q.length c2, .slice b1 q.length c1] (w5.drewN n) fun e w'' => e = .returned (.bool true) ∧ ∃ m, w'' = w5.drewN m) := fun n =>
          Calls.quiet_of (f_same (w5.drewN n) q hca (by omega) _ _ (rdc.drewN n) (rdw.drewN n))
        have hsz := hC.size
        have HC := Lib.hid hsz
        clear hb5 hb6 rd5 rdw rdc r1 r2 g1 g2' hca5 hC hca e6 hsz
        go_wp2_with fail
        have hle1 : q.length ≤ c2 := by omega
        have hle0 : 0 < l.length := by omega
        have hlt1 : (q.length : Int) < (q.length : Int) + 1 := by omega
        have hwq : IntKind.i64.wrap ((q.length : Int) + 1) = (q.length : Int) + 1 := by rw [IntWalk.i64_left, IntWalk.wrap64_in _ ⟨by omega, by omega⟩]
        refine wp_region_quiet_lit (by kernel_rfl) (by kernel_rfl) ?_
        repeat (first | ((with_reducible refine quiet_load28 ?_ ?_ G1 HC.out ?_); rfl; rfl) | ((with_reducible refine quiet_load28 ?_ ?_ G2 HC.out ?_); rfl; rfl) | quiet_step (exact HS.out _))
        refine wpQuiet_nil ?_
        intro _ hw'
        obtain ⟨nq, hw''⟩ := hw'
        subst hw''
        clear HE G1 G2 hwq hle1 hle0 hlt1
        go_wp2_with fail
        go_ret
        exact ⟨rfl, (HL.out.kept.drewN nq).below (Nat.le_refl _) (fun k h => h)⟩
      · have e1 : twices q = false := by have := HQ.out; simp only [twices, decide_eq_false_iff_not]; omega
        have e2 : twice q = q := by have := HQ.out; rw [twice, if_pos (by omega)]
        have t24 : decide ((kk : Int) < 24) = false := by rw [decide_eq_false_iff_not]; omega
        rw [e1]
        rw [e2] at hL4
        clear e1 e2
        go_wp2_with fail
        refine (l_list hL4).mono ?_
        rintro e w5 ⟨b2, c2, rfl, hb5, hL5, k5⟩
        have hb6 := told hb4 hKlt k5
        have HL := Lib.hid hL5
        clear hL4 hb4 k5 hL5
        go_wp2_with fail
        refine (f_same_kept w5 q hca (by omega) _ _ hb6.rd hb5.rd).mono ?_
        rintro e w6 ⟨rfl, k6⟩
        clear hb5 hb6
        go_wp2_with fail
        go_ret
        exact ⟨rfl, ((HL.out.none k6).kept).below (Nat.le_refl _) (fun k h => h)⟩
set_option maxRecDepth 100000 in
theorem lifted (os : Os) (started : os.Started) (H : Type) (enc : TypeId × Value → H) :
    ReturnsInHanded {} Try.checked os 7 .any (Rows.postTwiceSpec.pre6 enc Try.prog Try.f7 Rows.postTwiceRow.domain false) (Rows.postTwiceSpec.post enc Try.prog Try.f7 false true false false) := by
  refine returnsInHanded_of_change (C := Try.checked) own started (by kernel_rfl) Try.func7
    (ChangeSpec.witness6 (enc := enc) (C := Try.checked) false ⟨#[], #[.slice none 0 0, .int .u8 0], []⟩ 8 (by kernel_rfl) (by kernel_rfl) (by kernel_rfl) (by kernel_rfl)) ?_
  intro W base args ds gs before hval0 hW hcnd _
  have hval : ∀ (j : Nat) t v, Try.f7.params[j]? = some t → args[j]? = some v → Value.okWide Try.prog W .any base t v := hval0
  have hW' := hW
  obtain ⟨p, q, hA0, hV, rfl, hfz, hnd⟩ := hW
  have hA : DataW.TrodAll enc Try.prog W 0 (fun _ => true) true Try.f7.params.toList args.toList ds p := hA0
  rw [Try.params7] at hA hval
  obtain ⟨v0, vs0, d0, ds0, p0, q0, hargs, rfl, rfl, h0, r0⟩ := trodAll_cons hA
  obtain ⟨v1, vs1, d1, ds1, p1, q1, rfl, rfl, rfl, h1, r1⟩ := trodAll_cons r0
  obtain ⟨rfl, rfl, rfl⟩ := trodAll_nil r1
  obtain rfl : args = #[v0, v1] := by cases args; simp_all
  obtain ⟨rfl, rfl⟩ := trodVars_none hV
  have k0 := h0
  have lt0 : ∀ x ∈ p0, x.block < W.heap.size := by obtain ⟨m, hm⟩ := k0; exact DataW.trod_lt m _ _ _ hm
  have w0 := IsCalls.of (hval 0 32 v0 rfl rfl) h0
  obtain ⟨a1, rfl, rfl, rfl, w1⟩ := open_int Try.underlying5 (hval 1 5 v1 rfl rfl) h1
  clear hA0 hval0
  refine (walk W v0 w0 a1 w1).mono fun e W' ⟨he, bel⟩ => ?_
  subst he
  exact ⟨_, rfl, _, _, _, [], _, [], hW', trodAll_mk1 (shut_bool Try.underlying4 _), (trodAll_cons_mk (Below.trod laidOut (by kernel_rfl) (of_decide_eq_true (by kernel_rfl)) k0 bel lt0) (trodAll_cons_mk (shut_int Try.underlying5 w1) trodAll_mk0)), rfl, bel.frame _, fun h => by cases h⟩

theorem over : Rows.postTwiceRow.holds Try.pinned (OpenSpec.ofChange Rows.postTwiceSpec) :=
  OpenClaim.holds_of_wide 7 Try.f7 rfl rfl rfl rfl rfl rfl rfl ⟨rfl, rfl, rfl, rfl, rfl⟩ rfl rfl rfl rfl rfl (by kernel_rfl) Try.func7 (by kernel_rfl)
    (of_decide_eq_true (by kernel_rfl)) (by unfold Func.isWrapper; first | (rw [if_pos (by decide +kernel)]; kernel_rfl) | (rw [if_neg (by decide +kernel)]; exact ⟨rfl, rfl⟩))
    (fun os started H enc _ => lifted os started H enc)

theorem proved : Rows.PostTwiceSaid := over
#print axioms proved
end Go.Proofs.Ytohoeakhnnojjaa.postTwice
