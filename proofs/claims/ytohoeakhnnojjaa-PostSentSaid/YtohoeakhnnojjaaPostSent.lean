/-
  Nothing comes that was not sent, and Late turns no call, only their order: 'Rows.PostSentSaid', for every input. Conditions: none.
-/
import Derived.Test.YtohoeakhnnojjaaLaw
import Derived.Deep.DeepCutAuto
import Derived.Deep.CutBlock
import Derived.ProofKit
import Derived.OpenShut
import Derived.ShutString
import Derived.ChangeOld
import Derived.Below
namespace Go.Proofs.Ytohoeakhnnojjaa.postSent
open Go.ChangeShapes Go.WideShapes Go.ChangeAt Go.RowKit
set_option linter.unusedVariables false
theorem own : ownKnob Try.prog.godebug = none := by kernel_rfl
theorem laidOut : laidOutB Try.prog = true := by kernel_rfl

/-- The post, and beside it the slice v of what was sent. -/
structure S (w wr : World) (D K : Nat) (q : List (Array Value)) (v : Value) (l : List (Array Value)) : Prop where
  post : L w wr D K q
  buf : Buf wr w.heap.size 28 41 v l.length (flat l)
  calls : ∀ C ∈ l, Callish C
  sub : ∀ C ∈ q, C ∈ l

theorem quiet_op_load28 {dst : Option Tmp} {ty : TypeId} {pos : String} {aft : Array Edge} {gd : Option (Nat × Bool)} {x : Operand} {a : Act} {S : World → Prop} {K : Act → Prop} {g o : Nat} {C : Array Value}
    (hx : a.eval x = .pointer (some ⟨g, o, none⟩)) (hr : ∀ w, S w → w.rangeAt g o C.toList) (hC : C.size = 41) (h : K (a.put dst (.agg C))) : Oper.quiet Try.prog ⟨dst, .load 28 x, ty, pos, aft, gd⟩ a S K := by
  refine ⟨.agg C, fun w hw => ?_, h⟩
  have hl := run_loadAt_mid (P := Try.prog) w g o 28 C.toList _ (hr w hw) Try.underlying28 rfl (by rw [Try.isz28]; simp [hC])
  rw [Array.toArray_toList] at hl
  unfold Oper.quietAt execOp
  simp only [hx, Sem.run_bind, hl, Result.andThen_ok, Sem.run_pure]
  exact ⟨rfl, rfl⟩

theorem S.neK {w wr : World} {D K : Nat} {q : List (Array Value)} {v : Value} {l : List (Array Value)} (h : S w wr D K q v l) : v.ownBlock ≠ some K := by
  intro e
  obtain ⟨s, r, hc⟩ := h.post.post.chan
  rcases h.buf.2 with ⟨rfl, _⟩ | ⟨g, cap, cur, rfl, _, hg, _⟩
  · cases e
  · simp [Value.ownBlock] at e
    subst e
    rw [hc] at hg; cases hg
theorem S.neD {w wr : World} {D K : Nat} {q : List (Array Value)} {v : Value} {l : List (Array Value)} (h : S w wr D K q v l) : v.ownBlock ≠ some D := h.buf.ne_of_type h.post.post.block (by decide)
theorem S.turn {w wr wx : World} {D K : Nat} {q q' : List (Array Value)} {v : Value} {l : List (Array Value)} (h : S w wr D K q v l) (hL : L w wx D K q') (hk : Kept (fun k => k = K) wr wx) (hs : ∀ C ∈ q', C ∈ q) : S w wx D K q' v l :=
  ⟨hL, h.buf.kept hk (fun k e e' => h.neK (by rw [e, show k = K from e'])), h.calls, fun C hC => h.sub C (hs C hC)⟩
theorem mem_late {q : List (Array Value)} {C : Array Value} (h : C ∈ late q) : C ∈ q := by
  unfold late at h
  split at h
  · exact h
  · rcases List.mem_append.1 h with h | h
    · exact List.mem_of_mem_tail h
    · simp at h; subst h
      cases q with
      | nil => simp at *
      | cons D q => simp [firstOf]
theorem mem_twice {q : List (Array Value)} {C : Array Value} (h : C ∈ twice q) : C ∈ q := by
  unfold twice at h
  split at h
  · exact h
  · rcases List.mem_append.1 h with h | h
    · exact h
    · simp at h; subst h
      cases q with
      | nil => simp at *
      | cons D q => simp [firstOf]
theorem mem_sent {q : List (Array Value)} {C E : Array Value} (h : E ∈ sent q C) : E ∈ q ∨ (room q = true ∧ E = C) := by
  unfold sent at h
  split at h
  · rcases List.mem_append.1 h with h | h
    · exact .inl h
    · simp at h; exact .inr ⟨by simpa [room], h⟩
  · exact .inl h

theorem S.pushed {w wx w' : World} {D K : Nat} {q : List (Array Value)} {v v' : Value} {l : List (Array Value)} {C : Array Value} (hL : L w wx D K q) (hb : Buf wx w.heap.size 28 41 v l.length (flat l)) (hD : v.ownBlock ≠ some D) (hK : v.ownBlock ≠ some K)
    (hl : ∀ C ∈ l, Callish C) (hC : Callish C) (hs : ∀ E ∈ q, E ∈ l ++ [C]) (hg : (wx.alloc (.cells C 28)).grownBy w' v.ownBlock) (hb' : Buf w' w.heap.size 28 41 v' (l.length + 1) (flat l ++ C.toList)) : S w w' D K q v' (l ++ [C]) := by
  have k1 : Kept (fun k => v.ownBlock = some k) wx w' := ((Kept.refl _ wx).alloc (.cells C 28)).grown hg (fun k hk => .inl hk)
  refine ⟨⟨hL.post.kept k1 hD hK, hL.kept1 k1 (fun k e => (hb.lt k e).1)⟩, ?_, ?_, hs⟩
  · have e1 : (l ++ [C]).length = l.length + 1 := by simp
    have e2 : flat (l ++ [C]) = flat l ++ C.toList := by simp [flat]
    rw [e1, e2]; exact hb'
  · intro E hE
    rcases List.mem_append.1 hE with h | h
    · exact hl E h
    · simp at h; subst h; exact hC

set_option maxRecDepth 100000 in
set_option maxHeartbeats 4000000 in
theorem walk (w : World) (v0 : Value) (w0 : IsActs w v0) :
    Calls Try.prog 5 #[v0] w fun e w' => e = .returned (.bool true) ∧ Below w.heap.size w w' := by
  obtain ⟨a, n, c, Kd, C, rfl, hm, hx⟩ := w0
  unfold maxLen at hm
  have HA := Lib.hid hx
  clear hx
  go_enter Try.func5, Try.ntmps5
  go_wp2_with fail
  refine (alive_true w).mono ?_
  rintro e w1 ⟨rfl, hk1⟩
  by_cases h80 : 80 < n
  · go_wp2_with fail
    go_ret
    exact ⟨rfl, hk1.below (Nat.le_refl _) (fun k h => h)⟩
  go_wp2_with fail
  refine (l_new hk1).mono ?_
  rintro e w2 ⟨D, K, rfl, hL0⟩
  clear hk1
  have hS0 : S w w2 D K [] (.slice none 0 0) [] := ⟨hL0, by simpa [flat] using Buf.nil _ _ _ _, by simp, by simp⟩
  clear hL0
  go_wp2_with fail
  go_loopw [4, 5] (fun s i wr => ∃ (k : Nat) (q l : List (Array Value)), k ≤ n ∧ i = .int .i64 k ∧ l.length ≤ k ∧ S w wr D K q s l) (fun _ i _ => n - (intOf i).toNat)
  case atStart => exact ⟨0, [], [], Nat.zero_le _, rfl, Nat.le_refl _, hS0⟩
  case round =>
    obtain ⟨k, q, l, hk, rfl, hlk, hS⟩ := hrel
    clear hS0
    by_cases hlt : k < n
    · obtain ⟨b, o, rfl, hx⟩ := HA.out.resolve_left (by omega)
      obtain ⟨d0, hC, hr⟩ := hx k hlt
      clear hx
      have c0 := hS.post.cell d0
      have r0 := hS.post.range hr
      have HR := Lib.hid hr
      clear d0 hr
      generalize Kd k = kk at c0
      generalize C k = C at hC r0 HR
      have hq24 := hS.post.most
      go_wp2_with fail
      refine (l_len hS.post).mono ?_
      rintro e wx ⟨rfl, rfl⟩
      go_upto_block 2 with (fail)
      by_cases k0 : kk = 0
      · subst k0
        go_wp2_with (first | fail | ((with_reducible refine load28 ?_ r0 hC.size ?_); rfl))
        refine (k_send hS.post hC).mono ?_
        rintro e wx ⟨rfl, h1, kx⟩
        have r1 := h1.range HR.out
        have hbx : Buf wx w.heap.size 28 41 u4 l.length (flat l) := hS.buf.kept kx (fun k e e' => hS.neK (by rw [e, show k = K from e']))
        have HD := Lib.hid hS.neD
        have HK := Lib.hid hS.neK
        have HC := Lib.hid hS.calls
        have HU := Lib.hid hS.sub
        have HSq := Lib.hid (hS.turn (q' := sent q C) (wx := wx))
        clear c0 r0
        cases hr : room q with
        | true =>
          obtain ⟨i, hi, hs, hby, hz⟩ := info28'
          have hn2 := heap_alloc_new wx (.cells C 28)
          have hsrc : Src Try.prog 41 32 (.slice (some ⟨wx.heap.size, 0, none⟩) 1 1) 1 C.toList (wx.alloc (.cells C 28)) := by
            have h := Rd.of_block hn2 41 1 1 (by rw [hC.size]; decide)
            rw [List.take_of_length_le (by simp [hC.size])] at h
            exact h.src Try.underlying32 (fun u hu => Array.all_eq_true_iff_forall_mem.1 hC.one u (by simpa using hu))
          have hb2 : Buf (wx.alloc (.cells C 28)) w.heap.size 28 41 u4 l.length (flat l) := hbx.kept (S := fun _ => False) ((Kept.refl _ wx).alloc _) (fun _ _ h => h)
          have hwl := h1.lt
          have HL1 := Lib.hid h1
          have HBX := Lib.hid hbx
          have hsub : Hid (∀ E ∈ sent q C, E ∈ l ++ [C]) := by
            intro E hE
            rcases mem_sent hE with h | ⟨_, h⟩
            · exact List.mem_append.2 (.inl (HU.out E h))
            · subst h; simp
          clear hr hS h1 hbx hn2
          go_wp2_with (first | fail | ((with_reducible refine load28 ?_ r1 hC.size ?_); rfl) | ((with_reducible refine buildOne (C := C) ?_ hC.size ?_); rfl) | (at_builtin; refine wpList_append_buf _ rfl (.tmp 39) (.tmp 45) 32 32 rfl w.heap.size 28 i (.agg Z28) 41 96 Try.underlying32 hi hz hs hby rfl (by decide) u4 l.length (flat l) rfl hb2 _ _ _ rfl hsrc (by unfold maxLen; omega) (by omega) (by simp; omega) ?_; intro v' w' hb' hg' ho' hn'))
          go_roundw
          case rel => exact ⟨k + 1, _, l ++ [C], by omega, by go_num, by simp; omega, S.pushed HL1.out HBX.out HD.out HK.out HC.out hC hsub.out hg' hb'⟩
          case measure => simp [intOf]; omega
        | false =>
          have e1 : sent q C = q := by
            have : ¬ q.length < 24 := by simpa [room] using hr
            simp [sent, this]
          have hS1 := Lib.hid (HSq.out h1 kx (fun E hE => by rw [e1] at hE; exact hE))
          clear hr e1 hS h1 hbx HSq
          go_wp2_with fail
          go_roundw
          case rel => exact ⟨k + 1, _, l, by omega, by go_num, by omega, hS1.out⟩
          case measure => simp [intOf]; omega
      by_cases k1 : kk = 1
      · subst k1
        go_wp2_with fail
        refine (k_next hS.post).mono ?_
        rintro e wx ⟨rfl, h1, kx⟩
        have hS1 := Lib.hid (hS.turn h1 kx (fun E hE => List.mem_of_mem_tail hE))
        clear c0 r0 hS h1
        go_wp2_with fail
        go_roundw
        case rel => exact ⟨k + 1, _, l, by omega, by go_num, by omega, hS1.out⟩
        case measure => simp [intOf]; omega
      by_cases k2 : kk = 2
      · subst k2
        go_wp2_with fail
        refine (k_late hS.post).mono ?_
        rintro e wx ⟨rfl, h1, kx⟩
        have hS1 := hS.turn h1 kx (fun E hE => mem_late hE)
        clear c0 r0 hS h1
        go_wp2_with fail
        refine (l_len hS1.post).mono ?_
        rintro e wy ⟨rfl, rfl⟩
        rw [late_length]
        have HS1 := Lib.hid hS1
        clear hS1
        go_wp2_with fail
        go_roundw
        case rel => exact ⟨k + 1, _, l, by omega, by go_num, by omega, HS1.out⟩
        case measure => simp [intOf]; omega
      by_cases k3 : kk = 3
      · subst k3
        go_wp2_with fail
        refine (k_twice hS.post).mono ?_
        rintro e wx ⟨rfl, h1, kx⟩
        have hS1 := hS.turn h1 kx (fun E hE => mem_twice hE)
        have hsl := twice_length q hS.post.most
        clear c0 r0 hS h1
        cases hr : twices q with
        | true =>
          rw [hr, if_pos rfl] at hsl
          have HSL := Lib.hid hsl
          clear hsl hr
          go_wp2_with fail
          refine (l_len hS1.post).mono ?_
          rintro e wy ⟨rfl, rfl⟩
          rw [HSL.out]
          have HS1 := Lib.hid hS1
          clear hS1
          go_wp2_with fail
          go_roundw
          case rel => exact ⟨k + 1, _, l, by omega, by go_num, by omega, HS1.out⟩
          case measure => simp [intOf]; omega
        | false =>
          have HS1 := Lib.hid hS1
          clear hsl hr hS1
          go_wp2_with fail
          go_roundw
          case rel => exact ⟨k + 1, _, l, by omega, by go_num, by omega, HS1.out⟩
          case measure => simp [intOf]; omega
      · go_wp2_with fail
        go_roundw
        case rel => exact ⟨k + 1, _, l, by omega, by go_num, by omega, hS⟩
        case measure => simp [intOf]; omega
    · obtain ⟨a2, c2, rfl, hc2, _⟩ := hS.buf.form
      go_wp2_with fail
      refine (l_list hS.post).mono ?_
      rintro e wx ⟨a1, c1, rfl, hb, h1, kx⟩
      have hS1 := hS.turn h1 kx (fun E hE => hE)
      have hq24 := hS.post.most
      have RX := Lib.hid hb.rd
      have RS := Lib.hid hS1.buf.rd
      have CX := Lib.hid h1.calls
      have CS := Lib.hid hS1.calls
      have SU := Lib.hid hS1.sub
      have HL := Lib.hid h1
      have hl80 : l.length ≤ 80 := by omega
      clear hS hS1 hb h1 kx
      go_wp2_with fail
      go_loopw [8] (fun i wr => ∃ k : Nat, k ≤ q.length ∧ i = .int .i64 k ∧ ∃ m, wr = wx.drewN m) (fun i _ => q.length - (intOf i).toNat)
      case atStart => exact ⟨0, Nat.zero_le _, rfl, 0, rfl⟩
      case round =>
        obtain ⟨k, hk, rfl, m0, rfl⟩ := hrel
        by_cases hlt2 : k < q.length
        · obtain ⟨b1, o1, c', e1, r1⟩ := RX.out.addr (by omega)
          simp only [Value.slice.injEq, true_and] at e1
          obtain ⟨rfl, rfl⟩ := e1
          have hC : Callish q[k] := CX.out _ (List.getElem_mem hlt2)
          have hmem : q[k] ∈ l := SU.out _ (List.getElem_mem hlt2)
          have g1 := Rd.range CX.out r1 (List.getElem?_eq_getElem hlt2)
          clear r1
          generalize q[k] = C at hC g1 hmem
          have HM := Lib.hid hmem
          have HG1 := Lib.hid g1
          have HC := Lib.hid hC
          clear hmem g1 hC
          go_wp2_with fail
          go_loopw [9, 10] (fun s j wr => ∃ (i : Nat) (t : Bool), i ≤ l.length ∧ j = .int .i64 i ∧ s = .bool t ∧ (C ∈ l.take i → t = true) ∧ ∃ m, wr = wx.drewN m) (fun _ j _ => l.length - (intOf j).toNat)
          case atStart => exact ⟨0, false, Nat.zero_le _, rfl, rfl, by simp, m0, rfl⟩
          case round =>
            obtain ⟨i, t, hi, rfl, rfl, ht, m1, rfl⟩ := hrel
            have HT := Lib.hid ht
            clear ht
            by_cases hlt3 : i < l.length
            · obtain ⟨b2, o2, c', e2, r2⟩ := RS.out.addr (by omega)
              simp only [Value.slice.injEq, true_and] at e2
              obtain ⟨rfl, rfl⟩ := e2
              have hE : Callish l[i] := CS.out _ (List.getElem_mem hlt3)
              have g2 := Rd.range CS.out r2 (List.getElem?_eq_getElem hlt3)
              have hti : l.take (i + 1) = l.take i ++ [l[i]] := by rw [List.take_append_getElem hlt3]
              clear r2
              generalize l[i] = E at hE g2 hti
              have G1 : ∀ w', (∃ n, w' = (wx.drewN m1).drewN n) → w'.rangeAt b1 (o1 + k * 41) C.toList := by rintro w' ⟨n, rfl⟩; exact HG1.out
              have G2 : ∀ w', (∃ n, w' = (wx.drewN m1).drewN n) → w'.rangeAt b2 (o2 + i * 41) E.toList := by rintro w' ⟨n, rfl⟩; exact g2
              obtain ⟨r, hr, hre⟩ := eq28 hE HC.out
              have HRE := Lib.hid hre
              have HTI := Lib.hid hti
              have hi1 : (i : Int) < (l.length : Int) := by omega
              have hk1 : (k : Int) < (q.length : Int) := by omega
              have hC1 := HC.out.size
              clear g2 hre hti
              cases t with
              | true =>
                go_wp2_with fail
                go_quiet (fail)
                clear hr G1 G2 hi1 hk1
                go_wp2_with fail
                go_roundw
                case rel => exact ⟨i + 1, true, by omega, by go_num, rfl, fun _ => rfl, m1 + nq, rfl⟩
                case measure => simp [intOf]; omega
              | false =>
                go_wp2_with fail
                refine wp_region_quiet_lit (by kernel_rfl) (by kernel_rfl) ?_
                repeat (first | (go_big_quiet_want; (with_reducible refine quiet_op_load28 ?_ G1 hC1 ?_); rfl; simp only [Act.put, List.setIfInBounds_toArray, List.set_cons_succ, List.set_cons_zero]; go_big_quiet_on) | (go_big_quiet_want; (with_reducible refine quiet_op_load28 ?_ G2 hE.size ?_); rfl; simp only [Act.put, List.setIfInBounds_toArray, List.set_cons_succ, List.set_cons_zero]; go_big_quiet_on) | go_big_quiet_step (fail))
                refine wpQuiet_nil ?_
                intro _ hw'
                obtain ⟨nq, hw''⟩ := hw'
                subst hw''
                clear hr G1 G2 hi1 hk1
                go_wp2_with fail
                go_roundw
                case rel => exact ⟨i + 1, r, by omega, by go_num, rfl, fun hm => by
                  rw [HTI.out] at hm
                  rcases List.mem_append.1 hm with h | h
                  · exact absurd (HT.out h) (by decide)
                  · simp at h; exact HRE.out h.symm, m1 + nq, rfl⟩
                case measure => simp [intOf]; omega
            · obtain rfl : l.length = i := by omega
              obtain rfl : t = true := HT.out (by rw [List.take_of_length_le (Nat.le_refl _)]; exact HM.out)
              go_wp2_with fail
              go_roundw
              case rel => exact ⟨k + 1, by omega, by go_num, m1, rfl⟩
              case measure => simp [intOf]; omega
        · go_wp2_with fail
          go_ret
          exact ⟨rfl, (HL.out.kept.drewN m0).below (Nat.le_refl _) (fun k h => h)⟩


set_option maxRecDepth 100000 in
theorem lifted (os : Os) (started : os.Started) (H : Type) (enc : TypeId × Value → H) :
    ReturnsInHanded {} Try.checked os 5 .any (Rows.postSentSpec.pre6 enc Try.prog Try.f5 Rows.postSentRow.domain false) (Rows.postSentSpec.post enc Try.prog Try.f5 false true false false) := by
  refine returnsInHanded_of_change (C := Try.checked) own started (by kernel_rfl) Try.func5
    (ChangeSpec.witness6 (enc := enc) (C := Try.checked) false ⟨#[], #[.slice none 0 0], []⟩ 8 (by kernel_rfl) (by kernel_rfl) (by kernel_rfl) (by kernel_rfl)) ?_
  intro W base args ds gs before hval0 hW hcnd _
  have hval : ∀ (j : Nat) t v, Try.f5.params[j]? = some t → args[j]? = some v → Value.okWide Try.prog W .any base t v := hval0
  have hW' := hW
  obtain ⟨p, q, hA0, hV, rfl, hfz, hnd⟩ := hW
  have hA : DataW.TrodAll enc Try.prog W 0 (fun _ => true) true Try.f5.params.toList args.toList ds p := hA0
  rw [Try.params5] at hA hval
  obtain ⟨v0, vs0, d0, ds0, p0, q0, hargs, rfl, rfl, h0, r0⟩ := trodAll_cons hA
  obtain ⟨rfl, rfl, rfl⟩ := trodAll_nil r0
  obtain rfl : args = #[v0] := by cases args; simp_all
  obtain ⟨rfl, rfl⟩ := trodVars_none hV
  have k0 := h0
  have lt0 : ∀ x ∈ p0, x.block < W.heap.size := by obtain ⟨m, hm⟩ := k0; exact DataW.trod_lt m _ _ _ hm
  have w0 := IsActs.of (hval 0 22 v0 rfl rfl) h0
  clear hA0 hval0
  refine (walk W v0 w0).mono fun e W' ⟨he, bel⟩ => ?_
  subst he
  exact ⟨_, rfl, _, _, _, [], _, [], hW', trodAll_mk1 (shut_bool Try.underlying4 _), (trodAll_cons_mk (Below.trod laidOut (by kernel_rfl) (of_decide_eq_true (by kernel_rfl)) k0 bel lt0) trodAll_mk0), rfl, bel.frame _, fun h => by cases h⟩

theorem over : Rows.postSentRow.holds Try.pinned (OpenSpec.ofChange Rows.postSentSpec) :=
  OpenClaim.holds_of_wide 5 Try.f5 rfl rfl rfl rfl rfl rfl rfl ⟨rfl, rfl, rfl, rfl, rfl⟩ rfl rfl rfl rfl rfl (by kernel_rfl) Try.func5 (by kernel_rfl)
    (of_decide_eq_true (by kernel_rfl)) (by unfold Func.isWrapper; first | (rw [if_pos (by decide +kernel)]; kernel_rfl) | (rw [if_neg (by decide +kernel)]; exact ⟨rfl, rfl⟩))
    (fun os started H enc _ => lifted os started H enc)

theorem proved : Rows.PostSentSaid := over
#print axioms proved
end Go.Proofs.Ytohoeakhnnojjaa.postSent
