/-
  Whatever is done to a post, what it tells, and what is in it, are the document's all along: 'Rows.PostActsSaid', for every input. Conditions: none.
-/
import Derived.Test.YtohoeakhnnojjaaLaw
import Derived.Test.YtohoeakhnnojjaaRef3
import Derived.Deep.DeepCutAuto
import Derived.Deep.CutBlock
import Derived.ProofKit
import Derived.OpenShut
import Derived.ShutString
import Derived.ChangeOld
import Derived.Below
namespace Go.Proofs.Ytohoeakhnnojjaa.postActs
open Go.ChangeShapes Go.WideShapes Go.ChangeAt Go.RowKit
set_option linter.unusedVariables false
attribute [local go_sem ↓] load28_fold
theorem own : ownKnob Try.prog.godebug = none := by kernel_rfl
theorem laidOut : laidOutB Try.prog = true := by kernel_rfl

/-- A post and the reference's post beside each other, in a law that began in w0. -/
structure J (w0 w : World) (D K R : Nat) (v : Value) (qp qr : List (Array Value)) : Prop where
  post : IsPost w w0.heap.size D K qp
  ref : IsRef w w0.heap.size R v qr
  kept : Kept (fun k => w0.heap.size ≤ k) w0 w
  rd : R ≠ D
  rk : R ≠ K
  vD : v.ownBlock ≠ some D
  vK : v.ownBlock ≠ some K

section
variable {w0 w : World} {D K R : Nat} {v : Value} {qp qr : List (Array Value)}
theorem J.next (h : J w0 w D K R v qp qr) {w' : World} (hk : Kept (fun _ => False) w w') : J w0 w' D K R v qp qr :=
  ⟨h.post.kept hk id id, h.ref.new hk, h.kept.trans' hk (fun _ _ h => h.elim), h.rd, h.rk, h.vD, h.vK⟩
theorem J.drewN (h : J w0 w D K R v qp qr) (n : Nat) : J w0 (w.drewN n) D K R v qp qr := h.next ((Kept.refl _ w).drewN n)
theorem J.drew (h : J w0 w D K R v qp qr) : J w0 w.drew D K R v qp qr := h.next ((Kept.refl _ w).drew)
theorem J.alloc (h : J w0 w D K R v qp qr) (o : Obj) : J w0 (w.alloc o) D K R v qp qr := h.next ((Kept.refl _ w).alloc o)
theorem J.le (h : J w0 w D K R v qp qr) : w0.heap.size ≤ w.heap.size := h.kept.size
theorem J.of_post (h : J w0 w D K R v qp qr) {w' : World} {qp' : List (Array Value)} (hp : IsPost w' w0.heap.size D K qp') (hk : Kept (fun k => k = K) w w') : J w0 w' D K R v qp' qr :=
  ⟨hp, h.ref.kept hk (fun e => h.rk e) (fun k e e' => h.vK (by rw [e, show k = K from e'])), h.kept.trans' hk (fun k _ e => by have := h.post.loK; have e' : k = K := e; omega), h.rd, h.rk, h.vD, h.vK⟩
theorem J.of_ref (h : J w0 w D K R v qp qr) {w' : World} {v' : Value} {qr' : List (Array Value)} (hr : IsRef w' w0.heap.size R v' qr') (hv : v'.ownBlock = v.ownBlock ∨ ∀ k, v'.ownBlock = some k → w.heap.size ≤ k) (hk : Kept (fun k => k = R) w w') : J w0 w' D K R v' qp qr' := by
  have hD := h.post.lt
  have hK := h.post.ltK
  refine ⟨h.post.kept hk (fun e => h.rd e.symm) (fun e => h.rk e.symm), hr, h.kept.trans' hk (fun k _ e => by have := h.ref.lo; have e' : k = R := e; omega), h.rd, h.rk, ?_, ?_⟩
  · intro e
    rcases hv with h1 | h1
    · exact h.vD (by rw [← h1, e])
    · have := h1 D e; omega
  · intro e
    rcases hv with h1 | h1
    · exact h.vK (by rw [← h1, e])
    · have := h1 K e; omega
/-- What came in can be read still. -/
theorem J.cell (h : J w0 w D K R v qp qr) {p : Addr} {u : Value} (hp : w0.cell? p = some u) : w.cell? p = some u :=
  (h.kept.cell (World.block_lt_of_cell? w0 p hp) (Nat.not_le.2 (World.block_lt_of_cell? w0 p hp))).trans hp
theorem J.range (h : J w0 w D K R v qp qr) {b o : Nat} {cs : List Value} (hp : w0.rangeAt b o cs) : w.rangeAt b o cs := fun j v hv => h.cell (hp j v hv)

theorem jp_send (h : J w0 w D K R v qp qr) {C : Array Value} (hC : Callish C) : Calls Try.prog 11 #[.pointer (some ⟨D, 0, none⟩), .agg C] w fun e w' => e = .returned (.bool (room qp)) ∧ J w0 w' D K R v (sent qp C) qr := by
  refine (f_send _ D K qp C w h.post hC h.le).mono ?_
  rintro e w' ⟨rfl, h1, k1⟩
  exact ⟨rfl, h.of_post h1 k1⟩
theorem jp_next (h : J w0 w D K R v qp qr) : Calls Try.prog 10 #[.pointer (some ⟨D, 0, none⟩)] w fun e w' => e = .returned (.tuple #[.agg (firstOf qp), .bool (some1 qp)]) ∧ J w0 w' D K R v qp.tail qr := by
  refine (f_next _ D K qp w h.post h.le).mono ?_
  rintro e w' ⟨rfl, h1, k1⟩
  exact ⟨rfl, h.of_post h1 k1⟩
theorem jp_late (h : J w0 w D K R v qp qr) : Calls Try.prog 12 #[.pointer (some ⟨D, 0, none⟩)] w fun e w' => e = .returned (.bool (lates qp)) ∧ J w0 w' D K R v (late qp) qr := by
  refine (f_late _ D K qp w h.post h.le).mono ?_
  rintro e w' ⟨rfl, h1, k1⟩
  exact ⟨rfl, h.of_post h1 k1⟩
theorem jp_twice (h : J w0 w D K R v qp qr) : Calls Try.prog 13 #[.pointer (some ⟨D, 0, none⟩)] w fun e w' => e = .returned (.bool (twices qp)) ∧ J w0 w' D K R v (twice qp) qr := by
  refine (f_twice _ D K qp w h.post h.le).mono ?_
  rintro e w' ⟨rfl, h1, k1⟩
  exact ⟨rfl, h.of_post h1 k1⟩
theorem jp_len (h : J w0 w D K R v qp qr) : Calls Try.prog 15 #[.pointer (some ⟨D, 0, none⟩)] w fun e w' => e = .returned (.int .i64 qp.length) ∧ w = w' := f_len _ D K qp w h.post
theorem jp_list (h : J w0 w D K R v qp qr) : Calls Try.prog 14 #[.pointer (some ⟨D, 0, none⟩)] w fun e w' => ∃ a c, e = .returned (.slice a qp.length c) ∧ Rd w' 41 (.slice a qp.length c) qp.length (flat qp) ∧ J w0 w' D K R v qp qr := by
  refine (f_list _ D K qp w h.post h.le).mono ?_
  rintro e w' ⟨v, rfl, hb, h1, k1⟩
  obtain ⟨a, c, rfl, _⟩ := hb.form
  exact ⟨a, c, rfl, hb.rd, h.of_post h1 k1⟩
theorem jr_send (h : J w0 w D K R v qp qr) {C : Array Value} (hC : Callish C) : Calls Try.prog 17 #[.pointer (some ⟨R, 0, none⟩), .agg C] w fun e w' => e = .returned (.bool (room qr)) ∧ ∃ v', J w0 w' D K R v' qp (sent qr C) := by
  refine (r_send h.ref hC).mono ?_
  rintro e w' ⟨rfl, v', h1, h2, k1⟩
  refine ⟨rfl, v', h.of_ref h1 ?_ k1⟩
  rcases h2 with rfl | h2
  · exact .inl rfl
  · exact .inr h2
theorem jr_next (h : J w0 w D K R v qp qr) : Calls Try.prog 18 #[.pointer (some ⟨R, 0, none⟩)] w fun e w' => e = .returned (.tuple #[.agg (firstOf qr), .bool (some1 qr)]) ∧ ∃ v', J w0 w' D K R v' qp qr.tail ∧ Kept (fun k => k = R) w w' := by
  refine (r_next h.ref).mono ?_
  rintro e w' ⟨rfl, v', h1, h2, k1⟩
  exact ⟨rfl, v', h.of_ref h1 h2 k1, k1⟩
theorem jr_late (h : J w0 w D K R v qp qr) : Calls Try.prog 19 #[.pointer (some ⟨R, 0, none⟩)] w fun e w' => e = .returned (.bool (lates qr)) ∧ ∃ v', J w0 w' D K R v' qp (late qr) := by
  refine (r_late h.ref).mono ?_
  rintro e w' ⟨rfl, v', h1, h2, k1⟩
  exact ⟨rfl, v', h.of_ref h1 h2 k1⟩
theorem jr_twice (h : J w0 w D K R v qp qr) : Calls Try.prog 20 #[.pointer (some ⟨R, 0, none⟩)] w fun e w' => e = .returned (.bool (twices qr)) ∧ ∃ v', J w0 w' D K R v' qp (twice qr) := by
  refine (r_twice h.ref).mono ?_
  rintro e w' ⟨rfl, v', h1, h2, k1⟩
  refine ⟨rfl, v', h.of_ref h1 ?_ k1⟩
  rcases h2 with rfl | h2
  · exact .inl rfl
  · exact .inr h2
theorem j_same (h : J w0 w D K R v qp qr) {q : List (Array Value)} {v1 v2 : Value} (hq : ∀ C ∈ q, Callish C) (hm : q.length ≤ 1000000) (h1 : Rd w 41 v1 q.length (flat q)) (h2 : Rd w 41 v2 q.length (flat q)) :
    Calls Try.prog 21 #[v1, v2] w fun e w' => e = .returned (.bool true) ∧ J w0 w' D K R v qp qr := by
  refine (f_same_kept w q hq hm v1 v2 h1 h2).mono ?_
  rintro e w' ⟨rfl, k1⟩
  exact ⟨rfl, h.next k1⟩
end

set_option maxRecDepth 100000 in
set_option maxHeartbeats 8000000 in
theorem walk (w : World) (v0 : Value) (w0 : IsActs w v0) :
    Calls Try.prog 3 #[v0] w fun e w' => e = .returned (.bool true) ∧ Below w.heap.size w w' := by
  obtain ⟨a, n, c, Kd, C, rfl, hm, hx⟩ := w0
  unfold maxLen at hm
  have HA := Lib.hid hx
  clear hx
  go_enter Try.func3, Try.ntmps3
  go_wp2_with fail
  refine (alive_true w).mono ?_
  rintro e w1 ⟨rfl, hk1⟩
  by_cases h80 : 80 < n
  · go_wp2_with fail
    go_ret
    exact ⟨rfl, hk1.below (Nat.le_refl _) (fun k h => h)⟩
  go_wp2_with fail
  refine (f_nilNext w1).mono ?_
  rintro e w2 ⟨rfl, hk2⟩
  have hn2 := heap_alloc_new w2 (.cells Z28 28)
  have hk2' := hk1.trans' (((hk2.alloc (.cells Z28 28)).setRow (g := w2.heap.size) hk2.size Z28)) (fun _ _ h => h.elim)
  go_wp2_with (first | fail | (with_reducible refine alloc28 ?_) | ((with_reducible refine store28 (C := Z28) ?_ ?_ hn2 rfl Z28_callish ?_); rfl; rfl))
  refine (f_nilSend Z28 _ Z28_callish).mono ?_
  rintro e w3 ⟨rfl, hk3⟩
  have hk3' := hk2'.trans' hk3 (fun _ _ h => h.elim)
  clear hk1 hk2 hn2 hk2' hk3
  go_wp2_with (first | fail | (go_at_call 12; refine (f_nilLate _).mono ?_; rintro e w4 ⟨rfl, rfl⟩) | (go_at_call 13; refine (f_nilTwice _).mono ?_; rintro e w4 ⟨rfl, rfl⟩))
  refine (f_nilList _).mono ?_
  rintro e w5 ⟨rfl, hk5⟩
  have hk5' := hk3'.trans' hk5 (fun _ _ h => h.elim)
  clear hk3' hk5
  go_wp2_with (first | fail | (go_at_call 15; refine (f_nilLen _).mono ?_; rintro e w6 ⟨rfl, rfl⟩))
  refine (l_new hk5').mono ?_
  rintro e w7 ⟨D, K, rfl, hL0⟩
  clear hk5'
  go_wp2_with fail
  have hJ0 : J w (w7.alloc (.cells #[.slice none 0 0] 37)) D K w7.heap.size (.slice none 0 0) [] [] := by
    have k7 := (Kept.refl (fun _ => False) w7).alloc (.cells #[.slice none 0 0] 37)
    have h1 := hL0.post.lt
    have h2 := hL0.post.ltK
    refine ⟨hL0.post.kept k7 id id, ⟨heap_alloc_new _ _, hL0.lt, ⟨rfl, none, 0, rfl, .inl ⟨rfl, rfl, rfl⟩⟩, by decide, by simp, (fun k e => by cases e), by simp [Value.ownBlock], (fun a n c e => by injection e with e1 e2 e3; omega)⟩, hL0.kept.trans' k7 (fun _ _ h => h.elim), by omega, by omega, by simp [Value.ownBlock], by simp [Value.ownBlock]⟩
  generalize w7.alloc (.cells #[.slice none 0 0] 37) = w8 at hJ0 ⊢
  generalize w7.heap.size = R at hJ0 ⊢
  clear hL0
  go_loopw [8] (fun i wr => ∃ (k : Nat) (v : Value) (q : List (Array Value)), k ≤ n ∧ i = .int .i64 k ∧ J w wr D K R v q q) (fun i _ => n - (intOf i).toNat)
  case atStart => exact ⟨0, _, [], Nat.zero_le _, rfl, hJ0⟩
  case round =>
    obtain ⟨k, v, q, hk, rfl, hJ⟩ := hrel
    clear hJ0
    by_cases hlt : k < n
    · obtain ⟨b, o, rfl, hx⟩ := HA.out.resolve_left (by omega)
      obtain ⟨d0, hC, hr⟩ := hx k hlt
      clear hx
      have c0 := hJ.cell d0
      have HR := Lib.hid hr
      clear d0 hr
      generalize Kd k = kk at c0
      generalize C k = C at hC HR
      go_upto_block 2 with (fail)
      go_cut [9] (fun s9 wx => s9 = .bool true ∧ ∃ (v : Value) (q : List (Array Value)), J w wx D K R v q q)
      case first =>
        have HLD : Hid (∀ wx v qp qr, J w wx D K R v qp qr → (load28Of (.pointer (some ⟨b, o + k * 42 + 1, none⟩))).run Try.prog wx = .ok (.agg C) wx) := fun wx v qp qr h => load28_of (h.range HR.out) hC.size
        have hq24 := hJ.post.most
        by_cases k0 : kk = 0
        · subst k0
          go_wp2_with fail
          have hJd := hJ.drew
          have hS0 := HLD.out _ _ _ _ hJd
          clear c0
          go_region_held3 (fun w' => (load28Of (.pointer (some ⟨b, o + k * 42 + 1, none⟩))).run Try.prog w' = .ok (.agg C) w')
            (first | assumption | go_keep)
            ((first
              | (go_at_call 11; refine (jp_send (by assumption) hC).mono ?_; rintro e wx1 ⟨rfl, hJx1⟩; have hSx1 := HLD.out _ _ _ _ hJx1)
              | (go_at_call 17; refine (jr_send (by assumption) hC).mono ?_; rintro e wx2 ⟨rfl, v2, hJx2⟩; have hSx2 := HLD.out _ _ _ _ hJx2)))
          all_goals
            have hJf := Lib.hid hJx2
            clear hJx1 hJx2 hSx1 hSx2 hJd hS0
            go_wp2_with fail
            go_meet
            exact ⟨rfl, _, _, hJf.out⟩
        by_cases k1 : kk = 1
        · subst k1
          have hF := firstOf_callish hJ.post.call
          go_wp2_with fail
          refine (jp_next hJ).mono ?_
          rintro e wx1 ⟨rfl, h1⟩
          have hn1 := heap_alloc_new wx1 (.cells Z28 28)
          have ha1 := setRow_heap _ _ _ (firstOf q) _ _ hn1
          have kx1 := ((Kept.refl (fun _ => False) wx1).alloc (.cells Z28 28)).setRow (g := wx1.heap.size) (Nat.le_refl _) (firstOf q)
          have h2 := h1.next kx1
          have hRX : ¬ wx1.heap.size = R := by have := h1.ref.lt; omega
          clear c0 h1 kx1
          go_wp2_with (first | fail | (with_reducible refine alloc28 ?_) | ((with_reducible refine store28 (C := firstOf q) ?_ ?_ hn1 rfl hF ?_); rfl; rfl))
          refine (jr_next h2).mono ?_
          rintro e wx2 ⟨rfl, v2, h3, k3⟩
          have ha2 := (k3.block _ (Array.getElem?_eq_some_iff.1 ha1).1 hRX).trans ha1
          have hlt2 := (Array.getElem?_eq_some_iff.1 ha2).1
          have hn2 := heap_alloc_new wx2 (.cells Z28 28)
          have hb2 := setRow_heap _ _ _ (firstOf q) _ _ hn2
          have ha3 : ((wx2.alloc (.cells Z28 28)).setRow wx2.heap.size (firstOf q)).heap[wx1.heap.size]? = some (.cells (firstOf q) 28 (0, 0)) := by
            rw [setRow_other _ _ _ _ (by omega), Below.heap_alloc _ _ _ hlt2]; exact ha2
          have kx2 := ((Kept.refl (fun _ => False) wx2).alloc (.cells Z28 28)).setRow (g := wx2.heap.size) (Nat.le_refl _) (firstOf q)
          have HJf := Lib.hid (h3.next kx2)
          have r1 := range_row ha3
          have r2 := range_row hb2
          have HE := eq28_self hF
          clear h2 h3 k3 hn1 ha1 ha2 hlt2 kx2 hRX ha3 hb2
          generalize some1 q = ok
          go_wp2_with (first | fail | (with_reducible refine alloc28 ?_) | ((with_reducible refine store28 (C := firstOf q) ?_ ?_ hn2 rfl hF ?_); rfl; rfl) | ((with_reducible refine load28 ?_ r1 hF.size ?_); rfl) | ((with_reducible refine load28 ?_ r2 hF.size ?_); rfl))
          go_meet
          exact ⟨rfl, _, _, HJf.out⟩
        by_cases k2 : kk = 2
        · subst k2
          go_wp2_with fail
          refine (jp_late hJ).mono ?_
          rintro e wx1 ⟨rfl, h1⟩
          clear c0
          go_wp2_with fail
          refine (jr_late h1).mono ?_
          rintro e wx2 ⟨rfl, v2, h2⟩
          have HJf := Lib.hid h2
          clear h1 h2
          generalize lates q = ok
          go_wp2_with fail
          go_meet
          exact ⟨rfl, _, _, HJf.out⟩
        by_cases k3 : kk = 3
        · subst k3
          go_wp2_with fail
          refine (jp_twice hJ).mono ?_
          rintro e wx1 ⟨rfl, h1⟩
          clear c0
          go_wp2_with fail
          refine (jr_twice h1).mono ?_
          rintro e wx2 ⟨rfl, v2, h2⟩
          have HJf := Lib.hid h2
          clear h1 h2
          generalize twices q = ok
          go_wp2_with fail
          go_meet
          exact ⟨rfl, _, _, HJf.out⟩
        have q0 : (kk == 0) = false := by rw [beq_eq_false_iff_ne]; exact k0
        have q1 : (kk == 1) = false := by rw [beq_eq_false_iff_ne]; exact k1
        have q2 : (kk == 2) = false := by rw [beq_eq_false_iff_ne]; exact k2
        have q3 : (kk == 3) = false := by rw [beq_eq_false_iff_ne]; exact k3
        have HJf := Lib.hid hJ
        clear hJ k0 k1 k2 k3
        go_wp2_with fail
        go_meet
        exact ⟨rfl, _, _, HJf.out⟩
      case rest =>
        obtain ⟨rfl, v', q', hJ'⟩ := hcut
        clear hJ c0
        obtain ⟨a3, c3, rfl⟩ := hJ'.ref.form
        have hq24 := hJ'.post.most
        have hJd := hJ'.drew
        have hS0 := hJd.ref.c0
        have HC := Lib.hid hJ'.post.call
        go_wp2_with fail
        go_region_held3 (fun w' => w'.cell? ⟨R, 0, none⟩ = some (.slice a3 q'.length c3))
          (first | go_keep | assumption)
          ((first
            | (go_at_call 15; refine (jp_len (by assumption)).mono ?_; rintro e wx1 ⟨rfl, rfl⟩)
            | (go_at_call 14; refine (jp_list (by assumption)).mono ?_; rintro e wx2 ⟨ax2, cx2, rfl, hrx2, hJx2⟩; have hSx2 := hJx2.ref.c0)
            | (go_at_call 21; refine (j_same (by assumption) HC.out (by omega) (by assumption) hJx2.ref.rd).mono ?_; rintro e wx3 ⟨rfl, hJx3⟩; have hSx3 := hJx3.ref.c0)))
        have HJf := Lib.hid hJx3
        clear hJ' hJd hS0 hrx2 hJx2 hSx2 hJx3 hSx3
        go_wp2
        go_roundw
        case rel => exact ⟨k + 1, _, q', by omega, by go_num, HJf.out⟩
        case measure => simp [intOf]; omega
    · go_wp2_with fail
      go_ret
      exact ⟨rfl, hJ.kept.below (Nat.le_refl _) (fun k h => h)⟩

set_option maxRecDepth 100000 in
theorem lifted (os : Os) (started : os.Started) (H : Type) (enc : TypeId × Value → H) :
    ReturnsInHanded {} Try.checked os 3 .any (Rows.postActsSpec.pre6 enc Try.prog Try.f3 Rows.postActsRow.domain false) (Rows.postActsSpec.post enc Try.prog Try.f3 false true false false) := by
  refine returnsInHanded_of_change (C := Try.checked) own started (by kernel_rfl) Try.func3
    (ChangeSpec.witness6 (enc := enc) (C := Try.checked) false ⟨#[], #[.slice none 0 0], []⟩ 8 (by kernel_rfl) (by kernel_rfl) (by kernel_rfl) (by kernel_rfl)) ?_
  intro W base args ds gs before hval0 hW hcnd _
  have hval : ∀ (j : Nat) t v, Try.f3.params[j]? = some t → args[j]? = some v → Value.okWide Try.prog W .any base t v := hval0
  have hW' := hW
  obtain ⟨p, q, hA0, hV, rfl, hfz, hnd⟩ := hW
  have hA : DataW.TrodAll enc Try.prog W 0 (fun _ => true) true Try.f3.params.toList args.toList ds p := hA0
  rw [Try.params3] at hA hval
  obtain ⟨v0, vs0, d0, ds0, p0, q0, hargs, rfl, rfl, h0, r0⟩ := trodAll_cons hA
  obtain ⟨rfl, rfl, rfl⟩ := trodAll_nil r0
  obtain rfl : args = #[v0] := by cases args; simp_all
  obtain ⟨rfl, rfl⟩ := trodVars_none hV
  have k0 := h0
  have lt0 : ∀ x ∈ p0, x.block < W.heap.size := by obtain ⟨m, hm⟩ := k0; exact DataW.trod_lt m _ _ _ hm
  have w0 := IsActs.of (hval 0 22 v0 rfl rfl) h0
  clear hA0 hval0
  refine (walk W v0 w0).mono fun e W' ⟨he, bel⟩ => ?_
  subst he
  exact ⟨_, rfl, _, _, _, [], _, [], hW', trodAll_mk1 (shut_bool Try.underlying4 _), (trodAll_cons_mk (Below.trod laidOut (by kernel_rfl) (of_decide_eq_true (by kernel_rfl)) k0 bel lt0) trodAll_mk0), rfl, bel.frame _, fun h => by cases h⟩

theorem over : Rows.postActsRow.holds Try.pinned (OpenSpec.ofChange Rows.postActsSpec) :=
  OpenClaim.holds_of_wide 3 Try.f3 rfl rfl rfl rfl rfl rfl rfl ⟨rfl, rfl, rfl, rfl, rfl⟩ rfl rfl rfl rfl rfl (by kernel_rfl) Try.func3 (by kernel_rfl)
    (of_decide_eq_true (by kernel_rfl)) (by unfold Func.isWrapper; first | (rw [if_pos (by decide +kernel)]; kernel_rfl) | (rw [if_neg (by decide +kernel)]; exact ⟨rfl, rfl⟩))
    (fun os started H enc _ => lifted os started H enc)

theorem proved : Rows.PostActsSaid := over
#print axioms proved
end Go.Proofs.Ytohoeakhnnojjaa.postActs
