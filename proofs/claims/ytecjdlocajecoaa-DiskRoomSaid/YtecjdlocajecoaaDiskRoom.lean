/-
  A disk takes just what there is room for, and writes all of a text or nothing: 'Rows.DiskRoomSaid', for every input. Conditions: none.
-/
import Derived.Test.YtecjdlocajecoaaArg
import Derived.Deep.Matrix
import Derived.ProofKit
import Derived.OpenShut
import Derived.ShutString
import Derived.ChangeOld
import Derived.Below
namespace Go.Proofs.Ytecjdlocajecoaa
open Go Go.RowKit
/-- A slice of rows of bytes that came in. -/
def IsRows (w : World) (v : Value) : Prop :=
  ∃ (a : Option Addr) (n c : Nat) (V : Nat → Value) (R : Nat → List Int), v = .slice a n c ∧ n ≤ maxLen ∧ (n = 0 ∨ ∃ b o, a = some ⟨b, o, none⟩ ∧
    ∀ i, i < n → w.cell? ⟨b, o + i, none⟩ = some (V i) ∧ (∃ a' c', V i = .slice a' (R i).length c' ∧ (R i).length ≤ maxLen) ∧ Rd w 1 (V i) (R i).length (u8s (R i)))
end Go.Proofs.Ytecjdlocajecoaa
namespace Go.Proofs.Ytecjdlocajecoaa.diskRoom
open Go.ChangeShapes Go.WideShapes Go.ChangeAt Go.RowKit
set_option linter.unusedVariables false
theorem own : ownKnob Try.prog.godebug = none := by kernel_rfl
theorem laidOut : laidOutB Try.prog = true := by kernel_rfl

theorem IsRows.of {H : Type} {enc : TypeId × Value → H} {W : World} {base : Nat} {v : Value} {d : DataW H} {p : List MemPlace} (ho : Value.okWide Try.prog W .any base 31 v)
    (h : DataW.Trod enc Try.prog W 0 (fun _ => true) true 31 v d p) : IsRows W v := by
  obtain ⟨a, len, cap, rfl⟩ := okWide_slice Try.underlying31 ho
  obtain ⟨fuel, hf⟩ := h
  rcases Deep.open_int_rows Try.underlying31 Try.underlying22 Try.underlying5 (by kernel_rfl) (by kernel_rfl) hf with ⟨hcs, _⟩ | ⟨ad, l, c, A, L, C, Z, hcs, _, hl, hm, _, hx⟩
  · simp [Value.cells] at hcs
    obtain ⟨rfl, rfl, rfl⟩ := hcs
    exact ⟨none, 0, 0, fun _ => undef, fun _ => [], rfl, by unfold maxLen; omega, .inl rfl⟩
  · simp [Value.cells] at hcs
    obtain ⟨rfl, rfl, rfl⟩ := hcs
    refine ⟨_, len, cap, fun i => .slice (A i) (L i) (C i), fun i => (Z i).take (L i), rfl, by omega, ?_⟩
    by_cases h0 : len = 0
    · exact .inl h0
    right
    obtain ⟨b, o, sp⟩ := ad
    cases sp with
    | some t =>
      have h1 := (hx 0 (by omega)).1
      simp [World.cell?, Addr.add] at h1
      split at h1 <;> cases h1
    | none =>
      refine ⟨b, o, rfl, fun i hi => ?_⟩
      obtain ⟨h1, h2, h3, h4, _, h6, h7⟩ := hx i (by omega)
      have hl' : ((Z i).take (L i)).length = L i := by rw [List.length_take]; omega
      refine ⟨by rw [Addr.add_none] at h1; exact h1, ⟨A i, C i, by rw [hl'], by show ((Z i).take (L i)).length ≤ maxLen; omega⟩, ?_⟩
      rw [hl']
      refine ⟨by simp [u8s]; omega, A i, C i, rfl, ?_⟩
      cases hA : A i with
      | none => exact .inl ⟨rfl, by have := h6 hA; omega, h6 hA⟩
      | some a' =>
        refine .inr ⟨a', rfl, fun j u hu => ?_⟩
        have hj : j < L i := by
          have := (List.getElem?_eq_some_iff.1 hu).1
          simp at this; omega
        rw [(h7 a' hA).2 j (by omega)]
        simp [u8s, hj] at hu
        obtain ⟨z, hz, rfl⟩ := hu
        simp [List.getD, hz]

set_option maxHeartbeats 800000 in
theorem walk (w : World) (a0 : Int) (w0 : (Lit.int .i64 a0).wf = true) (v1 : Value) (w1 : IsRows w v1) :
    Calls Try.prog 4 #[.int .i64 a0, v1] w fun e w' => e = .returned (.bool true) ∧ Below w.heap.size w w' := by
  have CA := alive_true w
  obtain ⟨a, n, c, V, R, rfl, hnm, hrow⟩ := w1
  unfold maxLen at hnm
  by_cases h1 : 30 < n
  · clear hrow
    go_enter Try.func4, Try.ntmps4
    go_wp2_with (go_at_call 8; refine CA.mono ?_; rintro e w1 ⟨rfl, hk⟩)
    go_ret
    exact ⟨rfl, hk.below (Nat.le_refl _) (fun k h => h)⟩
  by_cases h2 : a0 < 1
  · clear hrow
    go_enter Try.func4, Try.ntmps4
    go_wp2_with (go_at_call 8; refine CA.mono ?_; rintro e w1 ⟨rfl, hk⟩)
    go_ret
    exact ⟨rfl, hk.below (Nat.le_refl _) (fun k h => h)⟩
  by_cases h3 : 65536 < a0
  · clear hrow
    go_enter Try.func4, Try.ntmps4
    go_wp2_with (go_at_call 8; refine CA.mono ?_; rintro e w1 ⟨rfl, hk⟩)
    go_ret
    exact ⟨rfl, hk.below (Nat.le_refl _) (fun k h => h)⟩
  clear CA w0
  obtain ⟨room, rfl⟩ : ∃ room : Nat, a0 = room := ⟨a0.toNat, by omega⟩
  have HROW := Lib.hid hrow
  clear hrow
  go_enter Try.func4, Try.ntmps4
  go_wp2_with fail
  refine (alive_true w).mono ?_
  rintro e w1 ⟨rfl, hk1⟩
  go_wp2_with fail
  refine (new_any w.heap.size room w1 (by omega) (by omega) hk1.size).mono ?_
  rintro e w2 ⟨rfl, hd2, hk2⟩
  have K2 := hk1.trans' hk2 (fun _ _ h => h.elim)
  clear hk1 hk2
  generalize w1.heap.size = D at *
  go_wp2_with fail
  go_loopw [6, 7] (fun t i wr => ∃ (k : Nat) (zs : List Int) (sv : Value), k ≤ n ∧ zs.length ≤ room ∧ i = .int .i64 k ∧ t = .int .i64 zs.length ∧ IsDisk wr w.heap.size D sv (u8s zs) 0 room ∧ Kept (fun k => w.heap.size ≤ k) w wr)
    (fun _ i _ => n - (intOf i).toNat)
  case atStart => exact ⟨0, [], _, Nat.zero_le _, Nat.zero_le _, rfl, rfl, hd2, K2⟩
  case round =>
    obtain ⟨k, zs, sv, hk, hzr, rfl, rfl, hd, K⟩ := hrel
    clear hd2 K2
    by_cases hlt : k < n
    · obtain ⟨b, o, rfl, hrow⟩ := HROW.out.resolve_left (by omega)
      obtain ⟨hc, ⟨a', c', hv, hmx⟩, hrd⟩ := hrow k hlt
      clear hrow
      rw [hv] at hc hrd
      clear hv
      have hc' : wr.cell? ⟨b, o + k, none⟩ = some (.slice a' (R k).length c') := by
        rw [K.cell (World.block_lt_of_cell? w ⟨b, o + k, none⟩ hc) (Nat.not_le.2 (World.block_lt_of_cell? w ⟨b, o + k, none⟩ hc))]; exact hc
      have hrd' := Lib.hid (hrd.old K)
      clear hrd
      generalize R k = ys at hc hc' hmx hrd'
      unfold maxLen at hmx
      by_cases h300 : 300 < ys.length
      · go_wp2
        go_ret
        exact ⟨rfl, K.below (Nat.le_refl _) (fun k h => h)⟩
      by_cases hfit : zs.length + ys.length ≤ room
      · have HC := fun (w' : World) (K' : Kept (fun k => w.heap.size ≤ k) w w') => (K'.cell (World.block_lt_of_cell? w ⟨b, o + k, none⟩ hc) (Nat.not_le.2 (World.block_lt_of_cell? w ⟨b, o + k, none⟩ hc))).trans hc
        have HCC := Lib.hid HC
        clear HC hc
        go_wp2_with fail
        have tb : decide ((zs.length : Int) + ys.length ≤ room) = true := by simp; omega
        refine (z_write hd hrd'.out hfit).mono ?_
        rintro e w3 ⟨rfl, sv3, hd3, hk3⟩
        have K3 := K.trans hk3
        have hc3 := HCC.out _ K3
        clear hd hk3 K hc' hrd'
        go_wp2_with fail
        refine (z_bytes hd3).mono ?_
        rintro e w4 ⟨a4, c4, rfl, _, _, hd4, hk4⟩
        have K4 := K3.trans' hk4 (fun _ _ h => h.elim)
        clear hd3 hk4 K3 hc3
        go_wp2_with fail
        refine (z_room hd4).mono ?_
        rintro e w5 ⟨rfl, hd5, n5, rfl⟩
        have K5 := K4.drewN n5
        clear hd4 K4
        go_wp2
        go_roundw
        case rel => exact ⟨k + 1, zs ++ ys, sv3, by omega, by simp; omega, by go_num, by simp, hd5, K5⟩
        case measure => simp [intOf]; omega
      · have HC := fun (w' : World) (K' : Kept (fun k => w.heap.size ≤ k) w w') => (K'.cell (World.block_lt_of_cell? w ⟨b, o + k, none⟩ hc) (Nat.not_le.2 (World.block_lt_of_cell? w ⟨b, o + k, none⟩ hc))).trans hc
        have HCC := Lib.hid HC
        clear HC hc
        go_wp2_with fail
        have tb : decide ((zs.length : Int) + ys.length ≤ room) = false := by simp; omega
        refine (z_write_no hd hrd'.out (by omega) (by omega)).mono ?_
        rintro e w3 ⟨rfl, sv3, hd3, hk3⟩
        have K3 := K.trans hk3
        have hc3 := HCC.out _ K3
        clear hd hk3 K hc' hrd'
        go_wp2_with fail
        refine (z_bytes hd3).mono ?_
        rintro e w4 ⟨a4, c4, rfl, _, _, hd4, hk4⟩
        have K4 := K3.trans' hk4 (fun _ _ h => h.elim)
        clear hd3 hk4 K3 hc3
        go_wp2_with fail
        refine (z_room hd4).mono ?_
        rintro e w5 ⟨rfl, hd5, n5, rfl⟩
        have K5 := K4.drewN n5
        clear hd4 K4
        go_wp2
        go_roundw
        case rel => exact ⟨k + 1, zs, sv3, by omega, by omega, by go_num, rfl, hd5, K5⟩
        case measure => simp [intOf]; omega
    · go_wp2
      go_ret
      exact ⟨rfl, K.below (Nat.le_refl _) (fun k h => h)⟩

set_option maxRecDepth 100000 in
theorem lifted (os : Os) (started : os.Started) (H : Type) (enc : TypeId × Value → H) :
    ReturnsInHanded {} Try.checked os 4 .any (Rows.diskRoomSpec.pre6 enc Try.prog Try.f4 Rows.diskRoomRow.domain false) (Rows.diskRoomSpec.post enc Try.prog Try.f4 false true false false) := by
  refine returnsInHanded_of_change (C := Try.checked) own started (by kernel_rfl) Try.func4
    (ChangeSpec.witness6 (enc := enc) (C := Try.checked) false ⟨#[], #[.int .i64 0, .slice none 0 0], []⟩ 8 (by kernel_rfl) (by kernel_rfl) (by kernel_rfl) (by kernel_rfl)) ?_
  intro W base args ds gs before hval0 hW hcnd _
  have hval : ∀ (j : Nat) t v, Try.f4.params[j]? = some t → args[j]? = some v → Value.okWide Try.prog W .any base t v := hval0
  have hW' := hW
  obtain ⟨p, q, hA0, hV, rfl, hfz, hnd⟩ := hW
  have hA : DataW.TrodAll enc Try.prog W 0 (fun _ => true) true Try.f4.params.toList args.toList ds p := hA0
  rw [Try.params4] at hA hval
  obtain ⟨v0, vs0, d0, ds0, p0, q0, hargs, rfl, rfl, h0, r0⟩ := trodAll_cons hA
  obtain ⟨v1, vs1, d1, ds1, p1, q1, rfl, rfl, rfl, h1, r1⟩ := trodAll_cons r0
  obtain ⟨rfl, rfl, rfl⟩ := trodAll_nil r1
  obtain rfl : args = #[v0, v1] := by cases args; simp_all
  obtain ⟨rfl, rfl⟩ := trodVars_none hV
  obtain ⟨a0, rfl, rfl, rfl, w0⟩ := open_int Try.underlying3 (hval 0 3 v0 rfl rfl) h0
  have k1 := h1
  have lt1 : ∀ x ∈ p1, x.block < W.heap.size := by obtain ⟨m, hm⟩ := k1; exact DataW.trod_lt m _ _ _ hm
  have w1 := IsRows.of (hval 1 31 v1 rfl rfl) h1
  clear hA0 hval0
  refine (walk W a0 w0 v1 w1).mono fun e W' ⟨he, bel⟩ => ?_
  subst he
  exact ⟨_, rfl, _, _, _, [], _, [], hW', trodAll_mk1 (shut_bool Try.underlying4 _), (trodAll_cons_mk (shut_int Try.underlying3 w0) (trodAll_cons_mk (Below.trod laidOut (by kernel_rfl) (of_decide_eq_true (by kernel_rfl)) k1 bel lt1) trodAll_mk0)), rfl, bel.frame _, fun h => by cases h⟩

theorem over : Rows.diskRoomRow.holds Try.pinned (OpenSpec.ofChange Rows.diskRoomSpec) :=
  OpenClaim.holds_of_wide 4 Try.f4 rfl rfl rfl rfl rfl rfl rfl ⟨rfl, rfl, rfl, rfl, rfl⟩ rfl rfl rfl rfl rfl (by kernel_rfl) Try.func4 (by kernel_rfl)
    (of_decide_eq_true (by kernel_rfl)) (by unfold Func.isWrapper; first | (rw [if_pos (by decide +kernel)]; kernel_rfl) | (rw [if_neg (by decide +kernel)]; exact ⟨rfl, rfl⟩))
    (fun os started H enc _ => lifted os started H enc)

theorem proved : Rows.DiskRoomSaid := over
#print axioms proved
end Go.Proofs.Ytecjdlocajecoaa.diskRoom
