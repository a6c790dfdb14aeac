/-
  What is synced cannot be lost whatever crashes, and what is cut is gone for good: 'Rows.DiskSyncedSaid', for every input. Conditions: none.
-/
import Derived.Test.YtecjdlocajecoaaArg
import Derived.WalkKit
import Derived.ProofKit
import Derived.OpenShut
import Derived.ShutString
import Derived.ChangeOld
import Derived.Below
namespace Go.Proofs.Ytecjdlocajecoaa.diskSynced
open Go.ChangeShapes Go.WideShapes Go.ChangeAt Go.RowKit
open Go.ChangeMaps (open_string shut_string)
set_option linter.unusedVariables false

theorem own : ownKnob Try.prog.godebug = none := by kernel_rfl
theorem laidOut : laidOutB Try.prog = true := by kernel_rfl

theorem walk (a0 : Int) (a1 : Option Addr) (len1 cap1 : Nat) (z1 : List Int) (a2 : Option Addr) (len2 cap2 : Nat) (z2 : List Int) (a3 : Int) (w : World) (w0 : (Lit.int .i64 a0).wf = true) (w1 : IsRow .u8 w a1 len1 cap1 z1) (w2 : IsRow .u8 w a2 len2 cap2 z2) (w3 : (Lit.int .i64 a3).wf = true) :
    Calls Try.prog 7 #[.int .i64 a0, .slice a1 len1 cap1, .slice a2 len2 cap2, .int .i64 a3] w fun e w' => e = .returned (.bool true) ∧ Below w.heap.size w w' := by
  obtain ⟨hr1, hlen1⟩ := w1.rd
  obtain ⟨hr2, hlen2⟩ := w2.rd
  generalize hz1 : z1.take len1 = xs at hr1 hlen1
  generalize hz2 : z2.take len2 = ys at hr2 hlen2
  clear hz1 hz2 w1 w2
  have hk0 : -9223372036854775808 ≤ a3 ∧ a3 ≤ 9223372036854775807 := by simpa [Lit.wf, IntKind.min, IntKind.max, IntKind.signed, IntKind.bits] using w3
  clear w0 w3
  subst hlen1; subst hlen2
  have CA := alive_true w
  have early : ∀ (a1 a2 : Option Addr) (c1 c2 : Nat), (300 < xs.length ∨ 300 < ys.length ∨ a0 < 600 ∨ 65536 < a0) →
      Calls Try.prog 7 #[.int .i64 a0, .slice a1 xs.length c1, .slice a2 ys.length c2, .int .i64 a3] w fun e w' => e = .returned (.bool true) ∧ Below w.heap.size w w' := by
    intro a1 a2 c1 c2 h
    clear hr1 hr2 hk0
    by_cases h1 : 300 < xs.length
    · clear h
      go_enter Try.func7, Try.ntmps7
      go_wp2_with (go_at_call 8; refine CA.mono ?_; rintro e w1 ⟨rfl, hk⟩)
      go_ret
      exact ⟨rfl, hk.below (Nat.le_refl _) (fun k h => h)⟩
    · by_cases h2 : 300 < ys.length
      · clear h
        go_enter Try.func7, Try.ntmps7
        go_wp2_with (go_at_call 8; refine CA.mono ?_; rintro e w1 ⟨rfl, hk⟩)
        go_ret
        exact ⟨rfl, hk.below (Nat.le_refl _) (fun k h => h)⟩
      · by_cases h3 : a0 < 600
        · clear h
          go_enter Try.func7, Try.ntmps7
          go_wp2_with (go_at_call 8; refine CA.mono ?_; rintro e w1 ⟨rfl, hk⟩)
          go_ret
          exact ⟨rfl, hk.below (Nat.le_refl _) (fun k h => h)⟩
        · have h4 : 65536 < a0 := by omega
          clear h
          go_enter Try.func7, Try.ntmps7
          go_wp2_with (go_at_call 8; refine CA.mono ?_; rintro e w1 ⟨rfl, hk⟩)
          go_ret
          exact ⟨rfl, hk.below (Nat.le_refl _) (fun k h => h)⟩
  by_cases hb : 300 < xs.length ∨ 300 < ys.length ∨ a0 < 600 ∨ 65536 < a0
  · exact early _ _ _ _ hb
  clear early
  obtain ⟨room, rfl⟩ : ∃ room : Nat, a0 = room := ⟨a0.toNat, by omega⟩
  have b1 : ¬ 300 < xs.length := by omega
  have b2 : ¬ 300 < ys.length := by omega
  have b3 : ¬ (room : Int) < 600 := by omega
  have b4 : ¬ (65536 : Int) < room := by omega
  clear hb CA
  have HR1 := Lib.hid hr1
  have HR2 := Lib.hid hr2
  clear hr1 hr2
  go_enter Try.func7, Try.ntmps7
  go_wp2_with fail
  refine (alive_true w).mono ?_
  rintro e w1 ⟨rfl, hk1⟩
  go_wp2_with fail
  refine (new_any w.heap.size room w1 (by omega) (by omega) hk1.size).mono ?_
  rintro e w2 ⟨rfl, hd2, hk2⟩
  have K2 := hk1.trans' hk2 (fun _ _ h => h.elim)
  clear hk1 hk2
  generalize w1.heap.size = D at *
  go_wp2_with fail
  refine (z_write (xs := []) hd2 (HR1.out.old K2) (by simp; omega)).mono ?_
  rintro e w3 ⟨rfl, sv3, hd3, hk3⟩
  have K3 := K2.trans hk3
  clear hk3 hd2 K2
  go_wp2_with fail
  refine (z_write hd3 (HR2.out.old K3) (by simp; omega)).mono ?_
  rintro e w4 ⟨rfl, sv4, hd4, hk4⟩
  have K4 := K3.trans hk4
  clear hk4 hd3 K3
  go_wp2_with fail
  refine (z_sync hd4).mono ?_
  rintro e w5 ⟨rfl, hd5, hk5⟩
  have K5 := K4.trans hk5
  clear hk5 hd4 K4
  go_wp2_with fail
  refine (z_crash hd5 a3 hk0.1 hk0.2).mono ?_
  rintro e w6 ⟨rfl, sv6, hd6, hk6⟩
  have K6 := K5.trans hk6
  have hd6' : IsDisk w6 w.heap.size D sv6 (u8s (xs ++ ys)) (xs.length + ys.length) room := by
    have e1 : keepN ([] ++ xs ++ ys).length ([] ++ xs ++ ys).length a3 = xs.length + ys.length := by unfold keepN; simp
    rw [e1, List.take_of_length_le (by simp)] at hd6
    exact hd6
  clear hk6 hd5 K5 hd6
  go_wp2_with fail
  refine (z_bytes hd6').mono ?_
  rintro e w7 ⟨a7, c7, rfl, _, _, hd7, hk7⟩
  have K7 := K6.trans' hk7 (fun _ _ h => h.elim)
  clear hk7 K6 hd6'
  go_wp2_with fail
  refine (z_cut hd7 (n := xs.length) (by simp)).mono ?_
  rintro e w8 ⟨rfl, sv8, hd8, hk8⟩
  have K8 := K7.trans hk8
  have hd8' : IsDisk w8 w.heap.size D sv8 (u8s xs) xs.length room := by
    have e : (xs ++ ys).take xs.length = xs := by simp
    rw [e] at hd8
    exact hd8
  clear hk8 hd7 K7 hd8
  go_wp2_with fail
  refine (z_crash hd8' a3 hk0.1 hk0.2).mono ?_
  rintro e w9 ⟨rfl, sv9, hd9, hk9⟩
  have K9 := K8.trans hk9
  have hd9' : IsDisk w9 w.heap.size D sv9 (u8s xs) xs.length room := by
    have e1 : keepN xs.length xs.length a3 = xs.length := by unfold keepN; simp
    rw [e1, List.take_of_length_le (by simp)] at hd9
    exact hd9
  clear hk9 hd8' K8 hd9
  go_wp2_with fail
  refine (z_bytes hd9').mono ?_
  rintro e w10 ⟨a10, c10, rfl, hr10, _, hd10, hk10⟩
  have K10 := K9.trans' hk10 (fun _ _ h => h.elim)
  clear hk10 K9 hd9'
  go_wp2_with fail
  refine (same_bytes_eq _ _ _ xs xs _ hr10 (HR1.out.old K10) (by omega)).mono ?_
  rintro e w11 ⟨rfl, n11, rfl⟩
  have hd11 := hd10.new ((Kept.refl _ w10).drewN n11)
  have K11 := K10.drewN n11
  clear hr10 hd10 K10
  generalize w10.drewN n11 = w11 at *
  have hdec : decide (xs = xs) = true := by simp
  rw [hdec]
  clear hdec
  go_wp2_with fail
  refine (len_any _ _ _ _ _ _ _ hd11).mono ?_
  rintro e w12 ⟨rfl, rfl⟩
  go_wp2
  go_ret
  exact ⟨by simp, K11.below (Nat.le_refl _) (fun k h => h)⟩

set_option maxRecDepth 100000 in
theorem lifted (os : Os) (started : os.Started) (H : Type) (enc : TypeId × Value → H) :
    ReturnsInHanded {} Try.checked os 7 .any (Rows.diskSyncedSpec.pre6 enc Try.prog Try.f7 Rows.diskSyncedRow.domain false) (Rows.diskSyncedSpec.post enc Try.prog Try.f7 false true false false) := by
  refine returnsInHanded_of_change (C := Try.checked) own started (by kernel_rfl) Try.func7
    (ChangeSpec.witness6 (enc := enc) (C := Try.checked) false ⟨#[], #[.int .i64 0, .slice none 0 0, .slice none 0 0, .int .i64 0], []⟩ 8 (by kernel_rfl) (by kernel_rfl) (by kernel_rfl) (by kernel_rfl)) ?_
  intro W base args ds gs before hval0 hW hcnd _
  have hval : ∀ (j : Nat) t v, Try.f7.params[j]? = some t → args[j]? = some v → Value.okWide Try.prog W .any base t v := hval0
  have hW' := hW
  obtain ⟨p, q, hA0, hV, rfl, hfz, hnd⟩ := hW
  have hA : DataW.TrodAll enc Try.prog W 0 (fun _ => true) true Try.f7.params.toList args.toList ds p := hA0
  rw [Try.params7] at hA hval
  obtain ⟨v0, vs0, d0, ds0, p0, q0, hargs, rfl, rfl, h0, r0⟩ := trodAll_cons hA
  obtain ⟨v1, vs1, d1, ds1, p1, q1, rfl, rfl, rfl, h1, r1⟩ := trodAll_cons r0
  obtain ⟨v2, vs2, d2, ds2, p2, q2, rfl, rfl, rfl, h2, r2⟩ := trodAll_cons r1
  obtain ⟨v3, vs3, d3, ds3, p3, q3, rfl, rfl, rfl, h3, r3⟩ := trodAll_cons r2
  obtain ⟨rfl, rfl, rfl⟩ := trodAll_nil r3
  obtain rfl : args = #[v0, v1, v2, v3] := by cases args; simp_all
  obtain ⟨rfl, rfl⟩ := trodVars_none hV
  obtain ⟨a0, rfl, rfl, rfl, w0⟩ := open_int Try.underlying3 (hval 0 3 v0 rfl rfl) h0
  obtain ⟨a1, len1, cap1, rfl⟩ := okWide_slice Try.underlying22 (hval 1 22 v1 rfl rfl)
  have k1 := h1
  have lt1 : ∀ x ∈ p1, x.block < W.heap.size := by obtain ⟨m, hm⟩ := k1; exact DataW.trod_lt m _ _ _ hm
  obtain ⟨z1, w1⟩ : ∃ zs, IsRow .u8 W a1 len1 cap1 zs := by
    obtain ⟨fuel, hf⟩ := h1
    rcases open_ints Try.underlying22 Try.underlying5 (by kernel_rfl) hf with ⟨hcs, _⟩ | ⟨x, l, c, zs, hcs, _, hl, hm, hz, _, hcell, hwz⟩
    · simp [Value.cells] at hcs
      obtain ⟨rfl, rfl, rfl⟩ := hcs
      exact ⟨[], .inl ⟨rfl, rfl, rfl, rfl⟩⟩
    · simp [Value.cells] at hcs
      obtain ⟨rfl, rfl, rfl⟩ := hcs
      exact ⟨zs, .inr ⟨_, rfl, hl, hm, by simpa using hz, hcell, hwz⟩⟩
  obtain ⟨a2, len2, cap2, rfl⟩ := okWide_slice Try.underlying22 (hval 2 22 v2 rfl rfl)
  have k2 := h2
  have lt2 : ∀ x ∈ p2, x.block < W.heap.size := by obtain ⟨m, hm⟩ := k2; exact DataW.trod_lt m _ _ _ hm
  obtain ⟨z2, w2⟩ : ∃ zs, IsRow .u8 W a2 len2 cap2 zs := by
    obtain ⟨fuel, hf⟩ := h2
    rcases open_ints Try.underlying22 Try.underlying5 (by kernel_rfl) hf with ⟨hcs, _⟩ | ⟨x, l, c, zs, hcs, _, hl, hm, hz, _, hcell, hwz⟩
    · simp [Value.cells] at hcs
      obtain ⟨rfl, rfl, rfl⟩ := hcs
      exact ⟨[], .inl ⟨rfl, rfl, rfl, rfl⟩⟩
    · simp [Value.cells] at hcs
      obtain ⟨rfl, rfl, rfl⟩ := hcs
      exact ⟨zs, .inr ⟨_, rfl, hl, hm, by simpa using hz, hcell, hwz⟩⟩
  obtain ⟨a3, rfl, rfl, rfl, w3⟩ := open_int Try.underlying3 (hval 3 3 v3 rfl rfl) h3
  clear hA0 hval0
  refine (walk a0 a1 len1 cap1 z1 a2 len2 cap2 z2 a3 W w0 w1 w2 w3).mono fun e W' ⟨he, bel⟩ => ?_
  subst he
  exact ⟨_, rfl, _, _, _, [], _, [], hW', trodAll_mk1 (shut_bool Try.underlying4 _), (trodAll_cons_mk (shut_int Try.underlying3 w0) (trodAll_cons_mk (Below.trod laidOut (by kernel_rfl) (of_decide_eq_true (by kernel_rfl)) k1 bel lt1) (trodAll_cons_mk (Below.trod laidOut (by kernel_rfl) (of_decide_eq_true (by kernel_rfl)) k2 bel lt2) (trodAll_cons_mk (shut_int Try.underlying3 w3) trodAll_mk0)))), rfl, bel.frame _, fun h => by cases h⟩

theorem over : Rows.diskSyncedRow.holds Try.pinned (OpenSpec.ofChange Rows.diskSyncedSpec) :=
  OpenClaim.holds_of_wide 7 Try.f7 rfl rfl rfl rfl rfl rfl rfl ⟨rfl, rfl, rfl, rfl, rfl⟩ rfl rfl rfl rfl rfl (by kernel_rfl) Try.func7 (by kernel_rfl)
    (of_decide_eq_true (by kernel_rfl)) (by unfold Func.isWrapper; first | (rw [if_pos (by decide +kernel)]; kernel_rfl) | (rw [if_neg (by decide +kernel)]; exact ⟨rfl, rfl⟩))
    (fun os started H enc _ => lifted os started H enc)

theorem proved : Rows.DiskSyncedSaid := over
#print axioms proved
end Go.Proofs.Ytecjdlocajecoaa.diskSynced
