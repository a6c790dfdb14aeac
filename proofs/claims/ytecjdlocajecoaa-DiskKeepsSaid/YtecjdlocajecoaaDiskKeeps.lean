/-
  Bytes that last are there behind every crash, and what a crash leaves is these and a beginning of what was written since: 'Rows.DiskKeepsSaid', for every input. Conditions: none.
-/
import Derived.Test.YtecjdlocajecoaaArg
import Derived.WalkKit
import Derived.ProofKit
import Derived.OpenShut
import Derived.ShutString
import Derived.ChangeOld
import Derived.Below
namespace Go.Proofs.Ytecjdlocajecoaa.diskKeeps
open Go.ChangeShapes Go.WideShapes Go.ChangeAt Go.RowKit
open Go.ChangeMaps (open_string shut_string)
set_option linter.unusedVariables false

theorem own : ownKnob Try.prog.godebug = none := by kernel_rfl
theorem laidOut : laidOutB Try.prog = true := by kernel_rfl

theorem walk (a0 : Int) (a1 : Option Addr) (len1 cap1 : Nat) (z1 : List Int) (a2 : Option Addr) (len2 cap2 : Nat) (z2 : List Int) (a3 : Int) (w : World) (w0 : (Lit.int .i64 a0).wf = true) (w1 : IsRow .u8 w a1 len1 cap1 z1) (w2 : IsRow .u8 w a2 len2 cap2 z2) (w3 : (Lit.int .i64 a3).wf = true) :
    Calls Try.prog 5 #[.int .i64 a0, .slice a1 len1 cap1, .slice a2 len2 cap2, .int .i64 a3] w fun e w' => e = .returned (.bool true) ∧ Below w.heap.size w w' := by
  obtain ⟨hr1, hlen1⟩ := w1.rd
  obtain ⟨hr2, hlen2⟩ := w2.rd
  generalize hz1 : z1.take len1 = xs at hr1 hlen1
  generalize hz2 : z2.take len2 = ys at hr2 hlen2
  clear hz1 hz2 w1 w2
  have hk0 : -9223372036854775808 ≤ a3 ∧ a3 ≤ 9223372036854775807 := by simpa [Lit.wf, IntKind.min, IntKind.max, IntKind.signed, IntKind.bits] using w3
  clear w0 w3
  subst hlen1; subst hlen2
  have CA := alive_true w
  have early : ∀ (a1 a2 : Option Addr) (c1 c2 : Nat), (300 < xs.length ∨ 300 < ys.length ∨ a0 < 1 ∨ 65536 < a0) →
      Calls Try.prog 5 #[.int .i64 a0, .slice a1 xs.length c1, .slice a2 ys.length c2, .int .i64 a3] w fun e w' => e = .returned (.bool true) ∧ Below w.heap.size w w' := by
    intro a1 a2 c1 c2 h
    clear hr1 hr2 hk0
    by_cases h1 : 300 < xs.length
    · clear h
      go_enter Try.func5, Try.ntmps5
      go_wp2_with (go_at_call 8; refine CA.mono ?_; rintro e w1 ⟨rfl, hk⟩)
      go_ret
      exact ⟨rfl, hk.below (Nat.le_refl _) (fun k h => h)⟩
    · by_cases h2 : 300 < ys.length
      · clear h
        go_enter Try.func5, Try.ntmps5
        go_wp2_with (go_at_call 8; refine CA.mono ?_; rintro e w1 ⟨rfl, hk⟩)
        go_ret
        exact ⟨rfl, hk.below (Nat.le_refl _) (fun k h => h)⟩
      · by_cases h3 : a0 < 1
        · clear h
          go_enter Try.func5, Try.ntmps5
          go_wp2_with (go_at_call 8; refine CA.mono ?_; rintro e w1 ⟨rfl, hk⟩)
          go_ret
          exact ⟨rfl, hk.below (Nat.le_refl _) (fun k h => h)⟩
        · have h4 : 65536 < a0 := by omega
          clear h
          go_enter Try.func5, Try.ntmps5
          go_wp2_with (go_at_call 8; refine CA.mono ?_; rintro e w1 ⟨rfl, hk⟩)
          go_ret
          exact ⟨rfl, hk.below (Nat.le_refl _) (fun k h => h)⟩
  by_cases hb : 300 < xs.length ∨ 300 < ys.length ∨ a0 < 1 ∨ 65536 < a0
  · exact early _ _ _ _ hb
  clear early
  obtain ⟨room, rfl⟩ : ∃ room : Nat, a0 = room := ⟨a0.toNat, by omega⟩
  have b1 : ¬ 300 < xs.length := by omega
  have b2 : ¬ 300 < ys.length := by omega
  have b3 : ¬ (room : Int) < 1 := by omega
  have b4 : ¬ (65536 : Int) < room := by omega
  clear hb CA
  have HR1 := Lib.hid hr1
  have HR2 := Lib.hid hr2
  clear hr1 hr2
  go_enter Try.func5, Try.ntmps5
  go_wp2_with fail
  refine (alive_true w).mono ?_
  rintro e w1 ⟨rfl, hk1⟩
  go_wp2_with fail
  refine (new_any w.heap.size room w1 (by omega) (by omega) hk1.size).mono ?_
  rintro e w2 ⟨rfl, hd2, hk2⟩
  have K2 := hk1.trans' hk2 (fun _ _ h => h.elim)
  clear hk1 hk2
  generalize hD : w1.heap.size = D at *
  clear hD
  go_wp2_with fail
  have hR := HR1.out.old K2
  by_cases hfit1 : xs.length ≤ room
  · refine (write_any _ _ _ _ _ _ _ xs.length _ _ hd2 hR (oneCell_ints _ _) (by unfold maxLen; omega) (by simpa using hfit1)).mono ?_
    rintro e w3 ⟨rfl, sv3, hd3, _, hk3⟩
    have K3 := K2.trans' hk3 (fun i hi h => (hd2.own i h).1)
    have hd3' : IsDisk w3 w.heap.size D sv3 (xs.map (Value.int .u8)) 0 room := by simpa using hd3
    clear hd3 hk3 hd2 K2 hR
    go_wp2_with fail
    refine (sync_any _ _ _ _ _ _ _ hd3').mono ?_
    rintro e w4 ⟨rfl, hd4, hk4⟩
    have K4 := K3.trans' hk4 (fun i hi h => (hd3'.own i (.inl h)).1)
    have hd4' : IsDisk w4 w.heap.size D sv3 (xs.map (Value.int .u8)) xs.length room := by simpa using hd4
    clear hd4 hk4 hd3' K3
    go_wp2_with fail
    have hR := HR2.out.old K4
    have HW : Calls Try.prog 10 #[.pointer (some ⟨D, 0, none⟩), .slice a2 ys.length cap2] w4 fun e w' => ∃ (c : Int) (zs : List Int) (sv' : Value), e = .returned (.int .i64 c) ∧ IsDisk w' w.heap.size D sv' (zs.map (Value.int .u8)) xs.length room ∧
        zs.take xs.length = xs ∧ xs.length ≤ zs.length ∧ zs.length ≤ 600 ∧ (c = 0 ∨ c = 5 ∧ zs.length = xs.length) ∧ Kept (fun k => w.heap.size ≤ k) w4 w' := by
      by_cases hfit2 : xs.length + ys.length ≤ room
      · refine (write_any _ _ _ _ _ _ _ ys.length _ _ hd4' hR (oneCell_ints _ _) (by unfold maxLen; omega) (by simpa using hfit2)).mono ?_
        rintro e w' ⟨rfl, sv', hd, _, hk⟩
        exact ⟨0, xs ++ ys, sv', rfl, by simpa using hd, by simp, by simp, by simp; omega, .inl rfl, hk.mono fun k hk h => (hd4'.own k h).1⟩
      · refine (write_no _ _ _ _ _ _ _ _ _ _ hd4' (by unfold maxLen; omega) (by simp; omega)).mono ?_
        rintro e w' ⟨rfl, n, rfl⟩
        exact ⟨5, xs, sv3, rfl, hd4'.new ((Kept.refl _ w4).drewN n), by simp, Nat.le_refl _, by omega, .inr ⟨rfl, rfl⟩, (Kept.refl _ w4).drewN n⟩
    refine HW.mono ?_
    rintro e w5 ⟨c, zs, sv5, rfl, hd5, htk, hle, h600, hc, hk5⟩
    have K5 := K4.trans' hk5 (fun i hi h => h)
    have HTK := Lib.hid htk
    have HC := Lib.hid hc
    clear hk5 hd4' K4 hR HW htk hc
    go_wp2_with fail
    refine (bytes_any _ _ _ _ _ _ _ hd5).mono ?_
    rintro e w6 ⟨v6, rfl, hb6, hk6⟩
    have hb6' : Buf w6 w5.heap.size 5 1 v6 zs.length (zs.map (Value.int .u8)) := by simpa using hb6
    have hd6 := hd5.new hk6
    have K6 := K5.trans' hk6 (fun _ _ h => h.elim)
    have hown6 : ∀ k, v6.ownBlock = some k → ¬ (k = D) := fun k hk h => by
      have h1 := (hb6'.lt k hk).1
      have h2 := hd5.lt
      omega
    clear K5 hk6 hd5 hb6
    obtain ⟨n, hn⟩ : ∃ n, n = keepN xs.length zs.length a3 := ⟨_, rfl⟩
    have hn1 : xs.length ≤ n ∧ n ≤ zs.length := by rw [hn]; unfold keepN; omega
    go_wp2_with fail
    refine (crash_any _ _ _ _ _ _ a3 _ hd6 hk0.1 hk0.2).mono ?_
    rintro e w7 ⟨rfl, sv7, hd7, _, hk7⟩
    have hd7' : IsDisk w7 w.heap.size D sv7 ((zs.take n).map (Value.int .u8)) n room := by rw [hn, List.map_take]; simpa using hd7
    have K7 := K6.trans' hk7 (fun i hi h => (hd6.own i (.inl h)).1)
    have hb7 := hb6'.kept hk7 hown6
    clear hk7 hd7 hd6 K6 hn hb6' hown6
    have hzl : (zs.take n).length = n := by rw [List.length_take]; omega
    go_wp2_with fail
    refine (bytes_any _ _ _ _ _ _ _ hd7').mono ?_
    rintro e w8 ⟨v8, rfl, hb8, hk8⟩
    have hb8' : Buf w8 w7.heap.size 5 1 v8 n ((zs.take n).map (Value.int .u8)) := by
      have e : ((zs.take n).map (Value.int .u8)).length = n := by rw [List.length_map]; exact hzl
      rw [e] at hb8
      exact hb8
    have hd8 := hd7'.new hk8
    have K8 := K7.trans' hk8 (fun _ _ h => h.elim)
    have hb7' := hb7.kept hk8 (fun _ _ h => h)
    have hown8 : ∀ k, v8.ownBlock = some k → ¬ (k = D) := fun k hk h => by
      have h1 := (hb8'.lt k hk).1
      have h2 := hd7'.lt
      omega
    clear K7 hk8 hd7' hb7 hb8
    have hrd7 := hb7'.rd
    have hrd8 := hb8'.rd
    obtain ⟨a7, c7, rfl, hc7, _⟩ := hb7'.form
    have hcut := hrd7.cut hn1.2
    simp only [Nat.mul_one, ← List.map_take] at hcut
    obtain ⟨a8, c8, rfl, hc8, _⟩ := hb8'.form
    have hlate : (c = 0 ∨ c = 5 ∧ n = xs.length) := by rcases HC.out with h | ⟨h1, h2⟩; exact .inl h; exact .inr ⟨h1, by omega⟩
    have HZL := Lib.hid hzl
    clear hb7' hrd7 hzl
    have t1 : ¬ n < xs.length := by omega
    have t2 : ¬ zs.length < n := by omega
    have t3 : n ≤ zs.length := by omega
    have t4 : n ≤ 600 := by omega
    clear hn1
    have HS : Hid (∀ n', Rd (w8.drewN n') 1 (.slice a8 n c8) n ((zs.take n).map (Value.int .u8))) := fun n' => hrd8.drewN n'
    have HH : Hid (Calls Try.prog 12 #[.slice a8 n c8, .slice a7 n c7] w8 fun e w' => e = .returned (.bool true) ∧ ∃ n, w' = w8.drewN n) := by
      have h := same_bytes_eq n _ _ (zs.take n) (zs.take n) w8 hrd8 hcut (by omega)
      exact h.mono fun e w' ⟨he, hw⟩ => ⟨by rw [he]; simp, hw⟩
    clear hrd8 hcut hb8'
    rcases hlate with rfl | ⟨rfl, hnx⟩
    · go_wp2_with fail
      refine HH.out.mono ?_
      rintro e w9 ⟨rfl, n9, rfl⟩
      have hd9 := hd8.new ((Kept.refl _ w8).drewN n9)
      have K9 := K8.drewN n9
      have hrd9 := Lib.hid (HS.out n9)
      have h8 : ∀ k, (Value.slice a8 n c8).ownBlock = some k → ¬ k = D := hown8
      have H8 := Lib.hid h8
      clear hd8 K8 HS HH hown8 h8
      generalize w8.drewN n9 = w9 at *
      go_wp2_with fail
      refine (len_any _ _ _ _ _ _ _ hd9).mono ?_
      rintro e w10 ⟨rfl, rfl⟩
      go_wp2_with fail
      refine (crash_any _ _ _ _ _ _ 9 _ hd9 (by decide) (by decide)).mono ?_
      rintro e w10 ⟨rfl, sv10, hd10, _, hk10⟩
      have hkn : keepN n n 9 = n := by unfold keepN; omega
      have hzl := HZL.out
      have hd10' : IsDisk w10 w.heap.size D sv10 ((zs.take n).map (Value.int .u8)) n room := by
        have e : ((zs.take n).map (Value.int .u8)).length = n := by rw [List.length_map]; exact hzl
        rw [e, hkn, List.take_of_length_le (by omega)] at hd10
        exact hd10
      have K10 := K9.trans' hk10 (fun i hi h => (hd9.own i (.inl h)).1)
      have hrd10 := hrd9.out.kept hk10 H8.out
      clear hd10 hk10 hd9 K9 hrd9 hkn hzl
      go_wp2_with fail
      refine (bytes_any _ _ _ _ _ _ _ hd10').mono ?_
      rintro e w11 ⟨v11, rfl, hb11, hk11⟩
      have K11 := K10.trans' hk11 (fun _ _ h => h.elim)
      have hrd11 := hrd10.kept hk11 (fun _ _ h => h)
      have hb11' : Rd w11 1 v11 n ((zs.take n).map (Value.int .u8)) := by
        have e : ((zs.take n).map (Value.int .u8)).length = n := by rw [List.length_map]; exact HZL.out
        have h := hb11.rd
        rw [e] at h
        exact h
      clear K10 hk11 hb11 hd10' hrd10
      go_wp2_with fail
      refine (same_bytes_eq n _ _ (zs.take n) (zs.take n) _ hb11' hrd11 (by omega)).mono ?_
      rintro e w12 ⟨rfl, n12, rfl⟩
      clear hb11' hrd11
      go_wp2
      go_ret
      exact ⟨by simp, (K11.drewN _).below (Nat.le_refl _) (fun k h => h)⟩
    · have hq : ((n : Int) != (xs.length : Int)) = false := by simp [hnx]
      clear hnx
      go_wp2_with fail
      refine HH.out.mono ?_
      rintro e w9 ⟨rfl, n9, rfl⟩
      have hd9 := hd8.new ((Kept.refl _ w8).drewN n9)
      have K9 := K8.drewN n9
      have hrd9 := Lib.hid (HS.out n9)
      have h8 : ∀ k, (Value.slice a8 n c8).ownBlock = some k → ¬ k = D := hown8
      have H8 := Lib.hid h8
      clear hd8 K8 HS HH hown8 h8
      generalize w8.drewN n9 = w9 at *
      go_wp2_with fail
      refine (len_any _ _ _ _ _ _ _ hd9).mono ?_
      rintro e w10 ⟨rfl, rfl⟩
      go_wp2_with fail
      refine (crash_any _ _ _ _ _ _ 9 _ hd9 (by decide) (by decide)).mono ?_
      rintro e w10 ⟨rfl, sv10, hd10, _, hk10⟩
      have hkn : keepN n n 9 = n := by unfold keepN; omega
      have hzl := HZL.out
      have hd10' : IsDisk w10 w.heap.size D sv10 ((zs.take n).map (Value.int .u8)) n room := by
        have e : ((zs.take n).map (Value.int .u8)).length = n := by rw [List.length_map]; exact hzl
        rw [e, hkn, List.take_of_length_le (by omega)] at hd10
        exact hd10
      have K10 := K9.trans' hk10 (fun i hi h => (hd9.own i (.inl h)).1)
      have hrd10 := hrd9.out.kept hk10 H8.out
      clear hd10 hk10 hd9 K9 hrd9 hkn hzl
      go_wp2_with fail
      refine (bytes_any _ _ _ _ _ _ _ hd10').mono ?_
      rintro e w11 ⟨v11, rfl, hb11, hk11⟩
      have K11 := K10.trans' hk11 (fun _ _ h => h.elim)
      have hrd11 := hrd10.kept hk11 (fun _ _ h => h)
      have hb11' : Rd w11 1 v11 n ((zs.take n).map (Value.int .u8)) := by
        have e : ((zs.take n).map (Value.int .u8)).length = n := by rw [List.length_map]; exact HZL.out
        have h := hb11.rd
        rw [e] at h
        exact h
      clear K10 hk11 hb11 hd10' hrd10
      go_wp2_with fail
      refine (same_bytes_eq n _ _ (zs.take n) (zs.take n) _ hb11' hrd11 (by omega)).mono ?_
      rintro e w12 ⟨rfl, n12, rfl⟩
      clear hb11' hrd11
      go_wp2
      go_ret
      exact ⟨by simp, (K11.drewN _).below (Nat.le_refl _) (fun k h => h)⟩
  · refine (write_no _ _ _ _ _ _ _ _ _ _ hd2 (by unfold maxLen; omega) (by simp; omega)).mono ?_
    rintro e w3 ⟨rfl, n3, rfl⟩
    clear hR
    go_wp2
    go_ret
    exact ⟨by simp; omega, (K2.drewN _).below (Nat.le_refl _) (fun k h => h)⟩

set_option maxRecDepth 100000 in
theorem lifted (os : Os) (started : os.Started) (H : Type) (enc : TypeId × Value → H) :
    ReturnsInHanded {} Try.checked os 5 .any (Rows.diskKeepsSpec.pre6 enc Try.prog Try.f5 Rows.diskKeepsRow.domain false) (Rows.diskKeepsSpec.post enc Try.prog Try.f5 false true false false) := by
  refine returnsInHanded_of_change (C := Try.checked) own started (by kernel_rfl) Try.func5
    (ChangeSpec.witness6 (enc := enc) (C := Try.checked) false ⟨#[], #[.int .i64 0, .slice none 0 0, .slice none 0 0, .int .i64 0], []⟩ 8 (by kernel_rfl) (by kernel_rfl) (by kernel_rfl) (by kernel_rfl)) ?_
  intro W base args ds gs before hval0 hW hcnd _
  have hval : ∀ (j : Nat) t v, Try.f5.params[j]? = some t → args[j]? = some v → Value.okWide Try.prog W .any base t v := hval0
  have hW' := hW
  obtain ⟨p, q, hA0, hV, rfl, hfz, hnd⟩ := hW
  have hA : DataW.TrodAll enc Try.prog W 0 (fun _ => true) true Try.f5.params.toList args.toList ds p := hA0
  rw [Try.params5] at hA hval
  obtain ⟨v0, vs0, d0, ds0, p0, q0, hargs, rfl, rfl, h0, r0⟩ := trodAll_cons hA
  obtain ⟨v1, vs1, d1, ds1, p1, q1, rfl, rfl, rfl, h1, r1⟩ := trodAll_cons r0
  obtain ⟨v2, vs2, d2, ds2, p2, q2, rfl, rfl, rfl, h2, r2⟩ := trodAll_cons r1
  obtain ⟨v3, vs3, d3, ds3, p3, q3, rfl, rfl, rfl, h3, r3⟩ := trodAll_cons r2
  obtain ⟨rfl, rfl, rfl⟩ := trodAll_nil r3
  obtain rfl : args = #[v0, v1, v2, v3] := by cases args; simp_all
  obtain ⟨rfl, rfl⟩ := trodVars_none hV
  obtain ⟨a0, rfl, rfl, rfl, w0⟩ := open_int Try.underlying3 (hval 0 3 v0 rfl rfl) h0
  obtain ⟨a1, len1, cap1, rfl⟩ := okWide_slice Try.underlying22 (hval 1 22 v1 rfl rfl)
  have k1 := h1
  have lt1 : ∀ x ∈ p1, x.block < W.heap.size := by obtain ⟨m, hm⟩ := k1; exact DataW.trod_lt m _ _ _ hm
  obtain ⟨z1, w1⟩ : ∃ zs, IsRow .u8 W a1 len1 cap1 zs := by
    obtain ⟨fuel, hf⟩ := h1
    rcases open_ints Try.underlying22 Try.underlying5 (by kernel_rfl) hf with ⟨hcs, _⟩ | ⟨x, l, c, zs, hcs, _, hl, hm, hz, _, hcell, hwz⟩
    · simp [Value.cells] at hcs
      obtain ⟨rfl, rfl, rfl⟩ := hcs
      exact ⟨[], .inl ⟨rfl, rfl, rfl, rfl⟩⟩
    · simp [Value.cells] at hcs
      obtain ⟨rfl, rfl, rfl⟩ := hcs
      exact ⟨zs, .inr ⟨_, rfl, hl, hm, by simpa using hz, hcell, hwz⟩⟩
  obtain ⟨a2, len2, cap2, rfl⟩ := okWide_slice Try.underlying22 (hval 2 22 v2 rfl rfl)
  have k2 := h2
  have lt2 : ∀ x ∈ p2, x.block < W.heap.size := by obtain ⟨m, hm⟩ := k2; exact DataW.trod_lt m _ _ _ hm
  obtain ⟨z2, w2⟩ : ∃ zs, IsRow .u8 W a2 len2 cap2 zs := by
    obtain ⟨fuel, hf⟩ := h2
    rcases open_ints Try.underlying22 Try.underlying5 (by kernel_rfl) hf with ⟨hcs, _⟩ | ⟨x, l, c, zs, hcs, _, hl, hm, hz, _, hcell, hwz⟩
    · simp [Value.cells] at hcs
      obtain ⟨rfl, rfl, rfl⟩ := hcs
      exact ⟨[], .inl ⟨rfl, rfl, rfl, rfl⟩⟩
    · simp [Value.cells] at hcs
      obtain ⟨rfl, rfl, rfl⟩ := hcs
      exact ⟨zs, .inr ⟨_, rfl, hl, hm, by simpa using hz, hcell, hwz⟩⟩
  obtain ⟨a3, rfl, rfl, rfl, w3⟩ := open_int Try.underlying3 (hval 3 3 v3 rfl rfl) h3
  clear hA0 hval0
  refine (walk a0 a1 len1 cap1 z1 a2 len2 cap2 z2 a3 W w0 w1 w2 w3).mono fun e W' ⟨he, bel⟩ => ?_
  subst he
  exact ⟨_, rfl, _, _, _, [], _, [], hW', trodAll_mk1 (shut_bool Try.underlying4 _), (trodAll_cons_mk (shut_int Try.underlying3 w0) (trodAll_cons_mk (Below.trod laidOut (by kernel_rfl) (of_decide_eq_true (by kernel_rfl)) k1 bel lt1) (trodAll_cons_mk (Below.trod laidOut (by kernel_rfl) (of_decide_eq_true (by kernel_rfl)) k2 bel lt2) (trodAll_cons_mk (shut_int Try.underlying3 w3) trodAll_mk0)))), rfl, bel.frame _, fun h => by cases h⟩

theorem over : Rows.diskKeepsRow.holds Try.pinned (OpenSpec.ofChange Rows.diskKeepsSpec) :=
  OpenClaim.holds_of_wide 5 Try.f5 rfl rfl rfl rfl rfl rfl rfl ⟨rfl, rfl, rfl, rfl, rfl⟩ rfl rfl rfl rfl rfl (by kernel_rfl) Try.func5 (by kernel_rfl)
    (of_decide_eq_true (by kernel_rfl)) (by unfold Func.isWrapper; first | (rw [if_pos (by decide +kernel)]; kernel_rfl) | (rw [if_neg (by decide +kernel)]; exact ⟨rfl, rfl⟩))
    (fun os started H enc _ => lifted os started H enc)

theorem proved : Rows.DiskKeepsSaid := over
#print axioms proved
end Go.Proofs.Ytecjdlocajecoaa.diskKeeps
