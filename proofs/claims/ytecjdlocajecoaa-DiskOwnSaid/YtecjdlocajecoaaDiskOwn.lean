/-
  What a disk answers is new memory, and what is handed in is not kept: 'Rows.DiskOwnSaid', for every input. Conditions: none.
-/
import Derived.Test.YtecjdlocajecoaaArg
import Derived.WalkKit
import Derived.ProofKit
import Derived.OpenShut
import Derived.ShutString
import Derived.ChangeOld
import Derived.Below
namespace Go.Proofs.Ytecjdlocajecoaa.diskOwn
open Go.ChangeShapes Go.WideShapes Go.ChangeAt Go.RowKit
open Go.ChangeMaps (open_string shut_string)
set_option linter.unusedVariables false

theorem own : ownKnob Try.prog.godebug = none := by kernel_rfl
theorem laidOut : laidOutB Try.prog = true := by kernel_rfl

theorem walk (a0 : Option Addr) (len0 cap0 : Nat) (z0 : List Int) (a1 : Int) (w : World) (w0 : IsRow .u8 w a0 len0 cap0 z0) (w1 : (Lit.int .u8 a1).wf = true) :
    Calls Try.prog 3 #[.slice a0 len0 cap0, .int .u8 a1] w fun e w' => e = .returned (.bool true) ∧ Below w.heap.size w w' := by
  obtain ⟨hr, hlen⟩ := w0.rd
  have hlt := w0.lt
  obtain ⟨i0, hi, hz0, hz1, hz2⟩ := info_parts Try.info5
  generalize hzs : z0.take len0 = zs at hr hlen
  clear hzs w0
  have hat : 0 ≤ a1 ∧ a1 ≤ 255 := by simpa [Lit.wf, IntKind.min, IntKind.max, IntKind.signed, IntKind.bits] using w1
  clear w1
  subst hlen
  have CA := alive_true w
  by_cases hbig : 300 < zs.length
  · obtain ⟨_, a, c, hv, _⟩ := hr
    clear hv
    go_enter Try.func3, Try.ntmps3
    go_wp2_with (go_at_call 8; refine CA.mono ?_; rintro e w1 ⟨rfl, hk⟩)
    go_ret
    exact ⟨rfl, hk.below (Nat.le_refl _) (fun k h => h)⟩
  · by_cases hz : zs.length = 0
    · have h0 : zs = [] := List.eq_nil_of_length_eq_zero hz
      subst h0
      clear hz
      go_enter Try.func3, Try.ntmps3
      go_wp2_with (go_at_call 8; refine CA.mono ?_; rintro e w1 ⟨rfl, hk⟩)
      go_ret
      exact ⟨rfl, hk.below (Nat.le_refl _) (fun k h => h)⟩
    · have hz' : ((zs.length : Int) == 0) = false := by rw [beq_eq_false_iff_ne]; omega
      obtain ⟨k, hkk⟩ : ∃ k : Nat, a1 % (zs.length : Int) = k := ⟨(a1 % (zs.length : Int)).toNat, (Int.toNat_of_nonneg (Int.emod_nonneg a1 (by omega))).symm⟩
      have hkl : k < zs.length := by have := Int.emod_lt_of_pos a1 (show (0 : Int) < zs.length by omega); omega
      have HKK := Lib.hid hkk
      have hkt : a1.tmod (zs.length : Int) = k := by rw [Int.tmod_eq_emod_of_nonneg (by omega)]; exact HKK.out
      have HR := Lib.hid hr
      clear hr CA
      go_enter Try.func3, Try.ntmps3
      go_wp2_with fail
      refine (alive_true w).mono ?_
      rintro e w1 ⟨rfl, hk1⟩
      have hr1 := HR.out.kept hk1 (fun b hb => Nat.not_le.2 (hlt (by omega) b hb))
      have HR1 := Lib.hid hr1
      clear hr1 HR
      go_wp2_with fail
      refine (new_any w.heap.size 1000 w1 (by decide) (by decide) hk1.size).mono ?_
      rintro e w2 ⟨rfl, hd2, hk2⟩
      have K2 := hk1.trans' hk2 (fun _ _ h => h.elim)
      have HR2 := Lib.hid (HR1.out.kept hk2 (fun _ _ h => h))
      have hlt2 : w1.heap.size < w2.heap.size := hd2.lt
      clear HR1 hk2
      have hbuf : Buf (w2.alloc (.cells #[] 5)) w2.heap.size 5 1 (.slice (some ⟨w2.heap.size, 0, none⟩) 0 0) 0 [] :=
        Buf.of_owns (World.ownsRow_made w2 #[] 0 (Nat.le_refl _) (by decide) rfl)
      have hsrc : Src Try.prog 1 22 (.slice a0 zs.length cap0) zs.length (zs.map (Value.int .u8)) (w2.alloc (.cells #[] 5)) :=
        Rd.src (P := Try.prog) (tx := 22) (e' := 5) Try.underlying22 (HR2.out.alloc _) (oneCell_ints _ _)
      go_wp2_with (at_builtin; refine wpList_append_buf _ rfl (.tmp 20) (.tmp 21) 22 22 rfl w2.heap.size 5 i0 (.int .u8 0) 1 1 Try.underlying22 hi hz0 hz1 hz2 rfl (by decide) (.slice (some ⟨w2.heap.size, 0, none⟩) 0 0) 0 [] rfl hbuf _ _ _ rfl hsrc (by unfold maxLen; omega) (by omega) (by simp) ?_; intro v3 w3 hb3 hg3 ho3 hn3)
      have hb3' : Buf w3 w2.heap.size 5 1 v3 zs.length (zs.map (Value.int .u8)) := by simpa using hb3
      have K23 : Kept (fun _ => False) w2 w3 := ((Kept.refl _ w2).alloc _).grown hg3 fun k hk => by cases hk; exact .inr (Nat.le_refl _)
      have hR3 := hb3'.rd
      obtain ⟨g, cap3, cur, rfl, hgb, hgh, hcap, hcs, htk⟩ := hb3'.pos (by omega)
      have hd3 := hd2.new K23
      have K3 := K2.trans' K23 (fun _ _ h => h.elim)
      have HR3 := Lib.hid (HR2.out.kept K23 (fun _ _ h => h))
      have hgl : g < w3.heap.size := (Array.getElem?_eq_some_iff.1 hgh).1
      clear hbuf hsrc hb3 hg3 ho3 hn3 hb3' K23 K2 hd2 HR2
      refine (write_any _ _ _ _ _ _ _ zs.length _ _ hd3 hR3 (oneCell_ints _ _) (by unfold maxLen; omega) (by simp; omega)).mono ?_
      rintro e w4 ⟨rfl, sv4, hd4, ho4, hk4⟩
      have hgD : g ≠ w1.heap.size := by omega
      have hgs : ¬ (g = w1.heap.size ∨ (Value.slice none 0 0).ownBlock = some g) := by rintro (h | h); exact hgD h; simp [Value.ownBlock] at h
      have hgh4 := (hk4.block g hgl hgs).trans hgh
      have ho4' : sv4.ownBlock ≠ some g := by
        rcases ho4 with h | h <;> rw [h] <;> simp [Value.ownBlock]
        omega
      have HR4 := Lib.hid (HR3.out.kept hk4 (fun b hb h => by
        have h1 := hlt (by omega) b hb
        have h2 := (hd3.own b h).1
        omega))
      have K4 := K3.trans' hk4 (fun i hi h => (hd3.own i h).1)
      have hkc : k < cur.size := by omega
      have hcell := cell_of_block hgh4 hkc
      have hfree := free_of_block (j := k) hgh4
      obtain ⟨x, hxc⟩ : ∃ x : Int, cur[k] = .int .u8 x := by
        have e : cur.toList[k]? = (zs.map (Value.int .u8))[k]? := by
          have h := congrArg (fun l => l[k]?) htk
          simp only [List.getElem?_take] at h
          rw [if_pos (by omega)] at h
          exact h
        simp [hkc, hkl] at e
        exact ⟨_, e⟩
      rw [hxc] at hcell
      have hd4' : IsDisk w4 w.heap.size w1.heap.size sv4 (zs.map (Value.int .u8)) 0 1000 := by simpa using hd4
      clear hd4 hR3 hgh hk4 ho4 K3 hd3 HR3 htk hxc hcs hgs
      go_wp2_with fail
      have hw5 : Kept (fun i => i = g) w4 (w4.setCell ⟨g, k, none⟩ (.int .u8 ((x + 1) % 256))) := (Kept.refl (fun i => i = g) w4).setCell (p := ⟨g, k, none⟩) (.inl rfl) _
      generalize w4.setCell ⟨g, k, none⟩ (.int .u8 ((x + 1) % 256)) = w5 at hw5 ⊢
      have hd5 := hd4'.kept hw5 (fun h => hgD h.symm) (fun i hi h => ho4' (by rw [hi, h]))
      have K5 := K4.trans' hw5 (fun i hi h => by have := hk1.size; have h' : i = g := h; omega)
      have HR5 := Lib.hid (HR4.out.kept hw5 (fun b hb h => by
        have h1 := hlt (by omega) b hb
        have h2 := hk1.size
        omega))
      clear hw5 hd4' K4 HR4 hgh4 ho4' hcell hfree
      refine (bytes_any _ _ _ _ _ _ _ hd5).mono ?_
      rintro e w6 ⟨v6, rfl, hb6, hk6⟩
      have hb6' : Buf w6 w5.heap.size 5 1 v6 zs.length (zs.map (Value.int .u8)) := by simpa using hb6
      obtain ⟨g6, cap6, cur6, rfl, hgb6, hgh6, hcap6, hcs6, htk6⟩ := hb6'.pos (by omega)
      have hd6 := hd5.new hk6
      have K6 := K5.trans' hk6 (fun _ _ h => h.elim)
      have HR6 := Lib.hid (HR5.out.kept hk6 (fun _ _ h => h))
      have hsv : ∀ i, sv4.ownBlock = some i → i < w5.heap.size := fun i hi => (hd5.own i (.inr hi)).2
      have hDl : w1.heap.size < w5.heap.size := hd5.lt
      clear K5 hd5 hk6 HR5 hb6 hb6'
      have hkc6 : k < cur6.size := by omega
      have hcell6 := cell_of_block hgh6 hkc6
      have hfree6 := free_of_block (j := k) hgh6
      obtain ⟨x6, hxc6⟩ : ∃ x : Int, cur6[k] = .int .u8 x := by
        have e : cur6.toList[k]? = (zs.map (Value.int .u8))[k]? := by
          have h := congrArg (fun l => l[k]?) htk6
          simp only [List.getElem?_take] at h
          rw [if_pos (by omega)] at h
          exact h
        simp [hkc6, hkl] at e
        exact ⟨_, e⟩
      rw [hxc6] at hcell6
      clear htk6 hxc6 hcs6
      go_wp2_with fail
      have hw7 : Kept (fun i => i = g6) w6 (w6.setCell ⟨g6, k, none⟩ (.int .u8 ((x6 + 1) % 256))) := (Kept.refl (fun i => i = g6) w6).setCell (p := ⟨g6, k, none⟩) (.inl rfl) _
      generalize w6.setCell ⟨g6, k, none⟩ (.int .u8 ((x6 + 1) % 256)) = w7 at hw7 ⊢
      have hd7 := hd6.kept hw7 (fun h => by omega) (fun i hi h => by have := hsv i hi; omega)
      have hsz1 := hk1.size
      have hsz : w.heap.size ≤ w5.heap.size := by omega
      have K7 := K6.trans' hw7 (fun i hi h => by omega)
      have HR7 := Lib.hid (HR6.out.kept hw7 (fun b hb h => by
        have h1 := hlt (by omega) b hb
        omega))
      clear hw7 hd6 K6 HR6 hgh6 hcell6 hfree6
      refine (bytes_any _ _ _ _ _ _ _ hd7).mono ?_
      rintro e w8 ⟨v8, rfl, hb8, hk8⟩
      have K8 := K7.trans' hk8 (fun _ _ h => h.elim)
      have HR8 := Lib.hid (HR7.out.kept hk8 (fun _ _ h => h))
      have hb8' : Rd w8 1 v8 zs.length (zs.map (Value.int .u8)) := by simpa using hb8.rd
      clear hb8 hk8 HR7 K7 hd7
      go_wp2_with fail
      refine (same_bytes _ _ zs zs _ hb8' HR8.out (by omega) (by omega)).mono ?_
      rintro e w9 ⟨rfl, n9, rfl⟩
      clear hb8'
      go_wp2
      go_ret
      exact ⟨by simp, (K8.drewN _).below (Nat.le_refl _) (fun k h => h)⟩

set_option maxRecDepth 100000 in
theorem lifted (os : Os) (started : os.Started) (H : Type) (enc : TypeId × Value → H) :
    ReturnsInHanded {} Try.checked os 3 .any (Rows.diskOwnSpec.pre6 enc Try.prog Try.f3 Rows.diskOwnRow.domain false) (Rows.diskOwnSpec.post enc Try.prog Try.f3 false true false false) := by
  refine returnsInHanded_of_change (C := Try.checked) own started (by kernel_rfl) Try.func3
    (ChangeSpec.witness6 (enc := enc) (C := Try.checked) false ⟨#[], #[.slice none 0 0, .int .u8 0], []⟩ 8 (by kernel_rfl) (by kernel_rfl) (by kernel_rfl) (by kernel_rfl)) ?_
  intro W base args ds gs before hval0 hW hcnd _
  have hval : ∀ (j : Nat) t v, Try.f3.params[j]? = some t → args[j]? = some v → Value.okWide Try.prog W .any base t v := hval0
  have hW' := hW
  obtain ⟨p, q, hA0, hV, rfl, hfz, hnd⟩ := hW
  have hA : DataW.TrodAll enc Try.prog W 0 (fun _ => true) true Try.f3.params.toList args.toList ds p := hA0
  rw [Try.params3] at hA hval
  obtain ⟨v0, vs0, d0, ds0, p0, q0, hargs, rfl, rfl, h0, r0⟩ := trodAll_cons hA
  obtain ⟨v1, vs1, d1, ds1, p1, q1, rfl, rfl, rfl, h1, r1⟩ := trodAll_cons r0
  obtain ⟨rfl, rfl, rfl⟩ := trodAll_nil r1
  obtain rfl : args = #[v0, v1] := by cases args; simp_all
  obtain ⟨rfl, rfl⟩ := trodVars_none hV
  obtain ⟨a0, len0, cap0, rfl⟩ := okWide_slice Try.underlying22 (hval 0 22 v0 rfl rfl)
  have k0 := h0
  have lt0 : ∀ x ∈ p0, x.block < W.heap.size := by obtain ⟨m, hm⟩ := k0; exact DataW.trod_lt m _ _ _ hm
  obtain ⟨z0, w0⟩ : ∃ zs, IsRow .u8 W a0 len0 cap0 zs := by
    obtain ⟨fuel, hf⟩ := h0
    rcases open_ints Try.underlying22 Try.underlying5 (by kernel_rfl) hf with ⟨hcs, _⟩ | ⟨x, l, c, zs, hcs, _, hl, hm, hz, _, hcell, hwz⟩
    · simp [Value.cells] at hcs
      obtain ⟨rfl, rfl, rfl⟩ := hcs
      exact ⟨[], .inl ⟨rfl, rfl, rfl, rfl⟩⟩
    · simp [Value.cells] at hcs
      obtain ⟨rfl, rfl, rfl⟩ := hcs
      exact ⟨zs, .inr ⟨_, rfl, hl, hm, by simpa using hz, hcell, hwz⟩⟩
  obtain ⟨a1, rfl, rfl, rfl, w1⟩ := open_int Try.underlying5 (hval 1 5 v1 rfl rfl) h1
  clear hA0 hval0
  refine (walk a0 len0 cap0 z0 a1 W w0 w1).mono fun e W' ⟨he, bel⟩ => ?_
  subst he
  exact ⟨_, rfl, _, _, _, [], _, [], hW', trodAll_mk1 (shut_bool Try.underlying4 _), (trodAll_cons_mk (Below.trod laidOut (by kernel_rfl) (of_decide_eq_true (by kernel_rfl)) k0 bel lt0) (trodAll_cons_mk (shut_int Try.underlying5 w1) trodAll_mk0)), rfl, bel.frame _, fun h => by cases h⟩

theorem over : Rows.diskOwnRow.holds Try.pinned (OpenSpec.ofChange Rows.diskOwnSpec) :=
  OpenClaim.holds_of_wide 3 Try.f3 rfl rfl rfl rfl rfl rfl rfl ⟨rfl, rfl, rfl, rfl, rfl⟩ rfl rfl rfl rfl rfl (by kernel_rfl) Try.func3 (by kernel_rfl)
    (of_decide_eq_true (by kernel_rfl)) (by unfold Func.isWrapper; first | (rw [if_pos (by decide +kernel)]; kernel_rfl) | (rw [if_neg (by decide +kernel)]; exact ⟨rfl, rfl⟩))
    (fun os started H enc _ => lifted os started H enc)

theorem proved : Rows.DiskOwnSaid := over
#print axioms proved
end Go.Proofs.Ytecjdlocajecoaa.diskOwn
