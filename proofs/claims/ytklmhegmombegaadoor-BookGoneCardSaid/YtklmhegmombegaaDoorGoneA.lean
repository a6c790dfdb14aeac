/-
  The walk of BookGone (16). Conditions: as each theorem says.
-/
import Derived.Test.YtklmhegmombegaaDoorRedA
import Derived.Test.YtklmhegmombegaaDoorBkN
import Derived.Deep.LoopGhost
set_option linter.unusedVariables false
set_option linter.unusedSimpArgs false
set_option maxRecDepth 100000
namespace Go.Proofs.YtklmhegmombegaaDoor.Re
open Go Go.RowKit Go.Proofs.YtklmhegmombegaaDoor.Re.Plain Go.Proofs.YtklmhegmombegaaDoor
theorem zip_self {l : List Sg} : ∀ p ∈ l.zip l, p.1 = p.2 := by
  induction l with
  | nil => intro p hp; cases hp
  | cons s l ih =>
    intro p hp
    rw [List.zip_cons_cons, List.mem_cons] at hp
    rcases hp with rfl | hp
    · rfl
    · exact ih p hp
theorem sameBk_self (b : Bk) : sameBk b b = true := by
  unfold sameBk sameL
  rw [beq_self_eq_true, Bool.true_and, decide_eq_true rfl, Bool.true_and, List.all_eq_true]
  intro p hp
  rw [zip_self p hp]
  exact sameB_self _
theorem flat2_second {l : List (Int × Int)} {k : Nat} (h : k < l.length) : (flat2 l)[k * 2 + 1]? = some (.int .i64 l[k].2) := by
  induction l generalizing k with
  | nil => simp at h
  | cons q l ih =>
    cases k with
    | zero => rfl
    | succ k =>
      have := ih (k := k) (by simpa using h)
      have e : (k + 1) * 2 + 1 = (k * 2 + 1) + 2 := by omega
      rw [e]
      simpa [flat2] using this
/-- The records that the law has made so far: each lets books go as its own one of l does. -/
structure Ms (w0 : World) (l : List Rx) (wr : World) (v : Value) (ms : List (Array Value × Rx)) : Prop where
  buf : Buf wr w0.heap.size 30 109 v ms.length (ms.flatMap frc)
  rin : ∀ p ∈ ms, RecIn wr p.1 p.2
  ap : ∀ p ∈ ms, ∀ g, v.ownBlock = some g → Apart p.1 p.2 g
  st : ∀ p ∈ ms, p.2.steps.length ≤ 30
  like : ∀ (i : Nat) (x y : Rx), l[i]? = some x → (ms.map (·.2))[i]? = some y → Like x y
  kept : Kept (fun _ => False) w0 wr
section
variable {w0 wr w' : World} {l : List Rx} {v v' : Value} {ms : List (Array Value × Rx)}
theorem Ms.same (h : Ms w0 l wr v ms) (k : Kept (fun _ => False) wr w') : Ms w0 l w' v ms :=
  ⟨h.buf.kept k (fun _ _ e => e), fun p hp => (h.rin p hp).kept k, h.ap, h.st, h.like, h.kept.trans k⟩
theorem Ms.snoc {C : Array Value} {x x' : Rx} (h : Ms w0 l wr v ms) (hl : l[ms.length]? = some x) (hin : RecIn wr C x') (hap : ∀ g, v.ownBlock = some g → Apart C x' g) (hlike : Like x x') (hst : x'.steps.length ≤ 30)
    (hb : Buf w' w0.heap.size 30 109 v' (ms.length + 1) (ms.flatMap frc ++ C.toList)) (hg : wr.grownBy w' v.ownBlock) (ho : v'.ownBlock = v.ownBlock ∨ v'.ownBlock = some wr.heap.size) : Ms w0 l w' v' (ms ++ [(C, x')]) := by
  have kk : Kept (fun i => v.ownBlock = some i) wr w' := (Kept.refl _ wr).grown hg (fun j hj => .inl hj)
  refine ⟨?_, fun p hp => ?_, fun p hp g e => ?_, fun p hp => ?_, fun i y z hy hz => ?_, h.kept.grown hg (fun j hj => .inr (h.buf.lt j hj).1)⟩
  · rw [List.length_append, List.flatMap_append]
    simpa [frc] using hb
  · rcases List.mem_append.1 hp with hp | hp
    · exact (h.rin p hp).keptA kk (h.ap p hp)
    · obtain rfl := List.mem_singleton.1 hp
      exact hin.keptA kk hap
  · rcases ho with ho | ho
    · rcases List.mem_append.1 hp with hp | hp
      · exact h.ap p hp g (ho ▸ e)
      · obtain rfl := List.mem_singleton.1 hp
        exact hap g (ho ▸ e)
    · obtain rfl := Option.some.inj (ho.symm.trans e)
      rcases List.mem_append.1 hp with hp | hp
      · exact (h.rin p hp).apart (Nat.le_refl _)
      · obtain rfl := List.mem_singleton.1 hp
        exact hin.apart (Nat.le_refl _)
  · rcases List.mem_append.1 hp with hp | hp
    · exact h.st p hp
    · obtain rfl := List.mem_singleton.1 hp
      exact hst
  · rw [List.map_append] at hz
    by_cases hi : i < (ms.map (·.2)).length
    · rw [List.getElem?_append_left hi] at hz
      exact h.like i y z hy hz
    · rw [List.getElem?_append_right (by omega)] at hz
      have hi0 : i - (ms.map (·.2)).length = 0 := by
        have := (List.getElem?_eq_some_iff.1 hz).1
        simpa using this
      rw [hi0] at hz
      have hz' : x' = z := by simpa using hz
      have hi' : i = ms.length := by rw [List.length_map] at hi hi0; omega
      subst hz' hi'
      obtain rfl := Option.some.inj (hl.symm.trans hy)
      exact hlike
end
set_option maxHeartbeats 16000000 in
theorem c_gone (v0 : Value) (rs : List (Array Value × Rx)) (lim wh : Int) (w : World) (hL : Laid w) (hR : HoldsRs w v0 rs) (hF : ∀ p ∈ rs, RecFit p.2 ∧ NilOk p.1) : Calls Tryd.prog 16 #[v0, .int .i64 lim, .int .u32 wh] w (BPost true w) := by
  obtain ⟨i, z, hi, hsz, hby, hz, hzs⟩ := info30'
  obtain ⟨a, c, rfl⟩ := hR.form
  have HAL := Lib.hid (f_alive12 w)
  have HGR := Lib.hid (fun w' (k : Kept (fun _ => False) w w') => f_great _ rs w' (hR.kept k))
  cases hg : greatL (rs.map (·.2)) with
  | true =>
    rw [hg] at HGR
    clear hR hg hi hsz hby hz hzs
    go_enter Tryd.func16, Tryd.ntmps16
    go_wp2_with fail
    refine HAL.out.mono ?_
    rintro e w1 ⟨rfl, k1⟩
    go_wp2_with fail
    refine (HGR.out _ k1).mono ?_
    rintro e w2 ⟨rfl, k2⟩
    have KF := Lib.hid (k1.trans k2)
    go_wp2_with fail
    go_ret
    exact BPost.mk rfl KF.out
  | false =>
    rw [hg] at HGR
    obtain ⟨hl0, hs0⟩ := great_not hg
    rw [List.length_map] at hl0
    have hs1 : ∀ p ∈ rs, p.2.steps.length ≤ 30 := fun p hp => hs0 p.2 (List.mem_map_of_mem hp)
    have HRW := Lib.hid hR
    have HLW := Lib.hid hL
    have HFW := Lib.hid hF
    have HL0 := Lib.hid hl0
    have HS1 := Lib.hid hs1
    have HII := Lib.hid (And.intro hi (And.intro hsz (And.intro hby (And.intro hz hzs))))
    clear hR hL hF hg hs0 hs1 hl0 hi hsz hby hz hzs
    go_enter Tryd.func16, Tryd.ntmps16
    go_wp2_with fail
    refine HAL.out.mono ?_
    rintro e w1 ⟨rfl, k1⟩
    go_wp2_with fail
    refine (HGR.out _ k1).mono ?_
    rintro e w2 ⟨rfl, k2⟩
    have K2 := Lib.hid (k1.trans k2)
    clear k1 k2 HAL HGR
    go_wp2_with fail
    go_loopg [7, 8] rs.length (fun gk s7 s8 wr => ∃ j : Nat, j ≤ rs.length ∧ gk = rs.length - j ∧ s8 = .int .i64 j ∧ Hid (∃ ms, ms.length = j ∧ Ms w (rs.map (·.2)) wr s7 ms))
    case atStart => exact ⟨0, Nat.zero_le _, rfl, rfl, [], rfl, Buf.nil _ _ _ _, by simp, by simp, by simp, by simp, K2.out⟩
    case round =>
      obtain ⟨j, hj, hgk, rfl, HI⟩ := hrel
      have HGK := Lib.hid hgk
      have hl150 := HL0.out
      obtain ⟨ms, hml, hms⟩ := HI.out
      have HML := Lib.hid hml
      have HMS := Lib.hid hms
      obtain ⟨av, cv, rfl, hcv, _⟩ := hms.buf.form
      clear HI hgk hml hms K2
      by_cases hlt : j < rs.length
      · go_upto_region 9 with (fail)
        go_cut [31] (fun s31 wx => ∃ t : Bool, s31 = .bool t ∧ wx = wr)
        case first =>
          go_wp2_with fail
          go_meet
          exact ⟨_, rfl, rfl⟩
        case rest =>
          obtain ⟨t, rfl, rfl⟩ := hcut
          obtain ⟨b1, o1, c1, e1, r1⟩ := (HRW.out.kept HMS.out.kept).elem hlt
          simp only [Value.slice.injEq, true_and] at e1
          obtain ⟨rfl, rfl⟩ := e1
          have hin := (HRW.out.kept HMS.out.kept).rin rs[j] (List.getElem_mem _)
          have hin0 := HRW.out.rin rs[j] (List.getElem_mem _)
          have hf := HFW.out rs[j] (List.getElem_mem _)
          have hst := HS1.out rs[j] (List.getElem_mem _)
          have hlx : (rs.map (·.2))[ms.length]? = some rs[j].2 := by rw [HML.out, List.getElem?_map, List.getElem?_eq_getElem hlt]; rfl
          have hap : ∀ g, (Value.slice av ms.length cv).ownBlock = some g → Apart rs[j].1 rs[j].2 g := fun g e => hin0.apart (HMS.out.buf.lt g e).1
          generalize rs[j] = p at r1 hin hin0 hf hst hlx hap
          obtain ⟨C, x⟩ := p
          dsimp only at r1 hin hin0 hf hst hlx hap
          have hr1 := Lib.hid r1
          have HIN0 := Lib.hid hin
          have HST := Lib.hid hst
          have HLX := Lib.hid hlx
          have HAP := Lib.hid hap
          cases t with
          | true =>
            have HRD := Lib.hid (f_redact C x wc (HLW.out.kept HMS.out.kept) hin hf.1 hf.2 (by omega))
            clear r1 hin hin0 hf hst hlx hap
            go_wp2_with (first | fail | ((with_reducible refine Re.load30 (C := C) (g := b1) (o := o1 + j * 109) ?_ hr1.out HIN0.out.size ?_); rfl))
            refine HRD.out.mono ?_
            rintro e wq ⟨C', x', rfl, hin', hlk, hap', hst', kq⟩
            have HMQ := Lib.hid (HMS.out.same kq)
            have HIN := Lib.hid hin'
            have HLK := Lib.hid hlk
            have HA2 := Lib.hid (fun g (e : (Value.slice av ms.length cv).ownBlock = some g) => hap' g (HMS.out.buf.lt g e).2 (HAP.out g e))
            have HS2 : Hid (x'.steps.length ≤ 30) := by show _ ≤ _; rw [hst']; exact HST.out
            clear hin' hlk hap' hst' kq HRD
            have ka := (Kept.refl (fun _ => False) wq).alloc (.cells C' 30)
            have HMA := Lib.hid (HMQ.out.same ka)
            have HIA := Lib.hid (HIN.out.kept ka)
            have hn1 := heap_alloc_new wq (.cells C' 30)
            have HSR : Hid (Src Tryd.prog 109 81 (.slice (some ⟨wq.heap.size, 0, none⟩) 1 1) 1 C'.toList (wq.alloc (.cells C' 30))) := by
              have h := Rd.of_block hn1 109 1 1 (by rw [HIN.out.size]; decide)
              rw [List.take_of_length_le (by simp [HIN.out.size])] at h
              exact h.src Tryd.underlying81 (fun u hu => Array.all_eq_true_iff_forall_mem.1 HIN.out.one u (by simpa using hu))
            have hmsl : ms.length ≤ 150 := by have := HML.out; omega
            clear ka hn1
            go_wp2_with (first | fail | ((with_reducible refine one30 (C := C') ?_ HIN.out.size ?_); rfl) | (at_builtin; refine wpList_append_buf _ rfl (.tmp 32) (.tmp 38) 81 81 rfl w.heap.size 30 i z 109 224 Tryd.underlying81 HII.out.1 HII.out.2.2.2.1 HII.out.2.1 HII.out.2.2.1 HII.out.2.2.2.2 (by decide) (.slice av ms.length cv) ms.length (ms.flatMap frc) rfl HMA.out.buf _ _ _ rfl HSR.out (by unfold maxLen; omega) (by omega) HMA.out.kept.size ?_; intro v' w' hb' hg' ho' hn'; have HB3 := Lib.hid hb'; have HG3 := Lib.hid hg'; have HO3 := Lib.hid ho'; clear hb' hg' ho' hn'))
            have HMZ := Lib.hid (HMA.out.snoc HLX.out HIA.out HA2.out HLK.out HS2.out HB3.out HG3.out HO3.out)
            have hgk := HGK.out
            have hml := HML.out
            go_roundg (rs.length - (j + 1))
            case measure => omega
            case rel => exact ⟨j + 1, by omega, rfl, by go_num, _, by rw [List.length_append, HML.out]; rfl, HMZ.out⟩
          | false =>
            have HMQ := HMS
            have HIN := HIN0
            clear r1 hin hin0 hf hst hlx hap
            have ka := (Kept.refl (fun _ => False) wc).alloc (.cells C 30)
            have HMA := Lib.hid (HMQ.out.same ka)
            have HIA := Lib.hid (HIN.out.kept ka)
            have hn1 := heap_alloc_new wc (.cells C 30)
            have HSR : Hid (Src Tryd.prog 109 81 (.slice (some ⟨wc.heap.size, 0, none⟩) 1 1) 1 C.toList (wc.alloc (.cells C 30))) := by
              have h := Rd.of_block hn1 109 1 1 (by rw [HIN.out.size]; decide)
              rw [List.take_of_length_le (by simp [HIN.out.size])] at h
              exact h.src Tryd.underlying81 (fun u hu => Array.all_eq_true_iff_forall_mem.1 HIN.out.one u (by simpa using hu))
            have hmsl : ms.length ≤ 150 := by have := HML.out; omega
            clear ka hn1
            go_wp2_with (first | fail | ((with_reducible refine Re.load30 (C := C) (g := b1) (o := o1 + j * 109) ?_ hr1.out HIN0.out.size ?_); rfl) | ((with_reducible refine one30 (C := C) ?_ HIN.out.size ?_); rfl) | (at_builtin; refine wpList_append_buf _ rfl (.tmp 40) (.tmp 45) 81 81 rfl w.heap.size 30 i z 109 224 Tryd.underlying81 HII.out.1 HII.out.2.2.2.1 HII.out.2.1 HII.out.2.2.1 HII.out.2.2.2.2 (by decide) (.slice av ms.length cv) ms.length (ms.flatMap frc) rfl HMA.out.buf _ _ _ rfl HSR.out (by unfold maxLen; omega) (by omega) HMA.out.kept.size ?_; intro v' w' hb' hg' ho' hn'; have HB3 := Lib.hid hb'; have HG3 := Lib.hid hg'; have HO3 := Lib.hid ho'; clear hb' hg' ho' hn'))
            have HMZ := Lib.hid (HMA.out.snoc HLX.out HIA.out HAP.out (like_self x) HST.out HB3.out HG3.out HO3.out)
            have hgk := HGK.out
            have hml := HML.out
            go_roundg (rs.length - (j + 1))
            case measure => omega
            case rel => exact ⟨j + 1, by omega, rfl, by go_num, _, by rw [List.length_append, HML.out]; rfl, HMZ.out⟩
      · obtain rfl : j = rs.length := by omega
        have hmk := HMS.out.kept
        have hbn : bookOf (ms.map (·.2)) lim = bookOf (rs.map (·.2)) lim := bookOf_like (by rw [List.length_map, List.length_map, HML.out]) HMS.out.like
        have hcln := clean_none (l := rs.map (·.2)) (lim := lim)
        have hokb := bookOf_okay (rs.map (·.2)) lim
        have hlen12 : (bookOf (rs.map (·.2)) lim).1.sagas.length ≤ 12 := by have h : BGood lim.toNat (bookOf (rs.map (·.2)) lim).1 := BGood.of _ Bk.zero 0 (BGood.zero _); exact h.len
        have hsl : ∀ p ∈ rs, p.2.steps.length ≤ 1000000 := fun p hp => by have := HS1.out p hp; omega
        have hsm : ∀ p ∈ ms, p.2.steps.length ≤ 1000000 := fun p hp => by have := HMS.out.st p hp; omega
        have hmr : HoldsRs wr (.slice av ms.length cv) ms := ⟨HMS.out.buf.rd, by have := HML.out; unfold maxLen; omega, HMS.out.rin⟩
        obtain ⟨b, n, hbb⟩ : ∃ b n, bookOf (rs.map (·.2)) lim = (b, n) := ⟨_, _, rfl⟩
        rw [hbb] at hbn hcln hokb hlen12
        have HOB : Hid (∀ w', Kept (fun _ => False) w w' → Calls Tryd.prog 48 #[.slice a rs.length c, .int .i64 lim] w' (OfPost (b, n) w')) := fun w' k => by
          have := f_bof _ rs lim w' (HRW.out.kept k) (by omega) hsl
          rw [hbb] at this; exact this
        have HOD : Hid (∀ w', Kept (fun _ => False) wr w' → Calls Tryd.prog 48 #[.slice av ms.length cv, .int .i64 lim] w' (OfPost (b, n) w')) := fun w' k => by
          have := f_bof _ ms lim w' (hmr.kept k) (by have := HML.out; omega) hsm
          rw [hbn] at this; exact this
        have HKB := Lib.hid hokb
        have HCL := Lib.hid hcln
        have H12 := Lib.hid hlen12
        have K3 := Lib.hid hmk
        clear hmk hbn hcln hokb hlen12 hsl hsm hmr hbb HMS HRW HFW HLW HS1 hcv
        go_wp2_with fail
        refine (HOB.out _ K3.out).mono ?_
        rintro e w4 ⟨sB, ssB, rfl, hbB, hmB, -, k4⟩
        obtain ⟨aB, cB, rfl⟩ := hbB.form
        dsimp only at *
        have hone : Hid (∀ (B : Bk) (a : Option Addr) (n c : Nat), (bkC B.ep (.slice a n c)).all (·.oneCell') = true) := fun B a n c => bkC_one B.ep a n c
        have z4 := Lib.hid (heap_alloc_new w4 (.cells Z88 88))
        obtain ⟨y4, k4'⟩ := Re.alloc_set w4 Z88 (bkC b.ep (.slice aB ssB.length cB)) 88
        have k44 := k4.trans k4'
        have K4 := Lib.hid (K3.out.trans k44)
        have KR4 := Lib.hid k44
        have Y4 := Lib.hid y4
        have B4 := Lib.hid (hbB.kept k4')
        have MB := Lib.hid hmB
        clear y4 k4 k4' k44 hbB hmB K3 HOB
        go_upto_region 13 with (first | fail | (with_reducible refine alloc88 ?_) | ((with_reducible refine store88 ?_ ?_ z4.out rfl (bkC_size _ _) (hone.out b aB ssB.length cB) ?_); rfl; rfl))
        generalize ((w4.alloc (.cells Z88 88)).setRow w4.heap.size (bkC b.ep (.slice aB ssB.length cB))) = uB at *
        generalize w4.heap.size = gB at *
        clear z4
        go_wp2_with fail
        refine (HOD.out _ KR4.out).mono ?_
        rintro e w5 ⟨sD, ssD, rfl, hbD, hmD, -, k5⟩
        obtain ⟨aD, cD, rfl⟩ := hbD.form
        dsimp only at *
        have z5 := Lib.hid (heap_alloc_new w5 (.cells Z88 88))
        obtain ⟨y5, k5'⟩ := Re.alloc_set w5 Z88 (bkC b.ep (.slice aD ssD.length cD)) 88
        have k55 := k5.trans k5'
        have K5 := Lib.hid (K4.out.trans k55)
        have Y5 := Lib.hid y5
        have YB := Lib.hid (k55.row Y4.out)
        have B5 := Lib.hid (B4.out.kept k55)
        have D5 := Lib.hid (hbD.kept k5')
        have MD := Lib.hid hmD
        clear y5 k5 k5' k55 hbD hmD K4 KR4 Y4 B4 HOD
        go_upto_region 14 with (first | fail | (with_reducible refine alloc88 ?_) | ((with_reducible refine store88 ?_ ?_ z5.out rfl (bkC_size _ _) (hone.out b aD ssD.length cD) ?_); rfl; rfl))
        generalize ((w5.alloc (.cells Z88 88)).setRow w5.heap.size (bkC b.ep (.slice aD ssD.length cD))) = u at *
        generalize w5.heap.size = gD at *
        clear z5
        have hokB : ∀ p ∈ ssB, Okay p.1 := fun p hp => HKB.out p.1 (MB.out ▸ List.mem_map_of_mem hp)
        have hslB : ∀ p ∈ ssB, p.1.steps.length ≤ 1000000 := fun p hp => by have := (hokB p hp).len; omega
        have hsb := f_bksame b b _ _ ssB ssD u B5.out D5.out MB.out MD.out hslB
        rw [sameBk_self] at hsb
        have HSB := Lib.hid hsb
        have HPB : Hid (∀ w', Kept (fun _ => False) u w' → Calls Tryd.prog 50 #[.agg (bkC b.ep (.slice aB ssB.length cB))] w' (RpPost (repL b.sagas) w')) := fun w' k => f_report b _ ssB w' (B5.out.kept k) MB.out hokB
        have hnn : (n != n) = false := by simp
        have hrl : (repL b.sagas).length ≤ 12 := by rw [repL, List.length_map]; exact H12.out
        have HRL := Lib.hid hrl
        clear hokB hslB hsb hrl
        go_wp2_with (first | fail | ((with_reducible refine load88g ?_ ?_ YB.out (bkC_size _ _) ?_); kernel_rfl; rfl) | ((with_reducible refine load88g ?_ ?_ Y5.out (bkC_size _ _) ?_); kernel_rfl; rfl))
        refine HSB.out.mono ?_
        rintro e w6 ⟨rfl, k6⟩
        have K6 := Lib.hid (K5.out.trans k6)
        have YB6 := Lib.hid (k6.row YB.out)
        have HPQ := Lib.hid (HPB.out w6 k6)
        clear k6 K5 YB Y5 HSB HPB
        go_wp2_with (first | fail | ((with_reducible refine load88 ?_ YB6.out (bkC_size _ _) ?_); rfl))
        refine HPQ.out.mono ?_
        rintro e w7 ⟨v7, rfl, hb7, k7⟩
        have K7 := Lib.hid (K6.out.trans k7)
        have HB7 := Lib.hid hb7
        obtain ⟨a7, c7, rfl, _⟩ := hb7.form
        generalize hlb : repL b.sagas = lb at *
        clear hb7 k7 HPQ K6 YB6
        go_wp2_with fail
        go_loopg [14] lb.length (fun gk s14 wr => ∃ k : Nat, k ≤ lb.length ∧ gk = lb.length - k ∧ s14 = .int .i64 k ∧ Hid (Kept (fun _ => False) w7 wr))
        case atStart => exact ⟨0, Nat.zero_le _, rfl, rfl, Kept.refl _ _⟩
        case round =>
          obtain ⟨k, hk, hgk, rfl, HKK⟩ := hrel
          have HGK2 := Lib.hid hgk
          have hl12 := HRL.out
          clear hgk
          by_cases hkl : k < lb.length
          · have HBK := Lib.hid (HB7.out.kept HKK.out (fun _ _ e => e))
            have HCLN := f_clean (.slice a7 lb.length c7) lb _ ⟨HBK.out.rd, fun i e => (HBK.out.lt i e).2⟩ (by omega)
            cases hcl : cleanB lb with
            | true =>
              rw [hcl] at HCLN
              have h0 : lb[k].2 = 0 := HCL.out hcl _ (List.getElem_mem _)
              have HCH := Lib.hid HCLN
              have H0 := Lib.hid h0
              clear HCLN h0 hcl
              go_wp2_with fail
              refine HCH.out.mono ?_
              rintro e w8 ⟨rfl, k8⟩
              have HB8 := Lib.hid (HBK.out.kept k8 (fun _ _ e => e))
              have HK8 := Lib.hid (HKK.out.trans k8)
              obtain ⟨g7, _, cur7, e7, _, _, _, _, _⟩ := HB8.out.pos (by omega)
              simp only [Value.slice.injEq] at e7
              obtain ⟨rfl, _, rfl⟩ := e7
              have hc := HB8.out.cells (g := g7) rfl (k * 2 + 1) (.int .i64 lb[k].2) (flat2_second hkl)
              rw [Addr.add_none, Nat.zero_add, H0.out] at hc
              clear k8 HCH HBK
              go_wp2_with fail
              have hgk := HGK2.out
              go_roundg (lb.length - (k + 1))
              case measure => omega
              case rel => exact ⟨k + 1, by omega, rfl, by go_num, HK8.out⟩
            | false =>
              rw [hcl] at HCLN
              have HCH := Lib.hid HCLN
              clear HCLN hcl
              go_wp2_with fail
              refine HCH.out.mono ?_
              rintro e w8 ⟨rfl, k8⟩
              have HK8 := Lib.hid (K7.out.trans (HKK.out.trans k8))
              clear k8
              go_wp2_with fail
              go_ret
              exact BPost.mk rfl HK8.out
          · obtain rfl : k = lb.length := by omega
            go_wp2_with fail
            go_ret
            exact BPost.mk rfl (K7.out.trans HKK.out)
end Go.Proofs.YtklmhegmombegaaDoor.Re
