/-
  The contracts of mac's Tag and Key. Conditions: as each theorem says.
-/
import Derived.Test.YtklmhegmombegaaDoorMacA
set_option linter.unusedVariables false
set_option linter.unusedSimpArgs false
namespace Go.Proofs.YtklmhegmombegaaDoor
open Go Go.RowKit Plain

theorem HParts.of_block {w : World} {g : Nat} {t : TypeId} {cur : Array Value} {ps : List (Value × List Nat)} (hg : w.heap[g]? = some (.cells cur t (0, 0))) (h : cur.toList.take ps.length = ps.map (·.1)) (hn : ps.length ≤ cur.size) (hp : ∀ p ∈ ps, HBytes w p.1 p.2) (hl : ps.length ≤ maxLen) (cap : Nat) :
    HParts w (.slice (some ⟨g, 0, none⟩) ps.length cap) ps := by
  refine ⟨?_, hp, hl, fun k e => ?_⟩
  · have := Rd.of_block hg 1 ps.length cap (by omega)
    rw [Nat.mul_one, h] at this
    exact this
  · simp only [Value.ownBlock, Option.some.injEq] at e
    subst e
    exact row_lt hg
theorem HParts.of_buf {w : World} {base : Nat} {t : TypeId} {v : Value} {ps : List (Value × List Nat)} (h : Buf w base t 1 v ps.length (ps.map (·.1))) (hp : ∀ p ∈ ps, HBytes w p.1 p.2) (hl : ps.length ≤ maxLen) : HParts w v ps :=
  ⟨h.rd, hp, hl, fun k e => (h.lt k e).2⟩
theorem HBytes.one {w : World} {v : Value} {l : List Nat} (h : HBytes w v l) : v.oneCell' = true := by obtain ⟨a, c, rfl⟩ := h.form; rfl
theorem HBytes.same {w w' : World} {v : Value} {l : List Nat} (h : HBytes w v l) (hb : ∀ k, v.ownBlock = some k → w'.heap[k]? = w.heap[k]?) (hs : w.heap.size ≤ w'.heap.size) : HBytes w' v l :=
  ⟨h.1.same fun a ha u hu => (World.cell?_of_block (w := w) (hb _ ha)).trans hu, h.2.1, h.2.2.1, fun k e => Nat.lt_of_lt_of_le (h.2.2.2 k e) hs⟩
/-- A hash in its block, as bytes. -/
theorem HBytes.hash {w : World} {g : Nat} {t : TypeId} {l : List Nat} (hg : w.heap[g]? = some (.cells (ints .u8 l) t (0, 0))) (h8 : All8 l) (hl : l.length ≤ maxLen) (c : Nat) : HBytes w (.slice (some ⟨g, 0, none⟩) l.length c) l := by
  have := Rd.of_block hg 1 l.length c (by rw [ints_size]; omega)
  rw [ints_toList, Nat.mul_one, List.take_of_length_le (by simp)] at this
  exact ⟨this, h8, hl, fun k e => by simp only [Value.ownBlock, Option.some.injEq] at e; subst e; exact row_lt hg⟩
theorem Tryd.ifull28 : (Tryd.prog.info? 28).map (fun i => (i.size, i.bytes, i.zero)) = some (1, 24, some (.slice none 0 0)) := by kernel_rfl
theorem info28' : ∃ i, Tryd.prog.info? 28 = some i ∧ i.size = 1 ∧ i.bytes = 24 ∧ i.zero = some (.slice none 0 0) := by
  obtain ⟨i, hi, hb⟩ := Option.map_eq_some_iff.1 Tryd.ifull28
  simp only [Prod.mk.injEq] at hb
  exact ⟨i, hi, hb.1, hb.2.1, hb.2.2⟩
theorem HParts.src {w : World} {v : Value} {ps : List (Value × List Nat)} (h : HParts w v ps) : Src Tryd.prog 1 111 v ps.length (ps.map (·.1)) w := h.1.src Tryd.underlying111 (fun u hu => by
  obtain ⟨p, hp, rfl⟩ := List.mem_map.1 hu
  exact (h.2.1 p hp).one)
set_option maxRecDepth 100000 in
set_option maxHeartbeats 8000000 in
theorem f_tag (kv pv : Value) (key : List Nat) (ps : List (Value × List Nat)) (w : World) (hL : Laid w) (hk : HBytes w kv key) (h1 : 1 ≤ key.length) (h64 : key.length ≤ 64) (hP : HParts w pv ps) (hps : ps.length ≤ 1000) (ht : (ps.flatMap (·.2)).length ≤ 1000000) :
    Calls Tryd.prog 61 #[kv, pv] w (RPost (.agg (ints .u8 (tagOf key (ps.flatMap (·.2))))) w) := by
  obtain ⟨i28, hi, hsz, hby, hz⟩ := info28'
  obtain ⟨ka, kc, rfl⟩ := hk.form
  obtain ⟨pa, pc, rfl⟩ := hP.form
  have g4 := Lib.hid (heap_alloc_new w (.cells Z26 26))
  have K1 := Lib.hid ((Kept.refl (fun _ => False) w).alloc (.cells Z26 26))
  have HK := Lib.hid (hk.kept K1.out)
  have HP := Lib.hid (hP.kept K1.out)
  have HL := Lib.hid (hL.kept K1.out)
  have hpa54 := Lib.hid (padK_all (b := 54) hk.2.1 (by decide))
  have hpa92 := Lib.hid (padK_all (b := 92) hk.2.1 (by decide))
  have hgt : ¬ (64 < (key.length : Int)) := by omega
  have hL0 := Lib.hid hL
  clear hk hP hL
  go_enter Tryd.func61, Tryd.ntmps61
  go_wp2_with (first | fail | (with_reducible refine alloc26 ?_))
  generalize w.alloc (.cells Z26 26) = w1 at *
  refine (f_pad _ key 54 w1 HK.out h1 h64 (by decide)).mono ?_
  rintro e w2 ⟨v1, rfl, hb1, k2⟩
  have K2 := Lib.hid (K1.out.trans k2)
  have G42 := Lib.hid (k2.row g4.out)
  have HK2 := Lib.hid (HK.out.kept k2)
  have HP2 := Lib.hid (HP.out.kept k2)
  have HL2 := Lib.hid (HL.out.kept k2)
  have HX1 := Lib.hid (Buf.bytes hb1 hpa54.out)
  have hn3 := heap_alloc_new w2 (.cells #[v1] 28)
  have k3 := (Kept.refl (fun _ => False) w2).alloc (.cells #[v1] 28)
  have hs3 : (w2.alloc (.cells #[v1] 28)).heap.size = w2.heap.size + 1 := by simp
  have hone := HX1.out.one
  rw [padK_len] at hb1
  obtain ⟨a1, c1, rfl, -, -⟩ := hb1.form
  have HB3 : Hid (Buf (w2.alloc (.cells #[.slice a1 64 c1] 28)) w2.heap.size 28 1 (.slice (some ⟨w2.heap.size, 0, none⟩) 1 1) 1 [.slice a1 64 c1]) :=
    ⟨rfl, .inr ⟨w2.heap.size, 1, _, rfl, Nat.le_refl _, hn3, Nat.le_refl _, by decide, by simp, rfl⟩⟩
  have HLT : Hid (∀ p ∈ ((.slice a1 64 c1, padK key 54) : Value × List Nat) :: ps, ∀ k, p.1.ownBlock = some k → k < w2.heap.size) := fun p hp k e => by
    rcases List.mem_cons.1 hp with rfl | hp
    · exact HX1.out.2.2.2 k e
    · exact (HP2.out.2.1 p hp).2.2.2 k e
  have hkb : Hid (∀ k, (Value.slice ka key.length kc).ownBlock = some k → k < w2.heap.size) := fun k e => HK2.out.2.2.2 k e
  have hw42 : w.heap.size < w2.heap.size := row_lt G42.out
  have HX3 := Lib.hid (HX1.out.kept k3)
  have K3 := Lib.hid (K2.out.trans k3)
  have G43 := Lib.hid (k3.row G42.out)
  have HK3 := Lib.hid (HK2.out.kept k3)
  have HP3 := Lib.hid (HP2.out.kept k3)
  have HL3 := Lib.hid (HL2.out.kept k3)
  have HS3 := Lib.hid HP3.out.src
  have hws3 : w2.heap.size ≤ (w2.alloc (.cells #[.slice a1 64 c1] 28)).heap.size := by omega
  have HWS3 := Lib.hid hws3
  clear hn3 k3 hs3 hb1 k2 G42 HK2 HP2 HL2 K2 HK HP HL g4 hws3 K1
  go_wp2_with (first | fail | (at_builtin; refine wpList_append_buf _ rfl (.tmp 16) (.tmp 17) 111 111 rfl w2.heap.size 28 i28 (.slice none 0 0) 1 24 Tryd.underlying111 hi hz hsz hby rfl (by decide) (.slice (some ⟨w2.heap.size, 0, none⟩) 1 1) 1 [.slice a1 64 c1] rfl HB3.out (.slice pa ps.length pc) ps.length (ps.map (·.1)) rfl HS3.out (by unfold maxLen; omega) (by omega) HWS3.out ?_; intro v4 w4 hb4 hg4 ho4 hn4; have HB4 := Lib.hid hb4; have HG4 := Lib.hid hg4; clear hb4 hg4 ho4 hn4))
  have hkeep : ∀ k, k < w2.heap.size → w4.heap[k]? = (w2.alloc (.cells #[.slice a1 64 c1] 28)).heap[k]? := fun k hk => HG4.out.block k (by simp; omega) (fun e => by simp only [Value.ownBlock, Option.some.injEq] at e; omega)
  have KW4 : Hid (Kept (fun _ => False) w w4) := K3.out.grown HG4.out (fun j hj => by simp only [Value.ownBlock, Option.some.injEq] at hj; exact .inr (by omega))
  have hsz4 : (w2.alloc (.cells #[.slice a1 64 c1] 28)).heap.size ≤ w4.heap.size := HG4.out.size
  have G44 : Hid (w4.heap[w.heap.size]? = some (.cells Z26 26 (0, 0))) := (hkeep _ hw42).trans G43.out
  have HK4 : Hid (HBytes w4 (.slice ka key.length kc) key) := HK3.out.same (fun k e => hkeep k (hkb.out k e)) hsz4
  have HL4 := Lib.hid (hL0.out.kept KW4.out)
  have HP4 : Hid (HParts w4 v4 (((.slice a1 64 c1, padK key 54) : Value × List Nat) :: ps)) := HParts.of_buf (by
      have h := HB4.out
      rw [Nat.add_comm] at h
      exact h) (fun p hp => by
      have h3 : HBytes (w2.alloc (.cells #[.slice a1 64 c1] 28)) p.1 p.2 := by
        rcases List.mem_cons.1 hp with rfl | hp
        · exact HX3.out
        · exact HP3.out.2.1 p hp
      exact h3.same (fun k e => hkeep k (HLT.out p hp k e)) hsz4) (by simp; unfold maxLen; omega)
  have HT4 : Hid ((((.slice a1 64 c1, padK key 54) : Value × List Nat) :: ps).flatMap (·.2) = padK key 54 ++ ps.flatMap (·.2)) := rfl
  have HSM := Lib.hid (f_sum v4 _ w4 HL4.out HP4.out (by rw [HT4.out, List.length_append, padK_len]; omega))
  rw [HT4.out] at HSM
  clear hkeep hsz4 HP3 HK3 HL3 G43 HB3 HX3 HS3 HLT hkb HG4 HB4 K3 HP4 HT4 HWS3
  go_wp2_with fail
  refine HSM.out.mono ?_
  rintro e w5 ⟨rfl, k5⟩
  have KW5 := Lib.hid (KW4.out.trans k5)
  have G45 := Lib.hid (k5.row G44.out)
  have HK5 := Lib.hid (HK4.out.kept k5)
  have HL5 := Lib.hid (HL4.out.kept k5)
  have HTG : Hid (tagOf key (ps.flatMap (·.2)) = sha (padK key 92 ++ sha (padK key 54 ++ ps.flatMap (·.2)))) := rfl
  have hs32 := Lib.hid (sha_len (padK key 54 ++ ps.flatMap (·.2)))
  have hs8 := Lib.hid (sha_all (padK key 54 ++ ps.flatMap (·.2)))
  generalize sha (padK key 54 ++ ps.flatMap (·.2)) = inn at *
  have HC5 := Lib.hid (show (ints .u8 inn).size = 32 by rw [ints_size, hs32.out])
  have HO5 := Lib.hid (ints_one .u8 inn)
  have z6 := Lib.hid (heap_alloc_new w5 (.cells Z26 26))
  obtain ⟨y6, k6⟩ := alloc_set w5 Z26 (ints .u8 inn) 26
  have Y6 := Lib.hid y6
  have K6 := Lib.hid k6
  have hw45 : w.heap.size < w5.heap.size := row_lt G45.out
  clear k5 y6 k6 HSM G44 HK4 HL4 KW4
  go_upto_region 5 with (first | fail | (with_reducible refine alloc26 ?_) | ((with_reducible refine store26 (C := ints .u8 inn) ?_ ?_ z6.out Z26_size HC5.out HO5.out ?_); rfl; rfl))
  generalize (w5.alloc (.cells Z26 26)).setRow w5.heap.size (ints .u8 inn) = w6 at *
  have KW6 := Lib.hid (KW5.out.trans K6.out)
  have G46 := Lib.hid (K6.out.row G45.out)
  have HK6 := Lib.hid (HK5.out.kept K6.out)
  have HL6 := Lib.hid (HL5.out.kept K6.out)
  generalize w5.heap.size = g6 at *
  clear z6 G45 HK5 HL5 KW5 K6
  have hS0 : True := trivial
  refine wp_region_held_drew (S := fun w' => True) (by kernel_rfl) hS0 (fun hHeld => ?_)
  have KW7 : Hid (Kept (fun _ => False) w w6.drew) := KW6.out.drew
  have G47 : Hid (w6.drew.heap[w.heap.size]? = some (.cells Z26 26 (0, 0))) := G46.out
  have Y7 : Hid (w6.drew.heap[g6]? = some (.cells (ints .u8 inn) 26 (0, 0))) := Y6.out
  have k67 := (Kept.refl (fun _ => False) w6).drew
  have HK7 := Lib.hid (HK6.out.kept k67)
  have HL7 := Lib.hid (HL6.out.kept k67)
  clear KW6 G46 Y6 HK6 HL6 k67
  generalize w6.drew = w7 at *
  refine wpAnyH_take (i := 0) (oi := ⟨some 20, _, _, _, _, _⟩) (v := .slice ka key.length kc) rfl (by kernel_rfl) (by kernel_rfl) (by kernel_rfl) (fun _ _ _ h => h) (Or.inl ⟨by kernel_rfl, fun w' hS => by go_simp⟩) (by assumption) ?_
  try simp only [Act.put, List.setIfInBounds_toArray, List.set_cons_succ, List.set_cons_zero]
  refine wpAnyH_take (i := 2) (oi := ⟨some 22, _, _, _, _, _⟩) (v := .slice (some ⟨g6, 0, none⟩) 32 32) rfl (by kernel_rfl) (by kernel_rfl) (by kernel_rfl) (fun _ _ _ h => h) (Or.inl ⟨by kernel_rfl, fun w' hS => by go_simp⟩) (by assumption) ?_
  try simp only [Act.put, List.setIfInBounds_toArray, List.set_cons_succ, List.set_cons_zero]
  refine wpAnyH_ready (rs := [1]) (by kernel_rfl) (by simp) ?_
  refine AllReadyH.cons (o := _) rfl (fun K hK => ?_) AllReadyH.nil
  go_simp
  refine (f_pad _ key 92 w7 HK7.out h1 h64 (by decide)).mono ?_
  rintro e w8 ⟨v8, rfl, hb8, k8⟩
  have HX8 := Lib.hid (Buf.bytes hb8 hpa92.out)
  have KW8 := Lib.hid (KW7.out.trans k8)
  have G48 := Lib.hid (k8.row G47.out)
  have Y8 := Lib.hid (k8.row Y7.out)
  have HL8 := Lib.hid (HL7.out.kept k8)
  have HI8 : Hid (HBytes w8 (.slice (some ⟨g6, 0, none⟩) 32 32) inn) := by
    have h := HBytes.hash Y8.out hs8.out (by rw [hs32.out]; decide) 32
    rwa [hs32.out] at h
  rw [padK_len] at hb8
  obtain ⟨a8, c8, rfl, -, -⟩ := hb8.form
  clear hb8 k8 KW7 G47 Y7 HL7
  go_wp2_with fail
  refine hK.out _ _ trivial (fun hHeld => ?_)
  clear hK K
  try simp only [Act.put, List.setIfInBounds_toArray, List.set_cons_succ, List.set_cons_zero]
  refine wpAnyH_ready (rs := [3]) (by kernel_rfl) (by simp) ?_
  refine AllReadyH.cons (o := _) rfl (fun K hK => ?_) AllReadyH.nil
  have hn9 := heap_alloc_new w8 (.cells #[(Value.slice a8 64 c8), .slice (some ⟨g6, 0, none⟩) 32 32] 28)
  have k9 := (Kept.refl (fun _ => False) w8).alloc (.cells #[(Value.slice a8 64 c8), .slice (some ⟨g6, 0, none⟩) 32 32] 28)
  go_simp
  have HP9 : Hid (HParts (w8.alloc (.cells #[(Value.slice a8 64 c8), .slice (some ⟨g6, 0, none⟩) 32 32] 28)) (.slice (some ⟨w8.heap.size, 0, none⟩) 2 2) [((Value.slice a8 64 c8), padK key 92), (.slice (some ⟨g6, 0, none⟩) 32 32, inn)]) :=
    HParts.of_block (ps := [((Value.slice a8 64 c8), padK key 92), (.slice (some ⟨g6, 0, none⟩) 32 32, inn)]) hn9 rfl (by simp) (fun p hp => by
      rcases List.mem_cons.1 hp with rfl | hp
      · exact HX8.out.kept k9
      · obtain rfl := List.mem_singleton.1 hp
        exact HI8.out.kept k9) (by simp; decide) 2
  have KW9 := Lib.hid (KW8.out.trans k9)
  have G49 := Lib.hid (k9.row G48.out)
  have HL9 := Lib.hid (HL8.out.kept k9)
  have HT9 : Hid ([((Value.slice a8 64 c8), padK key 92), ((.slice (some ⟨g6, 0, none⟩) 32 32, inn) : Value × List Nat)].flatMap (·.2) = padK key 92 ++ inn) := by show _ = _; simp
  have HSM := Lib.hid (f_sum _ _ _ HL9.out HP9.out (by rw [HT9.out, List.length_append, padK_len, hs32.out]; decide))
  rw [HT9.out, ← HTG.out] at HSM
  refine hK.out _ _ trivial (fun hHeld => ?_)
  clear hK K hn9 k9 HX8 KW8 G48 Y8 HL8 HI8
  try simp only [Act.put, List.setIfInBounds_toArray, List.set_cons_succ, List.set_cons_zero]
  refine wpAnyH_ready (rs := [4]) (by kernel_rfl) (by simp) ?_
  refine AllReadyH.cons (o := _) rfl (fun K hK => ?_) AllReadyH.nil
  go_simp
  refine HSM.out.mono ?_
  rintro e w10 ⟨rfl, k10⟩
  have KW10 := Lib.hid (KW9.out.trans k10)
  have G410 := Lib.hid (k10.row G49.out)
  have hct := Lib.hid (show (ints .u8 (tagOf key (ps.flatMap (·.2)))).size = 32 by rw [ints_size, HTG.out, sha_len])
  have hot := Lib.hid (ints_one .u8 (tagOf key (ps.flatMap (·.2))))
  generalize hTG : ints .u8 (tagOf key (ps.flatMap (·.2))) = TG at *
  clear k10 KW9 G49 HSM HP9 HT9 HL9
  go_wp2_with fail
  refine hK.out _ _ trivial (fun hHeld => ?_)
  clear hK K
  try simp only [Act.put, List.setIfInBounds_toArray, List.set_cons_succ, List.set_cons_zero]
  refine wpAnyH_ready (rs := [5]) (by kernel_rfl) (by simp) ?_
  refine AllReadyH.cons (o := _) rfl (fun K hK => ?_) AllReadyH.nil
  refine step_store26 (C := TG) (g := w.heap.size) (o := 0) (by kernel_rfl) rfl rfl hct.out hot.out G410.out (by rw [Z26_size]; decide) ?_
  intro wn Yn kn
  rw [puts_all (by rw [Z26_size, hct.out])] at Yn
  have KWn : Kept (fun _ => False) w wn := KW10.out.trans' kn (fun i hi e => by omega)
  refine hK.out _ _ trivial (fun hHeld => ?_)
  clear hK K
  try simp only [Act.put, List.setIfInBounds_toArray, List.set_cons_succ, List.set_cons_zero]
  refine wpAnyH_done (by kernel_rfl) ?_ _
  have HYN := Lib.hid Yn
  have HKN := Lib.hid KWn
  clear Yn KWn kn
  go_wp2_with fail
  exact bodyPost_ret (results_26 rfl _ _ _ HYN.out hct.out rfl) rfl (RPost.mk (by first | rfl | rw [hTG]) HKN.out)
theorem tag_len (key t : List Nat) : (tagOf key t).length = 32 := sha_len _
theorem tag_all (key t : List Nat) : All8 (tagOf key t) := sha_all _
set_option maxRecDepth 100000 in
set_option maxHeartbeats 8000000 in
theorem f_key (key : List Nat) (wv : Value) (ws : List Int) (w : World) (hL : Laid w) (h8 : All8 key) (hkl : key.length = 32) (hW : HInts w wv ws) :
    Calls Tryd.prog 55 #[.agg (ints .u8 key), wv] w (RPost (.agg (ints .u8 (macKey key ws))) w) := by
  obtain ⟨wa, wc, rfl⟩ := hW.form
  obtain ⟨g2, g4⟩ := (⟨heap_alloc2_old w (.cells (ints .u8 key) 26) (.cells Z26 26), heap_alloc2_new w (.cells (ints .u8 key) 26) (.cells Z26 26)⟩ : _ ∧ _)
  have hwl := Lib.hid hW.2.1
  have G2 := Lib.hid g2
  have G4 := Lib.hid g4
  have K1 := Lib.hid (((Kept.refl (fun _ => False) w).alloc (.cells (ints .u8 key) 26)).alloc (.cells Z26 26))
  have HW := Lib.hid (hW.kept K1.out)
  have HL := Lib.hid (hL.kept K1.out)
  have HKL := Lib.hid hkl
  have HK8 := Lib.hid h8
  have hcs := Lib.hid (show (ints .u8 key).size = 32 by rw [ints_size, hkl])
  have hon := Lib.hid (ints_one .u8 key)
  have HMK : Hid (macKey key ws = tagOf key (ws.flatMap wordB)) := rfl
  have HWA := Lib.hid (words_all ws)
  have HWL := Lib.hid (words_len ws)
  have hws : (ws.flatMap wordB).length ≤ 8000 := by rw [HWL.out]; have := hwl.out; omega
  generalize htx : ws.flatMap wordB = tx at *
  have HTX := Lib.hid htx
  clear htx
  clear hW hL hkl h8 g2 g4
  go_enter Tryd.func55, Tryd.ntmps55
  go_upto_region 1 with (first | fail | (with_reducible refine alloc26 ?_))
  generalize (w.alloc (.cells (ints .u8 key) 26)).alloc (.cells Z26 26) = w1 at *
  refine wp_region_held_drew (S := fun w' => True) (by kernel_rfl) trivial (fun hHeld => ?_)
  have KW2 : Hid (Kept (fun _ => False) w w1.drew) := K1.out.drew
  have G42 : Hid (w1.drew.heap[w.heap.size + 1]? = some (.cells Z26 26 (0, 0))) := G4.out
  have G22 : Hid (w1.drew.heap[w.heap.size]? = some (.cells (ints .u8 key) 26 (0, 0))) := G2.out
  have k12 := (Kept.refl (fun _ => False) w1).drew
  have HW2 := Lib.hid (HW.out.kept k12)
  have HL2 := Lib.hid (HL.out.kept k12)
  clear K1 G4 G2 HW HL k12
  generalize w1.drew = w2 at *
  refine wpAnyH_take (i := 0) (oi := ⟨some 5, _, _, _, _, _⟩) (v := .slice (some ⟨w.heap.size, 0, none⟩) 32 32) rfl (by kernel_rfl) (by kernel_rfl) (by kernel_rfl) (fun _ _ _ h => h) (Or.inl ⟨by kernel_rfl, fun w' hS => by go_simp⟩) (by assumption) ?_
  try simp only [Act.put, List.setIfInBounds_toArray, List.set_cons_succ, List.set_cons_zero]
  refine wpAnyH_take (i := 1) (oi := ⟨some 6, _, _, _, _, _⟩) (v := .slice wa ws.length wc) rfl (by kernel_rfl) (by kernel_rfl) (by kernel_rfl) (fun _ _ _ h => h) (Or.inl ⟨by kernel_rfl, fun w' hS => by go_simp⟩) (by assumption) ?_
  try simp only [Act.put, List.setIfInBounds_toArray, List.set_cons_succ, List.set_cons_zero]
  refine wpAnyH_ready (rs := [2]) (by kernel_rfl) (by simp) ?_
  refine AllReadyH.cons (o := _) rfl (fun K hK => ?_) AllReadyH.nil
  have HF := Lib.hid (f_joinedI _ ws w2 HW2.out)
  go_simp
  refine HF.out.mono ?_
  rintro e w3 ⟨v3, rfl, hb3, k3⟩
  rw [HTX.out] at hb3
  have HX3 := Lib.hid (Buf.bytes hb3 HWA.out)
  have KW3 := Lib.hid (KW2.out.trans k3)
  have G43 := Lib.hid (k3.row G42.out)
  have HL3 := Lib.hid (HL2.out.kept k3)
  have HK3 : Hid (HBytes w3 (.slice (some ⟨w.heap.size, 0, none⟩) 32 32) key) := by
    have h := HBytes.hash (k3.row G22.out) HK8.out (by rw [HKL.out]; decide) 32
    rwa [HKL.out] at h
  obtain ⟨a3, c3, rfl, -, -⟩ := hb3.form
  have hn4 := heap_alloc_new w3 (.cells #[.slice a3 tx.length c3] 28)
  have k4 := (Kept.refl (fun _ => False) w3).alloc (.cells #[.slice a3 tx.length c3] 28)
  have HP4 : Hid (HParts (w3.alloc (.cells #[.slice a3 tx.length c3] 28)) (.slice (some ⟨w3.heap.size, 0, none⟩) 1 1) [(.slice a3 tx.length c3, tx)]) :=
    HParts.of_block (ps := [(.slice a3 tx.length c3, tx)]) hn4 rfl (by simp) (fun p hp => by
      obtain rfl := List.mem_singleton.1 hp
      exact HX3.out.kept k4) (by simp; decide) 1
  have KW4 := Lib.hid (KW3.out.trans k4)
  have G44 := Lib.hid (k4.row G43.out)
  have HL4 := Lib.hid (HL3.out.kept k4)
  have HK4 := Lib.hid (HK3.out.kept k4)
  have HT4 : Hid ([((.slice a3 tx.length c3, tx) : Value × List Nat)].flatMap (·.2) = tx) := by show _ = _; simp
  have HTG := Lib.hid (f_tag _ _ key _ _ HL4.out HK4.out (by rw [HKL.out]; decide) (by rw [HKL.out]; decide) HP4.out (by simp) (by rw [HT4.out]; omega))
  rw [HT4.out, ← HMK.out] at HTG
  clear hb3 k3 HW2 HL2 G42 G22 KW2 HF KW3 G43 HL3 HK3 HX3 k4 hn4 HP4 HT4
  go_wp2_with fail
  refine hK.out _ _ trivial (fun hHeld => ?_)
  clear hK K
  try simp only [Act.put, List.setIfInBounds_toArray, List.set_cons_succ, List.set_cons_zero]
  refine wpAnyH_ready (rs := [3]) (by kernel_rfl) (by simp) ?_
  refine AllReadyH.cons (o := _) rfl (fun K hK => ?_) AllReadyH.nil
  go_simp
  refine hK.out _ _ trivial (fun hHeld => ?_)
  clear hK K
  try simp only [Act.put, List.setIfInBounds_toArray, List.set_cons_succ, List.set_cons_zero]
  refine wpAnyH_ready (rs := [4]) (by kernel_rfl) (by simp) ?_
  refine AllReadyH.cons (o := _) rfl (fun K hK => ?_) AllReadyH.nil
  go_simp
  refine HTG.out.mono ?_
  rintro e w5 ⟨rfl, k5⟩
  have KW5 := Lib.hid (KW4.out.trans k5)
  have G45 := Lib.hid (k5.row G44.out)
  have hct := Lib.hid (show (ints .u8 (macKey key ws)).size = 32 by rw [ints_size, HMK.out, tag_len])
  have hot := Lib.hid (ints_one .u8 (macKey key ws))
  generalize hTG : ints .u8 (macKey key ws) = TG at *
  clear k5 KW4 G44 HTG HL4 HK4
  go_wp2_with fail
  refine hK.out _ _ trivial (fun hHeld => ?_)
  clear hK K
  try simp only [Act.put, List.setIfInBounds_toArray, List.set_cons_succ, List.set_cons_zero]
  refine wpAnyH_ready (rs := [5]) (by kernel_rfl) (by simp) ?_
  refine AllReadyH.cons (o := _) rfl (fun K hK => ?_) AllReadyH.nil
  refine step_store26 (C := TG) (g := w.heap.size + 1) (o := 0) (by kernel_rfl) rfl rfl hct.out hot.out G45.out (by rw [Z26_size]; decide) ?_
  intro wn Yn kn
  rw [puts_all (by rw [Z26_size, hct.out])] at Yn
  have KWn : Kept (fun _ => False) w wn := KW5.out.trans' kn (fun i hi e => by omega)
  refine hK.out _ _ trivial (fun hHeld => ?_)
  clear hK K
  try simp only [Act.put, List.setIfInBounds_toArray, List.set_cons_succ, List.set_cons_zero]
  refine wpAnyH_done (by kernel_rfl) ?_ _
  have HYN := Lib.hid Yn
  have HKN := Lib.hid KWn
  clear Yn KWn kn
  go_wp2_with fail
  exact bodyPost_ret (results_26 rfl _ _ _ HYN.out hct.out rfl) rfl (RPost.mk (by first | rfl | rw [hTG]) HKN.out)
end Go.Proofs.YtklmhegmombegaaDoor
