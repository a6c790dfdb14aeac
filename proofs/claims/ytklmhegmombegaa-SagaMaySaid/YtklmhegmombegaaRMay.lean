/-
  Contracts of the reference's May and New. Conditions: as each theorem says.
-/
import Derived.Test.YtklmhegmombegaaNew
import Derived.Deep.QuietTactic
import Derived.BigQuiet
set_option linter.unusedVariables false
set_option linter.unusedSimpArgs false
namespace Go.Proofs.Ytklmhegmombegaa
open Go Go.RowKit Plain

/-- The least kind that may stand at k. -/
def least (l : List (Int × Int)) : Nat → Int
  | 0 => 1
  | k + 1 => if kindAt l k = 2 then 3 else kindAt l k
theorem mayFrom_at {l : List (Int × Int)} {k : Nat} (hk : k < l.length) (m : Int) : mayFrom m (l.drop k) = (decide (0 ≤ l[k].1 ∧ l[k].1 ≤ 3 ∧ m ≤ kindAt l k ∧ kindAt l k ≤ 3) && mayFrom (least l (k + 1)) (l.drop (k + 1))) := by
  rw [List.drop_eq_getElem_cons hk, mayFrom]
  have e : kindAt l k = l[k].2 := by rw [kindAt, List.getElem?_eq_getElem hk]; rfl
  rw [least, e]
theorem rmay_bad {l : List (Int × Int)} {k : Nat} (hk : k < l.length) (h : ¬ (0 ≤ l[k].1 ∧ l[k].1 ≤ 3 ∧ least l k ≤ kindAt l k ∧ kindAt l k ≤ 3)) : mayFrom (least l k) (l.drop k) = false := by
  rw [mayFrom_at hk]; simp only [h, decide_false, Bool.false_and]
theorem rmay_good {l : List (Int × Int)} {k : Nat} (hk : k < l.length) (h : 0 ≤ l[k].1 ∧ l[k].1 ≤ 3 ∧ least l k ≤ kindAt l k ∧ kindAt l k ≤ 3) : mayFrom (least l k) (l.drop k) = mayFrom (least l (k + 1)) (l.drop (k + 1)) := by
  rw [mayFrom_at hk]; simp only [h, and_self, decide_true, Bool.true_and]
theorem mayFrom_low {l : List (Int × Int)} {m : Int} (h1 : 1 ≤ m) {k : Nat} (hk : k < l.length) (h : kindAt l k < 1) : mayFrom m (l.drop k) = false := by
  rw [mayFrom_at hk]
  have : ¬ (0 ≤ l[k].1 ∧ l[k].1 ≤ 3 ∧ m ≤ kindAt l k ∧ kindAt l k ≤ 3) := by omega
  simp only [this, decide_false, Bool.false_and]

set_option maxHeartbeats 4000000 in
theorem f_rmay (v : Value) (l : List (Int × Int)) (w : World) (hs : Stp w v l) (hl : l.length ≤ 1000000) : Calls Try.prog 15 #[v] w (BPost (mayB l) w) := by
  obtain ⟨a, c, rfl⟩ := hs.form
  have HS := Lib.hid hs
  clear hs
  by_cases hn : 1 ≤ l.length
  · by_cases hn6 : l.length ≤ 6
    · have hm : mayB l = mayFrom (least l 0) (l.drop 0) := by simp [mayB, hn, hn6, least]
      rw [hm]
      clear hm
      go_enter Try.func15, Try.ntmps15
      go_wp2_with fail
      go_loopw [3] (fun i wr => ∃ k : Nat, k ≤ l.length ∧ i = .int .i64 k ∧ mayFrom (least l 0) (l.drop 0) = mayFrom (least l k) (l.drop k) ∧ (∀ j, j < k → 1 ≤ kindAt l j) ∧ Kept (fun _ => False) w wr) (fun i _ => l.length - (intOf i).toNat)
      case atStart => exact ⟨0, Nat.zero_le _, rfl, rfl, fun j hj => by omega, Kept.refl _ _⟩
      case round =>
        obtain ⟨k, hk, rfl, hmf, hpre, K⟩ := hrel
        have HM := Lib.hid hmf
        have HP := Lib.hid hpre
        have KR := Lib.hid K
        clear hmf hpre
        by_cases hlt : k < l.length
        · obtain ⟨b, o, c', ev, x1, x0, -⟩ := (HS.out.kept K).kind hlt
          simp only [Value.slice.injEq, true_and] at ev
          obtain ⟨rfl, rfl⟩ := ev
          have HB := Lib.hid (rmay_bad hlt)
          have HG := Lib.hid (rmay_good hlt)
          have HL : Hid (kindAt l k < 1 → mayFrom (least l k) (l.drop k) = false) := fun h => mayFrom_low (by
            cases k with
            | zero => exact Int.le_refl _
            | succ j => have := HP.out j (by omega); show 1 ≤ (if kindAt l j = 2 then 3 else kindAt l j); split <;> omega) hlt h
          by_cases hbad : l[k].1 < 0 ∨ 3 < l[k].1 ∨ kindAt l k < 1 ∨ 3 < kindAt l k
          · have E : Hid (mayFrom (least l 0) (l.drop 0) = false) := HM.out.trans (by
              by_cases h : kindAt l k < 1
              · exact HL.out h
              · exact HB.out (by omega))
            clear K HB HG HL
            generalize l[k].1 = p at x0 hbad
            generalize kindAt l k = q at x1 hbad
            by_cases h1 : p < 0
            · clear hbad
              go_wp2_with fail
              go_ret
              exact BPost.mk E.out KR.out
            by_cases h2 : 3 < p
            · clear hbad
              go_wp2_with fail
              go_ret
              exact BPost.mk E.out KR.out
            by_cases h3 : q < 1
            · clear hbad
              go_wp2_with fail
              go_ret
              exact BPost.mk E.out KR.out
            have h4 : 3 < q := by omega
            clear hbad
            go_wp2_with fail
            go_ret
            exact BPost.mk E.out KR.out
          · have hp : 0 ≤ l[k].1 ∧ l[k].1 ≤ 3 ∧ 1 ≤ kindAt l k ∧ kindAt l k ≤ 3 := by omega
            have HP2 : Hid (∀ j, j < k + 1 → 1 ≤ kindAt l j) := fun j hj => by
              by_cases e : j = k
              · subst e; exact hp.2.2.1
              · exact HP.out j (by omega)
            clear hbad
            cases k with
            | zero =>
              have E : Hid (mayFrom (least l 0) (l.drop 0) = mayFrom (least l (0 + 1)) (l.drop (0 + 1))) := HG.out ⟨hp.1, hp.2.1, by unfold least; exact hp.2.2.1, hp.2.2.2⟩
              clear K HB HG HL
              rw [Nat.zero_mul, Nat.add_zero] at x0 x1
              generalize l[0].1 = p at x0 hp
              generalize kindAt l 0 = q at x1 hp
              go_wp2_with fail
              go_quiet (fail)
              go_wp2_with fail
              go_roundw
              case rel => exact ⟨0 + 1, by omega, by go_num, E.out, HP2.out, KR.out.drewN _⟩
              case measure => simp [intOf]; omega
            | succ j =>
              have hj : j < l.length := by omega
              obtain ⟨b2, o2, c2, ev2, y1, -, -⟩ := (HS.out.kept K).kind hj
              simp only [Value.slice.injEq, true_and, Option.some.injEq, Addr.mk.injEq] at ev2
              obtain ⟨⟨rfl, rfl, -⟩, rfl⟩ := ev2
              have hsub : IntKind.i64.wrap (((j + 1 : Nat) : Int) - 1) = (j : Int) := by rw [IntKind.wrap_i64]; go_num
              have hle : least l (j + 1) = if kindAt l j = 2 then 3 else kindAt l j := rfl
              have HLE := Lib.hid hle
              clear hle K
              generalize l[j + 1].1 = p at x0 hp HB HG
              generalize kindAt l (j + 1) = q at x1 hp HB HG HL
              generalize kindAt l j = r at y1 HLE
              by_cases h1 : q < r
              · have t1 : decide (q < r) = true := by simpa using h1
                have E : Hid (mayFrom (least l 0) (l.drop 0) = false) := HM.out.trans (HB.out (by rw [HLE.out]; split <;> omega))
                clear HB HG HL h1
                go_wp2_with fail
                go_quiet (fail)
                go_wp2_with fail
                go_ret
                exact BPost.mk E.out (KR.out.drewN _)
              have t1 : decide (q < r) = false := by simpa using h1
              by_cases h2 : q = 2
              · have t2 : (q == 2) = true := by rw [beq_iff_eq]; exact h2
                by_cases h3 : r = 2
                · have t3 : (r == 2) = true := by rw [beq_iff_eq]; exact h3
                  have E : Hid (mayFrom (least l 0) (l.drop 0) = false) := HM.out.trans (HB.out (by rw [HLE.out]; split <;> omega))
                  clear HB HG HL h1 h2 h3
                  go_wp2_with fail
                  go_quiet (fail)
                  go_wp2_with fail
                  go_ret
                  exact BPost.mk E.out (KR.out.drewN _)
                · have t3 : (r == 2) = false := by rw [beq_eq_false_iff_ne]; exact h3
                  have E : Hid (mayFrom (least l 0) (l.drop 0) = mayFrom (least l (j + 1 + 1)) (l.drop (j + 1 + 1))) := HM.out.trans (HG.out (by rw [HLE.out]; split <;> omega))
                  clear HB HG HL h1 h2 h3
                  go_wp2_with fail
                  go_quiet (fail)
                  go_wp2_with fail
                  go_roundw
                  case rel => exact ⟨j + 1 + 1, by omega, by go_num, E.out, HP2.out, KR.out.drewN _⟩
                  case measure => simp [intOf]; omega
              · have t2 : (q == 2) = false := by rw [beq_eq_false_iff_ne]; exact h2
                have E : Hid (mayFrom (least l 0) (l.drop 0) = mayFrom (least l (j + 1 + 1)) (l.drop (j + 1 + 1))) := HM.out.trans (HG.out (by rw [HLE.out]; split <;> omega))
                clear HB HG HL h1 h2
                go_wp2_with fail
                go_quiet (fail)
                go_wp2_with fail
                go_roundw
                case rel => exact ⟨j + 1 + 1, by omega, by go_num, E.out, HP2.out, KR.out.drewN _⟩
                case measure => simp [intOf]; omega
        · obtain rfl : k = l.length := by omega
          have E : Hid (mayFrom (least l 0) (l.drop 0) = true) := HM.out.trans (by rw [List.drop_length]; rfl)
          go_wp2_with fail
          go_ret
          exact BPost.mk E.out KR.out
    · have hm : mayB l = false := by simp [mayB, hn6]
      rw [hm]
      clear hm
      go_enter Try.func15, Try.ntmps15
      go_wp2_with fail
      go_ret
      exact BPost.mk rfl (Kept.refl _ _)
  · have hm : mayB l = false := by simp [mayB, hn]
    rw [hm]
    clear hm
    go_enter Try.func15, Try.ntmps15
    go_wp2_with fail
    go_ret
    exact BPost.mk rfl (Kept.refl _ _)

set_option maxRecDepth 100000 in
set_option maxHeartbeats 2000000 in
theorem f_rnew (v : Value) (l : List (Int × Int)) (w : World) (hs : Stp w v l) (hl : l.length ≤ 1000000) : Calls Try.prog 18 #[v] w (SgFresh (newOf l) w) := by
  have hn1 := heap_alloc_new w (.cells Z27 27)
  have HM : Hid (Calls Try.prog 15 #[v] (w.alloc (.cells Z27 27)) (BPost (mayB l) (w.alloc (.cells Z27 27)))) := f_rmay v l _ (hs.alloc _) hl
  have HR : Hid (∀ {w' : World}, Kept (fun _ => False) (w.alloc (.cells Z27 27)) w' → w'.heap[w.heap.size]? = some (.cells Z27 27 (0, 0)) ∧ ∀ X, Kept (fun _ => False) w (w'.setRow w.heap.size X)) := fun k => ⟨(k.block _ (by simp) id).trans hn1, fun X => (((Kept.refl _ w).alloc _).trans k).setRow (Nat.le_refl _) X⟩
  have HS : Hid (∀ {w' : World}, Kept (fun _ => False) (w.alloc (.cells Z27 27)) w' → Stp w' v l) := fun k => (hs.alloc _).kept k
  clear hn1
  obtain ⟨a, c, rfl⟩ := hs.form
  clear hs
  cases hm : mayB l with
  | false =>
    have E : Hid (newOf l = zero) := by show newOf l = _; simp [newOf, hm]
    rw [hm] at HM
    unfold Z27 at HM HR HS
    clear hm
    go_enter Try.func18, Try.ntmps18
    go_wp2_with fail
    refine HM.out.mono ?_
    rintro e w1 ⟨rfl, k1⟩
    obtain ⟨g1, hr⟩ := HR.out k1
    have G1 := Lib.hid g1
    clear g1
    go_wp2_with (first | fail | ((with_reducible refine store27 (C := #[.slice none 0 0, .int .i64 0, .int .i64 0, .int .i64 0, .bool false, .bool false, .int .i64 0, .int .i64 0, .int .i64 0, .int .i64 0]) ?_ ?_ G1.out (ten _ _ _ _ _ _ _ _ _ _) (ten _ _ _ _ _ _ _ _ _ _) (one10 _ _ _ _ _ _ _ _ _ _ _ _) ?_); rfl; rfl))
    exact bodyPost_ret (results_sg rfl _ _ _ (setRow_heap _ _ _ _ _ _ G1.out) rfl rfl) rfl (SgFresh.mk (a := none) (c := 0) E.out rfl (Stp.nil _) (fun k e => by cases e) (hr _))
  | true =>
    have hlen := mayB_len hm
    have E : Hid (newOf l = new l) := by show newOf l = _; simp [newOf, hm]
    obtain ⟨i, hi, hsz, hby, hz⟩ := info34'
    rw [hm] at HM
    unfold Z27 at HM HR HS
    clear hm
    go_enter Try.func18, Try.ntmps18
    go_wp2_with fail
    refine HM.out.mono ?_
    rintro e w1 ⟨rfl, k1⟩
    have hsz1 : w.heap.size < w1.heap.size := by have := k1.size; simp at this; omega
    have hn1 := heap_alloc_new w1 (.cells #[] 34)
    have hb1 : Buf (w1.alloc (.cells #[] 34)) w1.heap.size 34 2 (.slice (some ⟨w1.heap.size, 0, none⟩) 0 0) 0 [] := ⟨rfl, .inr ⟨w1.heap.size, 0, #[], rfl, Nat.le_refl _, hn1, Nat.le_refl _, by decide, by simp, rfl⟩⟩
    have hsrc : Src Try.prog 2 22 (.slice a l.length c) l.length (flat2 l) (w1.alloc (.cells #[] 34)) := ((HS.out k1).alloc _).rd.src Try.underlying22 (oneCell_flat2 l)
    have HB := Lib.hid hb1
    have HSR := Lib.hid hsrc
    have K1 := Lib.hid k1
    clear hn1 hb1 hsrc k1
    go_wp2_with (first | fail | (at_builtin; refine wpList_append_buf _ rfl (.tmp 7) (.tmp 8) 22 22 rfl w1.heap.size 34 i (.agg #[.int .i64 0, .int .i64 0]) 2 16 Try.underlying22 hi hz hsz hby rfl (by decide) (.slice (some ⟨w1.heap.size, 0, none⟩) 0 0) 0 [] rfl HB.out _ _ _ rfl HSR.out (by unfold maxLen; omega) (by omega) (by simp) ?_; intro v' w' hb' hg' ho' hn'; have hb2 : Buf w' w1.heap.size 34 2 v' l.length (flat2 l) := (by simpa using hb'); obtain ⟨a', c', rfl, hff⟩ := hb2.form; have k2 : Kept (fun _ => False) w1 w' := ((Kept.refl _ w1).alloc _).grown hg' (fun k hk => .inr (by cases hk; exact Nat.le_refl _)); obtain ⟨g1, hr⟩ := HR.out (K1.out.trans k2); have G1 := Lib.hid g1; have H2 := Lib.hid hb2.stp; have HO : Hid (∀ k, (Value.slice a' l.length c').ownBlock = some k → w1.heap.size ≤ k) := (fun k e => (hb2.lt k e).1); clear hb' hg' ho' hn' hb2 hff g1 k2) | ((with_reducible refine store27 (C := #[.slice a' l.length c', .int .i64 0, .int .i64 0, .int .i64 0, .bool false, .bool false, .int .i64 0, .int .i64 0, .int .i64 0, .int .i64 1]) ?_ ?_ G1.out (ten _ _ _ _ _ _ _ _ _ _) (ten _ _ _ _ _ _ _ _ _ _) (one10 _ _ _ _ _ _ _ _ _ _ _ _) ?_); rfl; rfl))
    have hst : Stp (w'.setRow w.heap.size #[.slice a' l.length c', .int .i64 0, .int .i64 0, .int .i64 0, .bool false, .bool false, .int .i64 0, .int .i64 0, .int .i64 0, .int .i64 1]) (.slice a' l.length c') l := by
      refine ⟨H2.out.rd.kept (S := fun k => k = w.heap.size) ⟨rfl, rfl, rfl, by simp [World.setRow], fun k _ hs => setRow_other _ _ _ _ hs⟩ (fun k e e' => ?_), fun k e => ?_⟩
      · have := HO.out k e; have e' : k = w.heap.size := e'; omega
      · have := H2.out.lt k e; simpa [World.setRow] using this
    exact bodyPost_ret (results_sg rfl _ _ _ (setRow_heap _ _ _ _ _ _ G1.out) rfl rfl) rfl (SgFresh.mk (a := a') (c := c') E.out rfl hst (fun k e => by have := HO.out k e; omega) (hr _))
theorem f_rmayno (a : Option Addr) (c : Nat) (w : World) : Calls Try.prog 15 #[.slice a 0 c] w (BPost false w) := by
  go_enter Try.func15, Try.ntmps15
  go_wp2_with fail
  go_ret
  exact BPost.mk rfl (Kept.refl _ _)
set_option maxHeartbeats 2000000 in
theorem f_newno (a : Option Addr) (n c : Nat) (w : World) (hm : Calls Try.prog 14 #[.slice a n c] (w.alloc (.cells Z27 27)) (BPost false (w.alloc (.cells Z27 27)))) : Calls Try.prog 17 #[.slice a n c] w (SgFresh zero w) := by
  have hn1 := heap_alloc_new w (.cells Z27 27)
  have HM := Lib.hid hm
  have HR : Hid (∀ {w' : World}, Kept (fun _ => False) (w.alloc (.cells Z27 27)) w' → w'.heap[w.heap.size]? = some (.cells Z27 27 (0, 0)) ∧ ∀ X, Kept (fun _ => False) w (w'.setRow w.heap.size X)) := fun k => ⟨(k.block _ (by simp) id).trans hn1, fun X => (((Kept.refl _ w).alloc _).trans k).setRow (Nat.le_refl _) X⟩
  clear hn1 hm
  unfold Z27 at HM HR
  go_enter Try.func17, Try.ntmps17
  go_wp2_with fail
  refine HM.out.mono ?_
  rintro e w1 ⟨rfl, k1⟩
  obtain ⟨g1, hr⟩ := HR.out k1
  have G1 := Lib.hid g1
  clear g1
  go_wp2_with (first | fail | ((with_reducible refine store27 (C := #[.slice none 0 0, .int .i64 0, .int .i64 0, .int .i64 0, .bool false, .bool false, .int .i64 0, .int .i64 0, .int .i64 0, .int .i64 0]) ?_ ?_ G1.out (ten _ _ _ _ _ _ _ _ _ _) (ten _ _ _ _ _ _ _ _ _ _) (one10 _ _ _ _ _ _ _ _ _ _ _ _) ?_); rfl; rfl))
  exact bodyPost_ret (results_sg rfl _ _ _ (setRow_heap _ _ _ _ _ _ G1.out) rfl rfl) rfl (SgFresh.mk (a := none) (c := 0) (t := zero) rfl rfl (Stp.nil _) (fun k e => by cases e) (hr _))
set_option maxHeartbeats 2000000 in
theorem f_rnewno (a : Option Addr) (n c : Nat) (w : World) (hm : Calls Try.prog 15 #[.slice a n c] (w.alloc (.cells Z27 27)) (BPost false (w.alloc (.cells Z27 27)))) : Calls Try.prog 18 #[.slice a n c] w (SgFresh zero w) := by
  have hn1 := heap_alloc_new w (.cells Z27 27)
  have HM := Lib.hid hm
  have HR : Hid (∀ {w' : World}, Kept (fun _ => False) (w.alloc (.cells Z27 27)) w' → w'.heap[w.heap.size]? = some (.cells Z27 27 (0, 0)) ∧ ∀ X, Kept (fun _ => False) w (w'.setRow w.heap.size X)) := fun k => ⟨(k.block _ (by simp) id).trans hn1, fun X => (((Kept.refl _ w).alloc _).trans k).setRow (Nat.le_refl _) X⟩
  clear hn1 hm
  unfold Z27 at HM HR
  go_enter Try.func18, Try.ntmps18
  go_wp2_with fail
  refine HM.out.mono ?_
  rintro e w1 ⟨rfl, k1⟩
  obtain ⟨g1, hr⟩ := HR.out k1
  have G1 := Lib.hid g1
  clear g1
  go_wp2_with (first | fail | ((with_reducible refine store27 (C := #[.slice none 0 0, .int .i64 0, .int .i64 0, .int .i64 0, .bool false, .bool false, .int .i64 0, .int .i64 0, .int .i64 0, .int .i64 0]) ?_ ?_ G1.out (ten _ _ _ _ _ _ _ _ _ _) (ten _ _ _ _ _ _ _ _ _ _) (one10 _ _ _ _ _ _ _ _ _ _ _ _) ?_); rfl; rfl))
  exact bodyPost_ret (results_sg rfl _ _ _ (setRow_heap _ _ _ _ _ _ G1.out) rfl rfl) rfl (SgFresh.mk (a := none) (c := 0) (t := zero) rfl rfl (Stp.nil _) (fun k e => by cases e) (hr _))
end Go.Proofs.Ytklmhegmombegaa
