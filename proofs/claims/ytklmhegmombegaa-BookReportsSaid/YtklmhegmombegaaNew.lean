/-
  Contracts of Clone, May, New. Conditions: as each theorem says.
-/
import Derived.Test.YtklmhegmombegaaAns
set_option linter.unusedVariables false
set_option linter.unusedSimpArgs false
namespace Go.Proofs.Ytklmhegmombegaa
open Go Go.RowKit Plain

theorem Try.ifull34 : (Try.prog.info? 34).map (fun i => (i.size, i.bytes, i.zero)) = some (2, 16, some (.agg #[.int .i64 0, .int .i64 0])) := by kernel_rfl
theorem info34' : ∃ i, Try.prog.info? 34 = some i ∧ i.size = 2 ∧ i.bytes = 16 ∧ i.zero = some (.agg #[.int .i64 0, .int .i64 0]) := by
  obtain ⟨i, hi, hb⟩ := Option.map_eq_some_iff.1 Try.ifull34
  simp only [Prod.mk.injEq] at hb
  exact ⟨i, hi, hb.1, hb.2.1, hb.2.2⟩
theorem oneCell_flat2 (l : List (Int × Int)) : ∀ u ∈ flat2 l, u.oneCell' = true := by
  intro u hu
  obtain ⟨x, _, hu⟩ := List.mem_flatMap.1 hu
  simp at hu
  rcases hu with rfl | rfl <;> rfl
theorem Buf.stp {w : World} {base : Nat} {v : Value} {l : List (Int × Int)} (h : Buf w base 34 2 v l.length (flat2 l)) : Stp w v l := ⟨h.rd, fun k e => (h.lt k e).2⟩

/-- Steps are handed back. -/
def ClPost (l : List (Int × Int)) (w : World) (e : Ending) (w' : World) : Prop := ∃ a c, e = .returned (.slice a l.length c) ∧ Stp w' (.slice a l.length c) l ∧ (∀ k, (Value.slice a l.length c).ownBlock = some k → w.heap.size ≤ k) ∧ Kept (fun _ => False) w w'
set_option maxHeartbeats 1000000 in
theorem f_clone (v : Value) (l : List (Int × Int)) (w : World) (hs : Stp w v l) (hl : l.length ≤ 1000000) : Calls Try.prog 43 #[v] w (ClPost l w) := by
  obtain ⟨i, hi, hsz, hby, hz⟩ := info34'
  obtain ⟨a, c, rfl⟩ := hs.form
  have HS := Lib.hid hs
  cases a with
  | none =>
    have h0 : l.length = 0 ∧ c = 0 := by
      obtain ⟨_, a', c', e, h⟩ := hs.rd
      injection e with e1 e2 e3
      subst e1; subst e3
      rcases h with h | ⟨ad, h, _⟩
      · exact ⟨h.2.1, h.2.2⟩
      · cases h
    obtain ⟨h0, rfl⟩ := h0
    have HL := Lib.hid h0
    have hnil := fun w' (a : Option Addr) (n c : Nat) => Lib.run_eql_slice_nil (P := Try.prog) w' 22 34 a n c 0 0 Try.underlying22
    go_enter Try.func43, Try.ntmps43
    go_wp2_with fail
    go_ret
    exact ⟨none, 0, (by rw [HL.out]; rfl), HS.out, (fun k e => by cases e), Kept.refl _ _⟩
  | some ad =>
    have hnil := fun w' (a : Option Addr) (n c : Nat) => Lib.run_eql_slice_nil (P := Try.prog) w' 22 34 a n c 0 0 Try.underlying22
    have hn1 := heap_alloc_new w (.cells #[] 34)
    have hb1 : Buf (w.alloc (.cells #[] 34)) w.heap.size 34 2 (.slice (some ⟨w.heap.size, 0, none⟩) 0 0) 0 [] := ⟨rfl, .inr ⟨w.heap.size, 0, #[], rfl, Nat.le_refl _, hn1, Nat.le_refl _, by decide, by simp, rfl⟩⟩
    have hsrc : Src Try.prog 2 22 (.slice (some ad) l.length c) l.length (flat2 l) (w.alloc (.cells #[] 34)) := (hs.alloc _).rd.src Try.underlying22 (oneCell_flat2 l)
    have HB := Lib.hid hb1
    have HSR := Lib.hid hsrc
    clear hs hn1 hb1 hsrc
    go_enter Try.func43, Try.ntmps43
    go_wp2_with (first | fail | (at_builtin; refine wpList_append_buf _ rfl (.tmp 5) (.tmp 6) 22 22 rfl w.heap.size 34 i (.agg #[.int .i64 0, .int .i64 0]) 2 16 Try.underlying22 hi hz hsz hby rfl (by decide) (.slice (some ⟨w.heap.size, 0, none⟩) 0 0) 0 [] rfl HB.out _ _ _ rfl HSR.out (by unfold maxLen; omega) (by omega) (by simp) ?_; intro v' w' hb' hg' ho' hn'; have HB2 := Lib.hid hb'; have HG2 := Lib.hid hg'; clear hb' hg' ho' hn'))
    go_ret
    have hb2 : Buf w' w.heap.size 34 2 v' l.length (flat2 l) := by simpa using HB2.out
    obtain ⟨a', c', rfl, _⟩ := hb2.form
    exact ⟨a', c', rfl, hb2.stp, (fun k e => (hb2.lt k e).1), ((Kept.refl _ w).alloc _).grown HG2.out (fun k hk => .inr (by cases hk; exact Nat.le_refl _))⟩

/-- May's answer. -/
def BPost (b : Bool) (w : World) (e : Ending) (w' : World) : Prop := e = .returned (.bool b) ∧ Kept (fun _ => False) w w'
theorem BPost.mk {b b' : Bool} {w w' : World} (h : b = b') (hk : Kept (fun _ => False) w w') : BPost b w (.returned (.bool b')) w' := by subst h; exact ⟨rfl, hk⟩
set_option maxHeartbeats 2000000 in
theorem f_may (v : Value) (l : List (Int × Int)) (w : World) (hs : Stp w v l) (hl : l.length ≤ 1000000) : Calls Try.prog 14 #[v] w (BPost (mayB l) w) := by
  obtain ⟨a, c, rfl⟩ := hs.form
  by_cases hn : 1 ≤ l.length ∧ l.length ≤ 6
  · have hwi : wi (l.length : Int) 1 6 = true := wi_true (by omega) (by omega)
    have HW := Lib.hid hwi
    have HS := Lib.hid hs
    obtain ⟨b, o, c', ev, hc⟩ := hs.rd.addr (by omega)
    simp only [Value.slice.injEq, true_and] at ev
    obtain ⟨rfl, rfl⟩ := ev
    have HC : Hid (∀ k, k < l.length → ∀ {w' : World}, Kept (fun _ => False) w w' → w'.cell? ⟨b, o + k * 2, none⟩ = some (.int .i64 (l[k]?.getD (0, 0)).1) ∧ w'.cell? ⟨b, o + k * 2 + 1, none⟩ = some (.int .i64 (l[k]?.getD (0, 0)).2)) := fun k hk w' K => by
      obtain ⟨g1, g2⟩ := flat2_get hk
      have e1 := hc _ _ g1
      have e2 := hc _ _ g2
      rw [← Nat.add_assoc] at e2
      rw [List.getElem?_eq_getElem hk]
      have hbl := hs.lt b rfl
      exact ⟨(K.cell (p := ⟨b, o + k * 2, none⟩) hbl id).trans e1, (K.cell (p := ⟨b, o + k * 2 + 1, none⟩) hbl id).trans e2⟩
    have hm : mayB l = mayFrom 1 l := by simp [mayB, hn]
    rw [hm]
    clear hm hwi hs hc
    go_enter Try.func14, Try.ntmps14
    go_wp2_with fail
    refine (f_within_is HW.out _).mono ?_
    rintro e w1 ⟨rfl, rfl⟩
    go_wp2_with fail
    go_loopw [3, 12] (fun last i wr => ∃ (k : Nat) (m : Int), k ≤ l.length ∧ i = .int .i64 k ∧ last = .int .i64 m ∧ mayFrom 1 l = mayFrom m (l.drop k) ∧ Kept (fun _ => False) w wr) (fun _ i _ => l.length - (intOf i).toNat)
    case atStart => exact ⟨0, 1, Nat.zero_le _, rfl, rfl, rfl, Kept.refl _ _⟩
    case round =>
      obtain ⟨k, m, hk, rfl, rfl, hmf, K⟩ := hrel
      have HM := Lib.hid hmf
      clear hmf
      by_cases hlt : k < l.length
      · obtain ⟨c0, c1⟩ := HC.out k hlt K
        have hdrop : l.drop k = l[k]?.getD (0, 0) :: l.drop (k + 1) := by rw [List.getElem?_eq_getElem hlt]; exact List.drop_eq_getElem_cons hlt
        have HD := Lib.hid hdrop
        clear hdrop
        generalize l[k]?.getD (0, 0) = z at c0 c1 HD
        obtain ⟨p, q⟩ := z
        dsimp only at c0 c1
        have KA := K.alloc (.cells #[.int .i64 p, .int .i64 q] 34)
        by_cases hp : 0 ≤ p ∧ p ≤ 3
        · have w1 := Lib.hid (wi_true hp.1 hp.2)
          by_cases hq : m ≤ q ∧ q ≤ 3
          · have w2 := Lib.hid (wi_true hq.1 hq.2)
            have E : Hid (mayFrom m (l.drop k) = mayFrom (if q = 2 then 3 else q) (l.drop (k + 1))) := by
              show mayFrom _ _ = _
              rw [HD.out]; simp [mayFrom, hp, hq]
            clear hp hq
            go_wp2_with fail
            refine (f_within_is w1.out _).mono ?_
            rintro e w3 ⟨rfl, rfl⟩
            go_wp2_with fail
            refine (f_within_is w2.out _).mono ?_
            rintro e w4 ⟨rfl, rfl⟩
            by_cases h2 : q = 2
            · have t1 : (q == 2) = true := by rw [beq_iff_eq]; exact h2
              rw [if_pos h2] at E
              clear h2
              go_wp2_with fail
              go_roundw
              case rel => exact ⟨k + 1, 3, by omega, by go_num, rfl, HM.out.trans E.out, KA⟩
              case measure => simp [intOf]; omega
            · have t1 : (q == 2) = false := by rw [beq_eq_false_iff_ne]; exact h2
              rw [if_neg h2] at E
              clear h2
              go_wp2_with fail
              go_roundw
              case rel => exact ⟨k + 1, q, by omega, by go_num, rfl, HM.out.trans E.out, KA⟩
              case measure => simp [intOf]; omega
          · have w2 : Hid (wi q m 3 = false) := wi_false (by omega)
            have E : Hid (mayFrom 1 l = false) := by
              show mayFrom _ _ = _
              rw [HM.out, HD.out]; simp [mayFrom]; intro _ _ h1 h2; exact absurd ⟨h1, h2⟩ hq
            clear hp hq
            go_wp2_with fail
            refine (f_within_is w1.out _).mono ?_
            rintro e w3 ⟨rfl, rfl⟩
            go_wp2_with fail
            refine (f_within_is w2.out _).mono ?_
            rintro e w4 ⟨rfl, rfl⟩
            go_wp2_with fail
            go_ret
            exact BPost.mk E.out KA
        · have w1 : Hid (wi p 0 3 = false) := wi_false (by omega)
          have E : Hid (mayFrom 1 l = false) := by
            show mayFrom _ _ = _
            rw [HM.out, HD.out]; simp [mayFrom]; intro h1 h2; exact absurd ⟨h1, h2⟩ hp
          clear hp
          go_wp2_with fail
          refine (f_within_is w1.out _).mono ?_
          rintro e w3 ⟨rfl, rfl⟩
          go_wp2_with fail
          go_ret
          exact BPost.mk E.out KA
      · obtain rfl : k = l.length := by omega
        go_wp2_with fail
        go_ret
        exact BPost.mk (by rw [HM.out]; simp [mayFrom]) K
  · have hwi : wi (l.length : Int) 1 6 = false := wi_false (by omega)
    have HW := Lib.hid hwi
    have hm : mayB l = false := by simp [mayB, hn]
    rw [hm]
    clear hm hwi hs hn
    go_enter Try.func14, Try.ntmps14
    go_wp2_with fail
    refine (f_within_is HW.out _).mono ?_
    rintro e w1 ⟨rfl, rfl⟩
    go_wp2_with fail
    go_ret
    exact BPost.mk rfl (Kept.refl _ _)

/-- New's answer. -/
def SgFresh (s : Sg) (w : World) (e : Ending) (w' : World) : Prop := ∃ a c, e = .returned (.agg (sgC s (.slice a s.steps.length c))) ∧ Stp w' (.slice a s.steps.length c) s.steps ∧ (∀ k, (Value.slice a s.steps.length c).ownBlock = some k → w.heap.size ≤ k) ∧ Kept (fun _ => False) w w'
theorem SgFresh.mk {s t : Sg} {w w' : World} {a : Option Addr} {c : Nat} {C : Array Value} (h : s = t) (hC : C = sgC t (.slice a t.steps.length c)) (hs : Stp w' (.slice a t.steps.length c) t.steps) (hb : ∀ k, (Value.slice a t.steps.length c).ownBlock = some k → w.heap.size ≤ k) (hk : Kept (fun _ => False) w w') : SgFresh s w (.returned (.agg C)) w' := by
  subst h; subst hC; exact ⟨a, c, rfl, hs, hb, hk⟩
theorem Stp.nil (w : World) : Stp w (.slice none 0 0) [] := ⟨⟨rfl, none, 0, rfl, .inl ⟨rfl, rfl, rfl⟩⟩, fun k e => by cases e⟩
set_option maxHeartbeats 2000000 in
theorem f_new (v : Value) (l : List (Int × Int)) (w : World) (hs : Stp w v l) (hl : l.length ≤ 1000000) : Calls Try.prog 17 #[v] w (SgFresh (newOf l) w) := by
  have hn1 := heap_alloc_new w (.cells Z27 27)
  have HM : Hid (Calls Try.prog 14 #[v] (w.alloc (.cells Z27 27)) (BPost (mayB l) (w.alloc (.cells Z27 27)))) := f_may v l _ (hs.alloc _) hl
  have HR : Hid (∀ {w' : World}, Kept (fun _ => False) (w.alloc (.cells Z27 27)) w' → w'.heap[w.heap.size]? = some (.cells Z27 27 (0, 0)) ∧ ∀ X, Kept (fun _ => False) w (w'.setRow w.heap.size X)) := fun k => ⟨(k.block _ (by simp) id).trans hn1, fun X => (((Kept.refl _ w).alloc _).trans k).setRow (Nat.le_refl _) X⟩
  have HC : Hid (∀ {w' : World}, Kept (fun _ => False) (w.alloc (.cells Z27 27)) w' → Calls Try.prog 43 #[v] w' (ClPost l w')) := fun k => f_clone v l _ ((hs.alloc _).kept k) hl
  clear hn1
  obtain ⟨a, c, rfl⟩ := hs.form
  clear hs
  cases hm : mayB l with
  | false =>
    have E : Hid (newOf l = zero) := by show newOf l = _; simp [newOf, hm]
    rw [hm] at HM
    unfold Z27 at HM HR HC
    clear hm
    go_enter Try.func17, Try.ntmps17
    go_wp2_with fail
    refine HM.out.mono ?_
    rintro e w1 ⟨rfl, k1⟩
    obtain ⟨g1, hr⟩ := HR.out k1
    have G1 := Lib.hid g1
    clear g1
    go_wp2_with (first | fail | ((with_reducible refine store27 (C := #[.slice none 0 0, .int .i64 0, .int .i64 0, .int .i64 0, .bool false, .bool false, .int .i64 0, .int .i64 0, .int .i64 0, .int .i64 0]) ?_ ?_ G1.out (ten _ _ _ _ _ _ _ _ _ _) (ten _ _ _ _ _ _ _ _ _ _) (one10 _ _ _ _ _ _ _ _ _ _ _ _) ?_); rfl; rfl))
    exact bodyPost_ret (results_sg rfl _ _ _ (setRow_heap _ _ _ _ _ _ G1.out) rfl rfl) rfl (SgFresh.mk (a := none) (c := 0) E.out rfl (Stp.nil _) (fun k e => by cases e) (hr _))
  | true =>
    have hlen := mayB_len hm
    have E : Hid (newOf l = new l) := by show newOf l = _; simp [newOf, hm]
    rw [hm] at HM
    unfold Z27 at HM HR HC
    clear hm
    go_enter Try.func17, Try.ntmps17
    go_wp2_with fail
    refine HM.out.mono ?_
    rintro e w1 ⟨rfl, k1⟩
    go_wp2_with fail
    refine (HC.out k1).mono ?_
    rintro e w2 ⟨a', c', rfl, h2, ho, k2⟩
    obtain ⟨g1, hr⟩ := HR.out (k1.trans k2)
    have G1 := Lib.hid g1
    have H2 := Lib.hid h2
    have HO := Lib.hid ho
    have hsz1 : w.heap.size < w1.heap.size := by have := k1.size; simp at this; omega
    clear g1 h2 ho
    go_wp2_with (first | fail | ((with_reducible refine store27 (C := #[.slice a' l.length c', .int .i64 0, .int .i64 0, .int .i64 0, .bool false, .bool false, .int .i64 0, .int .i64 0, .int .i64 0, .int .i64 1]) ?_ ?_ G1.out (ten _ _ _ _ _ _ _ _ _ _) (ten _ _ _ _ _ _ _ _ _ _) (one10 _ _ _ _ _ _ _ _ _ _ _ _) ?_); rfl; rfl))
    have hst : Stp (w2.setRow w.heap.size #[.slice a' l.length c', .int .i64 0, .int .i64 0, .int .i64 0, .bool false, .bool false, .int .i64 0, .int .i64 0, .int .i64 0, .int .i64 1]) (.slice a' l.length c') l := by
      refine ⟨H2.out.rd.kept (S := fun k => k = w.heap.size) ⟨rfl, rfl, rfl, by simp [World.setRow], fun k _ hs => setRow_other _ _ _ _ hs⟩ (fun k e e' => ?_), fun k e => ?_⟩
      · have := HO.out k e; have e' : k = w.heap.size := e'; omega
      · have := H2.out.lt k e; simpa [World.setRow] using this
    exact bodyPost_ret (results_sg rfl _ _ _ (setRow_heap _ _ _ _ _ _ G1.out) rfl rfl) rfl (SgFresh.mk (a := a') (c := c') E.out rfl hst (fun k e => by have := HO.out k e; omega) (hr _))
end Go.Proofs.Ytklmhegmombegaa
