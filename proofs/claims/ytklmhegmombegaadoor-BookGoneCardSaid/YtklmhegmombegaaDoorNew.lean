/-
  Contracts of Clone, May, New. Conditions: as each theorem says.
  Contracts of Same and what it calls. Conditions: as each theorem says.
  Contracts of slices.Equal and Same. Conditions: as each theorem says.
  The contract of the laws' run. Conditions: as each theorem says.
-/
import Derived.Test.YtklmhegmombegaaDoorBack
import Derived.Test.YtklmhegmombegaaDoorGoY
import Derived.Test.YtklmhegmombegaaDoorPlain
set_option linter.unusedVariables false
set_option linter.unusedSimpArgs false
namespace Go.Proofs.YtklmhegmombegaaDoor.Re
open Go Go.RowKit Go.Proofs.YtklmhegmombegaaDoor.Re.Plain Go.Proofs.YtklmhegmombegaaDoor

theorem Tryd.ifull115 : (Tryd.prog.info? 115).map (fun i => (i.size, i.bytes, i.zero)) = some (2, 16, some (.agg #[.int .i64 0, .int .i64 0])) := by kernel_rfl
theorem info115' : ∃ i, Tryd.prog.info? 115 = some i ∧ i.size = 2 ∧ i.bytes = 16 ∧ i.zero = some (.agg #[.int .i64 0, .int .i64 0]) := by
  obtain ⟨i, hi, hb⟩ := Option.map_eq_some_iff.1 Tryd.ifull115
  simp only [Prod.mk.injEq] at hb
  exact ⟨i, hi, hb.1, hb.2.1, hb.2.2⟩
theorem oneCell_flat2 (l : List (Int × Int)) : ∀ u ∈ flat2 l, u.oneCell' = true := by
  intro u hu
  obtain ⟨x, _, hu⟩ := List.mem_flatMap.1 hu
  simp at hu
  rcases hu with rfl | rfl <;> rfl
theorem _root_.Go.Proofs.YtklmhegmombegaaDoor.Buf.stp {w : World} {base : Nat} {v : Value} {l : List (Int × Int)} (h : Buf w base 115 2 v l.length (flat2 l)) : Stp w v l := ⟨h.rd, fun k e => (h.lt k e).2⟩

/-- Steps are handed back. -/
def ClPost (l : List (Int × Int)) (w : World) (e : Ending) (w' : World) : Prop := ∃ a c, e = .returned (.slice a l.length c) ∧ Stp w' (.slice a l.length c) l ∧ (∀ k, (Value.slice a l.length c).ownBlock = some k → w.heap.size ≤ k) ∧ Kept (fun _ => False) w w'
set_option maxHeartbeats 1000000 in
theorem f_clone (v : Value) (l : List (Int × Int)) (w : World) (hs : Stp w v l) (hl : l.length ≤ 1000000) : Calls Tryd.prog 78 #[v] w (ClPost l w) := by
  obtain ⟨i, hi, hsz, hby, hz⟩ := info115'
  obtain ⟨a, c, rfl⟩ := hs.form
  have HS := Lib.hid hs
  cases a with
  | none =>
    have h0 : l.length = 0 ∧ c = 0 := by
      obtain ⟨_, a', c', e, h⟩ := hs.rd
      injection e with e1 e2 e3
      subst e1; subst e3
      rcases h with h | ⟨ad, h, _⟩
      · exact ⟨h.2.1, h.2.2⟩
      · cases h
    obtain ⟨h0, rfl⟩ := h0
    have HL := Lib.hid h0
    have hnil := fun w' (a : Option Addr) (n c : Nat) => Lib.run_eql_slice_nil (P := Tryd.prog) w' 27 115 a n c 0 0 Tryd.underlying27
    go_enter Tryd.func78, Tryd.ntmps78
    go_wp2_with fail
    go_ret
    exact ⟨none, 0, (by rw [HL.out]; rfl), HS.out, (fun k e => by cases e), Kept.refl _ _⟩
  | some ad =>
    have hnil := fun w' (a : Option Addr) (n c : Nat) => Lib.run_eql_slice_nil (P := Tryd.prog) w' 27 115 a n c 0 0 Tryd.underlying27
    have hn1 := heap_alloc_new w (.cells #[] 115)
    have hb1 : Buf (w.alloc (.cells #[] 115)) w.heap.size 115 2 (.slice (some ⟨w.heap.size, 0, none⟩) 0 0) 0 [] := ⟨rfl, .inr ⟨w.heap.size, 0, #[], rfl, Nat.le_refl _, hn1, Nat.le_refl _, by decide, by simp, rfl⟩⟩
    have hsrc : Src Tryd.prog 2 27 (.slice (some ad) l.length c) l.length (flat2 l) (w.alloc (.cells #[] 115)) := (hs.alloc _).rd.src Tryd.underlying27 (oneCell_flat2 l)
    have HB := Lib.hid hb1
    have HSR := Lib.hid hsrc
    clear hs hn1 hb1 hsrc
    go_enter Tryd.func78, Tryd.ntmps78
    go_wp2_with (first | fail | (at_builtin; refine wpList_append_buf _ rfl (.tmp 5) (.tmp 6) 27 27 rfl w.heap.size 115 i (.agg #[.int .i64 0, .int .i64 0]) 2 16 Tryd.underlying27 hi hz hsz hby rfl (by decide) (.slice (some ⟨w.heap.size, 0, none⟩) 0 0) 0 [] rfl HB.out _ _ _ rfl HSR.out (by unfold maxLen; omega) (by omega) (by simp) ?_; intro v' w' hb' hg' ho' hn'; have HB2 := Lib.hid hb'; have HG2 := Lib.hid hg'; clear hb' hg' ho' hn'))
    go_ret
    have hb2 : Buf w' w.heap.size 115 2 v' l.length (flat2 l) := by simpa using HB2.out
    obtain ⟨a', c', rfl, _⟩ := hb2.form
    exact ⟨a', c', rfl, hb2.stp, (fun k e => (hb2.lt k e).1), ((Kept.refl _ w).alloc _).grown HG2.out (fun k hk => .inr (by cases hk; exact Nat.le_refl _))⟩

/-- May's answer. -/
def BPost (b : Bool) (w : World) (e : Ending) (w' : World) : Prop := e = .returned (.bool b) ∧ Kept (fun _ => False) w w'
theorem BPost.mk {b b' : Bool} {w w' : World} (h : b = b') (hk : Kept (fun _ => False) w w') : BPost b w (.returned (.bool b')) w' := by subst h; exact ⟨rfl, hk⟩
set_option maxHeartbeats 2000000 in
theorem f_may (v : Value) (l : List (Int × Int)) (w : World) (hs : Stp w v l) (hl : l.length ≤ 1000000) : Calls Tryd.prog 136 #[v] w (BPost (mayB l) w) := by
  obtain ⟨a, c, rfl⟩ := hs.form
  by_cases hn : 1 ≤ l.length ∧ l.length ≤ 6
  · have hwi : wi (l.length : Int) 1 6 = true := wi_true (by omega) (by omega)
    have HW := Lib.hid hwi
    have HS := Lib.hid hs
    obtain ⟨b, o, c', ev, hc⟩ := hs.rd.addr (by omega)
    simp only [Value.slice.injEq, true_and] at ev
    obtain ⟨rfl, rfl⟩ := ev
    have HC : Hid (∀ k, k < l.length → ∀ {w' : World}, Kept (fun _ => False) w w' → w'.cell? ⟨b, o + k * 2, none⟩ = some (.int .i64 (l[k]?.getD (0, 0)).1) ∧ w'.cell? ⟨b, o + k * 2 + 1, none⟩ = some (.int .i64 (l[k]?.getD (0, 0)).2)) := fun k hk w' K => by
      obtain ⟨g1, g2⟩ := flat2_get hk
      have e1 := hc _ _ g1
      have e2 := hc _ _ g2
      rw [← Nat.add_assoc] at e2
      rw [List.getElem?_eq_getElem hk]
      have hbl := hs.lt b rfl
      exact ⟨(K.cell (p := ⟨b, o + k * 2, none⟩) hbl id).trans e1, (K.cell (p := ⟨b, o + k * 2 + 1, none⟩) hbl id).trans e2⟩
    have hm : mayB l = mayFrom 1 l := by simp [mayB, hn]
    rw [hm]
    clear hm hwi hs hc
    go_enter Tryd.func136, Tryd.ntmps136
    go_wp2_with fail
    refine (f_within_is HW.out _).mono ?_
    rintro e w1 ⟨rfl, rfl⟩
    go_wp2_with fail
    go_loopw [3, 12] (fun last i wr => ∃ (k : Nat) (m : Int), k ≤ l.length ∧ i = .int .i64 k ∧ last = .int .i64 m ∧ mayFrom 1 l = mayFrom m (l.drop k) ∧ Kept (fun _ => False) w wr) (fun _ i _ => l.length - (intOf i).toNat)
    case atStart => exact ⟨0, 1, Nat.zero_le _, rfl, rfl, rfl, Kept.refl _ _⟩
    case round =>
      obtain ⟨k, m, hk, rfl, rfl, hmf, K⟩ := hrel
      have HM := Lib.hid hmf
      clear hmf
      by_cases hlt : k < l.length
      · obtain ⟨c0, c1⟩ := HC.out k hlt K
        have hdrop : l.drop k = l[k]?.getD (0, 0) :: l.drop (k + 1) := by rw [List.getElem?_eq_getElem hlt]; exact List.drop_eq_getElem_cons hlt
        have HD := Lib.hid hdrop
        clear hdrop
        generalize l[k]?.getD (0, 0) = z at c0 c1 HD
        obtain ⟨p, q⟩ := z
        dsimp only at c0 c1
        have KA := K.alloc (.cells #[.int .i64 p, .int .i64 q] 115)
        by_cases hp : 0 ≤ p ∧ p ≤ 3
        · have w1 := Lib.hid (wi_true hp.1 hp.2)
          by_cases hq : m ≤ q ∧ q ≤ 3
          · have w2 := Lib.hid (wi_true hq.1 hq.2)
            have E : Hid (mayFrom m (l.drop k) = mayFrom (if q = 2 then 3 else q) (l.drop (k + 1))) := by
              show mayFrom _ _ = _
              rw [HD.out]; simp [mayFrom, hp, hq]
            clear hp hq
            go_wp2_with fail
            refine (f_within_is w1.out _).mono ?_
            rintro e w3 ⟨rfl, rfl⟩
            go_wp2_with fail
            refine (f_within_is w2.out _).mono ?_
            rintro e w4 ⟨rfl, rfl⟩
            by_cases h2 : q = 2
            · have t1 : (q == 2) = true := by rw [beq_iff_eq]; exact h2
              rw [if_pos h2] at E
              clear h2
              go_wp2_with fail
              go_roundw
              case rel => exact ⟨k + 1, 3, by omega, by go_num, rfl, HM.out.trans E.out, KA⟩
              case measure => simp [intOf]; omega
            · have t1 : (q == 2) = false := by rw [beq_eq_false_iff_ne]; exact h2
              rw [if_neg h2] at E
              clear h2
              go_wp2_with fail
              go_roundw
              case rel => exact ⟨k + 1, q, by omega, by go_num, rfl, HM.out.trans E.out, KA⟩
              case measure => simp [intOf]; omega
          · have w2 : Hid (wi q m 3 = false) := wi_false (by omega)
            have E : Hid (mayFrom 1 l = false) := by
              show mayFrom _ _ = _
              rw [HM.out, HD.out]; simp [mayFrom]; intro _ _ h1 h2; exact absurd ⟨h1, h2⟩ hq
            clear hp hq
            go_wp2_with fail
            refine (f_within_is w1.out _).mono ?_
            rintro e w3 ⟨rfl, rfl⟩
            go_wp2_with fail
            refine (f_within_is w2.out _).mono ?_
            rintro e w4 ⟨rfl, rfl⟩
            go_wp2_with fail
            go_ret
            exact BPost.mk E.out KA
        · have w1 : Hid (wi p 0 3 = false) := wi_false (by omega)
          have E : Hid (mayFrom 1 l = false) := by
            show mayFrom _ _ = _
            rw [HM.out, HD.out]; simp [mayFrom]; intro h1 h2; exact absurd ⟨h1, h2⟩ hp
          clear hp
          go_wp2_with fail
          refine (f_within_is w1.out _).mono ?_
          rintro e w3 ⟨rfl, rfl⟩
          go_wp2_with fail
          go_ret
          exact BPost.mk E.out KA
      · obtain rfl : k = l.length := by omega
        go_wp2_with fail
        go_ret
        exact BPost.mk (by rw [HM.out]; simp [mayFrom]) K
  · have hwi : wi (l.length : Int) 1 6 = false := wi_false (by omega)
    have HW := Lib.hid hwi
    have hm : mayB l = false := by simp [mayB, hn]
    rw [hm]
    clear hm hwi hs hn
    go_enter Tryd.func136, Tryd.ntmps136
    go_wp2_with fail
    refine (f_within_is HW.out _).mono ?_
    rintro e w1 ⟨rfl, rfl⟩
    go_wp2_with fail
    go_ret
    exact BPost.mk rfl (Kept.refl _ _)

/-- New's answer. -/
def SgFresh (s : Sg) (w : World) (e : Ending) (w' : World) : Prop := ∃ a c, e = .returned (.agg (sgC s (.slice a s.steps.length c))) ∧ Stp w' (.slice a s.steps.length c) s.steps ∧ (∀ k, (Value.slice a s.steps.length c).ownBlock = some k → w.heap.size ≤ k) ∧ Kept (fun _ => False) w w'
theorem SgFresh.mk {s t : Sg} {w w' : World} {a : Option Addr} {c : Nat} {C : Array Value} (h : s = t) (hC : C = sgC t (.slice a t.steps.length c)) (hs : Stp w' (.slice a t.steps.length c) t.steps) (hb : ∀ k, (Value.slice a t.steps.length c).ownBlock = some k → w.heap.size ≤ k) (hk : Kept (fun _ => False) w w') : SgFresh s w (.returned (.agg C)) w' := by
  subst h; subst hC; exact ⟨a, c, rfl, hs, hb, hk⟩
set_option maxHeartbeats 2000000 in
theorem f_new (v : Value) (l : List (Int × Int)) (w : World) (hs : Stp w v l) (hl : l.length ≤ 1000000) : Calls Tryd.prog 138 #[v] w (SgFresh (newOf l) w) := by
  have hn1 := heap_alloc_new w (.cells Z133 133)
  have HM : Hid (Calls Tryd.prog 136 #[v] (w.alloc (.cells Z133 133)) (BPost (mayB l) (w.alloc (.cells Z133 133)))) := f_may v l _ (hs.alloc _) hl
  have HR : Hid (∀ {w' : World}, Kept (fun _ => False) (w.alloc (.cells Z133 133)) w' → w'.heap[w.heap.size]? = some (.cells Z133 133 (0, 0)) ∧ ∀ X, Kept (fun _ => False) w (w'.setRow w.heap.size X)) := fun k => ⟨(k.block _ (by simp) id).trans hn1, fun X => (((Kept.refl _ w).alloc _).trans k).setRow (Nat.le_refl _) X⟩
  have HC : Hid (∀ {w' : World}, Kept (fun _ => False) (w.alloc (.cells Z133 133)) w' → Calls Tryd.prog 78 #[v] w' (ClPost l w')) := fun k => f_clone v l _ ((hs.alloc _).kept k) hl
  clear hn1
  obtain ⟨a, c, rfl⟩ := hs.form
  clear hs
  cases hm : mayB l with
  | false =>
    have E : Hid (newOf l = zero) := by show newOf l = _; simp [newOf, hm]
    rw [hm] at HM
    unfold Z133 at HM HR HC
    clear hm
    go_enter Tryd.func138, Tryd.ntmps138
    go_wp2_with fail
    refine HM.out.mono ?_
    rintro e w1 ⟨rfl, k1⟩
    obtain ⟨g1, hr⟩ := HR.out k1
    have G1 := Lib.hid g1
    clear g1
    go_wp2_with (first | fail | ((with_reducible refine store133 (C := #[.slice none 0 0, .int .i64 0, .int .i64 0, .int .i64 0, .bool false, .bool false, .int .i64 0, .int .i64 0, .int .i64 0, .int .i64 0]) ?_ ?_ G1.out (ten _ _ _ _ _ _ _ _ _ _) (ten _ _ _ _ _ _ _ _ _ _) (one10 _ _ _ _ _ _ _ _ _ _ _ _) ?_); rfl; rfl))
    exact bodyPost_ret (results_sg rfl _ _ _ (setRow_heap _ _ _ _ _ _ G1.out) rfl rfl) rfl (SgFresh.mk (a := none) (c := 0) E.out rfl (Stp.nil _) (fun k e => by cases e) (hr _))
  | true =>
    have hlen := mayB_len hm
    have E : Hid (newOf l = new l) := by show newOf l = _; simp [newOf, hm]
    rw [hm] at HM
    unfold Z133 at HM HR HC
    clear hm
    go_enter Tryd.func138, Tryd.ntmps138
    go_wp2_with fail
    refine HM.out.mono ?_
    rintro e w1 ⟨rfl, k1⟩
    go_wp2_with fail
    refine (HC.out k1).mono ?_
    rintro e w2 ⟨a', c', rfl, h2, ho, k2⟩
    obtain ⟨g1, hr⟩ := HR.out (k1.trans k2)
    have G1 := Lib.hid g1
    have H2 := Lib.hid h2
    have HO := Lib.hid ho
    have hsz1 : w.heap.size < w1.heap.size := by have := k1.size; simp at this; omega
    clear g1 h2 ho
    go_wp2_with (first | fail | ((with_reducible refine store133 (C := #[.slice a' l.length c', .int .i64 0, .int .i64 0, .int .i64 0, .bool false, .bool false, .int .i64 0, .int .i64 0, .int .i64 0, .int .i64 1]) ?_ ?_ G1.out (ten _ _ _ _ _ _ _ _ _ _) (ten _ _ _ _ _ _ _ _ _ _) (one10 _ _ _ _ _ _ _ _ _ _ _ _) ?_); rfl; rfl))
    have hst : Stp (w2.setRow w.heap.size #[.slice a' l.length c', .int .i64 0, .int .i64 0, .int .i64 0, .bool false, .bool false, .int .i64 0, .int .i64 0, .int .i64 0, .int .i64 1]) (.slice a' l.length c') l := by
      refine ⟨H2.out.rd.kept (S := fun k => k = w.heap.size) ⟨rfl, rfl, rfl, by simp [World.setRow], fun k _ hs => setRow_other _ _ _ _ hs⟩ (fun k e e' => ?_), fun k e => ?_⟩
      · have := HO.out k e; have e' : k = w.heap.size := e'; omega
      · have := H2.out.lt k e; simpa [World.setRow] using this
    exact bodyPost_ret (results_sg rfl _ _ _ (setRow_heap _ _ _ _ _ _ G1.out) rfl rfl) rfl (SgFresh.mk (a := a') (c := c') E.out rfl hst (fun k e => by have := HO.out k e; omega) (hr _))
end Go.Proofs.YtklmhegmombegaaDoor.Re
namespace Go.Proofs.YtklmhegmombegaaDoor.Re
open Go Go.RowKit Go.Proofs.YtklmhegmombegaaDoor.Re.Plain Go.Proofs.YtklmhegmombegaaDoor

def bitI (b : Bool) : Int := if b = true then 1 else 0
theorem f_bit (b : Bool) (w : World) : Calls Tryd.prog 128 #[.bool b] w fun e w' => e = .returned (.int .i64 (bitI b)) ∧ w = w' := by
  cases b with
  | true =>
    go_enter Tryd.func128, Tryd.ntmps128
    go_wp2_with fail
    go_ret
    exact ⟨rfl, rfl⟩
  | false =>
    go_enter Tryd.func128, Tryd.ntmps128
    go_wp2_with fail
    go_ret
    exact ⟨rfl, rfl⟩

noncomputable def store160Of (p v : Value) : Sem Unit := Instr.storeAt 160 p v
theorem store160_fold (p v : Value) : Instr.storeAt 160 p v = store160Of p v := rfl
theorem Tryd.isz160 : (Tryd.prog.info? 160).map (·.size) = some 10 := by kernel_rfl
theorem store160_of {w : World} {g : Nat} {old C : Array Value} {t : TypeId} (hg : w.heap[g]? = some (.cells old t (0, 0))) (ho : old.size = 10) (hC : C.size = 10) (h1 : C.all (·.oneCell') = true) :
    (store160Of (.pointer (some ⟨g, 0, none⟩)) (.agg C)).run Tryd.prog w = .ok () (w.setRow g C) := by
  unfold store160Of Instr.storeAt
  simp only [Instr.sureAddr, Sem.run_bind, Sem.run_pure, Result.andThen_ok, run_storeVar_row (P := Tryd.prog) w g t 160 old C hg (by rw [Tryd.isz160, hC]) (by rw [ho, hC]) h1]
theorem ones10 (a b c d e f g h i j : Int) : (#[.int .i64 a, .int .i64 b, .int .i64 c, .int .i64 d, .int .i64 e, .int .i64 f, .int .i64 g, .int .i64 h, .int .i64 i, .int .i64 j] : Array Value).all (·.oneCell') = true := by simp [Value.oneCell']
/-- A saga in ten numbers. -/
def tenOf (s : Sg) : List Int := [s.phase, s.pos, s.tries, bitI s.wait, bitI s.back, s.done, s.undone, s.may, s.seq, s.steps.length]
def tenV (l : List Int) : Value := .agg (l.map (Value.int .i64)).toArray
theorem results_ten {fn : Func} {p : Tmp} (h : fn.results = #[.cell p 160]) (tmps : Array Value) (w : World) (g : Nat) {C : Array Value} {ty : TypeId} {fr : Nat × Nat}
    (hg : w.heap[g]? = some (.cells C ty fr)) (hC : C.size = 10) (hp : tmps.getD p undef = .pointer (some ⟨g, 0, none⟩)) :
    (results fn tmps).run Tryd.prog w = .ok (.agg C) w := by
  have hp' : tmps[p]?.getD undef = .pointer (some ⟨g, 0, none⟩) := by simpa using hp
  simp [results, h, hp', asAddr, run_loadVar_row (P := Tryd.prog) w g ty 160 C fr _ hg Tryd.underlying160 rfl (by rw [Tryd.isz160, hC])]
attribute [local go_sem ↓] store160_fold
set_option maxRecDepth 100000 in
set_option maxHeartbeats 4000000 in
theorem f_plain (s : Sg) (v : Value) (w : World) (hv : ∃ a c, v = .slice a s.steps.length c) : Calls Tryd.prog 106 #[.agg (sgC s v)] w fun e w' => e = .returned (tenV (tenOf s)) ∧ Kept (fun _ => False) w w' := by
  obtain ⟨a, c, rfl⟩ := hv
  obtain ⟨st, ph, po, tr, wt, bk, dn, un, my, sq⟩ := s
  unfold sgC tenV tenOf
  dsimp only
  have Z : Array Value := #[]
  have g0 := heap_alloc2_old w (.cells #[.slice a st.length c, .int .i64 ph, .int .i64 po, .int .i64 tr, .bool wt, .bool bk, .int .i64 dn, .int .i64 un, .int .i64 my, .int .i64 sq] 133) (.cells #[.int .i64 0, .int .i64 0, .int .i64 0, .int .i64 0, .int .i64 0, .int .i64 0, .int .i64 0, .int .i64 0, .int .i64 0, .int .i64 0] 160)
  have g1 := heap_alloc2_new w (.cells #[.slice a st.length c, .int .i64 ph, .int .i64 po, .int .i64 tr, .bool wt, .bool bk, .int .i64 dn, .int .i64 un, .int .i64 my, .int .i64 sq] 133) (.cells #[.int .i64 0, .int .i64 0, .int .i64 0, .int .i64 0, .int .i64 0, .int .i64 0, .int .i64 0, .int .i64 0, .int .i64 0, .int .i64 0] 160)
  have K2 := ((Kept.refl (fun _ => False) w).alloc (.cells #[.slice a st.length c, .int .i64 ph, .int .i64 po, .int .i64 tr, .bool wt, .bool bk, .int .i64 dn, .int .i64 un, .int .i64 my, .int .i64 sq] 133)).alloc (.cells #[.int .i64 0, .int .i64 0, .int .i64 0, .int .i64 0, .int .i64 0, .int .i64 0, .int .i64 0, .int .i64 0, .int .i64 0, .int .i64 0] 160)
  go_enter Tryd.func106, Tryd.ntmps106
  go_upto_region 2 with (fail)
  generalize (w.alloc (.cells #[.slice a st.length c, .int .i64 ph, .int .i64 po, .int .i64 tr, .bool wt, .bool bk, .int .i64 dn, .int .i64 un, .int .i64 my, .int .i64 sq] 133)).alloc (.cells #[.int .i64 0, .int .i64 0, .int .i64 0, .int .i64 0, .int .i64 0, .int .i64 0, .int .i64 0, .int .i64 0, .int .i64 0, .int .i64 0] 160) = w2 at g0 g1 K2 ⊢
  have HG : Hid (∀ {w' : World}, Kept (fun k => k = w.heap.size + 1) w2 w' → w'.heap[w.heap.size]? = some (.cells #[.slice a st.length c, .int .i64 ph, .int .i64 po, .int .i64 tr, .bool wt, .bool bk, .int .i64 dn, .int .i64 un, .int .i64 my, .int .i64 sq] 133 (0, 0))) := fun k => (k.block _ (Array.getElem?_eq_some_iff.1 g0).1 (by show ¬ _ = _; omega)).trans g0
  have HG2 : Hid (w2.drew.heap[w.heap.size + 1]? = some (.cells #[.int .i64 0, .int .i64 0, .int .i64 0, .int .i64 0, .int .i64 0, .int .i64 0, .int .i64 0, .int .i64 0, .int .i64 0, .int .i64 0] 160 (0, 0))) := g1
  have hd : Kept (fun k => k = w.heap.size + 1) w2 w2.drew := (Kept.refl _ _).drew
  have KW := Lib.hid K2
  clear g0 g1 K2 Z
  refine wp_region_held_drew (S := fun w' => Kept (fun k => k = w.heap.size + 1) w2 w') (by kernel_rfl) hd (fun hHeld => ?_)
  refine wpAnyH_take (i := 0) (oi := ⟨some 4, _, _, _, _, _⟩) (v := .pointer (some ⟨w.heap.size, 1, none⟩)) rfl (by kernel_rfl) (by kernel_rfl) (by kernel_rfl) (fun _ _ _ h => h) (Or.inl ⟨by kernel_rfl, fun w hS => by go_simp⟩) (by assumption) ?_
  try simp only [Act.put, List.setIfInBounds_toArray, List.set_cons_succ, List.set_cons_zero]
  refine wpAnyH_take (i := 1) (oi := ⟨some 5, _, _, _, _, _⟩) (v := .int .i64 ph) rfl (by kernel_rfl) (by kernel_rfl) (by kernel_rfl) (fun _ _ _ h => h) (Or.inl ⟨by kernel_rfl, fun w hS => by have hc := ((cells10 (HG.out hS)).2.1); go_simp⟩) (by assumption) ?_
  try simp only [Act.put, List.setIfInBounds_toArray, List.set_cons_succ, List.set_cons_zero]
  refine wpAnyH_take (i := 2) (oi := ⟨some 6, _, _, _, _, _⟩) (v := .pointer (some ⟨w.heap.size, 2, none⟩)) rfl (by kernel_rfl) (by kernel_rfl) (by kernel_rfl) (fun _ _ _ h => h) (Or.inl ⟨by kernel_rfl, fun w hS => by go_simp⟩) (by assumption) ?_
  try simp only [Act.put, List.setIfInBounds_toArray, List.set_cons_succ, List.set_cons_zero]
  refine wpAnyH_take (i := 3) (oi := ⟨some 7, _, _, _, _, _⟩) (v := .int .i64 po) rfl (by kernel_rfl) (by kernel_rfl) (by kernel_rfl) (fun _ _ _ h => h) (Or.inl ⟨by kernel_rfl, fun w hS => by have hc := ((cells10 (HG.out hS)).2.2.1); go_simp⟩) (by assumption) ?_
  try simp only [Act.put, List.setIfInBounds_toArray, List.set_cons_succ, List.set_cons_zero]
  refine wpAnyH_take (i := 4) (oi := ⟨some 8, _, _, _, _, _⟩) (v := .pointer (some ⟨w.heap.size, 3, none⟩)) rfl (by kernel_rfl) (by kernel_rfl) (by kernel_rfl) (fun _ _ _ h => h) (Or.inl ⟨by kernel_rfl, fun w hS => by go_simp⟩) (by assumption) ?_
  try simp only [Act.put, List.setIfInBounds_toArray, List.set_cons_succ, List.set_cons_zero]
  refine wpAnyH_take (i := 5) (oi := ⟨some 9, _, _, _, _, _⟩) (v := .int .i64 tr) rfl (by kernel_rfl) (by kernel_rfl) (by kernel_rfl) (fun _ _ _ h => h) (Or.inl ⟨by kernel_rfl, fun w hS => by have hc := ((cells10 (HG.out hS)).2.2.2.1); go_simp⟩) (by assumption) ?_
  try simp only [Act.put, List.setIfInBounds_toArray, List.set_cons_succ, List.set_cons_zero]
  refine wpAnyH_take (i := 6) (oi := ⟨some 10, _, _, _, _, _⟩) (v := .func (.func 128) #[] #[]) rfl (by kernel_rfl) (by kernel_rfl) (by kernel_rfl) (fun _ _ _ h => h) (Or.inl ⟨by kernel_rfl, fun w hS => by go_simp⟩) (by assumption) ?_
  try simp only [Act.put, List.setIfInBounds_toArray, List.set_cons_succ, List.set_cons_zero]
  refine wpAnyH_take (i := 7) (oi := ⟨some 11, _, _, _, _, _⟩) (v := .pointer (some ⟨w.heap.size, 4, none⟩)) rfl (by kernel_rfl) (by kernel_rfl) (by kernel_rfl) (fun _ _ _ h => h) (Or.inl ⟨by kernel_rfl, fun w hS => by go_simp⟩) (by assumption) ?_
  try simp only [Act.put, List.setIfInBounds_toArray, List.set_cons_succ, List.set_cons_zero]
  refine wpAnyH_take (i := 8) (oi := ⟨some 12, _, _, _, _, _⟩) (v := .bool wt) rfl (by kernel_rfl) (by kernel_rfl) (by kernel_rfl) (fun _ _ _ h => h) (Or.inl ⟨by kernel_rfl, fun w hS => by have hc := ((cells10 (HG.out hS)).2.2.2.2.1); go_simp⟩) (by assumption) ?_
  try simp only [Act.put, List.setIfInBounds_toArray, List.set_cons_succ, List.set_cons_zero]
  refine wpAnyH_take (i := 10) (oi := ⟨some 14, _, _, _, _, _⟩) (v := .func (.func 128) #[] #[]) rfl (by kernel_rfl) (by kernel_rfl) (by kernel_rfl) (fun _ _ _ h => h) (Or.inl ⟨by kernel_rfl, fun w hS => by go_simp⟩) (by assumption) ?_
  try simp only [Act.put, List.setIfInBounds_toArray, List.set_cons_succ, List.set_cons_zero]
  refine wpAnyH_take (i := 11) (oi := ⟨some 15, _, _, _, _, _⟩) (v := .pointer (some ⟨w.heap.size, 5, none⟩)) rfl (by kernel_rfl) (by kernel_rfl) (by kernel_rfl) (fun _ _ _ h => h) (Or.inl ⟨by kernel_rfl, fun w hS => by go_simp⟩) (by assumption) ?_
  try simp only [Act.put, List.setIfInBounds_toArray, List.set_cons_succ, List.set_cons_zero]
  refine wpAnyH_take (i := 12) (oi := ⟨some 16, _, _, _, _, _⟩) (v := .bool bk) rfl (by kernel_rfl) (by kernel_rfl) (by kernel_rfl) (fun _ _ _ h => h) (Or.inl ⟨by kernel_rfl, fun w hS => by have hc := ((cells10 (HG.out hS)).2.2.2.2.2.1); go_simp⟩) (by assumption) ?_
  try simp only [Act.put, List.setIfInBounds_toArray, List.set_cons_succ, List.set_cons_zero]
  refine wpAnyH_take (i := 14) (oi := ⟨some 18, _, _, _, _, _⟩) (v := .pointer (some ⟨w.heap.size, 6, none⟩)) rfl (by kernel_rfl) (by kernel_rfl) (by kernel_rfl) (fun _ _ _ h => h) (Or.inl ⟨by kernel_rfl, fun w hS => by go_simp⟩) (by assumption) ?_
  try simp only [Act.put, List.setIfInBounds_toArray, List.set_cons_succ, List.set_cons_zero]
  refine wpAnyH_take (i := 15) (oi := ⟨some 19, _, _, _, _, _⟩) (v := .int .i64 dn) rfl (by kernel_rfl) (by kernel_rfl) (by kernel_rfl) (fun _ _ _ h => h) (Or.inl ⟨by kernel_rfl, fun w hS => by have hc := ((cells10 (HG.out hS)).2.2.2.2.2.2.1); go_simp⟩) (by assumption) ?_
  try simp only [Act.put, List.setIfInBounds_toArray, List.set_cons_succ, List.set_cons_zero]
  refine wpAnyH_take (i := 16) (oi := ⟨some 20, _, _, _, _, _⟩) (v := .pointer (some ⟨w.heap.size, 7, none⟩)) rfl (by kernel_rfl) (by kernel_rfl) (by kernel_rfl) (fun _ _ _ h => h) (Or.inl ⟨by kernel_rfl, fun w hS => by go_simp⟩) (by assumption) ?_
  try simp only [Act.put, List.setIfInBounds_toArray, List.set_cons_succ, List.set_cons_zero]
  refine wpAnyH_take (i := 17) (oi := ⟨some 21, _, _, _, _, _⟩) (v := .int .i64 un) rfl (by kernel_rfl) (by kernel_rfl) (by kernel_rfl) (fun _ _ _ h => h) (Or.inl ⟨by kernel_rfl, fun w hS => by have hc := ((cells10 (HG.out hS)).2.2.2.2.2.2.2.1); go_simp⟩) (by assumption) ?_
  try simp only [Act.put, List.setIfInBounds_toArray, List.set_cons_succ, List.set_cons_zero]
  refine wpAnyH_take (i := 18) (oi := ⟨some 22, _, _, _, _, _⟩) (v := .pointer (some ⟨w.heap.size, 8, none⟩)) rfl (by kernel_rfl) (by kernel_rfl) (by kernel_rfl) (fun _ _ _ h => h) (Or.inl ⟨by kernel_rfl, fun w hS => by go_simp⟩) (by assumption) ?_
  try simp only [Act.put, List.setIfInBounds_toArray, List.set_cons_succ, List.set_cons_zero]
  refine wpAnyH_take (i := 19) (oi := ⟨some 23, _, _, _, _, _⟩) (v := .int .i64 my) rfl (by kernel_rfl) (by kernel_rfl) (by kernel_rfl) (fun _ _ _ h => h) (Or.inl ⟨by kernel_rfl, fun w hS => by have hc := ((cells10 (HG.out hS)).2.2.2.2.2.2.2.2.1); go_simp⟩) (by assumption) ?_
  try simp only [Act.put, List.setIfInBounds_toArray, List.set_cons_succ, List.set_cons_zero]
  refine wpAnyH_take (i := 20) (oi := ⟨some 24, _, _, _, _, _⟩) (v := .pointer (some ⟨w.heap.size, 9, none⟩)) rfl (by kernel_rfl) (by kernel_rfl) (by kernel_rfl) (fun _ _ _ h => h) (Or.inl ⟨by kernel_rfl, fun w hS => by go_simp⟩) (by assumption) ?_
  try simp only [Act.put, List.setIfInBounds_toArray, List.set_cons_succ, List.set_cons_zero]
  refine wpAnyH_take (i := 21) (oi := ⟨some 25, _, _, _, _, _⟩) (v := .int .i64 sq) rfl (by kernel_rfl) (by kernel_rfl) (by kernel_rfl) (fun _ _ _ h => h) (Or.inl ⟨by kernel_rfl, fun w hS => by have hc := ((cells10 (HG.out hS)).2.2.2.2.2.2.2.2.2); go_simp⟩) (by assumption) ?_
  try simp only [Act.put, List.setIfInBounds_toArray, List.set_cons_succ, List.set_cons_zero]
  refine wpAnyH_take (i := 22) (oi := ⟨some 26, _, _, _, _, _⟩) (v := .pointer (some ⟨w.heap.size, 0, none⟩)) rfl (by kernel_rfl) (by kernel_rfl) (by kernel_rfl) (fun _ _ _ h => h) (Or.inl ⟨by kernel_rfl, fun w hS => by go_simp⟩) (by assumption) ?_
  try simp only [Act.put, List.setIfInBounds_toArray, List.set_cons_succ, List.set_cons_zero]
  refine wpAnyH_take (i := 23) (oi := ⟨some 27, _, _, _, _, _⟩) (v := .slice a st.length c) rfl (by kernel_rfl) (by kernel_rfl) (by kernel_rfl) (fun _ _ _ h => h) (Or.inl ⟨by kernel_rfl, fun w hS => by have hc := ((cells10 (HG.out hS)).1); go_simp⟩) (by assumption) ?_
  try simp only [Act.put, List.setIfInBounds_toArray, List.set_cons_succ, List.set_cons_zero]
  refine wpAnyH_take (i := 24) (oi := ⟨some 28, _, _, _, _, _⟩) (v := .int .i64 st.length) rfl (by kernel_rfl) (by kernel_rfl) (by kernel_rfl) (fun _ _ _ h => h) (Or.inl ⟨by kernel_rfl, fun w hS => by go_simp⟩) (by assumption) ?_
  try simp only [Act.put, List.setIfInBounds_toArray, List.set_cons_succ, List.set_cons_zero]
  refine wpAnyH_ready (rs := [9]) (by kernel_rfl) (by simp) ?_
  refine AllReadyH.cons (o := _) rfl (fun K hK => ?_) AllReadyH.nil
  go_simp
  refine (f_bit _ _).mono ?_
  rintro e wx ⟨rfl, rfl⟩
  go_wp2_with fail
  refine hK.out _ _ hd (fun hHeld => ?_)
  clear hK K
  try simp only [Act.put, List.setIfInBounds_toArray, List.set_cons_succ, List.set_cons_zero]
  refine wpAnyH_ready (rs := [13]) (by kernel_rfl) (by simp) ?_
  refine AllReadyH.cons (o := _) rfl (fun K hK => ?_) AllReadyH.nil
  go_simp
  refine (f_bit _ _).mono ?_
  rintro e wx ⟨rfl, rfl⟩
  go_wp2_with fail
  refine hK.out _ _ hd (fun hHeld => ?_)
  clear hK K
  try simp only [Act.put, List.setIfInBounds_toArray, List.set_cons_succ, List.set_cons_zero]
  refine wpAnyH_take (i := 25) (oi := ⟨some 29, _, _, _, _, _⟩) (v := .agg #[.int .i64 ph, .int .i64 po, .int .i64 tr, .int .i64 (bitI wt), .int .i64 (bitI bk), .int .i64 dn, .int .i64 un, .int .i64 my, .int .i64 sq, .int .i64 st.length]) rfl (by kernel_rfl) (by kernel_rfl) (by kernel_rfl) (fun _ _ _ h => h) (Or.inl ⟨by kernel_rfl, fun w hS => by go_simp⟩) (by assumption) ?_
  try simp only [Act.put, List.setIfInBounds_toArray, List.set_cons_succ, List.set_cons_zero]
  have hst := store160_of (C := #[.int .i64 ph, .int .i64 po, .int .i64 tr, .int .i64 (bitI wt), .int .i64 (bitI bk), .int .i64 dn, .int .i64 un, .int .i64 my, .int .i64 sq, .int .i64 st.length]) HG2.out rfl rfl (ones10 _ _ _ _ _ _ _ _ _ _)
  refine wpAnyH_ready (rs := [26]) (by kernel_rfl) (by simp) ?_
  refine AllReadyH.cons (o := _) rfl (fun K hK => ?_) AllReadyH.nil
  go_simp
  have hS4 : Kept (fun k => k = w.heap.size + 1) w2 (w2.drew.setRow (w.heap.size + 1) #[.int .i64 ph, .int .i64 po, .int .i64 tr, .int .i64 (bitI wt), .int .i64 (bitI bk), .int .i64 dn, .int .i64 un, .int .i64 my, .int .i64 sq, .int .i64 st.length]) := hd.setRow' rfl _
  refine hK.out _ _ hS4 (fun hHeld => ?_)
  clear hK K hst
  try simp only [Act.put, List.setIfInBounds_toArray, List.set_cons_succ, List.set_cons_zero]
  refine wpAnyH_done (by kernel_rfl) ?_ _
  go_wp2_with fail
  refine bodyPost_ret (results_ten rfl _ _ _ (setRow_heap _ _ _ _ _ _ HG2.out) rfl rfl) rfl ⟨rfl, ?_⟩
  exact (KW.out.drew).setRow (by omega) _
end Go.Proofs.YtklmhegmombegaaDoor.Re
namespace Go.Proofs.YtklmhegmombegaaDoor.Re
open Go Go.RowKit Go.Proofs.YtklmhegmombegaaDoor.Re.Plain Go.Proofs.YtklmhegmombegaaDoor

theorem equal160 (w : World) (xs ys : List Int) (hx : xs.length = 10) (hy : ys.length = 10) : (Op.equalIn 10000 160 (tenV xs) (tenV ys)).run Tryd.prog w = .ok (xs == ys) w := by
  have he := Tryd.underlying3
  have ht := Tryd.underlying160
  have hsz : ∀ w, (sizeOf 3).run Tryd.prog w = .ok 1 w := fun w => by go_simp
  unfold tenV
  rw [← all_range_eq' xs ys (hx.trans hy.symm), hx, List.range_eq_range', show (10000 : Nat) = 9998 + 2 from rfl, Op.equalIn]
  simp only [Sem.run_bind, run_underlying ht, Result.andThen_ok, hsz, Std.Legacy.Range.forIn_eq_forIn_range', Std.Legacy.Range.size, Nat.sub_zero, Nat.add_sub_cancel, Nat.div_one]
  have hl : ∀ i ∈ List.range' 0 10 1, i < 10 := fun i hi => by simpa using (List.mem_range'_1.1 hi).2
  generalize List.range' 0 10 1 = l at hl ⊢
  induction l with
  | nil => simp
  | cons i l ih =>
    have hi : i < 10 := hl i (by simp)
    have px : (part 3 (xs.map (Value.int .i64)).toArray (i * 1)).run Tryd.prog w = .ok (.int .i64 (xs.getD i 0)) w := by
      simp [part, isAgg, run_underlying he, List.getD, List.getElem?_eq_getElem (show i < xs.length by omega)]
    have py : (part 3 (ys.map (Value.int .i64)).toArray (i * 1)).run Tryd.prog w = .ok (.int .i64 (ys.getD i 0)) w := by
      simp [part, isAgg, run_underlying he, List.getD, List.getElem?_eq_getElem (show i < ys.length by omega)]
    have pe : (Op.equalIn (9998 + 1) 3 (.int .i64 (xs.getD i 0)) (.int .i64 (ys.getD i 0))).run Tryd.prog w = .ok (xs.getD i 0 == ys.getD i 0) w := by
      rw [run_equalIn_int w 9998 3 .i64 .i64 _ _ he]
    simp only [List.forIn_cons, Sem.run_bind, px, py, pe, Result.andThen_ok, List.all_cons]
    cases hb : (xs.getD i 0 == ys.getD i 0)
    · simp
    · simp only [Bool.not_true, Bool.false_eq_true, if_false, Sem.run_pure, Result.andThen_ok, Bool.true_and]
      exact ih fun j hj => hl j (by simp [hj])
attribute [local go_sem] equal115 guard115

/-- Are two sagas the same? -/
def sameB (s t : Sg) : Bool := (tenOf s == tenOf t) && decide (s.steps = t.steps)
theorem tenOf_len (s : Sg) : (tenOf s).length = 10 := rfl
theorem yields160 {ops : Array Oper} {S : World → Prop} {dst : Option Tmp} {ty : TypeId} {pos : String} {aft : Array Edge} {gd : Option (Nat × Bool)} {x y : Operand} {a : Act} {rt : TypeId} {s t : Sg} {b : Bool} (hb : (tenOf s == tenOf t) = b) (hw : Region.wanted ⟨dst, .binOp .eql 160 x y rt, ty, pos, aft, gd⟩ (yielded ops a.tmps) = true) (hx : a.eval x = tenV (tenOf s)) (hy : a.eval y = tenV (tenOf t)) :
    YieldsIf Tryd.prog ops S ⟨dst, .binOp .eql 160 x y rt, ty, pos, aft, gd⟩ (.bool b) a := by
  subst hb
  refine .inl ⟨hw, fun w hS => ?_⟩
  have hg : (eqGuard .eql 160 x y (tenV (tenOf s)) (tenV (tenOf t))).run Tryd.prog w = .ok () w := by unfold tenV; exact run_eqGuard_agg w .eql 160 x y _ _ (by kernel_rfl)
  have he := equal160 w (tenOf s) (tenOf t) rfl rfl
  have hq : (binOp .eql 160 (tenV (tenOf s)) (tenV (tenOf t))).run Tryd.prog w = .ok (.bool (tenOf s == tenOf t)) w := by unfold tenV at he ⊢; rw [run_eql_struct, he]; rfl
  unfold execOp
  simp only [hx, hy, Sem.run_bind, hg, hq, Result.andThen_ok, Sem.run_pure]
set_option maxHeartbeats 2000000 in
theorem f_same (s t : Sg) (va vb : Value) (w : World) (ha : Stp w va s.steps) (hb : Stp w vb t.steps) (hl : s.steps.length ≤ 1000000) : Calls Tryd.prog 81 #[.agg (sgC s va), .agg (sgC t vb)] w (BPost (sameB s t) w) := by
  have g0 := heap_alloc2_old w (.cells (sgC s va) 133) (.cells (sgC t vb) 133)
  have g1 := heap_alloc2_new w (.cells (sgC s va) 133) (.cells (sgC t vb) 133)
  have K2 := ((Kept.refl (fun _ => False) w).alloc (.cells (sgC s va) 133)).alloc (.cells (sgC t vb) 133)
  have hca := ha.form
  have hcb := hb.form
  go_enter Tryd.func81, Tryd.ntmps81
  go_upto_region 1 with (fail)
  generalize (w.alloc (.cells (sgC s va) 133)).alloc (.cells (sgC t vb) 133) = w2 at g0 g1 K2 ⊢
  have HG : Hid (∀ {w' : World}, Kept (fun _ => False) w2 w' → w'.heap[w.heap.size]? = some (.cells (sgC s va) 133 (0, 0)) ∧ w'.heap[w.heap.size + 1]? = some (.cells (sgC t vb) 133 (0, 0)) ∧ Kept (fun _ => False) w w') :=
    fun k => ⟨(k.block _ (Array.getElem?_eq_some_iff.1 g0).1 id).trans g0, (k.block _ (Array.getElem?_eq_some_iff.1 g1).1 id).trans g1, K2.trans k⟩
  have HA := Lib.hid ha
  have HB := Lib.hid hb
  have hd : Kept (fun _ => False) w2 w2.drew := (Kept.refl _ _).drew
  clear g0 g1 K2 ha hb
  refine wp_region_held_drew (S := fun w' => Kept (fun _ => False) w2 w') (by kernel_rfl) hd (fun hHeld => ?_)
  refine wpAnyH_take (i := 0) (oi := ⟨some 5, _, _, _, _, _⟩) (v := .agg (sgC s va)) rfl (by kernel_rfl) (by kernel_rfl) (by kernel_rfl) (fun _ _ _ h => h) (yields133 (g := w.heap.size) (by kernel_rfl) rfl (fun w hS => (HG.out hS).1) (sgC_size _ _)) (by assumption) ?_
  try simp only [Act.put, List.setIfInBounds_toArray, List.set_cons_succ, List.set_cons_zero]
  refine wpAnyH_take (i := 2) (oi := ⟨some 7, _, _, _, _, _⟩) (v := .agg (sgC t vb)) rfl (by kernel_rfl) (by kernel_rfl) (by kernel_rfl) (fun _ _ _ h => h) (yields133 (g := w.heap.size + 1) (by kernel_rfl) rfl (fun w hS => (HG.out hS).2.1) (sgC_size _ _)) (by assumption) ?_
  try simp only [Act.put, List.setIfInBounds_toArray, List.set_cons_succ, List.set_cons_zero]
  refine wpAnyH_ready (rs := [1]) (by kernel_rfl) (by simp) ?_
  refine AllReadyH.cons (o := _) rfl (fun K hK => ?_) AllReadyH.nil
  go_simp
  refine (f_plain s va _ hca).mono ?_
  rintro e wx1 ⟨rfl, kx1⟩
  go_wp2_with fail
  have hS1 := hd.trans kx1
  refine hK.out _ _ hS1 (fun hHeld => ?_)
  clear hK K
  try simp only [Act.put, List.setIfInBounds_toArray, List.set_cons_succ, List.set_cons_zero]
  refine wpAnyH_ready (rs := [3]) (by kernel_rfl) (by simp) ?_
  refine AllReadyH.cons (o := _) rfl (fun K hK => ?_) AllReadyH.nil
  go_simp
  refine (f_plain t vb _ hcb).mono ?_
  rintro e wx2 ⟨rfl, kx2⟩
  go_wp2_with fail
  have hS2 := hS1.trans kx2
  refine hK.out _ _ hS2 (fun hHeld => ?_)
  clear hK K
  try simp only [Act.put, List.setIfInBounds_toArray, List.set_cons_succ, List.set_cons_zero]
  obtain ⟨a, c, rfl⟩ := hca
  obtain ⟨b, d, rfl⟩ := hcb
  cases hten : (tenOf s == tenOf t) with
  | false =>
    have E : Hid (sameB s t = false) := by show _ = _; rw [sameB, hten]; rfl
    refine wpAnyH_take (i := 4) (oi := ⟨some 9, _, _, _, _, _⟩) (v := .bool false) rfl (by kernel_rfl) (by kernel_rfl) (by kernel_rfl) (fun _ _ _ h => h) (yields160 hten (by kernel_rfl) rfl rfl) (by assumption) ?_
    try simp only [Act.put, List.setIfInBounds_toArray, List.set_cons_succ, List.set_cons_zero]
    refine wpAnyH_take (i := 5) (oi := ⟨some 10, _, _, _, _, _⟩) (v := .bool false) rfl (by kernel_rfl) (by kernel_rfl) (by kernel_rfl) (fun _ _ _ h => h) (Or.inl ⟨by kernel_rfl, fun w hS => by go_simp⟩) (by assumption) ?_
    try simp only [Act.put, List.setIfInBounds_toArray, List.set_cons_succ, List.set_cons_zero]
    refine wpAnyH_take (i := 6) (oi := ⟨some 11, _, _, _, _, _⟩) (v := undef) rfl (by kernel_rfl) (by kernel_rfl) (by kernel_rfl) (fun _ _ _ h => h) (Or.inr ⟨by kernel_rfl, rfl⟩) (by assumption) ?_
    try simp only [Act.put, List.setIfInBounds_toArray, List.set_cons_succ, List.set_cons_zero]
    refine wpAnyH_take (i := 7) (oi := ⟨some 12, _, _, _, _, _⟩) (v := undef) rfl (by kernel_rfl) (by kernel_rfl) (by kernel_rfl) (fun _ _ _ h => h) (Or.inr ⟨by kernel_rfl, rfl⟩) (by assumption) ?_
    try simp only [Act.put, List.setIfInBounds_toArray, List.set_cons_succ, List.set_cons_zero]
    refine wpAnyH_take (i := 8) (oi := ⟨some 13, _, _, _, _, _⟩) (v := undef) rfl (by kernel_rfl) (by kernel_rfl) (by kernel_rfl) (fun _ _ _ h => h) (Or.inr ⟨by kernel_rfl, rfl⟩) (by assumption) ?_
    try simp only [Act.put, List.setIfInBounds_toArray, List.set_cons_succ, List.set_cons_zero]
    refine wpAnyH_take (i := 9) (oi := ⟨some 14, _, _, _, _, _⟩) (v := undef) rfl (by kernel_rfl) (by kernel_rfl) (by kernel_rfl) (fun _ _ _ h => h) (Or.inr ⟨by kernel_rfl, rfl⟩) (by assumption) ?_
    try simp only [Act.put, List.setIfInBounds_toArray, List.set_cons_succ, List.set_cons_zero]
    refine wpAnyH_take (i := 10) (oi := ⟨some 15, _, _, _, _, _⟩) (v := undef) rfl (by kernel_rfl) (by kernel_rfl) (by kernel_rfl) (fun _ _ _ h => h) (Or.inr ⟨by kernel_rfl, rfl⟩) (by assumption) ?_
    try simp only [Act.put, List.setIfInBounds_toArray, List.set_cons_succ, List.set_cons_zero]
    refine wpAnyH_take (i := 11) (oi := ⟨some 16, _, _, _, _, _⟩) (v := .bool false) rfl (by kernel_rfl) (by kernel_rfl) (by kernel_rfl) (fun _ _ _ h => h) (Or.inl ⟨by kernel_rfl, fun w hS => by go_simp⟩) (by assumption) ?_
    try simp only [Act.put, List.setIfInBounds_toArray, List.set_cons_succ, List.set_cons_zero]
    refine wpAnyH_take (i := 12) (oi := ⟨some 4, _, _, _, _, _⟩) (v := .bool false) rfl (by kernel_rfl) (by kernel_rfl) (by kernel_rfl) (fun _ _ _ h => h) (Or.inl ⟨by kernel_rfl, fun w hS => by go_simp⟩) (by assumption) ?_
    try simp only [Act.put, List.setIfInBounds_toArray, List.set_cons_succ, List.set_cons_zero]
    refine wpAnyH_done (by kernel_rfl) ?_ _
    have KF := Lib.hid (HG.out hS2).2.2
    go_wp2_with fail
    go_ret
    exact BPost.mk E.out KF.out
  | true =>
    have E : Hid (sameB s t = decide (s.steps = t.steps)) := by show _ = _; rw [sameB, hten]; rfl
    refine wpAnyH_take (i := 4) (oi := ⟨some 9, _, _, _, _, _⟩) (v := .bool true) rfl (by kernel_rfl) (by kernel_rfl) (by kernel_rfl) (fun _ _ _ h => h) (yields160 hten (by kernel_rfl) rfl rfl) (by assumption) ?_
    try simp only [Act.put, List.setIfInBounds_toArray, List.set_cons_succ, List.set_cons_zero]
    refine wpAnyH_take (i := 5) (oi := ⟨some 10, _, _, _, _, _⟩) (v := .bool true) rfl (by kernel_rfl) (by kernel_rfl) (by kernel_rfl) (fun _ _ _ h => h) (Or.inl ⟨by kernel_rfl, fun w hS => by go_simp⟩) (by assumption) ?_
    try simp only [Act.put, List.setIfInBounds_toArray, List.set_cons_succ, List.set_cons_zero]
    refine wpAnyH_take (i := 6) (oi := ⟨some 11, _, _, _, _, _⟩) (v := .pointer (some ⟨w.heap.size, 0, none⟩)) rfl (by kernel_rfl) (by kernel_rfl) (by kernel_rfl) (fun _ _ _ h => h) (Or.inl ⟨by kernel_rfl, fun w hS => by go_simp⟩) (by assumption) ?_
    try simp only [Act.put, List.setIfInBounds_toArray, List.set_cons_succ, List.set_cons_zero]
    refine wpAnyH_take (i := 7) (oi := ⟨some 12, _, _, _, _, _⟩) (v := .slice a s.steps.length c) rfl (by kernel_rfl) (by kernel_rfl) (by kernel_rfl) (fun _ _ _ h => h) (Or.inl ⟨by kernel_rfl, fun w hS => by have hc := ((cell_of_row _ _ 0 _ _ _ (HG.out hS).1).trans (show (sgC s (.slice a s.steps.length c))[0]? = some (.slice a s.steps.length c) from rfl)); go_simp⟩) (by assumption) ?_
    try simp only [Act.put, List.setIfInBounds_toArray, List.set_cons_succ, List.set_cons_zero]
    refine wpAnyH_take (i := 8) (oi := ⟨some 13, _, _, _, _, _⟩) (v := .pointer (some ⟨w.heap.size + 1, 0, none⟩)) rfl (by kernel_rfl) (by kernel_rfl) (by kernel_rfl) (fun _ _ _ h => h) (Or.inl ⟨by kernel_rfl, fun w hS => by go_simp⟩) (by assumption) ?_
    try simp only [Act.put, List.setIfInBounds_toArray, List.set_cons_succ, List.set_cons_zero]
    refine wpAnyH_take (i := 9) (oi := ⟨some 14, _, _, _, _, _⟩) (v := .slice b t.steps.length d) rfl (by kernel_rfl) (by kernel_rfl) (by kernel_rfl) (fun _ _ _ h => h) (Or.inl ⟨by kernel_rfl, fun w hS => by have hc := ((cell_of_row _ _ 0 _ _ _ (HG.out hS).2.1).trans (show (sgC t (.slice b t.steps.length d))[0]? = some (.slice b t.steps.length d) from rfl)); go_simp⟩) (by assumption) ?_
    try simp only [Act.put, List.setIfInBounds_toArray, List.set_cons_succ, List.set_cons_zero]
    refine wpAnyH_ready (rs := [10]) (by kernel_rfl) (by simp) ?_
    refine AllReadyH.cons (o := _) rfl (fun K hK => ?_) AllReadyH.nil
    go_simp
    have k2 := (HG.out hS2).2.2
    refine (f_equal _ _ s.steps t.steps _ (HA.out.kept k2) (HB.out.kept k2) hl).mono ?_
    rintro e wx3 ⟨rfl, kx3⟩
    go_wp2_with fail
    have hS3 := hS2.trans kx3
    refine hK.out _ _ hS3 (fun hHeld => ?_)
    clear hK K
    try simp only [Act.put, List.setIfInBounds_toArray, List.set_cons_succ, List.set_cons_zero]
    refine wpAnyH_take (i := 11) (oi := ⟨some 16, _, _, _, _, _⟩) (v := .bool (decide (s.steps = t.steps))) rfl (by kernel_rfl) (by kernel_rfl) (by kernel_rfl) (fun _ _ _ h => h) (Or.inl ⟨by kernel_rfl, fun w hS => by go_simp⟩) (by assumption) ?_
    try simp only [Act.put, List.setIfInBounds_toArray, List.set_cons_succ, List.set_cons_zero]
    refine wpAnyH_take (i := 12) (oi := ⟨some 4, _, _, _, _, _⟩) (v := .bool (decide (s.steps = t.steps))) rfl (by kernel_rfl) (by kernel_rfl) (by kernel_rfl) (fun _ _ _ h => h) (Or.inl ⟨by kernel_rfl, fun w hS => by go_simp⟩) (by assumption) ?_
    try simp only [Act.put, List.setIfInBounds_toArray, List.set_cons_succ, List.set_cons_zero]
    refine wpAnyH_done (by kernel_rfl) ?_ _
    have KF := Lib.hid (HG.out hS3).2.2
    go_wp2_with fail
    go_ret
    exact BPost.mk E.out KF.out
end Go.Proofs.YtklmhegmombegaaDoor.Re
namespace Go.Proofs.YtklmhegmombegaaDoor.Re
open Go Go.RowKit Go.Proofs.YtklmhegmombegaaDoor.Re.Plain Go.Proofs.YtklmhegmombegaaDoor

/-- It goes. -/
theorem f_go_is {s t : Sg} {x : Rc} {lim : Nat} (E : go s x lim = some t) (v : Value) (C : Array Value) (w : World) (hC : Recish C x) (ok : Okay s) (hs : Stp w v s.steps) (h1 : 1 ≤ lim) (h9 : lim ≤ 9) (hq : x.seq = s.seq) (h0 : s.steps ≠ []) (ho : over s = false) (hwk : s.wait = true → 0 ≤ stepOf s) (hsq1 : s.seq + 1 ≤ 1000000) :
    Calls Tryd.prog 139 #[.agg (sgC s v), .agg C, .int .i64 lim] w fun e w' => e = .returned (.tuple #[.agg (sgC t v), .bool true]) ∧ Kept (fun _ => False) w w' := by
  refine (f_go_yes s v C x lim w hC ok hs h1 h9 hq h0 ho hwk hsq1).mono ?_
  rintro e w' ⟨rfl, k⟩
  exact ⟨by rw [E], k⟩

theorem Recish.seq {C : Array Value} {x : Rc} (h : Recish C x) (n : Int) : Recish (C.setIfInBounds 2 (.int .i64 n)) { x with seq := n } := by
  have hs := h.size
  exact ⟨by simpa using hs, all_set h.one rfl _, by simpa using h.c0, by simp [hs], by simpa using h.c3, by simpa using h.c4, by simpa using h.c5, by simpa using h.c6, by simpa using h.c7⟩
theorem Recish.lapse {C : Array Value} {x : Rc} (h : Recish C x) : Recish ((C.setIfInBounds 0 (.int .i64 4)).setIfInBounds 6 (.bool false)) { x with kind := 4, good := false } := by
  have hs := h.size
  exact ⟨by simpa using hs, all_set (all_set h.one rfl _) rfl _, by simp [hs], by simpa using h.c2, by simpa using h.c3, by simpa using h.c4, by simpa using h.c5, by simp [hs], by simpa using h.c7⟩
/-- An answer, as a record. -/
def ansC (k tr : Int) (bk g : Bool) : Array Value := ((((Z30.setIfInBounds 0 (.int .i64 3)).setIfInBounds 3 (.int .i64 k)).setIfInBounds 4 (.int .i64 tr)).setIfInBounds 5 (.bool bk)).setIfInBounds 6 (.bool g)
set_option maxRecDepth 100000 in
theorem ansC_size (k tr : Int) (bk g : Bool) : (ansC k tr bk g).size = 109 := rfl
theorem ansC_one (k tr : Int) (bk g : Bool) : (ansC k tr bk g).all (·.oneCell') = true := all_set (all_set (all_set (all_set (all_set Z30_one rfl _) rfl _) rfl _) rfl _) rfl _
set_option maxRecDepth 100000 in
theorem ansC_recish (k tr : Int) (bk g : Bool) : Recish (ansC k tr bk g) ⟨3, 0, k, tr, bk, g, 0⟩ := ⟨ansC_size _ _ _ _, ansC_one _ _ _ _, rfl, rfl, rfl, rfl, rfl, rfl, rfl⟩
set_option maxRecDepth 100000 in
theorem Z30_recish : Recish Z30 ⟨0, 0, 0, 0, false, false, 0⟩ := ⟨rfl, Z30_one, rfl, rfl, rfl, rfl, rfl, rfl, rfl⟩

section
variable {ops : Array Oper} {rest : List Oper} {dst : Option Tmp} {ty : TypeId} {pos : String} {aft : Array Edge} {a : Act} {w : World} {Q : Exit → Act → World → Prop}
theorem load133 {x : Operand} {g o : Nat} {C : Array Value}
    (hx : a.eval x = .pointer (some ⟨g, o, none⟩)) (hc : w.rangeAt g o C.toList) (hC : C.size = 10)
    (h : wpList Tryd.prog ops Q rest (a.put dst (.agg C)) w) : wpList Tryd.prog ops Q (⟨dst, .load 133 x, ty, pos, aft, none⟩ :: rest) a w := by
  have := wpList_load_mid (P := Tryd.prog) (ops := ops) (rest := rest) (op := ⟨dst, .load 133 x, ty, pos, aft, none⟩) (a := a) (w := w) (Q := Q) rfl 133 x rfl g o hx C.toList _ hc Tryd.underlying133 rfl (by rw [Tryd.isz133]; simp [hC])
  simp only [Array.toArray_toList] at this
  exact this h
theorem alloc133 (h : wpList Tryd.prog ops Q rest (a.put dst (.pointer (some ⟨w.heap.size, 0, none⟩))) (w.alloc (.cells Z133 133))) : wpList Tryd.prog ops Q (⟨dst, .alloc 133, ty, pos, aft, none⟩ :: rest) a w := by
  refine wpList_plain rfl fun K hK => ?_
  go_simp
  exact hK _ _ h
theorem build30a {k tr : Int} {bk gd : Bool} {x y z u : Nat} (hx : a.tmps[x]?.getD undef = .int .i64 k) (hy : a.tmps[y]?.getD undef = .int .i64 tr) (hz : a.tmps[z]?.getD undef = .bool bk) (hu : a.tmps[u]?.getD undef = .bool gd)
    (h : wpList Tryd.prog ops Q rest (a.put dst (.agg (ansC k tr bk gd))) w) : wpList Tryd.prog ops Q (⟨dst, .build 30 #[(0, .const (.int .i64 3)), (3, .tmp x), (4, .tmp y), (5, .tmp z), (6, .tmp u)], ty, pos, aft, none⟩ :: rest) a w := by
  refine wpList_plain rfl fun K hK => ?_
  go_simp
  exact hK _ _ h
end

theorem alloc_set (w : World) (C0 C : Array Value) (t : TypeId) : ((w.alloc (.cells C0 t)).setRow w.heap.size C).heap[w.heap.size]? = some (.cells C t (0, 0)) ∧ Kept (fun _ => False) w ((w.alloc (.cells C0 t)).setRow w.heap.size C) :=
  ⟨setRow_heap _ _ _ _ _ _ (heap_alloc_new w _), ((Kept.refl _ w).alloc _).setRow (Nat.le_refl _) _⟩

theorem Plain.Inv.okay {l : List (Int × Int)} {lim n : Nat} {s : Sg} (h : Inv l lim n s) (hl : mayB l = true) (h9 : lim ≤ 9) : Okay s := by
  have h6 := (mayB_len hl).2
  have hn := h.le hl
  have hm := most_le hl h9
  have hp := h.pos
  have hsq := h.seq
  have hph := h.ph
  have ht := h.tries
  refine ⟨by rw [h.steps]; exact h6, ?_, ?_, ?_, by omega, by omega, by omega, by omega⟩
  · rw [h.done]
    have : 2 ^ s.pos ≤ 2 ^ 6 := Nat.pow_le_pow_right (by decide) (by omega)
    have e : (2 : Nat) ^ 6 = 64 := rfl
    have := Nat.two_pow_pos s.pos
    omega
  · refine lt_of_bits fun i hi => ?_
    cases hb : s.may.testBit i with
    | false => rfl
    | true => have := h.may i hb; omega
  · refine lt_of_bits fun i hi => ?_
    cases hb : s.undone.testBit i with
    | false => rfl
    | true => have := h.undone i hb; omega

theorem iter_at (l : List (Int × Int)) (lim : Nat) (ans : List Nat) (n : Nat) : (iter l lim ans n).2 ≤ n := by
  induction n with
  | zero => exact Nat.le_refl _
  | succ n ih =>
    rw [iter]
    unfold next
    split
    · exact Nat.le_succ_of_le ih
    · exact Nat.succ_le_succ ih

/-- A cell of a row is written; another row stays. -/
theorem cell_row {wr w : World} {B R k : Nat} {C D : Array Value} {t u : TypeId} (hB : w.heap[B]? = some (.cells D u (0, 0))) (hR : w.heap[R]? = some (.cells C t (0, 0))) (hne : B ≠ R) (hK : Kept (fun _ => False) wr w) (hle : wr.heap.size ≤ R) (v : Value) :
    (w.setCell ⟨R, k, none⟩ v).heap[B]? = some (.cells D u (0, 0)) ∧ (w.setCell ⟨R, k, none⟩ v).heap[R]? = some (.cells (C.setIfInBounds k v) t (0, 0)) ∧ Kept (fun _ => False) wr (w.setCell ⟨R, k, none⟩ v) :=
  ⟨(setCell_heap_other w ⟨R, k, none⟩ v B hne).trans hB, setCell_block hR v, hK.setCell (.inr hle) v⟩
/-- A row is written; another row stays. -/
theorem row_row {wr w : World} {B R : Nat} {C D : Array Value} {t u : TypeId} (hB : w.heap[B]? = some (.cells D u (0, 0))) (hR : w.heap[R]? = some (.cells C t (0, 0))) (hne : B ≠ R) (hK : Kept (fun _ => False) wr w) (hle : wr.heap.size ≤ R) (A : Array Value) :
    (w.setRow R A).heap[B]? = some (.cells D u (0, 0)) ∧ (w.setRow R A).heap[R]? = some (.cells A t (0, 0)) ∧ Kept (fun _ => False) wr (w.setRow R A) :=
  ⟨(setRow_other w R B A hne).trans hB, setRow_heap _ _ _ _ _ _ hR, hK.setRow hle A⟩
end Go.Proofs.YtklmhegmombegaaDoor.Re
