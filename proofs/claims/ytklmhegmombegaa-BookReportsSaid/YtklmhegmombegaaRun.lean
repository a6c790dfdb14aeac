/-
  The contract of the laws' run. Conditions: as each theorem says.
-/
import Derived.Test.YtklmhegmombegaaGoY
import Derived.Test.YtklmhegmombegaaRef
import Derived.Test.YtklmhegmombegaaLaw3
set_option linter.unusedVariables false
set_option linter.unusedSimpArgs false
namespace Go.Proofs.Ytklmhegmombegaa
open Go Go.RowKit Plain

/-- It goes. -/
theorem f_go_is {s t : Sg} {x : Rc} {lim : Nat} (E : go s x lim = some t) (v : Value) (C : Array Value) (w : World) (hC : Recish C x) (ok : Okay s) (hs : Stp w v s.steps) (h1 : 1 ≤ lim) (h9 : lim ≤ 9) (hq : x.seq = s.seq) (h0 : s.steps ≠ []) (ho : over s = false) (hwk : s.wait = true → 0 ≤ stepOf s) (hsq1 : s.seq + 1 ≤ 1000000) :
    Calls Try.prog 22 #[.agg (sgC s v), .agg C, .int .i64 lim] w fun e w' => e = .returned (.tuple #[.agg (sgC t v), .bool true]) ∧ Kept (fun _ => False) w w' := by
  refine (f_go_yes s v C x lim w hC ok hs h1 h9 hq h0 ho hwk hsq1).mono ?_
  rintro e w' ⟨rfl, k⟩
  exact ⟨by rw [E], k⟩

theorem Recish.seq {C : Array Value} {x : Rc} (h : Recish C x) (n : Int) : Recish (C.setIfInBounds 2 (.int .i64 n)) { x with seq := n } := by
  have hs := h.size
  exact ⟨by simpa using hs, all_set h.one rfl _, by simpa using h.c0, by simp [hs], by simpa using h.c3, by simpa using h.c4, by simpa using h.c5, by simpa using h.c6, by simpa using h.c7⟩
theorem Recish.lapse {C : Array Value} {x : Rc} (h : Recish C x) : Recish ((C.setIfInBounds 0 (.int .i64 4)).setIfInBounds 6 (.bool false)) { x with kind := 4, good := false } := by
  have hs := h.size
  exact ⟨by simpa using hs, all_set (all_set h.one rfl _) rfl _, by simp [hs], by simpa using h.c2, by simpa using h.c3, by simpa using h.c4, by simpa using h.c5, by simp [hs], by simpa using h.c7⟩
/-- An answer, as a record. -/
def ansC (k tr : Int) (bk g : Bool) : Array Value := ((((Z41.setIfInBounds 0 (.int .i64 3)).setIfInBounds 3 (.int .i64 k)).setIfInBounds 4 (.int .i64 tr)).setIfInBounds 5 (.bool bk)).setIfInBounds 6 (.bool g)
set_option maxRecDepth 100000 in
theorem ansC_size (k tr : Int) (bk g : Bool) : (ansC k tr bk g).size = 109 := rfl
theorem ansC_one (k tr : Int) (bk g : Bool) : (ansC k tr bk g).all (·.oneCell') = true := all_set (all_set (all_set (all_set (all_set Z41_one rfl _) rfl _) rfl _) rfl _) rfl _
set_option maxRecDepth 100000 in
theorem ansC_recish (k tr : Int) (bk g : Bool) : Recish (ansC k tr bk g) ⟨3, 0, k, tr, bk, g, 0⟩ := ⟨ansC_size _ _ _ _, ansC_one _ _ _ _, rfl, rfl, rfl, rfl, rfl, rfl, rfl⟩
set_option maxRecDepth 100000 in
theorem Z41_recish : Recish Z41 ⟨0, 0, 0, 0, false, false, 0⟩ := ⟨rfl, Z41_one, rfl, rfl, rfl, rfl, rfl, rfl, rfl⟩

section
variable {ops : Array Oper} {rest : List Oper} {dst : Option Tmp} {ty : TypeId} {pos : String} {aft : Array Edge} {a : Act} {w : World} {Q : Exit → Act → World → Prop}
theorem load27 {x : Operand} {g o : Nat} {C : Array Value}
    (hx : a.eval x = .pointer (some ⟨g, o, none⟩)) (hc : w.rangeAt g o C.toList) (hC : C.size = 10)
    (h : wpList Try.prog ops Q rest (a.put dst (.agg C)) w) : wpList Try.prog ops Q (⟨dst, .load 27 x, ty, pos, aft, none⟩ :: rest) a w := by
  have := wpList_load_mid (P := Try.prog) (ops := ops) (rest := rest) (op := ⟨dst, .load 27 x, ty, pos, aft, none⟩) (a := a) (w := w) (Q := Q) rfl 27 x rfl g o hx C.toList _ hc Try.underlying27 rfl (by rw [Try.isz27]; simp [hC])
  simp only [Array.toArray_toList] at this
  exact this h
theorem alloc27 (h : wpList Try.prog ops Q rest (a.put dst (.pointer (some ⟨w.heap.size, 0, none⟩))) (w.alloc (.cells Z27 27))) : wpList Try.prog ops Q (⟨dst, .alloc 27, ty, pos, aft, none⟩ :: rest) a w := by
  refine wpList_plain rfl fun K hK => ?_
  go_simp
  exact hK _ _ h
theorem build41a {k tr : Int} {bk gd : Bool} {x y z u : Nat} (hx : a.tmps[x]?.getD undef = .int .i64 k) (hy : a.tmps[y]?.getD undef = .int .i64 tr) (hz : a.tmps[z]?.getD undef = .bool bk) (hu : a.tmps[u]?.getD undef = .bool gd)
    (h : wpList Try.prog ops Q rest (a.put dst (.agg (ansC k tr bk gd))) w) : wpList Try.prog ops Q (⟨dst, .build 41 #[(0, .const (.int .i64 3)), (3, .tmp x), (4, .tmp y), (5, .tmp z), (6, .tmp u)], ty, pos, aft, none⟩ :: rest) a w := by
  refine wpList_plain rfl fun K hK => ?_
  go_simp
  exact hK _ _ h
end

theorem alloc_set (w : World) (C0 C : Array Value) (t : TypeId) : ((w.alloc (.cells C0 t)).setRow w.heap.size C).heap[w.heap.size]? = some (.cells C t (0, 0)) ∧ Kept (fun _ => False) w ((w.alloc (.cells C0 t)).setRow w.heap.size C) :=
  ⟨setRow_heap _ _ _ _ _ _ (heap_alloc_new w _), ((Kept.refl _ w).alloc _).setRow (Nat.le_refl _) _⟩

theorem Plain.Inv.okay {l : List (Int × Int)} {lim n : Nat} {s : Sg} (h : Inv l lim n s) (hl : mayB l = true) (h9 : lim ≤ 9) : Okay s := by
  have h6 := (mayB_len hl).2
  have hn := h.le hl
  have hm := most_le hl h9
  have hp := h.pos
  have hsq := h.seq
  have hph := h.ph
  have ht := h.tries
  refine ⟨by rw [h.steps]; exact h6, ?_, ?_, ?_, by omega, by omega, by omega, by omega⟩
  · rw [h.done]
    have : 2 ^ s.pos ≤ 2 ^ 6 := Nat.pow_le_pow_right (by decide) (by omega)
    have e : (2 : Nat) ^ 6 = 64 := rfl
    have := Nat.two_pow_pos s.pos
    omega
  · refine lt_of_bits fun i hi => ?_
    cases hb : s.may.testBit i with
    | false => rfl
    | true => have := h.may i hb; omega
  · refine lt_of_bits fun i hi => ?_
    cases hb : s.undone.testBit i with
    | false => rfl
    | true => have := h.undone i hb; omega

theorem iter_at (l : List (Int × Int)) (lim : Nat) (ans : List Nat) (n : Nat) : (iter l lim ans n).2 ≤ n := by
  induction n with
  | zero => exact Nat.le_refl _
  | succ n ih =>
    rw [iter]
    unfold next
    split
    · exact Nat.le_succ_of_le ih
    · exact Nat.succ_le_succ ih

/-- A cell of a row is written; another row stays. -/
theorem cell_row {wr w : World} {B R k : Nat} {C D : Array Value} {t u : TypeId} (hB : w.heap[B]? = some (.cells D u (0, 0))) (hR : w.heap[R]? = some (.cells C t (0, 0))) (hne : B ≠ R) (hK : Kept (fun _ => False) wr w) (hle : wr.heap.size ≤ R) (v : Value) :
    (w.setCell ⟨R, k, none⟩ v).heap[B]? = some (.cells D u (0, 0)) ∧ (w.setCell ⟨R, k, none⟩ v).heap[R]? = some (.cells (C.setIfInBounds k v) t (0, 0)) ∧ Kept (fun _ => False) wr (w.setCell ⟨R, k, none⟩ v) :=
  ⟨(setCell_heap_other w ⟨R, k, none⟩ v B hne).trans hB, setCell_block hR v, hK.setCell (.inr hle) v⟩
/-- A row is written; another row stays. -/
theorem row_row {wr w : World} {B R : Nat} {C D : Array Value} {t u : TypeId} (hB : w.heap[B]? = some (.cells D u (0, 0))) (hR : w.heap[R]? = some (.cells C t (0, 0))) (hne : B ≠ R) (hK : Kept (fun _ => False) wr w) (hle : wr.heap.size ≤ R) (A : Array Value) :
    (w.setRow R A).heap[B]? = some (.cells D u (0, 0)) ∧ (w.setRow R A).heap[R]? = some (.cells A t (0, 0)) ∧ Kept (fun _ => False) wr (w.setRow R A) :=
  ⟨(setRow_other w R B A hne).trans hB, setRow_heap _ _ _ _ _ _ hR, hK.setRow hle A⟩
/-- What came of a run. -/
def RunPost (l : List (Int × Int)) (lim : Nat) (ans : List Nat) (w : World) (e : Ending) (w' : World) : Prop :=
  ∃ n s a c, e = .returned (.tuple #[.agg (sgC s (.slice a l.length c)), .int .i64 (n : Nat), .bool true]) ∧ Plain.Ends l lim ans n s ∧ Inv l lim n s ∧ Stp w' (.slice a l.length c) l ∧ Kept (fun _ => False) w w'
theorem results_run {fn : Func} {p t u : Tmp} (h : fn.results = #[.cell p 27, .tmp t, .tmp u]) (tmps : Array Value) (w : World) (g : Nat) {C : Array Value} {ty : TypeId} {fr : Nat × Nat} {v v' : Value}
    (hg : w.heap[g]? = some (.cells C ty fr)) (hC : C.size = 10) (hp : tmps.getD p undef = .pointer (some ⟨g, 0, none⟩)) (hv : tmps.getD t undef = v := by rfl) (hu : tmps.getD u undef = v' := by rfl) :
    (results fn tmps).run Try.prog w = .ok (.tuple #[.agg C, v, v']) w := by
  have hp' : tmps[p]?.getD undef = .pointer (some ⟨g, 0, none⟩) := by simpa using hp
  have hv' : tmps[t]?.getD undef = v := by simpa using hv
  have hu' : tmps[u]?.getD undef = v' := by simpa using hu
  simp [results, h, hp', hv', hu', asAddr, run_loadVar_row (P := Try.prog) w g ty 27 C fr _ hg Try.underlying27 rfl (by rw [Try.isz27, hC])]

set_option maxHeartbeats 8000000 in
set_option maxRecDepth 100000 in
theorem f_run (v va : Value) (l : List (Int × Int)) (lim : Nat) (ans : List Nat) (w : World) (hs : Stp w v l) (hl : mayB l = true) (h1 : 1 ≤ lim) (h9 : lim ≤ 9)
    (ha : Rd w 1 va ans.length (ans.map fun (n : Nat) => Value.int .u8 (n : Int))) (hal : ans ≠ [] → ∀ k, va.ownBlock = some k → k < w.heap.size) (hal3 : ans.length ≤ 300) (ha2 : ∀ z ∈ ans, z < 256) :
    Calls Try.prog 19 #[v, .int .i64 lim, va] w (RunPost l lim ans w) := by
  have hlen := mayB_len hl
  have hn0 := heap_alloc_new w (.cells Z27 27)
  have K0 := (Kept.refl (fun _ => False) w).alloc (.cells Z27 27)
  have HN : Hid (Calls Try.prog 17 #[v] (w.alloc (.cells Z27 27)) (SgFresh (Plain.new l) (w.alloc (.cells Z27 27)))) := by
    have := f_new v l _ (hs.kept K0) (by omega)
    rw [newOf, if_pos hl] at this
    exact this
  have H0 := Lib.hid hn0
  have HK0 := Lib.hid K0
  have HL := Lib.hid hl
  have HA2 := Lib.hid ha2
  have HAR := Lib.hid ha
  have HAL := Lib.hid hal
  obtain ⟨av, cv, rfl⟩ := hs.form
  obtain ⟨aa, ca, rfl, -⟩ := ha.2
  clear hn0 K0 hs hl ha ha2 hal
  go_enter Try.func19, Try.ntmps19
  go_wp2_with (first | fail | (with_reducible refine alloc27 ?_))
  refine HN.out.mono ?_
  rintro e w1 ⟨a, c, rfl, hs1, hfr, k1⟩
  have hst : (Plain.new l).steps = l := rfl
  rw [hst] at hs1 hfr ⊢
  have HFR : Hid (∀ k, (Value.slice a l.length c).ownBlock = some k → k ≠ w.heap.size) := fun k e e' => by have := hfr k e; simp at this; omega
  obtain ⟨r9, kB⟩ := alloc_set w1 Z27 (sgC (Plain.new l) (.slice a l.length c)) 27
  have r6 := (k1.block _ (by simp) id).trans H0.out
  have kw1 := HK0.out.trans k1
  have l6 : w.heap.size < w1.heap.size := (Array.getElem?_eq_some_iff.1 r6).1
  have R6 := Lib.hid r6
  have R9 := Lib.hid r9
  have KB := Lib.hid kB
  have KW := Lib.hid kw1
  have HS := Lib.hid hs1
  have h0 := Lib.hid (heap_alloc_new w1 (.cells Z27 27))
  clear r6 r9 kB kw1 hs1 hfr k1 hst HN H0 HK0
  go_wp2_with (first | fail | (with_reducible refine alloc27 ?_) | ((with_reducible refine store27 (C := sgC (Plain.new l) (.slice a l.length c)) ?_ ?_ h0.out hz27 (sgC_size _ _) (sgC_one _ _ _ _) ?_); rfl; rfl))
  clear h0
  go_loopw [10, 11] (fun j i wr => ∃ (n : Nat) (k : Nat) (s : Sg), j = .int .i64 k ∧ i = .int .i64 n ∧ iter l lim ans n = (s, k) ∧ (∀ m, m < n → over (iter l lim ans m).1 = false) ∧ wr.heap[w1.heap.size]? = some (.cells (sgC s (.slice a l.length c)) 27 (0, 0)) ∧ Kept (fun _ => False) w1 wr) (fun _ i _ => 400 - (intOf i).toNat)
  case atStart => exact ⟨0, 0, Plain.new l, rfl, rfl, rfl, fun m hm => by omega, R9.out, KB.out⟩
  case round =>
    obtain ⟨n, k, s, rfl, rfl, hit, hov, g9, KR⟩ := hrel
    have hI : Inv l lim n s := by have := inv_iter HL.out ans n hov (lim := lim); rw [hit] at this; exact this
    have hk : k ≤ n := by have := iter_at l lim ans n; rw [hit] at this; exact this
    have hn : n ≤ 217 := Nat.le_trans (hI.le HL.out) (most_le HL.out h9)
    have ok := hI.okay HL.out h9
    have hsteps := hI.steps
    have hsq := hI.seq
    have hsr : Stp wr (.slice a l.length c) s.steps := by rw [hsteps]; exact HS.out.kept KR
    have l9 : w1.heap.size < wr.heap.size := (Array.getElem?_eq_some_iff.1 g9).1
    have HH : Hid (∀ {w2 : World}, Kept (fun _ => False) wr w2 → w2.heap[w1.heap.size]? = some (.cells (sgC s (.slice a l.length c)) 27 (0, 0)) ∧ w2.heap[w.heap.size]? = some (.cells Z27 27 (0, 0)) ∧ Kept (fun _ => False) w1 w2) :=
      fun kk => ⟨(kk.block _ l9 id).trans g9, ((KR.trans kk).block _ l6 id).trans R6.out, KR.trans kk⟩
    have HD := Lib.hid (f_due s (.slice a l.length c) lim wr ok hsr h1 h9)
    have G9 := Lib.hid g9
    have HI := Lib.hid hI
    have HIT := Lib.hid hit
    have HOV := Lib.hid hov
    have OK := Lib.hid ok
    have HSR := Lib.hid hsr
    have HST := Lib.hid hsteps
    have HSQ := Lib.hid hsq
    clear hI hit hov g9 ok hsr hsteps hsq
    cases ho : over s with
    | true =>
      have E : Plain.due s lim = none := by rw [Plain.due, if_pos (.inr (.inl ho))]
      rw [dueR, E] at HD
      have HO := Lib.hid ho
      clear ho E
      go_wp2_with (first | fail | ((with_reducible refine load27 (C := sgC s (.slice a l.length c)) (g := w1.heap.size) (o := 0) ?_ (range_row G9.out) (sgC_size _ _) ?_); rfl))
      refine HD.out.mono ?_
      rintro e w2 ⟨rfl, k2⟩
      have z2 := Lib.hid (heap_alloc_new w2 (.cells Z41 41))
      obtain ⟨r3, k3⟩ := alloc_set w2 Z41 Z41 41
      obtain ⟨g9, g6, kw⟩ := HH.out (k2.trans k3)
      have g9' := Lib.hid g9
      have HF := Lib.hid (f_over s (.slice a l.length c))
      rw [HO.out] at HF
      clear g9 r3
      go_wp2_with (first | fail | (with_reducible refine alloc41 ?_) | ((with_reducible refine store41 (C := Z41) ?_ ?_ z2.out rfl rfl Z41_one ?_); rfl; rfl) | ((with_reducible refine load27 (C := sgC s (.slice a l.length c)) (g := w1.heap.size) (o := 0) ?_ (range_row g9'.out) (sgC_size _ _) ?_); rfl))
      refine (HF.out _).mono ?_
      rintro e w3 ⟨rfl, k4⟩
      obtain ⟨g9, g6, kw3⟩ := HH.out ((k2.trans k3).trans k4)
      have b9 := Lib.hid g9
      have b6 := Lib.hid g6
      clear g9 g6 g9' z2 k4 k3 k2 kw
      go_wp2_with (first | fail | ((with_reducible refine load27 (C := sgC s (.slice a l.length c)) (g := w1.heap.size) (o := 0) ?_ (range_row b9.out) (sgC_size _ _) ?_); rfl) | ((with_reducible refine store27 (C := sgC s (.slice a l.length c)) ?_ ?_ b6.out hz27 (sgC_size _ _) (sgC_one _ _ _ _) ?_); rfl; rfl))
      refine bodyPost_ret (results_run (v := .int .i64 n) (v' := .bool true) rfl _ _ _ (setRow_heap _ _ _ _ _ _ b6.out) (sgC_size _ _) rfl) rfl ⟨n, s, a, c, rfl, ⟨by rw [HIT.out], HO.out, HOV.out⟩, HI.out, ?_, ?_⟩
      · have := HS.out.kept kw3
        exact ⟨this.rd.kept (S := fun k => k = w.heap.size) ⟨rfl, rfl, rfl, by simp [World.setRow], fun k _ hs => setRow_other _ _ _ _ hs⟩ (fun k e e' => HFR.out k e e'), fun k e => by have := this.lt k e; simpa [World.setRow] using this⟩
      · exact (KW.out.trans kw3).setRow (Nat.le_refl _) _
    | false =>
      have HO := Lib.hid ho
      have hsn := Lib.hid (show s.steps ≠ [] by rw [HST.out]; exact ne_nil HL.out)
      have hwk := Lib.hid (fun hw => (HI.out.step_wait HO.out hw).1)
      have HNX : Hid (∀ m, m < n + 1 → over (iter l lim ans m).1 = false) := fun m hm => by
        by_cases e : m = n
        · subst e; rw [HIT.out]; exact HO.out
        · exact HOV.out m (by omega)
      have hsq1 := Lib.hid (show s.seq + 1 ≤ 1000000 by rw [HSQ.out]; omega)
      clear ho
      cases hd : Plain.due s lim with
      | some d =>
        rw [dueR, hd] at HD
        have IT : Hid (iter l lim ans (n + 1) = (if d.kind = 2 then sent s d else ended s d, k)) := by show _ = _; rw [iter_next HIT.out, next_due hd]
        have EG := Lib.hid (go_due hd false)
        have D := Lib.hid hd
        clear hd
        generalize (if d.kind = 2 then sent s d else ended s d) = t at IT EG
        go_wp2_with (first | fail | ((with_reducible refine load27 (C := sgC s (.slice a l.length c)) (g := w1.heap.size) (o := 0) ?_ (range_row G9.out) (sgC_size _ _) ?_); rfl))
        refine HD.out.mono ?_
        rintro e w2 ⟨rfl, k2⟩
        have z2 := Lib.hid (heap_alloc_new w2 (.cells Z41 41))
        obtain ⟨r3, k3⟩ := alloc_set w2 Z41 (dueC d) 41
        obtain ⟨g9, g6, kw⟩ := HH.out (k2.trans k3)
        have hR : wr.heap.size ≤ w2.heap.size := k2.size
        have b9 := Lib.hid g9
        have bR := Lib.hid r3
        have K3 := Lib.hid (k2.trans k3)
        have CR := Lib.hid (dueC_recish d)
        clear g9 g6 r3 k3 kw k2
        have c9 := cell_of_row _ _ 9 _ _ _ b9.out
        have e9 : (sgC s (.slice a l.length c))[9]? = some (.int .i64 s.seq) := rfl
        rw [e9] at c9
        have c2 := (cell_of_row _ _ 2 _ _ _ bR.out).trans CR.out.c2
        have f2 := free_of_block (j := 2) bR.out
        obtain ⟨x9, xR, K4⟩ := cell_row (k := 2) b9.out bR.out (by omega) K3.out hR (.int .i64 s.seq)
        have y9 := Lib.hid x9
        have yR := Lib.hid xR
        have Y4 := Lib.hid K4
        have CS := Lib.hid (CR.out.seq s.seq)
        clear x9 xR K4 e9
        go_wp2_with (first | fail | (with_reducible refine alloc41 ?_) | ((with_reducible refine store41 (C := dueC d) ?_ ?_ z2.out rfl (dueC_size _) (dueC_one _) ?_); rfl; rfl) | ((with_reducible refine load27 (C := sgC s (.slice a l.length c)) (g := w1.heap.size) (o := 0) ?_ (range_row y9.out) (sgC_size _ _) ?_); rfl) | ((with_reducible refine load41 (C := (dueC d).setIfInBounds 2 (.int .i64 s.seq)) (g := w2.heap.size) (o := 0) ?_ (range_row yR.out) CS.out.size ?_); rfl))
        refine (f_go_is EG.out (.slice a l.length c) ((dueC d).setIfInBounds 2 (.int .i64 s.seq)) _ CS.out OK.out (HSR.out.kept Y4.out) h1 h9 rfl hsn.out HO.out hwk.out hsq1.out).mono ?_
        rintro e w5 ⟨rfl, k5⟩
        obtain ⟨g9, g6, kw⟩ := HH.out (Y4.out.trans k5)
        have z5 := Lib.hid (heap_alloc_new w5 (.cells Z27 27))
        obtain ⟨rT, kT⟩ := alloc_set w5 Z27 (sgC t (.slice a l.length c)) 27
        obtain ⟨h9', -, kF⟩ := HH.out ((Y4.out.trans k5).trans kT)
        have v9 := Lib.hid h9'
        have vT := Lib.hid rT
        have VF := Lib.hid kF
        clear g9 g6 kw k5 rT kT h9' kF b9 bR K3 CR c9 c2 f2 y9 yR Y4 CS z2
        go_wp2_with (first | fail | (with_reducible refine alloc27 ?_) | ((with_reducible refine store27 (C := sgC t (.slice a l.length c)) ?_ ?_ z5.out hz27 (sgC_size _ _) (sgC_one _ _ _ _) ?_); rfl; rfl) | ((with_reducible refine store27 (C := sgC t (.slice a l.length c)) ?_ ?_ v9.out (sgC_size _ _) (sgC_size _ _) (sgC_one _ _ _ _) ?_); rfl; rfl) | ((with_reducible refine load27 (C := sgC t (.slice a l.length c)) (g := w5.heap.size) (o := 0) ?_ (range_row vT.out) (sgC_size _ _) ?_); rfl))
        go_roundw
        case rel => exact ⟨n + 1, k, t, by first | rfl | go_num, by go_num, IT.out, HNX.out, setRow_heap _ _ _ _ _ _ v9.out, VF.out.setRow (Nat.le_refl _) _⟩
        case measure => simp [intOf]; omega
      | none =>
        rw [dueR, hd] at HD
        have hw := HI.out.due_none HL.out HO.out hd
        have HW := Lib.hid hw
        have IT0 : Hid (∀ b, (ans[k]?).getD 0 % 3 = b → iter l lim ans (n + 1) = (if b = 2 then lapsed (more s) lim else answered (more s) (decide (b = 0)), k + 1)) := fun b hb => by rw [iter_next HIT.out, next_ans hd hb]
        have ST := Lib.hid (HI.out.step_of HO.out hw)
        clear hd hw
        go_wp2_with (first | fail | ((with_reducible refine load27 (C := sgC s (.slice a l.length c)) (g := w1.heap.size) (o := 0) ?_ (range_row G9.out) (sgC_size _ _) ?_); rfl))
        refine HD.out.mono ?_
        rintro e w2 ⟨rfl, k2⟩
        have z2 := Lib.hid (heap_alloc_new w2 (.cells Z41 41))
        obtain ⟨r3, k3⟩ := alloc_set w2 Z41 Z41 41
        obtain ⟨g9, g6, kw⟩ := HH.out (k2.trans k3)
        have hR : wr.heap.size ≤ w2.heap.size := k2.size
        have lR := (Array.getElem?_eq_some_iff.1 r3).1
        have g9' := Lib.hid g9
        have K23 := Lib.hid (k2.trans k3)
        have r3' := Lib.hid r3
        have HF := Lib.hid (f_over s (.slice a l.length c))
        rw [HO.out] at HF
        clear g9 g6 r3 k3 kw k2
        go_wp2_with (first | fail | (with_reducible refine alloc41 ?_) | ((with_reducible refine store41 (C := Z41) ?_ ?_ z2.out rfl rfl Z41_one ?_); rfl; rfl) | ((with_reducible refine load27 (C := sgC s (.slice a l.length c)) (g := w1.heap.size) (o := 0) ?_ (range_row g9'.out) (sgC_size _ _) ?_); rfl))
        refine (HF.out _).mono ?_
        rintro e w3 ⟨rfl, k4⟩
        have rR := (k4.block _ lR id).trans r3'.out
        have K3 := Lib.hid (K23.out.trans k4)
        obtain ⟨g9, -, kw⟩ := HH.out K3.out
        have b9 := Lib.hid g9
        have bR := Lib.hid rR
        have KK := KW.out.trans kw
        have q2 := (cell_of_row _ _ 2 _ _ _ b9.out).trans (show (sgC s (.slice a l.length c))[2]? = some (.int .i64 s.pos) from rfl)
        have q3 := (cell_of_row _ _ 3 _ _ _ b9.out).trans (show (sgC s (.slice a l.length c))[3]? = some (.int .i64 s.tries) from rfl)
        have q5 := (cell_of_row _ _ 5 _ _ _ b9.out).trans (show (sgC s (.slice a l.length c))[5]? = some (.bool s.back) from rfl)
        clear g9' K23 r3' k4 rR g9 kw HF z2
        by_cases hkl : k < ans.length
        · obtain ⟨bb, oo, cc, ev, hcell⟩ := HAR.out.addr (by omega)
          simp only [Value.slice.injEq, true_and] at ev
          obtain ⟨rfl, rfl⟩ := ev
          have hz := hcell k (.int .u8 (ans[k] : Nat)) (by simp [hkl])
          have hbl := HAL.out (List.ne_nil_of_length_pos (by omega)) bb rfl
          have qz := (KK.cell (p := ⟨bb, oo + k, none⟩) hbl id).trans hz
          have hzb := HA2.out ans[k] (List.getElem_mem _)
          have HB := Lib.hid (show (ans[k]?).getD 0 = ans[k] by rw [List.getElem?_eq_getElem hkl]; rfl)
          clear hz hcell hbl KK
          generalize ans[k] = z at *
          go_upto_region 14 with (fail)
          have hz3 : z % 3 = 0 ∨ z % 3 = 1 ∨ z % 3 = 2 := by omega
          rcases hz3 with hz3 | hz3 | hz3
          · have HA0 : Hid ((ans[k]?).getD 0 % 3 = 0) := by show _ = _; rw [HB.out]; exact hz3
            have ez : (z : Int) % 3 = 0 := by omega
            rw [ez]
            clear ez hz3 HB hzb qz
            cases hbk : s.back with
            | true =>
              have hb2 := Lib.hid hbk
              rw [hbk] at q5
              have STF : (target s) = stepOf s := by have := ST.out; rw [hbk] at this; simpa using this
              have EG : Hid (go s ⟨3, s.seq, target s, s.tries, true, true, 0⟩ lim = some (answered (more s) true)) := by
                have := go_answer (lim := lim) HW.out HO.out hsn.out true
                rw [← STF, hbk] at this; exact this
              have IT : Hid (iter l lim ans (n + 1) = (answered (more s) true, k + 1)) := by have := IT0.out 0 HA0.out; rw [if_neg (by decide)] at this; exact this
              generalize answered (more s) true = t at EG IT
              clear STF ST hbk
              go_wp2_with (first | fail | ((with_reducible refine load27 (C := sgC s (.slice a l.length c)) (g := w1.heap.size) (o := 0) ?_ (range_row b9.out) (sgC_size _ _) ?_); rfl))
              refine (f_rtarget s (.slice a l.length c) _ OK.out (HSR.out.kept K3.out)).mono ?_
              rintro e w4 ⟨rfl, kt⟩
              have lR3 := (Array.getElem?_eq_some_iff.1 bR.out).1
              have rR := (kt.block _ lR3 id).trans bR.out
              have K3' := Lib.hid (K3.out.trans kt)
              obtain ⟨g9, -, kw⟩ := HH.out K3'.out
              clear b9 bR K3 q2 q3 q5 kt
              have b9 := Lib.hid g9
              have bR := Lib.hid rR
              have K3 := Lib.hid K3'.out
              have q3 := (cell_of_row _ _ 3 _ _ _ b9.out).trans (show (sgC s (.slice a l.length c))[3]? = some (.int .i64 s.tries) from rfl)
              have q5 := (cell_of_row _ _ 5 _ _ _ b9.out).trans (show (sgC s (.slice a l.length c))[5]? = some (.bool s.back) from rfl)
              rw [hb2.out] at q5
              clear g9 rR K3' kw
              obtain ⟨g9, gR, KA⟩ := row_row b9.out bR.out (by omega) K3.out hR (ansC (target s) s.tries true true)
              have CR := Lib.hid (ansC_recish (target s) s.tries true true)
              have c9 := (cell_of_row _ _ 9 _ _ _ g9).trans (show (sgC s (.slice a l.length c))[9]? = some (.int .i64 s.seq) from rfl)
              have c2 := (cell_of_row _ _ 2 _ _ _ gR).trans CR.out.c2
              have f2 := free_of_block (j := 2) gR
              obtain ⟨x9, xR, K4⟩ := cell_row (k := 2) g9 gR (by omega) KA hR (.int .i64 s.seq)
              have y9 := Lib.hid x9
              have yR := Lib.hid xR
              have Y4 := Lib.hid K4
              have CS := Lib.hid (CR.out.seq s.seq)
              clear x9 xR K4 g9 gR KA
              go_wp2_with (first | fail | ((with_reducible refine build41a (k := target s) (tr := s.tries) (bk := true) (gd := true) ?_ ?_ ?_ ?_ ?_); rfl; rfl; rfl; rfl) | ((with_reducible refine store41 (C := ansC (target s) s.tries true true) ?_ ?_ bR.out rfl (ansC_size _ _ _ _) (ansC_one _ _ _ _) ?_); rfl; rfl) | ((with_reducible refine load27 (C := sgC s (.slice a l.length c)) (g := w1.heap.size) (o := 0) ?_ (range_row y9.out) (sgC_size _ _) ?_); rfl) | ((with_reducible refine load41 (C := (ansC (target s) s.tries true true).setIfInBounds 2 (.int .i64 s.seq)) (g := w2.heap.size) (o := 0) ?_ (range_row yR.out) CS.out.size ?_); rfl))
              refine (f_go_is EG.out (.slice a l.length c) ((ansC (target s) s.tries true true).setIfInBounds 2 (.int .i64 s.seq)) _ CS.out OK.out (HSR.out.kept Y4.out) h1 h9 rfl hsn.out HO.out hwk.out hsq1.out).mono ?_
              rintro e w5 ⟨rfl, k5⟩
              obtain ⟨g9, g6, kw⟩ := HH.out (Y4.out.trans k5)
              have z5 := Lib.hid (heap_alloc_new w5 (.cells Z27 27))
              obtain ⟨rT, kT⟩ := alloc_set w5 Z27 (sgC t (.slice a l.length c)) 27
              obtain ⟨h9', -, kF⟩ := HH.out ((Y4.out.trans k5).trans kT)
              have v9 := Lib.hid h9'
              have vT := Lib.hid rT
              have VF := Lib.hid kF
              clear g9 g6 kw k5 rT kT h9' kF b9 bR K3 CR c9 c2 f2 y9 yR Y4 CS q3 q5
              go_wp2_with (first | fail | (with_reducible refine alloc27 ?_) | ((with_reducible refine store27 (C := sgC t (.slice a l.length c)) ?_ ?_ z5.out hz27 (sgC_size _ _) (sgC_one _ _ _ _) ?_); rfl; rfl) | ((with_reducible refine store27 (C := sgC t (.slice a l.length c)) ?_ ?_ v9.out (sgC_size _ _) (sgC_size _ _) (sgC_one _ _ _ _) ?_); rfl; rfl) | ((with_reducible refine load27 (C := sgC t (.slice a l.length c)) (g := w5.heap.size) (o := 0) ?_ (range_row vT.out) (sgC_size _ _) ?_); rfl))
              go_roundw
              case rel => exact ⟨n + 1, k + 1, t, by first | rfl | go_num, by go_num, IT.out, HNX.out, setRow_heap _ _ _ _ _ _ v9.out, VF.out.setRow (Nat.le_refl _) _⟩
              case measure => simp [intOf]; omega
            | false =>
              rw [hbk] at q5
              have STF : ((s.pos : Int)) = stepOf s := by have := ST.out; rw [hbk] at this; simpa using this
              have EG : Hid (go s ⟨3, s.seq, (s.pos : Int), s.tries, false, true, 0⟩ lim = some (answered (more s) true)) := by
                have := go_answer (lim := lim) HW.out HO.out hsn.out true
                rw [← STF, hbk] at this; exact this
              have IT : Hid (iter l lim ans (n + 1) = (answered (more s) true, k + 1)) := by have := IT0.out 0 HA0.out; rw [if_neg (by decide)] at this; exact this
              generalize answered (more s) true = t at EG IT
              clear STF ST hbk
              obtain ⟨g9, gR, KA⟩ := row_row b9.out bR.out (by omega) K3.out hR (ansC ((s.pos : Int)) s.tries false true)
              have CR := Lib.hid (ansC_recish ((s.pos : Int)) s.tries false true)
              have c9 := (cell_of_row _ _ 9 _ _ _ g9).trans (show (sgC s (.slice a l.length c))[9]? = some (.int .i64 s.seq) from rfl)
              have c2 := (cell_of_row _ _ 2 _ _ _ gR).trans CR.out.c2
              have f2 := free_of_block (j := 2) gR
              obtain ⟨x9, xR, K4⟩ := cell_row (k := 2) g9 gR (by omega) KA hR (.int .i64 s.seq)
              have y9 := Lib.hid x9
              have yR := Lib.hid xR
              have Y4 := Lib.hid K4
              have CS := Lib.hid (CR.out.seq s.seq)
              clear x9 xR K4 g9 gR KA
              go_wp2_with (first | fail | ((with_reducible refine build41a (k := (s.pos : Int)) (tr := s.tries) (bk := false) (gd := true) ?_ ?_ ?_ ?_ ?_); rfl; rfl; rfl; rfl) | ((with_reducible refine store41 (C := ansC ((s.pos : Int)) s.tries false true) ?_ ?_ bR.out rfl (ansC_size _ _ _ _) (ansC_one _ _ _ _) ?_); rfl; rfl) | ((with_reducible refine load27 (C := sgC s (.slice a l.length c)) (g := w1.heap.size) (o := 0) ?_ (range_row y9.out) (sgC_size _ _) ?_); rfl) | ((with_reducible refine load41 (C := (ansC ((s.pos : Int)) s.tries false true).setIfInBounds 2 (.int .i64 s.seq)) (g := w2.heap.size) (o := 0) ?_ (range_row yR.out) CS.out.size ?_); rfl))
              refine (f_go_is EG.out (.slice a l.length c) ((ansC ((s.pos : Int)) s.tries false true).setIfInBounds 2 (.int .i64 s.seq)) _ CS.out OK.out (HSR.out.kept Y4.out) h1 h9 rfl hsn.out HO.out hwk.out hsq1.out).mono ?_
              rintro e w5 ⟨rfl, k5⟩
              obtain ⟨g9, g6, kw⟩ := HH.out (Y4.out.trans k5)
              have z5 := Lib.hid (heap_alloc_new w5 (.cells Z27 27))
              obtain ⟨rT, kT⟩ := alloc_set w5 Z27 (sgC t (.slice a l.length c)) 27
              obtain ⟨h9', -, kF⟩ := HH.out ((Y4.out.trans k5).trans kT)
              have v9 := Lib.hid h9'
              have vT := Lib.hid rT
              have VF := Lib.hid kF
              clear g9 g6 kw k5 rT kT h9' kF b9 bR K3 CR c9 c2 f2 y9 yR Y4 CS q3 q5 q2
              go_wp2_with (first | fail | (with_reducible refine alloc27 ?_) | ((with_reducible refine store27 (C := sgC t (.slice a l.length c)) ?_ ?_ z5.out hz27 (sgC_size _ _) (sgC_one _ _ _ _) ?_); rfl; rfl) | ((with_reducible refine store27 (C := sgC t (.slice a l.length c)) ?_ ?_ v9.out (sgC_size _ _) (sgC_size _ _) (sgC_one _ _ _ _) ?_); rfl; rfl) | ((with_reducible refine load27 (C := sgC t (.slice a l.length c)) (g := w5.heap.size) (o := 0) ?_ (range_row vT.out) (sgC_size _ _) ?_); rfl))
              go_roundw
              case rel => exact ⟨n + 1, k + 1, t, by first | rfl | go_num, by go_num, IT.out, HNX.out, setRow_heap _ _ _ _ _ _ v9.out, VF.out.setRow (Nat.le_refl _) _⟩
              case measure => simp [intOf]; omega
          · have HA0 : Hid ((ans[k]?).getD 0 % 3 = 1) := by show _ = _; rw [HB.out]; exact hz3
            have ez : (z : Int) % 3 = 1 := by omega
            rw [ez]
            clear ez hz3 HB hzb qz
            cases hbk : s.back with
            | true =>
              have hb2 := Lib.hid hbk
              rw [hbk] at q5
              have STF : (target s) = stepOf s := by have := ST.out; rw [hbk] at this; simpa using this
              have EG : Hid (go s ⟨3, s.seq, target s, s.tries, true, false, 0⟩ lim = some (answered (more s) false)) := by
                have := go_answer (lim := lim) HW.out HO.out hsn.out false
                rw [← STF, hbk] at this; exact this
              have IT : Hid (iter l lim ans (n + 1) = (answered (more s) false, k + 1)) := by have := IT0.out 1 HA0.out; rw [if_neg (by decide)] at this; exact this
              generalize answered (more s) false = t at EG IT
              clear STF ST hbk
              go_wp2_with (first | fail | ((with_reducible refine load27 (C := sgC s (.slice a l.length c)) (g := w1.heap.size) (o := 0) ?_ (range_row b9.out) (sgC_size _ _) ?_); rfl))
              refine (f_rtarget s (.slice a l.length c) _ OK.out (HSR.out.kept K3.out)).mono ?_
              rintro e w4 ⟨rfl, kt⟩
              have lR3 := (Array.getElem?_eq_some_iff.1 bR.out).1
              have rR := (kt.block _ lR3 id).trans bR.out
              have K3' := Lib.hid (K3.out.trans kt)
              obtain ⟨g9, -, kw⟩ := HH.out K3'.out
              clear b9 bR K3 q2 q3 q5 kt
              have b9 := Lib.hid g9
              have bR := Lib.hid rR
              have K3 := Lib.hid K3'.out
              have q3 := (cell_of_row _ _ 3 _ _ _ b9.out).trans (show (sgC s (.slice a l.length c))[3]? = some (.int .i64 s.tries) from rfl)
              have q5 := (cell_of_row _ _ 5 _ _ _ b9.out).trans (show (sgC s (.slice a l.length c))[5]? = some (.bool s.back) from rfl)
              rw [hb2.out] at q5
              clear g9 rR K3' kw
              obtain ⟨g9, gR, KA⟩ := row_row b9.out bR.out (by omega) K3.out hR (ansC (target s) s.tries true false)
              have CR := Lib.hid (ansC_recish (target s) s.tries true false)
              have c9 := (cell_of_row _ _ 9 _ _ _ g9).trans (show (sgC s (.slice a l.length c))[9]? = some (.int .i64 s.seq) from rfl)
              have c2 := (cell_of_row _ _ 2 _ _ _ gR).trans CR.out.c2
              have f2 := free_of_block (j := 2) gR
              obtain ⟨x9, xR, K4⟩ := cell_row (k := 2) g9 gR (by omega) KA hR (.int .i64 s.seq)
              have y9 := Lib.hid x9
              have yR := Lib.hid xR
              have Y4 := Lib.hid K4
              have CS := Lib.hid (CR.out.seq s.seq)
              clear x9 xR K4 g9 gR KA
              go_wp2_with (first | fail | ((with_reducible refine build41a (k := target s) (tr := s.tries) (bk := true) (gd := false) ?_ ?_ ?_ ?_ ?_); rfl; rfl; rfl; rfl) | ((with_reducible refine store41 (C := ansC (target s) s.tries true false) ?_ ?_ bR.out rfl (ansC_size _ _ _ _) (ansC_one _ _ _ _) ?_); rfl; rfl) | ((with_reducible refine load27 (C := sgC s (.slice a l.length c)) (g := w1.heap.size) (o := 0) ?_ (range_row y9.out) (sgC_size _ _) ?_); rfl) | ((with_reducible refine load41 (C := (ansC (target s) s.tries true false).setIfInBounds 2 (.int .i64 s.seq)) (g := w2.heap.size) (o := 0) ?_ (range_row yR.out) CS.out.size ?_); rfl))
              refine (f_go_is EG.out (.slice a l.length c) ((ansC (target s) s.tries true false).setIfInBounds 2 (.int .i64 s.seq)) _ CS.out OK.out (HSR.out.kept Y4.out) h1 h9 rfl hsn.out HO.out hwk.out hsq1.out).mono ?_
              rintro e w5 ⟨rfl, k5⟩
              obtain ⟨g9, g6, kw⟩ := HH.out (Y4.out.trans k5)
              have z5 := Lib.hid (heap_alloc_new w5 (.cells Z27 27))
              obtain ⟨rT, kT⟩ := alloc_set w5 Z27 (sgC t (.slice a l.length c)) 27
              obtain ⟨h9', -, kF⟩ := HH.out ((Y4.out.trans k5).trans kT)
              have v9 := Lib.hid h9'
              have vT := Lib.hid rT
              have VF := Lib.hid kF
              clear g9 g6 kw k5 rT kT h9' kF b9 bR K3 CR c9 c2 f2 y9 yR Y4 CS q3 q5
              go_wp2_with (first | fail | (with_reducible refine alloc27 ?_) | ((with_reducible refine store27 (C := sgC t (.slice a l.length c)) ?_ ?_ z5.out hz27 (sgC_size _ _) (sgC_one _ _ _ _) ?_); rfl; rfl) | ((with_reducible refine store27 (C := sgC t (.slice a l.length c)) ?_ ?_ v9.out (sgC_size _ _) (sgC_size _ _) (sgC_one _ _ _ _) ?_); rfl; rfl) | ((with_reducible refine load27 (C := sgC t (.slice a l.length c)) (g := w5.heap.size) (o := 0) ?_ (range_row vT.out) (sgC_size _ _) ?_); rfl))
              go_roundw
              case rel => exact ⟨n + 1, k + 1, t, by first | rfl | go_num, by go_num, IT.out, HNX.out, setRow_heap _ _ _ _ _ _ v9.out, VF.out.setRow (Nat.le_refl _) _⟩
              case measure => simp [intOf]; omega
            | false =>
              rw [hbk] at q5
              have STF : ((s.pos : Int)) = stepOf s := by have := ST.out; rw [hbk] at this; simpa using this
              have EG : Hid (go s ⟨3, s.seq, (s.pos : Int), s.tries, false, false, 0⟩ lim = some (answered (more s) false)) := by
                have := go_answer (lim := lim) HW.out HO.out hsn.out false
                rw [← STF, hbk] at this; exact this
              have IT : Hid (iter l lim ans (n + 1) = (answered (more s) false, k + 1)) := by have := IT0.out 1 HA0.out; rw [if_neg (by decide)] at this; exact this
              generalize answered (more s) false = t at EG IT
              clear STF ST hbk
              obtain ⟨g9, gR, KA⟩ := row_row b9.out bR.out (by omega) K3.out hR (ansC ((s.pos : Int)) s.tries false false)
              have CR := Lib.hid (ansC_recish ((s.pos : Int)) s.tries false false)
              have c9 := (cell_of_row _ _ 9 _ _ _ g9).trans (show (sgC s (.slice a l.length c))[9]? = some (.int .i64 s.seq) from rfl)
              have c2 := (cell_of_row _ _ 2 _ _ _ gR).trans CR.out.c2
              have f2 := free_of_block (j := 2) gR
              obtain ⟨x9, xR, K4⟩ := cell_row (k := 2) g9 gR (by omega) KA hR (.int .i64 s.seq)
              have y9 := Lib.hid x9
              have yR := Lib.hid xR
              have Y4 := Lib.hid K4
              have CS := Lib.hid (CR.out.seq s.seq)
              clear x9 xR K4 g9 gR KA
              go_wp2_with (first | fail | ((with_reducible refine build41a (k := (s.pos : Int)) (tr := s.tries) (bk := false) (gd := false) ?_ ?_ ?_ ?_ ?_); rfl; rfl; rfl; rfl) | ((with_reducible refine store41 (C := ansC ((s.pos : Int)) s.tries false false) ?_ ?_ bR.out rfl (ansC_size _ _ _ _) (ansC_one _ _ _ _) ?_); rfl; rfl) | ((with_reducible refine load27 (C := sgC s (.slice a l.length c)) (g := w1.heap.size) (o := 0) ?_ (range_row y9.out) (sgC_size _ _) ?_); rfl) | ((with_reducible refine load41 (C := (ansC ((s.pos : Int)) s.tries false false).setIfInBounds 2 (.int .i64 s.seq)) (g := w2.heap.size) (o := 0) ?_ (range_row yR.out) CS.out.size ?_); rfl))
              refine (f_go_is EG.out (.slice a l.length c) ((ansC ((s.pos : Int)) s.tries false false).setIfInBounds 2 (.int .i64 s.seq)) _ CS.out OK.out (HSR.out.kept Y4.out) h1 h9 rfl hsn.out HO.out hwk.out hsq1.out).mono ?_
              rintro e w5 ⟨rfl, k5⟩
              obtain ⟨g9, g6, kw⟩ := HH.out (Y4.out.trans k5)
              have z5 := Lib.hid (heap_alloc_new w5 (.cells Z27 27))
              obtain ⟨rT, kT⟩ := alloc_set w5 Z27 (sgC t (.slice a l.length c)) 27
              obtain ⟨h9', -, kF⟩ := HH.out ((Y4.out.trans k5).trans kT)
              have v9 := Lib.hid h9'
              have vT := Lib.hid rT
              have VF := Lib.hid kF
              clear g9 g6 kw k5 rT kT h9' kF b9 bR K3 CR c9 c2 f2 y9 yR Y4 CS q3 q5 q2
              go_wp2_with (first | fail | (with_reducible refine alloc27 ?_) | ((with_reducible refine store27 (C := sgC t (.slice a l.length c)) ?_ ?_ z5.out hz27 (sgC_size _ _) (sgC_one _ _ _ _) ?_); rfl; rfl) | ((with_reducible refine store27 (C := sgC t (.slice a l.length c)) ?_ ?_ v9.out (sgC_size _ _) (sgC_size _ _) (sgC_one _ _ _ _) ?_); rfl; rfl) | ((with_reducible refine load27 (C := sgC t (.slice a l.length c)) (g := w5.heap.size) (o := 0) ?_ (range_row vT.out) (sgC_size _ _) ?_); rfl))
              go_roundw
              case rel => exact ⟨n + 1, k + 1, t, by first | rfl | go_num, by go_num, IT.out, HNX.out, setRow_heap _ _ _ _ _ _ v9.out, VF.out.setRow (Nat.le_refl _) _⟩
              case measure => simp [intOf]; omega
          · have HA0 : Hid ((ans[k]?).getD 0 % 3 = 2) := by show _ = _; rw [HB.out]; exact hz3
            have ez : (z : Int) % 3 = 2 := by omega
            rw [ez]
            clear ez hz3 HB hzb qz
            cases hbk : s.back with
            | true =>
              have hb2 := Lib.hid hbk
              rw [hbk] at q5
              have STF : (target s) = stepOf s := by have := ST.out; rw [hbk] at this; simpa using this
              have EG : Hid (go s ⟨4, s.seq, target s, s.tries, true, false, 0⟩ lim = some (lapsed (more s) lim)) := by
                have := go_lapse (lim := lim) HW.out HO.out hsn.out false
                rw [← STF, hbk] at this; exact this
              have IT : Hid (iter l lim ans (n + 1) = (lapsed (more s) lim, k + 1)) := by have := IT0.out 2 HA0.out; rw [if_pos rfl] at this; exact this
              generalize lapsed (more s) lim = t at EG IT
              clear STF ST hbk
              go_wp2_with (first | fail | ((with_reducible refine load27 (C := sgC s (.slice a l.length c)) (g := w1.heap.size) (o := 0) ?_ (range_row b9.out) (sgC_size _ _) ?_); rfl))
              refine (f_rtarget s (.slice a l.length c) _ OK.out (HSR.out.kept K3.out)).mono ?_
              rintro e w4 ⟨rfl, kt⟩
              have lR3 := (Array.getElem?_eq_some_iff.1 bR.out).1
              have rR := (kt.block _ lR3 id).trans bR.out
              have K3' := Lib.hid (K3.out.trans kt)
              obtain ⟨g9, -, kw⟩ := HH.out K3'.out
              clear b9 bR K3 q2 q3 q5 kt
              have b9 := Lib.hid g9
              have bR := Lib.hid rR
              have K3 := Lib.hid K3'.out
              have q3 := (cell_of_row _ _ 3 _ _ _ b9.out).trans (show (sgC s (.slice a l.length c))[3]? = some (.int .i64 s.tries) from rfl)
              have q5 := (cell_of_row _ _ 5 _ _ _ b9.out).trans (show (sgC s (.slice a l.length c))[5]? = some (.bool s.back) from rfl)
              rw [hb2.out] at q5
              clear g9 rR K3' kw
              obtain ⟨g9, gR, KA⟩ := row_row b9.out bR.out (by omega) K3.out hR (ansC (target s) s.tries true false)
              have CA := ansC_recish (target s) s.tries true false
              have d0 := (cell_of_row _ _ 0 _ _ _ gR).trans CA.c0
              have e0 := free_of_block (j := 0) gR
              obtain ⟨g9, gR, KA⟩ := cell_row (k := 0) g9 gR (by omega) KA hR (.int .i64 4)
              have d6 := (cell_of_row _ _ 6 _ _ _ gR).trans ((Array.getElem?_setIfInBounds_ne (by decide)).trans CA.c6)
              have e6 := free_of_block (j := 6) gR
              obtain ⟨g9, gR, KA⟩ := cell_row (k := 6) g9 gR (by omega) KA hR (.bool false)
              have CR := Lib.hid CA.lapse
              clear CA
              have c9 := (cell_of_row _ _ 9 _ _ _ g9).trans (show (sgC s (.slice a l.length c))[9]? = some (.int .i64 s.seq) from rfl)
              have c2 := (cell_of_row _ _ 2 _ _ _ gR).trans CR.out.c2
              have f2 := free_of_block (j := 2) gR
              obtain ⟨x9, xR, K4⟩ := cell_row (k := 2) g9 gR (by omega) KA hR (.int .i64 s.seq)
              have y9 := Lib.hid x9
              have yR := Lib.hid xR
              have Y4 := Lib.hid K4
              have CS := Lib.hid (CR.out.seq s.seq)
              clear x9 xR K4 g9 gR KA
              go_wp2_with (first | fail | ((with_reducible refine build41a (k := target s) (tr := s.tries) (bk := true) (gd := false) ?_ ?_ ?_ ?_ ?_); rfl; rfl; rfl; rfl) | ((with_reducible refine store41 (C := ansC (target s) s.tries true false) ?_ ?_ bR.out rfl (ansC_size _ _ _ _) (ansC_one _ _ _ _) ?_); rfl; rfl) | ((with_reducible refine load27 (C := sgC s (.slice a l.length c)) (g := w1.heap.size) (o := 0) ?_ (range_row y9.out) (sgC_size _ _) ?_); rfl) | ((with_reducible refine load41 (C := (((ansC (target s) s.tries true false).setIfInBounds 0 (.int .i64 4)).setIfInBounds 6 (.bool false)).setIfInBounds 2 (.int .i64 s.seq)) (g := w2.heap.size) (o := 0) ?_ (range_row yR.out) CS.out.size ?_); rfl))
              refine (f_go_is EG.out (.slice a l.length c) ((((ansC (target s) s.tries true false).setIfInBounds 0 (.int .i64 4)).setIfInBounds 6 (.bool false)).setIfInBounds 2 (.int .i64 s.seq)) _ CS.out OK.out (HSR.out.kept Y4.out) h1 h9 rfl hsn.out HO.out hwk.out hsq1.out).mono ?_
              rintro e w5 ⟨rfl, k5⟩
              obtain ⟨g9, g6, kw⟩ := HH.out (Y4.out.trans k5)
              have z5 := Lib.hid (heap_alloc_new w5 (.cells Z27 27))
              obtain ⟨rT, kT⟩ := alloc_set w5 Z27 (sgC t (.slice a l.length c)) 27
              obtain ⟨h9', -, kF⟩ := HH.out ((Y4.out.trans k5).trans kT)
              have v9 := Lib.hid h9'
              have vT := Lib.hid rT
              have VF := Lib.hid kF
              clear g9 g6 kw k5 rT kT h9' kF b9 bR K3 CR c9 c2 f2 y9 yR Y4 CS q3 q5 d0 e0 d6 e6
              go_wp2_with (first | fail | (with_reducible refine alloc27 ?_) | ((with_reducible refine store27 (C := sgC t (.slice a l.length c)) ?_ ?_ z5.out hz27 (sgC_size _ _) (sgC_one _ _ _ _) ?_); rfl; rfl) | ((with_reducible refine store27 (C := sgC t (.slice a l.length c)) ?_ ?_ v9.out (sgC_size _ _) (sgC_size _ _) (sgC_one _ _ _ _) ?_); rfl; rfl) | ((with_reducible refine load27 (C := sgC t (.slice a l.length c)) (g := w5.heap.size) (o := 0) ?_ (range_row vT.out) (sgC_size _ _) ?_); rfl))
              go_roundw
              case rel => exact ⟨n + 1, k + 1, t, by first | rfl | go_num, by go_num, IT.out, HNX.out, setRow_heap _ _ _ _ _ _ v9.out, VF.out.setRow (Nat.le_refl _) _⟩
              case measure => simp [intOf]; omega
            | false =>
              rw [hbk] at q5
              have STF : ((s.pos : Int)) = stepOf s := by have := ST.out; rw [hbk] at this; simpa using this
              have EG : Hid (go s ⟨4, s.seq, (s.pos : Int), s.tries, false, false, 0⟩ lim = some (lapsed (more s) lim)) := by
                have := go_lapse (lim := lim) HW.out HO.out hsn.out false
                rw [← STF, hbk] at this; exact this
              have IT : Hid (iter l lim ans (n + 1) = (lapsed (more s) lim, k + 1)) := by have := IT0.out 2 HA0.out; rw [if_pos rfl] at this; exact this
              generalize lapsed (more s) lim = t at EG IT
              clear STF ST hbk
              obtain ⟨g9, gR, KA⟩ := row_row b9.out bR.out (by omega) K3.out hR (ansC ((s.pos : Int)) s.tries false false)
              have CA := ansC_recish ((s.pos : Int)) s.tries false false
              have d0 := (cell_of_row _ _ 0 _ _ _ gR).trans CA.c0
              have e0 := free_of_block (j := 0) gR
              obtain ⟨g9, gR, KA⟩ := cell_row (k := 0) g9 gR (by omega) KA hR (.int .i64 4)
              have d6 := (cell_of_row _ _ 6 _ _ _ gR).trans ((Array.getElem?_setIfInBounds_ne (by decide)).trans CA.c6)
              have e6 := free_of_block (j := 6) gR
              obtain ⟨g9, gR, KA⟩ := cell_row (k := 6) g9 gR (by omega) KA hR (.bool false)
              have CR := Lib.hid CA.lapse
              clear CA
              have c9 := (cell_of_row _ _ 9 _ _ _ g9).trans (show (sgC s (.slice a l.length c))[9]? = some (.int .i64 s.seq) from rfl)
              have c2 := (cell_of_row _ _ 2 _ _ _ gR).trans CR.out.c2
              have f2 := free_of_block (j := 2) gR
              obtain ⟨x9, xR, K4⟩ := cell_row (k := 2) g9 gR (by omega) KA hR (.int .i64 s.seq)
              have y9 := Lib.hid x9
              have yR := Lib.hid xR
              have Y4 := Lib.hid K4
              have CS := Lib.hid (CR.out.seq s.seq)
              clear x9 xR K4 g9 gR KA
              go_wp2_with (first | fail | ((with_reducible refine build41a (k := (s.pos : Int)) (tr := s.tries) (bk := false) (gd := false) ?_ ?_ ?_ ?_ ?_); rfl; rfl; rfl; rfl) | ((with_reducible refine store41 (C := ansC ((s.pos : Int)) s.tries false false) ?_ ?_ bR.out rfl (ansC_size _ _ _ _) (ansC_one _ _ _ _) ?_); rfl; rfl) | ((with_reducible refine load27 (C := sgC s (.slice a l.length c)) (g := w1.heap.size) (o := 0) ?_ (range_row y9.out) (sgC_size _ _) ?_); rfl) | ((with_reducible refine load41 (C := (((ansC ((s.pos : Int)) s.tries false false).setIfInBounds 0 (.int .i64 4)).setIfInBounds 6 (.bool false)).setIfInBounds 2 (.int .i64 s.seq)) (g := w2.heap.size) (o := 0) ?_ (range_row yR.out) CS.out.size ?_); rfl))
              refine (f_go_is EG.out (.slice a l.length c) ((((ansC ((s.pos : Int)) s.tries false false).setIfInBounds 0 (.int .i64 4)).setIfInBounds 6 (.bool false)).setIfInBounds 2 (.int .i64 s.seq)) _ CS.out OK.out (HSR.out.kept Y4.out) h1 h9 rfl hsn.out HO.out hwk.out hsq1.out).mono ?_
              rintro e w5 ⟨rfl, k5⟩
              obtain ⟨g9, g6, kw⟩ := HH.out (Y4.out.trans k5)
              have z5 := Lib.hid (heap_alloc_new w5 (.cells Z27 27))
              obtain ⟨rT, kT⟩ := alloc_set w5 Z27 (sgC t (.slice a l.length c)) 27
              obtain ⟨h9', -, kF⟩ := HH.out ((Y4.out.trans k5).trans kT)
              have v9 := Lib.hid h9'
              have vT := Lib.hid rT
              have VF := Lib.hid kF
              clear g9 g6 kw k5 rT kT h9' kF b9 bR K3 CR c9 c2 f2 y9 yR Y4 CS q3 q5 d0 e0 d6 e6 q2
              go_wp2_with (first | fail | (with_reducible refine alloc27 ?_) | ((with_reducible refine store27 (C := sgC t (.slice a l.length c)) ?_ ?_ z5.out hz27 (sgC_size _ _) (sgC_one _ _ _ _) ?_); rfl; rfl) | ((with_reducible refine store27 (C := sgC t (.slice a l.length c)) ?_ ?_ v9.out (sgC_size _ _) (sgC_size _ _) (sgC_one _ _ _ _) ?_); rfl; rfl) | ((with_reducible refine load27 (C := sgC t (.slice a l.length c)) (g := w5.heap.size) (o := 0) ?_ (range_row vT.out) (sgC_size _ _) ?_); rfl))
              go_roundw
              case rel => exact ⟨n + 1, k + 1, t, by first | rfl | go_num, by go_num, IT.out, HNX.out, setRow_heap _ _ _ _ _ _ v9.out, VF.out.setRow (Nat.le_refl _) _⟩
              case measure => simp [intOf]; omega
        · have HA0 : Hid ((ans[k]?).getD 0 % 3 = 0) := by show _ = _; rw [List.getElem?_eq_none (by omega)]; rfl
          clear KK
          go_upto_region 14 with (fail)
          cases hbk : s.back with
          | true =>
            have hb2 := Lib.hid hbk
            rw [hbk] at q5
            have STF : (target s) = stepOf s := by have := ST.out; rw [hbk] at this; simpa using this
            have EG : Hid (go s ⟨3, s.seq, target s, s.tries, true, true, 0⟩ lim = some (answered (more s) true)) := by
              have := go_answer (lim := lim) HW.out HO.out hsn.out true
              rw [← STF, hbk] at this; exact this
            have IT : Hid (iter l lim ans (n + 1) = (answered (more s) true, k + 1)) := by have := IT0.out 0 HA0.out; rw [if_neg (by decide)] at this; exact this
            generalize answered (more s) true = t at EG IT
            clear STF ST hbk
            go_wp2_with (first | fail | ((with_reducible refine load27 (C := sgC s (.slice a l.length c)) (g := w1.heap.size) (o := 0) ?_ (range_row b9.out) (sgC_size _ _) ?_); rfl))
            refine (f_rtarget s (.slice a l.length c) _ OK.out (HSR.out.kept K3.out)).mono ?_
            rintro e w4 ⟨rfl, kt⟩
            have lR3 := (Array.getElem?_eq_some_iff.1 bR.out).1
            have rR := (kt.block _ lR3 id).trans bR.out
            have K3' := Lib.hid (K3.out.trans kt)
            obtain ⟨g9, -, kw⟩ := HH.out K3'.out
            clear b9 bR K3 q2 q3 q5 kt
            have b9 := Lib.hid g9
            have bR := Lib.hid rR
            have K3 := Lib.hid K3'.out
            have q3 := (cell_of_row _ _ 3 _ _ _ b9.out).trans (show (sgC s (.slice a l.length c))[3]? = some (.int .i64 s.tries) from rfl)
            have q5 := (cell_of_row _ _ 5 _ _ _ b9.out).trans (show (sgC s (.slice a l.length c))[5]? = some (.bool s.back) from rfl)
            rw [hb2.out] at q5
            clear g9 rR K3' kw
            obtain ⟨g9, gR, KA⟩ := row_row b9.out bR.out (by omega) K3.out hR (ansC (target s) s.tries true true)
            have CR := Lib.hid (ansC_recish (target s) s.tries true true)
            have c9 := (cell_of_row _ _ 9 _ _ _ g9).trans (show (sgC s (.slice a l.length c))[9]? = some (.int .i64 s.seq) from rfl)
            have c2 := (cell_of_row _ _ 2 _ _ _ gR).trans CR.out.c2
            have f2 := free_of_block (j := 2) gR
            obtain ⟨x9, xR, K4⟩ := cell_row (k := 2) g9 gR (by omega) KA hR (.int .i64 s.seq)
            have y9 := Lib.hid x9
            have yR := Lib.hid xR
            have Y4 := Lib.hid K4
            have CS := Lib.hid (CR.out.seq s.seq)
            clear x9 xR K4 g9 gR KA
            go_wp2_with (first | fail | ((with_reducible refine build41a (k := target s) (tr := s.tries) (bk := true) (gd := true) ?_ ?_ ?_ ?_ ?_); rfl; rfl; rfl; rfl) | ((with_reducible refine store41 (C := ansC (target s) s.tries true true) ?_ ?_ bR.out rfl (ansC_size _ _ _ _) (ansC_one _ _ _ _) ?_); rfl; rfl) | ((with_reducible refine load27 (C := sgC s (.slice a l.length c)) (g := w1.heap.size) (o := 0) ?_ (range_row y9.out) (sgC_size _ _) ?_); rfl) | ((with_reducible refine load41 (C := (ansC (target s) s.tries true true).setIfInBounds 2 (.int .i64 s.seq)) (g := w2.heap.size) (o := 0) ?_ (range_row yR.out) CS.out.size ?_); rfl))
            refine (f_go_is EG.out (.slice a l.length c) ((ansC (target s) s.tries true true).setIfInBounds 2 (.int .i64 s.seq)) _ CS.out OK.out (HSR.out.kept Y4.out) h1 h9 rfl hsn.out HO.out hwk.out hsq1.out).mono ?_
            rintro e w5 ⟨rfl, k5⟩
            obtain ⟨g9, g6, kw⟩ := HH.out (Y4.out.trans k5)
            have z5 := Lib.hid (heap_alloc_new w5 (.cells Z27 27))
            obtain ⟨rT, kT⟩ := alloc_set w5 Z27 (sgC t (.slice a l.length c)) 27
            obtain ⟨h9', -, kF⟩ := HH.out ((Y4.out.trans k5).trans kT)
            have v9 := Lib.hid h9'
            have vT := Lib.hid rT
            have VF := Lib.hid kF
            clear g9 g6 kw k5 rT kT h9' kF b9 bR K3 CR c9 c2 f2 y9 yR Y4 CS q3 q5
            go_wp2_with (first | fail | (with_reducible refine alloc27 ?_) | ((with_reducible refine store27 (C := sgC t (.slice a l.length c)) ?_ ?_ z5.out hz27 (sgC_size _ _) (sgC_one _ _ _ _) ?_); rfl; rfl) | ((with_reducible refine store27 (C := sgC t (.slice a l.length c)) ?_ ?_ v9.out (sgC_size _ _) (sgC_size _ _) (sgC_one _ _ _ _) ?_); rfl; rfl) | ((with_reducible refine load27 (C := sgC t (.slice a l.length c)) (g := w5.heap.size) (o := 0) ?_ (range_row vT.out) (sgC_size _ _) ?_); rfl))
            go_roundw
            case rel => exact ⟨n + 1, k + 1, t, by first | rfl | go_num, by go_num, IT.out, HNX.out, setRow_heap _ _ _ _ _ _ v9.out, VF.out.setRow (Nat.le_refl _) _⟩
            case measure => simp [intOf]; omega
          | false =>
            rw [hbk] at q5
            have STF : ((s.pos : Int)) = stepOf s := by have := ST.out; rw [hbk] at this; simpa using this
            have EG : Hid (go s ⟨3, s.seq, (s.pos : Int), s.tries, false, true, 0⟩ lim = some (answered (more s) true)) := by
              have := go_answer (lim := lim) HW.out HO.out hsn.out true
              rw [← STF, hbk] at this; exact this
            have IT : Hid (iter l lim ans (n + 1) = (answered (more s) true, k + 1)) := by have := IT0.out 0 HA0.out; rw [if_neg (by decide)] at this; exact this
            generalize answered (more s) true = t at EG IT
            clear STF ST hbk
            obtain ⟨g9, gR, KA⟩ := row_row b9.out bR.out (by omega) K3.out hR (ansC ((s.pos : Int)) s.tries false true)
            have CR := Lib.hid (ansC_recish ((s.pos : Int)) s.tries false true)
            have c9 := (cell_of_row _ _ 9 _ _ _ g9).trans (show (sgC s (.slice a l.length c))[9]? = some (.int .i64 s.seq) from rfl)
            have c2 := (cell_of_row _ _ 2 _ _ _ gR).trans CR.out.c2
            have f2 := free_of_block (j := 2) gR
            obtain ⟨x9, xR, K4⟩ := cell_row (k := 2) g9 gR (by omega) KA hR (.int .i64 s.seq)
            have y9 := Lib.hid x9
            have yR := Lib.hid xR
            have Y4 := Lib.hid K4
            have CS := Lib.hid (CR.out.seq s.seq)
            clear x9 xR K4 g9 gR KA
            go_wp2_with (first | fail | ((with_reducible refine build41a (k := (s.pos : Int)) (tr := s.tries) (bk := false) (gd := true) ?_ ?_ ?_ ?_ ?_); rfl; rfl; rfl; rfl) | ((with_reducible refine store41 (C := ansC ((s.pos : Int)) s.tries false true) ?_ ?_ bR.out rfl (ansC_size _ _ _ _) (ansC_one _ _ _ _) ?_); rfl; rfl) | ((with_reducible refine load27 (C := sgC s (.slice a l.length c)) (g := w1.heap.size) (o := 0) ?_ (range_row y9.out) (sgC_size _ _) ?_); rfl) | ((with_reducible refine load41 (C := (ansC ((s.pos : Int)) s.tries false true).setIfInBounds 2 (.int .i64 s.seq)) (g := w2.heap.size) (o := 0) ?_ (range_row yR.out) CS.out.size ?_); rfl))
            refine (f_go_is EG.out (.slice a l.length c) ((ansC ((s.pos : Int)) s.tries false true).setIfInBounds 2 (.int .i64 s.seq)) _ CS.out OK.out (HSR.out.kept Y4.out) h1 h9 rfl hsn.out HO.out hwk.out hsq1.out).mono ?_
            rintro e w5 ⟨rfl, k5⟩
            obtain ⟨g9, g6, kw⟩ := HH.out (Y4.out.trans k5)
            have z5 := Lib.hid (heap_alloc_new w5 (.cells Z27 27))
            obtain ⟨rT, kT⟩ := alloc_set w5 Z27 (sgC t (.slice a l.length c)) 27
            obtain ⟨h9', -, kF⟩ := HH.out ((Y4.out.trans k5).trans kT)
            have v9 := Lib.hid h9'
            have vT := Lib.hid rT
            have VF := Lib.hid kF
            clear g9 g6 kw k5 rT kT h9' kF b9 bR K3 CR c9 c2 f2 y9 yR Y4 CS q3 q5 q2
            go_wp2_with (first | fail | (with_reducible refine alloc27 ?_) | ((with_reducible refine store27 (C := sgC t (.slice a l.length c)) ?_ ?_ z5.out hz27 (sgC_size _ _) (sgC_one _ _ _ _) ?_); rfl; rfl) | ((with_reducible refine store27 (C := sgC t (.slice a l.length c)) ?_ ?_ v9.out (sgC_size _ _) (sgC_size _ _) (sgC_one _ _ _ _) ?_); rfl; rfl) | ((with_reducible refine load27 (C := sgC t (.slice a l.length c)) (g := w5.heap.size) (o := 0) ?_ (range_row vT.out) (sgC_size _ _) ?_); rfl))
            go_roundw
            case rel => exact ⟨n + 1, k + 1, t, by first | rfl | go_num, by go_num, IT.out, HNX.out, setRow_heap _ _ _ _ _ _ v9.out, VF.out.setRow (Nat.le_refl _) _⟩
            case measure => simp [intOf]; omega
end Go.Proofs.Ytklmhegmombegaa
