/-
  The contract of the book's Of. Conditions: as each theorem says.
-/
import Derived.Test.YtklmhegmombegaaDoorBkG
set_option linter.unusedVariables false
set_option linter.unusedSimpArgs false
namespace Go.Proofs.YtklmhegmombegaaDoor.Re
open Go Go.RowKit Go.Proofs.YtklmhegmombegaaDoor.Re.Plain Go.Proofs.YtklmhegmombegaaDoor

namespace Plain
/-- The book behind records, and how many go: from a book on. -/
def ofFrom (lim : Int) : Bk → Nat → List Rx → Bk × Nat
  | b, k, [] => (b, k)
  | b, k, x :: l => match bgo b x lim with
    | some c => ofFrom lim c (k + 1) l
    | none => (b, k)
def bookOf (l : List Rx) (lim : Int) : Bk × Nat := ofFrom lim Bk.zero 0 l
theorem ofFrom_yes {lim : Int} {b c : Bk} {k : Nat} {x : Rx} {l : List Rx} (h : bgo b x lim = some c) : ofFrom lim b k (x :: l) = ofFrom lim c (k + 1) l := by rw [ofFrom, h]
theorem ofFrom_no {lim : Int} {b : Bk} {k : Nat} {x : Rx} {l : List Rx} (h : bgo b x lim = none) : ofFrom lim b k (x :: l) = (b, k) := by rw [ofFrom, h]
end Plain
def frc (p : Array Value × Rx) : List Value := p.1.toList
/-- v holds records. -/
structure HoldsRs (w : World) (v : Value) (rs : List (Array Value × Rx)) : Prop where
  rd : Rd w 109 v rs.length (rs.flatMap frc)
  len : rs.length ≤ maxLen
  rin : ∀ p ∈ rs, RecIn w p.1 p.2
theorem HoldsRs.kept {w w' : World} {v : Value} {rs : List (Array Value × Rx)} (h : HoldsRs w v rs) (k : Kept (fun _ => False) w w') : HoldsRs w' v rs :=
  ⟨h.rd.kept k (fun _ _ h => h), h.len, fun p hp => (h.rin p hp).kept k⟩
theorem HoldsRs.form {w : World} {v : Value} {rs : List (Array Value × Rx)} (h : HoldsRs w v rs) : ∃ a c, v = .slice a rs.length c := by obtain ⟨_, a, c, e, _⟩ := h.rd; exact ⟨a, c, e⟩
theorem HoldsRs.frcs {w : World} {v : Value} {rs : List (Array Value × Rx)} (h : HoldsRs w v rs) : ∀ p ∈ rs, (frc p).length = 109 := fun p hp => by simp [frc, (h.rin p hp).size]
theorem HoldsRs.elem {w : World} {v : Value} {rs : List (Array Value × Rx)} (h : HoldsRs w v rs) {i : Nat} (hi : i < rs.length) :
    ∃ b o c, v = .slice (some ⟨b, o, none⟩) rs.length c ∧ w.rangeAt b (o + i * 109) rs[i].1.toList := h.rd.elem (f := frc) (by decide) h.frcs hi
/-- Of's answer. -/
def OfPost (r : Bk × Nat) (w : World) (e : Ending) (w' : World) : Prop := ∃ sv ss, e = .returned (.tuple #[.agg (bkC r.1.ep sv), .int .i64 (r.2 : Nat)]) ∧ BkIn w' sv ss ∧ ss.map (·.1) = r.1.sagas ∧ (∀ k, Own sv ss k → w.heap.size ≤ k) ∧ Kept (fun _ => False) w w'
theorem results_of {fn : Func} {p t : Tmp} (h : fn.results = #[.cell p 88, .tmp t]) (tmps : Array Value) (w : World) (g : Nat) {C : Array Value} {ty : TypeId} {fr : Nat × Nat} {v : Value}
    (hg : w.heap[g]? = some (.cells C ty fr)) (hC : C.size = 5) (hp : tmps.getD p undef = .pointer (some ⟨g, 0, none⟩)) (hv : tmps.getD t undef = v := by rfl) :
    (results fn tmps).run Tryd.prog w = .ok (.tuple #[.agg C, v]) w := results_88 h tmps w g hg hC hp hv
set_option maxRecDepth 100000 in
set_option maxHeartbeats 8000000 in
theorem f_bof (v : Value) (rs : List (Array Value × Rx)) (lim : Int) (w : World) (hR : HoldsRs w v rs) (hl : rs.length ≤ 1000000) (hstp : ∀ p ∈ rs, p.2.steps.length ≤ 1000000) :
    Calls Tryd.prog 48 #[v, .int .i64 lim] w (OfPost (bookOf (rs.map (·.2)) lim) w) := by
  obtain ⟨a, c, rfl⟩ := hR.form
  have hn1 := heap_alloc2_old w (.cells Z88 88) (.cells Z88 88)
  have hn2 := heap_alloc2_new w (.cells Z88 88) (.cells Z88 88)
  have K2 := Lib.hid (((Kept.refl (fun _ => False) w).alloc (.cells Z88 88)).alloc (.cells Z88 88))
  have G1 := Lib.hid hn1
  have G2 := Lib.hid hn2
  have HR := Lib.hid hR
  clear hR hn1 hn2
  go_enter Tryd.func48, Tryd.ntmps48
  go_upto_region 2 with (first | fail | (with_reducible refine alloc88 ?_))
  generalize (w.alloc (.cells Z88 88)).alloc (.cells Z88 88) = w2 at *
  go_wp2_with fail
  go_loopw [12] (fun i wr => ∃ (k : Nat) (b : Bk) (sv : Value) (ss : List (Sg × Value)), k ≤ rs.length ∧ i = .int .i64 k ∧ bookOf (rs.map (·.2)) lim = ofFrom lim b k ((rs.drop k).map (·.2)) ∧ BGood lim.toNat b ∧ wr.heap[w.heap.size + 1]? = some (.cells (bkC b.ep sv) 88 (0, 0)) ∧ wr.heap[w.heap.size]? = some (.cells Z88 88 (0, 0)) ∧ BkIn wr sv ss ∧ ss.map (·.1) = b.sagas ∧ (∀ j, Own sv ss j → w.heap.size + 1 + 1 ≤ j) ∧ Kept (fun _ => False) w wr) (fun i _ => rs.length - (intOf i).toNat)
  case atStart =>
    exact ⟨0, Bk.zero, .slice none 0 0, [], Nat.zero_le _, rfl, rfl, BGood.zero _, G2.out, G1.out, BkIn.nil _, rfl, (fun j hj => by
      rcases hj with h | ⟨p, hp, _⟩
      · cases h
      · cases hp), K2.out⟩
  case round =>
    obtain ⟨k, b, sv, ss, hk, rfl, hof, hgood, hb, hz, hbk, hmap, hown, K⟩ := hrel
    have HOF := Lib.hid hof
    have HGD := Lib.hid hgood
    have HB := Lib.hid hb
    have HZ := Lib.hid hz
    have HBK := Lib.hid hbk
    have HMP := Lib.hid hmap
    have HOW := Lib.hid hown
    have KR := Lib.hid K
    clear hof hgood hb hz hbk hmap hown
    by_cases hlt : k < rs.length
    · obtain ⟨bb, oo, cc, ev, hr⟩ := (HR.out.kept K).elem hlt
      simp only [Value.slice.injEq, true_and] at ev
      obtain ⟨rfl, rfl⟩ := ev
      have hrec := (HR.out.kept K).rin rs[k] (List.getElem_mem _)
      have hstl := hstp rs[k] (List.getElem_mem _)
      have hdrop : (rs.drop k).map (·.2) = rs[k].2 :: (rs.drop (k + 1)).map (·.2) := by rw [List.drop_eq_getElem_cons hlt]; rfl
      rw [hdrop] at HOF
      clear hdrop K
      generalize rs[k] = q at hr hrec hstl HOF
      obtain ⟨C, x⟩ := q
      dsimp only at hr hrec hstl HOF
      have HRC := Lib.hid hrec
      have HRA := Lib.hid hr
      clear hrec hr
      obtain ⟨ax, cx, rfl⟩ := HBK.out.form
      have z1 := Lib.hid (heap_alloc_new wr (.cells Z30 30))
      obtain ⟨r1, k1⟩ := alloc_set wr Z30 C 30
      have RX := Lib.hid r1
      have R1 := Lib.hid (k1.row HB.out)
      have RZ := Lib.hid (k1.row HZ.out)
      have K1 := Lib.hid k1
      have HGO := Lib.hid (f_bgo b (.slice ax ss.length cx) ss C x lim _ (HRC.out.kept k1) (HBK.out.kept k1) HMP.out HGD.out hstl)
      have hszr := row_lt HB.out
      clear r1 k1 HR
      go_wp2_with (first | fail | ((with_reducible refine load30 (C := C) (g := bb) (o := oo + k * 109) ?_ HRA.out HRC.out.size ?_); rfl) | (with_reducible refine alloc30 ?_) | ((with_reducible refine store30 (C := C) ?_ ?_ z1.out rfl HRC.out.size HRC.out.one ?_); rfl; rfl) | ((with_reducible refine load88 (g := w.heap.size + 1) ?_ R1.out (bkC_size _ _) ?_); rfl) | ((with_reducible refine load30 (C := C) (g := wr.heap.size) (o := 0) ?_ (range_row RX.out) HRC.out.size ?_); rfl))
      refine HGO.out.mono ?_
      rintro e w5 ⟨sv', ss', rfl, hbk', hmap', hown', k5⟩
      obtain ⟨a', c', rfl⟩ := hbk'.form
      have R5 := Lib.hid (k5.row R1.out)
      have Z5 := Lib.hid (k5.row RZ.out)
      have HBK5 := Lib.hid hbk'
      have HMP5 := Lib.hid hmap'
      have HOW5 : Hid (∀ j, Own (.slice a' ss'.length c') ss' j → w.heap.size + 1 + 1 ≤ j) := fun j hj => by
        rcases hown' j hj with h | h
        · exact HOW.out j h
        · have := K1.out.size; omega
      have KW5 := Lib.hid ((KR.out.trans K1.out).trans k5)
      clear hbk' hmap' hown' k5 HGO z1 RX
      cases hbg : bgo b x lim with
      | none =>
        rw [hbg] at HMP5
        rw [ofFrom_no hbg] at HOF
        have one5 := Lib.hid (bkC_one b.ep a' ss'.length c')
        have HMP6 : Hid (ss'.map (·.1) = b.sagas) := HMP5.out
        clear hbg HMP5
        have Y5 : Hid ((w5.setRow (w.heap.size + 1) (bkC b.ep (.slice a' ss'.length c'))).heap[w.heap.size + 1]? = some (.cells (bkC b.ep (.slice a' ss'.length c')) 88 (0, 0))) := setRow_heap _ _ _ _ _ _ R5.out
        have Y0 : Hid ((w5.setRow (w.heap.size + 1) (bkC b.ep (.slice a' ss'.length c'))).heap[w.heap.size]? = some (.cells Z88 88 (0, 0))) := (setRow_other _ _ _ _ (by omega)).trans Z5.out
        go_wp2_with (first | fail | ((with_reducible refine store88 (C := bkC b.ep (.slice a' ss'.length c')) ?_ ?_ R5.out (bkC_size _ _) (bkC_size _ _) one5.out ?_); rfl; rfl) | ((with_reducible refine load88 (g := w.heap.size + 1) ?_ Y5.out (bkC_size _ _) ?_); rfl) | ((with_reducible refine store88 (C := bkC b.ep (.slice a' ss'.length c')) ?_ ?_ Y0.out rfl (bkC_size _ _) one5.out ?_); rfl; rfl))
        have hs : Kept (fun i => i = w.heap.size ∨ i = w.heap.size + 1) w5 ((w5.setRow (w.heap.size + 1) (bkC b.ep (.slice a' ss'.length c'))).setRow w.heap.size (bkC b.ep (.slice a' ss'.length c'))) :=
          ⟨rfl, rfl, rfl, by simp [World.setRow], fun i _ hs => (setRow_other _ _ _ _ (fun e => hs (.inl e))).trans (setRow_other _ _ _ _ (fun e => hs (.inr e)))⟩
        refine bodyPost_ret (results_of (v := .int .i64 k) rfl _ _ _ (setRow_heap _ _ _ _ _ _ Y0.out) (bkC_size _ _) rfl) rfl ?_
        unfold OfPost
        rw [HOF.out]
        exact ⟨_, ss', rfl, HBK5.out.keep hs (fun j hj e => by have := HOW5.out j hj; omega), HMP6.out, fun j hj => by have := HOW5.out j hj; omega, (KW5.out.setRow (by omega) _).setRow (by omega) _⟩
      | some cb =>
        rw [hbg] at HMP5
        rw [ofFrom_yes hbg] at HOF
        have HGD5 := Lib.hid (HGD.out.go hbg)
        have one5 := Lib.hid (bkC_one cb.ep a' ss'.length c')
        have HMP6 : Hid (ss'.map (·.1) = cb.sagas) := HMP5.out
        clear hbg HMP5
        go_wp2_with (first | fail | ((with_reducible refine store88 (C := bkC cb.ep (.slice a' ss'.length c')) ?_ ?_ R5.out (bkC_size _ _) (bkC_size _ _) one5.out ?_); rfl; rfl))
        go_roundw
        case rel =>
          exact ⟨k + 1, cb, _, ss', by omega, by go_num, HOF.out, HGD5.out, setRow_heap _ _ _ _ _ _ R5.out, (setRow_other _ _ _ _ (by omega)).trans Z5.out, HBK5.out.keep (S := fun j => j = w.heap.size + 1) ⟨rfl, rfl, rfl, by simp [World.setRow], fun j _ hs => setRow_other _ _ _ _ hs⟩ (fun j hj e => by have := HOW5.out j hj; omega), HMP6.out, HOW5.out, KW5.out.setRow (by omega) _⟩
        case measure => simp [intOf]; omega
    · obtain rfl : k = rs.length := by omega
      rw [List.drop_length, List.map_nil] at HOF
      obtain ⟨ax, cx, rfl⟩ := HBK.out.form
      have one5 := Lib.hid (bkC_one b.ep ax ss.length cx)
      clear K
      go_wp2_with (first | fail | ((with_reducible refine load88 (g := w.heap.size + 1) ?_ HB.out (bkC_size _ _) ?_); rfl) | ((with_reducible refine store88 (C := bkC b.ep (.slice ax ss.length cx)) ?_ ?_ HZ.out rfl (bkC_size _ _) one5.out ?_); rfl; rfl))
      refine bodyPost_ret (results_of (v := .int .i64 rs.length) rfl _ _ _ (setRow_heap _ _ _ _ _ _ HZ.out) (bkC_size _ _) rfl) rfl ?_
      unfold OfPost
      rw [HOF.out]
      exact ⟨_, ss, rfl, HBK.out.keep (S := fun j => j = w.heap.size) ⟨rfl, rfl, rfl, by simp [World.setRow], fun j _ hs => setRow_other _ _ _ _ hs⟩ (fun j hj e => by have := HOW.out j hj; omega), HMP.out, fun j hj => by have := HOW.out j hj; omega, KR.out.setRow (by omega) _⟩
end Go.Proofs.YtklmhegmombegaaDoor.Re
