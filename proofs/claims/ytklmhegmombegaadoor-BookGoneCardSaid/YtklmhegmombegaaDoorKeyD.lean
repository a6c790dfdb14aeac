/-
  The contract of keys' Holds. Conditions: as each theorem says.
-/
import Derived.Test.YtklmhegmombegaaDoorKeyC
import Derived.Great.FillDense
import Derived.Great.BuildSlice
set_option linter.unusedVariables false
set_option linter.unusedSimpArgs false
namespace Go.Proofs.YtklmhegmombegaaDoor
open Go Go.RowKit Plain
open Go.Proofs.YtklmhegmombegaaDoor.Re (wi wi_true wi_false RecIn Z30 hbs)
open Go.Proofs.YtklmhegmombegaaDoor.Re.Plain (Rx rightB)

section
variable {ops : Array Oper} {rest : List Oper} {dst : Option Tmp} {ty : TypeId} {pos : String} {aft : Array Edge} {a : Act} {w : World} {Q : Exit → Act → World → Prop}
theorem fill_one {places : Array (Nat × Nat)} {z D : Array Value} (hp : places[0]? = some (0, 32)) (hz : z.size = 32) (hD : D.size = 32) : Instr.fill (places[·]?) z [(0, .agg D)] = some D := by
  have h := Great.fill_whole (s := 32) (by decide) [.agg D] z (by simp [Value.cells, hD]) (by simp [hz])
  simp only [List.zipIdx_cons, List.zipIdx_nil, List.map_cons, List.map_nil, List.flatMap_cons, List.flatMap_nil, Value.cells, List.append_nil, Array.toArray_toList] at h
  rw [← h]
  simp only [Instr.fill, hp, Nat.zero_mul]
theorem build106 {x : Operand} {D : Array Value} (hx : a.eval x = .agg D) (hD : D.size = 32) (h : wpList Tryd.prog ops Q rest (a.put dst (.agg D)) w) : wpList Tryd.prog ops Q (⟨dst, .build 106 #[(0, x)], ty, pos, aft, none⟩ :: rest) a w := by
  refine wpList_buildTo (P := Tryd.prog) rfl 106 #[(0, x)] rfl dst rfl D ?_ h
  simp only [List.map_toArray, List.map_cons, List.map_nil, hx]
  have e : Tryd.prog.built 106 [(0, .agg D)] = Instr.fill (fun i => #[(0, 32)][i]?) Z26 [(0, .agg D)] := by kernel_rfl
  rw [e]
  exact fill_one rfl Z26_size hD
end
set_option maxRecDepth 100000 in
theorem f_is (t u : List Nat) (w : World) (ht : t.length = 32) (hu : u.length = 32) (ht8 : All8 t) (hu8 : All8 u) : Calls Tryd.prog 58 #[.agg (ints .u8 t), .agg (ints .u8 u)] w (BPost (decide (t = u)) w) := by
  have G2 := Lib.hid (heap_alloc2_old w (.cells (ints .u8 t) 106) (.cells (ints .u8 u) 26))
  have G3 := Lib.hid (heap_alloc2_new w (.cells (ints .u8 t) 106) (.cells (ints .u8 u) 26))
  have K1 := Lib.hid (((Kept.refl (fun _ => False) w).alloc (.cells (ints .u8 t) 106)).alloc (.cells (ints .u8 u) 26))
  have HF := Lib.hid (fun w' => f_equal t u w' ht hu ht8 hu8)
  have hts := Lib.hid (show (ints .u8 t).size = 32 by rw [ints_size, ht])
  have hus := Lib.hid (show (ints .u8 u).size = 32 by rw [ints_size, hu])
  clear ht hu ht8 hu8
  go_enter Tryd.func58, Tryd.ntmps58
  go_upto_region 1 with (fail)
  generalize (w.alloc (.cells (ints .u8 t) 106)).alloc (.cells (ints .u8 u) 26) = w1 at *
  go_wp2_with (first | fail | ((with_reducible refine load26 (C := ints .u8 t) (g := w.heap.size) (o := 0) ?_ (range_row G2.out) hts.out ?_); rfl) | ((with_reducible refine load26 (C := ints .u8 u) (g := w.heap.size + 1) (o := 0) ?_ (range_row G3.out) hus.out ?_); rfl))
  refine (HF.out _).mono ?_
  rintro e w2 ⟨rfl, k2⟩
  go_wp2_with fail
  go_ret
  exact BPost.mk rfl (K1.out.trans k2)
namespace Plain
/-- Is a receipt's tag right? -/
def kHolds (k : Ky) (x : Rx) (tn : List Nat) : Bool := rightB x && (decide (x.kind = 3) && (kKnown k x.part x.epoch && decide (kRec k x = tn)))
end Plain
theorem hbs_nat (tn : List Nat) : (hbs (tn.map fun (n : Nat) => (n : Int))).toArray = ints .u8 tn := by simp [hbs, ints, Function.comp_def]
def W64 (n : Int) : Prop := -9223372036854775808 ≤ n ∧ n ≤ 9223372036854775807
set_option maxRecDepth 100000 in
set_option maxHeartbeats 8000000 in
theorem f_holds (pv wv : Value) (k : Ky) (C : Array Value) (x : Rx) (tn : List Nat) (w : World) (hL : Laid w) (h : KyIn w pv wv k) (hx : RecIn w C x) (hsg : W64 x.saga) (hst : W64 x.step) (hl : x.steps.length ≤ 1000000) (htn : x.tag = tn.map fun (n : Nat) => (n : Int)) (ht8 : All8 tn) :
    Calls Tryd.prog 25 #[.agg #[pv, wv, .int .i64 k.need], .agg C] w (BPost (kHolds k x tn) w) := by
  have k1 := ((Kept.refl (fun _ => False) w).alloc (.cells #[pv, wv, .int .i64 k.need] 24)).alloc (.cells C 30)
  have G1 := Lib.hid (heap_alloc2_old w (.cells #[pv, wv, .int .i64 k.need] 24) (.cells C 30))
  have G2 := Lib.hid (heap_alloc2_new w (.cells #[pv, wv, .int .i64 k.need] 24) (.cells C 30))
  have htl : tn.length = 32 := by have := hx.tagl; rw [htn, List.length_map] at this; exact this
  have HIn := Lib.hid (h.kept k1)
  have HX := Lib.hid (hx.kept k1)
  have hcs := Lib.hid hx.size
  have K1 := Lib.hid k1
  have HF := Lib.hid (f_receipt pv wv k C x _ (hL.kept k1) (h.kept k1) (hx.kept k1) hsg hst)
  have HIS := Lib.hid (fun w' => f_is (kRec k x) tn w' (kRec_len k x) htl (kRec_all k x) ht8)
  have hrz := Lib.hid (show (ints .u8 (kRec k x)).size = 32 by rw [ints_size, kRec_len])
  have hT : Hid (∀ j v, (ints .u8 tn).toList[j]? = some v → C[10 + j]? = some v) := fun j v hv => hx.tag j v (by rw [htn, ← hbs_nat] at *; simpa using hv)
  have htz := Lib.hid (show (ints .u8 tn).size = 32 by rw [ints_size, htl])
  have HE : Hid (kHolds k x tn = (rightB x && (decide (x.kind = 3) && (kKnown k x.part x.epoch && decide (kRec k x = tn))))) := rfl
  generalize decide (kRec k x = tn) = sm at *
  generalize ints .u8 (kRec k x) = RB at *
  generalize ints .u8 tn = TB at *
  clear hL h hx k1 htl htn
  go_enter Tryd.func25, Tryd.ntmps25
  go_upto_region 1 with (fail)
  generalize ((w.alloc (.cells #[pv, wv, .int .i64 k.need] 24)).alloc (.cells C 30)) = w1 at *
  have c0 := row_cell (k := 0) G1.out rfl
  have c1 := row_cell (k := 1) G1.out rfl
  have c2 := row_cell (k := 2) G1.out rfl
  go_wp2_with (first | fail | ((with_reducible refine Re.load30 (C := C) (g := w.heap.size + 1) (o := 0) ?_ (range_row G2.out) hcs.out ?_); rfl))
  refine HF.out.mono ?_
  rintro e w2 ⟨rfl, k2⟩
  have G12 := Lib.hid (k2.row G1.out)
  have G22 := Lib.hid (k2.row G2.out)
  have K2 := Lib.hid (K1.out.trans k2)
  have HX2 := Lib.hid (HX.out.kept k2)
  have HI2 := Lib.hid (HIn.out.kept k2)
  have HR := Lib.hid (Re.f_right C x w2 HX2.out hl)
  clear k2 c0 c1 c2 G1 G2 HX HIn K1 HF
  go_wp2_with (first | fail | ((with_reducible refine build106 (D := RB) ?_ hrz.out ?_); rfl) | ((with_reducible refine Re.load30 (C := C) (g := w.heap.size + 1) (o := 0) ?_ (range_row G22.out) hcs.out ?_); rfl))
  refine HR.out.mono ?_
  rintro e w3 ⟨rfl, k3⟩
  have G13 := Lib.hid (k3.row G12.out)
  have G23 := Lib.hid (k3.row G22.out)
  have K3 := Lib.hid (K2.out.trans k3)
  have HI3 := Lib.hid (HI2.out.kept k3)
  have HX3 := Lib.hid (HX2.out.kept k3)
  clear k3 G12 G22 HX2 HI2 HR K2
  cases hr : rightB x with
  | false =>
    have E : Hid (kHolds k x tn = false) := by show _ = _; rw [HE.out, hr]; rfl
    clear hr HE
    go_wp2_with fail
    go_ret
    exact BPost.mk E.out K3.out
  | true =>
    have d0 := row_cell G23.out HX3.out.c0
    by_cases hk : x.kind = 3
    · have t1 : (x.kind == 3) = true := by rw [hk]; rfl
      have c0 := row_cell (k := 0) G13.out rfl
      have c1 := row_cell (k := 1) G13.out rfl
      have c2 := row_cell (k := 2) G13.out rfl
      have d8 := row_cell G23.out HX3.out.c8
      have d9 := row_cell G23.out HX3.out.c9
      have HKN := Lib.hid (f_known pv wv k x.part x.epoch w3 HI3.out)
      cases hkn : kKnown k x.part x.epoch with
      | false =>
        rw [hkn] at HKN
        have E : Hid (kHolds k x tn = false) := by show _ = _; rw [HE.out, hkn, decide_eq_true hk, hr]; rfl
        clear hr HE hkn
        go_wp2_with fail
        refine HKN.out.mono ?_
        rintro e w4 ⟨rfl, k4⟩
        have K4 := Lib.hid (K3.out.trans k4)
        clear k4
        go_wp2_with fail
        go_ret
        exact BPost.mk E.out K4.out
      | true =>
        rw [hkn] at HKN
        have E : Hid (kHolds k x tn = sm) := by show _ = _; rw [HE.out, hkn, decide_eq_true hk, hr]; rfl
        clear hr HE hkn
        go_wp2_with fail
        refine HKN.out.mono ?_
        rintro e w4 ⟨rfl, k4⟩
        have K4 := Lib.hid (K3.out.trans k4)
        have hR4 : Hid (w4.rangeAt (w.heap.size + 1) 10 TB.toList) := fun j v hv => row_cell (k4.row G23.out) (hT.out j v hv)
        clear k4 c0 c1 c2 d8 d9 d0
        go_wp2_with (first | fail | ((with_reducible refine load26g (C := TB) (g := w.heap.size + 1) (o := 10) (by kernel_rfl) ?_ hR4.out htz.out ?_); rfl))
        refine (HIS.out _).mono ?_
        rintro e w5 ⟨rfl, k5⟩
        have K5 := Lib.hid (K4.out.trans k5)
        clear k5
        go_wp2_with fail
        go_ret
        exact BPost.mk E.out K5.out
    · have t1 : (x.kind == 3) = false := by simpa using hk
      have E : Hid (kHolds k x tn = false) := by show _ = _; rw [HE.out, decide_eq_false hk, hr]; rfl
      clear hr HE
      go_wp2_with fail
      go_ret
      exact BPost.mk E.out K3.out
end Go.Proofs.YtklmhegmombegaaDoor
