/-
  The contracts of rec's Com (79) and Redact (47). Conditions: as each theorem says.
-/
import Derived.Test.YtklmhegmombegaaDoorGoneP
import Derived.Test.YtklmhegmombegaaDoorOfA
import Derived.Test.YtklmhegmombegaaDoorMem2
import Derived.Test.YtklmhegmombegaaDoorArgB
import Derived.Test.YtklmhegmombegaaDoorLast
set_option linter.unusedVariables false
set_option linter.unusedSimpArgs false
set_option maxRecDepth 100000
namespace Go.Proofs.YtklmhegmombegaaDoor.Re
open Go Go.RowKit Go.Proofs.YtklmhegmombegaaDoor.Re.Plain Go.Proofs.YtklmhegmombegaaDoor
/-- A nil slice of data has no capacity. -/
def NilOk (C : Array Value) : Prop := ∀ n c, C[43]? = some (.slice none n c) → c = 0
theorem HoldsBy.bytes {w : World} {a : Option Addr} {n c : Nat} {l : List Nat} (h : HoldsBy w (.slice a n c) l) (hn : a = none → c = 0) : n = l.length ∧ HBytes w (.slice a n c) l := by
  obtain ⟨a', c', e, hm, h8, hne⟩ := h
  simp only [Value.slice.injEq] at e
  obtain ⟨rfl, rfl, rfl⟩ := e
  refine ⟨rfl, ?_⟩
  by_cases h0 : l = []
  · subst h0
    refine ⟨⟨rfl, a, c, rfl, ?_⟩, h8, hm, fun k _ hk => absurd rfl hk⟩
    cases a with
    | none => exact .inl ⟨rfl, rfl, hn rfl⟩
    | some ad => exact .inr ⟨ad, rfl, fun j u hu => by simp at hu⟩
  · exact ⟨(hne h0).1, h8, hm, fun k e _ => (hne h0).2 k e⟩
theorem hbs_ints (l : List Nat) : (hbs (l.map fun (n : Nat) => (n : Int))).toArray = ints .u8 l := by simp [hbs, ints]
/-- A hash is handed back. -/
def HsPost (w : World) (e : Ending) (w' : World) : Prop := ∃ cm : List Int, e = .returned (.agg (hbs cm).toArray) ∧ cm.length = 32 ∧ Kept (fun _ => False) w w'
theorem HsPost.mk {w w' : World} {cm : List Int} (hl : cm.length = 32) (k : Kept (fun _ => False) w w') : HsPost w (.returned (.agg (hbs cm).toArray)) w' := ⟨cm, rfl, hl, k⟩
theorem right_data {x : Rx} (h : rightB x = true) (hk : x.kind = 1) : x.data.length ≤ 60 ∧ 1 ≤ x.steps.length ∧ x.steps.length ≤ 6 := by
  unfold rightB at h
  rw [Bool.and_eq_true] at h
  obtain ⟨hr, -⟩ := h
  unfold rangesB at hr
  rw [if_pos hk] at hr
  simp only [Bool.and_eq_true, decide_eq_true_eq, wi_iff] at hr
  obtain ⟨-, -, -, h4, -, h6⟩ := hr
  omega
set_option maxHeartbeats 8000000 in
theorem f_com (C : Array Value) (x : Rx) (w : World) (hL : Laid w) (hX : RecIn w C x) (hF : RecFit x) (hN : NilOk C) (hr : rightB x = true) (hk : x.kind = 1) : Calls Tryd.prog 79 #[.agg C] w (HsPost w) := by
  have k1 := ((Kept.refl (fun _ => False) w).alloc (.cells C 30)).alloc (.cells Z26 26)
  have G1 := Lib.hid (heap_alloc2_old w (.cells C 30) (.cells Z26 26))
  have G2 := Lib.hid (heap_alloc2_new w (.cells C 30) (.cells Z26 26))
  have HX1 := Lib.hid (hX.kept k1)
  have HL1 := Lib.hid (hL.kept k1)
  have K1 := Lib.hid k1
  have HRT := f_right C x _ (hX.kept k1) (by have := right_data hr hk; omega)
  rw [hr] at HRT
  have HR := Lib.hid HRT
  have HD := Lib.hid (right_data hr hk)
  have HF := Lib.hid hF
  have HNO := Lib.hid hN
  have HKD := Lib.hid hk
  clear k1 hL hX hF hN hr hk HRT
  go_enter Tryd.func79, Tryd.ntmps79
  go_upto_region 1 with (first | fail | (with_reducible refine alloc26 ?_))
  generalize (w.alloc (.cells C 30)).alloc (.cells Z26 26) = w1 at *
  go_wp2_with (first | fail | ((with_reducible refine Re.load30 (C := C) (g := w.heap.size) (o := 0) ?_ (range_row G1.out) HX1.out.size ?_); rfl))
  refine HR.out.mono ?_
  rintro e w2 ⟨rfl, k2⟩
  have G12 := Lib.hid (k2.row G1.out)
  have G22 := Lib.hid (k2.row G2.out)
  have HX2 := Lib.hid (HX1.out.kept k2)
  have HL2 := Lib.hid (HL1.out.kept k2)
  have K2 := Lib.hid (K1.out.trans k2)
  clear k2 G1 G2 HX1 HL1 K1 HR
  have c0 := row_cell G12.out HX2.out.c0
  rw [HKD.out] at c0
  have c76 := row_cell G12.out HX2.out.c76
  cases hg : x.gone with
  | true =>
    rw [hg] at c76
    have hz1 : Hid ((hbs x.com).toArray.size = 32) := by show _ = _; simp [hbs, HX2.out.coml]
    have ho1 : Hid ((hbs x.com).toArray.all (·.oneCell') = true) := by
      show _ = _
      rw [Array.all_eq_true_iff_forall_mem]
      intro u hu
      simp only [hbs, List.mem_toArray] at hu
      obtain ⟨n, _, rfl⟩ := List.mem_map.1 hu
      rfl
    go_wp2_with (first | fail | ((with_reducible refine Re.load26 (g := w.heap.size) (o := 77) (C := C) (l := x.com) ?_ G12.out HX2.out.coml HX2.out.com ?_); rfl) | ((with_reducible refine store26 (C := (hbs x.com).toArray) ?_ ?_ G22.out Z26_size hz1.out ho1.out ?_); rfl; rfl))
    exact bodyPost_ret (results_26 rfl _ _ _ (setRow_heap _ _ _ _ _ _ G22.out) hz1.out rfl) rfl (HsPost.mk HX2.out.coml (K2.out.setRow (by omega) _))
  | false =>
    rw [hg] at c76
    go_upto_region 5 with (fail)
    obtain ⟨dv, hdv, hby⟩ := HX2.out.da
    obtain ⟨da, dc, rfl, _⟩ := id hby
    have HDV := Lib.hid hdv
    have HBY := Lib.hid hby
    obtain ⟨sl, hs8, hsl⟩ := HF.out.salt
    have hsll : sl.length = 32 := by have := HX2.out.saltl; rw [hsl] at this; simpa using this
    have hsat := HX2.out.salt
    rw [hsl, ← bys_hbs] at hsat
    have HSL := Lib.hid (And.intro hsll (And.intro hs8 hsat))
    have kd := (Kept.refl (fun _ => False) w2).drew
    have G1d := Lib.hid (kd.row G12.out)
    have G2d := Lib.hid (kd.row G22.out)
    have HXd := Lib.hid (HX2.out.kept kd)
    have HLd := Lib.hid (HL2.out.kept kd)
    have Kd := Lib.hid (K2.out.trans kd)
    have hXS : HBytes w2.drew (.slice (some ⟨w.heap.size, 44, none⟩) 32 32) sl := by
      have h := HBytes.part G1d.out HSL.out.2.2 HSL.out.2.1 (by rw [HSL.out.1]; decide) 32
      rwa [HSL.out.1] at h
    have HXS := Lib.hid hXS
    have HXD := Lib.hid ((hby.kept kd).bytes (fun h => HNO.out x.data.length dc (by rw [hdv, h]))).2
    clear kd G12 G22 HX2 HL2 K2 hdv hby hsll hs8 hsat hsl c0 c76 hXS
    refine wp_region_last_drew (S := fun w' => Kept (fun _ => False) w2.drew w') 6 (by kernel_rfl) (Kept.refl _ _) (fun hHeld => ?_)
    generalize w2.drew = w3 at *
    have hS0 : Kept (fun _ => False) w3 w3 := Kept.refl _ _
    clear HBY
    refine wpAnyL_take (i := 0) (oi := ⟨some 18, _, _, _, _, _⟩) (v := .pointer (some ⟨w.heap.size, 44, none⟩)) [6] rfl (by kernel_rfl) (by kernel_rfl) (by kernel_rfl) (by kernel_rfl) (fun _ _ _ h => h) (Or.inl ⟨by kernel_rfl, fun w' hS => by go_simp⟩) (by assumption) ?_
    try simp only [Act.put, List.setIfInBounds_toArray, List.set_cons_succ, List.set_cons_zero]
    refine wpAnyL_take (i := 1) (oi := ⟨some 19, _, _, _, _, _⟩) (v := .slice (some ⟨w.heap.size, 44, none⟩) 32 32) [6] rfl (by kernel_rfl) (by kernel_rfl) (by kernel_rfl) (by kernel_rfl) (fun _ _ _ h => h) (Or.inl ⟨by kernel_rfl, fun w' hS => by go_simp⟩) (by assumption) ?_
    try simp only [Act.put, List.setIfInBounds_toArray, List.set_cons_succ, List.set_cons_zero]
    refine wpAnyL_take (i := 2) (oi := ⟨some 20, _, _, _, _, _⟩) (v := .pointer (some ⟨w.heap.size, 43, none⟩)) [6] rfl (by kernel_rfl) (by kernel_rfl) (by kernel_rfl) (by kernel_rfl) (fun _ _ _ h => h) (Or.inl ⟨by kernel_rfl, fun w' hS => by go_simp⟩) (by assumption) ?_
    try simp only [Act.put, List.setIfInBounds_toArray, List.set_cons_succ, List.set_cons_zero]
    refine wpAnyL_take (i := 3) (oi := ⟨some 21, _, _, _, _, _⟩) (v := .slice da x.data.length dc) [6] rfl (by kernel_rfl) (by kernel_rfl) (by kernel_rfl) (by kernel_rfl) (fun _ _ _ h => h) (Or.inl ⟨by kernel_rfl, fun w' hS => by have c := row_cell (k := 43) (hS.row G1d.out) (v := .slice da x.data.length dc) (HDV.out); go_simp⟩) (by assumption) ?_
    try simp only [Act.put, List.setIfInBounds_toArray, List.set_cons_succ, List.set_cons_zero]
    refine wpAnyL_ready (rs := [4]) (by kernel_rfl) (by simp) ?_
    refine AllReadyL.cons (o := ⟨some 22, _, _, _, _, _⟩) rfl (fun K hK => ?_) AllReadyL.nil
    have k4 := (Kept.refl (fun _ => False) w3).alloc (.cells #[.slice (some ⟨w.heap.size, 44, none⟩) 32 32, .slice da x.data.length dc] 28)
    have HP : Hid (HParts (w3.alloc (.cells #[.slice (some ⟨w.heap.size, 44, none⟩) 32 32, .slice da x.data.length dc] 28)) (.slice (some ⟨w3.heap.size, 0, none⟩) 2 2) [(.slice (some ⟨w.heap.size, 44, none⟩) 32 32, sl), ((.slice da x.data.length dc, x.data) : Value × List Nat)]) :=
      HParts.of_block (ps := [(.slice (some ⟨w.heap.size, 44, none⟩) 32 32, sl), ((.slice da x.data.length dc, x.data) : Value × List Nat)]) (heap_alloc_new w3 _) rfl (by simp) (fun p hp => by
        rcases List.mem_cons.1 hp with rfl | hp
        · exact HXS.out.kept k4
        · obtain rfl := List.mem_singleton.1 hp
          exact HXD.out.kept k4) (by simp; decide) 2
    have HO := Lib.hid (YtklmhegmombegaaDoor.f_of 4 _ _ _ (HLd.out.kept k4) (by decide) HP.out (by simp) (by simp [YtklmhegmombegaaDoor.Plain.lenB_len, HSL.out.1]; have := HD.out.1; omega))
    have hS1 : Kept (fun _ => False) w3 (w3.alloc (.cells #[.slice (some ⟨w.heap.size, 44, none⟩) 32 32, .slice da x.data.length dc] 28)) := k4
    generalize hM : YtklmhegmombegaaDoor.Plain.macOf 4 ([(.slice (some ⟨w.heap.size, 44, none⟩) 32 32, sl), ((.slice da x.data.length dc, x.data) : Value × List Nat)].map (·.2)) = M at *
    have hMl : List.length M = 32 := by rw [← hM]; exact YtklmhegmombegaaDoor.Plain.sha_len _
    have HML := Lib.hid hMl
    clear HP hM hMl
    go_simp
    refine hK.out _ _ hS1 (fun hHeld => ?_)
    clear hK K
    try simp only [Act.put, List.setIfInBounds_toArray, List.set_cons_succ, List.set_cons_zero]
    refine wpAnyL_ready (rs := [5]) (by kernel_rfl) (by simp) ?_
    refine AllReadyL.cons (o := ⟨some 23, _, _, _, _, _⟩) rfl (fun K hK => ?_) AllReadyL.nil
    go_simp
    refine HO.out.mono ?_
    rintro e w5 ⟨rfl, k5⟩
    have hS2 : Kept (fun _ => False) w3 w5 := hS1.trans k5
    clear HO k5
    go_wp2_with fail
    refine hK.out _ _ hS2 (fun hHeld => ?_)
    clear hK K
    try simp only [Act.put, List.setIfInBounds_toArray, List.set_cons_succ, List.set_cons_zero]
    refine wpAnyL_ready (rs := [6]) (by kernel_rfl) (by simp) ?_
    refine AllReadyL.ends (o := ⟨none, _, _, _, _, _⟩) rfl (fun K hK => ?_)
    refine step_store26 (C := ints .u8 M) (g := w.heap.size + 1) (o := 0) (by kernel_rfl) rfl rfl (by rw [ints_size]; exact HML.out) (ints_one _ _) (hS2.row G2d.out) (by rw [Z26_size]; decide) ?_
    intro wn Yn kn
    rw [YtklmhegmombegaaDoor.puts_all (by rw [Z26_size, ints_size, HML.out])] at Yn
    refine hK.out _ _ ?_
    clear hK K
    try simp only [Act.put, List.setIfInBounds_toArray, List.set_cons_succ, List.set_cons_zero]
    refine wpAnyL_done (by kernel_rfl) ?_ _
    have HYN := Lib.hid Yn
    have HKN : Hid (Kept (fun _ => False) w wn) := (Kd.out.trans hS2).trans' kn (fun i hi e => by omega)
    have hz1 : Hid ((ints .u8 M).size = 32) := by show _ = _; rw [ints_size]; exact HML.out
    clear Yn kn hS0 hS1 hS2 hHeld
    go_wp2_with fail
    refine bodyPost_ret (results_26 rfl _ _ _ HYN.out hz1.out rfl) rfl ?_
    rw [← hbs_ints]
    exact HsPost.mk (by rw [List.length_map]; exact HML.out) HKN.out
/-- What it owns is apart from a block. -/
def Apart (C : Array Value) (x : Rx) (g : Nat) : Prop := (∀ v, C[42]? = some v → x.steps ≠ [] → v.ownBlock ≠ some g) ∧ (∀ v, C[43]? = some v → x.data ≠ [] → v.ownBlock ≠ some g)
theorem HoldsSt.keptS {S : Nat → Prop} {w w' : World} {v : Value} {l : List (Int × Int)} (h : HoldsSt w v l) (k : Kept S w w') (hs : l ≠ [] → ∀ i, v.ownBlock = some i → ¬ S i) : HoldsSt w' v l := by
  obtain ⟨a, c, rfl, hm, hst⟩ := h
  exact ⟨a, c, rfl, hm, fun hne => ⟨(hst hne).rd.kept k (hs hne), fun i e => Nat.lt_of_lt_of_le ((hst hne).lt i e) k.size⟩⟩
theorem HoldsBy.keptS {S : Nat → Prop} {w w' : World} {v : Value} {l : List Nat} (h : HoldsBy w v l) (k : Kept S w w') (hs : l ≠ [] → ∀ i, v.ownBlock = some i → ¬ S i) : HoldsBy w' v l := by
  obtain ⟨a, c, rfl, hm, h8, hst⟩ := h
  exact ⟨a, c, rfl, hm, h8, fun hne => ⟨(hst hne).1.kept k (hs hne), fun i e => Nat.lt_of_lt_of_le ((hst hne).2 i e) k.size⟩⟩
theorem RecIn.keptA {w w' : World} {C : Array Value} {x : Rx} {sv : Value} (h : RecIn w C x) (k : Kept (fun i => sv.ownBlock = some i) w w') (ha : ∀ g, sv.ownBlock = some g → Apart C x g) : RecIn w' C x := by
  obtain ⟨v, h15, h15'⟩ := h.st
  obtain ⟨u, h16, h16'⟩ := h.da
  exact { h with st := ⟨v, h15, h15'.keptS k (fun hne i e hg => (ha i hg).1 v h15 hne e)⟩, da := ⟨u, h16, h16'.keptS k (fun hne i e hg => (ha i hg).2 u h16 hne e)⟩ }
theorem RecIn.apart {w : World} {C : Array Value} {x : Rx} (h : RecIn w C x) {g : Nat} (hg : w.heap.size ≤ g) : Apart C x g := by
  constructor
  · intro v hv hne e
    obtain ⟨v', h15, a, c, rfl, _, hst⟩ := h.st
    obtain rfl := Option.some.inj (h15.symm.trans hv)
    have := (hst hne).lt g e
    omega
  · intro v hv hne e
    obtain ⟨v', h16, a, c, rfl, _, _, hst⟩ := h.da
    obtain rfl := Option.some.inj (h16.symm.trans hv)
    have := (hst hne).2 g e
    omega
/-- A record is handed back, that lets books go alike. -/
def RdPost (x : Rx) (C : Array Value) (w : World) (e : Ending) (w' : World) : Prop := ∃ C' x', e = .returned (.agg C') ∧ RecIn w' C' x' ∧ Like x x' ∧ (∀ g, g < w.heap.size → Apart C x g → Apart C' x' g) ∧ x'.steps = x.steps ∧ Kept (fun _ => False) w w'
theorem RdPost.mk {x x' : Rx} {C C' : Array Value} {w w' : World} (hx : RecIn w' C' x') (hl : Like x x') (ha : ∀ g, g < w.heap.size → Apart C x g → Apart C' x' g) (hs : x'.steps = x.steps) (k : Kept (fun _ => False) w w') : RdPost x C w (.returned (.agg C')) w' := ⟨C', x', rfl, hx, hl, ha, hs, k⟩
/-- The cells of a redacted record. -/
def redC (s : Int) (sv : Value) (cm : List Int) : Array Value := puts ((((Z30.setIfInBounds 0 (.int .i64 1)).setIfInBounds 1 (.int .i64 s)).setIfInBounds 42 sv).setIfInBounds 76 (.bool true)) 77 (hbs cm)
theorem built30r {s : Int} {a : Option Addr} {n c : Nat} : ∀ (cm : List Int), cm.length = 32 → Tryd.prog.built 30 [(0, .int .i64 1), (1, .int .i64 s), (11, .slice a n c), (14, .bool true), (15, .agg (hbs cm).toArray)] = some (redC s (.slice a n c) cm)
  | [b0, b1, b2, b3, b4, b5, b6, b7, b8, b9, b10, b11, b12, b13, b14, b15, b16, b17, b18, b19, b20, b21, b22, b23, b24, b25, b26, b27, b28, b29, b30, b31], _ => by kernel_rfl
theorem redC_42 (s : Int) (sv : Value) {cm : List Int} (hc : cm.length = 32) : (redC s sv cm)[42]? = some sv := by
  have h1 : ((((Z30.setIfInBounds 0 (.int .i64 1)).setIfInBounds 1 (.int .i64 s)).setIfInBounds 42 sv).setIfInBounds 76 (.bool true))[42]? = some sv := rfl
  unfold redC
  rw [puts_out _ _ _ _ (.inl (by decide))]
  exact h1
theorem redC_in {w : World} {s : Int} {sv : Value} {cm : List Int} {l : List (Int × Int)} (hs : HoldsSt w sv l) (hc : cm.length = 32) : RecIn w (redC s sv cm) { Rx.zero with kind := 1, saga := s, steps := l, gone := true, com := cm } := by
  have h0 := RecIn.zero w
  have h1 : RecIn w _ { Rx.zero with kind := 1 } := h0.set_kind 1
  have h2 : RecIn w _ { Rx.zero with kind := 1, saga := s } := h1.set_saga s
  have h3 : RecIn w _ { Rx.zero with kind := 1, saga := s, steps := l } := h2.set_steps hs
  have h4 : RecIn w _ { Rx.zero with kind := 1, saga := s, steps := l, gone := true } := h3.set_gone true
  exact h4.set_com hc
section
variable {ops : Array Oper} {S : World → Prop} {dst : Option Tmp} {ty : TypeId} {pos : String} {aft : Array Edge} {a : Act}
theorem yields30r {s : Int} {p : Option Addr} {n c : Nat} {cm : List Int} {x1 x11 x15 : Operand} (hl : cm.length = 32) (h1 : a.eval x1 = .int .i64 s) (h11 : a.eval x11 = .slice p n c) (h15 : a.eval x15 = .agg (hbs cm).toArray) :
    YieldsIf Tryd.prog ops S ⟨dst, .build 30 #[(0, .const (.int .i64 1)), (1, x1), (11, x11), (14, .const (.bool true)), (15, x15)], ty, pos, aft, none⟩ (.agg (redC s (.slice p n c) cm)) a := by
  refine .inl ⟨by simp [Region.wanted], fun w hS => ?_⟩
  have hr := run_build (P := Tryd.prog) w 30 #[(0, .int .i64 1), (1, .int .i64 s), (11, .slice p n c), (14, .bool true), (15, .agg (hbs cm).toArray)] _ (built30r (s := s) (a := p) (n := n) (c := c) cm hl)
  unfold execOp
  simp only [List.map_toArray, List.map_cons, List.map_nil, Sem.run_bind]
  show Result.andThen (Sem.run Tryd.prog (Instr.build 30 #[(0, .int .i64 1), (1, a.eval x1), (11, a.eval x11), (14, .bool true), (15, a.eval x15)]) w) _ = _
  rw [h1, h11, h15, hr]
  rfl
end
theorem like_self (x : Rx) : Like x x := fun _ _ => rfl
set_option maxHeartbeats 8000000 in
theorem f_redact (C : Array Value) (x : Rx) (w : World) (hL : Laid w) (hX : RecIn w C x) (hF : RecFit x) (hN : NilOk C) (hl : x.steps.length ≤ 1000000) : Calls Tryd.prog 47 #[.agg C] w (RdPost x C w) := by
  have k1 := ((Kept.refl (fun _ => False) w).alloc (.cells C 30)).alloc (.cells Z30 30)
  have G1 := Lib.hid (heap_alloc2_old w (.cells C 30) (.cells Z30 30))
  have G2 := Lib.hid (heap_alloc2_new w (.cells C 30) (.cells Z30 30))
  have HX1 := Lib.hid (hX.kept k1)
  have HL1 := Lib.hid (hL.kept k1)
  have K1 := Lib.hid k1
  have HRT := f_right C x _ (hX.kept k1) hl
  have HF := Lib.hid hF
  have HNO := Lib.hid hN
  have HXW := Lib.hid hX
  clear k1 hL hX hF hN hl
  go_enter Tryd.func47, Tryd.ntmps47
  go_upto_region 1 with (first | fail | (with_reducible refine Re.alloc30 ?_))
  generalize (w.alloc (.cells C 30)).alloc (.cells Z30 30) = w1 at *
  have c0 := row_cell G1.out HX1.out.c0
  cases hr : rightB x with
  | false =>
    rw [hr] at HRT
    have HR := Lib.hid HRT
    clear HRT c0
    go_wp2_with (first | fail | ((with_reducible refine Re.load30 (C := C) (g := w.heap.size) (o := 0) ?_ (range_row G1.out) HX1.out.size ?_); rfl))
    refine HR.out.mono ?_
    rintro e w2 ⟨rfl, k2⟩
    have G12 := Lib.hid (k2.row G1.out)
    have G22 := Lib.hid (k2.row G2.out)
    have K2 := Lib.hid (K1.out.trans k2)
    clear k2
    go_wp2_with (first | fail | ((with_reducible refine Re.load30 (C := C) (g := w.heap.size) (o := 0) ?_ (range_row G12.out) HX1.out.size ?_); rfl) | ((with_reducible refine Re.store30 (C := C) ?_ ?_ G22.out rfl HX1.out.size HX1.out.one ?_); rfl; rfl))
    have KF := K2.out.setRow (g := w.heap.size + 1) (by omega) C
    exact bodyPost_ret (results_30 rfl _ _ _ (setRow_heap _ _ _ _ _ _ G22.out) HX1.out.size rfl) rfl (RdPost.mk (HXW.out.kept KF) (like_self x) (fun g _ h => h) rfl KF)
  | true =>
    rw [hr] at HRT
    have HR := Lib.hid HRT
    clear HRT
    cases hk : (x.kind == 1) with
    | false =>
      clear hr
      go_wp2_with (first | fail | ((with_reducible refine Re.load30 (C := C) (g := w.heap.size) (o := 0) ?_ (range_row G1.out) HX1.out.size ?_); rfl))
      refine HR.out.mono ?_
      rintro e w2 ⟨rfl, k2⟩
      have G12 := Lib.hid (k2.row G1.out)
      have G22 := Lib.hid (k2.row G2.out)
      have K2 := Lib.hid (K1.out.trans k2)
      have c0' := row_cell G12.out HX1.out.c0
      have hk' : (x.kind != 1) = true := by rw [bne, hk]; rfl
      clear k2 c0
      go_wp2_with (first | fail | ((with_reducible refine Re.load30 (C := C) (g := w.heap.size) (o := 0) ?_ (range_row G12.out) HX1.out.size ?_); rfl) | ((with_reducible refine Re.store30 (C := C) ?_ ?_ G22.out rfl HX1.out.size HX1.out.one ?_); rfl; rfl))
      have KF := K2.out.setRow (g := w.heap.size + 1) (by omega) C
      exact bodyPost_ret (results_30 rfl _ _ _ (setRow_heap _ _ _ _ _ _ G22.out) HX1.out.size rfl) rfl (RdPost.mk (HXW.out.kept KF) (like_self x) (fun g _ h => h) rfl KF)
    | true =>
      have hk1 : x.kind = 1 := by simpa using hk
      have hk' : (x.kind != 1) = false := by rw [bne, hk]; rfl
      have HKR := Lib.hid (And.intro hr hk1)
      have HD := Lib.hid (right_data hr hk1)
      clear hr hk1 hk
      go_wp2_with (first | fail | ((with_reducible refine Re.load30 (C := C) (g := w.heap.size) (o := 0) ?_ (range_row G1.out) HX1.out.size ?_); rfl))
      refine HR.out.mono ?_
      rintro e w2 ⟨rfl, k2⟩
      have G12 := Lib.hid (k2.row G1.out)
      have G22 := Lib.hid (k2.row G2.out)
      have HX2 := Lib.hid (HX1.out.kept k2)
      have HL2 := Lib.hid (HL1.out.kept k2)
      have K2 := Lib.hid (K1.out.trans k2)
      have c0' := row_cell G12.out HX1.out.c0
      clear k2 c0 G1 G2 HX1 HL1 K1
      go_upto_region 3 with (fail)
      obtain ⟨sv, hsv, hst⟩ := HX2.out.st
      obtain ⟨sa, sc, rfl, _⟩ := id hst
      have hne : x.steps ≠ [] := by intro h; have := HD.out.2.1; rw [h] at this; exact absurd this (by decide)
      obtain ⟨a', c', e', hm', hstp⟩ := hst
      simp only [Value.slice.injEq, true_and] at e'
      obtain ⟨rfl, rfl⟩ := e'
      have hstp' := hstp hne
      have HSV := Lib.hid hsv
      have kd := (Kept.refl (fun _ => False) w2).drew
      have G1d := Lib.hid (kd.row G12.out)
      have G2d := Lib.hid (kd.row G22.out)
      have HXd := Lib.hid (HX2.out.kept kd)
      have HLd := Lib.hid (HL2.out.kept kd)
      have HST := Lib.hid (hstp'.kept kd)
      have Kd := Lib.hid (K2.out.trans kd)
      have HNE := Lib.hid hne
      clear kd G12 G22 HX2 HL2 K2 hsv hstp hstp' c0' hk' hm' hne
      refine wp_region_last_drew (S := fun w' => Kept (fun _ => False) w2.drew w') 8 (by kernel_rfl) (Kept.refl _ _) (fun hHeld => ?_)
      generalize w2.drew = w3 at *
      have hS0 : Kept (fun _ => False) w3 w3 := Kept.refl _ _
      refine wpAnyL_take (i := 0) (oi := ⟨some 12, _, _, _, _, _⟩) (v := .pointer (some ⟨w.heap.size, 1, none⟩)) [8] rfl (by kernel_rfl) (by kernel_rfl) (by kernel_rfl) (by kernel_rfl) (fun _ _ _ h => h) (Or.inl ⟨by kernel_rfl, fun w' hS => by go_simp⟩) (by assumption) ?_
      try simp only [Act.put, List.setIfInBounds_toArray, List.set_cons_succ, List.set_cons_zero]
      refine wpAnyL_take (i := 1) (oi := ⟨some 13, _, _, _, _, _⟩) (v := .int .i64 x.saga) [8] rfl (by kernel_rfl) (by kernel_rfl) (by kernel_rfl) (by kernel_rfl) (fun _ _ _ h => h) (Or.inl ⟨by kernel_rfl, fun w' hS => by have c := row_cell (k := 1) (hS.row G1d.out) (v := .int .i64 x.saga) (HXd.out.c1); go_simp⟩) (by assumption) ?_
      try simp only [Act.put, List.setIfInBounds_toArray, List.set_cons_succ, List.set_cons_zero]
      refine wpAnyL_take (i := 2) (oi := ⟨some 14, _, _, _, _, _⟩) (v := .pointer (some ⟨w.heap.size, 42, none⟩)) [8] rfl (by kernel_rfl) (by kernel_rfl) (by kernel_rfl) (by kernel_rfl) (fun _ _ _ h => h) (Or.inl ⟨by kernel_rfl, fun w' hS => by go_simp⟩) (by assumption) ?_
      try simp only [Act.put, List.setIfInBounds_toArray, List.set_cons_succ, List.set_cons_zero]
      refine wpAnyL_take (i := 3) (oi := ⟨some 15, _, _, _, _, _⟩) (v := .slice sa x.steps.length sc) [8] rfl (by kernel_rfl) (by kernel_rfl) (by kernel_rfl) (by kernel_rfl) (fun _ _ _ h => h) (Or.inl ⟨by kernel_rfl, fun w' hS => by have c := row_cell (k := 42) (hS.row G1d.out) (v := .slice sa x.steps.length sc) (HSV.out); go_simp⟩) (by assumption) ?_
      try simp only [Act.put, List.setIfInBounds_toArray, List.set_cons_succ, List.set_cons_zero]
      refine wpAnyL_take (i := 5) (oi := ⟨some 17, _, _, _, _, _⟩) (v := .agg C) [8] rfl (by kernel_rfl) (by kernel_rfl) (by kernel_rfl) (by kernel_rfl) (fun _ _ _ h => h) (Re.yields30 (C := C) (g := w.heap.size) (by kernel_rfl) rfl (fun w' hS => hS.row G1d.out) HXd.out.size) (by assumption) ?_
      try simp only [Act.put, List.setIfInBounds_toArray, List.set_cons_succ, List.set_cons_zero]
      refine wpAnyL_ready (rs := [4]) (by kernel_rfl) (by simp) ?_
      refine AllReadyL.cons (o := ⟨some 16, _, _, _, _, _⟩) rfl (fun K hK => ?_) AllReadyL.nil
      go_simp
      refine (f_clone _ x.steps w3 HST.out (by have := HD.out; omega)).mono ?_
      rintro e w4 ⟨av, cv, rfl, hcl, hown, k4⟩
      have HCL := Lib.hid hcl
      have HOW := Lib.hid hown
      have hS1 : Kept (fun _ => False) w3 w4 := k4
      clear hcl hown k4
      go_wp2_with fail
      refine hK.out _ _ hS1 (fun hHeld => ?_)
      clear hK K
      try simp only [Act.put, List.setIfInBounds_toArray, List.set_cons_succ, List.set_cons_zero]
      refine wpAnyL_ready (rs := [6]) (by kernel_rfl) (by simp) ?_
      refine AllReadyL.cons (o := ⟨some 18, _, _, _, _, _⟩) rfl (fun K hK => ?_) AllReadyL.nil
      go_simp
      refine (f_com C x w4 (HLd.out.kept hS1) (HXd.out.kept hS1) HF.out HNO.out HKR.out.1 HKR.out.2).mono ?_
      rintro e w5 ⟨cm, rfl, hcm, k5⟩
      have HCM := Lib.hid hcm
      have HCL5 := Lib.hid (HCL.out.kept k5)
      have hS2 : Kept (fun _ => False) w3 w5 := hS1.trans k5
      clear hcm k5 HCL
      go_wp2_with fail
      refine hK.out _ _ hS2 (fun hHeld => ?_)
      clear hK K
      try simp only [Act.put, List.setIfInBounds_toArray, List.set_cons_succ, List.set_cons_zero]
      refine wpAnyL_take (i := 7) (oi := ⟨some 19, _, _, _, _, _⟩) (v := .agg (redC x.saga (.slice av x.steps.length cv) cm)) [8] rfl (by kernel_rfl) (by kernel_rfl) (by kernel_rfl) (by kernel_rfl) (fun _ _ _ h => h) (yields30r HCM.out rfl rfl rfl) (by assumption) ?_
      try simp only [Act.put, List.setIfInBounds_toArray, List.set_cons_succ, List.set_cons_zero]
      refine wpAnyL_ready (rs := [8]) (by kernel_rfl) (by simp) ?_
      refine AllReadyL.ends (o := ⟨none, _, _, _, _, _⟩) rfl (fun K hK => ?_)
      have hin5 : RecIn w5 (redC x.saga (.slice av x.steps.length cv) cm) (redX x cm) := redC_in ⟨av, cv, rfl, by have := HD.out; unfold maxLen; omega, fun _ => HCL5.out⟩ HCM.out
      have HI5 := Lib.hid hin5
      clear hin5
      refine YtklmhegmombegaaDoor.step_store30 (C := redC x.saga (.slice av x.steps.length cv) cm) (g := w.heap.size + 1) (o := 0) (by kernel_rfl) rfl rfl HI5.out.size HI5.out.one (hS2.row G2d.out) (by show 0 + 109 ≤ 109; decide) ?_
      intro wn Yn kn
      rw [YtklmhegmombegaaDoor.puts_all (by rw [HI5.out.size]; rfl)] at Yn
      refine hK.out _ _ ?_
      clear hK K
      try simp only [Act.put, List.setIfInBounds_toArray, List.set_cons_succ, List.set_cons_zero]
      refine wpAnyL_done (by kernel_rfl) ?_ _
      have HYN := Lib.hid Yn
      have hKN : Kept (fun _ => False) w wn := (Kd.out.trans hS2).trans' kn (fun i hi e => by omega)
      have HKN := Lib.hid hKN
      have hin : RecIn wn (redC x.saga (.slice av x.steps.length cv) cm) (redX x cm) := redC_in ⟨av, cv, rfl, by have := HD.out; unfold maxLen; omega, fun _ => ⟨HCL5.out.rd.kept kn (fun i e h => by
        have h1 := HOW.out i e
        have h2 := row_lt G2d.out
        have h3 : i = w.heap.size + 1 := h
        omega), fun i e => Nat.lt_of_lt_of_le (HCL5.out.lt i e) kn.size⟩⟩ HCM.out
      have hap : ∀ g, g < w.heap.size → Apart C x g → Apart (redC x.saga (.slice av x.steps.length cv) cm) (redX x cm) g := fun g hg _ => by
        constructor
        · intro v hv _ e
          obtain ⟨v', h15, _⟩ := hin.st
          have hz : (redC x.saga (.slice av x.steps.length cv) cm)[42]? = some (.slice av x.steps.length cv) := redC_42 _ _ HCM.out
          obtain rfl := Option.some.inj (hz.symm.trans hv)
          have h1 := HOW.out g e
          have h2 := row_lt G2d.out
          omega
        · intro v _ hne
          exact absurd rfl hne
      have HIN := Lib.hid hin
      have HAP := Lib.hid hap
      have HLK := Lib.hid (show Like x (redX x cm) from bgo_red HKR.out.1 HKR.out.2)
      clear Yn kn hKN hin hap hS0 hS1 hS2 hHeld
      go_wp2_with fail
      exact bodyPost_ret (results_30 rfl _ _ _ HYN.out HI5.out.size rfl) rfl (RdPost.mk HIN.out HLK.out HAP.out rfl HKN.out)
end Go.Proofs.YtklmhegmombegaaDoor.Re
