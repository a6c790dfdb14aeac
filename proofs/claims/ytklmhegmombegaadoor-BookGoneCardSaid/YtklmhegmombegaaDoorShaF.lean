/-
  The contract of sha's Sum. Conditions: as the theorem says.
-/
import Derived.Test.YtklmhegmombegaaDoorShaE
import Derived.Shelf.Abstract
import Derived.Shelf.RegionOpen
set_option linter.unusedVariables false
set_option linter.unusedSimpArgs false
namespace Go.Proofs.YtklmhegmombegaaDoor
open Go Go.RowKit Go.Shelf Plain

attribute [local go_sem] Oper.semAt_some

theorem blocksFrom_snoc : ∀ (m : Nat) (h b : List Nat), blocksFrom h (m + 1) b = turn (blocksFrom h m b) ((b.drop (64 * m)).take 64) := by
  intro m
  induction m with
  | zero => intro h b; simp [blocksFrom]
  | succ m ih =>
    intro h b
    rw [blocksFrom, ih, blocksFrom, List.drop_drop]
    congr 3; omega
theorem pad_len (n : Nat) : (n + (fill n).length) % 64 = 0 := by rw [fill_len]; unfold zerosOf; omega
theorem fill_short (n : Nat) : (fill n).length ≤ 72 ∧ 9 ≤ (fill n).length := by rw [fill_len]; have := zerosOf_le n; omega
/-- A part of bytes that are held. -/
theorem HBytes.sub {w : World} {b o n c c' : Nat} {l : List Nat} (h : HBytes w (.slice (some ⟨b, o, none⟩) n c) l) (hn : n = l.length) {j k : Nat} (hj : j + k ≤ l.length) : HBytes w (.slice (some ⟨b, o + j, none⟩) k c') ((l.drop j).take k) := by
  have hl : ((l.drop j).take k).length = k := by rw [List.length_take, List.length_drop]; omega
  obtain ⟨⟨h1, a, c0, e, hc⟩, h8, hm, hlt⟩ := h
  simp only [Value.slice.injEq] at e
  obtain ⟨rfl, -, rfl⟩ := e
  refine ⟨⟨by rw [List.length_map, Nat.mul_one], some ⟨b, o + j, none⟩, c', by rw [hl], .inr ⟨_, rfl, fun i u hu => ?_⟩⟩, fun x hx => h8 x (List.mem_of_mem_drop (List.mem_of_mem_take hx)), by rw [hl]; omega, fun i e hn => hlt i e (fun h0 => hn (by rw [h0]; simp))⟩
  rcases hc with ⟨h0, _⟩ | ⟨ad, e, hc⟩
  · cases h0
  · cases e
    rw [Addr.add_none]
    have hi : i < k := by have := (List.getElem?_eq_some_iff.1 hu).1; simp [hl] at this; omega
    have := hc (j + i) u (by
      rw [List.getElem?_map] at hu ⊢
      rw [List.getElem?_take, if_pos hi, List.getElem?_drop] at hu
      exact hu)
    rw [Addr.add_none] at this
    rw [show o + j + i = o + (j + i) by omega]; exact this
theorem Laid.range {w : World} (h : Laid w) : w.rangeAt 0 0 (ints .u32 H256).toList := fun j v hv => by
  rw [ints_toList, List.getElem?_map] at hv
  obtain ⟨n, hn, rfl⟩ := Option.map_eq_some_iff.1 hv
  have hj : j < 8 := (List.getElem?_eq_some_iff.1 hn).1
  rw [Nat.zero_add, h.first j hj, List.getD_eq_getElem?_getD, hn]; rfl
/-- A state is written whole, in a round. -/
theorem storeIn173 {F : Fence} {n : Nat} {ops : Array Oper} {rest : List Oper} {dst : Option Tmp} {ty : TypeId} {pos : String} {aft : Array Edge} {a : Act} {w : World} {Q : Exit → Act → World → Prop} {x y : Operand} {g : Nat} {old C : Array Value} {t' : TypeId}
    (hx : a.eval x = .pointer (some ⟨g, 0, none⟩)) (hy : a.eval y = .agg C) (hg : w.heap[g]? = some (.cells old t' (0, 0))) (ho : old.size = 8) (hC : C.size = 8) (h1 : C.all (·.oneCell') = true)
    (h : wpListIn F n Tryd.prog ops Q rest (a.put dst undef) (w.setRow g C)) : wpListIn F n Tryd.prog ops Q (⟨dst, .store 173 x y, ty, pos, aft, none⟩ :: rest) a w := by
  refine wpListIn_plain rfl fun K hK => ?_
  have hr := run_storeVar_row (P := Tryd.prog) w g t' 173 old C hg (by rw [Tryd.isz173, hC]) (by rw [ho, hC]) h1
  unfold Oper.wpIn
  refine ⟨by simp [Oper.about], ?_⟩
  rw [Oper.semAt_plain F _ _ (by intro c hc; cases hc)]
  unfold execOp
  simp only [hx, hy, Instr.storeAt, Instr.sureAddr, Sem.run_bind, Sem.run_pure, Result.andThen_ok, hr]
  exact hK _ _ h
theorem bytesOf_get : ∀ (h : List Nat) (q r : Nat), r < 4 → q < h.length → (bytesOf h).getD (4 * q + r) 0 = h.getD q 0 / 2 ^ (24 - 8 * r) % 256 := by
  intro h
  induction h with
  | nil => intro q r _ hq; simp at hq
  | cons x h ih =>
    intro q r hr hq
    cases q with
    | zero =>
      have h4 : r = 0 ∨ r = 1 ∨ r = 2 ∨ r = 3 := by omega
      rcases h4 with rfl | rfl | rfl | rfl <;> simp [bytesOf, List.getD_eq_getElem?_getD]
    | succ q =>
      have := ih q r hr (by simpa using hq)
      rw [show 4 * (q + 1) + r = 4 + (4 * q + r) by omega]
      rw [List.getD_eq_getElem?_getD] at this ⊢
      simp only [bytesOf, List.flatMap_cons] at this ⊢
      rw [List.getElem?_append_right (by simp)]
      simpa using this
/-- The first bytes, and noughts. -/
def outL (l : List Nat) (j : Nat) : List Nat := l.take j ++ List.replicate (32 - j) 0
theorem outL_len {l : List Nat} (hl : l.length = 32) {j : Nat} (h : j ≤ 32) : (outL l j).length = 32 := by simp [outL, hl]; omega
theorem outL_set {l : List Nat} (hl : l.length = 32) {j : Nat} (h : j < 32) : (outL l j).set j (l.getD j 0) = outL l (j + 1) := by
  obtain ⟨m, hm⟩ : ∃ m, 32 - j = m + 1 := ⟨31 - j, by omega⟩
  have ht : (l.take j).length = j := by rw [List.length_take]; omega
  unfold outL
  rw [hm, show 32 - (j + 1) = m by omega, List.replicate_succ, List.set_append_right _ _ (by omega), ht, Nat.sub_self, List.set_cons_zero, ← List.take_append_getElem (show j < l.length by omega), List.append_assoc, List.getD_eq_getElem?_getD, List.getElem?_eq_getElem (by omega)]
  rfl
theorem outL_all {l : List Nat} (hl : l.length = 32) : outL l 32 = l := by simp [outL, List.take_of_length_le (Nat.le_of_eq hl)]
theorem Kept.putObj {S : Nat → Prop} {a w : World} (h : Kept S a w) {l : Nat} (hl : a.heap.size ≤ l) (o : Obj) : Kept S a (w.putObj l o) :=
  ⟨h.os, h.tape, h.output, by simpa using h.size, fun k hk hs => (World.putObj_heap_other (by omega)).trans (h.block k hk hs)⟩
theorem HBytes.keptS {S : Nat → Prop} {w w' : World} {v : Value} {l : List Nat} (h : HBytes w v l) (k : Kept S w w') (hs : ∀ j, v.ownBlock = some j → ¬ S j) : HBytes w' v l :=
  ⟨h.1.kept k hs, h.2.1, h.2.2.1, fun j e hn => Nat.lt_of_lt_of_le (h.2.2.2 j e hn) k.size⟩
theorem Laid.keptS {S : Nat → Prop} {w w' : World} (h : Laid w) (k : Kept S w w') (h0 : ¬ S 0) (h1 : ¬ S 1) : Laid w' :=
  ⟨fun i hi => (k.cell (p := ⟨0, i, none⟩) (by have := h.size; show 0 < _; omega) h0).trans (h.first i hi), fun i hi => (k.cell (p := ⟨1, i, none⟩) h.size h1).trans (h.k i hi)⟩
set_option maxRecDepth 100000 in
set_option maxHeartbeats 8000000 in
theorem f_sum (v : Value) (ps : List (Value × List Nat)) (w : World) (hL : Laid w) (hP : HParts w v ps) (ht : (ps.flatMap (·.2)).length ≤ 100000000) : Calls Tryd.prog 95 #[v] w (RPost (.agg (ints .u8 (sha (ps.flatMap (·.2))))) w) := by
  obtain ⟨i5, hi, hsz, hby, hz⟩ := info5'
  have hall : ∀ p ∈ ps, All8 p.2 := fun p hp => (hP.2.1 p hp).2.1
  have hT8 : All8 (ps.flatMap (·.2)) := fun x hx => by obtain ⟨p, hp, hx⟩ := List.mem_flatMap.1 hx; exact hall p hp x hx
  have g2 := Lib.hid (heap_alloc_new w (.cells Z26 26))
  have K1 := Lib.hid ((Kept.refl (fun _ => False) w).alloc (.cells Z26 26))
  have HCC := Lib.hid (f_concat v ps _ (hP.kept K1.out) (by omega))
  have HL1 := Lib.hid (hL.kept K1.out)
  have hL0 := Lib.hid hL
  generalize htx : ps.flatMap (·.2) = tx at *
  clear hP htx hall hL
  obtain ⟨n, hn⟩ : ∃ n, tx.length = n := ⟨_, rfl⟩
  have HN := Lib.hid hn
  rw [hn] at ht
  have HFI := Lib.hid (fun w' => f_fill n w' (by omega))
  have HFA := Lib.hid (fill_all n)
  have hfs := (fill_short n).1
  have hfs9 := (fill_short n).2
  have HPL := Lib.hid (pad_len n)
  have HSHA : Hid (sha tx = bytesOf (blocksFrom H256 ((n + (fill n).length) / 64) (tx ++ fill n))) := by show _ = _; rw [sha, hn]
  have HT8 := Lib.hid hT8
  generalize fill n = fl at *
  obtain ⟨m, hm⟩ : ∃ m, fl.length = m := ⟨_, rfl⟩
  rw [hm] at hfs hfs9 HPL HSHA
  have HM := Lib.hid hm
  clear hn hm hT8
  have hone8 := Lib.hid (ints_one .u32 H256)
  refine (callsIn_wide (n := 8)).1 ?_
  refine callsIn_of_wp_marks Tryd.func95 rfl trivial ?_ rfl
  refine wpIn_wide.2 ?_
  simp only [Tryd.ntmps95, List.size_toArray, List.length_cons, List.length_nil, Nat.reduceAdd, Nat.reduceSub, Array.replicate_succ, Array.replicate_zero, List.push_toArray, List.append_toArray, List.nil_append, List.cons_append]
  go_wp2_with (first | fail | (with_reducible refine alloc26 ?_))
  refine HCC.out.mono ?_
  rintro e w2 ⟨v3, rfl, hb3, k2⟩
  have HL2 := Lib.hid (HL1.out.kept k2)
  have G2 := Lib.hid (k2.row g2.out)
  have hw12 := k2.size
  have K2 := Lib.hid (K1.out.trans k2)
  rw [HN.out] at hb3
  have hbase : w.heap.size ≤ (w.alloc (.cells Z26 26)).heap.size := K1.out.size
  have HB3 := Lib.hid (hb3.mono hbase)
  have HV3 : Hid (∀ k, v3.ownBlock = some k → w.heap.size + 1 ≤ k ∧ k < w2.heap.size) := fun k hk => by have := hb3.lt k hk; simp at this; omega
  obtain ⟨a3, c3, rfl, -, -⟩ := hb3.form
  have z4 := Lib.hid (heap_alloc_new w2 (.cells Z173 173))
  obtain ⟨y4, k4⟩ := alloc_set w2 Z173 (ints .u32 H256) 173
  have Y4 := Lib.hid y4
  have K4 := Lib.hid k4
  have hg4 : w.heap.size < w2.heap.size := row_lt G2.out
  clear hb3 k2 hw12 hbase HCC y4 k4 HL1 K1 g2
  go_upto_region 3 with (first | fail | ((with_reducible refine load173 (C := ints .u32 H256) (g := 0) (o := 0) ?_ HL2.out.range (by simp [ints_size, H256]) ?_); rfl) | (with_reducible refine alloc173 ?_) | ((with_reducible refine store173 (C := ints .u32 H256) ?_ ?_ z4.out Z173_size (by simp [ints_size, H256]) hone8.out ?_); rfl; rfl))
  generalize (w2.alloc (.cells Z173 173)).setRow w2.heap.size (ints .u32 H256) = w4 at *
  have HB4 := Lib.hid (HB3.out.kept K4.out (fun _ _ h => h))
  have G24 := Lib.hid (K4.out.row G2.out)
  have hw24 : w2.heap.size < w4.heap.size := row_lt Y4.out
  generalize w2.heap.size = g4 at *
  have KW4 : Hid (Kept (fun _ => False) w w4) := K2.out.trans K4.out
  clear z4 HB3 K4 G2 K2 HL2
  go_wp2_with fail
  refine (HFI.out _).mono ?_
  rintro e w5 ⟨v5, rfl, hb5, k5⟩
  rw [HM.out] at hb5
  have hsrc := Lib.hid (show Src Tryd.prog 1 28 v5 m (bys fl) w5 from by
    have h := (Buf.bytes (l := fl) (by rw [HM.out]; exact hb5) HFA.out).src
    rw [HM.out] at h; exact h)
  have HB5 := Lib.hid (HB4.out.kept k5 (fun _ _ h => h))
  have G25 := Lib.hid (k5.row G24.out)
  have Y5 := Lib.hid (k5.row Y4.out)
  have KW5 := Lib.hid (KW4.out.trans k5)
  have hws5 := Lib.hid KW5.out.size
  obtain ⟨a5, c5, rfl, -, -⟩ := hb5.form
  clear hb5 k5 HB4 G24 Y4 KW4 HFI
  go_wp2_with (first | fail | (at_builtin; refine wpList_append_buf _ rfl (.tmp 11) (.tmp 14) 28 28 rfl w.heap.size 5 i5 (.int .u8 0) 1 1 Tryd.underlying28 hi hz hsz hby rfl (by decide) _ _ _ rfl HB5.out _ _ _ rfl hsrc.out (by unfold maxLen; omega) (by omega) hws5.out ?_; intro v6 w6 hb' hg' ho' hn'; have HB6 := Lib.hid hb'; have HG6 := Lib.hid hg'; clear hb' hg' ho' hn'))
  obtain ⟨b, cap, cur, rfl, hbb, hrow, hcap, hcs, hct⟩ := HB6.out.pos (by omega)
  have hb6 := HB6.out
  rw [← bys_app] at hb6
  have hTl : (tx ++ fl).length = n + m := by rw [List.length_append, HN.out, HM.out]
  have hHB6 : HBytes w6 (.slice (some ⟨b, 0, none⟩) (n + m) cap) (tx ++ fl) := Buf.bytes (by rw [hTl]; exact hb6) (fun x hx => by
    rcases List.mem_append.1 hx with h | h
    · exact HT8.out x h
    · exact HFA.out x h)
  have hcm : cap ≤ maxLen := by
    rcases hb6.2 with ⟨h, _⟩ | ⟨g', cap', cur', e, _, _, _, h, _⟩
    · cases h
    · cases e; exact h
  unfold maxLen at hcm
  have HHB6 := Lib.hid hHB6
  have HTL := Lib.hid hTl
  have G26 : Hid (w6.heap[w.heap.size]? = some (.cells Z26 26 (0, 0))) := (HG6.out.block _ (row_lt G25.out) (fun e => by have := HV3.out _ e.symm; omega)).trans G25.out
  have Y6 : Hid (w6.heap[g4]? = some (.cells (ints .u32 H256) 173 (0, 0))) := (HG6.out.block _ (row_lt Y5.out) (fun e => by have := HV3.out _ e.symm; omega)).trans Y5.out
  have K6 : Hid (Kept (fun _ => False) w w6) := KW5.out.grown HG6.out (fun j hj => .inr (by have := HV3.out j hj; omega))
  have hbg : Hid (b ≠ g4 ∧ b ≠ w.heap.size ∧ b < w6.heap.size) := by
    refine ⟨fun e => ?_, fun e => ?_, row_lt hrow⟩
    · subst e; rw [Y6.out] at hrow; cases hrow
    · subst e; rw [G26.out] at hrow; cases hrow
  have hg6 : g4 < w6.heap.size := row_lt Y6.out
  have HLD := Lib.hid (hL0.out.kept K6.out)
  clear hb6 hTl hHB6 hrow hct hcs HB6 HG6 G25 Y5 KW5 HB5 hsrc hws5
  go_wp2_with fail
  refine (f_blocks _ _ _ _).mono ?_
  rintro e w7 ⟨rfl, rfl⟩
  obtain ⟨N, hN⟩ : ∃ N, n + m = 64 * N := ⟨(n + m) / 64, by have := HPL.out; omega⟩
  have HN64 := Lib.hid hN
  have HBX : Hid ((w6.alloc (.cells #[.slice (some ⟨b, 0, none⟩) (n + m) cap] 28)).heap[w6.heap.size]? = some (.cells #[.slice (some ⟨b, 0, none⟩) (n + m) cap] 28 (0, 0))) := heap_alloc_new w6 _
  have K67 := (Kept.refl (fun _ => False) w6).alloc (.cells #[.slice (some ⟨b, 0, none⟩) (n + m) cap] 28)
  have K7 := Lib.hid (K6.out.trans K67)
  have G27 := Lib.hid (K67.row G26.out)
  have Y7 := Lib.hid (K67.row Y6.out)
  have HHB7 := Lib.hid (HHB6.out.kept K67)
  have HL7 := Lib.hid (HLD.out.kept K67)
  have hs67 : (w6.alloc (.cells #[.slice (some ⟨b, 0, none⟩) (n + m) cap] 28)).heap.size = w6.heap.size + 1 := by simp
  generalize w6.alloc (.cells #[.slice (some ⟨b, 0, none⟩) (n + m) cap] 28) = W0 at *
  generalize w6.heap.size = Bs at *
  have HS0 := Lib.hid hs67
  clear K67 hN hs67 HHB6 HLD G26 Y6 K6
  go_wp2_with fail
  generalize hAS : Code.region 4 _ _ = AS
  generalize hBD : Code.block 1 _ = BD
  refine (wpIn_wide (n := 8)).1 ?_
  refine wpIn_rangeFunc ?_
  intro fn hfn
  obtain ⟨R, hR⟩ : ∃ R : LoopState → Option Code → Loop, R = fun st pe => { state := st, pending := pe, fn, tmps := #[v, undef, .pointer (some ⟨w.heap.size, 0, none⟩), .slice a3 n c3, .pointer (some ⟨g4, 0, none⟩), undef, undef, undef, v, .slice a3 n c3, .agg (ints .u32 H256), .slice a3 n c3, .slice a3 n c3, .int .i64 n, .slice a5 m c5, .slice (some ⟨b, 0, none⟩) (n + m) cap, .func (.func 131) #[] #[.pointer (some ⟨Bs, 0, none⟩)], undef, undef, undef, undef, undef, undef, undef, undef, undef, undef, undef, undef, undef, undef, undef, undef, undef, undef, undef, undef, undef], params := #[17], assign := AS, body := BD, defers := W0.heap.size } := ⟨_, rfl⟩
  have hL1 : ((W0.alloc (.deferred (some []))).alloc (.loop (R .ready none))).heap[W0.heap.size + 1]? = some (.loop (R .ready none)) := by
    have := World.alloc_heap_new (W0.alloc (.deferred (some []))) (.loop (R .ready none)); rwa [World.size_alloc] at this
  have hD1 : ((W0.alloc (.deferred (some []))).alloc (.loop (R .ready none))).heap[W0.heap.size]? = some (.deferred (some [])) := (Below.heap_alloc _ _ _ (by simp)).trans (World.alloc_heap_new W0 _)
  have KW1 : Kept (fun _ => False) W0 ((W0.alloc (.deferred (some []))).alloc (.loop (R .ready none))) := ((Kept.refl _ W0).alloc _).alloc _
  refine ⟨W0.heap.size + 1, [{ target := .collected W0.heap.size, args := #[] }], (W0.alloc (.deferred (some []))).alloc (.loop (R .ready none)), { target := .fn (.func 131) #[.pointer (some ⟨Bs, 0, none⟩)], args := #[.func (.yield (W0.heap.size + 1)) #[] #[]] }, (W0.alloc (.deferred (some []))).alloc (.loop (R .ready none)), 131, #[.func (.yield (W0.heap.size + 1)) #[] #[], .pointer (some ⟨Bs, 0, none⟩)], (W0.alloc (.deferred (some []))).alloc (.loop (R .ready none)), ?_, ?_, ?_, ?_, fun _ => by decide, ?_⟩
  · rw [hR]; exact run_enterLoop_outer _ _ _ _ _
  · simp only [resolve]
    simp [go_sem]
  · intro f' hf'; trivial
  · have eg := enters_of Tryd.func131 (by kernel_rfl) rfl
    simp [invoke, go_sem, eg]
  have hs1 : ((W0.alloc (.deferred (some []))).alloc (.loop (R .ready none))).heap.size = W0.heap.size + 1 + 1 := by simp
  have hB7 : Bs < W0.heap.size := row_lt HBX.out
  have hg7 : g4 < W0.heap.size := row_lt Y7.out
  generalize (W0.alloc (.deferred (some []))).alloc (.loop (R .ready none)) = W1 at *
  refine (f_iter 7 (W0.heap.size + 1) Bs b 0 N cap (by decide) (by have := HN64.out; omega) (by have := HN64.out; omega) (by omega)
    (fun k W => (W.heap[W0.heap.size + 1]? = some (.loop (R .ready none)) ∧ W.heap[W0.heap.size]? = some (.deferred (some []))) ∧ (W.heap[g4]? = some (.cells (ints .u32 (blocksFrom H256 k (tx ++ fl))) 173 (0, 0)) ∧ Kept (fun j => j = g4 ∨ j = Bs) W0 W)) ?hY ?hJ _ ?h0 ?hL).mono ?after
  case hJ =>
    rintro k W u ⟨⟨h1, h2⟩, h3, h4⟩
    exact ⟨⟨(setCell_heap_other _ _ _ _ (by show _ ≠ Bs; omega)).trans h1, (setCell_heap_other _ _ _ _ (by show _ ≠ Bs; omega)).trans h2⟩, (setCell_heap_other _ _ _ _ (by show g4 ≠ Bs; omega)).trans h3, h4.setCell (p := ⟨Bs, 0, none⟩) (.inl (.inr rfl)) u⟩
  case h0 => exact ⟨⟨hL1, hD1⟩, KW1.row Y7.out, KW1.mono fun _ _ h => h.elim⟩
  case hL => exact LeftIn.mk (KW1.row HBX.out) (by have := HN64.out; omega) rfl (fun _ => rfl)
  case hY =>
    rintro k W hk ⟨⟨h1, h2⟩, h3, h4⟩ hLf
    have hy := run_yield (P := Tryd.prog) (args := #[.slice (some ⟨b, 0 + 64 * k, none⟩) 64 (cap - 64 * k)]) h1 (by rw [hR]; rfl)
    rw [hR] at hy
    refine ⟨fn, _, AS, BD, hy, roundIn_of_wpIn hfn ?_⟩
    clear hy
    have hkk : 64 * k + 64 ≤ (tx ++ fl).length := by rw [HTL.out]; have := HN64.out; omega
    have hlw : W0.heap.size + 1 < W.heap.size := row_lt h1
    have hWs := (W.putObj (W0.heap.size + 1) (.loop { R .ready none with state := .busy }))
    have hl2 : (W.putObj (W0.heap.size + 1) (.loop { R .ready none with state := .busy })).heap[W0.heap.size + 1]? = some (.loop { R .ready none with state := .busy }) := World.putObj_heap_same hlw
    have hD2 : (W.putObj (W0.heap.size + 1) (.loop { R .ready none with state := .busy })).heap[W0.heap.size]? = some (.deferred (some [])) := (World.putObj_heap_other (by omega)).trans h2
    have h32 : (W.putObj (W0.heap.size + 1) (.loop { R .ready none with state := .busy })).heap[g4]? = some (.cells (ints .u32 (blocksFrom H256 k (tx ++ fl))) 173 (0, 0)) := (World.putObj_heap_other (by omega)).trans h3
    have hK2 : Kept (fun j => j = g4 ∨ j = Bs) W0 (W.putObj (W0.heap.size + 1) (.loop { R .ready none with state := .busy })) := h4.putObj (by omega) _
    have hLf2 : LeftIn Bs b 0 N cap k (W.putObj (W0.heap.size + 1) (.loop { R .ready none with state := .busy })) := by
      obtain ⟨ad, hr, ha⟩ := hLf
      exact ⟨ad, (World.putObj_heap_other (by omega)).trans hr, ha⟩
    have hbeg := run_beginRound (P := Tryd.prog) h1 (by rw [hR])
    clear hWs
    generalize W.putObj (W0.heap.size + 1) (.loop { R .ready none with state := .busy }) = Wb at *
    obtain ⟨s0, s1, s2, s3, s4, s5, s6, s7, hs⟩ := eight' (blocksFrom_len k H256 (tx ++ fl) rfl)
    have hst := blocksFrom_snoc k H256 (tx ++ fl)
    have hsa := blocksFrom_all k H256 (tx ++ fl) H256_all
    rw [hs] at h32 hst hsa
    have hbytes : HBytes Wb (.slice (some ⟨b, 0 + 64 * k, none⟩) 64 (cap - 64 * k)) (((tx ++ fl).drop (64 * k)).take 64) := (HHB7.out.keptS hK2 (fun j e h => by
      have hb := hbg.out
      simp only [Value.ownBlock, Option.map_some, Option.some.injEq] at e
      subst e
      rcases h with h | h
      · exact hb.1 h
      · omega)).sub HTL.out.symm hkk
    have hbl : (((tx ++ fl).drop (64 * k)).take 64).length = 64 := by rw [List.length_take, List.length_drop]; omega
    have hlaid : Laid Wb := HL7.out.keptS hK2 (by have := hL0.out.size; omega) (by have := hL0.out.size; omega)
    have HTU := Lib.hid (f_turn _ [s0, s1, s2, s3, s4, s5, s6, s7] _ Wb hlaid rfl hsa hbytes hbl)
    obtain ⟨t0, t1, t2, t3, t4, t5, t6, t7, htt⟩ := eight' (turn_len (b := ((tx ++ fl).drop (64 * k)).take 64) (show [s0, s1, s2, s3, s4, s5, s6, s7].length = 8 from rfl))
    rw [htt] at HTU hst
    have HTV : Hid (Calls Tryd.prog 121 #[.agg #[.int .u32 ((s0 : Nat) : Int), .int .u32 ((s1 : Nat) : Int), .int .u32 ((s2 : Nat) : Int), .int .u32 ((s3 : Nat) : Int), .int .u32 ((s4 : Nat) : Int), .int .u32 ((s5 : Nat) : Int), .int .u32 ((s6 : Nat) : Int), .int .u32 ((s7 : Nat) : Int)], .slice (some ⟨b, 64 * k, none⟩) 64 (cap - 64 * k)] Wb (RPost (.agg #[.int .u32 ((t0 : Nat) : Int), .int .u32 ((t1 : Nat) : Int), .int .u32 ((t2 : Nat) : Int), .int .u32 ((t3 : Nat) : Int), .int .u32 ((t4 : Nat) : Int), .int .u32 ((t5 : Nat) : Int), .int .u32 ((t6 : Nat) : Int), .int .u32 ((t7 : Nat) : Int)]) Wb)) := by
      have h := HTU.out
      rw [Nat.zero_add] at h
      exact h
    clear HTU
    have c0 := ints_cell h32 (i := 0) (by simp)
    have c1 := ints_cell h32 (i := 1) (by simp)
    have c2 := ints_cell h32 (i := 2) (by simp)
    have c3' := ints_cell h32 (i := 3) (by simp)
    have c4 := ints_cell h32 (i := 4) (by simp)
    have c5' := ints_cell h32 (i := 5) (by simp)
    have c6 := ints_cell h32 (i := 6) (by simp)
    have c7 := ints_cell h32 (i := 7) (by simp)
    simp only [List.getD_cons_zero, List.getD_cons_succ] at c0 c1 c2 c3' c4 c5' c6 c7
    have HST := Lib.hid hst
    have HL2 := Lib.hid hl2
    have HD2 := Lib.hid hD2
    have H32 := Lib.hid h32
    have HK2 := Lib.hid hK2
    have HLF2 := Lib.hid hLf2
    have HBEG := Lib.hid hbeg
    have HR0 := Lib.hid hR
    clear hR h1 h2 h3 h4 hLf hs hst hsa hbytes hbl hlaid htt hl2 hD2 h32 hK2 hLf2 hbeg hkk
    subst hAS
    gi_wp2
    refine ⟨_, HBEG.out, ?_⟩
    subst hBD
    have hsz8 := Lib.hid (show (ints .u32 [s0, s1, s2, s3, s4, s5, s6, s7]).size = 8 by rw [ints_size]; rfl)
    have hon8 := Lib.hid (ints_one .u32 [t0, t1, t2, t3, t4, t5, t6, t7])
    gi_wp2_with (first | fail | ((with_reducible refine storeIn173 (g := g4) (C := #[.int .u32 ((t0 : Nat) : Int), .int .u32 ((t1 : Nat) : Int), .int .u32 ((t2 : Nat) : Int), .int .u32 ((t3 : Nat) : Int), .int .u32 ((t4 : Nat) : Int), .int .u32 ((t5 : Nat) : Int), .int .u32 ((t6 : Nat) : Int), .int .u32 ((t7 : Nat) : Int)]) ?_ ?_ hg9.out hsz8.out ?_ ?_ ?_); rfl; rfl; rfl; exact hon8.out) | (refine ⟨trivial, ?_⟩; gi_at_call 121; refine (CallsIn.inRound _ (callsIn_wide.2 HTV.out)).mono ?_; rintro e w9 ⟨rfl, k9⟩; have hg9 := Lib.hid (k9.row H32.out)))
    have G9 := Lib.hid (k9.row H32.out)
    have L9 := Lib.hid (k9.row HL2.out)
    have D9 := Lib.hid (k9.row HD2.out)
    have K9 := Lib.hid (HK2.out.trans (k9.mono fun _ _ h => h.elim))
    have LF9 : Hid (LeftIn Bs b 0 N cap k w9) := by
      obtain ⟨ad, hr, ha⟩ := HLF2.out
      exact ⟨ad, k9.row hr, ha⟩
    clear c0 c1 c2 c3' c4 c5' c6 c7 HTV H32 HL2 HD2 HK2 HLF2 HBEG k9 hg9
    have G10 : Hid ((w9.setRow g4 #[.int .u32 ((t0 : Nat) : Int), .int .u32 ((t1 : Nat) : Int), .int .u32 ((t2 : Nat) : Int), .int .u32 ((t3 : Nat) : Int), .int .u32 ((t4 : Nat) : Int), .int .u32 ((t5 : Nat) : Int), .int .u32 ((t6 : Nat) : Int), .int .u32 ((t7 : Nat) : Int)]).heap[g4]? = some (.cells (ints .u32 (blocksFrom H256 (k + 1) (tx ++ fl))) 173 (0, 0))) := by
      show _ = _
      rw [HST.out]
      exact setRow_heap _ _ _ _ _ _ G9.out
    have L10 : (w9.setRow g4 #[.int .u32 ((t0 : Nat) : Int), .int .u32 ((t1 : Nat) : Int), .int .u32 ((t2 : Nat) : Int), .int .u32 ((t3 : Nat) : Int), .int .u32 ((t4 : Nat) : Int), .int .u32 ((t5 : Nat) : Int), .int .u32 ((t6 : Nat) : Int), .int .u32 ((t7 : Nat) : Int)]).heap[W0.heap.size + 1]? = some (.loop { R .ready none with state := .busy }) := (setRow_other _ _ _ _ (by omega)).trans L9.out
    have D10 : (w9.setRow g4 #[.int .u32 ((t0 : Nat) : Int), .int .u32 ((t1 : Nat) : Int), .int .u32 ((t2 : Nat) : Int), .int .u32 ((t3 : Nat) : Int), .int .u32 ((t4 : Nat) : Int), .int .u32 ((t5 : Nat) : Int), .int .u32 ((t6 : Nat) : Int), .int .u32 ((t7 : Nat) : Int)]).heap[W0.heap.size]? = some (.deferred (some [])) := (setRow_other _ _ _ _ (by omega)).trans D9.out
    have K10 := K9.out.setRow' (g := g4) (.inl rfl) #[.int .u32 ((t0 : Nat) : Int), .int .u32 ((t1 : Nat) : Int), .int .u32 ((t2 : Nat) : Int), .int .u32 ((t3 : Nat) : Int), .int .u32 ((t4 : Nat) : Int), .int .u32 ((t5 : Nat) : Int), .int .u32 ((t6 : Nat) : Int), .int .u32 ((t7 : Nat) : Int)]
    have LF10 : LeftIn Bs b 0 N cap k (w9.setRow g4 #[.int .u32 ((t0 : Nat) : Int), .int .u32 ((t1 : Nat) : Int), .int .u32 ((t2 : Nat) : Int), .int .u32 ((t3 : Nat) : Int), .int .u32 ((t4 : Nat) : Int), .int .u32 ((t5 : Nat) : Int), .int .u32 ((t6 : Nat) : Int), .int .u32 ((t7 : Nat) : Int)]) := by
      obtain ⟨ad, hr, ha⟩ := LF9.out
      exact ⟨ad, (setRow_other _ _ _ _ (by omega)).trans hr, ha⟩
    have hlt10 := row_lt L10
    generalize w9.setRow g4 #[.int .u32 ((t0 : Nat) : Int), .int .u32 ((t1 : Nat) : Int), .int .u32 ((t2 : Nat) : Int), .int .u32 ((t3 : Nat) : Int), .int .u32 ((t4 : Nat) : Int), .int .u32 ((t5 : Nat) : Int), .int .u32 ((t6 : Nat) : Int), .int .u32 ((t7 : Nat) : Int)] = W10 at *
    refine ⟨_, _, run_endRound none L10, rfl, ⟨⟨?_, ?_⟩, ?_, ?_⟩, ?_⟩
    · rw [World.putObj_heap_same hlt10, HR0.out]; rfl
    · exact (World.putObj_heap_other (by omega)).trans D10
    · exact (World.putObj_heap_other (by omega)).trans G10.out
    · exact K10.putObj (by omega) _
    · obtain ⟨ad, hr, ha⟩ := LF10
      exact ⟨ad, (World.putObj_heap_other (by omega)).trans hr, ha⟩
  case after =>
    rintro e W2 ⟨⟨u, rfl⟩, ⟨h1, h2⟩, h3, h4⟩
    have hl3 : W0.heap.size + 1 < W2.heap.size := row_lt h1
    have hend := run_endLoop (P := Tryd.prog) h1 (by rw [hR]; simp)
    obtain ⟨W3, hW3⟩ : ∃ W3, W2.putObj (W0.heap.size + 1) (.loop { R .ready none with state := .exhausted }) = W3 := ⟨_, rfl⟩
    rw [hW3] at hend
    rw [show (R .ready none).pending = none by rw [hR]] at hend
    refine ⟨none, W3, hend, ?_⟩
    have hD3 : (W2.putObj (W0.heap.size + 1) (.loop { R .ready none with state := .exhausted })).heap[W0.heap.size]? = some (.deferred (some [])) := (World.putObj_heap_other (by omega)).trans h2
    have h43 : (W2.putObj (W0.heap.size + 1) (.loop { R .ready none with state := .exhausted })).heap[g4]? = some (.cells (ints .u32 (blocksFrom H256 N (tx ++ fl))) 173 (0, 0)) := (World.putObj_heap_other (by omega)).trans h3
    have hK3 : Kept (fun j => j = g4 ∨ j = Bs) W0 (W2.putObj (W0.heap.size + 1) (.loop { R .ready none with state := .exhausted })) := h4.putObj (by omega) _
    rw [hW3] at hD3 h43 hK3
    clear hW3
    have hZ3 : W3.heap[w.heap.size]? = some (.cells Z26 26 (0, 0)) := hK3.rowS (by omega) G27.out
    have HNN : Hid ((n + m) / 64 = N) := by show _ = _; have := HN64.out; omega
    have HSH : Hid (sha tx = bytesOf (blocksFrom H256 N (tx ++ fl))) := by show _ = _; rw [HSHA.out, HNN.out]
    have hHl := blocksFrom_len N H256 (tx ++ fl) rfl
    have hHa := blocksFrom_all N H256 (tx ++ fl) H256_all
    generalize blocksFrom H256 N (tx ++ fl) = H at *
    have hKW3 : Kept (fun _ => False) w W3 := K7.out.trans' hK3 (fun j hj e => by omega)
    have Z3 := Lib.hid hZ3
    have D3 := Lib.hid hD3
    have H43 := Lib.hid h43
    have KW3 := Lib.hid hKW3
    have hws3 : W0.heap.size < W3.heap.size := row_lt hD3
    have HHL := Lib.hid hHl
    have HHA := Lib.hid hHa
    have HLL := Lib.hid (bytesOf_len (h := H))
    clear h1 h2 h3 h4 hend hD3 h43 hK3 hZ3 hKW3 hR hl3 hHl hHa
    clear hL1 hD1 KW1 hs1
    have hz6 := Lib.hid (heap_alloc_new W3 (.cells Z26 26))
    have k36 := (Kept.refl (fun _ => False) W3).alloc (.cells Z26 26)
    have Z6 := Lib.hid (k36.row Z3.out)
    have D6 := Lib.hid (k36.row D3.out)
    have H46 := Lib.hid (k36.row H43.out)
    have KW6 := Lib.hid (KW3.out.trans k36)
    have hsz6 : (W3.alloc (.cells Z26 26)).heap.size = W3.heap.size + 1 := by simp
    clear k36
    go_wp2_with (first | fail | (with_reducible refine alloc26 ?_))
    generalize W3.alloc (.cells Z26 26) = W6 at *
    generalize W3.heap.size = gO at *
    have hgO6 : gO < W6.heap.size := row_lt hz6.out
    have hBL : Hid ((bytesOf H).length = 32) := by show _ = _; rw [HLL.out, HHL.out]
    go_loopw [21] (fun i wr => ∃ j : Nat, j ≤ 32 ∧ i = .int .i64 j ∧ Hid (wr.heap[gO]? = some (.cells (ints .u8 (outL (bytesOf H) j)) 26 (0, 0))) ∧ Kept (fun i => i = gO) W6 wr) (fun i _ => 32 - (intOf i).toNat)
    case atStart => exact ⟨0, by omega, rfl, hz6.out, Kept.refl _ _⟩
    case round =>
      obtain ⟨j, hj, rfl, HO, K⟩ := hrel
      have KR := Lib.hid K
      by_cases hlt : j < 32
      · obtain ⟨q, r, hqr, hr4, hq8⟩ : ∃ q r, j = 4 * q + r ∧ r < 4 ∧ q < 8 := ⟨j / 4, j % 4, by omega, by omega, by omega⟩
        have cq := ints_cell (K.rowS (by omega) H46.out) (i := q) (by rw [HHL.out]; exact hq8)
        have co := ints_cell HO.out (i := j) (by rw [outL_len hBL.out hj]; exact hlt)
        have fo := free_of_block (j := j) HO.out
        have hbyte := bytesOf_get H q r hr4 (by rw [HHL.out]; exact hq8)
        have HST := outL_set hBL.out hlt
        have hx := HHA.out.getD q
        generalize H.getD q 0 = x at *
        have e1 : (j : Int) / 4 = (q : Int) := by omega
        have e2 : (j : Int) % 4 = (r : Int) := by omega
        have e3 : (24 - 8 * (r : Int)).toNat = 24 - 8 * r := by omega
        have e4 : (q : Int) < 8 := by omega
        have e5 : 0 ≤ 24 - 8 * (r : Int) := by omega
        have e6 : IntKind.u8.wrap ((x : Int) / 2 ^ (24 - 8 * r)) = ((x / 2 ^ (24 - 8 * r) % 256 : Nat) : Int) := i_shr64 x _
        have hbj : (bytesOf H).getD j 0 = x / 2 ^ (24 - 8 * r) % 256 := by rw [hqr]; exact hbyte
        rw [hbj] at HST
        have HS2 := Lib.hid HST
        have hj32 : (j : Int) < 32 := by omega
        have hlt32 : ¬ (32 ≤ j) := by omega
        clear hbyte hbj HST K hqr
        generalize x / 2 ^ (24 - 8 * r) % 256 = by1 at *
        go_wp2_with fail
        have HF : Hid ((wr.setCell ⟨gO, j, none⟩ (.int .u8 ((by1 : Nat) : Int))).heap[gO]? = some (.cells (ints .u8 (outL (bytesOf H) (j + 1))) 26 (0, 0))) := by
          show _ = _
          rw [setCell_block HO.out, ints_set, HS2.out]
        have KF := Lib.hid (KR.out.setCell (p := ⟨gO, j, none⟩) (.inl rfl) (.int .u8 ((by1 : Nat) : Int)))
        clear cq co fo e1 e2 e3 e4 e5 e6
        go_roundw
        case rel => exact ⟨j + 1, by omega, by go_num, HF.out, KF.out⟩
        case measure => simp [intOf]; omega
      · obtain rfl : j = 32 := by omega
        have HF : Hid (wr.heap[gO]? = some (.cells (ints .u8 (sha tx)) 26 (0, 0))) := by
          have h := HO.out
          rw [outL_all hBL.out, ← HSH.out] at h
          exact h
        have hZ9 : wr.heap[w.heap.size]? = some (.cells Z26 26 (0, 0)) := K.rowS (by have := KW3.out.size; omega) Z6.out
        have hD9 : wr.heap[W0.heap.size]? = some (.deferred (some [])) := K.rowS (by omega) D6.out
        have hKF : Kept (fun _ => False) w wr := KW6.out.trans' K (fun i hi e => by have := KW3.out.size; omega)
        have hs26 : (ints .u8 (sha tx)).size = 32 := by rw [ints_size, sha_len]
        have Z9 := Lib.hid hZ9
        have D9 := Lib.hid hD9
        have KF := Lib.hid hKF
        have HS26 := Lib.hid hs26
        have HO26 := Lib.hid (ints_one .u8 (sha tx))
        clear K hZ9 hD9 hKF hs26
        go_wp2_with (first | fail | ((with_reducible refine load26 (C := ints .u8 (sha tx)) (g := gO) (o := 0) ?_ (range_row HF.out) HS26.out ?_); rfl) | ((with_reducible refine store26 (C := ints .u8 (sha tx)) ?_ ?_ Z9.out Z26_size HS26.out HO26.out ?_); rfl; rfl))
        have hDF : (wr.setRow w.heap.size (ints .u8 (sha tx))).heap[W0.heap.size]? = some (.deferred (some [])) := (setRow_other _ _ _ _ (by have := KW3.out.size; omega)).trans D9.out
        have hRF : ((wr.setRow w.heap.size (ints .u8 (sha tx))).putObj W0.heap.size (.deferred none)).heap[w.heap.size]? = some (.cells (ints .u8 (sha tx)) 26 (0, 0)) := (World.putObj_heap_other (by omega)).trans (setRow_heap _ _ _ _ _ _ Z9.out)
        have hKF2 : Kept (fun _ => False) w ((wr.setRow w.heap.size (ints .u8 (sha tx))).putObj W0.heap.size (.deferred none)) := (KF.out.setRow (Nat.le_refl _) _).putObj (by omega) _
        refine ⟨by simp, .inl ⟨_, _, rfl, run_takeDeferred hDF, ?_⟩⟩
        refine ⟨_, results_26 rfl _ _ _ hRF HS26.out rfl, RPost.mk rfl hKF2⟩
end Go.Proofs.YtklmhegmombegaaDoor
