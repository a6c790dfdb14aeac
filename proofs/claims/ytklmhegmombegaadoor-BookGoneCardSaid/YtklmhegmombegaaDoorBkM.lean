/-
  The contract of Only. Conditions: as each theorem says.
-/
import Derived.Test.YtklmhegmombegaaDoorBkL
set_option linter.unusedVariables false
set_option linter.unusedSimpArgs false
namespace Go.Proofs.YtklmhegmombegaaDoor.Re
open Go Go.RowKit Go.Proofs.YtklmhegmombegaaDoor.Re.Plain Go.Proofs.YtklmhegmombegaaDoor

theorem Tryd.ifull30 : (Tryd.prog.info? 30).map (fun i => (i.size, i.bytes, i.zero.map (·.cells.size))) = some (109, 224, some 109) := by kernel_rfl
theorem info30' : ∃ i z, Tryd.prog.info? 30 = some i ∧ i.size = 109 ∧ i.bytes = 224 ∧ i.zero = some z ∧ z.cells.size = 109 := by
  obtain ⟨i, hi, hb⟩ := Option.map_eq_some_iff.1 Tryd.ifull30
  simp only [Prod.mk.injEq] at hb
  obtain ⟨z, hz, hz2⟩ := Option.map_eq_some_iff.1 hb.2.2
  exact ⟨i, z, hi, hb.1, hb.2.1, hz, hz2⟩
set_option maxRecDepth 100000 in
/-- A slice of the one record C. -/
theorem one30 {ops : Array Oper} {rest : List Oper} {dst : Option Tmp} {ty : TypeId} {pos : String} {aft : Array Edge} {x : Operand} {a : Act} {w : World} {Q : Exit → Act → World → Prop} {C : Array Value}
    (hx : a.eval x = .agg C) (hC : C.size = 109)
    (h : wpList Tryd.prog ops Q rest (a.put dst (.slice (some ⟨w.heap.size, 0, none⟩) 1 1)) (w.alloc (.cells C 30))) : wpList Tryd.prog ops Q (⟨dst, .buildSlice 81 1 #[(0, x)], ty, pos, aft, none⟩ :: rest) a w := by
  obtain ⟨i, z, hi, hs, _, hz, hzs⟩ := info30'
  refine wpList_buildSlice (P := Tryd.prog) (o := ⟨dst, .buildSlice 81 1 #[(0, x)], ty, pos, aft, none⟩) rfl 81 30 1 #[(0, x)] rfl C i z Tryd.underlying81 hi hz (by rw [hs]; decide) (by rw [hs]; decide) ?_ h
  rw [hs]
  have := Great.fill_whole (s := 109) (by decide) [.agg C] ((Array.range (1 * 109)).map (z.cells[· % z.cells.size]!)) (by simp [Value.cells, hC]) (by simp)
  simp only [Array.toList_map, List.map_cons, List.map_nil, hx, List.zipIdx_cons, List.zipIdx_nil, List.flatMap_cons, List.flatMap_nil, Value.cells, Array.toArray_toList, List.append_nil] at this ⊢
  exact this
theorem oneCell_flat109 {w : World} {l : List (Array Value × Rx)} (h : ∀ p ∈ l, RecIn w p.1 p.2) : ∀ u ∈ l.flatMap frc, u.oneCell' = true := by
  intro u hu
  obtain ⟨p, hp, hu⟩ := List.mem_flatMap.1 hu
  exact (Array.all_eq_true_iff_forall_mem.1 (h p hp).one) u (by simpa [frc] using hu)
/-- A saga's records. -/
def onlyR (n : Int) (rs : List (Array Value × Rx)) : List (Array Value × Rx) := rs.filter fun p => onlyB n p.2
/-- Records are handed back, in new memory. -/
def OnPost (rs : List (Array Value × Rx)) (w : World) (e : Ending) (w' : World) : Prop := ∃ v, e = .returned v ∧ Buf w' w.heap.size 30 109 v rs.length (rs.flatMap frc) ∧ Kept (fun _ => False) w w'
theorem onlyR_snoc (n : Int) (rs : List (Array Value × Rx)) (p : Array Value × Rx) : onlyR n (rs ++ [p]) = if onlyB n p.2 = true then onlyR n rs ++ [p] else onlyR n rs := by
  unfold onlyR
  rw [List.filter_append]
  by_cases h : onlyB n p.2 = true
  · rw [if_pos h]; simp [h]
  · rw [if_neg h]; simp [h]
set_option maxRecDepth 100000 in
set_option maxHeartbeats 8000000 in
theorem f_only (v : Value) (rs : List (Array Value × Rx)) (n : Int) (w : World) (hR : HoldsRs w v rs) (hl : rs.length ≤ 1000000) : Calls Tryd.prog 77 #[v, .int .i64 n] w (OnPost (onlyR n rs) w) := by
  obtain ⟨i, z, hi, hsz, hby, hz, hzs⟩ := info30'
  obtain ⟨a, c, rfl⟩ := hR.form
  have HR := Lib.hid hR
  clear hR
  go_enter Tryd.func77, Tryd.ntmps77
  go_wp2_with fail
  go_loopw [5, 10] (fun v j wr => ∃ k : Nat, k ≤ rs.length ∧ j = .int .i64 k ∧ Buf wr w.heap.size 30 109 v (onlyR n (rs.take k)).length ((onlyR n (rs.take k)).flatMap frc) ∧ Kept (fun _ => False) w wr) (fun _ j _ => rs.length - (intOf j).toNat)
  case atStart => exact ⟨0, Nat.zero_le _, rfl, Buf.nil _ _ _ _, Kept.refl _ _⟩
  case round =>
    obtain ⟨k, hk, rfl, hbuf, K⟩ := hrel
    have HBF := Lib.hid hbuf
    have KR := Lib.hid K
    obtain ⟨av, cv, rfl, hcv, _⟩ := hbuf.form
    have hlk : (onlyR n (rs.take k)).length ≤ k := Nat.le_trans (List.length_filter_le _ _) (by simp; omega)
    clear hbuf
    by_cases hlt : k < rs.length
    · obtain ⟨b1, o1, c1, e1, r1⟩ := (HR.out.kept K).elem hlt
      simp only [Value.slice.injEq, true_and] at e1
      obtain ⟨rfl, rfl⟩ := e1
      have hrec := (HR.out.kept K).rin rs[k] (List.getElem_mem _)
      have HTK : Hid (onlyR n (rs.take (k + 1)) = if onlyB n rs[k].2 = true then onlyR n (rs.take k) ++ [rs[k]] else onlyR n (rs.take k)) := by
        show _ = _
        rw [← List.take_append_getElem hlt, onlyR_snoc]
      generalize rs[k] = p at r1 hrec HTK
      obtain ⟨C, x⟩ := p
      dsimp only at r1 hrec HTK
      have hr1 := Lib.hid r1
      have HC := Lib.hid hrec
      have z0 := Lib.hid (heap_alloc_new wr (.cells Z30 30))
      obtain ⟨y0, k0⟩ := alloc_set wr Z30 C 30
      have Y0 := Lib.hid y0
      have K0 := Lib.hid k0
      have x0 := row_cell y0 hrec.c0
      have x1 := row_cell y0 hrec.c1
      generalize hL : onlyR n (rs.take k) = L at *
      clear r1 hrec K y0 k0 hL
      have EB : Hid (onlyB n x = (decide (1 ≤ x.kind) && (decide (x.kind ≤ 5) && (x.saga == n)))) := rfl
      by_cases hob : onlyB n x = true
      · have h3 : (1 ≤ x.kind ∧ x.kind ≤ 5) ∧ x.saga = n := by
          rw [EB.out] at hob; simpa [and_assoc] using hob
        obtain ⟨⟨h1, h2⟩, h3⟩ := h3
        have t3 : (x.saga == n) = true := by rw [beq_iff_eq]; exact h3
        rw [if_pos hob] at HTK
        clear hob h3 EB
        have hn1 := heap_alloc_new ((wr.alloc (.cells Z30 30)).setRow wr.heap.size C) (.cells C 30)
        have hsrc : Src Tryd.prog 109 81 (.slice (some ⟨((wr.alloc (.cells Z30 30)).setRow wr.heap.size C).heap.size, 0, none⟩) 1 1) 1 C.toList (((wr.alloc (.cells Z30 30)).setRow wr.heap.size C).alloc (.cells C 30)) := by
          have h := Rd.of_block hn1 109 1 1 (by rw [HC.out.size]; decide)
          rw [List.take_of_length_le (by simp [HC.out.size])] at h
          exact h.src Tryd.underlying81 (fun u hu => Array.all_eq_true_iff_forall_mem.1 HC.out.one u (by simpa using hu))
        have hbuf2 : Buf (((wr.alloc (.cells Z30 30)).setRow wr.heap.size C).alloc (.cells C 30)) w.heap.size 30 109 (.slice av L.length cv) L.length (L.flatMap frc) := HBF.out.kept (S := fun _ => False) (K0.out.alloc _) (fun _ _ h => h)
        have HSR := Lib.hid hsrc
        have HB2 := Lib.hid hbuf2
        have hws : w.heap.size ≤ (((wr.alloc (.cells Z30 30)).setRow wr.heap.size C).alloc (.cells C 30)).heap.size := Nat.le_trans KR.out.size (K0.out.alloc (.cells C 30)).size
        have HWS := Lib.hid hws
        clear hn1 hsrc hbuf2 hws
        go_wp2_with (first | fail | ((with_reducible refine load30 (C := C) (g := b1) (o := o1 + k * 109) ?_ hr1.out HC.out.size ?_); rfl) | (with_reducible refine alloc30 ?_) | ((with_reducible refine store30 (C := C) ?_ ?_ z0.out rfl HC.out.size HC.out.one ?_); rfl; rfl) | ((with_reducible refine load30 (C := C) (g := wr.heap.size) (o := 0) ?_ (range_row Y0.out) HC.out.size ?_); rfl) | ((with_reducible refine one30 (C := C) ?_ HC.out.size ?_); rfl) | (at_builtin; refine wpList_append_buf _ rfl (.tmp 28) (.tmp 30) 81 81 rfl w.heap.size 30 i z 109 224 Tryd.underlying81 hi hz hsz hby hzs (by decide) (.slice av L.length cv) L.length (L.flatMap frc) rfl HB2.out _ _ _ rfl HSR.out (by unfold maxLen; omega) (by omega) HWS.out ?_; intro v' w' hb' hg' ho' hn'; have HB3 := Lib.hid hb'; have HG3 := Lib.hid hg'; clear hb' hg' ho' hn'))
        have HB4 : Hid (Buf w' w.heap.size 30 109 v' (onlyR n (rs.take (k + 1))).length ((onlyR n (rs.take (k + 1))).flatMap frc)) := by
          show Buf _ _ _ _ _ _ _
          rw [HTK.out, List.flatMap_append, List.length_append]
          simpa [frc] using HB3.out
        have KF : Hid (Kept (fun _ => False) w w') := ((KR.out.trans K0.out).alloc (.cells C 30)).grown HG3.out (fun j hj => .inr (HB2.out.lt j hj).1)
        go_roundw
        case rel => exact ⟨k + 1, by omega, by go_num, HB4.out, KF.out⟩
        case measure => simp [intOf]; omega
      · rw [if_neg hob] at HTK
        have HB4 : Hid (Buf ((wr.alloc (.cells Z30 30)).setRow wr.heap.size C) w.heap.size 30 109 (.slice av L.length cv) (onlyR n (rs.take (k + 1))).length ((onlyR n (rs.take (k + 1))).flatMap frc)) := by
          show Buf _ _ _ _ _ _ _
          rw [HTK.out]
          exact HBF.out.kept (S := fun _ => False) K0.out (fun _ _ h => h)
        have KF : Hid (Kept (fun _ => False) w ((wr.alloc (.cells Z30 30)).setRow wr.heap.size C)) := KR.out.trans K0.out
        by_cases h1 : x.kind < 1
        · clear hob EB
          go_wp2_with (first | fail | ((with_reducible refine load30 (C := C) (g := b1) (o := o1 + k * 109) ?_ hr1.out HC.out.size ?_); rfl) | (with_reducible refine alloc30 ?_) | ((with_reducible refine store30 (C := C) ?_ ?_ z0.out rfl HC.out.size HC.out.one ?_); rfl; rfl))
          go_roundw
          case rel => exact ⟨k + 1, by omega, by go_num, HB4.out, KF.out⟩
          case measure => simp [intOf]; omega
        by_cases h2 : 5 < x.kind
        · clear hob EB
          go_wp2_with (first | fail | ((with_reducible refine load30 (C := C) (g := b1) (o := o1 + k * 109) ?_ hr1.out HC.out.size ?_); rfl) | (with_reducible refine alloc30 ?_) | ((with_reducible refine store30 (C := C) ?_ ?_ z0.out rfl HC.out.size HC.out.one ?_); rfl; rfl))
          go_roundw
          case rel => exact ⟨k + 1, by omega, by go_num, HB4.out, KF.out⟩
          case measure => simp [intOf]; omega
        have t3 : (x.saga == n) = false := by
          rw [beq_eq_false_iff_ne]
          intro h3
          apply hob
          rw [EB.out, decide_eq_true (by omega), decide_eq_true (by omega), h3]; simp
        clear hob EB
        go_wp2_with (first | fail | ((with_reducible refine load30 (C := C) (g := b1) (o := o1 + k * 109) ?_ hr1.out HC.out.size ?_); rfl) | (with_reducible refine alloc30 ?_) | ((with_reducible refine store30 (C := C) ?_ ?_ z0.out rfl HC.out.size HC.out.one ?_); rfl; rfl))
        go_roundw
        case rel => exact ⟨k + 1, by omega, by go_num, HB4.out, KF.out⟩
        case measure => simp [intOf]; omega
    · obtain rfl : k = rs.length := by omega
      have hfin : Hid (rs.take rs.length = rs) := List.take_of_length_le (Nat.le_refl _)
      clear K hlk
      rw [hfin.out] at HBF ⊢
      go_wp2_with fail
      go_ret
      exact ⟨_, rfl, HBF.out, KR.out⟩
end Go.Proofs.YtklmhegmombegaaDoor.Re
