/-
  Whatever is done to a disk, its bytes, errors and numbers are the document's all along: 'Rows.DiskActsSaid', for every input. Conditions: none.
-/
import Derived.Test.YtecjdlocajecoaaBoth
import Derived.Test.YtecjdlocajecoaaArgs
import Derived.Deep.RegionHeld3
import Derived.Deep.DeepCutAuto
import Derived.Deep.CutBlock
import Derived.ProofKit
import Derived.OpenShut
import Derived.ShutString
import Derived.ChangeOld
import Derived.Below
namespace Go.Proofs.Ytecjdlocajecoaa
open Go Go.RowKit
/-- A slice of acts that came in. -/
def IsActs (w : World) (v : Value) : Prop :=
  ∃ (a : Option Addr) (n c : Nat) (K N : Nat → Int) (V : Nat → Value) (R : Nat → List Int), v = .slice a n c ∧ n ≤ maxLen ∧ (n = 0 ∨ ∃ b o, a = some ⟨b, o, none⟩ ∧
    ∀ i, i < n → w.cell? ⟨b, o + i * 3, none⟩ = some (.int .i64 (K i)) ∧ w.cell? ⟨b, o + i * 3 + 1, none⟩ = some (.int .i64 (N i)) ∧ w.cell? ⟨b, o + i * 3 + 2, none⟩ = some (V i) ∧
      (-9223372036854775808 ≤ N i ∧ N i ≤ 9223372036854775807) ∧ (∃ a' c', V i = .slice a' (R i).length c' ∧ (R i).length ≤ maxLen) ∧ Rd w 1 (V i) (R i).length (u8s (R i)))
end Go.Proofs.Ytecjdlocajecoaa
namespace Go.Proofs.Ytecjdlocajecoaa.diskActs
open Go.ChangeShapes Go.WideShapes Go.ChangeAt Go.RowKit
set_option linter.unusedVariables false
theorem own : ownKnob Try.prog.godebug = none := by kernel_rfl
theorem laidOut : laidOutB Try.prog = true := by kernel_rfl
theorem cells43 : Try.prog.cellsOf 43 = 3 := by kernel_rfl
theorem cells3 : Try.prog.cellsOf 3 = 1 := by kernel_rfl
theorem cells22 : Try.prog.cellsOf 22 = 1 := by kernel_rfl
theorem cells5 : Try.prog.cellsOf 5 = 1 := by kernel_rfl

theorem wf64 {n : Int} (h : (Lit.int .i64 n).wf = true) : -9223372036854775808 ≤ n ∧ n ≤ 9223372036854775807 := by
  simpa [Lit.wf, IntKind.min, IntKind.max, IntKind.signed, IntKind.bits] using h

theorem IsActs.of {H : Type} {enc : TypeId × Value → H} {W : World} {base : Nat} {v : Value} {d : DataW H} {p : List MemPlace} (ho : Value.okWide Try.prog W .any base 36 v)
    (h : DataW.Trod enc Try.prog W 0 (fun _ => true) true 36 v d p) : IsActs W v := by
  obtain ⟨a0, len, cap, rfl⟩ := okWide_slice Try.underlying36 ho
  obtain ⟨a, n, c, F, hcs, _, _, hm, hF⟩ := open_elems Try.underlying36 cells43 (by decide) (Reads.of_trod h)
  have hcs' : Value.slice a0 len cap = .slice a n c := by simpa [Value.cells] using hcs
  rw [hcs']
  have each : ∀ i, i < n → ∃ q : Int × Int × Value × List Int, n = 0 ∨ ∃ b o, a = some ⟨b, o, none⟩ ∧ W.cell? ⟨b, o + i * 3, none⟩ = some (.int .i64 q.1) ∧ W.cell? ⟨b, o + i * 3 + 1, none⟩ = some (.int .i64 q.2.1) ∧ W.cell? ⟨b, o + i * 3 + 2, none⟩ = some q.2.2.1 ∧
      (-9223372036854775808 ≤ q.2.1 ∧ q.2.1 ≤ 9223372036854775807) ∧ (∃ a' c', q.2.2.1 = .slice a' q.2.2.2.length c' ∧ q.2.2.2.length ≤ maxLen) ∧ Rd W 1 q.2.2.1 q.2.2.2.length (u8s q.2.2.2) := by
    intro i hi
    rcases hF with h0 | ⟨b, o, rfl, hx⟩
    · omega
    obtain ⟨hl, hr, hc⟩ := hx i hi
    match hFi : F i, hl with
    | [x0, x1, x2], _ =>
      rw [hFi] at hr hc
      have r0 : Reads enc Try.prog W 3 (([x0, x1, x2].drop 0).take (Try.prog.cellsOf 3)) := hr.field Try.underlying43 (i := 0) rfl
      have r1 : Reads enc Try.prog W 3 (([x0, x1, x2].drop 1).take (Try.prog.cellsOf 3)) := hr.field Try.underlying43 (i := 1) rfl
      have r2 : Reads enc Try.prog W 22 (([x0, x1, x2].drop 2).take (Try.prog.cellsOf 22)) := hr.field Try.underlying43 (i := 2) rfl
      rw [cells3] at r0 r1
      rw [cells22] at r2
      obtain ⟨k, e0, _⟩ := Reads.int Try.underlying3 (by simpa using r0)
      obtain ⟨m, e1, w1⟩ := Reads.int Try.underlying3 (by simpa using r1)
      obtain ⟨a', c', zs, e2, hz, hrd, _⟩ := Reads.ints Try.underlying22 Try.underlying5 cells5 (by simpa using r2)
      simp at e0 e1 e2
      subst e0; subst e1; subst e2
      exact ⟨(k, m, .slice a' zs.length c', zs), .inr ⟨b, o, rfl, by simpa using hc 0 (by decide), by simpa using hc 1 (by decide), by simpa using hc 2 (by decide), wf64 w1, ⟨a', c', rfl, hz⟩, hrd⟩⟩
  obtain ⟨q, hq⟩ := Deep.choose_lt each
  refine ⟨a, n, c, fun i => (q i).1, fun i => (q i).2.1, fun i => (q i).2.2.1, fun i => (q i).2.2.2, rfl, hm, ?_⟩
  rcases hF with h0 | ⟨b, o, rfl, _⟩
  · exact .inl h0
  · by_cases h0 : n = 0
    · exact .inl h0
    refine .inr ⟨b, o, rfl, fun i hi => ?_⟩
    rcases hq i hi with h1 | ⟨b', o', e, h2⟩
    · omega
    · simp only [Option.some.injEq, Addr.mk.injEq] at e
      obtain ⟨rfl, rfl, _⟩ := e
      exact h2

def FewPost (n : Nat) (R : Nat → List Int) (w1 : World) (e : Ending) (w' : World) : Prop := ∃ b, e = .returned (.bool b) ∧ (b = true → n ≤ 60 ∧ ∀ i, i < n → (R i).length ≤ 200) ∧ w1 = w'
def Short (R : Nat → List Int) (k : Nat) : Prop := ∀ i, i < k → (R i).length ≤ 200
set_option maxHeartbeats 400000 in
/-- May the acts be looked at? -/
theorem few_any (w w1 : World) (a : Option Addr) (n c : Nat) (hm : n ≤ 9223372036854775807) (V : Nat → Value) (R : Nat → List Int)
    (HX : Hid (n = 0 ∨ ∃ b o, a = some ⟨b, o, none⟩ ∧ ∀ i, i < n → w.cell? ⟨b, o + i * 3 + 2, none⟩ = some (V i) ∧ (∃ a' c', V i = .slice a' (R i).length c' ∧ (R i).length ≤ maxLen)))
    (K : Kept (fun k => w.heap.size ≤ k) w w1) : Calls Try.prog 17 #[.slice a n c] w1 (FewPost n R w1) := by
  by_cases h60 : 60 < n
  · go_enter Try.func17, Try.ntmps17
    go_wp2
    go_ret
    exact ⟨false, rfl, by simp, rfl⟩
  go_enter Try.func17, Try.ntmps17
  go_wp2
  go_loop [3] (fun i => ∃ k : Nat, k ≤ n ∧ i = .int .i64 k ∧ Short R k) (fun i => n - (intOf i).toNat)
  case atStart => exact ⟨0, Nat.zero_le _, rfl, fun i hi => by omega⟩
  case round =>
    obtain ⟨k, hk, rfl, hsh⟩ := hrel
    by_cases hlt : k < n
    · obtain ⟨b, o, rfl, hx⟩ := HX.out.resolve_left (by omega)
      obtain ⟨hc, a', c', hv, hmx⟩ := hx k hlt
      clear hx
      rw [hv] at hc
      have hc' : w1.cell? ⟨b, o + k * 3 + 2, none⟩ = some (.slice a' (R k).length c') := by
        rw [K.cell (World.block_lt_of_cell? w ⟨b, o + k * 3 + 2, none⟩ hc) (Nat.not_le.2 (World.block_lt_of_cell? w ⟨b, o + k * 3 + 2, none⟩ hc))]; exact hc
      clear hv hc
      obtain ⟨m, hme⟩ : ∃ m, (R k).length = m := ⟨_, rfl⟩
      rw [hme] at hc' hmx
      have HME := Lib.hid hme
      clear hme
      unfold maxLen at hmx
      by_cases h200 : 200 < m
      · go_wp2
        go_ret
        exact ⟨false, rfl, by simp, rfl⟩
      · go_wp2
        go_round
        case rel => exact ⟨k + 1, by omega, by go_num, fun i hi => by
          by_cases e : i = k
          · subst e; rw [HME.out]; omega
          · exact hsh i (by omega)⟩
        case measure => simp [intOf]; omega
    · go_wp2
      go_ret
      exact ⟨true, rfl, fun _ => ⟨by omega, fun i hi => hsh i (by omega)⟩, rfl⟩

theorem keep_eq (zs : List Int) (l : Nat) (k : Int) (h : l ≤ zs.length) : zs.take (keepN l zs.length k) = zs.take l ++ (zs.drop l).take k.toNat := by
  have e : (zs.drop l).take k.toNat = (zs.drop l).take (min k.toNat (zs.length - l)) := by
    rw [← List.length_drop, ← List.take_eq_take_min]
  unfold keepN
  rw [e, List.take_add]

set_option maxRecDepth 100000 in
set_option maxHeartbeats 8000000 in
theorem walk (w : World) (a0 : Int) (w0 : (Lit.int .i64 a0).wf = true) (v1 : Value) (w1 : IsActs w v1) :
    Calls Try.prog 6 #[.int .i64 a0, v1] w fun e w' => e = .returned (.bool true) ∧ Below w.heap.size w w' := by
  have hw0 := wf64 w0
  obtain ⟨a, n, c, K, N, V, Rr, rfl, hm, hx⟩ := w1
  unfold maxLen at hm
  have HX : Hid (n = 0 ∨ ∃ b o, a = some ⟨b, o, none⟩ ∧ ∀ i, i < n → w.cell? ⟨b, o + i * 3 + 2, none⟩ = some (V i) ∧ (∃ a' c', V i = .slice a' (Rr i).length c' ∧ (Rr i).length ≤ maxLen)) := by
    rcases hx with h | ⟨b, o, h1, h2⟩
    · exact .inl h
    · exact .inr ⟨b, o, h1, fun i hi => ⟨(h2 i hi).2.2.1, (h2 i hi).2.2.2.2.1⟩⟩
  have HA := Lib.hid hx
  clear hx w0
  go_enter Try.func6, Try.ntmps6
  go_wp2_with fail
  refine (alive_true w).mono ?_
  rintro e w1 ⟨rfl, hk1⟩
  go_wp2_with fail
  refine (few_any w w1 a n c hm V Rr HX hk1).mono ?_
  rintro e w1' ⟨b, rfl, hb, rfl⟩
  cases b with
  | false =>
    go_wp2
    go_ret
    exact ⟨rfl, hk1.below (Nat.le_refl _) (fun k h => h)⟩
  | true =>
  obtain ⟨h60, hshort⟩ := hb rfl
  have HSH := Lib.hid hshort
  clear hb hshort
  by_cases hroom : a0 < 1 ∨ 65536 < a0
  · have HN : Hid (∀ w, Calls Try.prog 9 #[.int .i64 a0] w fun e w' => e = .returned (.pointer none) ∧ w = w') := fun w => new_no a0 w hroom
    rcases hroom with hr | hr
    · go_wp2_with (first | (go_at_call 9; refine (HN.out _).mono ?_; rintro e w2 ⟨rfl, rfl⟩) | (go_at_call 14; refine (nil_sync _).mono ?_; rintro e w2 ⟨rfl, rfl⟩) | (go_at_call 15; refine (nil_crash _ _).mono ?_; rintro e w2 ⟨rfl, rfl⟩) | (go_at_call 10; refine (nil_write _ _).mono ?_; rintro e w2 ⟨rfl, rfl⟩) | (go_at_call 18; refine (nil_cut _ _).mono ?_; rintro e w2 ⟨rfl, rfl⟩) | (go_at_call 11; refine (nil_bytes _).mono ?_; rintro e w2 ⟨rfl, rfl⟩) | (go_at_call 16; refine (nil_lasts _).mono ?_; rintro e w2 ⟨rfl, rfl⟩) | (go_at_call 13; refine (nil_room _).mono ?_; rintro e w2 ⟨rfl, rfl⟩))
      go_ret
      exact ⟨rfl, hk1.below (Nat.le_refl _) (fun k h => h)⟩
    · have hr1 : ¬ a0 < 1 := by omega
      go_wp2_with (first | (go_at_call 9; refine (HN.out _).mono ?_; rintro e w2 ⟨rfl, rfl⟩) | (go_at_call 14; refine (nil_sync _).mono ?_; rintro e w2 ⟨rfl, rfl⟩) | (go_at_call 15; refine (nil_crash _ _).mono ?_; rintro e w2 ⟨rfl, rfl⟩) | (go_at_call 10; refine (nil_write _ _).mono ?_; rintro e w2 ⟨rfl, rfl⟩) | (go_at_call 18; refine (nil_cut _ _).mono ?_; rintro e w2 ⟨rfl, rfl⟩) | (go_at_call 11; refine (nil_bytes _).mono ?_; rintro e w2 ⟨rfl, rfl⟩) | (go_at_call 16; refine (nil_lasts _).mono ?_; rintro e w2 ⟨rfl, rfl⟩) | (go_at_call 13; refine (nil_room _).mono ?_; rintro e w2 ⟨rfl, rfl⟩))
      go_ret
      exact ⟨rfl, hk1.below (Nat.le_refl _) (fun k h => h)⟩
  obtain ⟨room, rfl⟩ : ∃ room : Nat, a0 = room := ⟨a0.toNat, by omega⟩
  have r1 : ¬ (room : Int) < 1 := by omega
  have r2 : ¬ (65536 : Int) < room := by omega
  clear hroom hw0
  go_wp2_with fail
  refine (new_any w.heap.size room w1 (by omega) (by omega) hk1.size).mono ?_
  rintro e w2 ⟨rfl, hd2, hk2⟩
  have K2 := hk1.trans' hk2 (fun _ _ h => h.elim)
  have hDlt := hd2.lt
  clear hk1 hk2
  generalize w1.heap.size = D at *
  go_wp2_with fail
  have hJ0 : J w (w2.alloc (.cells #[.slice none 0 0, .slice none 0 0, .int .i64 room] 41)) D w2.heap.size room (.slice none 0 0) (.slice none 0 0) (.slice none 0 0) [] [] [] 0 := by
    have hsz := K2.size
    refine ⟨hd2.new ((Kept.refl _ w2).alloc _), ⟨heap_alloc_new _ _, hsz, ⟨rfl, none, 0, rfl, .inl ⟨rfl, rfl, rfl⟩⟩, ⟨rfl, none, 0, rfl, .inl ⟨rfl, rfl, rfl⟩⟩, Nat.zero_le _, by omega, by simp [Value.ownBlock], by simp [Value.ownBlock], by simp [Value.ownBlock], by simp [Value.ownBlock], fun a n c e => by injection e with e1 e2 e3; omega⟩, K2.alloc _, by omega, by simp [Value.ownBlock], by simp [Value.ownBlock], by simp [Value.ownBlock], by simp [Value.ownBlock], by simp [Value.ownBlock]⟩
  generalize w2.alloc (.cells #[.slice none 0 0, .slice none 0 0, .int .i64 room] 41) = w3 at hJ0 ⊢
  generalize w2.heap.size = R at hJ0 hDlt ⊢
  clear hd2 K2 hDlt
  go_loopw [7] (fun i wr => ∃ (k : Nat) (zs : List Int) (lasts : Nat) (sv dv lv : Value), k ≤ n ∧ i = .int .i64 k ∧ J w wr D R room sv dv lv zs (zs.take lasts) (zs.drop lasts) lasts)
    (fun i _ => n - (intOf i).toNat)
  case atStart => exact ⟨0, [], 0, _, _, _, Nat.zero_le _, rfl, hJ0⟩
  case round =>
    obtain ⟨k, zs, lasts, sv, dv, lv, hk, rfl, hJ⟩ := hrel
    clear hJ0 HX
    by_cases hlt : k < n
    · obtain ⟨b, o, rfl, hx⟩ := HA.out.resolve_left (by omega)
      obtain ⟨d0, d1, d2, hN, ⟨a', c', hv, hmx⟩, hrd⟩ := hx k hlt
      clear hx
      rw [hv] at d2 hrd
      clear hv
      have hl0 := World.block_lt_of_cell? w ⟨b, o + k * 3, none⟩ d0
      have c0 := (hJ.kept.cell (p := ⟨b, o + k * 3, none⟩) hl0 (Nat.not_le.2 hl0)).trans d0
      have c1 := (hJ.kept.cell (p := ⟨b, o + k * 3 + 1, none⟩) hl0 (Nat.not_le.2 hl0)).trans d1
      have c2 := (hJ.kept.cell (p := ⟨b, o + k * 3 + 2, none⟩) hl0 (Nat.not_le.2 hl0)).trans d2
      have HR := Lib.hid hrd
      clear hrd d0 d1 d2 hl0
      generalize K k = kk at c0
      generalize N k = nn at c1 hN
      have h200 := HSH.out k hlt
      generalize Rr k = ys at c2 HR hmx h200
      obtain ⟨X, hXe⟩ : ∃ X, wr.heap.size = X := ⟨_, rfl⟩
      go_upto_block 2 with (fail)
      have HXE := Lib.hid hXe
      clear hXe
      go_cut [9] (fun s9 wx => s9 = .bool true ∧ ∃ (zs : List Int) (lasts : Nat) (sv dv lv : Value), J w wx D R room sv dv lv zs (zs.take lasts) (zs.drop lasts) lasts)
      case first =>
        have hX := hJ.disk.lt
        have hXR := hJ.ref.lt
        rw [HXE.out] at hX hXR
        have hXS : sv.ownBlock ≠ some X := fun e => by have := (hJ.disk.own _ (.inr e)).2; have := HXE.out; omega
        have hJb := hJ.alloc (.cells #[.int .i64 kk, .int .i64 nn, .slice a' ys.length c'] 43)
        have hbx : (wr.alloc (.cells #[.int .i64 kk, .int .i64 nn, .slice a' ys.length c'] 43)).heap[X]? = some (.cells #[.int .i64 kk, .int .i64 nn, .slice a' ys.length c'] 43 (0, 0)) := by rw [← HXE.out]; exact heap_alloc_new _ _
        have hlX : X < (wr.alloc (.cells #[.int .i64 kk, .int .i64 nn, .slice a' ys.length c'] 43)).heap.size := by rw [← HXE.out]; simp
        generalize wr.alloc (.cells #[.int .i64 kk, .int .i64 nn, .slice a' ys.length c'] 43) = wb at hJb hbx hlX ⊢
        have hXD : X ≠ D := by omega
        have hXR' : X ≠ R := by omega
        have bx0 : wb.cell? ⟨X, 0, none⟩ = some (.int .i64 kk) := by simp [World.cell?, hbx]
        have bx1 : wb.cell? ⟨X, 1, none⟩ = some (.int .i64 nn) := by simp [World.cell?, hbx]
        have bx2 : wb.cell? ⟨X, 2, none⟩ = some (.slice a' ys.length c') := by simp [World.cell?, hbx]
        have hrd := HR.out.old hJb.kept
        clear hJ hX hXR c0 c1 c2 HA
        unfold maxLen at hmx
        have hle := hJb.disk.le
        simp only [u8s, List.length_map] at hle
        have hdl : (zs.take lasts).length = lasts := by rw [List.length_take]; omega
        have hll : (zs.drop lasts).length = zs.length - lasts := by rw [List.length_drop]
        have HDL := Lib.hid hdl
        have HLL := Lib.hid hll
        have hfits := hJb.ref.fits
        have hmost := hJb.ref.most
        clear hdl hll
        have HO : Hid (∀ wx, Kept (fun k => w.heap.size ≤ k) w wx → Rd wx 1 (.slice a' ys.length c') ys.length (u8s ys)) := fun wx K => HR.out.old K
        by_cases k0 : kk = 0
        · subst k0
          by_cases hfit : zs.length + ys.length ≤ room
          · have HF : Hid (∀ ds ls : List Int, ds = zs.take lasts → ls = zs.drop lasts → ds.length + ls.length + ys.length ≤ room) := fun ds ls e1 e2 => by rw [e1, e2, HDL.out, HLL.out]; omega
            go_wp2_with fail
            have hJd := hJb.drew
            have hS0 : wb.drew.cell? ⟨X, 2, none⟩ = some (.slice a' ys.length c') := bx2
            have hrdd : Rd wb.drew 1 (.slice a' ys.length c') ys.length (u8s ys) := hrd.drewN 1
            clear bx0 bx1 hrd
            go_region_held3 (fun w' => w'.cell? ⟨X, 2, none⟩ = some (.slice a' ys.length c'))
              (first | go_keep | assumption)
              ((first
                | (go_at_call 10; refine (jd_write (by assumption) (by assumption) hfit).mono ?_; rintro e wx1 ⟨rfl, sv1, hJx1, hn1⟩; have hbx1 := (hJb.drew.box hXD hXR' hXS hlX hn1).trans hbx; have hSx1 : wx1.cell? ⟨X, 2, none⟩ = some (.slice a' ys.length c') := (by simp [World.cell?, hbx1]); have hlx1 : X < wx1.heap.size := Nat.lt_of_lt_of_le hlX hn1.size; have hrx1 := HO.out wx1 hJx1.kept; clear hrdd)
                | (go_at_call 19; refine (jr_write (by assumption) (by assumption) (HF.out _ _ rfl rfl)).mono ?_; rintro e wx2 ⟨rfl, lv2, hJx2, hn2⟩; have hbx2 := (hn2.block X hlx1 hXR').trans hbx1; have hSx2 : wx2.cell? ⟨X, 2, none⟩ = some (.slice a' ys.length c') := (by simp [World.cell?, hbx2]))))
            all_goals
              have hJf := Lib.hid hJx2
              clear hJx1 hJx2 hbx2 hbx1 hn1 hn2 hJd hS0 hrx1
              go_wp2_with fail
              go_meet
              exact ⟨rfl, zs ++ ys, lasts, _, _, _, by rw [List.take_append_of_le_length hle, List.drop_append_of_le_length hle]; exact hJf.out⟩
          · have HM : Hid (ys.length ≤ 1000000) := by show ys.length ≤ 1000000; omega
            have HG : Hid (∀ ds ls : List Int, ds = zs.take lasts → ls = zs.drop lasts → room < ds.length + ls.length + ys.length) := fun ds ls e1 e2 => by rw [e1, e2, HDL.out, HLL.out]; omega
            go_wp2_with fail
            have hJd := hJb.drew
            have hS0 : wb.drew.cell? ⟨X, 2, none⟩ = some (.slice a' ys.length c') := bx2
            clear bx0 bx1 hrd
            go_region_held3 (fun w' => w'.cell? ⟨X, 2, none⟩ = some (.slice a' ys.length c'))
              (first | go_keep | assumption)
              ((first
                | (go_at_call 10; refine (jd_write_no (by assumption) (HM.out) (by omega)).mono ?_; rintro e wx1 ⟨rfl, hJx1, hn1⟩; have hbx1 := (hJb.drew.box hXD hXR' hXS hlX hn1).trans hbx; have hSx1 : wx1.cell? ⟨X, 2, none⟩ = some (.slice a' ys.length c') := (by simp [World.cell?, hbx1]); have hlx1 : X < wx1.heap.size := Nat.lt_of_lt_of_le hlX hn1.size)
                | (go_at_call 19; refine (jr_write_no (by assumption) (HM.out) (HG.out _ _ rfl rfl)).mono ?_; rintro e wx2 ⟨rfl, hJx2, hn2⟩; have hbx2 := (hn2.block X hlx1 hXR').trans hbx1; have hSx2 : wx2.cell? ⟨X, 2, none⟩ = some (.slice a' ys.length c') := (by simp [World.cell?, hbx2]))))
            all_goals
              have hJf := Lib.hid hJx2
              clear hJx1 hJx2 hbx2 hbx1 hn1 hn2 hJd hS0
              go_wp2_with fail
              go_meet
              exact ⟨rfl, zs, lasts, _, _, _, hJf.out⟩
        by_cases k1 : kk = 1
        · subst k1
          go_wp2_with fail
          refine (jd_sync hJb).mono ?_
          rintro e wx1 ⟨rfl, hJx1, hn1⟩
          clear bx0 bx1 bx2 hrd hbx
          go_wp2_with fail
          refine (jr_sync hJx1).mono ?_
          rintro e wx2 ⟨rfl, dv2, lv2, hJx2, hn2⟩
          have hJf := Lib.hid hJx2
          clear hJx1 hJx2 hn1 hn2
          go_wp2_with fail
          go_meet
          exact ⟨rfl, zs, zs.length, _, _, _, by
            have h := hJf.out
            rw [List.take_append_drop] at h
            rw [List.take_of_length_le (Nat.le_refl _), List.drop_eq_nil_of_le (Nat.le_refl _)]; exact h⟩
        by_cases k2 : kk = 2
        · subst k2
          go_wp2_with fail
          refine (jd_crash hJb hN.1 hN.2).mono ?_
          rintro e wx1 ⟨rfl, sv1, hJx1, hn1⟩
          have hbx1 := (hJb.box hXD hXR' hXS hlX hn1).trans hbx
          have b1x : wx1.cell? ⟨X, 1, none⟩ = some (.int .i64 nn) := by simp [World.cell?, hbx1]
          clear bx0 bx1 bx2 hrd hbx hbx1
          go_wp2_with fail
          refine (jr_crash hJx1 (keep := nn)).mono ?_
          rintro e wx2 ⟨rfl, dv2, lv2, hJx2, hn2⟩
          have hJf := Lib.hid hJx2
          clear hJx1 hJx2 hn1 hn2 b1x
          go_wp2_with fail
          go_meet
          exact ⟨rfl, zs.take (keepN lasts zs.length nn), keepN lasts zs.length nn, _, _, _, by
            have h := hJf.out
            have hkn : lasts ≤ keepN lasts zs.length nn ∧ keepN lasts zs.length nn ≤ zs.length := by unfold keepN; omega
            have e1 : (zs.take (keepN lasts zs.length nn)).take (keepN lasts zs.length nn) = zs.take lasts ++ (zs.drop lasts).take nn.toNat := by
              rw [List.take_take, Nat.min_self]
              exact keep_eq zs lasts nn hle
            have e2 : (zs.take (keepN lasts zs.length nn)).drop (keepN lasts zs.length nn) = [] := List.drop_eq_nil_of_le (by rw [List.length_take]; omega)
            rw [e1, e2]; exact h⟩
        by_cases k3 : kk = 3
        · subst k3
          by_cases hcut : 0 ≤ nn ∧ nn ≤ zs.length
          · obtain ⟨m, rfl⟩ : ∃ m : Nat, nn = m := ⟨nn.toNat, by omega⟩
            have hcut : m ≤ zs.length := by omega
            have HC : Hid (∀ ds ls : List Int, ds = zs.take lasts → ls = zs.drop lasts → m ≤ ds.length + ls.length) := fun ds ls e1 e2 => by rw [e1, e2, HDL.out, HLL.out]; omega
            go_wp2_with fail
            have hJd := hJb.drew
            have hS0 : wb.drew.cell? ⟨X, 1, none⟩ = some (.int .i64 m) := bx1
            clear bx0 bx2 hrd
            go_region_held3 (fun w' => w'.cell? ⟨X, 1, none⟩ = some (.int .i64 m))
              (first | go_keep | assumption)
              ((first
                | (go_at_call 18; refine (jd_cut (by assumption) hcut).mono ?_; rintro e wx1 ⟨rfl, sv1, hJx1, hn1⟩; have hbx1 := (hJb.drew.box hXD hXR' hXS hlX hn1).trans hbx; have hSx1 : wx1.cell? ⟨X, 1, none⟩ = some (.int .i64 m) := (by simp [World.cell?, hbx1]); have hlx1 : X < wx1.heap.size := Nat.lt_of_lt_of_le hlX hn1.size)
                | (go_at_call 22; refine (jr_cut (by assumption) (HC.out _ _ rfl rfl)).mono ?_; rintro e wx2 ⟨rfl, dv2, lv2, hJx2, hn2⟩; have hbx2 := (hn2.block X hlx1 hXR').trans hbx1; have hSx2 : wx2.cell? ⟨X, 1, none⟩ = some (.int .i64 m) := (by simp [World.cell?, hbx2]))))
            all_goals
              have hJf := Lib.hid hJx2
              clear hJx1 hJx2 hbx2 hbx1 hn1 hn2 hJd hS0
              go_wp2_with fail
              go_meet
              exact ⟨rfl, zs.take m, m, _, _, _, by
                have h := hJf.out
                rw [List.take_append_drop] at h
                have e1 : (zs.take m).take m = zs.take m := by rw [List.take_take, Nat.min_self]
                have e2 : (zs.take m).drop m = [] := List.drop_eq_nil_of_le (by rw [List.length_take]; omega)
                rw [e1, e2]; exact h⟩
          · have HN1 : Hid (nn < 0 ∨ (zs.length : Int) < nn) := by show nn < 0 ∨ (zs.length : Int) < nn; omega
            have HN2 : Hid (∀ ds ls : List Int, ds = zs.take lasts → ls = zs.drop lasts → (nn < 0 ∨ ((ds.length + ls.length : Nat) : Int) < nn)) := fun ds ls e1 e2 => by rw [e1, e2, HDL.out, HLL.out]; omega
            go_wp2_with fail
            have hJd := hJb.drew
            have hS0 : wb.drew.cell? ⟨X, 1, none⟩ = some (.int .i64 nn) := bx1
            clear bx0 bx2 hrd
            go_region_held3 (fun w' => w'.cell? ⟨X, 1, none⟩ = some (.int .i64 nn))
              (first | go_keep | assumption)
              ((first
                | (go_at_call 18; refine (jd_cut_no (by assumption) HN1.out).mono ?_; rintro e wx1 ⟨rfl, hJx1, hn1⟩; have hbx1 := (hJb.drew.box hXD hXR' hXS hlX hn1).trans hbx; have hSx1 : wx1.cell? ⟨X, 1, none⟩ = some (.int .i64 nn) := (by simp [World.cell?, hbx1]); have hlx1 : X < wx1.heap.size := Nat.lt_of_lt_of_le hlX hn1.size)
                | (go_at_call 22; refine (jr_cut_no (by assumption) (HN2.out _ _ rfl rfl)).mono ?_; rintro e wx2 ⟨rfl, hJx2, hn2⟩; have hbx2 := (hn2.block X hlx1 hXR').trans hbx1; have hSx2 : wx2.cell? ⟨X, 1, none⟩ = some (.int .i64 nn) := (by simp [World.cell?, hbx2]))))
            all_goals
              have hJf := Lib.hid hJx2
              clear hJx1 hJx2 hbx2 hbx1 hn1 hn2 hJd hS0
              go_wp2_with fail
              go_meet
              exact ⟨rfl, zs, lasts, _, _, _, hJf.out⟩
        have q0 : (kk == 0) = false := by rw [beq_eq_false_iff_ne]; exact k0
        have q1 : (kk == 1) = false := by rw [beq_eq_false_iff_ne]; exact k1
        have q2 : (kk == 2) = false := by rw [beq_eq_false_iff_ne]; exact k2
        have q3 : (kk == 3) = false := by rw [beq_eq_false_iff_ne]; exact k3
        have hJf := Lib.hid hJb
        clear hJb k0 k1 k2 k3 bx1 bx2 hrd hbx
        go_wp2_with fail
        go_meet
        exact ⟨rfl, zs, lasts, _, _, _, hJf.out⟩
      case rest =>
        obtain ⟨rfl, zs', lasts', sv', dv', lv', hJ'⟩ := hcut
        clear hJ c0 c1 c2 HA HR hmx hN
        generalize hds : zs'.take lasts' = ds at hJ'
        generalize hls : zs'.drop lasts' = ls at hJ'
        have e1 : zs' = ds ++ ls := by rw [← hds, ← hls, List.take_append_drop]
        have e2 : lasts' = ds.length := by have h := hJ'.disk.le; simp only [u8s, List.length_map] at h; rw [← hds, List.length_take]; omega
        clear hds hls
        subst e1; subst e2
        obtain ⟨_, a3, c3, rfl, _⟩ := hJ'.ref.done
        have hfits := hJ'.ref.fits
        have q1 : IntKind.i64.wrap ((room : Int) - ((ds.length : Int) + ls.length)) = (room : Int) - ((ds.length : Int) + ls.length) := IntWalk.i64_in _ (by omega)
        have hJd := hJ'.drew
        have hS0 := hJd.ref.c0
        go_wp2_with fail
        go_region_held3 (fun w' => w'.cell? ⟨R, 0, none⟩ = some (.slice a3 ds.length c3))
          (first | go_keep | assumption)
          ((first
            | (go_at_call 11; refine (jd_bytes2 (by assumption)).mono ?_; rintro e wx1 ⟨ax1, cx1, rfl, hrx1, hJx1⟩; have hSx1 := hJx1.ref.c0)
            | (go_at_call 23; refine (jr_bytes (by assumption)).mono ?_; rintro e wx2 ⟨ax2, cx2, rfl, hrx2, hJx2, hkx2⟩; have hrx1' := hrx1.kept hkx2 (fun _ _ h => h); clear hrx1; have hSx2 := hJx2.ref.c0)
            | (go_at_call 12; refine (same_true (by assumption) (by assumption) (by omega)).mono ?_; rintro e wx3 ⟨rfl, nx3, rfl⟩; have hJx3 := hJx2.drewN nx3; have hSx3 := hJx3.ref.c0)
            | (go_at_call 16; refine (jd_lasts (by assumption)).mono ?_; rintro e wx4 ⟨rfl, rfl⟩)
            | (go_at_call 13; refine (jd_room2 (by assumption)).mono ?_; rintro e wx5 ⟨rfl, hJx5⟩; have hSx5 := hJx5.ref.c0)
            | (go_at_call 23; refine (jr_bytes (by assumption)).mono ?_; rintro e wx6 ⟨ax6, cx6, rfl, hrx6, hJx6, hkx6⟩; have hSx6 := hJx6.ref.c0)))
        have hJf := Lib.hid hJx6
        have hx1 : Hid ((ds ++ ls).take ds.length = ds ∧ (ds ++ ls).drop ds.length = ls) := by constructor <;> simp
        clear q1 hJ' hJd hS0 hJx1 hSx1 hrx2 hJx2 hkx2 hrx1' hSx2 hJx3 hSx3 hJx5 hSx5 hrx6 hJx6 hkx6 hSx6
        go_wp2
        go_roundw
        case rel => exact ⟨k + 1, ds ++ ls, ds.length, _, _, _, by omega, by go_num, by rw [hx1.out.1, hx1.out.2]; exact hJf.out⟩
        case measure => simp [intOf]; omega
    · go_wp2
      go_ret
      exact ⟨rfl, hJ.kept.below (Nat.le_refl _) (fun k h => h)⟩

set_option maxRecDepth 100000 in
theorem lifted (os : Os) (started : os.Started) (H : Type) (enc : TypeId × Value → H) :
    ReturnsInHanded {} Try.checked os 6 .any (Rows.diskActsSpec.pre6 enc Try.prog Try.f6 Rows.diskActsRow.domain false) (Rows.diskActsSpec.post enc Try.prog Try.f6 false true false false) := by
  refine returnsInHanded_of_change (C := Try.checked) own started (by kernel_rfl) Try.func6
    (ChangeSpec.witness6 (enc := enc) (C := Try.checked) false ⟨#[], #[.int .i64 0, .slice none 0 0], []⟩ 8 (by kernel_rfl) (by kernel_rfl) (by kernel_rfl) (by kernel_rfl)) ?_
  intro W base args ds gs before hval0 hW hcnd _
  have hval : ∀ (j : Nat) t v, Try.f6.params[j]? = some t → args[j]? = some v → Value.okWide Try.prog W .any base t v := hval0
  have hW' := hW
  obtain ⟨p, q, hA0, hV, rfl, hfz, hnd⟩ := hW
  have hA : DataW.TrodAll enc Try.prog W 0 (fun _ => true) true Try.f6.params.toList args.toList ds p := hA0
  rw [Try.params6] at hA hval
  obtain ⟨v0, vs0, d0, ds0, p0, q0, hargs, rfl, rfl, h0, r0⟩ := trodAll_cons hA
  obtain ⟨v1, vs1, d1, ds1, p1, q1, rfl, rfl, rfl, h1, r1⟩ := trodAll_cons r0
  obtain ⟨rfl, rfl, rfl⟩ := trodAll_nil r1
  obtain rfl : args = #[v0, v1] := by cases args; simp_all
  obtain ⟨rfl, rfl⟩ := trodVars_none hV
  obtain ⟨a0, rfl, rfl, rfl, w0⟩ := open_int Try.underlying3 (hval 0 3 v0 rfl rfl) h0
  have k1 := h1
  have lt1 : ∀ x ∈ p1, x.block < W.heap.size := by obtain ⟨m, hm⟩ := k1; exact DataW.trod_lt m _ _ _ hm
  have w1 := IsActs.of (hval 1 36 v1 rfl rfl) h1
  clear hA0 hval0
  refine (walk W a0 w0 v1 w1).mono fun e W' ⟨he, bel⟩ => ?_
  subst he
  exact ⟨_, rfl, _, _, _, [], _, [], hW', trodAll_mk1 (shut_bool Try.underlying4 _), (trodAll_cons_mk (shut_int Try.underlying3 w0) (trodAll_cons_mk (Below.trod laidOut (by kernel_rfl) (of_decide_eq_true (by kernel_rfl)) k1 bel lt1) trodAll_mk0)), rfl, bel.frame _, fun h => by cases h⟩

theorem over : Rows.diskActsRow.holds Try.pinned (OpenSpec.ofChange Rows.diskActsSpec) :=
  OpenClaim.holds_of_wide 6 Try.f6 rfl rfl rfl rfl rfl rfl rfl ⟨rfl, rfl, rfl, rfl, rfl⟩ rfl rfl rfl rfl rfl (by kernel_rfl) Try.func6 (by kernel_rfl)
    (of_decide_eq_true (by kernel_rfl)) (by unfold Func.isWrapper; first | (rw [if_pos (by decide +kernel)]; kernel_rfl) | (rw [if_neg (by decide +kernel)]; exact ⟨rfl, rfl⟩))
    (fun os started H enc _ => lifted os started H enc)

theorem proved : Rows.DiskActsSaid := over
#print axioms proved
end Go.Proofs.Ytecjdlocajecoaa.diskActs
