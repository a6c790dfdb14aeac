/-
  Contracts of the reference's disk. Conditions: as each theorem says.
-/
import Derived.Test.YtecjdlocajecoaaArg
import Derived.Deep.RegionHeld3
import Derived.Deep.RegionLaw
namespace Go.Proofs.Ytecjdlocajecoaa
open Go Go.RowKit

/-- THE REFERENCE's DISK behind the address ⟨R, 0⟩: what lasts, what doesn't yet. -/
structure IsRef (w : World) (base R : Nat) (dv lv : Value) (ds ls : List Int) (room : Nat) : Prop where
  block : w.heap[R]? = some (.cells #[dv, lv, .int .i64 room] 41 (0, 0))
  lo : base ≤ R
  done : Rd w 1 dv ds.length (u8s ds)
  late : Rd w 1 lv ls.length (u8s ls)
  fits : ds.length + ls.length ≤ room
  most : room ≤ 65536
  dlo : ∀ k, dv.ownBlock = some k → base ≤ k ∧ k < w.heap.size
  llo : ∀ k, lv.ownBlock = some k → base ≤ k ∧ k < w.heap.size
  dne : dv.ownBlock ≠ some R
  lne : lv.ownBlock ≠ some R
  lcap : ∀ a n c, lv = .slice a n c → n ≤ c

theorem size_setCell' (w : World) (a : Addr) (v : Value) : (w.setCell a v).heap.size = w.heap.size := by simp [World.setCell]
section
variable {w w' : World} {base R : Nat} {dv lv : Value} {ds ls : List Int} {room : Nat}
theorem IsRef.lt (h : IsRef w base R dv lv ds ls room) : R < w.heap.size := (Array.getElem?_eq_some_iff.1 h.block).1
theorem IsRef.c0 (h : IsRef w base R dv lv ds ls room) : w.cell? ⟨R, 0, none⟩ = some dv := by simp [World.cell?, h.block]
theorem IsRef.c1 (h : IsRef w base R dv lv ds ls room) : w.cell? ⟨R, 1, none⟩ = some lv := by simp [World.cell?, h.block]
theorem IsRef.c2 (h : IsRef w base R dv lv ds ls room) : w.cell? ⟨R, 2, none⟩ = some (.int .i64 room) := by simp [World.cell?, h.block]
theorem IsRef.f (h : IsRef w base R dv lv ds ls room) (j : Nat) : w.frozen? ⟨R, j, none⟩ = false := by simp [World.frozen?, h.block]
theorem IsRef.kept {S : Nat → Prop} (h : IsRef w base R dv lv ds ls room) (hk : Kept S w w') (h0 : ¬ S R) (h1 : ∀ k, dv.ownBlock = some k → ¬ S k) (h2 : ∀ k, lv.ownBlock = some k → ¬ S k) : IsRef w' base R dv lv ds ls room :=
  ⟨(hk.block R h.lt h0).trans h.block, h.lo, h.done.kept hk h1, h.late.kept hk h2, h.fits, h.most, fun k hk' => ⟨(h.dlo k hk').1, Nat.lt_of_lt_of_le (h.dlo k hk').2 hk.size⟩, fun k hk' => ⟨(h.llo k hk').1, Nat.lt_of_lt_of_le (h.llo k hk').2 hk.size⟩, h.dne, h.lne, h.lcap⟩
theorem IsRef.new (h : IsRef w base R dv lv ds ls room) (hk : Kept (fun _ => False) w w') : IsRef w' base R dv lv ds ls room := h.kept hk (fun h => h) (fun _ _ h => h) (fun _ _ h => h)

set_option maxHeartbeats 800000 in
theorem r_bytes (h : IsRef w base R dv lv ds ls room) :
    Calls Try.prog 23 #[.pointer (some ⟨R, 0, none⟩)] w fun e w' => ∃ v, e = .returned v ∧ Buf w' w.heap.size 5 1 v (ds.length + ls.length) (u8s (ds ++ ls)) ∧ Kept (fun _ => False) w w' := by
  obtain ⟨i0, hi, hz0, hz1, hz2⟩ := info_parts Try.info5
  have c0 := h.c0
  have c1 := h.c1
  have hR := h.lt
  have hfit := h.fits
  have hmost := h.most
  have hbuf : Buf ((w.alloc (.cells #[] 5)).drew) w.heap.size 5 1 (.slice (some ⟨w.heap.size, 0, none⟩) 0 0) 0 [] :=
    Buf.of_owns (World.ownsRow_made w #[] 0 (Nat.le_refl _) (by decide) rfl)
  have hs1 : Src Try.prog 1 22 dv ds.length (u8s ds) ((w.alloc (.cells #[] 5)).drew) := Rd.src (P := Try.prog) (tx := 22) (e' := 5) Try.underlying22 ((h.done.alloc _).drewN 1) (oneCell_ints _ _)
  have hs2 : Hid (Rd ((w.alloc (.cells #[] 5)).drew) 1 lv ls.length (u8s ls)) := (h.late.alloc _).drewN 1
  have hl2 : Hid (∀ k, lv.ownBlock = some k → k < w.heap.size) := fun k hk => (h.llo k hk).2
  obtain ⟨_, a1, ca1, rfl, _⟩ := h.done
  obtain ⟨_, a2, ca2, rfl, _⟩ := h.late
  have hA : ∀ w1 row, ((w.alloc (.cells #[] 5)).drew).grownBy w1 row → row = some w.heap.size → w1.cell? ⟨R, 0, none⟩ = some (.slice a1 ds.length ca1) ∧ w1.cell? ⟨R, 1, none⟩ = some (.slice a2 ls.length ca2) := by
    rintro w1 row hg rfl
    have hne : some R ≠ some w.heap.size := by simp; omega
    exact ⟨hg.cell (a := ⟨R, 0, none⟩) (by show (w.alloc _).cell? _ = _; rw [World.cell?_alloc_past _ _ _ hR]; exact c0) hne, hg.cell (a := ⟨R, 1, none⟩) (by show (w.alloc _).cell? _ = _; rw [World.cell?_alloc_past _ _ _ hR]; exact c1) hne⟩
  have HA := Lib.hid hA
  have hB : ∀ w1 row, ((w.alloc (.cells #[] 5)).drew).grownBy w1 row → row = some w.heap.size → Src Try.prog 1 22 (.slice a2 ls.length ca2) ls.length (u8s ls) w1 := by
    rintro w1 row hg rfl
    have K : Kept (fun i => i = w.heap.size) ((w.alloc (.cells #[] 5)).drew) w1 := (Kept.refl _ _).grown hg (fun k hk => .inl (by cases hk; rfl))
    exact Rd.src (P := Try.prog) (tx := 22) (e' := 5) Try.underlying22 (hs2.out.kept K (fun k hk e => by have := hl2.out k hk; omega)) (oneCell_ints _ _)
  have HB := Lib.hid hB
  have hC : ∀ (v1 : Value) (w1 w2 : World) (row : Option Nat) (n : Nat), (v1.ownBlock = row ∨ v1.ownBlock = some n) → row = some w.heap.size → w.heap.size ≤ n →
      (w1.cell? ⟨R, 0, none⟩ = some (.slice a1 ds.length ca1) ∧ w1.cell? ⟨R, 1, none⟩ = some (.slice a2 ls.length ca2)) → w1.grownBy w2 v1.ownBlock →
      (w2.cell? ⟨R, 0, none⟩ = some (.slice a1 ds.length ca1) ∧ w2.cell? ⟨R, 1, none⟩ = some (.slice a2 ls.length ca2)) := by
    rintro v1 w1 w2 row n ho rfl hn ⟨h0, h1⟩ hg
    have hne : some R ≠ v1.ownBlock := by rcases ho with h | h <;> rw [h] <;> simp <;> omega
    exact ⟨hg.cell h0 hne, hg.cell h1 hne⟩
  have HC := Lib.hid hC
  clear h hA hB hC
  go_enter Try.func23, Try.ntmps23
  go_wp2_with fail
  go_region_held3 (fun w' => w'.cell? ⟨R, 0, none⟩ = some (.slice a1 ds.length ca1) ∧ w'.cell? ⟨R, 1, none⟩ = some (.slice a2 ls.length ca2))
    (first | go_keep | assumption)
    ((first
      | (refine step_append_buf _ rfl (.tmp 3) (.tmp 7) 22 22 rfl w.heap.size 5 i0 (.int .u8 0) 1 1 Try.underlying22 hi hz0 hz1 hz2 rfl (by decide) (.slice (some ⟨w.heap.size, 0, none⟩) 0 0) 0 [] (by rfl) hbuf _ _ _ (by rfl) hs1 (by unfold maxLen; omega) (by omega) (by simp) ?_; intro v1 w1 hb1 hg1 ho1 hn1; have hS1 := HA.out w1 _ hg1 rfl; have hsz1 := hg1.size; have hsr1 := HB.out w1 _ hg1 rfl)
      | (refine step_append_buf _ rfl (.tmp 8) (.tmp 12) 22 22 rfl w.heap.size 5 i0 (.int .u8 0) 1 1 Try.underlying22 hi hz0 hz1 hz2 rfl (by decide) _ _ _ (by rfl) (by assumption) _ _ _ (by rfl) (by assumption) (by unfold maxLen; omega) (by omega) (by simp at *; omega) ?_; intro v2 w2 hb2 hg2 ho2 hn2; have hS2 := HC.out _ w1 w2 _ _ ho1 rfl (by simp) hS1 hg2)))
  go_wp2
  go_ret
  refine ⟨v2, rfl, by simpa [u8s] using hb2, ?_⟩
  refine ((((Kept.refl _ w).alloc _).drew).grown hg1 (fun k hk => by cases hk; exact .inr (Nat.le_refl _))).grown hg2 (fun k hk => .inr ?_)
  have hk' : v1.ownBlock = some k := hk
  rcases ho1 with h | h <;> rw [hk'] at h <;> simp [Value.ownBlock] at h <;> omega

theorem r_write_no (h : IsRef w base R dv lv ds ls room) {ax : Option Addr} {m cx : Nat} (hm : m ≤ maxLen - 65536) (hfit : room < ds.length + ls.length + m) :
    Calls Try.prog 19 #[.pointer (some ⟨R, 0, none⟩), .slice ax m cx] w fun e w' => e = .returned (.int .i64 5) ∧ ∃ n, w' = w.drewN n := by
  have c0 := h.c0
  have c1 := h.c1
  have c2 := h.c2
  have hf := h.fits
  have hmost := h.most
  obtain ⟨_, a1, ca1, rfl, _⟩ := h.done
  obtain ⟨_, a2, ca2, rfl, _⟩ := h.late
  unfold maxLen at hm
  have e1 : IntKind.i64.wrap ((ds.length : Int) + ls.length) = (ds.length : Int) + ls.length := IntWalk.i64_in _ (by omega)
  have e2 : IntKind.i64.wrap ((ds.length : Int) + ls.length + m) = (ds.length : Int) + ls.length + m := IntWalk.i64_in _ (by omega)
  have t : (room : Int) < (ds.length : Int) + ls.length + m := by omega
  clear h
  go_enter Try.func19, Try.ntmps19
  go_wp2
  go_quiet (fail)
  go_wp2
  go_ret
  exact ⟨rfl, _, rfl⟩

set_option maxHeartbeats 800000 in
theorem r_write (h : IsRef w base R dv lv ds ls room) {xv : Value} {m : Nat} {ys : List Int} (hx : Rd w 1 xv m (u8s ys)) (hfit : ds.length + ls.length + ys.length ≤ room) :
    Calls Try.prog 19 #[.pointer (some ⟨R, 0, none⟩), xv] w fun e w' => e = .returned (.int .i64 0) ∧ ∃ lv', IsRef w' base R dv lv' ds (ls ++ ys) room ∧ (∀ k, lv'.ownBlock = some k → w.heap.size ≤ k) ∧ Kept (fun k => k = R) w w' := by
  obtain ⟨i0, hi, hz0, hz1, hz2⟩ := info_parts Try.info5
  have H := Lib.hid h
  have hym : ys.length = m := by have := hx.1; simpa using this
  subst hym
  have c0 := h.c0
  have c1 := h.c1
  have c2 := h.c2
  have hR := h.lt
  have hlo := h.lo
  have hmost := h.most
  obtain ⟨_, a1, ca1, rfl, _⟩ := h.done
  obtain ⟨_, a2, ca2, rfl, _⟩ := h.late
  obtain ⟨hxl, ax, cx, rfl, hxr⟩ := hx
  have hx : Hid (Rd w 1 (.slice ax ys.length cx) ys.length (u8s ys)) := ⟨hxl, ax, cx, rfl, hxr⟩
  have e1 : IntKind.i64.wrap ((ds.length : Int) + ls.length) = (ds.length : Int) + ls.length := IntWalk.i64_in _ (by omega)
  have e2 : IntKind.i64.wrap ((ds.length : Int) + ls.length + ys.length) = (ds.length : Int) + ls.length + ys.length := IntWalk.i64_in _ (by omega)
  have t : ¬ (room : Int) < (ds.length : Int) + ls.length + ys.length := by omega
  clear h hxr
  go_enter Try.func19, Try.ntmps19
  go_wp2
  go_quiet (fail)
  clear e1 e2
  have hq := H.out.new ((Kept.refl (fun _ => False) w).drewN nq)
  have hxq : Rd (w.drewN nq) 1 (.slice ax ys.length cx) ys.length (u8s ys) := hx.out
  have Kq : Hid (Kept (fun k => k = R) w (w.drewN nq)) := (Kept.refl _ w).drewN nq
  have hsz : Hid ((w.drewN nq).heap.size = w.heap.size) := rfl
  clear H hx c0 c1 c2
  generalize w.drewN nq = wq at hq hxq Kq hsz ⊢
  have hRq := hq.lt
  have hb0 : Buf (wq.alloc (.cells #[] 5)) wq.heap.size 5 1 (.slice (some ⟨wq.heap.size, 0, none⟩) 0 0) 0 [] := Buf.of_owns (World.ownsRow_made wq #[] 0 (Nat.le_refl _) (by decide) rfl)
  have hs1 : Src Try.prog 1 22 (.slice a2 ls.length ca2) ls.length (u8s ls) (wq.alloc (.cells #[] 5)) := Rd.src (P := Try.prog) (tx := 22) (e' := 5) Try.underlying22 (hq.late.alloc _) (oneCell_ints _ _)
  have c1a : (wq.alloc (.cells #[] 5)).cell? ⟨R, 1, none⟩ = some (.slice a2 ls.length ca2) := by rw [World.cell?_alloc_past _ _ _ hRq]; exact hq.c1
  have HX : Hid (∀ w', Kept (fun i => i = wq.heap.size) (wq.alloc (.cells #[] 5)) w' → Src Try.prog 1 22 (.slice ax ys.length cx) ys.length (u8s ys) w') := fun w' K =>
    Rd.src (P := Try.prog) (tx := 22) (e' := 5) Try.underlying22 (hxq.same fun a ha u hu => by
      have hlt : a.block < wq.heap.size := World.block_lt_of_cell? wq a hu
      have h1 : (wq.alloc (.cells #[] 5)).cell? a = some u := by rw [World.cell?_of_block (Below.heap_alloc wq _ a.block hlt)]; exact hu
      rw [K.cell (by simp; omega) (by omega)]; exact h1) (oneCell_ints _ _)
  have HR : Hid (∀ (v1 : Value) (w1 w2 : World), (v1.ownBlock = some wq.heap.size ∨ v1.ownBlock = some (wq.heap.size + 1)) → Kept (fun i => i = wq.heap.size) (wq.alloc (.cells #[] 5)) w1 → w1.grownBy w2 v1.ownBlock →
      w2.heap[R]? = some (.cells #[.slice a1 ds.length ca1, .slice a2 ls.length ca2, .int .i64 room] 41 (0, 0)) ∧ Kept (fun _ => False) wq w2) := fun v1 w1 w2 ho K hg => by
    have hne : some R ≠ v1.ownBlock := by rcases ho with h | h <;> rw [h] <;> simp <;> omega
    refine ⟨?_, ?_⟩
    · rw [hg.block R (by have := K.size; simp at this; omega) hne, K.block R (by simp; omega) (by omega), Below.heap_alloc wq _ R hRq]
      exact hq.block
    · refine Kept.grown (a := wq) (w := w1) ?_ hg (fun k hk => .inr (by rcases ho with h | h <;> rw [h] at hk <;> simp at hk <;> omega))
      exact ((Kept.refl _ wq).alloc _).trans' K (fun i hi h => by omega)
  have hq' := Lib.hid hq
  clear hq hxq
  go_wp2_with (first | (at_builtin; refine wpList_append_buf _ rfl (.tmp 25) (.tmp 29) 22 22 rfl wq.heap.size 5 i0 (.int .u8 0) 1 1 Try.underlying22 hi hz0 hz1 hz2 rfl (by decide) (.slice (some ⟨wq.heap.size, 0, none⟩) 0 0) 0 [] rfl hb0 _ _ _ rfl hs1 (by unfold maxLen; omega) (by omega) (by simp) ?_; intro v1 w1 hb1 hg1 ho1 hn1; have K1 : Kept (fun i => i = wq.heap.size) (wq.alloc (.cells #[] 5)) w1 := (Kept.refl _ _).grown hg1 (fun k hk => .inl (by cases hk; rfl)); have hs2 := HX.out w1 K1; have ho1' : v1.ownBlock = some wq.heap.size ∨ v1.ownBlock = some (wq.heap.size + 1) := (by simpa [Value.ownBlock] using ho1); have hsz1 : wq.heap.size + 1 ≤ w1.heap.size := (by have := hg1.size; simpa using this)) | (at_builtin; refine wpList_append_buf _ rfl (.tmp 30) (.tmp 31) 22 22 rfl wq.heap.size 5 i0 (.int .u8 0) 1 1 Try.underlying22 hi hz0 hz1 hz2 rfl (by decide) v1 _ _ rfl hb1 _ _ _ rfl hs2 (by unfold maxLen; omega) (by omega) (by omega) ?_; intro v2 w2 hb2 hg2 ho2 hn2; obtain ⟨a3, c3, rfl, ha31, ha32⟩ := hb2.form; obtain ⟨hblk', K2⟩ := HR.out v1 w1 w2 ho1' K1 hg2; have hblk := Lib.hid hblk'; have c1b : w2.cell? ⟨R, 1, none⟩ = some (.slice a2 ls.length ca2) := (by simp [World.cell?, hblk']); have f1b : w2.frozen? ⟨R, 1, none⟩ = false := (by simp [World.frozen?, hblk']); clear hblk'))
  go_ret
  have hq := hq'.out
  have hb2' : Buf w2 wq.heap.size 5 1 (.slice a3 (ls.length + ys.length) c3) (ls.length + ys.length) (u8s (ls ++ ys)) := by simpa [u8s] using hb2
  have h3R : (Value.slice a3 (ls.length + ys.length) c3).ownBlock ≠ some R := fun h => by have := (hb2'.lt R h).1; omega
  have KS : Kept (fun k => k = R) w2 (w2.setCell ⟨R, 1, none⟩ (.slice a3 (ls.length + ys.length) c3)) := (Kept.refl (fun k => k = R) w2).setCell (.inl rfl) _
  have hsz' := hsz.out
  have hlo' : base ≤ w.heap.size := by omega
  have hsz2 := K2.size
  refine ⟨rfl, .slice a3 (ls.length + ys.length) c3, ⟨setCell_block hblk.out _, hlo, (hq.done.kept K2 (fun _ _ h => h)).kept KS (fun k hk h => hq.dne (by rw [hk, h])), ?_, by simp; omega, hmost, ?_, ?_, hq.dne, h3R, fun a n c e => by injection e with e1 e2 e3; omega⟩, ?_, ?_⟩
  · have := hb2'.rd.kept KS (fun k hk h => h3R (by rw [hk, h]))
    simpa using this
  · intro k hk; refine ⟨(hq.dlo k hk).1, ?_⟩; have := (hq.dlo k hk).2; rw [size_setCell']; omega
  · intro k hk; have := hb2'.lt k hk; rw [size_setCell']; omega
  · intro k hk; have := (hb2'.lt k hk).1; omega
  · exact (Kq.out.trans' K2 (fun _ _ h => h.elim)).trans KS


set_option maxHeartbeats 800000 in
theorem r_sync (h : IsRef w base R dv lv ds ls room) :
    Calls Try.prog 20 #[.pointer (some ⟨R, 0, none⟩)] w fun e w' => e = .returned (.tuple #[]) ∧ ∃ dv', IsRef w' base R dv' (.slice none 0 0) (ds ++ ls) [] room ∧ (∀ k, dv'.ownBlock = some k → w.heap.size ≤ k) ∧ Kept (fun k => k = R) w w' := by
  obtain ⟨i0, hi, hz0, hz1, hz2⟩ := info_parts Try.info5
  have c0 := h.c0
  have c1 := h.c1
  have hR := h.lt
  have hlo := h.lo
  have hfit := h.fits
  have hmost := h.most
  have hq' := Lib.hid h
  have hb0 : Buf ((w.alloc (.cells #[] 5)).drew) w.heap.size 5 1 (.slice (some ⟨w.heap.size, 0, none⟩) 0 0) 0 [] := Buf.of_owns (World.ownsRow_made w #[] 0 (Nat.le_refl _) (by decide) rfl)
  have hs1 : Src Try.prog 1 22 dv ds.length (u8s ds) ((w.alloc (.cells #[] 5)).drew) := Rd.src (P := Try.prog) (tx := 22) (e' := 5) Try.underlying22 ((h.done.alloc _).drewN 1) (oneCell_ints _ _)
  have c0a : (w.alloc (.cells #[] 5)).cell? ⟨R, 0, none⟩ = some dv := by rw [World.cell?_alloc_past _ _ _ hR]; exact c0
  have c1a : (w.alloc (.cells #[] 5)).cell? ⟨R, 1, none⟩ = some lv := by rw [World.cell?_alloc_past _ _ _ hR]; exact c1
  have HX : Hid (∀ w', Kept (fun i => i = w.heap.size) ((w.alloc (.cells #[] 5)).drew) w' → Src Try.prog 1 22 lv ls.length (u8s ls) w') := fun w' K =>
    Rd.src (P := Try.prog) (tx := 22) (e' := 5) Try.underlying22 (h.late.same fun a ha u hu => by
      have hlt : a.block < w.heap.size := World.block_lt_of_cell? w a hu
      have h1 : ((w.alloc (.cells #[] 5)).drew).cell? a = some u := by show (w.alloc _).cell? a = _; rw [World.cell?_of_block (Below.heap_alloc w _ a.block hlt)]; exact hu
      rw [K.cell (by show a.block < (w.alloc _).heap.size; simp; omega) (by omega)]; exact h1) (oneCell_ints _ _)
  have HR1 : Hid (∀ (w1 : World), Kept (fun i => i = w.heap.size) ((w.alloc (.cells #[] 5)).drew) w1 → w1.heap[R]? = some (.cells #[dv, lv, .int .i64 room] 41 (0, 0))) := fun w1 K => by
    rw [K.block R (by show R < (w.alloc _).heap.size; simp; omega) (by omega)]
    show (w.alloc _).heap[R]? = _
    rw [Below.heap_alloc w _ R hR]
    exact h.block
  have HR : Hid (∀ (v1 : Value) (w1 w2 : World), (v1.ownBlock = some w.heap.size ∨ v1.ownBlock = some (w.heap.size + 1)) → Kept (fun i => i = w.heap.size) ((w.alloc (.cells #[] 5)).drew) w1 → w1.grownBy w2 v1.ownBlock →
      w2.heap[R]? = some (.cells #[dv, lv, .int .i64 room] 41 (0, 0)) ∧ Kept (fun _ => False) w w2) := fun v1 w1 w2 ho K hg => by
    have hne : some R ≠ v1.ownBlock := by rcases ho with h | h <;> rw [h] <;> simp <;> omega
    have hs : w.heap.size + 1 ≤ w1.heap.size := by have h1 : (w.alloc (.cells #[] 5)).heap.size ≤ w1.heap.size := K.size; simpa using h1
    refine ⟨?_, ?_⟩
    · rw [hg.block R (by omega) hne]
      exact HR1.out w1 K
    · refine Kept.grown (a := w) (w := w1) ?_ hg (fun k hk => .inr (by rcases ho with h | h <;> rw [h] at hk <;> simp at hk <;> omega))
      exact (((Kept.refl _ w).alloc _).drew).trans' K (fun i hi h => by omega)
  obtain ⟨_, a1, ca1, rfl, _⟩ := h.done
  obtain ⟨_, a2, ca2, rfl, _⟩ := h.late
  clear h
  go_enter Try.func20, Try.ntmps20
  go_wp2_with fail
  go_region_law (first | (refine step_append_buf _ rfl (.tmp 3) (.tmp 7) 22 22 rfl w.heap.size 5 i0 (.int .u8 0) 1 1 Try.underlying22 hi hz0 hz1 hz2 rfl (by decide) (.slice (some ⟨w.heap.size, 0, none⟩) 0 0) 0 [] (by rfl) hb0 _ _ _ (by rfl) hs1 (by unfold maxLen; omega) (by omega) (by simp) ?_; intro v1 w1 hb1 hg1 ho1 hn1; have K1 : Kept (fun i => i = w.heap.size) ((w.alloc (.cells #[] 5)).drew) w1 := (Kept.refl _ _).grown hg1 (fun k hk => .inl (by cases hk; rfl)); have hs2 := HX.out w1 K1; have ho1' : v1.ownBlock = some w.heap.size ∨ v1.ownBlock = some (w.heap.size + 1) := (by simpa [Value.ownBlock] using ho1); have hsz1 : w.heap.size + 1 ≤ w1.heap.size := (by have h1 : (w.alloc (.cells #[] 5)).heap.size ≤ w1.heap.size := K1.size; simpa using h1); have hblk1 := HR1.out w1 K1; have c1b : w1.cell? ⟨R, 1, none⟩ = some (.slice a2 ls.length ca2) := (by simp [World.cell?, hblk1]); clear hblk1) | (refine step_append_buf _ rfl (.tmp 8) (.tmp 12) 22 22 rfl w.heap.size 5 i0 (.int .u8 0) 1 1 Try.underlying22 hi hz0 hz1 hz2 rfl (by decide) v1 _ _ (by rfl) hb1 _ _ _ (by rfl) hs2 (by unfold maxLen; omega) (by omega) (by omega) ?_; intro v2 w2 hb2 hg2 ho2 hn2; obtain ⟨a3, c3, rfl, ha31, ha32⟩ := hb2.form; obtain ⟨hblk', K2⟩ := HR.out v1 w1 w2 ho1' K1 hg2; have hblk := Lib.hid hblk'; have c0b : w2.cell? ⟨R, 0, none⟩ = some (.slice a1 ds.length ca1) := (by simp [World.cell?, hblk']); have c1c : w2.cell? ⟨R, 1, none⟩ = some (.slice a2 ls.length ca2) := (by simp [World.cell?, hblk']); have f0b : w2.frozen? ⟨R, 0, none⟩ = false := (by simp [World.frozen?, hblk']); have f1b : w2.frozen? ⟨R, 1, none⟩ = false := (by simp [World.frozen?, hblk']); clear hblk'))
  all_goals go_wp2
  all_goals go_end0
  all_goals
    have hq := hq'.out
    have hb2' : Buf w2 w.heap.size 5 1 (.slice a3 (ds.length + ls.length) c3) (ds.length + ls.length) (u8s (ds ++ ls)) := by simpa [u8s] using hb2
    have h3R : (Value.slice a3 (ds.length + ls.length) c3).ownBlock ≠ some R := fun h => by have := (hb2'.lt R h).1; omega
    have KS : Kept (fun k => k = R) w2 ((w2.setCell ⟨R, 0, none⟩ (.slice a3 (ds.length + ls.length) c3)).setCell ⟨R, 1, none⟩ (.slice none 0 0)) := ((Kept.refl (fun k => k = R) w2).setCell (.inl rfl) _).setCell (.inl rfl) _
    have hlo' : base ≤ w.heap.size := by omega
    refine ⟨rfl, .slice a3 (ds.length + ls.length) c3, ⟨setCell_block (setCell_block hblk.out _) _, hlo, ?_, ⟨rfl, none, 0, rfl, .inl ⟨rfl, rfl, rfl⟩⟩, by simp; omega, hmost, ?_, by simp [Value.ownBlock], h3R, by simp [Value.ownBlock], fun a n c e => by injection e with e1 e2 e3; omega⟩, ?_, ?_⟩
    · have := hb2'.rd.kept KS (fun k hk h => h3R (by rw [hk, h]))
      simpa using this
    · intro k hk; have := hb2'.lt k hk; rw [size_setCell', size_setCell']; omega
    · intro k hk; have := (hb2'.lt k hk).1; omega
    · exact (K2.mono (fun _ _ h => h.elim)).trans KS

theorem IsRef.setLate (h : IsRef w base R dv lv ds ls room) {nv : Value} {ns : List Int} (hr : Rd w 1 nv ns.length (u8s ns)) (hown : nv.ownBlock = lv.ownBlock) (hl : ns.length ≤ ls.length) (hcap : ∀ a n c, nv = .slice a n c → n ≤ c) :
    IsRef (w.setCell ⟨R, 1, none⟩ nv) base R dv nv ds ns room := by
  have KS : Kept (fun k => k = R) w (w.setCell ⟨R, 1, none⟩ nv) := (Kept.refl (fun k => k = R) w).setCell (.inl rfl) _
  refine ⟨setCell_block h.block _, h.lo, h.done.kept KS (fun k hk e => h.dne (by rw [hk, e])), hr.kept KS (fun k hk e => h.lne (by rw [← hown, hk, e])), by have := h.fits; omega, h.most, ?_, ?_, h.dne, by rw [hown]; exact h.lne, hcap⟩
  · intro k hk; rw [size_setCell']; exact h.dlo k hk
  · intro k hk; rw [size_setCell']; exact h.llo k (by rw [← hown]; exact hk)

theorem r_crash (h : IsRef w base R dv lv ds ls room) (keep : Int) :
    Calls Try.prog 21 #[.pointer (some ⟨R, 0, none⟩), .int .i64 keep] w fun e w' => e = .returned (.tuple #[]) ∧ ∃ dv', IsRef w' base R dv' (.slice none 0 0) (ds ++ ls.take keep.toNat) [] room ∧ (∀ k, dv'.ownBlock = some k → w.heap.size ≤ k) ∧ Kept (fun k => k = R) w w' := by
  have H := Lib.hid h
  have c1 := h.c1
  have f1 := h.f 1
  have hfit := h.fits
  have hmost := h.most
  by_cases hlt : keep.toNat < ls.length
  · have hcut : ∃ a c, lv = .slice a ls.length c ∧ ls.length ≤ c ∧ IsRef (w.setCell ⟨R, 1, none⟩ (.slice a keep.toNat c)) base R dv (.slice a keep.toNat c) ds (ls.take keep.toNat) room := by
      have hcap := h.lcap
      have hlate := h.late
      obtain ⟨_, a, c, rfl, _⟩ := hlate
      have hcap := hcap _ _ _ rfl
      refine ⟨a, c, rfl, hcap, h.setLate ?_ (by cases a <;> rfl) (by rw [List.length_take]; omega) (fun a n c e => by injection e with e1 e2 e3; omega)⟩
      have e : (ls.take keep.toNat).length = keep.toNat := by rw [List.length_take]; omega
      rw [e]
      have := h.late.cut (m := keep.toNat) (by omega)
      simpa [u8s] using this
    obtain ⟨a, c, rfl, hcap, h'⟩ := hcut
    obtain ⟨k, hk⟩ : ∃ k : Nat, keep.toNat = k := ⟨_, rfl⟩
    rw [hk] at h' hlt ⊢
    have HK := Lib.hid hk
    have C := r_sync h'
    have KS : Kept (fun k => k = R) w (w.setCell ⟨R, 1, none⟩ (.slice a k c)) := (Kept.refl (fun k => k = R) w).setCell (.inl rfl) _
    clear h h' hk
    by_cases hneg : keep < 0
    · have hk0 : k = 0 := by have := HK.out; omega
      subst hk0
      have hl' : (0 : Int) < ls.length := by omega
      go_enter Try.func21, Try.ntmps21
      go_wp2_with (go_at_call 20; refine C.mono ?_; rintro e w1 ⟨rfl, dv', hr, hf, hk1⟩)
      go_end0
      exact ⟨rfl, dv', hr, (fun k hk => by have := hf k hk; rwa [size_setCell'] at this), KS.trans hk1⟩
    · obtain rfl : keep = (k : Int) := by have := HK.out; omega
      have hl' : (k : Int) < ls.length := by omega
      go_enter Try.func21, Try.ntmps21
      go_wp2_with (go_at_call 20; refine C.mono ?_; rintro e w1 ⟨rfl, dv', hr, hf, hk1⟩)
      go_end0
      exact ⟨rfl, dv', hr, (fun k hk => by have := hf k hk; rwa [size_setCell'] at this), KS.trans hk1⟩
  · have C := r_sync h
    rw [List.take_of_length_le (by omega)]
    have hform : ∃ a c, lv = .slice a ls.length c := by obtain ⟨_, a, c, hv, _⟩ := h.late; exact ⟨a, c, hv⟩
    obtain ⟨a, c, rfl⟩ := hform
    clear h
    by_cases hneg : keep < 0
    · have h0 : ls.length = 0 := by omega
      have hl' : ¬ (0 : Int) < ls.length := by omega
      clear h0
      go_enter Try.func21, Try.ntmps21
      go_wp2_with (go_at_call 20; refine C.mono ?_; rintro e w1 ⟨rfl, dv', hr, hf, hk1⟩)
      go_end0
      exact ⟨rfl, dv', hr, hf, hk1⟩
    · have hl' : ¬ keep < (ls.length : Int) := by omega
      go_enter Try.func21, Try.ntmps21
      go_wp2_with (go_at_call 20; refine C.mono ?_; rintro e w1 ⟨rfl, dv', hr, hf, hk1⟩)
      go_end0
      exact ⟨rfl, dv', hr, hf, hk1⟩

theorem r_cut_no (h : IsRef w base R dv lv ds ls room) {n : Int} (hn : n < 0 ∨ ((ds.length + ls.length : Nat) : Int) < n) :
    Calls Try.prog 22 #[.pointer (some ⟨R, 0, none⟩), .int .i64 n] w fun e w' => e = .returned (.int .i64 1) ∧ Kept (fun _ => False) w w' := by
  have C := r_bytes h
  have hfit := h.fits
  have hmost := h.most
  have C' : Calls Try.prog 23 #[.pointer (some ⟨R, 0, none⟩)] w fun e w' => ∃ a c, e = .returned (.slice a (ds.length + ls.length) c) ∧ Kept (fun _ => False) w w' := C.mono fun e w' ⟨v, he, hb, hk⟩ => by
    obtain ⟨a, c, rfl, _⟩ := hb.form
    exact ⟨a, c, he, hk⟩
  clear C h
  rcases hn with hn | hn
  · go_enter Try.func22, Try.ntmps22
    go_wp2_with (go_at_call 23; refine C'.mono ?_; rintro e w1 ⟨a, c, rfl, hk⟩)
    go_ret
    exact ⟨rfl, hk⟩
  · have h1 : ¬ n < 0 := by omega
    have h2 : (ds.length : Int) + ls.length < n := by omega
    go_enter Try.func22, Try.ntmps22
    go_wp2_with (go_at_call 23; refine C'.mono ?_; rintro e w1 ⟨a, c, rfl, hk⟩)
    go_ret
    exact ⟨rfl, hk⟩

theorem r_cut (h : IsRef w base R dv lv ds ls room) {n : Nat} (hn : n ≤ ds.length + ls.length) :
    Calls Try.prog 22 #[.pointer (some ⟨R, 0, none⟩), .int .i64 n] w fun e w' => e = .returned (.int .i64 0) ∧ ∃ dv', IsRef w' base R dv' (.slice none 0 0) ((ds ++ ls).take n) [] room ∧ (∀ k, dv'.ownBlock = some k → w.heap.size ≤ k) ∧ Kept (fun k => k = R) w w' := by
  have C := r_bytes h
  have hfit := h.fits
  have hmost := h.most
  have hlo := h.lo
  have hR := h.lt
  have C' : Calls Try.prog 23 #[.pointer (some ⟨R, 0, none⟩)] w fun e w' => ∃ a c, e = .returned (.slice a (ds.length + ls.length) c) ∧ ds.length + ls.length ≤ c ∧ Buf w' w.heap.size 5 1 (.slice a (ds.length + ls.length) c) (ds.length + ls.length) (u8s (ds ++ ls)) ∧
      w'.heap[R]? = some (.cells #[dv, lv, .int .i64 room] 41 (0, 0)) ∧ Kept (fun _ => False) w w' := C.mono fun e w' ⟨v, he, hb, hk⟩ => by
    obtain ⟨a, c, rfl, hc, _⟩ := hb.form
    exact ⟨a, c, he, hc, hb, (hk.block R hR (fun h => h)).trans h.block, hk⟩
  clear C h
  have h1 : ¬ (n : Int) < 0 := by omega
  have h2 : ¬ (ds.length : Int) + ls.length < n := by omega
  go_enter Try.func22, Try.ntmps22
  go_wp2_with (go_at_call 23; refine C'.mono ?_; rintro e w1 ⟨a, c, rfl, hc, hb, hblk', hk⟩; have hblk := Lib.hid hblk'; have c0 : w1.cell? ⟨R, 0, none⟩ = some dv := (by simp [World.cell?, hblk']); have c1 : w1.cell? ⟨R, 1, none⟩ = some lv := (by simp [World.cell?, hblk']); have f0 : w1.frozen? ⟨R, 0, none⟩ = false := (by simp [World.frozen?, hblk']); have f1 : w1.frozen? ⟨R, 1, none⟩ = false := (by simp [World.frozen?, hblk']); clear hblk')
  go_ret
  have KS : Kept (fun k => k = R) w1 ((w1.setCell ⟨R, 0, none⟩ (.slice a n c)).setCell ⟨R, 1, none⟩ (.slice none 0 0)) := ((Kept.refl (fun k => k = R) w1).setCell (.inl rfl) _).setCell (.inl rfl) _
  have hb' : Buf w1 w.heap.size 5 1 (.slice a n c) n (u8s ((ds ++ ls).take n)) := by
    have := hb.cut (m := n) (c := c) hn (by omega) (Nat.le_refl _)
    simpa [u8s] using this
  have hnR : (Value.slice a n c).ownBlock ≠ some R := fun h => by have := (hb'.lt R h).1; omega
  have hln : ((ds ++ ls).take n).length = n := by rw [List.length_take, List.length_append]; omega
  refine ⟨rfl, .slice a n c, ⟨setCell_block (setCell_block hblk.out _) _, hlo, ?_, ⟨rfl, none, 0, rfl, .inl ⟨rfl, rfl, rfl⟩⟩, by rw [hln]; simp; omega, hmost, ?_, by simp [Value.ownBlock], hnR, by simp [Value.ownBlock], fun a n c e => by injection e with e1 e2 e3; omega⟩, ?_, ?_⟩
  · rw [hln]; exact hb'.rd.kept KS (fun k hk h => hnR (by rw [hk, h]))
  · intro k hk'; have := hb'.lt k hk'; rw [size_setCell', size_setCell']; omega
  · intro k hk'; have := (hb'.lt k hk').1; omega
  · exact (hk.mono (fun _ _ h => h.elim)).trans KS
end
end Go.Proofs.Ytecjdlocajecoaa
