/-
  Contracts of the disk's methods, and of the reference's comparison of bytes. Conditions: as each theorem says.
-/
import Derived.Test.YtecjdlocajecoaaRows
import Derived.Test.YtecjdlocajecoaaBuf
import Derived.Deep.QuietTactic
import Derived.BigQuiet
import Derived.StillTailTactics
import Derived.WalkLawsBesides
import Derived.WalkSpells
import Derived.Lib.Hide
namespace Go.Proofs.Ytecjdlocajecoaa
open Go Go.RowKit

theorem Try.info5 : (Try.prog.info? 5).map (fun i => (i.zero, i.size, i.bytes)) = some (some (.int .u8 0), 1, 1) := by kernel_rfl

/-- A DISK behind the address ⟨D, 0⟩. -/
structure IsDisk (w : World) (base D : Nat) (sv : Value) (bs : List Value) (lasts room : Nat) : Prop where
  block : w.heap[D]? = some (.cells #[sv, .int .i64 lasts, .int .i64 room] 48 (0, 0))
  lo : base ≤ D
  buf : Buf w base 5 1 sv bs.length bs
  le : lasts ≤ bs.length
  fits : bs.length ≤ room
  most : room ≤ 65536
  one : ∀ u ∈ bs, u.oneCell' = true

section
variable {w : World} {base D : Nat} {sv : Value} {bs : List Value} {lasts room : Nat}
theorem IsDisk.c0 (h : IsDisk w base D sv bs lasts room) : w.cell? ⟨D, 0, none⟩ = some sv := by simp [World.cell?, h.block]
theorem IsDisk.lt (h : IsDisk w base D sv bs lasts room) : D < w.heap.size := (Array.getElem?_eq_some_iff.1 h.block).1
theorem IsDisk.c0a (h : IsDisk w base D sv bs lasts room) (o : Obj) : (w.alloc o).cell? ⟨D, 0, none⟩ = some sv := by rw [World.cell?_alloc_past _ _ _ h.lt]; exact h.c0
theorem IsDisk.c1 (h : IsDisk w base D sv bs lasts room) : w.cell? ⟨D, 1, none⟩ = some (.int .i64 lasts) := by simp [World.cell?, h.block]
theorem IsDisk.c2 (h : IsDisk w base D sv bs lasts room) : w.cell? ⟨D, 2, none⟩ = some (.int .i64 room) := by simp [World.cell?, h.block]
theorem IsDisk.f (h : IsDisk w base D sv bs lasts room) (j : Nat) : w.frozen? ⟨D, j, none⟩ = false := by simp [World.frozen?, h.block]
end

theorem IsDisk.kept {w w' : World} {base D : Nat} {sv : Value} {bs : List Value} {lasts room : Nat} {S : Nat → Prop} (h : IsDisk w base D sv bs lasts room) (hk : Kept S w w') (h1 : ¬ S D) (h2 : ∀ k, sv.ownBlock = some k → ¬ S k) :
    IsDisk w' base D sv bs lasts room :=
  ⟨(hk.block D h.lt h1).trans h.block, h.lo, h.buf.kept hk h2, h.le, h.fits, h.most, h.one⟩
theorem IsDisk.new {w w' : World} {base D : Nat} {sv : Value} {bs : List Value} {lasts room : Nat} (h : IsDisk w base D sv bs lasts room) (hk : Kept (fun _ => False) w w') : IsDisk w' base D sv bs lasts room :=
  h.kept hk (fun h => h) (fun _ _ h => h)
/-- A disk's own blocks lie from base on. -/
theorem IsDisk.own {w : World} {base D : Nat} {sv : Value} {bs : List Value} {lasts room : Nat} (h : IsDisk w base D sv bs lasts room) : ∀ k, (k = D ∨ sv.ownBlock = some k) → base ≤ k ∧ k < w.heap.size := by
  rintro k (rfl | hk)
  · exact ⟨h.lo, h.lt⟩
  · exact h.buf.lt k hk

theorem len_any (D : Nat) (base : Nat) (sv : Value) (bs : List Value) (lasts room : Nat) (w : World) (h : IsDisk w base D sv bs lasts room) :
    Calls Try.prog 16 #[.pointer (some ⟨D, 0, none⟩)] w fun e w' => e = .returned (.int .i64 lasts) ∧ w = w' := by
  have c1 := h.c1
  go_enter Try.func16, Try.ntmps16
  go_wp2
  go_ret
  exact ⟨rfl, rfl⟩

theorem room_any (D : Nat) (base : Nat) (sv : Value) (bs : List Value) (lasts room : Nat) (w : World) (h : IsDisk w base D sv bs lasts room) :
    Calls Try.prog 13 #[.pointer (some ⟨D, 0, none⟩)] w fun e w' => e = .returned (.int .i64 ((room : Int) - bs.length)) ∧ ∃ n, w' = w.drewN n := by
  have c0 := h.c0
  have c2 := h.c2
  have hf := h.fits
  have hm := h.most
  obtain ⟨a, cap, rfl, hn, hnil⟩ := h.buf.form
  clear h hnil
  go_enter Try.func13, Try.ntmps13
  go_wp2
  go_quiet (fail)
  go_wp2
  go_ret
  exact ⟨rfl, _, rfl⟩

theorem new_no (room : Int) (w : World) (hr : room < 1 ∨ 65536 < room) :
    Calls Try.prog 9 #[.int .i64 room] w fun e w' => e = .returned (.pointer none) ∧ w = w' := by
  rcases hr with hr | hr
  · go_enter Try.func9, Try.ntmps9
    go_wp2
    go_ret
    exact ⟨rfl, rfl⟩
  · have h1 : ¬ room < 1 := by omega
    go_enter Try.func9, Try.ntmps9
    go_wp2
    go_ret
    exact ⟨rfl, rfl⟩

theorem new_any (base : Nat) (room : Nat) (w : World) (h1 : 1 ≤ room) (h2 : room ≤ 65536) (hb : base ≤ w.heap.size) :
    Calls Try.prog 9 #[.int .i64 room] w fun e w' => e = .returned (.pointer (some ⟨w.heap.size, 0, none⟩)) ∧ IsDisk w' base w.heap.size (.slice none 0 0) [] 0 room ∧ Kept (fun _ => False) w w' := by
  have n1 : ¬ (room : Int) < 1 := by omega
  have n2 : ¬ (65536 : Int) < (room : Int) := by omega
  go_enter Try.func9, Try.ntmps9
  go_wp2
  go_ret
  exact ⟨rfl, ⟨heap_alloc_new w _, hb, Buf.nil _ _ _ _, Nat.le_refl _, Nat.zero_le _, h2, by simp⟩, (Kept.refl _ w).alloc _⟩

theorem sync_any (D : Nat) (base : Nat) (sv : Value) (bs : List Value) (lasts room : Nat) (w : World) (h : IsDisk w base D sv bs lasts room) :
    Calls Try.prog 14 #[.pointer (some ⟨D, 0, none⟩)] w fun e w' => e = .returned (.tuple #[]) ∧ IsDisk w' base D sv bs bs.length room ∧ Kept (fun k => k = D) w w' := by
  have H := Lib.hid h
  have c0 := h.c0
  have c1 := h.c1
  have f0 := h.f 0
  have f1 := h.f 1
  obtain ⟨a, cap, rfl, hn, hnil⟩ := h.buf.form
  clear h hnil
  go_enter Try.func14, Try.ntmps14
  go_wp2
  go_end0
  have h := H.out
  refine ⟨rfl, ⟨?_, h.lo, h.buf.setCell (h.buf.ne_of_type h.block (by decide)) _, Nat.le_refl _, h.fits, h.most, h.one⟩, (Kept.refl (fun k => k = D) w).setCell (.inl rfl) _⟩
  exact setCell_block h.block _

theorem leave_any (D : Nat) (base : Nat) (sv : Value) (bs : List Value) (lasts room n : Nat) (w : World) (h : IsDisk w base D sv bs lasts room) (hn : n ≤ bs.length) :
    Calls Try.prog 24 #[.pointer (some ⟨D, 0, none⟩), .int .i64 n] w fun e w' => e = .returned (.tuple #[]) ∧ ∃ sv', IsDisk w' base D sv' (bs.take n) n room ∧ sv'.ownBlock = sv.ownBlock ∧ Kept (fun k => k = D) w w' := by
  have H := Lib.hid h
  have c0 := h.c0
  have c1 := h.c1
  have f0 := h.f 0
  have f1 := h.f 1
  obtain ⟨a, cap, rfl, hl, hnil⟩ := h.buf.form
  clear h hnil
  go_enter Try.func24, Try.ntmps24
  go_wp2
  go_end0
  have h := H.out
  have hb : Buf w base 5 1 (.slice a n n) n (bs.take n) := by have := h.buf.cut (m := n) (c := n) hn (Nat.le_refl _) (by omega); simpa using this
  have hlt : (bs.take n).length = n := by rw [List.length_take]; omega
  have hno := h.buf.ne_of_type h.block (by decide)
  refine ⟨rfl, .slice a n n, ⟨?_, h.lo, ?_, by omega, by have := h.fits; omega, h.most, fun u hu => h.one u (List.mem_of_mem_take hu)⟩, by cases a <;> rfl, ((Kept.refl (fun k => k = D) w).setCell (.inl rfl) _).setCell (.inl rfl) _⟩
  · exact setCell_block (setCell_block h.block _) _
  · rw [hlt]; refine (hb.setCell ?_ _).setCell ?_ _ <;> (cases a <;> simp_all [Value.ownBlock])

def keepN (lasts len : Nat) (keep : Int) : Nat := lasts + min keep.toNat (len - lasts)

theorem crash_any (D : Nat) (base : Nat) (sv : Value) (bs : List Value) (lasts room : Nat) (keep : Int) (w : World) (h : IsDisk w base D sv bs lasts room) (hk0 : -9223372036854775808 ≤ keep) (hk1 : keep ≤ 9223372036854775807) :
    Calls Try.prog 15 #[.pointer (some ⟨D, 0, none⟩), .int .i64 keep] w fun e w' => e = .returned (.tuple #[]) ∧
      ∃ sv', IsDisk w' base D sv' (bs.take (keepN lasts bs.length keep)) (keepN lasts bs.length keep) room ∧ sv'.ownBlock = sv.ownBlock ∧ Kept (fun k => k = D) w w' := by
  have H := Lib.hid h
  have c0 := h.c0
  have c1 := h.c1
  have hle := h.le
  have hfit := h.fits
  have hmost := h.most
  obtain ⟨a, cap, rfl, hl, hnil⟩ := h.buf.form
  clear h hnil
  go_enter Try.func15, Try.ntmps15
  go_wp2_with fail
  go_still_tail 19, (by kernel_rfl)
  have e1 : IntKind.i64.wrap (↑bs.length - ↑lasts) = ((bs.length - lasts : Nat) : Int) := by rw [IntWalk.i64_in _ (by omega)]; omega
  have e2 : IntKind.i64.wrap (↑lasts + if 0 < if ((bs.length - lasts : Nat) : Int) < keep then ((bs.length - lasts : Nat) : Int) else keep then if ((bs.length - lasts : Nat) : Int) < keep then ((bs.length - lasts : Nat) : Int) else keep else 0)
      = ((lasts + min keep.toNat (bs.length - lasts) : Nat) : Int) := by
    split <;> split <;> rw [IntWalk.i64_in _ (by omega)] <;> omega
  simp only [e1]
  simp only [e2]
  clear e1 e2
  change wpList _ _ _ _ _ w.drew
  have h1 : IsDisk w.drew base D (.slice a bs.length cap) bs lasts room := ⟨H.out.block, H.out.lo, H.out.buf, H.out.le, H.out.fits, H.out.most, H.out.one⟩
  have hn : lasts + min keep.toNat (bs.length - lasts) ≤ bs.length := by omega
  have C := leave_any D base _ bs lasts room _ w.drew h1 hn
  clear h1
  go_wp2_with (go_at_call 24; refine C.mono ?_; rintro e w' ⟨rfl, sv', hd, ho, hk⟩)
  all_goals
    go_end0
    exact ⟨rfl, sv', hd, ho, (Kept.refl (fun k => k = D) w).drew.trans hk⟩

theorem cut_no (D : Nat) (base : Nat) (sv : Value) (bs : List Value) (lasts room : Nat) (n : Int) (w : World) (h : IsDisk w base D sv bs lasts room) (hn : n < 0 ∨ bs.length < n) :
    Calls Try.prog 18 #[.pointer (some ⟨D, 0, none⟩), .int .i64 n] w fun e w' => e = .returned (.int .i64 1) ∧ w = w' := by
  have c0 := h.c0
  obtain ⟨a, cap, rfl, hl, hnil⟩ := h.buf.form
  clear h hnil
  rcases hn with hn | hn
  · go_enter Try.func18, Try.ntmps18
    go_wp2
    go_ret
    exact ⟨rfl, rfl⟩
  · have h1 : ¬ n < 0 := by omega
    go_enter Try.func18, Try.ntmps18
    go_wp2
    go_ret
    exact ⟨rfl, rfl⟩

theorem cut_any (D : Nat) (base : Nat) (sv : Value) (bs : List Value) (lasts room n : Nat) (w : World) (h : IsDisk w base D sv bs lasts room) (hn : n ≤ bs.length) :
    Calls Try.prog 18 #[.pointer (some ⟨D, 0, none⟩), .int .i64 n] w fun e w' => e = .returned (.int .i64 0) ∧ ∃ sv', IsDisk w' base D sv' (bs.take n) n room ∧ sv'.ownBlock = sv.ownBlock ∧ Kept (fun k => k = D) w w' := by
  have C := leave_any D base sv bs lasts room n w h hn
  have c0 := h.c0
  obtain ⟨a, cap, rfl, hl, hnil⟩ := h.buf.form
  clear h hnil
  have h1 : ¬ (n : Int) < 0 := by omega
  have h2 : ¬ (bs.length : Int) < n := by omega
  go_enter Try.func18, Try.ntmps18
  go_wp2_with (go_at_call 24; refine C.mono ?_; rintro e w' ⟨rfl, sv', hd, ho, hk⟩)
  go_ret
  exact ⟨rfl, sv', hd, ho, hk⟩

theorem bytes_any (D : Nat) (base : Nat) (sv : Value) (bs : List Value) (lasts room : Nat) (w : World) (h : IsDisk w base D sv bs lasts room) :
    Calls Try.prog 11 #[.pointer (some ⟨D, 0, none⟩)] w fun e w' => ∃ v, e = .returned v ∧ Buf w' w.heap.size 5 1 v bs.length bs ∧ Kept (fun _ => False) w w' := by
  obtain ⟨i0, hi, hz0, hz1, hz2⟩ := info_parts Try.info5
  have c0 := h.c0a
  have hfit := h.fits
  have hmost := h.most
  have hsrc : ∀ o : Obj, Src Try.prog 1 22 sv bs.length bs (w.alloc o) := fun o => Buf.src (P := Try.prog) (tx := 22) (e' := 5) Try.underlying22 (h.buf.same fun k hk => Below.heap_alloc w o k (h.buf.lt k hk).2) h.one
  have hform := h.buf.form
  obtain ⟨a, cap, rfl, hl, hnil⟩ := hform
  have hbuf : Buf (w.alloc (.cells #[] 5)) w.heap.size 5 1 (.slice (some ⟨w.heap.size, 0, none⟩) 0 0) 0 [] :=
    Buf.of_owns (World.ownsRow_made w #[] 0 (Nat.le_refl _) (by decide) rfl)
  clear h hnil
  go_enter Try.func11, Try.ntmps11
  go_wp2_with (at_builtin; refine wpList_append_buf _ rfl (.tmp 5) (.tmp 9) 22 22 rfl w.heap.size 5 i0 (.int .u8 0) 1 1 Try.underlying22 hi hz0 hz1 hz2 rfl (by decide) _ _ _ rfl hbuf _ _ _ rfl (hsrc _) (by unfold maxLen; omega) (by omega) (by simp) ?_; intro v' w' hb' hg' ho' hn')
  go_ret
  exact ⟨v', rfl, by simpa using hb', ((Kept.refl _ w).alloc _).grown hg' fun k hk => by cases hk; exact .inr (Nat.le_refl _)⟩

theorem write_no (D : Nat) (base : Nat) (sv : Value) (bs : List Value) (lasts room : Nat) (ax : Option Addr) (m cx : Nat) (w : World) (h : IsDisk w base D sv bs lasts room)
    (hm : m ≤ maxLen) (hroom : room < bs.length + m) :
    Calls Try.prog 10 #[.pointer (some ⟨D, 0, none⟩), .slice ax m cx] w fun e w' => e = .returned (.int .i64 5) ∧ ∃ n, w' = w.drewN n := by
  have c0 := h.c0
  have c2 := h.c2
  have hfit := h.fits
  have hmost := h.most
  obtain ⟨a, cap, rfl, hl, hnil⟩ := h.buf.form
  unfold maxLen at hm
  have ht : ((room : Int) - bs.length) < m := by omega
  clear h hnil
  go_enter Try.func10, Try.ntmps10
  go_wp2
  go_quiet (fail)
  go_wp2
  go_ret
  exact ⟨rfl, _, rfl⟩

theorem write_any (D : Nat) (base : Nat) (sv : Value) (bs : List Value) (lasts room : Nat) (xv : Value) (m : Nat) (news : List Value) (w : World) (h : IsDisk w base D sv bs lasts room)
    (hx : Rd w 1 xv m news) (h1 : ∀ u ∈ news, u.oneCell' = true) (hm : m ≤ maxLen) (hroom : bs.length + m ≤ room) :
    Calls Try.prog 10 #[.pointer (some ⟨D, 0, none⟩), xv] w fun e w' => e = .returned (.int .i64 0) ∧
      ∃ sv', IsDisk w' base D sv' (bs ++ news) lasts room ∧ (sv'.ownBlock = sv.ownBlock ∨ sv'.ownBlock = some w.heap.size) ∧ Kept (fun k => k = D ∨ sv.ownBlock = some k) w w' := by
  obtain ⟨i0, hi, hz0, hz1, hz2⟩ := info_parts Try.info5
  have H := Lib.hid h
  have c0 := h.c0
  have c2 := h.c2
  have hD := h.lt
  have hlo := h.lo
  have hfit := h.fits
  have hmost := h.most
  have hbuf := h.buf
  have hno := Lib.hid (h.buf.ne_of_type h.block (by decide))
  obtain ⟨a, cap, rfl, hl, hnil⟩ := h.buf.form
  have hl' := Lib.hid hx.1
  have hsn : ∀ n : Nat, Src Try.prog 1 22 xv m news (w.drewN n) := fun n => Rd.src (P := Try.prog) (tx := 22) (e' := 5) Try.underlying22 (hx.drewN n) h1
  obtain ⟨_, ax, cx, rfl, _⟩ := hx
  unfold maxLen at hm
  have ht : ¬ ((room : Int) - bs.length) < m := by omega
  have hbn : ∀ n : Nat, Buf (w.drewN n) base 5 1 (.slice a bs.length cap) bs.length bs := fun n => hbuf
  have H1 := Lib.hid h1
  clear h hnil hbuf h1
  go_enter Try.func10, Try.ntmps10
  go_wp2
  go_quiet (fail)
  go_wp2_with (at_builtin; refine wpList_append_buf _ rfl (.tmp 26) (.tmp 27) 22 22 rfl base 5 i0 (.int .u8 0) 1 1 Try.underlying22 hi hz0 hz1 hz2 rfl (by decide) (.slice a bs.length cap) bs.length bs rfl (hbn _) _ _ _ rfl (hsn _) (by unfold maxLen; omega) (by omega) (by simp; omega) ?_; intro v' w' hb' hg' ho' hn'; obtain ⟨a', cap', rfl, ha1, ha2⟩ := hb'.form; have hblk := Lib.hid ((hg'.block D hD (fun e => hno.out e.symm)).trans H.out.block); have c0' : w'.cell? ⟨D, 0, none⟩ = some (.slice a bs.length cap) := (by simp [World.cell?, hblk.out]); have f0' : w'.frozen? ⟨D, 0, none⟩ = false := (by simp [World.frozen?, hblk.out]))
  go_ret
  have hd := H.out
  have hlen : (bs ++ news).length = bs.length + m := by rw [List.length_append, hl'.out, Nat.mul_one]
  refine ⟨rfl, _, ⟨setCell_block hblk.out _, hlo, ?_, by have := hd.le; omega, by omega, hmost, ?_⟩, ?_, ?_⟩
  · rw [hlen]; exact hb'.setCell (hb'.ne_of_type hblk.out (by decide)) _
  · intro u hu
    rcases List.mem_append.1 hu with hu | hu
    · exact hd.one u hu
    · exact H1.out u hu
  · exact ho'
  · exact (((Kept.refl (fun k => k = D ∨ (Value.slice a bs.length cap).ownBlock = some k) w).drewN _).grown hg' (fun k hk => .inl (.inr hk))).setCell (.inl (.inl rfl)) _

/-! A nil disk. -/
theorem nil_sync (w : World) : Calls Try.prog 14 #[.pointer none] w fun e w' => e = .returned (.tuple #[]) ∧ w = w' := by
  go_enter Try.func14, Try.ntmps14
  go_wp2
  go_end0
  exact ⟨rfl, rfl⟩
theorem nil_crash (keep : Int) (w : World) : Calls Try.prog 15 #[.pointer none, .int .i64 keep] w fun e w' => e = .returned (.tuple #[]) ∧ w = w' := by
  go_enter Try.func15, Try.ntmps15
  go_wp2
  go_end0
  exact ⟨rfl, rfl⟩
theorem nil_write (x : Value) (w : World) : Calls Try.prog 10 #[.pointer none, x] w fun e w' => e = .returned (.int .i64 1) ∧ w = w' := by
  go_enter Try.func10, Try.ntmps10
  go_wp2
  go_ret
  exact ⟨rfl, rfl⟩
theorem nil_cut (n : Int) (w : World) : Calls Try.prog 18 #[.pointer none, .int .i64 n] w fun e w' => e = .returned (.int .i64 1) ∧ w = w' := by
  go_enter Try.func18, Try.ntmps18
  go_wp2
  go_ret
  exact ⟨rfl, rfl⟩
theorem nil_bytes (w : World) : Calls Try.prog 11 #[.pointer none] w fun e w' => e = .returned (.slice none 0 0) ∧ w = w' := by
  go_enter Try.func11, Try.ntmps11
  go_wp2
  go_ret
  exact ⟨rfl, rfl⟩
theorem nil_lasts (w : World) : Calls Try.prog 16 #[.pointer none] w fun e w' => e = .returned (.int .i64 0) ∧ w = w' := by
  go_enter Try.func16, Try.ntmps16
  go_wp2
  go_ret
  exact ⟨rfl, rfl⟩
theorem nil_room (w : World) : Calls Try.prog 13 #[.pointer none] w fun e w' => e = .returned (.int .i64 0) ∧ w = w' := by
  go_enter Try.func13, Try.ntmps13
  go_wp2
  go_ret
  exact ⟨rfl, rfl⟩

/-! The reference's comparison of bytes. -/
theorem list_step {xs ys : List Int} {k : Nat} (hk : xs.take k = ys.take k) (h1 : k < xs.length) (h2 : k < ys.length) (h : xs[k] = ys[k]) : xs.take (k + 1) = ys.take (k + 1) := by
  rw [List.take_succ_eq_append_getElem h1, List.take_succ_eq_append_getElem h2, hk, h]

set_option maxHeartbeats 400000 in
theorem same_bytes_eq (n : Nat) (va vb : Value) (xs ys : List Int) (w : World) (ha : Rd w 1 va n (xs.map (Value.int .u8))) (hb : Rd w 1 vb n (ys.map (Value.int .u8))) (hn : n ≤ 140737488351232) :
    Calls Try.prog 12 #[va, vb] w fun e w' => e = .returned (.bool (decide (xs = ys))) ∧ ∃ n, w' = w.drewN n := by
  have hxl : xs.length = n := by have := ha.1; simpa using this
  have hyl : ys.length = n := by have := hb.1; simpa using this
  by_cases h0 : n = 0
  · subst h0
    have hx0 : xs = [] := List.eq_nil_of_length_eq_zero hxl
    have hy0 : ys = [] := List.eq_nil_of_length_eq_zero hyl
    subst hx0; subst hy0
    obtain ⟨_, a, ca, rfl, _⟩ := ha
    obtain ⟨_, b, cb, rfl, _⟩ := hb
    go_enter Try.func12, Try.ntmps12
    go_wp2
    refine wp_loop_rounds 1 ?_
    rw [rounds_succ]
    go_wp2
    go_ret
    exact ⟨rfl, 0, rfl⟩
  · obtain ⟨b1, o1, c1, rfl, hc1⟩ := ha.addr (by omega)
    obtain ⟨b2, o2, c2, rfl, hc2⟩ := hb.addr (by omega)
    have HX := Lib.hid hxl
    have HY := Lib.hid hyl
    have HC1 := Lib.hid hc1
    have HC2 := Lib.hid hc2
    clear hxl hyl hc1 hc2 ha hb
    go_enter Try.func12, Try.ntmps12
    go_wp2
    go_loopw [5] (fun i wr => ∃ k : Nat, k ≤ n ∧ i = .int .i64 k ∧ xs.take k = ys.take k ∧ ∃ q, wr = w.drewN q) (fun i _ => n - (intOf i).toNat)
    case atStart => exact ⟨0, Nat.zero_le _, rfl, rfl, 0, rfl⟩
    case round =>
      obtain ⟨k, hk, rfl, ht, q, rfl⟩ := hrel
      have HT := Lib.hid ht
      clear ht
      by_cases hlt : k < n
      · have hx : k < xs.length := by have := HX.out; omega
        have hy : k < ys.length := by have := HY.out; omega
        have d1 : w.cell? ⟨b1, o1 + k, none⟩ = some (.int .u8 xs[k]) := HC1.out k _ (by simp [hx])
        have d2 : w.cell? ⟨b2, o2 + k, none⟩ = some (.int .u8 ys[k]) := HC2.out k _ (by simp [hy])
        generalize hxk : xs[k] = x at d1
        generalize hyk : ys[k] = y at d2
        have HXK := Lib.hid hxk
        have HYK := Lib.hid hyk
        clear hxk hyk
        by_cases hxy : x = y
        · have hb : (x != y) = false := by simp [hxy]
          have HXY := Lib.hid hxy
          clear hxy
          go_wp2
          go_quiet (fail)
          go_wp2
          go_roundw
          case rel => exact ⟨k + 1, by omega, by go_num, list_step HT.out (by have := HX.out; omega) (by have := HY.out; omega) (by rw [HXK.out, HYK.out, HXY.out]), _, rfl⟩
          case measure => simp [intOf]; omega
        · have hb : (x != y) = true := by simp [hxy]
          have e : decide (xs = ys) = false := by
            simp only [decide_eq_false_iff_not]
            rintro rfl
            exact hxy (HXK.out.symm.trans HYK.out)
          have HE := Lib.hid e
          clear e hxy
          go_wp2
          go_quiet (fail)
          go_wp2
          go_ret
          exact ⟨by rw [HE.out]; rfl, _, World.drewN_drewN _ _ _⟩
      · have e : decide (xs = ys) = true := by
          have h := HT.out
          rw [List.take_of_length_le (by have := HX.out; omega), List.take_of_length_le (by have := HY.out; omega)] at h
          simp [h]
        have HE := Lib.hid e
        clear e
        go_wp2
        go_ret
        exact ⟨by rw [HE.out]; rfl, _, rfl⟩

theorem same_bytes (va vb : Value) (xs ys : List Int) (w : World) (ha : Rd w 1 va xs.length (xs.map (Value.int .u8))) (hb : Rd w 1 vb ys.length (ys.map (Value.int .u8)))
    (hl1 : xs.length ≤ 140737488351232) (hl2 : ys.length ≤ 140737488351232) :
    Calls Try.prog 12 #[va, vb] w fun e w' => e = .returned (.bool (decide (xs = ys))) ∧ ∃ n, w' = w.drewN n := by
  by_cases hne : xs.length = ys.length
  · exact same_bytes_eq xs.length va vb xs ys w ha (by rw [hne]; exact hb) hl1
  · obtain ⟨_, a, ca, rfl, ha⟩ := ha
    obtain ⟨_, b, cb, rfl, hb⟩ := hb
    have e : decide (xs = ys) = false := by simp; rintro rfl; exact hne rfl
    have HE := Lib.hid e
    have hne' : ((xs.length : Int) != ys.length) = true := by simp; omega
    clear ha hb e hne
    go_enter Try.func12, Try.ntmps12
    go_wp2
    go_ret
    exact ⟨by rw [HE.out]; rfl, 0, rfl⟩
end Go.Proofs.Ytecjdlocajecoaa
