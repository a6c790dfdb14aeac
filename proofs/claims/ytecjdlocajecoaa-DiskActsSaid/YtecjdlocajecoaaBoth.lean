/-
  A disk and the reference's disk beside each other: contracts. Conditions: as each theorem says.
-/
import Derived.Test.YtecjdlocajecoaaRef
namespace Go.Proofs.Ytecjdlocajecoaa
open Go Go.RowKit

structure J (w0 w : World) (D R room : Nat) (sv dv lv : Value) (zs ds ls : List Int) (lasts : Nat) : Prop where
  disk : IsDisk w w0.heap.size D sv (u8s zs) lasts room
  ref : IsRef w w0.heap.size R dv lv ds ls room
  kept : Kept (fun k => w0.heap.size ≤ k) w0 w
  rd : R ≠ D
  sR : sv.ownBlock ≠ some R
  dD : dv.ownBlock ≠ some D
  lD : lv.ownBlock ≠ some D
  dS : ∀ k, dv.ownBlock = some k → sv.ownBlock ≠ some k
  lS : ∀ k, lv.ownBlock = some k → sv.ownBlock ≠ some k

/-- Nothing but the two disks' own blocks has turned. -/
abbrev Near (D R : Nat) (sv : Value) (w w' : World) : Prop := Kept (fun k => k = D ∨ k = R ∨ sv.ownBlock = some k) w w'
section
variable {w0 w : World} {D R room : Nat} {sv dv lv : Value} {zs ds ls : List Int} {lasts : Nat}
theorem J.next (h : J w0 w D R room sv dv lv zs ds ls lasts) {w' : World} (hk : Kept (fun _ => False) w w') : J w0 w' D R room sv dv lv zs ds ls lasts :=
  ⟨h.disk.new hk, h.ref.new hk, h.kept.trans' hk (fun _ _ h => h.elim), h.rd, h.sR, h.dD, h.lD, h.dS, h.lS⟩
theorem J.drewN (h : J w0 w D R room sv dv lv zs ds ls lasts) (n : Nat) : J w0 (w.drewN n) D R room sv dv lv zs ds ls lasts := h.next ((Kept.refl _ w).drewN n)
theorem J.drew (h : J w0 w D R room sv dv lv zs ds ls lasts) : J w0 w.drew D R room sv dv lv zs ds ls lasts := h.next ((Kept.refl _ w).drew)
theorem J.alloc (h : J w0 w D R room sv dv lv zs ds ls lasts) (o : Obj) : J w0 (w.alloc o) D R room sv dv lv zs ds ls lasts := h.next ((Kept.refl _ w).alloc o)
/-- The disk has turned. -/
theorem J.of_disk (h : J w0 w D R room sv dv lv zs ds ls lasts) {w' : World} {sv' : Value} {zs' : List Int} {lasts' : Nat} (hd : IsDisk w' w0.heap.size D sv' (u8s zs') lasts' room)
    (ho : sv'.ownBlock = sv.ownBlock ∨ sv'.ownBlock = some w.heap.size) (hk : Kept (fun k => k = D ∨ sv.ownBlock = some k) w w') : J w0 w' D R room sv' dv lv zs' ds ls lasts' := by
  have h1 : ∀ k, dv.ownBlock = some k → ¬ (k = D ∨ sv.ownBlock = some k) := by
    rintro k hk (e | e)
    · exact h.dD (by rw [hk, e])
    · exact h.dS k hk e
  have h2 : ∀ k, lv.ownBlock = some k → ¬ (k = D ∨ sv.ownBlock = some k) := by
    rintro k hk (e | e)
    · exact h.lD (by rw [hk, e])
    · exact h.lS k hk e
  have h3 : ¬ (R = D ∨ sv.ownBlock = some R) := by
    rintro (e | e)
    · exact h.rd e
    · exact h.sR e
  refine ⟨hd, h.ref.kept hk h3 h1 h2, h.kept.trans' hk (fun k _ hk => (h.disk.own k hk).1), h.rd, ?_, h.dD, h.lD, ?_, ?_⟩
  · rcases ho with e | e <;> rw [e]
    · exact h.sR
    · have := h.ref.lt; simp; omega
  · intro k hk
    rcases ho with e | e <;> rw [e]
    · exact h.dS k hk
    · have := (h.ref.dlo k hk).2; simp; omega
  · intro k hk
    rcases ho with e | e <;> rw [e]
    · exact h.lS k hk
    · have := (h.ref.llo k hk).2; simp; omega
/-- The reference's has turned. -/
theorem J.of_ref (h : J w0 w D R room sv dv lv zs ds ls lasts) {w' : World} {dv' lv' : Value} {ds' ls' : List Int} (hr : IsRef w' w0.heap.size R dv' lv' ds' ls' room)
    (hd : ∀ k, dv'.ownBlock = some k → dv.ownBlock = some k ∨ w.heap.size ≤ k) (hl : ∀ k, lv'.ownBlock = some k → lv.ownBlock = some k ∨ w.heap.size ≤ k) (hk : Kept (fun k => k = R) w w') :
    J w0 w' D R room sv dv' lv' zs ds' ls' lasts := by
  refine ⟨h.disk.kept hk (fun e => h.rd e.symm) (fun k hs e => h.sR (by rw [hs, e])), hr, h.kept.trans' hk (fun k _ e => by have := h.ref.lo; have e' : k = R := e; omega), h.rd, h.sR, ?_, ?_, ?_, ?_⟩
  · intro e
    rcases hd D e with h1 | h1
    · exact h.dD h1
    · have := h.disk.lt; omega
  · intro e
    rcases hl D e with h1 | h1
    · exact h.lD h1
    · have := h.disk.lt; omega
  · intro k e es
    rcases hd k e with h1 | h1
    · exact h.dS k h1 es
    · have := (h.disk.own k (.inr es)).2; omega
  · intro k e es
    rcases hl k e with h1 | h1
    · exact h.lS k h1 es
    · have := (h.disk.own k (.inr es)).2; omega

/-- A box that was made behind the disks stands. -/
theorem J.box (_h : J w0 w D R room sv dv lv zs ds ls lasts) {X : Nat} (hD : X ≠ D) (hR : X ≠ R) (hS : sv.ownBlock ≠ some X) (hX : X < w.heap.size) {w' : World} (hn : Near D R sv w w') : w'.heap[X]? = w.heap[X]? :=
  hn.block X hX (by rintro (e | e | e); exact hD e; exact hR e; exact hS e)
theorem jd_write (h : J w0 w D R room sv dv lv zs ds ls lasts) {xv : Value} {m : Nat} {ys : List Int} (hx : Rd w 1 xv m (u8s ys)) (hfit : zs.length + ys.length ≤ room) :
    Calls Try.prog 10 #[.pointer (some ⟨D, 0, none⟩), xv] w fun e w' => e = .returned (.int .i64 0) ∧ ∃ sv', J w0 w' D R room sv' dv lv (zs ++ ys) ds ls lasts ∧ Near D R sv w w' := by
  have hm : ys.length = m := by have := hx.1; simpa using this
  have h6 := h.disk.most
  refine (write_any _ _ _ _ _ _ _ m _ _ h.disk hx (oneCell_ints _ _) (by unfold maxLen; omega) (by simp only [u8s, List.length_map]; omega)).mono ?_
  rintro e w' ⟨rfl, sv', hd, ho, hk⟩
  exact ⟨rfl, sv', h.of_disk (by simpa [u8s] using hd) ho hk, hk.mono fun k _ e => by rcases e with e | e; exact .inl e; exact .inr (.inr e)⟩
theorem jd_write_no (h : J w0 w D R room sv dv lv zs ds ls lasts) {ax : Option Addr} {m cx : Nat} (hm : m ≤ 1000000) (hfit : room < zs.length + m) :
    Calls Try.prog 10 #[.pointer (some ⟨D, 0, none⟩), .slice ax m cx] w fun e w' => e = .returned (.int .i64 5) ∧ J w0 w' D R room sv dv lv zs ds ls lasts ∧ Near D R sv w w' := by
  refine (write_no _ _ _ _ _ _ _ _ _ _ h.disk (by unfold maxLen; omega) (by simp only [u8s, List.length_map]; omega)).mono ?_
  rintro e w' ⟨rfl, n, rfl⟩
  exact ⟨rfl, h.drewN n, (Kept.refl _ w).drewN n⟩
theorem jd_sync (h : J w0 w D R room sv dv lv zs ds ls lasts) :
    Calls Try.prog 14 #[.pointer (some ⟨D, 0, none⟩)] w fun e w' => e = .returned (.tuple #[]) ∧ J w0 w' D R room sv dv lv zs ds ls zs.length ∧ Near D R sv w w' := by
  refine (sync_any _ _ _ _ _ _ _ h.disk).mono ?_
  rintro e w' ⟨rfl, hd, hk⟩
  exact ⟨rfl, h.of_disk (by simpa [u8s] using hd) (.inl rfl) (hk.mono fun k _ e => .inl e), hk.mono fun k _ e => .inl e⟩
theorem jd_crash (h : J w0 w D R room sv dv lv zs ds ls lasts) {keep : Int} (hk0 : -9223372036854775808 ≤ keep) (hk1 : keep ≤ 9223372036854775807) :
    Calls Try.prog 15 #[.pointer (some ⟨D, 0, none⟩), .int .i64 keep] w fun e w' => e = .returned (.tuple #[]) ∧ ∃ sv', J w0 w' D R room sv' dv lv (zs.take (keepN lasts zs.length keep)) ds ls (keepN lasts zs.length keep) ∧ Near D R sv w w' := by
  refine (crash_any _ _ _ _ _ _ keep _ h.disk hk0 hk1).mono ?_
  rintro e w' ⟨rfl, sv', hd, ho, hk⟩
  have e : (u8s zs).length = zs.length := by simp
  rw [e] at hd
  exact ⟨rfl, sv', h.of_disk (by rw [u8s, List.map_take]; exact hd) (.inl ho) (hk.mono fun k _ e => .inl e), hk.mono fun k _ e => .inl e⟩
theorem jd_cut (h : J w0 w D R room sv dv lv zs ds ls lasts) {n : Nat} (hn : n ≤ zs.length) :
    Calls Try.prog 18 #[.pointer (some ⟨D, 0, none⟩), .int .i64 n] w fun e w' => e = .returned (.int .i64 0) ∧ ∃ sv', J w0 w' D R room sv' dv lv (zs.take n) ds ls n ∧ Near D R sv w w' := by
  refine (cut_any _ _ _ _ _ _ n _ h.disk (by simpa using hn)).mono ?_
  rintro e w' ⟨rfl, sv', hd, ho, hk⟩
  exact ⟨rfl, sv', h.of_disk (by rw [u8s, List.map_take]; exact hd) (.inl ho) (hk.mono fun k _ e => .inl e), hk.mono fun k _ e => .inl e⟩
theorem jd_cut_no (h : J w0 w D R room sv dv lv zs ds ls lasts) {n : Int} (hn : n < 0 ∨ zs.length < n) :
    Calls Try.prog 18 #[.pointer (some ⟨D, 0, none⟩), .int .i64 n] w fun e w' => e = .returned (.int .i64 1) ∧ J w0 w' D R room sv dv lv zs ds ls lasts ∧ Near D R sv w w' := by
  refine (cut_no _ _ _ _ _ _ n _ h.disk (by simpa using hn)).mono ?_
  rintro e w' ⟨rfl, rfl⟩
  exact ⟨rfl, h, Kept.refl _ w⟩
theorem jd_bytes (h : J w0 w D R room sv dv lv zs ds ls lasts) :
    Calls Try.prog 11 #[.pointer (some ⟨D, 0, none⟩)] w fun e w' => ∃ a c, e = .returned (.slice a zs.length c) ∧ Rd w' 1 (.slice a zs.length c) zs.length (u8s zs) ∧ J w0 w' D R room sv dv lv zs ds ls lasts := by
  refine (z_bytes h.disk).mono ?_
  rintro e w' ⟨a, c, rfl, hr, _, _, hk⟩
  exact ⟨a, c, rfl, hr, h.next hk⟩
theorem jd_lasts (h : J w0 w D R room sv dv lv zs ds ls lasts) :
    Calls Try.prog 16 #[.pointer (some ⟨D, 0, none⟩)] w fun e w' => e = .returned (.int .i64 lasts) ∧ w = w' := len_any _ _ _ _ _ _ _ h.disk
theorem jd_room (h : J w0 w D R room sv dv lv zs ds ls lasts) :
    Calls Try.prog 13 #[.pointer (some ⟨D, 0, none⟩)] w fun e w' => e = .returned (.int .i64 ((room : Int) - zs.length)) ∧ J w0 w' D R room sv dv lv zs ds ls lasts := by
  refine (z_room h.disk).mono ?_
  rintro e w' ⟨rfl, _, n, rfl⟩
  exact ⟨rfl, h.drewN n⟩
theorem jr_write (h : J w0 w D R room sv dv lv zs ds ls lasts) {xv : Value} {m : Nat} {ys : List Int} (hx : Rd w 1 xv m (u8s ys)) (hfit : ds.length + ls.length + ys.length ≤ room) :
    Calls Try.prog 19 #[.pointer (some ⟨R, 0, none⟩), xv] w fun e w' => e = .returned (.int .i64 0) ∧ ∃ lv', J w0 w' D R room sv dv lv' zs ds (ls ++ ys) lasts ∧ Kept (fun k => k = R) w w' := by
  refine (r_write h.ref hx hfit).mono ?_
  rintro e w' ⟨rfl, lv', hr, hf, hk⟩
  exact ⟨rfl, lv', h.of_ref hr (fun k hk => .inl hk) (fun k hk => .inr (hf k hk)) hk, hk⟩
theorem jr_write_no (h : J w0 w D R room sv dv lv zs ds ls lasts) {ax : Option Addr} {m cx : Nat} (hm : m ≤ 1000000) (hfit : room < ds.length + ls.length + m) :
    Calls Try.prog 19 #[.pointer (some ⟨R, 0, none⟩), .slice ax m cx] w fun e w' => e = .returned (.int .i64 5) ∧ J w0 w' D R room sv dv lv zs ds ls lasts ∧ Kept (fun k => k = R) w w' := by
  refine (r_write_no h.ref (by unfold maxLen; omega) hfit).mono ?_
  rintro e w' ⟨rfl, n, rfl⟩
  exact ⟨rfl, h.drewN n, (Kept.refl _ w).drewN n⟩
theorem jr_sync (h : J w0 w D R room sv dv lv zs ds ls lasts) :
    Calls Try.prog 20 #[.pointer (some ⟨R, 0, none⟩)] w fun e w' => e = .returned (.tuple #[]) ∧ ∃ dv' lv', J w0 w' D R room sv dv' lv' zs (ds ++ ls) [] lasts ∧ Kept (fun k => k = R) w w' := by
  refine (r_sync h.ref).mono ?_
  rintro e w' ⟨rfl, dv', hr, hf, hk⟩
  exact ⟨rfl, dv', _, h.of_ref hr (fun k hk => .inr (hf k hk)) (fun k hk => by simp [Value.ownBlock] at hk) hk, hk⟩
theorem jr_crash (h : J w0 w D R room sv dv lv zs ds ls lasts) {keep : Int} :
    Calls Try.prog 21 #[.pointer (some ⟨R, 0, none⟩), .int .i64 keep] w fun e w' => e = .returned (.tuple #[]) ∧ ∃ dv' lv', J w0 w' D R room sv dv' lv' zs (ds ++ ls.take keep.toNat) [] lasts ∧ Kept (fun k => k = R) w w' := by
  refine (r_crash h.ref keep).mono ?_
  rintro e w' ⟨rfl, dv', hr, hf, hk⟩
  exact ⟨rfl, dv', _, h.of_ref hr (fun k hk => .inr (hf k hk)) (fun k hk => by simp [Value.ownBlock] at hk) hk, hk⟩
theorem jr_cut (h : J w0 w D R room sv dv lv zs ds ls lasts) {n : Nat} (hn : n ≤ ds.length + ls.length) :
    Calls Try.prog 22 #[.pointer (some ⟨R, 0, none⟩), .int .i64 n] w fun e w' => e = .returned (.int .i64 0) ∧ ∃ dv' lv', J w0 w' D R room sv dv' lv' zs ((ds ++ ls).take n) [] lasts ∧ Kept (fun k => k = R) w w' := by
  refine (r_cut h.ref hn).mono ?_
  rintro e w' ⟨rfl, dv', hr, hf, hk⟩
  exact ⟨rfl, dv', _, h.of_ref hr (fun k hk => .inr (hf k hk)) (fun k hk => by simp [Value.ownBlock] at hk) hk, hk⟩
theorem jr_cut_no (h : J w0 w D R room sv dv lv zs ds ls lasts) {n : Int} (hn : n < 0 ∨ ((ds.length + ls.length : Nat) : Int) < n) :
    Calls Try.prog 22 #[.pointer (some ⟨R, 0, none⟩), .int .i64 n] w fun e w' => e = .returned (.int .i64 1) ∧ J w0 w' D R room sv dv lv zs ds ls lasts ∧ Kept (fun k => k = R) w w' := by
  refine (r_cut_no h.ref hn).mono ?_
  rintro e w' ⟨rfl, hk⟩
  exact ⟨rfl, h.next hk, hk.mono fun _ _ h => h.elim⟩
theorem jr_bytes (h : J w0 w D R room sv dv lv zs ds ls lasts) :
    Calls Try.prog 23 #[.pointer (some ⟨R, 0, none⟩)] w fun e w' => ∃ a c, e = .returned (.slice a (ds.length + ls.length) c) ∧ Rd w' 1 (.slice a (ds.length + ls.length) c) (ds.length + ls.length) (u8s (ds ++ ls)) ∧
      J w0 w' D R room sv dv lv zs ds ls lasts ∧ Kept (fun _ => False) w w' := by
  refine (r_bytes h.ref).mono ?_
  rintro e w' ⟨v, rfl, hb, hk⟩
  have hr := hb.rd
  obtain ⟨a, c, rfl, _, _⟩ := hb.form
  exact ⟨a, c, rfl, hr, h.next hk, hk⟩
theorem jd_bytes2 (h : J w0 w D R room sv dv lv (ds ++ ls) ds ls lasts) :
    Calls Try.prog 11 #[.pointer (some ⟨D, 0, none⟩)] w fun e w' => ∃ a c, e = .returned (.slice a (ds.length + ls.length) c) ∧ Rd w' 1 (.slice a (ds.length + ls.length) c) (ds.length + ls.length) (u8s (ds ++ ls)) ∧ J w0 w' D R room sv dv lv (ds ++ ls) ds ls lasts := by
  have := jd_bytes h
  rw [List.length_append] at this
  exact this
theorem jd_room2 (h : J w0 w D R room sv dv lv (ds ++ ls) ds ls lasts) :
    Calls Try.prog 13 #[.pointer (some ⟨D, 0, none⟩)] w fun e w' => e = .returned (.int .i64 ((room : Int) - ((ds.length : Int) + ls.length))) ∧ J w0 w' D R room sv dv lv (ds ++ ls) ds ls lasts := by
  have := jd_room h
  rw [List.length_append] at this
  simpa using this
theorem same_true {n : Nat} {va vb : Value} {xs : List Int} (ha : Rd w 1 va n (u8s xs)) (hb : Rd w 1 vb n (u8s xs)) (hn : n ≤ 140737488351232) :
    Calls Try.prog 12 #[va, vb] w fun e w' => e = .returned (.bool true) ∧ ∃ n, w' = w.drewN n :=
  (same_bytes_eq n va vb xs xs w ha hb hn).mono fun e w' ⟨he, hw⟩ => ⟨by rw [he]; simp, hw⟩
end
end Go.Proofs.Ytecjdlocajecoaa
