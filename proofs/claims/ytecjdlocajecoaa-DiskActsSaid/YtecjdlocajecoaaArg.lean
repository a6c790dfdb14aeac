/-
  What came in as bytes, and the disk's contracts over lists of numbers. Conditions: as each theorem says.
-/
import Derived.Test.YtecjdlocajecoaaAlive
import Derived.ProofKit
import Derived.OpenShut
namespace Go.Proofs.Ytecjdlocajecoaa
open Go Go.RowKit

/-- A slice of integers that came in. -/
def IsRow (k : IntKind) (w : World) (a : Option Addr) (len cap : Nat) (zs : List Int) : Prop :=
  (a = none ∧ len = 0 ∧ cap = 0 ∧ zs = []) ∨
  ∃ x, a = some x ∧ len ≤ cap ∧ cap ≤ maxLen ∧ zs.length = cap ∧ (∀ i, i < zs.length → w.cell? (x.add i) = some (.int k (zs.getD i 0))) ∧ ∀ n ∈ zs, (Lit.int k n).wf = true
theorem IsRow.rd {k : IntKind} {w : World} {a : Option Addr} {len cap : Nat} {zs : List Int} (h : IsRow k w a len cap zs) :
    Rd w 1 (.slice a len cap) len ((zs.take len).map (Value.int k)) ∧ (zs.take len).length = len := by
  rcases h with ⟨rfl, rfl, rfl, rfl⟩ | ⟨x, rfl, h1, h2, h3, h4, _⟩
  · exact ⟨⟨rfl, none, 0, rfl, .inl ⟨rfl, rfl, rfl⟩⟩, rfl⟩
  · have hl : (zs.take len).length = len := by rw [List.length_take]; omega
    refine ⟨⟨by simp; omega, some x, cap, rfl, .inr ⟨x, rfl, fun j u hu => ?_⟩⟩, hl⟩
    have hj : j < len := by
      have := (List.getElem?_eq_some_iff.1 hu).1
      simp at this; omega
    rw [h4 j (by omega)]
    simp [hj] at hu
    obtain ⟨z, hz, rfl⟩ := hu
    simp [List.getD, hz]
theorem IsRow.lt {k : IntKind} {w : World} {a : Option Addr} {len cap : Nat} {zs : List Int} (h : IsRow k w a len cap zs) (hl : 0 < len) : ∀ b, (Value.slice a len cap).ownBlock = some b → b < w.heap.size := by
  intro b hb
  rcases h with ⟨rfl, rfl, rfl, rfl⟩ | ⟨x, rfl, h1, h2, h3, h4, _⟩
  · omega
  · simp [Value.ownBlock] at hb
    subst hb
    have := World.block_lt_of_cell? w _ (h4 0 (by omega))
    rwa [Addr.block_add] at this
theorem oneCell_ints (k : IntKind) (zs : List Int) : ∀ u ∈ zs.map (Value.int k), u.oneCell' = true := by
  intro u hu
  obtain ⟨z, _, rfl⟩ := List.mem_map.1 hu
  rfl

/-! The contracts over lists of numbers. -/
abbrev u8s (zs : List Int) : List Value := zs.map (Value.int .u8)
section
variable {w : World} {base D : Nat} {sv : Value} {xs : List Int} {lasts room : Nat}
theorem z_write (h : IsDisk w base D sv (u8s xs) lasts room) {xv : Value} {m : Nat} {ys : List Int} (hx : Rd w 1 xv m (u8s ys)) (hfit : xs.length + ys.length ≤ room) :
    Calls Try.prog 10 #[.pointer (some ⟨D, 0, none⟩), xv] w fun e w' => e = .returned (.int .i64 0) ∧ ∃ sv', IsDisk w' base D sv' (u8s (xs ++ ys)) lasts room ∧ Kept (fun k => base ≤ k) w w' := by
  have hm : ys.length = m := by have := hx.1; simpa using this
  have h6 := h.most
  refine (write_any _ _ _ _ _ _ _ m _ _ h hx (oneCell_ints _ _) (by unfold maxLen; omega) (by simp only [u8s, List.length_map]; omega)).mono ?_
  rintro e w' ⟨rfl, sv', hd, _, hk⟩
  exact ⟨rfl, sv', by simpa [u8s] using hd, hk.mono fun k hk h' => (h.own k h').1⟩
theorem z_write_no (h : IsDisk w base D sv (u8s xs) lasts room) {xv : Value} {m : Nat} {ys : List Int} (hx : Rd w 1 xv m (u8s ys)) (hm' : m ≤ 1000000) (hfit : room < xs.length + ys.length) :
    Calls Try.prog 10 #[.pointer (some ⟨D, 0, none⟩), xv] w fun e w' => e = .returned (.int .i64 5) ∧ ∃ sv', IsDisk w' base D sv' (u8s xs) lasts room ∧ Kept (fun k => base ≤ k) w w' := by
  have hm : ys.length = m := by have := hx.1; simpa using this
  obtain ⟨_, a, c, rfl, _⟩ := hx
  refine (write_no _ _ _ _ _ _ _ _ _ _ h (by unfold maxLen; omega) (by simp only [u8s, List.length_map]; omega)).mono ?_
  rintro e w' ⟨rfl, n, rfl⟩
  exact ⟨rfl, sv, h.new ((Kept.refl _ w).drewN n), (Kept.refl _ w).drewN n⟩
theorem z_sync (h : IsDisk w base D sv (u8s xs) lasts room) :
    Calls Try.prog 14 #[.pointer (some ⟨D, 0, none⟩)] w fun e w' => e = .returned (.tuple #[]) ∧ IsDisk w' base D sv (u8s xs) xs.length room ∧ Kept (fun k => base ≤ k) w w' := by
  refine (sync_any _ _ _ _ _ _ _ h).mono ?_
  rintro e w' ⟨rfl, hd, hk⟩
  exact ⟨rfl, by simpa [u8s] using hd, hk.mono fun k hk h' => (h.own k (.inl h')).1⟩
theorem z_crash (h : IsDisk w base D sv (u8s xs) lasts room) (keep : Int) (hk0 : -9223372036854775808 ≤ keep) (hk1 : keep ≤ 9223372036854775807) :
    Calls Try.prog 15 #[.pointer (some ⟨D, 0, none⟩), .int .i64 keep] w fun e w' => e = .returned (.tuple #[]) ∧ ∃ sv', IsDisk w' base D sv' (u8s (xs.take (keepN lasts xs.length keep))) (keepN lasts xs.length keep) room ∧ Kept (fun k => base ≤ k) w w' := by
  refine (crash_any _ _ _ _ _ _ keep _ h hk0 hk1).mono ?_
  rintro e w' ⟨rfl, sv', hd, _, hk⟩
  have e : (u8s xs).length = xs.length := by simp
  rw [e] at hd
  exact ⟨rfl, sv', by rw [u8s, List.map_take]; exact hd, hk.mono fun k hk h' => (h.own k (.inl h')).1⟩
theorem z_cut (h : IsDisk w base D sv (u8s xs) lasts room) {n : Nat} (hn : n ≤ xs.length) :
    Calls Try.prog 18 #[.pointer (some ⟨D, 0, none⟩), .int .i64 n] w fun e w' => e = .returned (.int .i64 0) ∧ ∃ sv', IsDisk w' base D sv' (u8s (xs.take n)) n room ∧ Kept (fun k => base ≤ k) w w' := by
  refine (cut_any _ _ _ _ _ _ n _ h (by simpa using hn)).mono ?_
  rintro e w' ⟨rfl, sv', hd, _, hk⟩
  exact ⟨rfl, sv', by rw [u8s, List.map_take]; exact hd, hk.mono fun k hk h' => (h.own k (.inl h')).1⟩
theorem z_room (h : IsDisk w base D sv (u8s xs) lasts room) :
    Calls Try.prog 13 #[.pointer (some ⟨D, 0, none⟩)] w fun e w' => e = .returned (.int .i64 ((room : Int) - xs.length)) ∧ IsDisk w' base D sv (u8s xs) lasts room ∧ ∃ n, w' = w.drewN n := by
  refine (room_any _ _ _ _ _ _ _ h).mono ?_
  rintro e w' ⟨rfl, n, rfl⟩
  have e : (u8s xs).length = xs.length := by simp
  rw [e]
  exact ⟨rfl, h.new ((Kept.refl _ w).drewN n), n, rfl⟩
theorem z_bytes (h : IsDisk w base D sv (u8s xs) lasts room) :
    Calls Try.prog 11 #[.pointer (some ⟨D, 0, none⟩)] w fun e w' => ∃ a c, e = .returned (.slice a xs.length c) ∧ Rd w' 1 (.slice a xs.length c) xs.length (u8s xs) ∧ (∀ k, (Value.slice a xs.length c).ownBlock = some k → w.heap.size ≤ k ∧ k < w'.heap.size) ∧
      IsDisk w' base D sv (u8s xs) lasts room ∧ Kept (fun _ => False) w w' := by
  refine (bytes_any _ _ _ _ _ _ _ h).mono ?_
  rintro e w' ⟨v, rfl, hb, hk⟩
  have e : (u8s xs).length = xs.length := by simp
  rw [e] at hb
  have hr := hb.rd
  have hl := hb.lt
  obtain ⟨a, c, rfl, _, _⟩ := hb.form
  exact ⟨a, c, rfl, hr, hl, h.new hk, hk⟩
end
end Go.Proofs.Ytecjdlocajecoaa
