/-
  The document's example of a disk goes as it says. Conditions: none.
-/
import Derived.Test.YtecjdlocajecoaaDisk
import Derived.Lib.SlBytesConst
namespace Go.Proofs.Ytecjdlocajecoaa
open Go Go.RowKit

theorem alive_true (w : World) : Calls Try.prog 8 #[] w fun e w' => e = .returned (.bool true) ∧ Kept (fun k => w.heap.size ≤ k) w w' := by
  have kc := fun (w : World) (C : Array Value) (n c : Nat) => Lib.run_convert_bytes_const (P := Try.prog) w 22 5 C n c Try.underlying22 Try.underlying5
  have C1 := new_any w.heap.size 4 w (by decide) (by decide) (Nat.le_refl _)
  go_enter Try.func8, Try.ntmps8
  go_wp2_with (go_at_call 9; refine C1.mono ?_; rintro e w1 ⟨rfl, hd, hk⟩)
  clear C1
  have R1 : Rd (w1.alloc (.cells #[.int .u8 97, .int .u8 98, .int .u8 99] 5 (3, 4))) 1 (.slice (some ⟨w1.heap.size, 0, none⟩) 3 3) 3 [.int .u8 97, .int .u8 98, .int .u8 99] := Rd.of_block (heap_alloc_new _ _) 1 3 3 (by decide)
  refine (write_any _ _ _ _ _ _ _ 3 _ _ (hd.new ((Kept.refl _ w1).alloc _)) R1 (by simp [Value.oneCell']) (by decide) (by decide)).mono ?_
  rintro e w2 ⟨rfl, sv2, hd2, ho2, hk2⟩
  have K2 : Kept (fun k => w.heap.size ≤ k) w w2 := (hk.mono (fun _ _ h => h.elim)).trans' (((Kept.refl _ w1).alloc _).trans' hk2 (fun _ _ h => h)) (fun i hi h => (hd.own i h).1)
  clear hk2 ho2 R1 hd hk
  go_wp2_with fail
  refine (write_no _ _ _ _ _ _ _ 2 _ _ (hd2.new ((Kept.refl _ w2).alloc _)) (by decide) (by decide)).mono ?_
  rintro e w3 ⟨rfl, n3, rfl⟩
  have hd3 : IsDisk ((w2.alloc (.cells #[.int .u8 100, .int .u8 101] 5 (2, 3))).drewN n3) _ _ _ _ _ _ := (hd2.new (((Kept.refl _ w2).alloc _).drewN n3))
  have K3 := (K2.alloc (.cells #[.int .u8 100, .int .u8 101] 5 (2, 3))).drewN n3
  generalize ((w2.alloc (.cells #[.int .u8 100, .int .u8 101] 5 (2, 3))).drewN n3) = w3 at *
  clear hd2 K2
  go_wp2_with fail
  refine (len_any _ _ _ _ _ _ _ hd3).mono ?_
  rintro e w4 ⟨rfl, rfl⟩
  go_wp2_with fail
  refine (crash_any _ _ _ _ _ _ 1 _ hd3 (by decide) (by decide)).mono ?_
  rintro e w5 ⟨rfl, sv5, hd5', ho5, hk5⟩
  have hd5 : IsDisk w5 w.heap.size w.heap.size sv5 [.int .u8 97] 1 4 := hd5'
  clear hd5'
  have K5 := K3.trans' hk5 (fun i hi h => (hd3.own i (.inl h)).1)
  clear hk5 ho5 K3 hd3
  go_wp2_with fail
  refine (bytes_any _ _ _ _ _ _ _ hd5).mono ?_
  rintro e w6 ⟨v6, rfl, hb6, hk6⟩
  have hd6 := hd5.new hk6
  have K6 := K5.trans' hk6 (fun _ _ h => h.elim)
  clear hd5 hk6 K5
  obtain ⟨b, o, c, rfl, hc⟩ := hb6.rd.addr (by decide)
  have hcv : (convert 22 9 (.slice (some ⟨b, o, none⟩) 1 c)).run Try.prog w6 = .ok (.string ⟨#[97]⟩) w6 :=
    run_convert_bytes_arg (P := Try.prog) (w := w6) 22 5 Try.underlying22 Try.underlying5 b o 1 c [97] rfl (fun j hj => by
      have : j = 0 := by simpa using hj
      subst this
      exact hc 0 _ rfl) 9 Try.underlying9
  clear hc hb6
  go_wp2_with fail
  refine (len_any _ _ _ _ _ _ _ hd6).mono ?_
  rintro e w7 ⟨rfl, rfl⟩
  go_wp2_with fail
  refine (room_any _ _ _ _ _ _ _ hd6).mono ?_
  rintro e w8 ⟨rfl, n8, rfl⟩
  go_wp2_with fail
  refine (new_no 0 _ (.inl (by decide))).mono ?_
  rintro e w9 ⟨rfl, rfl⟩
  go_wp2
  go_ret
  exact ⟨rfl, K6.drewN _⟩
end Go.Proofs.Ytecjdlocajecoaa
