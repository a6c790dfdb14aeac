/-
  Contracts of Same and what it calls. Conditions: as each theorem says.
-/
import Derived.Test.YtklmhegmombegaaGoY
set_option linter.unusedVariables false
set_option linter.unusedSimpArgs false
namespace Go.Proofs.Ytklmhegmombegaa
open Go Go.RowKit Plain

def bitI (b : Bool) : Int := if b = true then 1 else 0
theorem f_bit (b : Bool) (w : World) : Calls Try.prog 61 #[.bool b] w fun e w' => e = .returned (.int .i64 (bitI b)) ∧ w = w' := by
  cases b with
  | true =>
    go_enter Try.func61, Try.ntmps61
    go_wp2_with fail
    go_ret
    exact ⟨rfl, rfl⟩
  | false =>
    go_enter Try.func61, Try.ntmps61
    go_wp2_with fail
    go_ret
    exact ⟨rfl, rfl⟩

noncomputable def store72Of (p v : Value) : Sem Unit := Instr.storeAt 72 p v
theorem store72_fold (p v : Value) : Instr.storeAt 72 p v = store72Of p v := rfl
theorem Try.isz72 : (Try.prog.info? 72).map (·.size) = some 10 := by kernel_rfl
theorem store72_of {w : World} {g : Nat} {old C : Array Value} {t : TypeId} (hg : w.heap[g]? = some (.cells old t (0, 0))) (ho : old.size = 10) (hC : C.size = 10) (h1 : C.all (·.oneCell') = true) :
    (store72Of (.pointer (some ⟨g, 0, none⟩)) (.agg C)).run Try.prog w = .ok () (w.setRow g C) := by
  unfold store72Of Instr.storeAt
  simp only [Instr.sureAddr, Sem.run_bind, Sem.run_pure, Result.andThen_ok, run_storeVar_row (P := Try.prog) w g t 72 old C hg (by rw [Try.isz72, hC]) (by rw [ho, hC]) h1]
theorem ones10 (a b c d e f g h i j : Int) : (#[.int .i64 a, .int .i64 b, .int .i64 c, .int .i64 d, .int .i64 e, .int .i64 f, .int .i64 g, .int .i64 h, .int .i64 i, .int .i64 j] : Array Value).all (·.oneCell') = true := by simp [Value.oneCell']
/-- A saga in ten numbers. -/
def tenOf (s : Sg) : List Int := [s.phase, s.pos, s.tries, bitI s.wait, bitI s.back, s.done, s.undone, s.may, s.seq, s.steps.length]
def tenV (l : List Int) : Value := .agg (l.map (Value.int .i64)).toArray
theorem results_ten {fn : Func} {p : Tmp} (h : fn.results = #[.cell p 72]) (tmps : Array Value) (w : World) (g : Nat) {C : Array Value} {ty : TypeId} {fr : Nat × Nat}
    (hg : w.heap[g]? = some (.cells C ty fr)) (hC : C.size = 10) (hp : tmps.getD p undef = .pointer (some ⟨g, 0, none⟩)) :
    (results fn tmps).run Try.prog w = .ok (.agg C) w := by
  have hp' : tmps[p]?.getD undef = .pointer (some ⟨g, 0, none⟩) := by simpa using hp
  simp [results, h, hp', asAddr, run_loadVar_row (P := Try.prog) w g ty 72 C fr _ hg Try.underlying72 rfl (by rw [Try.isz72, hC])]
attribute [local go_sem ↓] store72_fold
set_option maxRecDepth 100000 in
set_option maxHeartbeats 4000000 in
theorem f_plain (s : Sg) (v : Value) (w : World) (hv : ∃ a c, v = .slice a s.steps.length c) : Calls Try.prog 41 #[.agg (sgC s v)] w fun e w' => e = .returned (tenV (tenOf s)) ∧ Kept (fun _ => False) w w' := by
  obtain ⟨a, c, rfl⟩ := hv
  obtain ⟨st, ph, po, tr, wt, bk, dn, un, my, sq⟩ := s
  unfold sgC tenV tenOf
  dsimp only
  have Z : Array Value := #[]
  have g0 := heap_alloc2_old w (.cells #[.slice a st.length c, .int .i64 ph, .int .i64 po, .int .i64 tr, .bool wt, .bool bk, .int .i64 dn, .int .i64 un, .int .i64 my, .int .i64 sq] 27) (.cells #[.int .i64 0, .int .i64 0, .int .i64 0, .int .i64 0, .int .i64 0, .int .i64 0, .int .i64 0, .int .i64 0, .int .i64 0, .int .i64 0] 72)
  have g1 := heap_alloc2_new w (.cells #[.slice a st.length c, .int .i64 ph, .int .i64 po, .int .i64 tr, .bool wt, .bool bk, .int .i64 dn, .int .i64 un, .int .i64 my, .int .i64 sq] 27) (.cells #[.int .i64 0, .int .i64 0, .int .i64 0, .int .i64 0, .int .i64 0, .int .i64 0, .int .i64 0, .int .i64 0, .int .i64 0, .int .i64 0] 72)
  have K2 := ((Kept.refl (fun _ => False) w).alloc (.cells #[.slice a st.length c, .int .i64 ph, .int .i64 po, .int .i64 tr, .bool wt, .bool bk, .int .i64 dn, .int .i64 un, .int .i64 my, .int .i64 sq] 27)).alloc (.cells #[.int .i64 0, .int .i64 0, .int .i64 0, .int .i64 0, .int .i64 0, .int .i64 0, .int .i64 0, .int .i64 0, .int .i64 0, .int .i64 0] 72)
  go_enter Try.func41, Try.ntmps41
  go_upto_region 2 with (fail)
  generalize (w.alloc (.cells #[.slice a st.length c, .int .i64 ph, .int .i64 po, .int .i64 tr, .bool wt, .bool bk, .int .i64 dn, .int .i64 un, .int .i64 my, .int .i64 sq] 27)).alloc (.cells #[.int .i64 0, .int .i64 0, .int .i64 0, .int .i64 0, .int .i64 0, .int .i64 0, .int .i64 0, .int .i64 0, .int .i64 0, .int .i64 0] 72) = w2 at g0 g1 K2 ⊢
  have HG : Hid (∀ {w' : World}, Kept (fun k => k = w.heap.size + 1) w2 w' → w'.heap[w.heap.size]? = some (.cells #[.slice a st.length c, .int .i64 ph, .int .i64 po, .int .i64 tr, .bool wt, .bool bk, .int .i64 dn, .int .i64 un, .int .i64 my, .int .i64 sq] 27 (0, 0))) := fun k => (k.block _ (Array.getElem?_eq_some_iff.1 g0).1 (by show ¬ _ = _; omega)).trans g0
  have HG2 : Hid (w2.drew.heap[w.heap.size + 1]? = some (.cells #[.int .i64 0, .int .i64 0, .int .i64 0, .int .i64 0, .int .i64 0, .int .i64 0, .int .i64 0, .int .i64 0, .int .i64 0, .int .i64 0] 72 (0, 0))) := g1
  have hd : Kept (fun k => k = w.heap.size + 1) w2 w2.drew := (Kept.refl _ _).drew
  have KW := Lib.hid K2
  clear g0 g1 K2 Z
  refine wp_region_held_drew (S := fun w' => Kept (fun k => k = w.heap.size + 1) w2 w') (by kernel_rfl) hd (fun hHeld => ?_)
  refine wpAnyH_take (i := 0) (oi := ⟨some 4, _, _, _, _, _⟩) (v := .pointer (some ⟨w.heap.size, 1, none⟩)) rfl (by kernel_rfl) (by kernel_rfl) (by kernel_rfl) (fun _ _ _ h => h) (Or.inl ⟨by kernel_rfl, fun w hS => by go_simp⟩) (by assumption) ?_
  try simp only [Act.put, List.setIfInBounds_toArray, List.set_cons_succ, List.set_cons_zero]
  refine wpAnyH_take (i := 1) (oi := ⟨some 5, _, _, _, _, _⟩) (v := .int .i64 ph) rfl (by kernel_rfl) (by kernel_rfl) (by kernel_rfl) (fun _ _ _ h => h) (Or.inl ⟨by kernel_rfl, fun w hS => by have hc := ((cells10 (HG.out hS)).2.1); go_simp⟩) (by assumption) ?_
  try simp only [Act.put, List.setIfInBounds_toArray, List.set_cons_succ, List.set_cons_zero]
  refine wpAnyH_take (i := 2) (oi := ⟨some 6, _, _, _, _, _⟩) (v := .pointer (some ⟨w.heap.size, 2, none⟩)) rfl (by kernel_rfl) (by kernel_rfl) (by kernel_rfl) (fun _ _ _ h => h) (Or.inl ⟨by kernel_rfl, fun w hS => by go_simp⟩) (by assumption) ?_
  try simp only [Act.put, List.setIfInBounds_toArray, List.set_cons_succ, List.set_cons_zero]
  refine wpAnyH_take (i := 3) (oi := ⟨some 7, _, _, _, _, _⟩) (v := .int .i64 po) rfl (by kernel_rfl) (by kernel_rfl) (by kernel_rfl) (fun _ _ _ h => h) (Or.inl ⟨by kernel_rfl, fun w hS => by have hc := ((cells10 (HG.out hS)).2.2.1); go_simp⟩) (by assumption) ?_
  try simp only [Act.put, List.setIfInBounds_toArray, List.set_cons_succ, List.set_cons_zero]
  refine wpAnyH_take (i := 4) (oi := ⟨some 8, _, _, _, _, _⟩) (v := .pointer (some ⟨w.heap.size, 3, none⟩)) rfl (by kernel_rfl) (by kernel_rfl) (by kernel_rfl) (fun _ _ _ h => h) (Or.inl ⟨by kernel_rfl, fun w hS => by go_simp⟩) (by assumption) ?_
  try simp only [Act.put, List.setIfInBounds_toArray, List.set_cons_succ, List.set_cons_zero]
  refine wpAnyH_take (i := 5) (oi := ⟨some 9, _, _, _, _, _⟩) (v := .int .i64 tr) rfl (by kernel_rfl) (by kernel_rfl) (by kernel_rfl) (fun _ _ _ h => h) (Or.inl ⟨by kernel_rfl, fun w hS => by have hc := ((cells10 (HG.out hS)).2.2.2.1); go_simp⟩) (by assumption) ?_
  try simp only [Act.put, List.setIfInBounds_toArray, List.set_cons_succ, List.set_cons_zero]
  refine wpAnyH_take (i := 6) (oi := ⟨some 10, _, _, _, _, _⟩) (v := .func (.func 61) #[] #[]) rfl (by kernel_rfl) (by kernel_rfl) (by kernel_rfl) (fun _ _ _ h => h) (Or.inl ⟨by kernel_rfl, fun w hS => by go_simp⟩) (by assumption) ?_
  try simp only [Act.put, List.setIfInBounds_toArray, List.set_cons_succ, List.set_cons_zero]
  refine wpAnyH_take (i := 7) (oi := ⟨some 11, _, _, _, _, _⟩) (v := .pointer (some ⟨w.heap.size, 4, none⟩)) rfl (by kernel_rfl) (by kernel_rfl) (by kernel_rfl) (fun _ _ _ h => h) (Or.inl ⟨by kernel_rfl, fun w hS => by go_simp⟩) (by assumption) ?_
  try simp only [Act.put, List.setIfInBounds_toArray, List.set_cons_succ, List.set_cons_zero]
  refine wpAnyH_take (i := 8) (oi := ⟨some 12, _, _, _, _, _⟩) (v := .bool wt) rfl (by kernel_rfl) (by kernel_rfl) (by kernel_rfl) (fun _ _ _ h => h) (Or.inl ⟨by kernel_rfl, fun w hS => by have hc := ((cells10 (HG.out hS)).2.2.2.2.1); go_simp⟩) (by assumption) ?_
  try simp only [Act.put, List.setIfInBounds_toArray, List.set_cons_succ, List.set_cons_zero]
  refine wpAnyH_take (i := 10) (oi := ⟨some 14, _, _, _, _, _⟩) (v := .func (.func 61) #[] #[]) rfl (by kernel_rfl) (by kernel_rfl) (by kernel_rfl) (fun _ _ _ h => h) (Or.inl ⟨by kernel_rfl, fun w hS => by go_simp⟩) (by assumption) ?_
  try simp only [Act.put, List.setIfInBounds_toArray, List.set_cons_succ, List.set_cons_zero]
  refine wpAnyH_take (i := 11) (oi := ⟨some 15, _, _, _, _, _⟩) (v := .pointer (some ⟨w.heap.size, 5, none⟩)) rfl (by kernel_rfl) (by kernel_rfl) (by kernel_rfl) (fun _ _ _ h => h) (Or.inl ⟨by kernel_rfl, fun w hS => by go_simp⟩) (by assumption) ?_
  try simp only [Act.put, List.setIfInBounds_toArray, List.set_cons_succ, List.set_cons_zero]
  refine wpAnyH_take (i := 12) (oi := ⟨some 16, _, _, _, _, _⟩) (v := .bool bk) rfl (by kernel_rfl) (by kernel_rfl) (by kernel_rfl) (fun _ _ _ h => h) (Or.inl ⟨by kernel_rfl, fun w hS => by have hc := ((cells10 (HG.out hS)).2.2.2.2.2.1); go_simp⟩) (by assumption) ?_
  try simp only [Act.put, List.setIfInBounds_toArray, List.set_cons_succ, List.set_cons_zero]
  refine wpAnyH_take (i := 14) (oi := ⟨some 18, _, _, _, _, _⟩) (v := .pointer (some ⟨w.heap.size, 6, none⟩)) rfl (by kernel_rfl) (by kernel_rfl) (by kernel_rfl) (fun _ _ _ h => h) (Or.inl ⟨by kernel_rfl, fun w hS => by go_simp⟩) (by assumption) ?_
  try simp only [Act.put, List.setIfInBounds_toArray, List.set_cons_succ, List.set_cons_zero]
  refine wpAnyH_take (i := 15) (oi := ⟨some 19, _, _, _, _, _⟩) (v := .int .i64 dn) rfl (by kernel_rfl) (by kernel_rfl) (by kernel_rfl) (fun _ _ _ h => h) (Or.inl ⟨by kernel_rfl, fun w hS => by have hc := ((cells10 (HG.out hS)).2.2.2.2.2.2.1); go_simp⟩) (by assumption) ?_
  try simp only [Act.put, List.setIfInBounds_toArray, List.set_cons_succ, List.set_cons_zero]
  refine wpAnyH_take (i := 16) (oi := ⟨some 20, _, _, _, _, _⟩) (v := .pointer (some ⟨w.heap.size, 7, none⟩)) rfl (by kernel_rfl) (by kernel_rfl) (by kernel_rfl) (fun _ _ _ h => h) (Or.inl ⟨by kernel_rfl, fun w hS => by go_simp⟩) (by assumption) ?_
  try simp only [Act.put, List.setIfInBounds_toArray, List.set_cons_succ, List.set_cons_zero]
  refine wpAnyH_take (i := 17) (oi := ⟨some 21, _, _, _, _, _⟩) (v := .int .i64 un) rfl (by kernel_rfl) (by kernel_rfl) (by kernel_rfl) (fun _ _ _ h => h) (Or.inl ⟨by kernel_rfl, fun w hS => by have hc := ((cells10 (HG.out hS)).2.2.2.2.2.2.2.1); go_simp⟩) (by assumption) ?_
  try simp only [Act.put, List.setIfInBounds_toArray, List.set_cons_succ, List.set_cons_zero]
  refine wpAnyH_take (i := 18) (oi := ⟨some 22, _, _, _, _, _⟩) (v := .pointer (some ⟨w.heap.size, 8, none⟩)) rfl (by kernel_rfl) (by kernel_rfl) (by kernel_rfl) (fun _ _ _ h => h) (Or.inl ⟨by kernel_rfl, fun w hS => by go_simp⟩) (by assumption) ?_
  try simp only [Act.put, List.setIfInBounds_toArray, List.set_cons_succ, List.set_cons_zero]
  refine wpAnyH_take (i := 19) (oi := ⟨some 23, _, _, _, _, _⟩) (v := .int .i64 my) rfl (by kernel_rfl) (by kernel_rfl) (by kernel_rfl) (fun _ _ _ h => h) (Or.inl ⟨by kernel_rfl, fun w hS => by have hc := ((cells10 (HG.out hS)).2.2.2.2.2.2.2.2.1); go_simp⟩) (by assumption) ?_
  try simp only [Act.put, List.setIfInBounds_toArray, List.set_cons_succ, List.set_cons_zero]
  refine wpAnyH_take (i := 20) (oi := ⟨some 24, _, _, _, _, _⟩) (v := .pointer (some ⟨w.heap.size, 9, none⟩)) rfl (by kernel_rfl) (by kernel_rfl) (by kernel_rfl) (fun _ _ _ h => h) (Or.inl ⟨by kernel_rfl, fun w hS => by go_simp⟩) (by assumption) ?_
  try simp only [Act.put, List.setIfInBounds_toArray, List.set_cons_succ, List.set_cons_zero]
  refine wpAnyH_take (i := 21) (oi := ⟨some 25, _, _, _, _, _⟩) (v := .int .i64 sq) rfl (by kernel_rfl) (by kernel_rfl) (by kernel_rfl) (fun _ _ _ h => h) (Or.inl ⟨by kernel_rfl, fun w hS => by have hc := ((cells10 (HG.out hS)).2.2.2.2.2.2.2.2.2); go_simp⟩) (by assumption) ?_
  try simp only [Act.put, List.setIfInBounds_toArray, List.set_cons_succ, List.set_cons_zero]
  refine wpAnyH_take (i := 22) (oi := ⟨some 26, _, _, _, _, _⟩) (v := .pointer (some ⟨w.heap.size, 0, none⟩)) rfl (by kernel_rfl) (by kernel_rfl) (by kernel_rfl) (fun _ _ _ h => h) (Or.inl ⟨by kernel_rfl, fun w hS => by go_simp⟩) (by assumption) ?_
  try simp only [Act.put, List.setIfInBounds_toArray, List.set_cons_succ, List.set_cons_zero]
  refine wpAnyH_take (i := 23) (oi := ⟨some 27, _, _, _, _, _⟩) (v := .slice a st.length c) rfl (by kernel_rfl) (by kernel_rfl) (by kernel_rfl) (fun _ _ _ h => h) (Or.inl ⟨by kernel_rfl, fun w hS => by have hc := ((cells10 (HG.out hS)).1); go_simp⟩) (by assumption) ?_
  try simp only [Act.put, List.setIfInBounds_toArray, List.set_cons_succ, List.set_cons_zero]
  refine wpAnyH_take (i := 24) (oi := ⟨some 28, _, _, _, _, _⟩) (v := .int .i64 st.length) rfl (by kernel_rfl) (by kernel_rfl) (by kernel_rfl) (fun _ _ _ h => h) (Or.inl ⟨by kernel_rfl, fun w hS => by go_simp⟩) (by assumption) ?_
  try simp only [Act.put, List.setIfInBounds_toArray, List.set_cons_succ, List.set_cons_zero]
  refine wpAnyH_ready (rs := [9]) (by kernel_rfl) (by simp) ?_
  refine AllReadyH.cons (o := _) rfl (fun K hK => ?_) AllReadyH.nil
  go_simp
  refine (f_bit _ _).mono ?_
  rintro e wx ⟨rfl, rfl⟩
  go_wp2_with fail
  refine hK.out _ _ hd (fun hHeld => ?_)
  clear hK K
  try simp only [Act.put, List.setIfInBounds_toArray, List.set_cons_succ, List.set_cons_zero]
  refine wpAnyH_ready (rs := [13]) (by kernel_rfl) (by simp) ?_
  refine AllReadyH.cons (o := _) rfl (fun K hK => ?_) AllReadyH.nil
  go_simp
  refine (f_bit _ _).mono ?_
  rintro e wx ⟨rfl, rfl⟩
  go_wp2_with fail
  refine hK.out _ _ hd (fun hHeld => ?_)
  clear hK K
  try simp only [Act.put, List.setIfInBounds_toArray, List.set_cons_succ, List.set_cons_zero]
  refine wpAnyH_take (i := 25) (oi := ⟨some 29, _, _, _, _, _⟩) (v := .agg #[.int .i64 ph, .int .i64 po, .int .i64 tr, .int .i64 (bitI wt), .int .i64 (bitI bk), .int .i64 dn, .int .i64 un, .int .i64 my, .int .i64 sq, .int .i64 st.length]) rfl (by kernel_rfl) (by kernel_rfl) (by kernel_rfl) (fun _ _ _ h => h) (Or.inl ⟨by kernel_rfl, fun w hS => by go_simp⟩) (by assumption) ?_
  try simp only [Act.put, List.setIfInBounds_toArray, List.set_cons_succ, List.set_cons_zero]
  have hst := store72_of (C := #[.int .i64 ph, .int .i64 po, .int .i64 tr, .int .i64 (bitI wt), .int .i64 (bitI bk), .int .i64 dn, .int .i64 un, .int .i64 my, .int .i64 sq, .int .i64 st.length]) HG2.out rfl rfl (ones10 _ _ _ _ _ _ _ _ _ _)
  refine wpAnyH_ready (rs := [26]) (by kernel_rfl) (by simp) ?_
  refine AllReadyH.cons (o := _) rfl (fun K hK => ?_) AllReadyH.nil
  go_simp
  have hS4 : Kept (fun k => k = w.heap.size + 1) w2 (w2.drew.setRow (w.heap.size + 1) #[.int .i64 ph, .int .i64 po, .int .i64 tr, .int .i64 (bitI wt), .int .i64 (bitI bk), .int .i64 dn, .int .i64 un, .int .i64 my, .int .i64 sq, .int .i64 st.length]) := hd.setRow' rfl _
  refine hK.out _ _ hS4 (fun hHeld => ?_)
  clear hK K hst
  try simp only [Act.put, List.setIfInBounds_toArray, List.set_cons_succ, List.set_cons_zero]
  refine wpAnyH_done (by kernel_rfl) ?_ _
  go_wp2_with fail
  refine bodyPost_ret (results_ten rfl _ _ _ (setRow_heap _ _ _ _ _ _ HG2.out) rfl rfl) rfl ⟨rfl, ?_⟩
  exact (KW.out.drew).setRow (by omega) _
end Go.Proofs.Ytklmhegmombegaa
