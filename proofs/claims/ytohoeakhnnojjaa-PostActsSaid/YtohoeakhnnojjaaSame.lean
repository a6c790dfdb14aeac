/-
  When two calls are equal; two lists that are the same. Conditions: as each theorem says.
-/
import Derived.Test.YtohoeakhnnojjaaList
namespace Go.Proofs.Ytohoeakhnnojjaa
open Go Go.RowKit Go.Conc

theorem keyType28 : Try.prog.keyTypeAt 3 28 = true := by kernel_rfl
/-- Two calls compared. -/
theorem eq28 {C D : Array Value} (hC : Callish C) (hD : Callish D) : ∃ r : Bool, (∀ w, (Op.equalIn 10000 28 (.agg C) (.agg D)).run Try.prog w = .ok r w) ∧ (C = D → r = true) := by
  obtain ⟨L1, h1⟩ := hC.lits
  obtain ⟨L2, h2⟩ := hD.lits
  have fm : ∀ {E : Array Value}, E.size = 41 → (Value.agg E).formed Try.prog 28 = true := fun {E} hE => by
    have hs : Try.prog.cellsOf 28 = 41 := by kernel_rfl
    simp [Value.formed, Try.underlying28, hs, hE]
  have key := run_equalIn_deep (P := Try.prog) 9997 3 28 keyType28
  obtain ⟨r0, hr0, hiff⟩ := key default 3 3 (.agg C) (.agg D) L1 L2 (fm hC.size) (fm hD.size) h1 h2
  refine ⟨r0, fun w => ?_, fun e => hiff.2 ?_⟩
  · obtain ⟨r, hr, hiff'⟩ := key w 3 3 (.agg C) (.agg D) L1 L2 (fm hC.size) (fm hD.size) h1 h2
    rw [hr]
    have : r = r0 := by rw [Bool.eq_iff_iff, hiff', hiff]
    rw [this]
  · subst e
    rw [h1] at h2
    exact Option.some.inj h2
/-- A call is equal to itself. -/
theorem eq28_self {C : Array Value} (hC : Callish C) (w : World) : (Op.equalIn 10000 28 (.agg C) (.agg C)).run Try.prog w = .ok true w := by
  obtain ⟨r, h1, h2⟩ := eq28 hC hC
  rw [h1, h2 rfl]

theorem flat_length {q : List (Array Value)} (hq : ∀ C ∈ q, Callish C) : (flat q).length = q.length * 41 := by
  induction q with
  | nil => rfl
  | cons C q ih =>
    have h1 := (hq C (by simp)).size
    have h2 := ih fun D hD => hq D (by simp [hD])
    simp only [flat, List.flatMap_cons, List.length_append, Array.length_toList, List.length_cons] at h2 ⊢
    rw [h1, h2]; omega
/-- The k-th call's cells. -/
theorem flat_get {q : List (Array Value)} (hq : ∀ C ∈ q, Callish C) {k : Nat} {C : Array Value} (hk : q[k]? = some C) (j : Nat) (v : Value) (hv : C.toList[j]? = some v) : (flat q)[k * 41 + j]? = some v := by
  induction q generalizing k with
  | nil => cases hk
  | cons D q ih =>
    have h1 := (hq D (by simp)).size
    simp only [flat, List.flatMap_cons]
    cases k with
    | zero =>
      simp at hk; subst hk
      rw [Nat.zero_mul, Nat.zero_add, List.getElem?_append_left (List.getElem?_eq_some_iff.1 hv).1]; exact hv
    | succ k =>
      rw [List.getElem?_append_right (by simp [h1]; omega)]
      have : (k + 1) * 41 + j - D.toList.length = k * 41 + j := by simp [h1]; omega
      rw [this]
      exact ih (fun E hE => hq E (by simp [hE])) (by simpa using hk)
/-- An element of a slice of calls, as a range. -/
theorem Rd.range {w : World} {q : List (Array Value)} (hq : ∀ C ∈ q, Callish C) {b o : Nat} (h : ∀ (j : Nat) (u : Value), (flat q)[j]? = some u → w.cell? ⟨b, o + j, none⟩ = some u) {k : Nat} {C : Array Value} (hk : q[k]? = some C) : w.rangeAt b (o + k * 41) C.toList := by
  intro j v hv
  rw [Nat.add_assoc]
  exact h _ _ (flat_get hq hk j v hv)

/-- A call's variable is read whole, in a region that draws its order and only reads. -/
theorem quiet_load28 {ops : Array Oper} {rest : List Oper} {dst : Option Tmp} {ty : TypeId} {pos : String} {aft : Array Edge} {gd : Option (Nat × Bool)} {x : Operand} {a : Act} {S : World → Prop} {Q : Act → Prop} {g o : Nat} {C : Array Value}
    (hw : Region.wanted ⟨dst, .load 28 x, ty, pos, aft, gd⟩ (yielded ops a.tmps) = true) (hx : a.eval x = .pointer (some ⟨g, o, none⟩)) (hr : ∀ w, S w → w.rangeAt g o C.toList) (hC : C.size = 41) (h : wpQuiet Try.prog ops S Q rest (a.put dst (.agg C))) :
    wpQuiet Try.prog ops S Q (⟨dst, .load 28 x, ty, pos, aft, gd⟩ :: rest) a := by
  refine wpQuiet_step fun K hK => ?_
  rw [if_pos hw]
  refine ⟨.agg C, fun w hw => ?_, hK _ h⟩
  have hl := run_loadAt_mid (P := Try.prog) w g o 28 C.toList _ (hr w hw) Try.underlying28 rfl (by rw [Try.isz28]; simp [hC])
  rw [Array.toArray_toList] at hl
  unfold Oper.quietAt execOp
  simp only [hx, Sem.run_bind, hl, Result.andThen_ok, Sem.run_pure]
  exact ⟨rfl, rfl⟩

set_option maxHeartbeats 4000000 in
theorem f_same (w : World) (q : List (Array Value)) (hq : ∀ C ∈ q, Callish C) (hm : q.length ≤ 1000000) (v1 v2 : Value) (h1 : Rd w 41 v1 q.length (flat q)) (h2 : Rd w 41 v2 q.length (flat q)) :
    Calls Try.prog 21 #[v1, v2] w fun e w' => e = .returned (.bool true) ∧ ∃ m, w' = w.drewN m := by
  obtain ⟨a1, c1, rfl⟩ : ∃ a c, v1 = .slice a q.length c := by obtain ⟨_, a, c, e, _⟩ := h1; exact ⟨a, c, e⟩
  obtain ⟨a2, c2, rfl⟩ : ∃ a c, v2 = .slice a q.length c := by obtain ⟨_, a, c, e, _⟩ := h2; exact ⟨a, c, e⟩
  go_enter Try.func21, Try.ntmps21
  go_wp2_with fail
  go_loopw [5] (fun i wr => ∃ k : Nat, k ≤ q.length ∧ i = .int .i64 k ∧ ∃ m, wr = w.drewN m) (fun i _ => q.length - (intOf i).toNat)
  case atStart => exact ⟨0, Nat.zero_le _, rfl, 0, rfl⟩
  case round =>
    obtain ⟨k, hk, rfl, m0, rfl⟩ := hrel
    by_cases hlt : k < q.length
    · obtain ⟨b1, o1, _, e1, r1⟩ := h1.addr (by omega)
      obtain ⟨b2, o2, _, e2, r2⟩ := h2.addr (by omega)
      simp only [Value.slice.injEq, true_and] at e1 e2
      obtain ⟨rfl, rfl⟩ := e1
      obtain ⟨rfl, rfl⟩ := e2
      have hC : Callish q[k] := hq _ (List.getElem_mem hlt)
      have g1 := Rd.range hq r1 (List.getElem?_eq_getElem hlt)
      have g2 := Rd.range hq r2 (List.getElem?_eq_getElem hlt)
      have tr : ∀ {b o : Nat}, w.rangeAt b o q[k].toList → ∀ w', (∃ n, w' = (w.drewN m0).drewN n) → w'.rangeAt b o q[k].toList := fun {b o} h w' hw j v hv => by
        obtain ⟨n, rfl⟩ := hw
        exact h j v hv
      have G1 := tr g1
      have G2 := tr g2
      have HE := eq28_self hC
      generalize q[k] = C at hC G1 G2 HE
      clear h1 h2 r1 r2 g1 g2 tr
      go_wp2_with fail
      refine wp_region_quiet_lit (by kernel_rfl) (by kernel_rfl) ?_
      repeat (first | ((with_reducible refine quiet_load28 ?_ ?_ G1 hC.size ?_); rfl; rfl) | ((with_reducible refine quiet_load28 ?_ ?_ G2 hC.size ?_); rfl; rfl) | quiet_step (fail))
      refine wpQuiet_nil ?_
      intro _ hw'
      obtain ⟨nq, hw''⟩ := hw'
      subst hw''
      clear HE G1 G2
      go_wp2_with fail
      go_roundw
      case rel => exact ⟨k + 1, by omega, by go_num, m0 + nq, rfl⟩
      case measure => simp [intOf]; omega
    · go_wp2_with fail
      go_ret
      exact ⟨rfl, m0, rfl⟩
theorem f_same_kept (w : World) (q : List (Array Value)) (hq : ∀ C ∈ q, Callish C) (hm : q.length ≤ 1000000) (v1 v2 : Value) (h1 : Rd w 41 v1 q.length (flat q)) (h2 : Rd w 41 v2 q.length (flat q)) :
    Calls Try.prog 21 #[v1, v2] w fun e w' => e = .returned (.bool true) ∧ Kept (fun _ => False) w w' := by
  refine (f_same w q hq hm v1 v2 h1 h2).mono ?_
  rintro e w' ⟨rfl, m, rfl⟩
  exact ⟨rfl, (Kept.refl _ w).drewN m⟩
end Go.Proofs.Ytohoeakhnnojjaa
