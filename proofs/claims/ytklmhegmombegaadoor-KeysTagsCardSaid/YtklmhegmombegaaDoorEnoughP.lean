/-
  Which witnesses sign; what a checkpoint's signatures say, in plain Lean; an append that has no room. Conditions: as each theorem says.
-/
import Derived.Test.YtklmhegmombegaaDoorBareA
set_option linter.unusedVariables false
set_option linter.unusedSimpArgs false
set_option maxRecDepth 100000
namespace Go.Proofs.YtklmhegmombegaaDoor
open Go Go.RowKit Plain
namespace Plain
def sgn (k : Ky) (n : Int) (root : List Nat) (j : Nat) : Int × List Nat := ((j : Int), kSign k (j : Int) n root)
def pickL (k : Ky) (n : Int) (root : List Nat) (who i : Nat) : List (Int × List Nat) := ((List.range i).filter fun j => who.testBit j).map (sgn k n root)
def sigsL (k : Ky) (n : Int) (root : List Nat) (who : Nat) (turn : Bool) (i : Nat) : List (Int × List Nat) := if turn = true then (pickL k n root who i).reverse else pickL k n root who i
theorem pickL_yes {k : Ky} {n : Int} {root : List Nat} {who i : Nat} (h : who.testBit i = true) : pickL k n root who (i + 1) = pickL k n root who i ++ [sgn k n root i] := by
  simp [pickL, List.range_succ, List.filter_append, h]
theorem pickL_no {k : Ky} {n : Int} {root : List Nat} {who i : Nat} (h : who.testBit i = false) : pickL k n root who (i + 1) = pickL k n root who i := by
  simp [pickL, List.range_succ, List.filter_append, h]
theorem sigsL_zero (k : Ky) (n : Int) (root : List Nat) (who : Nat) (turn : Bool) : sigsL k n root who turn 0 = [] := by cases turn <;> rfl
theorem sigsL_no {k : Ky} {n : Int} {root : List Nat} {who i : Nat} (turn : Bool) (h : who.testBit i = false) : sigsL k n root who turn (i + 1) = sigsL k n root who turn i := by
  unfold sigsL; rw [pickL_no h]
theorem sigsL_front {k : Ky} {n : Int} {root : List Nat} {who i : Nat} (h : who.testBit i = true) : sigsL k n root who true (i + 1) = sgn k n root i :: sigsL k n root who true i := by
  unfold sigsL; rw [pickL_yes h]; simp
theorem sigsL_back {k : Ky} {n : Int} {root : List Nat} {who i : Nat} (h : who.testBit i = true) : sigsL k n root who false (i + 1) = sigsL k n root who false i ++ [sgn k n root i] := by
  unfold sigsL; rw [pickL_yes h]; simp
theorem pickL_mem {k : Ky} {n : Int} {root : List Nat} {who i : Nat} {s : Int × List Nat} (h : s ∈ pickL k n root who i) : ∃ j, j < i ∧ s = sgn k n root j := by
  obtain ⟨j, hj, rfl⟩ := List.mem_map.1 h
  exact ⟨j, by simpa using (List.mem_filter.1 hj).1, rfl⟩
theorem sigsL_mem {k : Ky} {n : Int} {root : List Nat} {who i : Nat} {turn : Bool} {s : Int × List Nat} (h : s ∈ sigsL k n root who turn i) : ∃ j, j < i ∧ s = sgn k n root j := by
  cases turn with
  | false => exact pickL_mem h
  | true => exact pickL_mem (List.mem_reverse.1 h)
theorem sigsL_len (k : Ky) (n : Int) (root : List Nat) (who : Nat) (turn : Bool) (i : Nat) : (sigsL k n root who turn i).length ≤ i := by
  have h : (pickL k n root who i).length ≤ i := by
    simp only [pickL, List.length_map]
    have := List.length_filter_le (fun j => who.testBit j) (List.range i)
    simpa using this
  cases turn <;> simpa [sigsL] using h
theorem pickL_nodup (k : Ky) (n : Int) (root : List Nat) (who i : Nat) : ((pickL k n root who i).map (·.1)).Nodup := by
  have : (pickL k n root who i).map (·.1) = ((List.range i).filter fun j => who.testBit j).map fun (j : Nat) => (j : Int) := by simp [pickL, sgn, Function.comp_def]
  rw [this]
  refine List.Pairwise.map _ (fun a b h => ?_) (List.Pairwise.filter _ List.nodup_range)
  intro e
  exact h (by omega)
theorem sigsL_nodup (k : Ky) (n : Int) (root : List Nat) (who : Nat) (turn : Bool) (i : Nat) : ((sigsL k n root who turn i).map (·.1)).Nodup := by
  cases turn with
  | false => exact pickL_nodup k n root who i
  | true =>
    show (((pickL k n root who i).reverse).map (·.1)).Nodup
    rw [List.map_reverse]
    exact List.pairwise_reverse.2 ((pickL_nodup k n root who i).imp fun h => Ne.symm h)
theorem getD_set_ne {l : List Bool} {i j : Nat} (h : i ≠ j) (b : Bool) : (l.set i b).getD j false = l.getD j false := by
  simp [List.getD_eq_getElem?_getD, List.getElem?_set, h]
theorem getD_set_eq {l : List Bool} {i : Nat} (h : i < l.length) (b : Bool) : (l.set i b).getD i false = b := by
  simp [List.getD_eq_getElem?_getD, List.getElem?_set, h]
theorem goodS_of {k : Ky} {n : Int} {root : List Nat} : ∀ (l : List (Int × List Nat)) (had : List Bool), (∀ s ∈ l, 0 ≤ s.1 ∧ s.1 < k.wits.length ∧ kSign k s.1 n root = s.2 ∧ had.getD s.1.toNat false = false) → (l.map (·.1)).Nodup → goodS k n root had l = true
  | [], _, _, _ => rfl
  | s :: l, had, h, hn => by
    obtain ⟨h0, h1, h2, h3⟩ := h s (by simp)
    have hw : Re.wi s.1 0 ((k.wits.length : Int) - 1) = true := Re.wi_true h0 (by omega)
    simp only [goodS, hw, h3, h2, decide_true, Bool.not_false, Bool.and_self, Bool.true_and]
    simp only [List.map_cons, List.nodup_cons] at hn
    refine goodS_of l _ (fun t ht => ?_) hn.2
    obtain ⟨g0, g1, g2, g3⟩ := h t (by simp [ht])
    refine ⟨g0, g1, g2, ?_⟩
    rw [getD_set_ne ?_, g3]
    intro e
    have : s.1 = t.1 := by omega
    exact hn.1 (List.mem_map.2 ⟨t, ht, this.symm⟩)
theorem goodS_had {k : Ky} {n : Int} {root : List Nat} (hk : k.wits.length ≤ 4) : ∀ (l : List (Int × List Nat)) (had : List Bool), had.length = 4 → (∃ s ∈ l, 0 ≤ s.1 ∧ had.getD s.1.toNat false = true) → goodS k n root had l = false
  | [], _, _, h => by simp at h
  | s :: l, had, hl, ⟨t, ht, h0, h1⟩ => by
    rcases List.mem_cons.1 ht with rfl | ht
    · simp only [goodS, h1, Bool.not_true, Bool.and_false, Bool.false_and]
    · cases hw : Re.wi s.1 0 ((k.wits.length : Int) - 1) with
      | false => simp only [goodS, hw, Bool.false_and]
      | true =>
        have hb := wi_le hw
        have := goodS_had (n := n) (root := root) hk l (had.set s.1.toNat true) (by simp [hl]) ⟨t, ht, h0, by
          by_cases e : s.1.toNat = t.1.toNat
          · rw [e]; exact getD_set_eq (by omega) true
          · rw [getD_set_ne e]; exact h1⟩
        simp only [goodS, this, Bool.and_false]
theorem goodS_twice {k : Ky} {n : Int} {root : List Nat} (hk : k.wits.length ≤ 4) (s : Int × List Nat) (l : List (Int × List Nat)) : goodS k n root had0 (s :: l ++ [s]) = false := by
  rw [List.cons_append]
  cases hw : Re.wi s.1 0 ((k.wits.length : Int) - 1) with
  | false => simp only [goodS, hw, Bool.false_and]
  | true =>
    have hb := wi_le hw
    have := goodS_had (n := n) (root := root) hk (l ++ [s]) (had0.set s.1.toNat true) (by simp [had0]) ⟨s, by simp, hb.1, getD_set_eq (by show _ < 4; omega) true⟩
    simp only [goodS, this, Bool.and_false]
theorem goodS_other {k : Ky} {n : Int} {root : List Nat} (i : Int) (t : List Nat) (l : List (Int × List Nat)) (had : List Bool) (h : kSign k i n root ≠ t) : goodS k n root had ((i, t) :: l) = false := by
  simp only [goodS, decide_eq_false h, Bool.false_and, Bool.and_false]
theorem sigsL_good {k : Ky} {n : Int} {root : List Nat} {who : Nat} {turn : Bool} : goodS k n root had0 (sigsL k n root who turn k.wits.length) = true := by
  refine goodS_of _ _ (fun s hs => ?_) (sigsL_nodup k n root who turn _)
  obtain ⟨j, hj, rfl⟩ := sigsL_mem hs
  refine ⟨by simp [sgn], by simp [sgn, hj], rfl, ?_⟩
  simp only [had0, sgn, Int.toNat_natCast]
  rcases j with _ | _ | _ | _ | j <;> simp [List.getD_eq_getElem?_getD]
theorem check_sigs {k : Ky} {n : Int} {root : List Nat} {who : Nat} {turn : Bool} (hm : kMay k = true) (h0 : 0 ≤ n) (h4 : n ≤ 400) : kCheck k n root (sigsL k n root who turn k.wits.length) = if ((sigsL k n root who turn k.wits.length).length : Int) < k.need then 8 else 0 := by
  have hw : Re.wi n 0 400 = true := Re.wi_true h0 h4
  unfold kCheck
  rw [hm, hw, sigsL_good]; rfl
/-- The first byte turned. -/
def bump (t : List Nat) : List Nat := t.set 0 ((t.getD 0 0 + 1) % 256)
theorem bump_ne {t : List Nat} (hl : t.length = 32) (h8 : All8 t) : t ≠ bump t := by
  intro e
  have h0 : t.getD 0 0 < 256 := h8.getD 0
  have : t.getD 0 0 = (bump t).getD 0 0 := by rw [← e]
  rw [bump] at this
  rw [List.getD_eq_getElem?_getD, List.getD_eq_getElem?_getD, List.getElem?_set] at this
  simp only [if_true, show 0 < t.length by omega, Option.getD_some] at this
  rw [← List.getD_eq_getElem?_getD] at this
  omega
theorem bump_all {t : List Nat} (h8 : All8 t) : All8 (bump t) := by
  intro x hx
  rcases List.mem_or_eq_of_mem_set hx with h | rfl
  · exact h8 x h
  · omega
theorem bump_len (t : List Nat) : (bump t).length = t.length := by simp [bump]
end Plain
section
variable {P : Program} (w : World)
/-- An append to a slice that has no room: the new row is new. -/
theorem run_append_full (base : Nat) (t tx ty e : TypeId) (i : TypeInfo) (z : Value) (size bytes : Nat) (ht : P.underlying t = some (.slice e)) (hi : P.info? e = some i) (hz : i.zero = some z)
    (hsize : i.size = size) (hby : i.bytes = bytes) (hzs : z.cells.size = size)
    (g n cap : Nat) (xs : List Value) (hown : Buf w base e size (.slice (some ⟨g, 0, none⟩) n cap) n xs)
    (x : Value) (m : Nat) (news : List Value) (hs : Src P size tx x m news w) (hfull : cap < n + m)
    (h63 : n + m ≤ maxLen) (hbytes : (n + m) * bytes ≤ 140737488355328) (hbase : base ≤ w.heap.size) :
    ∃ v' w', (Builtin.append_ #[t, tx] ty #[.slice (some ⟨g, 0, none⟩) n cap, x]).run P w = .ok v' w' ∧ Buf w' base e size v' (n + m) (xs ++ news) ∧ Kept (fun _ => False) w w' ∧ v'.ownBlock = some w.heap.size := by
  subst hsize
  subst hby
  have hl := hs.newsLen
  have hsmall : n + m ≤ 9223372036854775807 := by simp only [maxLen] at h63; omega
  have hlen : (xs ++ news).length = (n + m) * i.size := by rw [List.length_append, hown.1, hl, Nat.add_mul]
  have holds : (Builtin.firstCells i.size n (.slice (some ⟨g, 0, none⟩) n cap)).run P w.drew = .ok xs.toArray w.drew :=
    run_firstCells_some w.drew i.size n ⟨g, 0, none⟩ n cap xs hown.1 (by simpa using hown.cells (g := g) rfl)
  have hr := run_append_grow_src (P := P) w t tx ty e i z ht hi hz (some ⟨g, 0, none⟩) n cap xs holds x m news hs (by omega) (by omega) (growslice_fits (by omega) hbytes)
  have hge := grownCap_ge w (n + m) cap e
  have hcm : grownCap w (n + m) cap e ≤ maxLen := grownCap_le_maxLen w (n + m) cap e h63
  refine ⟨_, _, hr, ⟨hlen, .inr ⟨w.heap.size, _, _, rfl, hbase, heap_alloc_new w.drew _, hge, hcm, ?_, ?_⟩⟩, ((Kept.refl _ w).drew.alloc _), rfl⟩
  · simp only [Array.size_append, List.size_toArray, size_zeroCells, hzs, List.length_append, hown.1, hl, ← Nat.add_mul]
    refine Nat.mul_le_mul_right _ ?_
    omega
  · simp only [Array.toList_append]
    rw [← hlen]
    exact List.take_left
/-- As one step of a region that draws its order. -/
theorem step_append_full {w : World} {ops : Array Oper} {o : Oper} {a : Act} {K : Act → World → Prop} {Q : Exit → Act → World → Prop} {E : Prop} (hgd : o.guard = none) (s x : Operand) (t tx : TypeId)
    (ho : o.op = .call { callee := .builtin .append, args := #[s, x], argTypes := #[t, tx] })
    (base : Nat) (e : TypeId) (i : TypeInfo) (z : Value) (size bytes : Nat) (ht : P.underlying t = some (.slice e)) (hi : P.info? e = some i) (hz : i.zero = some z)
    (hsize : i.size = size) (hby : i.bytes = bytes) (hzs : z.cells.size = size)
    (g n cap : Nat) (xs : List Value) (hs : a.eval s = .slice (some ⟨g, 0, none⟩) n cap) (hown : Buf w base e size (.slice (some ⟨g, 0, none⟩) n cap) n xs)
    (xv : Value) (m : Nat) (news : List Value) (hx : a.eval x = xv) (hsrc : Src P size tx xv m news w) (hfull : cap < n + m)
    (h63 : n + m ≤ maxLen) (hbytes : (n + m) * bytes ≤ 140737488355328) (hbase : base ≤ w.heap.size)
    (h : ∀ v' w', Buf w' base e size v' (n + m) (xs ++ news) → Kept (fun _ => False) w w' → v'.ownBlock = some w.heap.size → K (a.put o.dst v') w') : if Region.wanted o (yielded ops a.tmps) = true then Oper.wp P o a w K Q else E := by
  have hw : Region.wanted o (yielded ops a.tmps) = true := by simp [Region.wanted, hgd]
  rw [if_pos hw]
  obtain ⟨v', w', hr, h2, h3, h4⟩ := run_append_full (P := P) w base t tx o.type e i z size bytes ht hi hz hsize hby hzs g n cap xs hown xv m news hsrc hfull h63 hbytes hbase
  unfold Oper.wp execOp
  simp only [ho, resolve, invoke, builtin, Sem.run_bind, Sem.run_pure, Result.andThen_ok, List.map_toArray, List.map_cons, List.map_nil, hs, hx, hr]
  exact h v' w' h2 h3 h4
end
end Go.Proofs.YtklmhegmombegaaDoor
