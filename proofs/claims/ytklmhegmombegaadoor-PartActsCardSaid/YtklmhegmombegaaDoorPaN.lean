/-
  A call is equal to itself; two participants beside each other. Conditions: as each theorem says.
-/
import Derived.Test.YtklmhegmombegaaDoorPaM
import Derived.MapViews
set_option linter.unusedVariables false
set_option linter.unusedSimpArgs false
set_option maxRecDepth 100000
namespace Go.Proofs.YtklmhegmombegaaDoor
open Go Go.RowKit Plain
open Go.Proofs.YtklmhegmombegaaDoor.Re (wi)
theorem mapM_isSome {α β : Type} {f : α → Option β} : ∀ {l : List α}, (∀ x ∈ l, (f x).isSome = true) → (l.mapM f).isSome = true
  | [], _ => by simp
  | x :: l, h => by
    have h1 := h x (by simp)
    have h2 := mapM_isSome (l := l) fun y hy => h y (by simp [hy])
    obtain ⟨a, ha⟩ := Option.isSome_iff_exists.1 h1
    obtain ⟨b, hb⟩ := Option.isSome_iff_exists.1 h2
    simp [List.mapM_cons, ha, hb]
theorem kl26 (d : Nat) {t : List Nat} (hl : t.length = 32) (h8 : All8 t) : (Tryd.prog.keyLits (d + 2) 26 (bys t)).isSome = true := by
  have c1 : Tryd.prog.cellsOf 26 = 32 := by kernel_rfl
  have c2 : Tryd.prog.cellsOf 5 = 1 := by kernel_rfl
  unfold Program.keyLits
  rw [Tryd.underlying26]
  simp only
  rw [if_pos (by rw [bys_len, hl, c1]), Option.isSome_map]
  refine mapM_isSome fun i hi => ?_
  have hi' : i < t.length := by rw [hl]; simpa using hi
  rw [c2, Nat.mul_one]
  have e : ((bys t).drop i).take 1 = [.int .u8 ((t[i] : Nat) : Int)] := by
    have hb : i < (bys t).length := by rw [bys_len]; exact hi'
    rw [List.drop_eq_getElem_cons hb]
    simp [bys]
  rw [e]
  have hx : t[i] < 256 := h8 _ (List.getElem_mem hi')
  have hwf : (Lit.int .u8 ((t[i] : Nat) : Int)).wf = true := by
    have e1 : IntKind.u8.min = 0 := rfl
    have e2 : IntKind.u8.max = 255 := rfl
    simp [Lit.wf, e1, e2]; omega
  unfold Program.keyLits
  rw [Tryd.underlying5]
  simp [hwf]
theorem kl59 {c : Cl} (h : ClFit c) : (Tryd.prog.keyLits 3 59 (clC c).toList).isSome = true := by
  have c1 : Tryd.prog.cellsOf 59 = 41 := by kernel_rfl
  have c3 : Tryd.prog.cellsOf 3 = 1 := by kernel_rfl
  have c4 : Tryd.prog.cellsOf 4 = 1 := by kernel_rfl
  have c26 : Tryd.prog.cellsOf 26 = 32 := by kernel_rfl
  have e9 : (clC c).toList = [.int .i64 c.saga, .int .i64 c.step, .int .i64 c.try_, .bool c.back, .int .i64 c.part, .int .i64 c.kind, .bool c.answer, .bool c.good, .int .i64 c.epoch] ++ bys c.tag := by simp [clC]
  have hlen : (clC c).toList.length = 41 := by rw [Array.length_toList, clC_size h.tagl]
  unfold Program.keyLits
  rw [Tryd.underlying59]
  simp only
  rw [if_pos ⟨by rw [hlen, c1], by kernel_rfl⟩, Option.isSome_map]
  refine mapM_isSome fun f hf => ?_
  simp only [List.mem_cons, List.not_mem_nil, or_false] at hf
  have ht : ((bys c.tag).take 32) = bys c.tag := List.take_of_length_le (by rw [bys_len, h.tagl]; exact Nat.le_refl _)
  rcases hf with rfl | rfl | rfl | rfl | rfl | rfl | rfl | rfl | rfl | rfl
  all_goals simp only [c3, c4, c26, e9, List.cons_append, List.nil_append, List.drop_zero, List.drop_succ_cons, List.take_succ_cons, List.take_zero, ht]
  · rw [kl3 h.saga 1]; rfl
  · rw [kl3 h.step 1]; rfl
  · rw [kl3 h.try_ 1]; rfl
  · rw [kl4 _ 1]; rfl
  · rw [kl3 h.part 1]; rfl
  · rw [kl3 h.kind 1]; rfl
  · rw [kl4 _ 1]; rfl
  · rw [kl4 _ 1]; rfl
  · rw [kl3 h.epoch 1]; rfl
  · exact kl26 0 h.tagl h.tag8
theorem keyType59 : Tryd.prog.keyTypeAt 3 59 = true := by kernel_rfl
/-- A call is equal to itself. -/
theorem eq59_self {c : Cl} (h : ClFit c) (w : World) : (Op.equalIn 10000 59 (.agg (clC c)) (.agg (clC c))).run Tryd.prog w = .ok true w := by
  obtain ⟨L, hL⟩ := Option.isSome_iff_exists.1 (kl59 h)
  have fm : (Value.agg (clC c)).formed Tryd.prog 59 = true := by
    have c1 : Tryd.prog.cellsOf 59 = 41 := by kernel_rfl
    simp [Value.formed, Tryd.underlying59, c1, clC_size h.tagl]
  obtain ⟨r, hr, hiff⟩ := run_equalIn_deep (P := Tryd.prog) 9997 3 59 keyType59 w 3 3 (.agg (clC c)) (.agg (clC c)) L L fm fm hL hL
  rw [hr, hiff.2 rfl]
theorem zCl_fit : ClFit zCl := ⟨rfl, z32n_all, ⟨by decide, by decide⟩, ⟨by decide, by decide⟩, ⟨by decide, by decide⟩, ⟨by decide, by decide⟩, ⟨by decide, by decide⟩, ⟨by decide, by decide⟩⟩
theorem take_fit {k : Ky} {n ep : Int} {l : List En} {c : Cl} {rf : Bool} (hc : ClFit c) (he : W64 ep) : ClFit (pTake k n ep l c rf).1 := by
  unfold pTake
  split
  · exact ⟨tagged_len _ _, kRec_all _ _, hc.saga, hc.step, hc.try_, hc.part, hc.kind, he⟩
  · exact zCl_fit
/-! ## What a call leaves of other sagas -/
theorem had_snoc (l : List En) (e : En) (k : Int × Int × Bool) : hadE (l ++ [e]) k = (hadE l k).or (if e.key = k then some e.good else none) := by
  unfold hadE
  rw [List.find?_append]
  cases l.find? (fun e => e.key == k) with
  | some x => rfl
  | none =>
    by_cases h : e.key = k <;> simp [List.find?_cons, h]
theorem says_len (l : List En) (c : Cl) (rf : Bool) : (pSays l c rf).2.length ≤ l.length + 1 := by
  unfold pSays
  split
  · simp
  · split <;> simp
theorem take_grow (k : Ky) (n ep : Int) (l : List En) (c : Cl) (rf : Bool) : (pTake k n ep l c rf).2.2.length ≤ l.length + 1 := by
  unfold pTake
  split
  · exact says_len l c rf
  · simp
theorem says_other {l : List En} {c : Cl} {rf : Bool} {s t : Int} {b : Bool} (h : c.saga ≠ s) : hadE (pSays l c rf).2 (s, t, b) = hadE l (s, t, b) := by
  unfold pSays
  split
  · rfl
  · split
    · rw [had_snoc, if_neg (by simp [En.key]; intro e; exact absurd e h)]; simp
    · rfl
theorem take_other {k : Ky} {n ep : Int} {l : List En} {c : Cl} {rf : Bool} {s t : Int} {b : Bool} (h : c.saga ≠ s) : hadE (pTake k n ep l c rf).2.2 (s, t, b) = hadE l (s, t, b) := by
  unfold pTake
  split
  · exact says_other h
  · rfl
/-- Two memories that say the same of a saga. -/
def Alike (s : Int) (l m : List En) : Prop := ∀ t b, hadE l (s, t, b) = hadE m (s, t, b)
theorem says_alike {l m : List En} {c : Cl} {rf : Bool} (h : Alike c.saga l m) : (pSays l c rf).1 = (pSays m c rf).1 ∧ Alike c.saga (pSays l c rf).2 (pSays m c rf).2 := by
  have hu : pUndone l c = pUndone m c := by unfold pUndone; rw [h]
  have hg : pGood l c rf = pGood m c rf := by unfold pGood; rw [hu]
  have hn : pNotes l c rf = pNotes m c rf := by unfold pNotes; rw [hu, hg]
  unfold pSays
  rw [h c.step c.back, hg, hn]
  split
  · exact ⟨rfl, h⟩
  · refine ⟨rfl, ?_⟩
    split
    · intro t b
      rw [had_snoc, had_snoc, h t b]
    · exact h
theorem take_alike {k : Ky} {n ep : Int} {l m : List En} {c : Cl} {rf : Bool} (h : Alike c.saga l m) : (pTake k n ep l c rf).1 = (pTake k n ep m c rf).1 ∧ (pTake k n ep l c rf).2.1 = (pTake k n ep m c rf).2.1 ∧ Alike c.saga (pTake k n ep l c rf).2.2 (pTake k n ep m c rf).2.2 := by
  obtain ⟨h1, h2⟩ := says_alike (rf := rf) h
  unfold pTake
  split
  · exact ⟨by rw [h1], rfl, h2⟩
  · exact ⟨rfl, rfl, h⟩
/-! ## Two participants -/
structure Two (w1 w : World) (ga ra gb rb : Nat) (pv wv sa sb : Value) (k : Ky) (n : Int) (la lb : List En) : Prop where
  a : Pa w1 w ga ra pv wv sa k n 0 la
  b : Pa w1 w gb rb pv wv sb k n 0 lb
  gg : ga ≠ gb
  rr : ra ≠ rb
  vv : ∀ i, sa.ownBlock = some i → sb.ownBlock ≠ some i
section
variable {w1 w w' : World} {ga ra gb rb : Nat} {pv wv sa sb : Value} {k : Ky} {n : Int} {la lb : List En}
theorem Pa.mapNe {w0 : World} {g r : Nat} {sv : Value} {ep : Int} {l : List En} (h : Pa w0 w g r pv wv sv k n ep l) {j : Nat} {ens : Array MapEntry} {cl : Nat} (hj : w.heap[j]? = some (.map ens cl)) (hr : j ≠ r) : ¬ PaS g r sv j := by
  rintro (rfl | rfl | hi)
  · have := hj.symm.trans h.blk; simp at this
  · exact hr rfl
  · rcases h.buf.2 with ⟨rfl, _⟩ | ⟨i, cap, cur, rfl, _, hg, _⟩
    · simp [Value.ownBlock] at hi
    · simp [Value.ownBlock] at hi
      subst hi
      have := hj.symm.trans hg
      simp at this
theorem Two.disj (h : Two w1 w ga ra gb rb pv wv sa sb k n la lb) : ∀ i, PaS ga ra sa i → ¬ PaS gb rb sb i := by
  rintro i (rfl | rfl | hi)
  · rintro (e | e | e)
    · exact h.gg e
    · have := h.b.map
      rw [← e] at this
      have := this.symm.trans h.a.blk; simp at this
    · exact h.b.buf.ne_of_type h.a.blk (by decide) e
  · exact h.b.mapNe h.a.map h.rr
  · rintro (e | e | e)
    · subst e; exact h.a.buf.ne_of_type h.b.blk (by decide) hi
    · subst e; exact h.a.mapNe h.b.map (fun e => h.rr e.symm) (.inr (.inr hi))
    · exact h.vv i hi e
theorem Two.same (h : Two w1 w ga ra gb rb pv wv sa sb k n la lb) (kk : Kept (fun _ => False) w w') : Two w1 w' ga ra gb rb pv wv sa sb k n la lb := ⟨h.a.same kk, h.b.same kk, h.gg, h.rr, h.vv⟩
/-- The first one has moved on; the second one. -/
theorem Two.movA (h : Two w1 w ga ra gb rb pv wv sa sb k n la lb) {sa' : Value} {la' : List En} (ha : Pa w1 w' ga ra pv wv sa' k n 0 la') (kk : Kept (PaS ga ra sa) w w') (ho : sa'.ownBlock = sa.ownBlock ∨ ∀ i, sa'.ownBlock = some i → w.heap.size ≤ i) : Two w1 w' ga ra gb rb pv wv sa' sb k n la' lb :=
  ⟨ha, h.b.next kk (fun i hi hs => h.disj i hs hi) (fun i _ hs => h.a.loS i hs), h.gg, h.rr, fun i hi hb => by
    rcases ho with ho | ho
    · exact h.vv i (ho ▸ hi) hb
    · have h1 := ho i hi
      have h2 := (h.b.buf.lt i hb).2
      omega⟩
theorem Two.movB (h : Two w1 w ga ra gb rb pv wv sa sb k n la lb) {sb' : Value} {lb' : List En} (hb : Pa w1 w' gb rb pv wv sb' k n 0 lb') (kk : Kept (PaS gb rb sb) w w') (ho : sb'.ownBlock = sb.ownBlock ∨ ∀ i, sb'.ownBlock = some i → w.heap.size ≤ i) : Two w1 w' ga ra gb rb pv wv sa sb' k n la lb' :=
  ⟨h.a.next kk (fun i hi hs => h.disj i hi hs) (fun i _ hs => h.b.loS i hs), hb, h.gg, h.rr, fun i hi hbb => by
    rcases ho with ho | ho
    · exact h.vv i hi (ho ▸ hbb)
    · have h1 := ho i hbb
      have h2 := (h.a.buf.lt i hi).2
      omega⟩
theorem Pa.base {w0 : World} {g r : Nat} {sv : Value} {ep : Int} {l : List En} (h : Pa w0 w g r pv wv sv k n ep l) (k12 : Kept (fun i => w1.heap.size ≤ i) w1 w0) (hk : KyIn w1 pv wv k) (hl : Laid w1) : Pa w1 w g r pv wv sv k n ep l :=
  ⟨h.blk, h.map, h.buf.mono k12.size, hk, hl, k12.trans (h.kept.mono fun i _ e => Nat.le_trans k12.size e), h.fit, h.nodup, ⟨Nat.le_trans k12.size h.lo.1, Nat.le_trans k12.size h.lo.2⟩⟩
end
end Go.Proofs.YtklmhegmombegaaDoor
