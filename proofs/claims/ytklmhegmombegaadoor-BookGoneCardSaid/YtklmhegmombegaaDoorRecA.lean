/-
  Records whole, in plain Lean and in memory; the contracts of rec's small functions. Conditions: as each theorem says.
-/
import Derived.Test.YtklmhegmombegaaDoorRe0
import Derived.Deep.QuietTactic
import Derived.BigQuiet
set_option linter.unusedVariables false
set_option linter.unusedSimpArgs false
namespace Go.Proofs.YtklmhegmombegaaDoor.Re
open Go Go.RowKit Go.Proofs.YtklmhegmombegaaDoor.Re.Plain

namespace Plain
/-- A record. -/
structure Rx where
  kind : Int
  saga : Int
  seq : Int
  step : Int
  tr : Int
  bk : Bool
  good : Bool
  nd : Int
  part : Int
  epoch : Int
  tag : List Int
  steps : List (Int × Int)
  data : List Nat
  salt : List Int
  gone : Bool
  com : List Int
deriving DecidableEq
def z32 : List Int := List.replicate 32 0
def Rx.zero : Rx := ⟨0, 0, 0, 0, 0, false, false, 0, 0, 0, z32, [], [], z32, false, z32⟩
/-- What of a record its kind has. -/
def keptX (x : Rx) : Rx :=
  if x.kind = 1 then (if x.gone = true then { Rx.zero with kind := x.kind, saga := x.saga, steps := x.steps, gone := x.gone, com := x.com } else { Rx.zero with kind := x.kind, saga := x.saga, steps := x.steps, gone := x.gone, data := x.data, salt := x.salt })
  else if x.kind = 3 then { Rx.zero with kind := x.kind, good := x.good, part := x.part, epoch := x.epoch, tag := x.tag, saga := x.saga, seq := x.seq, step := x.step, tr := x.tr, bk := x.bk }
  else if x.kind = 2 ∨ x.kind = 4 then { Rx.zero with kind := x.kind, saga := x.saga, seq := x.seq, step := x.step, tr := x.tr, bk := x.bk }
  else if x.kind = 5 then { Rx.zero with kind := x.kind, saga := x.saga, seq := x.seq, nd := x.nd }
  else if x.kind = 6 then { Rx.zero with kind := x.kind, part := x.part, epoch := x.epoch }
  else { Rx.zero with kind := x.kind }
/-- May a step not be? -/
def badStep (q : Int × Int) : Bool := !(wi q.1 0 3) || !(wi q.2 1 3)
def rangesB (x : Rx) : Bool :=
  wi x.saga 0 11 && (wi x.part 0 3 && (wi x.epoch 0 400 &&
    (if x.kind = 1 then wi x.steps.length 1 6 && (!(x.steps.any badStep) && decide (x.data.length ≤ 60))
     else if x.kind = 2 ∨ x.kind = 4 ∨ x.kind = 3 then wi x.seq 1 400 && (wi x.step 0 5 && wi x.tr 1 9)
     else if x.kind = 5 then wi x.seq 1 400 && wi x.nd 2 4
     else decide (x.kind = 6) && decide (1 ≤ x.epoch))))
def rightB (x : Rx) : Bool := rangesB x && decide (x = keptX x)
end Plain

/-- v holds steps: of an empty slice nothing is said. -/
def HoldsSt (w : World) (v : Value) (l : List (Int × Int)) : Prop := ∃ a c, v = .slice a l.length c ∧ l.length ≤ maxLen ∧ (l ≠ [] → Stp w v l)
/-- v holds bytes. -/
def HoldsBy (w : World) (v : Value) (l : List Nat) : Prop := ∃ a c, v = .slice a l.length c ∧ l.length ≤ maxLen ∧ (∀ z ∈ l, z < 256) ∧ (l ≠ [] → Rd w 1 v l.length (l.map fun (n : Nat) => Value.int .u8 (n : Int)) ∧ ∀ k, v.ownBlock = some k → k < w.heap.size)
theorem HoldsSt.kept {w w' : World} {v : Value} {l : List (Int × Int)} (h : HoldsSt w v l) (k : Kept (fun _ => False) w w') : HoldsSt w' v l := by
  obtain ⟨a, c, rfl, hm, hs⟩ := h
  exact ⟨a, c, rfl, hm, fun hne => (hs hne).kept k⟩
theorem HoldsBy.kept {w w' : World} {v : Value} {l : List Nat} (h : HoldsBy w v l) (k : Kept (fun _ => False) w w') : HoldsBy w' v l := by
  obtain ⟨a, c, rfl, hm, hz, hs⟩ := h
  exact ⟨a, c, rfl, hm, hz, fun hne => ⟨(hs hne).1.kept k (fun _ _ h => h), fun j e => Nat.lt_of_lt_of_le ((hs hne).2 j e) k.size⟩⟩
theorem HoldsSt.nil (w : World) : HoldsSt w (.slice none 0 0) [] := ⟨none, 0, rfl, Nat.zero_le _, fun h => absurd rfl h⟩
theorem HoldsBy.nil (w : World) : HoldsBy w (.slice none 0 0) [] := ⟨none, 0, rfl, Nat.zero_le _, by simp, fun h => absurd rfl h⟩

/-- The cells of 32 bytes. -/
def hbs (l : List Int) : List Value := l.map (Value.int .u8)
def At (C : Array Value) (o : Nat) (vs : List Value) : Prop := ∀ j v, vs[j]? = some v → C[o + j]? = some v
/-- C are the cells of the record x. -/
structure RecIn (w : World) (C : Array Value) (x : Rx) : Prop where
  size : C.size = 109
  one : C.all (·.oneCell') = true
  c0 : C[0]? = some (.int .i64 x.kind)
  c1 : C[1]? = some (.int .i64 x.saga)
  c2 : C[2]? = some (.int .i64 x.seq)
  c3 : C[3]? = some (.int .i64 x.step)
  c4 : C[4]? = some (.int .i64 x.tr)
  c5 : C[5]? = some (.bool x.bk)
  c6 : C[6]? = some (.bool x.good)
  c7 : C[7]? = some (.int .i64 x.nd)
  c8 : C[8]? = some (.int .i64 x.part)
  c9 : C[9]? = some (.int .i64 x.epoch)
  tagl : x.tag.length = 32
  tag : At C 10 (hbs x.tag)
  st : ∃ v, C[42]? = some v ∧ HoldsSt w v x.steps
  da : ∃ v, C[43]? = some v ∧ HoldsBy w v x.data
  saltl : x.salt.length = 32
  salt : At C 44 (hbs x.salt)
  c76 : C[76]? = some (.bool x.gone)
  coml : x.com.length = 32
  com : At C 77 (hbs x.com)
theorem RecIn.kept {w w' : World} {C : Array Value} {x : Rx} (h : RecIn w C x) (k : Kept (fun _ => False) w w') : RecIn w' C x := by
  obtain ⟨h1, h2, h3, h4, h5, h6, h7, h8, h9, h10, h11, h12, h13, h14, ⟨v, h15, h15'⟩, ⟨u, h16, h16'⟩, h17, h18, h19, h20, h21⟩ := h
  exact ⟨h1, h2, h3, h4, h5, h6, h7, h8, h9, h10, h11, h12, h13, h14, ⟨v, h15, h15'.kept k⟩, ⟨u, h16, h16'.kept k⟩, h17, h18, h19, h20, h21⟩

theorem f_rwithin (n lo hi : Int) (w : World) : Calls Tryd.prog 110 #[.int .i64 n, .int .i64 lo, .int .i64 hi] w fun e w' => e = .returned (.bool (wi n lo hi)) ∧ w = w' := by
  unfold wi
  by_cases h : lo ≤ n
  · have h1 : decide (lo ≤ n) = true := by simpa using h
    go_enter Tryd.func110, Tryd.ntmps110
    go_wp2_with fail
    go_ret
    exact ⟨by simp [h], rfl⟩
  · have h1 : decide (lo ≤ n) = false := by simpa using h
    go_enter Tryd.func110, Tryd.ntmps110
    go_wp2_with fail
    go_ret
    exact ⟨by simp, rfl⟩
theorem f_rwithin_is {n lo hi : Int} {b : Bool} (h : wi n lo hi = b) (w : World) : Calls Tryd.prog 110 #[.int .i64 n, .int .i64 lo, .int .i64 hi] w fun e w' => e = .returned (.bool b) ∧ w = w' := by
  subst h; exact f_rwithin n lo hi w

theorem f_bad (p q : Int) (w : World) : Calls Tryd.prog 111 #[.agg #[.int .i64 p, .int .i64 q]] w (BPost (badStep (p, q)) w) := by
  cases h1 : wi p 0 3 with
  | false =>
    have E : Hid (badStep (p, q) = true) := by show _ = _; simp [badStep, h1]
    have W1 := Lib.hid h1
    clear h1
    go_enter Tryd.func111, Tryd.ntmps111
    go_wp2_with fail
    refine (f_rwithin_is W1.out _).mono ?_
    rintro e w1 ⟨rfl, rfl⟩
    go_wp2_with fail
    go_ret
    exact BPost.mk E.out ((Kept.refl _ w).alloc _)
  | true =>
    have E : Hid (badStep (p, q) = !(wi q 1 3)) := by show _ = _; simp [badStep, h1]
    have W1 := Lib.hid h1
    clear h1
    go_enter Tryd.func111, Tryd.ntmps111
    go_wp2_with fail
    refine (f_rwithin_is W1.out _).mono ?_
    rintro e w1 ⟨rfl, rfl⟩
    go_wp2_with fail
    refine (f_rwithin _ _ _ _).mono ?_
    rintro e w1 ⟨rfl, rfl⟩
    go_wp2_with fail
    go_ret
    exact BPost.mk E.out ((Kept.refl _ w).alloc _)

theorem any_take {l : List (Int × Int)} {k : Nat} (hk : k < l.length) (h : (l.take k).any badStep = false) : (l.take (k + 1)).any badStep = badStep l[k] := by
  rw [← List.take_append_getElem hk, List.any_append, h]; simp
set_option maxHeartbeats 2000000 in
/-- Is one of the steps bad? -/
theorem f_index (v : Value) (l : List (Int × Int)) (w : World) (hs : Stp w v l) (hl : l.length ≤ 1000000) : Calls Tryd.prog 129 #[v, .func (.func 111) #[] #[]] w fun e w' => (∃ n : Int, e = .returned (.int .i64 n) ∧ -1 ≤ n ∧ n ≤ 1000000 ∧ decide (0 ≤ n) = l.any badStep) ∧ Kept (fun _ => False) w w' := by
  obtain ⟨a, c, rfl⟩ := hs.form
  have HS := Lib.hid hs
  clear hs
  go_enter Tryd.func129, Tryd.ntmps129
  go_wp2_with fail
  go_loopw [8] (fun i wr => ∃ k : Nat, k ≤ l.length ∧ i = .int .i64 k ∧ (l.take k).any badStep = false ∧ Kept (fun _ => False) w wr) (fun i _ => l.length - (intOf i).toNat)
  case atStart => exact ⟨0, Nat.zero_le _, rfl, rfl, Kept.refl _ _⟩
  case round =>
    obtain ⟨k, hk, rfl, ht, K⟩ := hrel
    have HT := Lib.hid ht
    have KR := Lib.hid K
    clear ht
    by_cases hlt : k < l.length
    · obtain ⟨b, o, c', ev, x1, x0, -⟩ := (HS.out.kept K).kind hlt
      simp only [Value.slice.injEq, true_and] at ev
      obtain ⟨rfl, rfl⟩ := ev
      have k1 : kindAt l k = l[k].2 := by rw [kindAt, List.getElem?_eq_getElem hlt]; rfl
      rw [k1] at x1
      have HA := Lib.hid (any_take hlt HT.out)
      have HX := Lib.hid (show l[k] ∈ l from List.getElem_mem _)
      clear k1 K
      generalize l[k] = x at x0 x1 HA HX
      obtain ⟨p, q⟩ := x
      dsimp only at x0 x1
      have HB := Lib.hid (f_bad p q)
      cases hb : badStep (p, q) with
      | true =>
        rw [hb] at HB
        have E : Hid (l.any badStep = true) := by show _ = _; rw [List.any_eq_true]; exact ⟨_, HX.out, hb⟩
        clear hb
        go_wp2_with fail
        refine (HB.out _).mono ?_
        rintro e w1 ⟨rfl, k1⟩
        have KF := Lib.hid (KR.out.trans k1)
        go_wp2_with fail
        go_ret
        exact ⟨⟨_, rfl, by omega, by omega, by rw [E.out]; simp⟩, KF.out⟩
      | false =>
        rw [hb] at HB HA
        clear hb
        go_wp2_with fail
        refine (HB.out _).mono ?_
        rintro e w1 ⟨rfl, k1⟩
        have KF := Lib.hid (KR.out.trans k1)
        go_wp2_with fail
        go_roundw
        case rel => exact ⟨k + 1, by omega, by go_num, HA.out, KF.out⟩
        case measure => simp [intOf]; omega
    · obtain rfl : k = l.length := by omega
      have E : Hid (l.any badStep = false) := by show _ = _; have := HT.out; rwa [List.take_length] at this
      clear K
      go_wp2_with fail
      go_ret
      exact ⟨⟨_, rfl, by omega, by omega, by rw [E.out]; rfl⟩, KR.out⟩
theorem f_contains (v : Value) (l : List (Int × Int)) (w : World) (hs : Stp w v l) (hl : l.length ≤ 1000000) : Calls Tryd.prog 112 #[v, .func (.func 111) #[] #[]] w (BPost (l.any badStep) w) := by
  have H := Lib.hid (f_index v l w hs hl)
  obtain ⟨a, c, rfl⟩ := hs.form
  clear hs
  go_enter Tryd.func112, Tryd.ntmps112
  go_wp2_with fail
  refine H.out.mono ?_
  rintro e w1 ⟨⟨n, rfl, hn, hn2, hd⟩, k1⟩
  have E := Lib.hid hd
  clear hd
  go_wp2_with fail
  go_ret
  exact BPost.mk E.out.symm k1
end Go.Proofs.YtklmhegmombegaaDoor.Re
