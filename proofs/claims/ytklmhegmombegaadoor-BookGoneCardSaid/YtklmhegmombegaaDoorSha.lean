/-
  SHA-256 in plain Lean: as the program goes, and so that a closed text can be reckoned.
-/
import Derived.Laws.BitsAllLaws
set_option linter.unusedVariables false
set_option linter.unusedSimpArgs false
namespace Go.Proofs.YtklmhegmombegaaDoor.Plain

def a32 (a b : Nat) : Nat := (a + b) % 4294967296
def x32 (a b : Nat) : Nat := a ^^^ b
def n32 (a b : Nat) : Nat := a &&& b
def o32 (a b : Nat) : Nat := a ||| b
def c32 (a : Nat) : Nat := 4294967295 - a
def l32 (x n : Nat) : Nat := x * 2 ^ n % 4294967296
def r32 (x n : Nat) : Nat := x / 2 ^ n
/-- Turned right by n. -/
def rot (x n : Nat) : Nat := o32 (l32 x (32 - n)) (r32 x n)
def trn (x a b c : Nat) : Nat := x32 (x32 (rot x a) (rot x b)) (rot x c)
def mvd (x a b c : Nat) : Nat := x32 (x32 (rot x a) (rot x b)) (r32 x c)
def K256 : List Nat := [0x428a2f98, 0x71374491, 0xb5c0fbcf, 0xe9b5dba5, 0x3956c25b, 0x59f111f1, 0x923f82a4, 0xab1c5ed5,
  0xd807aa98, 0x12835b01, 0x243185be, 0x550c7dc3, 0x72be5d74, 0x80deb1fe, 0x9bdc06a7, 0xc19bf174,
  0xe49b69c1, 0xefbe4786, 0x0fc19dc6, 0x240ca1cc, 0x2de92c6f, 0x4a7484aa, 0x5cb0a9dc, 0x76f988da,
  0x983e5152, 0xa831c66d, 0xb00327c8, 0xbf597fc7, 0xc6e00bf3, 0xd5a79147, 0x06ca6351, 0x14292967,
  0x27b70a85, 0x2e1b2138, 0x4d2c6dfc, 0x53380d13, 0x650a7354, 0x766a0abb, 0x81c2c92e, 0x92722c85,
  0xa2bfe8a1, 0xa81a664b, 0xc24b8b70, 0xc76c51a3, 0xd192e819, 0xd6990624, 0xf40e3585, 0x106aa070,
  0x19a4c116, 0x1e376c08, 0x2748774c, 0x34b0bcb5, 0x391c0cb3, 0x4ed8aa4a, 0x5b9cca4f, 0x682e6ff3,
  0x748f82ee, 0x78a5636f, 0x84c87814, 0x8cc70208, 0x90befffa, 0xa4506ceb, 0xbef9a3f7, 0xc67178f2]
def H256 : List Nat := [0x6a09e667, 0xbb67ae85, 0x3c6ef372, 0xa54ff53a, 0x510e527f, 0x9b05688c, 0x1f83d9ab, 0x5be0cd19]
/-- Of four bytes a number. -/
def be4 (b : List Nat) (i : Nat) : Nat := o32 (o32 (o32 (l32 (b.getD (4 * i) 0) 24) (l32 (b.getD (4 * i + 1) 0) 16)) (l32 (b.getD (4 * i + 2) 0) 8)) (b.getD (4 * i + 3) 0)
/-- The word t, of the words before. -/
def wd (b W : List Nat) (t : Nat) : Nat := if t < 16 then be4 b t else a32 (a32 (a32 (mvd (W.getD (t - 2) 0) 17 19 10) (W.getD (t - 7) 0)) (mvd (W.getD (t - 15) 0) 7 18 3)) (W.getD (t - 16) 0)
def sch (b : List Nat) : Nat → List Nat
  | 0 => []
  | t + 1 => sch b t ++ [wd b (sch b t) t]
def one (s : List Nat) (k w : Nat) : Nat := a32 (a32 (a32 (a32 (s.getD 7 0) (trn (s.getD 4 0) 6 11 25)) (x32 (n32 (s.getD 4 0) (s.getD 5 0)) (n32 (c32 (s.getD 4 0)) (s.getD 6 0)))) k) w
def two (s : List Nat) : Nat := a32 (trn (s.getD 0 0) 2 13 22) (x32 (x32 (n32 (s.getD 0 0) (s.getD 1 0)) (n32 (s.getD 0 0) (s.getD 2 0))) (n32 (s.getD 1 0) (s.getD 2 0)))
/-- One round. -/
def rnd (s : List Nat) (k w : Nat) : List Nat := [a32 (one s k w) (two s), s.getD 0 0, s.getD 1 0, s.getD 2 0, a32 (s.getD 3 0) (one s k w), s.getD 4 0, s.getD 5 0, s.getD 6 0]
def rnds (W s : List Nat) : Nat → List Nat
  | 0 => s
  | t + 1 => rnd (rnds W s t) (K256.getD t 0) (W.getD t 0)
def turn (h b : List Nat) : List Nat := List.zipWith a32 h (rnds (sch b 64) h 64)
/-- Behind blocks of 64. -/
def blocksFrom (h : List Nat) : Nat → List Nat → List Nat
  | 0, _ => h
  | n + 1, b => blocksFrom (turn h (b.take 64)) n (b.drop 64)
/-- What fills up a text of n bytes. -/
def be8 (n : Nat) : List Nat := [n / 2 ^ 56 % 256, n / 2 ^ 48 % 256, n / 2 ^ 40 % 256, n / 2 ^ 32 % 256, n / 2 ^ 24 % 256, n / 2 ^ 16 % 256, n / 2 ^ 8 % 256, n % 256]
def zerosOf (n : Nat) : Nat := (119 - n % 64) % 64
def fill (n : Nat) : List Nat := 128 :: (List.replicate (zerosOf n) 0 ++ be8 (n * 8 % 2 ^ 64))
/-- The bytes of eight numbers. -/
def bytesOf (h : List Nat) : List Nat := h.flatMap fun x => [x / 2 ^ 24 % 256, x / 2 ^ 16 % 256, x / 2 ^ 8 % 256, x % 256]
def sha (l : List Nat) : List Nat := bytesOf (blocksFrom H256 ((l.length + (fill l.length).length) / 64) (l ++ fill l.length))

/-! ## Bounds -/
theorem a32_lt (a b : Nat) : a32 a b < 4294967296 := Nat.mod_lt _ (by decide)
theorem x32_lt {a b : Nat} (ha : a < 4294967296) (hb : b < 4294967296) : x32 a b < 4294967296 := Nat.xor_lt_two_pow (n := 32) ha hb
theorem n32_lt {a b : Nat} (ha : a < 4294967296) : n32 a b < 4294967296 := Nat.lt_of_le_of_lt Nat.and_le_left ha
theorem o32_lt {a b : Nat} (ha : a < 4294967296) (hb : b < 4294967296) : o32 a b < 4294967296 := Nat.or_lt_two_pow (n := 32) ha hb
theorem c32_lt (a : Nat) : c32 a < 4294967296 := by unfold c32; omega
theorem l32_lt (x n : Nat) : l32 x n < 4294967296 := Nat.mod_lt _ (by decide)
theorem r32_lt {x n : Nat} (h : x < 4294967296) : r32 x n < 4294967296 := Nat.lt_of_le_of_lt (Nat.div_le_self _ _) h
theorem rot_lt {x n : Nat} (h : x < 4294967296) : rot x n < 4294967296 := o32_lt (l32_lt _ _) (r32_lt h)
theorem trn_lt {x a b c : Nat} (h : x < 4294967296) : trn x a b c < 4294967296 := x32_lt (x32_lt (rot_lt h) (rot_lt h)) (rot_lt h)
theorem mvd_lt {x a b c : Nat} (h : x < 4294967296) : mvd x a b c < 4294967296 := x32_lt (x32_lt (rot_lt h) (rot_lt h)) (r32_lt h)
def All32 (l : List Nat) : Prop := ∀ x ∈ l, x < 4294967296
theorem All32.getD {l : List Nat} (h : All32 l) (i : Nat) : l.getD i 0 < 4294967296 := by
  rw [List.getD_eq_getElem?_getD]
  cases e : l[i]? with
  | none => decide
  | some x => exact h x (List.mem_of_getElem? e)
def All8 (l : List Nat) : Prop := ∀ x ∈ l, x < 256
theorem All8.getD {l : List Nat} (h : All8 l) (i : Nat) : l.getD i 0 < 256 := by
  rw [List.getD_eq_getElem?_getD]
  cases e : l[i]? with
  | none => decide
  | some x => exact h x (List.mem_of_getElem? e)
theorem be4_lt {b : List Nat} (h : All8 b) (i : Nat) : be4 b i < 4294967296 := o32_lt (o32_lt (o32_lt (l32_lt _ _) (l32_lt _ _)) (l32_lt _ _)) (Nat.lt_of_lt_of_le (h.getD _) (by decide))
theorem wd_lt {b W : List Nat} (h : All8 b) (t : Nat) : wd b W t < 4294967296 := by
  unfold wd; split
  · exact be4_lt h t
  · exact a32_lt _ _
theorem sch_len (b : List Nat) (t : Nat) : (sch b t).length = t := by
  induction t with
  | zero => rfl
  | succ t ih => simp [sch, ih]
theorem sch_all {b : List Nat} (h : All8 b) (t : Nat) : All32 (sch b t) := by
  induction t with
  | zero => intro x hx; cases hx
  | succ t ih =>
    intro x hx
    rw [sch, List.mem_append, List.mem_singleton] at hx
    rcases hx with hx | rfl
    · exact ih x hx
    · exact wd_lt h t
theorem rnd_len (s : List Nat) (k w : Nat) : (rnd s k w).length = 8 := rfl
theorem rnd_all {s : List Nat} (h : All32 s) (k w : Nat) : All32 (rnd s k w) := by
  intro x hx
  simp only [rnd, List.mem_cons, List.not_mem_nil, or_false] at hx
  rcases hx with rfl | rfl | rfl | rfl | rfl | rfl | rfl | rfl
  · exact a32_lt _ _
  · exact h.getD _
  · exact h.getD _
  · exact h.getD _
  · exact a32_lt _ _
  · exact h.getD _
  · exact h.getD _
  · exact h.getD _
theorem rnds_len {W s : List Nat} (h : s.length = 8) (t : Nat) : (rnds W s t).length = 8 := by
  cases t with
  | zero => exact h
  | succ t => rfl
theorem rnds_all {W s : List Nat} (h : All32 s) (t : Nat) : All32 (rnds W s t) := by
  induction t with
  | zero => exact h
  | succ t ih => exact rnd_all ih _ _
theorem turn_len {h b : List Nat} (hh : h.length = 8) : (turn h b).length = 8 := by simp [turn, rnds_len hh, hh]
theorem turn_all {h b : List Nat} : All32 (turn h b) := by
  intro x hx
  unfold turn at hx
  obtain ⟨i, hi, rfl⟩ := List.mem_iff_getElem.1 hx
  rw [List.getElem_zipWith]
  exact a32_lt _ _
theorem blocksFrom_len : ∀ (n : Nat) (h b : List Nat), h.length = 8 → (blocksFrom h n b).length = 8 := by
  intro n
  induction n with
  | zero => intro h b hh; exact hh
  | succ n ih => intro h b hh; exact ih _ _ (turn_len hh)
theorem blocksFrom_all : ∀ (n : Nat) (h b : List Nat), All32 h → All32 (blocksFrom h n b) := by
  intro n
  induction n with
  | zero => intro h b hh; exact hh
  | succ n ih => intro h b hh; exact ih _ _ turn_all
theorem H256_all : All32 H256 := by unfold All32; decide
theorem K256_all : All32 K256 := by unfold All32; decide
theorem fill_len (n : Nat) : (fill n).length = 9 + zerosOf n := by simp [fill, be8]; omega
theorem fill_all (n : Nat) : All8 (fill n) := by
  intro x hx
  simp only [fill, be8, List.mem_cons, List.mem_append, List.not_mem_nil, or_false] at hx
  rcases hx with rfl | hx | rfl | rfl | rfl | rfl | rfl | rfl | rfl | rfl
  · decide
  · have := (List.mem_replicate.1 hx).2; omega
  all_goals exact Nat.mod_lt _ (by decide)
theorem bytesOf_all (h : List Nat) : All8 (bytesOf h) := by
  intro x hx
  obtain ⟨y, _, hy⟩ := List.mem_flatMap.1 hx
  simp only [List.mem_cons, List.not_mem_nil, or_false] at hy
  rcases hy with rfl | rfl | rfl | rfl <;> exact Nat.mod_lt _ (by decide)
theorem bytesOf_len {h : List Nat} : (bytesOf h).length = 4 * h.length := by
  induction h with
  | nil => rfl
  | cons x h ih => simp only [bytesOf, List.flatMap_cons, List.length_append, List.length_cons, List.length_nil] at ih ⊢; omega
theorem sha_len (l : List Nat) : (sha l).length = 32 := by rw [sha, bytesOf_len, blocksFrom_len _ _ _ rfl]
theorem sha_all (l : List Nat) : All8 (sha l) := bytesOf_all _

/-! ## So that a closed text can be reckoned -/
def force {α : Type} (n : Nat) (f : Nat → α) : α := match n with
  | 0 => f 0
  | k + 1 => f (k + 1)
theorem force_eq {α : Type} (n : Nat) (f : Nat → α) : force n f = f n := by cases n <;> rfl
/-- The rounds, the words as a window of 16. -/
def goF : List Nat → (w0 w1 w2 w3 w4 w5 w6 w7 w8 w9 wa wb wc wd we wf a b c d e f g h : Nat) → List Nat
  | [], _, _, _, _, _, _, _, _, _, _, _, _, _, _, _, _, a, b, c, d, e, f, g, h => [a, b, c, d, e, f, g, h]
  | k :: ks, w0, w1, w2, w3, w4, w5, w6, w7, w8, w9, wa, wb, wc, wd, we, wf, a, b, c, d, e, f, g, h =>
    force (a32 (a32 (a32 (mvd we 17 19 10) w9) (mvd w1 7 18 3)) w0) fun wn =>
    force (a32 (a32 (a32 (a32 h (trn e 6 11 25)) (x32 (n32 e f) (n32 (c32 e) g))) k) w0) fun o =>
    force (a32 (trn a 2 13 22) (x32 (x32 (n32 a b) (n32 a c)) (n32 b c))) fun t =>
    force (a32 o t) fun an =>
    force (a32 d o) fun en =>
    goF ks w1 w2 w3 w4 w5 w6 w7 w8 w9 wa wb wc wd we wf wn an a b c en e f g
def turnF (h b : List Nat) : List Nat :=
  match h with
  | [a', b', c', d', e', f', g', h'] => force (be4 b 0) fun w0 => force (be4 b 1) fun w1 => force (be4 b 2) fun w2 => force (be4 b 3) fun w3 => force (be4 b 4) fun w4 => force (be4 b 5) fun w5 => force (be4 b 6) fun w6 => force (be4 b 7) fun w7 => force (be4 b 8) fun w8 => force (be4 b 9) fun w9 => force (be4 b 10) fun wa => force (be4 b 11) fun wb => force (be4 b 12) fun wc => force (be4 b 13) fun wd => force (be4 b 14) fun we => force (be4 b 15) fun wf =>
    List.zipWith a32 h (goF K256 w0 w1 w2 w3 w4 w5 w6 w7 w8 w9 wa wb wc wd we wf a' b' c' d' e' f' g' h')
  | _ => []
theorem sch_get (b : List Nat) : ∀ (n t : Nat), t < n → (sch b n).getD t 0 = wd b (sch b t) t := by
  intro n
  induction n with
  | zero => intro t h; omega
  | succ n ih =>
    intro t h
    rw [sch, List.getD_eq_getElem?_getD]
    by_cases e : t = n
    · subst e
      rw [List.getElem?_append_right (by rw [sch_len]; exact Nat.le_refl _), sch_len, Nat.sub_self]; rfl
    · rw [List.getElem?_append_left (by rw [sch_len]; omega), ← List.getD_eq_getElem?_getD]
      exact ih t (by omega)
/-- The word t. -/
def W (b : List Nat) (t : Nat) : Nat := wd b (sch b t) t
theorem W_next (b : List Nat) (t : Nat) : W b (t + 16) = a32 (a32 (a32 (mvd (W b (t + 14)) 17 19 10) (W b (t + 9))) (mvd (W b (t + 1)) 7 18 3)) (W b t) := by
  have h : ∀ k, k < t + 16 → (sch b (t + 16)).getD k 0 = W b k := fun k hk => sch_get b (t + 16) k hk
  show wd b (sch b (t + 16)) (t + 16) = _
  unfold wd
  rw [if_neg (by omega), show t + 16 - 2 = t + 14 by omega, show t + 16 - 7 = t + 9 by omega, show t + 16 - 15 = t + 1 by omega, show t + 16 - 16 = t by omega, h _ (by omega), h _ (by omega), h _ (by omega), h _ (by omega)]
theorem W_first (b : List Nat) {t : Nat} (h : t < 16) : W b t = be4 b t := by unfold W wd; rw [if_pos h]
theorem eight {l : List Nat} (h : l.length = 8) : l = [l.getD 0 0, l.getD 1 0, l.getD 2 0, l.getD 3 0, l.getD 4 0, l.getD 5 0, l.getD 6 0, l.getD 7 0] := by
  match l, h with
  | [a, b, c, d, e, f, g, i], _ => rfl
theorem goF_rnds (b s : List Nat) (hs : s.length = 8) : ∀ (n t : Nat), t + n = 64 →
    goF (K256.drop t) (W b t) (W b (t + 1)) (W b (t + 2)) (W b (t + 3)) (W b (t + 4)) (W b (t + 5)) (W b (t + 6)) (W b (t + 7)) (W b (t + 8)) (W b (t + 9)) (W b (t + 10)) (W b (t + 11)) (W b (t + 12)) (W b (t + 13)) (W b (t + 14)) (W b (t + 15))
      ((rnds (sch b 64) s t).getD 0 0) ((rnds (sch b 64) s t).getD 1 0) ((rnds (sch b 64) s t).getD 2 0) ((rnds (sch b 64) s t).getD 3 0) ((rnds (sch b 64) s t).getD 4 0) ((rnds (sch b 64) s t).getD 5 0) ((rnds (sch b 64) s t).getD 6 0) ((rnds (sch b 64) s t).getD 7 0) = rnds (sch b 64) s 64 := by
  intro n
  induction n with
  | zero =>
    intro t ht
    obtain rfl : t = 64 := by omega
    rw [show K256.drop 64 = [] from rfl]
    exact (eight (rnds_len hs 64)).symm
  | succ n ih =>
    intro t ht
    have hk : K256.drop t = K256.getD t 0 :: K256.drop (t + 1) := by
      have hl : t < K256.length := by show t < 64; omega
      rw [List.drop_eq_getElem_cons hl, List.getD_eq_getElem?_getD, List.getElem?_eq_getElem hl]; rfl
    have hw : (sch b 64).getD t 0 = W b t := sch_get b 64 t (by omega)
    have hn := ih (t + 1) (by omega)
    rw [← hn, hk]
    simp only [goF, force_eq]
    rw [W_next b t]
    simp only [rnds, rnd, hw, one, two, List.getD_cons_zero, List.getD_cons_succ, show t + 1 + 1 = t + 2 by omega, show t + 1 + 2 = t + 3 by omega, show t + 1 + 3 = t + 4 by omega, show t + 1 + 4 = t + 5 by omega, show t + 1 + 5 = t + 6 by omega, show t + 1 + 6 = t + 7 by omega, show t + 1 + 7 = t + 8 by omega, show t + 1 + 8 = t + 9 by omega, show t + 1 + 9 = t + 10 by omega, show t + 1 + 10 = t + 11 by omega, show t + 1 + 11 = t + 12 by omega, show t + 1 + 12 = t + 13 by omega, show t + 1 + 13 = t + 14 by omega, show t + 1 + 14 = t + 15 by omega]
theorem rnds_zero (W s : List Nat) : rnds W s 0 = s := rfl
theorem eight' {l : List Nat} (h : l.length = 8) : ∃ a b c d e f g i, l = [a, b, c, d, e, f, g, i] := ⟨_, _, _, _, _, _, _, _, eight h⟩
set_option maxRecDepth 10000 in
theorem turn_turnF {h b : List Nat} (hh : h.length = 8) : turn h b = turnF h b := by
  have hg := goF_rnds b h hh 64 0 (by omega)
  obtain ⟨a', b', c', d', e', f', g', h', rfl⟩ := eight' hh
  unfold turn turnF
  generalize rnds (sch b 64) [a', b', c', d', e', f', g', h'] 64 = R at hg ⊢
  rw [← hg, rnds_zero]
  simp only [force_eq, Nat.zero_add, List.drop_zero, List.getD_cons_zero, List.getD_cons_succ, W_first b (show 0 < 16 by decide), W_first b (show 1 < 16 by decide), W_first b (show 2 < 16 by decide), W_first b (show 3 < 16 by decide), W_first b (show 4 < 16 by decide), W_first b (show 5 < 16 by decide), W_first b (show 6 < 16 by decide), W_first b (show 7 < 16 by decide), W_first b (show 8 < 16 by decide), W_first b (show 9 < 16 by decide), W_first b (show 10 < 16 by decide), W_first b (show 11 < 16 by decide), W_first b (show 12 < 16 by decide), W_first b (show 13 < 16 by decide), W_first b (show 14 < 16 by decide), W_first b (show 15 < 16 by decide)]
def forceL {α : Type} : List Nat → (List Nat → α) → α
  | [], f => f []
  | x :: xs, f => force x fun y => forceL xs fun ys => f (y :: ys)
theorem forceL_eq {α : Type} : ∀ (l : List Nat) (f : List Nat → α), forceL l f = f l := by
  intro l
  induction l with
  | nil => intro f; rfl
  | cons x l ih => intro f; rw [forceL, force_eq, ih]
def blocksF (h : List Nat) : Nat → List Nat → List Nat
  | 0, _ => h
  | n + 1, b => forceL (turnF h (b.take 64)) fun h' => forceL (b.drop 64) fun b' => blocksF h' n b'
theorem blocks_blocksF : ∀ (n : Nat) (h b : List Nat), h.length = 8 → blocksFrom h n b = blocksF h n b := by
  intro n
  induction n with
  | zero => intro h b _; rfl
  | succ n ih =>
    intro h b hh
    rw [blocksFrom, blocksF, forceL_eq, forceL_eq, ih _ _ (turn_len hh), turn_turnF hh]
def shaF (l : List Nat) : List Nat := forceL (l ++ fill l.length) fun t => forceL (blocksF H256 (t.length / 64) t) fun h => forceL (bytesOf h) fun r => r
theorem sha_shaF (l : List Nat) : sha l = shaF l := by
  rw [sha, shaF, forceL_eq, forceL_eq, forceL_eq, List.length_append, blocks_blocksF _ _ _ rfl]
theorem sha_abc : sha [97, 98, 99] = [0xba, 0x78, 0x16, 0xbf, 0x8f, 0x01, 0xcf, 0xea, 0x41, 0x41, 0x40, 0xde, 0x5d, 0xae, 0x22, 0x23, 0xb0, 0x03, 0x61, 0xa3, 0x96, 0x17, 0x7a, 0x9c, 0xb4, 0x10, 0xff, 0x61, 0xf2, 0x00, 0x15, 0xad] := by
  rw [sha_shaF]; decide +kernel
end Go.Proofs.YtklmhegmombegaaDoor.Plain
