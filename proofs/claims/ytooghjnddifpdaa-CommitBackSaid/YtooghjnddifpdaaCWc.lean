/- Plain: what is written is read as it was; cut off it is not; what is read is written as it stood. · back: a thing is read back. Printed by wip/backs.py. · The walk of WireBack. · The walk of WireBack. · Plain: what is read is written as it stood. · again. · The walk of WireOne. -/
import Derived.Test.YtooghjnddifpdaaCWb
import Derived.Test.YtooghjnddifpdaaBytesEq
import Derived.Test.YtooghjnddifpdaaKit
section
namespace Go.Proofs.Ytooghjnddifpdaa
open Go.RowKit Go.Proofs.Ytooghjnddifpdaa.Wi Go.Proofs.Ytooghjnddifpdaa.Pc
set_option linter.unusedSimpArgs false
set_option linter.unusedVariables false

theorem bigL_nil : bigL [] = 0 := rfl
theorem bigL_fold (l : List UInt8) : ∀ i, l.foldl (fun n c => n * 256 + c.toNat) i = i * 256 ^ l.length + bigL l := by
  induction l with
  | nil => intro i; simp [bigL]
  | cons c r ih =>
    intro i
    unfold bigL
    rw [List.foldl_cons, List.foldl_cons, ih, ih, List.length_cons, Nat.pow_succ, Nat.add_mul, Nat.zero_mul, Nat.zero_add, Nat.mul_assoc, Nat.mul_comm 256 (256 ^ r.length)]
    omega
theorem bigL_append (a b : List UInt8) : bigL (a ++ b) = bigL a * 256 ^ b.length + bigL b := by
  conv => lhs; unfold bigL
  rw [List.foldl_append, bigL_fold b]
  rfl
theorem bigL_one (c : UInt8) : bigL [c] = c.toNat := by simp [bigL]
theorem bigL_cons (c : UInt8) (l : List UInt8) : bigL (c :: l) = c.toNat * 256 ^ l.length + bigL l := by
  rw [show c :: l = [c] ++ l from rfl, bigL_append, bigL_one]
theorem les_zero (k : Nat) : les k 0 = [] := by cases k <;> simp [les]
theorem les_succ (k n : Nat) (h : n ≠ 0) : les (k + 1) n = UInt8.ofNat n :: les k (n / 256) := by simp [les, h]
theorem ofNat_toNat (n : Nat) : (UInt8.ofNat n).toNat = n % 256 := by rw [UInt8.toNat_ofNat']
theorem bigL_les (k : Nat) : ∀ n, n < 256 ^ k → bigL (les k n).reverse = n := by
  induction k with
  | zero => intro n h; have : n = 0 := by simpa using h
            subst this; rfl
  | succ k ih =>
    intro n h
    by_cases h0 : n = 0
    · subst h0; rw [les_zero]; rfl
    · rw [les_succ k n h0, List.reverse_cons, bigL_snoc, ih _ (by rw [Nat.pow_succ] at h; omega), ofNat_toNat]; omega
theorem fb_append (a b : List UInt8) (h : a ≠ []) : fb (a ++ b) = fb a := by
  cases a with
  | nil => exact absurd rfl h
  | cons c r => rfl
theorem les_nil (k n : Nat) (h : n < 256 ^ k) : les k n = [] ↔ n = 0 := by
  cases k with
  | zero => simp [les]; simpa using h
  | succ k =>
    by_cases h0 : n = 0
    · subst h0; simp [les]
    · rw [les_succ k n h0]; simp [h0]
theorem fb_les (k : Nat) : ∀ n, n < 256 ^ k → fb (les k n).reverse ≠ 0 := by
  induction k with
  | zero => intro n h; simp [les, fb]
  | succ k ih =>
    intro n h
    by_cases h0 : n = 0
    · subst h0; rw [les_zero]; simp [fb]
    · have hq : n / 256 < 256 ^ k := by rw [Nat.pow_succ] at h; omega
      rw [les_succ k n h0, List.reverse_cons]
      by_cases he : les k (n / 256) = []
      · rw [he]
        have := (les_nil k _ hq).1 he
        intro e
        have e := congrArg UInt8.toNat e
        simp only [fb, List.reverse_nil, List.nil_append] at e
        rw [ofNat_toNat] at e
        have : (0 : UInt8).toNat = 0 := rfl
        omega
      · rw [fb_append _ _ (by simpa using he)]
        exact ih _ hq
theorem drop_add {xs l post : List UInt8} {a k : Nat} (h : xs.drop a = l ++ post) (hk : l.length = k) : xs.drop (a + k) = post := by
  rw [← List.drop_drop, h, ← hk, List.drop_left]
theorem len_of_drop {xs l post : List UInt8} {a : Nat} (h : xs.drop a = l ++ post) (ha : a ≤ xs.length) : a + l.length + post.length = xs.length := by
  have := congrArg List.length h
  rw [List.length_drop, List.length_append] at this
  omega
theorem take_of_drop {xs l post : List UInt8} {a k : Nat} (h : xs.drop a = l ++ post) (hk : l.length = k) : (xs.drop a).take k = l := by
  rw [h, ← hk, List.take_left]

theorem numL_eq (n : Nat) : numL n = UInt8.ofNat (les 8 n).length :: (les 8 n).reverse := rfl
theorem kAt_of {xs r : List UInt8} {a k : Nat} (h : xs.drop a = UInt8.ofNat k :: r) (hk : k < 256) : kAt xs a = k := by
  unfold kAt
  rw [h]
  simp only [List.take_succ_cons, List.take_zero]
  rw [bigL_one, ofNat_toNat]
  omega
/-- A number that is written is read. -/
theorem numP_of {xs post : List UInt8} {a n : Nat} (h : xs.drop a = numL n ++ post) (ha : a ≤ xs.length) (hn : n < 9223372036854775808) : numP xs a = .ok n (a + (numL n).length) := by
  have hl := len_of_drop h ha
  have h8 := les_len 8 n
  have hL : (numL n).length = (les 8 n).length + 1 := by simp [numL]
  have hb := bigL_les 8 n (by omega)
  have hf := fb_les 8 n (by omega)
  rw [numL_eq, List.cons_append] at h
  have hk := kAt_of h (by omega)
  have hd : xs.drop (a + 1) = (les 8 n).reverse ++ post := drop_add (l := [UInt8.ofNat (les 8 n).length]) h rfl
  have hN : nAt xs a (les 8 n).length = (les 8 n).reverse := take_of_drop hd (by simp)
  unfold numP
  rw [hk, hN, hb, if_neg (by omega), if_neg (by omega), if_neg (by omega), if_neg, hL]
  · congr 1; omega
  · rintro (h1 | h1)
    · unfold zAt at h1; rw [hN] at h1; exact hf (by simpa using h1)
    · omega
/-- Cut off, it is not. -/
theorem numP_cut {xs post : List UInt8} {a n c : Nat} (h : xs.drop a = numL n ++ post) (ha : a ≤ c) (hc : c ≤ xs.length) (hs : c < a + (numL n).length) : numP (xs.take c) a = .bad 6 a := by
  have h8 := les_len 8 n
  have hL : (numL n).length = (les 8 n).length + 1 := by simp [numL]
  have hlen : (xs.take c).length = c := by rw [List.length_take]; omega
  unfold numP
  rw [hlen]
  by_cases h1 : c < a + 1
  · rw [if_pos h1]
  · have hd : (xs.take c).drop a = UInt8.ofNat (les 8 n).length :: ((les 8 n).reverse ++ post).take (c - a - 1) := by
      rw [List.drop_take, h, numL_eq, show c - a = (c - a - 1) + 1 by omega]
      rfl
    rw [if_neg h1, kAt_of hd (by omega), if_neg (by omega), if_pos (by omega)]
theorem takeP_of {α : Type} {xs l post : List UInt8} {a n f : Nat} {k : List UInt8 → α} (h : xs.drop a = l ++ post) (ha : a ≤ xs.length) (hl : l.length = n) : takeP xs n a f k = .ok (k l) (a + n) := by
  unfold takeP
  have := len_of_drop h ha
  rw [if_pos (by omega), take_of_drop h hl]
theorem takeP_cut {α : Type} {xs : List UInt8} {a n f c : Nat} {k : List UInt8 → α} (hc : c ≤ xs.length) (hs : c < a + n) : takeP (xs.take c) n a f k = .bad 6 f := by
  unfold takeP
  rw [List.length_take, if_neg (by omega)]
theorem bytesP_of {xs l post : List UInt8} {a : Nat} (h : xs.drop a = numL l.length ++ l ++ post) (ha : a ≤ xs.length) (hn : l.length < 9223372036854775808) : bytesP xs l.length a = .ok l (a + (numL l.length ++ l).length) := by
  rw [List.append_assoc] at h
  have h2 := drop_add h rfl
  unfold bytesP
  rw [numP_of h ha hn]
  simp only
  rw [if_pos (by omega), takeP_of h2 (by have := len_of_drop h ha; omega) rfl, List.length_append]
  congr 1
  omega
theorem bytesP_cut {xs l post : List UInt8} {a c : Nat} (h : xs.drop a = numL l.length ++ l ++ post) (ha : a ≤ c) (hc : c ≤ xs.length) (hn : l.length < 9223372036854775808) (hs : c < a + (numL l.length ++ l).length) : bytesP (xs.take c) l.length a = .bad 6 a := by
  rw [List.append_assoc] at h
  rw [List.length_append] at hs
  unfold bytesP
  by_cases h1 : c < a + (numL l.length).length
  · rw [numP_cut h ha hc h1]
  · have hlen : (xs.take c).length = c := by rw [List.length_take]; omega
    have hd : (xs.take c).drop a = numL l.length ++ (l ++ post).take (c - a - (numL l.length).length) := by
      rw [List.drop_take, h, List.take_append, List.take_of_length_le (by omega)]
    rw [numP_of hd (by omega) hn]
    simp only
    rw [if_pos (by omega), takeP_cut hc (by omega)]
theorem bigL_pre (n k : Nat) : bigL (pre n k) = n % 256 ^ k := by
  induction k with
  | zero => simp [pre, bigL, Nat.mod_one]
  | succ k ih =>
    rw [pre_next, bigL_cons, ih, pre_len, ofNat_toNat, Nat.pow_succ, Nat.mod_mul, Nat.mul_comm]
    omega
theorem bigL_wrd {n : Nat} (h : n < 18446744073709551616) : bigL (wrdL n) = n := by
  rw [pre_8, bigL_pre, Nat.mod_eq_of_lt (by omega)]

/-- What a thing is written as. -/
def Th.bytes (x : Th) : List UInt8 := if 0 ≤ x.kind ∧ x.kind ≤ 7 then x.form else []
/-- What 'back' answers, and the reader behind it. -/
def backS (xs : List UInt8) (x : Th) (st : St) : Bool × St :=
  if x.kind = 0 then (decide (((step (numP xs) 0 st).1 : Int) = x.n), (step (numP xs) 0 st).2)
  else if x.kind = 1 ∨ x.kind = 2 then ((step (bytesP xs x.b.length) [] st).1 == x.b, (step (bytesP xs x.b.length) [] st).2)
  else if x.kind = 3 then ((step (fun a => takeP xs 32 a a id) (List.replicate 32 0) st).1 == x.h, (step (fun a => takeP xs 32 a a id) (List.replicate 32 0) st).2)
  else if x.kind = 4 then ((step (fun a => takeP xs 4 a a id) (List.replicate 4 0) st).1 == x.k, (step (fun a => takeP xs 4 a a id) (List.replicate 4 0) st).2)
  else if x.kind = 5 then ((step (fun a => takeP xs 8 a a bigL) 0 st).1 == x.wd, (step (fun a => takeP xs 8 a a bigL) 0 st).2)
  else if x.kind = 6 then ((step (paceP xs) 0 st).1 == x.wd || (nanB (step (paceP xs) 0 st).1 && nanB x.wd), (step (paceP xs) 0 st).2)
  else if x.kind = 7 then ((step (boolP xs) false st).1 == x.is, (step (boolP xs) false st).2)
  else (true, st)
theorem step_ok {α : Type} {r : Nat → Rs α} {z : α} {a a' : Nat} {v : α} (h : r a = .ok v a') : step r z (.at a) = (v, .at a') := by simp [step, h]
theorem step_bad {α : Type} {r : Nat → Rs α} {z : α} {a e f : Nat} (h : r a = .bad e f) : step r z (.at a) = (z, .bad e f) := by simp [step, h]
theorem canon_lt' {b : Nat} (h : b < 18446744073709551616) : canon b < 18446744073709551616 := canon_lt h
theorem paceP_of {xs post : List UInt8} {a n : Nat} (h : xs.drop a = wrdL (canon n) ++ post) (ha : a ≤ xs.length) (hn : n < 18446744073709551616) : paceP xs a = .ok (canon n) (a + 8) := by
  unfold paceP
  rw [takeP_of h ha (wrdL_len _)]
  simp only
  rw [bigL_wrd (canon_lt hn), if_neg]
  rintro ⟨h1, h2⟩
  rw [nan_canon] at h1
  exact h2 (canon_nan h1)
theorem paceP_cut {xs : List UInt8} {a c : Nat} (hc : c ≤ xs.length) (hs : c < a + 8) : paceP (xs.take c) a = .bad 6 a := by
  unfold paceP
  rw [takeP_cut hc hs]
theorem boolP_of {xs post : List UInt8} {a : Nat} {b : Bool} (h : xs.drop a = [if b then 1 else 0] ++ post) (ha : a ≤ xs.length) : boolP xs a = .ok b (a + 1) := by
  unfold boolP
  rw [takeP_of (n := 1) h ha rfl, bigL_one]
  cases b <;> rfl
theorem boolP_cut {xs : List UInt8} {a c : Nat} (hc : c ≤ xs.length) (hs : c < a + 1) : boolP (xs.take c) a = .bad 6 a := by
  unfold boolP
  rw [takeP_cut hc hs]
/-- A thing that may be written. -/
structure Th.Good (x : Th) : Prop extends x.Ok where
  b : x.b.length ≤ 300
  pos : x.kind = 0 → 0 ≤ x.n
theorem Th.bytes_0 {x : Th} (h : x.kind = 0) : x.bytes = numL x.n.toNat := by simp [Th.bytes, Th.form, h]
theorem Th.bytes_1 {x : Th} (h : x.kind = 1 ∨ x.kind = 2) : x.bytes = numL x.b.length ++ x.b := by rcases h with h | h <;> simp [Th.bytes, Th.form, h]
theorem Th.bytes_3 {x : Th} (h : x.kind = 3) : x.bytes = x.h := by simp [Th.bytes, Th.form, h]
theorem Th.bytes_4 {x : Th} (h : x.kind = 4) : x.bytes = x.k := by simp [Th.bytes, Th.form, h]
theorem Th.bytes_5 {x : Th} (h : x.kind = 5) : x.bytes = wrdL x.wd := by simp [Th.bytes, Th.form, h]
theorem Th.bytes_6 {x : Th} (h : x.kind = 6) : x.bytes = wrdL (canon x.wd) := by simp [Th.bytes, Th.form, h]
theorem Th.bytes_7 {x : Th} (h : x.kind = 7) : x.bytes = [if x.is then 1 else 0] := by simp [Th.bytes, Th.form, h]
theorem Th.bytes_no {x : Th} (h : ¬ (0 ≤ x.kind ∧ x.kind ≤ 7)) : x.bytes = [] := by simp only [Th.bytes, if_neg h]
theorem back_0 {xs : List UInt8} {x : Th} {st : St} (h : x.kind = 0) : backS xs x st = (decide (((step (numP xs) 0 st).1 : Int) = x.n), (step (numP xs) 0 st).2) := by simp [backS, h]
theorem back_1 {xs : List UInt8} {x : Th} {st : St} (h : x.kind = 1 ∨ x.kind = 2) : backS xs x st = ((step (bytesP xs x.b.length) [] st).1 == x.b, (step (bytesP xs x.b.length) [] st).2) := by rcases h with h | h <;> simp [backS, h]
theorem back_3 {xs : List UInt8} {x : Th} {st : St} (h : x.kind = 3) : backS xs x st = ((step (fun a => takeP xs 32 a a id) (List.replicate 32 0) st).1 == x.h, (step (fun a => takeP xs 32 a a id) (List.replicate 32 0) st).2) := by simp [backS, h]
theorem back_4 {xs : List UInt8} {x : Th} {st : St} (h : x.kind = 4) : backS xs x st = ((step (fun a => takeP xs 4 a a id) (List.replicate 4 0) st).1 == x.k, (step (fun a => takeP xs 4 a a id) (List.replicate 4 0) st).2) := by simp [backS, h]
theorem back_5 {xs : List UInt8} {x : Th} {st : St} (h : x.kind = 5) : backS xs x st = ((step (fun a => takeP xs 8 a a bigL) 0 st).1 == x.wd, (step (fun a => takeP xs 8 a a bigL) 0 st).2) := by simp [backS, h]
theorem back_6 {xs : List UInt8} {x : Th} {st : St} (h : x.kind = 6) : backS xs x st = ((step (paceP xs) 0 st).1 == x.wd || (nanB (step (paceP xs) 0 st).1 && nanB x.wd), (step (paceP xs) 0 st).2) := by simp [backS, h]
theorem back_7 {xs : List UInt8} {x : Th} {st : St} (h : x.kind = 7) : backS xs x st = ((step (boolP xs) false st).1 == x.is, (step (boolP xs) false st).2) := by simp [backS, h]
theorem back_no {xs : List UInt8} {x : Th} {st : St} (h : ¬ (0 ≤ x.kind ∧ x.kind ≤ 7)) : backS xs x st = (true, st) := by
  unfold backS
  rw [if_neg (by omega), if_neg (by omega), if_neg (by omega), if_neg (by omega), if_neg (by omega), if_neg (by omega), if_neg (by omega)]
/-- A thing that was written is read as it was. -/
theorem back_of {xs post : List UInt8} {a : Nat} {x : Th} (hx : x.Good) (h : xs.drop a = x.bytes ++ post) (ha : a ≤ xs.length) : backS xs x (.at a) = (true, .at (a + x.bytes.length)) := by
  rcases kinds x with k | k | k | k | k | k | k | k | k
  · rw [Th.bytes_0 k] at h ⊢
    have hp := hx.pos k
    have hn := hx.n
    rw [back_0 k, step_ok (numP_of h ha (by omega))]
    simp; omega
  · rw [Th.bytes_1 (.inl k)] at h ⊢
    have := hx.b
    rw [back_1 (.inl k), step_ok (bytesP_of h ha (by omega))]
    simp
  · rw [Th.bytes_1 (.inr k)] at h ⊢
    have := hx.b
    rw [back_1 (.inr k), step_ok (bytesP_of h ha (by omega))]
    simp
  · rw [Th.bytes_3 k] at h ⊢
    rw [back_3 k, step_ok (takeP_of h ha hx.h), hx.h]
    simp
  · rw [Th.bytes_4 k] at h ⊢
    rw [back_4 k, step_ok (takeP_of h ha hx.k), hx.k]
    simp
  · rw [Th.bytes_5 k] at h ⊢
    rw [back_5 k, step_ok (takeP_of h ha (wrdL_len _)), bigL_wrd hx.wd, wrdL_len]
    simp
  · rw [Th.bytes_6 k] at h ⊢
    rw [back_6 k, step_ok (paceP_of h ha hx.wd), wrdL_len]
    cases hc : nanB x.wd
    · rw [canon_num hc]; simp
    · simp [nan_canon, hc]
  · rw [Th.bytes_7 k] at h ⊢
    rw [back_7 k, step_ok (boolP_of h ha)]
    simp
  · rw [Th.bytes_no k] at h ⊢
    rw [back_no k]
    simp
/-- A thing that was cut off is not read. -/
theorem back_cut {xs post : List UInt8} {a c : Nat} {x : Th} (hx : x.Good) (h : xs.drop a = x.bytes ++ post) (ha : a ≤ c) (hc : c ≤ xs.length) (hs : c < a + x.bytes.length) : (backS (xs.take c) x (.at a)).2 = .bad 6 a := by
  rcases kinds x with k | k | k | k | k | k | k | k | k
  · rw [Th.bytes_0 k] at h hs
    rw [back_0 k, step_bad (numP_cut h ha hc hs)]
  · rw [Th.bytes_1 (.inl k)] at h hs
    have := hx.b
    rw [back_1 (.inl k), step_bad (bytesP_cut h ha hc (by omega) hs)]
  · rw [Th.bytes_1 (.inr k)] at h hs
    have := hx.b
    rw [back_1 (.inr k), step_bad (bytesP_cut h ha hc (by omega) hs)]
  · rw [Th.bytes_3 k, hx.h] at hs
    rw [back_3 k, step_bad (takeP_cut hc hs)]
  · rw [Th.bytes_4 k, hx.k] at hs
    rw [back_4 k, step_bad (takeP_cut hc hs)]
  · rw [Th.bytes_5 k, wrdL_len] at hs
    rw [back_5 k, step_bad (takeP_cut hc hs)]
  · rw [Th.bytes_6 k, wrdL_len] at hs
    rw [back_6 k, step_bad (paceP_cut hc hs)]
  · rw [Th.bytes_7 k] at hs
    rw [back_7 k, step_bad (boolP_cut hc hs)]
  · rw [Th.bytes_no k] at hs
    simp at hs; omega
theorem back_bad {xs : List UInt8} {x : Th} {e f : Nat} : (backS xs x (.bad e f)).2 = .bad e f := by
  rcases kinds x with k | k | k | k | k | k | k | k | k
  · rw [back_0 k]; rfl
  · rw [back_1 (.inl k)]; rfl
  · rw [back_1 (.inr k)]; rfl
  · rw [back_3 k]; rfl
  · rw [back_4 k]; rfl
  · rw [back_5 k]; rfl
  · rw [back_6 k]; rfl
  · rw [back_7 k]; rfl
  · rw [back_no k]
/-- Where a reader of bytes that were cut off stands behind things: at their end, or it lacks bytes. -/
def CutAt (xs : List UInt8) (c m : Nat) (st : St) : Prop := (m ≤ c ∧ st = .at m) ∨ (c < m ∧ ∃ f, f ≤ c ∧ st = .bad 6 f)
theorem back_step {xs post : List UInt8} {m c : Nat} {x : Th} {st : St} (hx : x.Good) (h : xs.drop m = x.bytes ++ post) (hm : m ≤ xs.length) (hc : c ≤ xs.length) (hS : CutAt xs c m st) : CutAt xs c (m + x.bytes.length) (backS (xs.take c) x st).2 := by
  rcases hS with ⟨h1, rfl⟩ | ⟨h1, f, hf, rfl⟩
  · by_cases h2 : c < m + x.bytes.length
    · exact .inr ⟨h2, m, h1, back_cut hx h h1 hc h2⟩
    · have hd : (xs.take c).drop m = x.bytes ++ post.take (c - m - x.bytes.length) := by
        rw [List.drop_take, h, List.take_append, List.take_of_length_le (by omega)]
      exact .inl ⟨by omega, by rw [back_of hx hd (by rw [List.length_take]; omega)]⟩
  · exact .inr ⟨by omega, f, hf, back_bad⟩
end Go.Proofs.Ytooghjnddifpdaa
end
section
namespace Go.Proofs.Ytooghjnddifpdaa
open Go.RowKit Go.Proofs.Ytooghjnddifpdaa.Wi Go.Proofs.Ytooghjnddifpdaa.Pc
attribute [local go_sem] cell_alloc_some frozen_alloc_some
set_option linter.unusedSimpArgs false
set_option linter.unusedVariables false
theorem Keep.kb_new {S : Nat → Prop} {w w1 : World} {b : Nat} {o : Obj} (h : Keep S w w1) (hb : w.heap[b]? = some o) (_ : True) (hn : ¬ S b) : w1.heap[b]? = some o := h.kb hb hn
theorem bool_int (a b : Int) : (a == b) = decide (a = b) := by rw [Bool.eq_iff_iff]; simp

end Go.Proofs.Ytooghjnddifpdaa
end
section
namespace Go.Proofs.Ytooghjnddifpdaa
open Go.RowKit Go.Proofs.Ytooghjnddifpdaa.Wi Go.Proofs.Ytooghjnddifpdaa.Pc
attribute [local go_sem] cell_alloc_some frozen_alloc_some
set_option linter.unusedSimpArgs false
set_option linter.unusedVariables false

theorem Th.Good.fine {x : Th} (h : x.Good) : x.Fine := h.toOk.fine (by have := h.b; omega)
theorem Th.bytes_len {x : Th} (hx : x.Good) : x.bytes.length ≤ 309 := by
  have h9 := fun n => numL_len n
  have hb := hx.b
  rcases kinds x with k | k | k | k | k | k | k | k | k
  · rw [Th.bytes_0 k]; have := h9 x.n.toNat; omega
  · rw [Th.bytes_1 (.inl k), List.length_append]; have := h9 x.b.length; omega
  · rw [Th.bytes_1 (.inr k), List.length_append]; have := h9 x.b.length; omega
  · rw [Th.bytes_3 k, hx.h]; omega
  · rw [Th.bytes_4 k, hx.k]; omega
  · rw [Th.bytes_5 k, wrdL_len]; omega
  · rw [Th.bytes_6 k, wrdL_len]; omega
  · rw [Th.bytes_7 k]; simp
  · rw [Th.bytes_no k]; simp
theorem put_fits {lim : Int} {bs : List UInt8} {x : Th} (hx : x.Good) (hl : (bs.length : Int) + x.bytes.length ≤ lim) : ansT lim bs 0 x = 0 ∧ putT lim bs 0 x = ⟨bs ++ x.bytes, 0⟩ := by
  unfold ansT putT
  by_cases hk : 0 ≤ x.kind ∧ x.kind ≤ 7
  · have hm : x.may = true := by
      unfold Th.may
      split
      · rename_i h; exact decide_eq_true (hx.pos h)
      · rfl
    have hb : x.bytes = x.form := by simp only [Th.bytes, if_pos hk]
    rw [hb] at hl ⊢
    rw [if_pos hk, if_pos hk, hm]
    unfold putS
    rw [if_neg (by simp), if_neg (by simp), if_neg (by omega)]
    exact ⟨rfl, rfl⟩
  · have hb : x.bytes = [] := Th.bytes_no hk
    rw [if_neg hk, if_neg hk, hb, List.append_nil]
    exact ⟨rfl, rfl⟩
/-- The bytes of things, one behind the other. -/
def catB (l : List Th) : List UInt8 := (l.map Th.bytes).flatten
theorem catB_next {l : List Th} {k : Nat} {x : Th} (h : l[k]? = some x) : catB (l.take (k + 1)) = catB (l.take k) ++ x.bytes := by
  unfold catB
  rw [List.take_add_one, h]
  simp
theorem catB_drop {l : List Th} {k : Nat} {x : Th} (h : l[k]? = some x) : (catB l).drop (catB (l.take k)).length = x.bytes ++ catB (l.drop (k + 1)) := by
  have hk : k < l.length := (List.getElem?_eq_some_iff.1 h).1
  have e : catB l = catB (l.take k) ++ (x.bytes ++ catB (l.drop (k + 1))) := by
    unfold catB
    have hl : l = l.take k ++ (x :: l.drop (k + 1)) := by
      have h1 := List.take_append_drop k l
      rw [List.drop_eq_getElem_cons hk] at h1
      have : l[k] = x := by rw [List.getElem?_eq_getElem hk] at h; simpa using h
      rw [this] at h1
      exact h1.symm
    conv => lhs; rw [hl]
    simp
  rw [e, List.drop_left]
theorem catB_le {l : List Th} {k : Nat} {x : Th} (h : l[k]? = some x) : (catB (l.take k)).length + x.bytes.length ≤ (catB l).length := by
  have := congrArg List.length (catB_drop h)
  have hk : k < l.length := (List.getElem?_eq_some_iff.1 h).1
  have h2 : (catB (l.take k)).length ≤ (catB l).length := by
    unfold catB
    rw [← List.take_append_drop k l]
    simp only [List.map_append, List.flatten_append, List.length_append, List.take_left' (List.length_take_of_le (Nat.le_of_lt hk))]
    omega
  rw [List.length_drop, List.length_append] at this
  omega
theorem catB_len {l : List Th} (h : ∀ x ∈ l, x.Good) : (catB l).length ≤ l.length * 309 := by
  induction l with
  | nil => simp [catB]
  | cons x r ih =>
    have h1 := ih fun y hy => h y (by simp [hy])
    have h2 := Th.bytes_len (h x (by simp))
    unfold catB at h1 ⊢
    simp only [List.map_cons, List.flatten_cons, List.length_append, List.length_cons]
    omega
end Go.Proofs.Ytooghjnddifpdaa
end
section
namespace Go.Proofs.Ytooghjnddifpdaa
open Go.RowKit Go.Proofs.Ytooghjnddifpdaa.Wi Go.Proofs.Ytooghjnddifpdaa.Pc
attribute [local go_sem] cell_alloc_some frozen_alloc_some
set_option linter.unusedSimpArgs false
set_option linter.unusedVariables false

theorem head_run {w : World} {B : Nat} {A : Option Addr} {cap : Nat} {xs : List UInt8} (h : w.ownsRow B 5 1 (.slice A xs.length cap) xs.length (u8s xs)) (n : Nat) (hk : n ≤ xs.length) :
    ∃ A', (∀ W : World, (Instr.sliceAt 58 (.slice A xs.length cap) none (some (.int .i64 (n : Int))) none).run Try.prog W = .ok (.slice A' n cap) W) ∧
      ∀ W : World, W.ownsRow B 5 1 (.slice A xs.length cap) xs.length (u8s xs) → BytesOf W (.slice A' n cap) (xs.take n) := by
  have hA : xs.length ≤ cap ∧ (0 < xs.length → ∃ g, A = some ⟨g, 0, none⟩) := by
    rcases h.2 with ⟨e, h0⟩ | ⟨g, c, cur, e, _, _, h1, h2, _, _⟩
    · simp only [Value.slice.injEq] at e; omega
    · simp only [Value.slice.injEq] at e
      obtain ⟨rfl, _, rfl⟩ := e
      exact ⟨by omega, fun _ => ⟨g, rfl⟩⟩
  refine ⟨if cap = 0 then A else A.map (·.add 0), fun W => ?_, fun W hW => ?_⟩
  · have hel : Try.prog.elem 58 = 5 := by kernel_rfl
    have hue : Try.prog.underlying 58 = some (.slice (Try.prog.elem 58)) := by rw [hel]; exact Try.underlying58
    rw [run_sliceAt_slice W _ _ _ _ _ hue, run_slice_h W _ _ _ _ hue _ _ (by omega) (by omega), hel]
    obtain ⟨i0, hi, hz0, hz1, hz2⟩ := info_parts infoU
    have hsz : (sizeOf 5).run Try.prog W = .ok 1 W := by simp [sizeOf, typeInfo, hi, hz1]
    rw [hsz]
    simp [Result.andThen, sliced]
  · have := sub_bytes hW 0 n (by omega) rfl (if cap = 0 then A else A.map (·.add 0)) cap fun h0 => by
      obtain ⟨g, rfl⟩ := hA.2 (by omega)
      refine ⟨g, rfl, ?_⟩
      rw [if_neg (by omega), Option.map_some, addr_add, Nat.zero_add]
    simpa using this
end Go.Proofs.Ytooghjnddifpdaa
end
section
namespace Go.Proofs.Ytooghjnddifpdaa
open Go.RowKit Go.Proofs.Ytooghjnddifpdaa.Wi Go.Proofs.Ytooghjnddifpdaa.Pc
set_option linter.unusedSimpArgs false
set_option linter.unusedVariables false

theorem bigL_lt' (l : List UInt8) : bigL l < 256 ^ l.length := by
  have := bigL_lt l l.length (Nat.le_refl _)
  rwa [List.take_length] at this
theorem bigL_inj : ∀ {a b : List UInt8}, a.length = b.length → bigL a = bigL b → a = b := by
  intro a
  induction a with
  | nil => intro b h _; exact (List.eq_nil_of_length_eq_zero h.symm).symm
  | cons c r ih =>
    intro b h e
    cases b with
    | nil => simp at h
    | cons d s =>
      have hl : r.length = s.length := by simpa using h
      rw [bigL_cons, bigL_cons, hl] at e
      have h1 := bigL_lt' r
      have h2 := bigL_lt' s
      rw [hl] at h1
      have hcd : c.toNat = d.toNat := by
        have e1 : (c.toNat * 256 ^ s.length + bigL r) / 256 ^ s.length = c.toNat := by rw [Nat.mul_comm, Nat.mul_add_div (by exact Nat.pow_pos (by omega)), Nat.div_eq_of_lt h1]; rfl
        have e2 : (d.toNat * 256 ^ s.length + bigL s) / 256 ^ s.length = d.toNat := by rw [Nat.mul_comm, Nat.mul_add_div (by exact Nat.pow_pos (by omega)), Nat.div_eq_of_lt h2]; rfl
        rw [← e1, ← e2, e]
      rw [hcd] at e
      rw [ih hl (by omega), UInt8.toNat_inj.1 hcd]
theorem wrd_big {l : List UInt8} (h : l.length = 8) : wrdL (bigL l) = l := by
  have hl := bigL_lt' l
  rw [h] at hl
  exact bigL_inj (by rw [wrdL_len, h]) (bigL_wrd (by omega))
theorem bigL_pos {l : List UInt8} (h : fb l ≠ 0) (h0 : l ≠ []) : bigL l ≠ 0 := by
  cases l with
  | nil => exact absurd rfl h0
  | cons c r =>
    rw [bigL_cons]
    have h1 : c ≠ 0 := h
    have h2 : c.toNat ≠ 0 := fun e => h1 (UInt8.toNat_inj.1 (by simpa using e))
    have h3 : 0 < 256 ^ r.length := Nat.pow_pos (by omega)
    have := Nat.mul_pos (Nat.pos_of_ne_zero h2) h3
    omega
theorem les_big : ∀ (r : List UInt8) (m : Nat), r.length ≤ m → fb r.reverse ≠ 0 → les m (bigL r.reverse) = r := by
  intro r
  induction r with
  | nil => intro m _ _; rw [List.reverse_nil, bigL_nil, les_zero]
  | cons c t ih =>
    intro m hm hf
    cases m with
    | zero => simp at hm
    | succ m =>
      have hne : bigL (c :: t).reverse ≠ 0 := bigL_pos hf (by simp)
      rw [les_succ _ _ hne]
      rw [List.reverse_cons, bigL_snoc]
      have hc := c.toNat_lt
      have e1 : UInt8.ofNat (bigL t.reverse * 256 + c.toNat) = c := by
        apply UInt8.toNat_inj.1
        rw [ofNat_toNat]
        omega
      have e2 : (bigL t.reverse * 256 + c.toNat) / 256 = bigL t.reverse := by omega
      rw [e1, e2, ih m (by simpa using hm)]
      by_cases ht : t = []
      · subst ht; simp [fb]
      · rw [List.reverse_cons, fb_append _ _ (by simpa using ht)] at hf
        exact hf
theorem take_next {xs : List UInt8} {a a' : Nat} (h : a ≤ a') : xs.take a ++ (xs.drop a).take (a' - a) = xs.take a' := by
  rw [← List.drop_take, show xs.take a = (xs.take a').take a by rw [List.take_take, Nat.min_eq_left h], List.take_append_drop]
theorem seg_next {xs : List UInt8} {a b c : Nat} (h : a ≤ b) (h' : b ≤ c) : (xs.drop a).take (b - a) ++ (xs.drop b).take (c - b) = (xs.drop a).take (c - a) := by
  have e : xs.drop b = (xs.drop a).drop (b - a) := by rw [List.drop_drop, show a + (b - a) = b by omega]
  have := take_next (xs := xs.drop a) (a := b - a) (a' := c - a) (by omega)
  rw [e, show c - b = c - a - (b - a) by omega]
  exact this
/-- What is read of a to a' is that form. -/
def Is (xs : List UInt8) (a a' : Nat) (f : List UInt8) : Prop := a ≤ a' ∧ a' ≤ xs.length ∧ f = (xs.drop a).take (a' - a)
theorem takeP_one {α : Type} {xs : List UInt8} {n a f a' : Nat} {k : List UInt8 → α} {v : α} (h : takeP xs n a f k = .ok v a') : a' = a + n ∧ a' ≤ xs.length ∧ v = k ((xs.drop a).take n) ∧ ((xs.drop a).take n).length = n := by
  unfold takeP at h
  split at h
  · injection h with h1 h2
    exact ⟨h2.symm, by omega, h1.symm, by rw [List.length_take, List.length_drop]; omega⟩
  · injection h
theorem numP_one {xs : List UInt8} {a n a' : Nat} (h : numP xs a = .ok n a') : Is xs a a' (numL n) := by
  unfold numP at h
  split at h
  · injection h
  rename_i h1
  split at h
  · injection h
  rename_i h2
  split at h
  · injection h
  rename_i h3
  split at h
  · injection h
  rename_i h4
  injection h with e1 e2
  have hk : (nAt xs a (kAt xs a)).length = kAt xs a := by unfold nAt; rw [List.length_take, List.length_drop]; omega
  have hf : fb (nAt xs a (kAt xs a)) ≠ 0 := fun e => h4 (.inl (by unfold zAt; simpa using e))
  have hles := les_big (nAt xs a (kAt xs a)).reverse 8 (by rw [List.length_reverse, hk]; omega) (by rw [List.reverse_reverse]; exact hf)
  rw [List.reverse_reverse, e1] at hles
  refine ⟨by omega, by omega, ?_⟩
  rw [numL_eq, hles, List.length_reverse, List.reverse_reverse, hk]
  have hd : xs.drop a = xs[a] :: xs.drop (a + 1) := List.drop_eq_getElem_cons (by omega)
  have hka : kAt xs a = (xs[a]).toNat := by unfold kAt; rw [hd, List.take_succ_cons, List.take_zero, bigL_one]
  rw [hd, show a' - a = kAt xs a + 1 by omega, List.take_succ_cons]
  unfold nAt
  congr 1
  apply UInt8.toNat_inj.1
  rw [ofNat_toNat, hka]
  have := (xs[a]).toNat_lt
  omega
theorem bytesP_one {xs : List UInt8} {most : Int} {a a' : Nat} {l : List UInt8} (h : bytesP xs most a = .ok l a') : Is xs a a' (numL l.length ++ l) := by
  unfold bytesP at h
  cases hn : numP xs a with
  | bad e f => rw [hn] at h; injection h
  | ok n a1 =>
    rw [hn] at h
    simp only at h
    split at h
    · obtain ⟨h1, h2, h3⟩ := numP_one hn
      obtain ⟨e1, e2, e3, e4⟩ := takeP_one h
      simp only [id] at e3
      have hl : l.length = n := by rw [e3, e4]
      refine ⟨by omega, e2, ?_⟩
      rw [hl, h3, e3, ← seg_next h1 (show a1 ≤ a' by omega), show a' - a1 = n by omega]
    · injection h
theorem word_one {xs : List UInt8} {a a' n : Nat} (h : takeP xs 8 a a bigL = .ok n a') : Is xs a a' (wrdL n) ∧ n < 18446744073709551616 := by
  obtain ⟨e1, e2, e3, e4⟩ := takeP_one h
  have hl := bigL_lt' ((xs.drop a).take 8)
  rw [e4] at hl
  refine ⟨⟨by omega, e2, ?_⟩, by omega⟩
  rw [e3, wrd_big e4, show a' - a = 8 by omega]
theorem pace_one {xs : List UInt8} {a a' n : Nat} (h : paceP xs a = .ok n a') : Is xs a a' (wrdL (canon n)) ∧ n < 18446744073709551616 := by
  unfold paceP at h
  cases ht : takeP xs 8 a a bigL with
  | bad e f => rw [ht] at h; injection h
  | ok m a1 =>
    rw [ht] at h
    simp only at h
    split at h
    · injection h
    · rename_i hnot
      injection h with h1 h2
      subst h1; subst h2
      have hc : canon m = m := by
        cases hb : nanB m
        · exact canon_num hb
        · rw [canon_nan hb]
          by_cases e : m = 9221120237041090560
          · rw [e]; rfl
          · exact absurd ⟨hb, e⟩ hnot
      rw [hc]
      exact word_one ht
theorem bool_one {xs : List UInt8} {a a' : Nat} {b : Bool} (h : boolP xs a = .ok b a') : Is xs a a' [if b then 1 else 0] := by
  unfold boolP at h
  cases ht : takeP xs 1 a a bigL with
  | bad e f => rw [ht] at h; injection h
  | ok m a1 =>
    rw [ht] at h
    simp only at h
    split at h
    · rename_i hle
      injection h with h1 h2
      subst h1; subst h2
      obtain ⟨e1, e2, e3, e4⟩ := takeP_one ht
      refine ⟨by omega, e2, ?_⟩
      rw [show a1 - a = 1 by omega]
      obtain ⟨c, hc⟩ : ∃ c, (xs.drop a).take 1 = [c] := by
        match hq : (xs.drop a).take 1, e4 with
        | [c], _ => exact ⟨c, rfl⟩
      rw [hc, bigL_one] at e3
      rw [hc]
      have : c = if m == 1 then 1 else 0 := by
        apply UInt8.toNat_inj.1
        rcases (show m = 0 ∨ m = 1 by omega) with hm | hm
        · subst hm; rw [← e3]; rfl
        · subst hm; rw [← e3]; rfl
      rw [← this]
    · injection h
theorem put_fit {lim : Int} {bs : List UInt8} {x : Th} (hp : x.kind = 0 → 0 ≤ x.n) (hk : 0 ≤ x.kind ∧ x.kind ≤ 7) (hl : (bs.length : Int) + x.form.length ≤ lim) : ansT lim bs 0 x = 0 ∧ putT lim bs 0 x = ⟨bs ++ x.form, 0⟩ := by
  unfold ansT putT
  have hm : x.may = true := by
    unfold Th.may
    split
    · rename_i h; exact decide_eq_true (hp h)
    · rfl
  rw [if_pos hk, if_pos hk, hm]
  unfold putS
  rw [if_neg (by simp), if_neg (by simp), if_neg (by omega)]
  exact ⟨rfl, rfl⟩
theorem Is.next {xs f : List UInt8} {a a' : Nat} (h : Is xs a a' f) : xs.take a ++ f = xs.take a' := by
  obtain ⟨h1, h2, rfl⟩ := h
  exact take_next h1
theorem Is.len {xs f : List UInt8} {a a' : Nat} (h : Is xs a a' f) : (xs.take a).length + f.length = a' := by
  have := congrArg List.length h.next
  obtain ⟨h1, h2, _⟩ := h
  rw [List.length_append, List.length_take (i := a'), Nat.min_eq_left h2] at this
  exact this
end Go.Proofs.Ytooghjnddifpdaa
end
section
namespace Go.Proofs.Ytooghjnddifpdaa
open Go.RowKit Go.Proofs.Ytooghjnddifpdaa.Wi Go.Proofs.Ytooghjnddifpdaa.Pc
attribute [local go_sem] cell_alloc_some frozen_alloc_some
set_option linter.unusedSimpArgs false
set_option linter.unusedVariables false

def AgainP (w : World) (Br pr : Nat) (sr : Value) (Bw pw : Nat) (sw : Value) (xs : List UInt8) (e : Ending) (w' : World) : Prop :=
  ∃ (ok : Bool) (st : St), e = .returned (.bool ok) ∧ RdO w' Br pr sr xs st ∧ Keep (fun b => b = pr ∨ WrS pw sw b) w w' ∧
   (ok = true → ∃ a' sw', st = .at a' ∧ Wr w' Bw pw 1048576 (xs.take a') 0 sw' ∧ (∀ b, sw'.ownBlock = some b → sw.ownBlock = some b ∨ w.heap.size ≤ b)) ∧
   (ok = false → ∃ er f, er ≠ 0 ∧ st = .bad er f ∧ ∃ bs e sw', Wr w' Bw pw 1048576 bs e sw')
def thZ (k : Int) : Th := ⟨k, 0, [], List.replicate 32 0, List.replicate 4 0, 0, false⟩
theorem thZ_cells (k : Int) : #[Value.int IntKind.i64 k, Value.int IntKind.i64 0, Value.slice none 0 0, Value.int IntKind.u8 0, Value.int IntKind.u8 0, Value.int IntKind.u8 0, Value.int IntKind.u8 0, Value.int IntKind.u8 0, Value.int IntKind.u8 0, Value.int IntKind.u8 0, Value.int IntKind.u8 0, Value.int IntKind.u8 0, Value.int IntKind.u8 0, Value.int IntKind.u8 0, Value.int IntKind.u8 0, Value.int IntKind.u8 0, Value.int IntKind.u8 0, Value.int IntKind.u8 0, Value.int IntKind.u8 0, Value.int IntKind.u8 0, Value.int IntKind.u8 0, Value.int IntKind.u8 0, Value.int IntKind.u8 0, Value.int IntKind.u8 0, Value.int IntKind.u8 0, Value.int IntKind.u8 0, Value.int IntKind.u8 0, Value.int IntKind.u8 0, Value.int IntKind.u8 0, Value.int IntKind.u8 0, Value.int IntKind.u8 0, Value.int IntKind.u8 0, Value.int IntKind.u8 0, Value.int IntKind.u8 0, Value.int IntKind.u8 0, Value.int IntKind.u8 0, Value.int IntKind.u8 0, Value.int IntKind.u8 0, Value.int IntKind.u8 0, Value.int IntKind.u64 0, Value.bool false] = ((thZ k).cells (.slice none 0 0)).toArray := rfl

-- ARMS
/-- A whole struct is read by an operation whose guard says yes. -/
theorem wpList_load_want {P : Program} {ops : Array Oper} {rest : List Oper} {op : Oper} {a : Act} {w : World} {Q : Exit → Act → World → Prop} (ty : TypeId) (x : Operand) (ho : op.op = .load ty x) (hw : Region.wanted op (yielded ops a.tmps) = true)
    (b o : Nat) (hx : a.eval x = .pointer (some ⟨b, o, none⟩)) (cs : List Value) (d : TypeDesc) (hc : w.rangeAt b o cs) (hu : P.underlying ty = some d) (hd : d.isRow = true) (hi : (P.info? ty).map (·.size) = some cs.length)
    (h : wpList P ops Q rest (a.put op.dst (.agg cs.toArray)) w) : wpList P ops Q (op :: rest) a w :=
  BigFrame.wpList_want hw fun _ hK => wp_load_mid ty x ho b o hx cs d hc hu hd hi (hK _ _ h)
theorem Keep.cells {S : Nat → Prop} {w w1 : World} {b : Nat} {o : Obj} (h : Keep S w w1) (hb : w.heap[b]? = some o) (hn : ¬ S b) : w1.heap[b]? = some o := h.kb hb hn
theorem setMid (l : List UInt8) : ∀ (c : Array Value) (o : Nat), o + l.length ≤ c.size → ∀ j, (updC c o (u8s l))[j]? = if o ≤ j ∧ j < o + l.length then (u8s l)[j - o]? else c[j]? := fun c o h j => by
  have := updC_get (u8s l) c o (by rw [u8s_len]; exact h) j
  rwa [u8s_len] at this
theorem setH (k : Int) (q : List UInt8) (hq : q.length = 32) : updC ((thZ k).cells (.slice none 0 0)).toArray 3 (u8s q) = (({ thZ k with h := q } : Th).cells (.slice none 0 0)).toArray := by
  apply Array.ext_getElem?
  intro j
  rw [setMid _ _ _ (by simp [Th.cells, thZ, u8s_len, hq])]
  split
  · rename_i h
    have hj : j - 3 < 32 := by omega
    have e : (u8s q)[j - 3]? = some (u8v (q[j - 3]'(by omega))) := u8s_get q _ (by omega)
    rw [e]
    have := Th.ch (x := { thZ k with h := q }) ⟨by show (0 : Int) < _; omega, by simp [thZ], hq, by simp [thZ], by simp [thZ]⟩ (.slice none 0 0) (j - 3) _ e
    rw [show 3 + (j - 3) = j by omega] at this
    simpa using this.symm
  · rename_i h
    simp only [Th.cells, thZ, List.getElem?_toArray]
    match j with
    | 0 => rfl
    | 1 => rfl
    | 2 => rfl
    | j + 3 =>
      simp only [List.getElem?_cons_succ]
      rw [List.getElem?_append_right (l₁ := u8s (List.replicate 32 0)) (by rw [u8s_len, List.length_replicate]; omega), List.getElem?_append_right (l₁ := u8s q) (by rw [u8s_len, hq]; omega), u8s_len, u8s_len, hq, List.length_replicate]
theorem setK (k : Int) (q : List UInt8) (hq : q.length = 4) : updC ((thZ k).cells (.slice none 0 0)).toArray 35 (u8s q) = (({ thZ k with k := q } : Th).cells (.slice none 0 0)).toArray := by
  match q, hq with
  | [c0, c1, c2, c3], _ => rfl

end Go.Proofs.Ytooghjnddifpdaa
end
section
namespace Go.Proofs.Ytooghjnddifpdaa
open Go.RowKit Go.Proofs.Ytooghjnddifpdaa.Wi Go.Proofs.Ytooghjnddifpdaa.Pc
attribute [local go_sem] cell_alloc_some frozen_alloc_some
set_option linter.unusedSimpArgs false
set_option linter.unusedVariables false

/-- A slice of ints that came in. -/
def IntRow (w : World) (A : Option Addr) (zs : List Int) : Prop := 0 < zs.length → ∃ b off, A = some ⟨b, off, none⟩ ∧ b < w.heap.size ∧ ∀ i z, zs[i]? = some z → w.cell? ⟨b, off + i, none⟩ = some (.int .i64 z)
theorem head_any {A : Option Addr} {cap : Nat} {l : List UInt8} (hcap : l.length ≤ cap) (n : Nat) (hn : n ≤ l.length) :
    ∃ A', (∀ W : World, (Instr.sliceAt 58 (.slice A l.length cap) none (some (.int .i64 (n : Int))) none).run Try.prog W = .ok (.slice A' n cap) W) ∧ ∀ W : World, BytesOf W (.slice A l.length cap) l → BytesOf W (.slice A' n cap) (l.take n) := by
  refine ⟨if cap = 0 then A else A.map (·.add 0), fun W => ?_, fun W hW => ?_⟩
  · have hel : Try.prog.elem 58 = 5 := by kernel_rfl
    have hue : Try.prog.underlying 58 = some (.slice (Try.prog.elem 58)) := by rw [hel]; exact Try.underlying58
    rw [run_sliceAt_slice W _ _ _ _ _ hue, run_slice_h W _ _ _ _ hue _ _ (by omega) (by omega), hel]
    obtain ⟨i0, hi, hz0, hz1, hz2⟩ := info_parts infoU
    have hsz : (sizeOf 5).run Try.prog W = .ok 1 W := by simp [sizeOf, typeInfo, hi, hz1]
    rw [hsz]
    simp [Result.andThen, sliced]
  · have hl : (l.take n).length = n := by rw [List.length_take]; omega
    obtain ⟨A0, c0, e, _, hc⟩ := hW
    simp only [Value.slice.injEq] at e
    obtain ⟨rfl, _, rfl⟩ := e
    refine ⟨_, _, by rw [hl], u8s_len _, fun h0 => ?_⟩
    rw [hl] at h0
    obtain ⟨b, off, rfl, hb, hcc⟩ := hc (by omega)
    refine ⟨b, off, ?_, hb, fun j u hu => hcc j u ?_⟩
    · rw [if_neg (by omega), Option.map_some, addr_add, Nat.add_zero]
    · rw [← u8s_take] at hu
      rw [List.getElem?_take] at hu
      split at hu
      · exact hu
      · cases hu
theorem run_field0 (W : World) (x y : Int) : (Instr.field 61 (.agg #[.int .i64 x, .int .i64 y]) 0).run Try.prog W = .ok (.int .i64 x) W := by
  unfold Instr.field
  simp only [Sem.run_bind, run_underlying Try.underlying61 W, Result.andThen_ok]
  exact run_part_plain W (by kernel_rfl) rfl
end Go.Proofs.Ytooghjnddifpdaa
end
