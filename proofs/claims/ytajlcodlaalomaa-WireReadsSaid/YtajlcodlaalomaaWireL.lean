/- Plain: what is written is read as it was; cut off it is not; what is read is written as it stood. -/
import Derived.Test.YtajlcodlaalomaaWire24
namespace Go.Proofs.Ytajlcodlaalomaa
open Go.RowKit Go.Proofs.Ytajlcodlaalomaa.Wi Go.Proofs.Ytajlcodlaalomaa.Pc
set_option linter.unusedSimpArgs false
set_option linter.unusedVariables false

theorem bigL_nil : bigL [] = 0 := rfl
theorem bigL_fold (l : List UInt8) : ∀ i, l.foldl (fun n c => n * 256 + c.toNat) i = i * 256 ^ l.length + bigL l := by
  induction l with
  | nil => intro i; simp [bigL]
  | cons c r ih =>
    intro i
    unfold bigL
    rw [List.foldl_cons, List.foldl_cons, ih, ih, List.length_cons, Nat.pow_succ, Nat.add_mul, Nat.zero_mul, Nat.zero_add, Nat.mul_assoc, Nat.mul_comm 256 (256 ^ r.length)]
    omega
theorem bigL_append (a b : List UInt8) : bigL (a ++ b) = bigL a * 256 ^ b.length + bigL b := by
  conv => lhs; unfold bigL
  rw [List.foldl_append, bigL_fold b]
  rfl
theorem bigL_one (c : UInt8) : bigL [c] = c.toNat := by simp [bigL]
theorem bigL_cons (c : UInt8) (l : List UInt8) : bigL (c :: l) = c.toNat * 256 ^ l.length + bigL l := by
  rw [show c :: l = [c] ++ l from rfl, bigL_append, bigL_one]
theorem les_zero (k : Nat) : les k 0 = [] := by cases k <;> simp [les]
theorem les_succ (k n : Nat) (h : n ≠ 0) : les (k + 1) n = UInt8.ofNat n :: les k (n / 256) := by simp [les, h]
theorem ofNat_toNat (n : Nat) : (UInt8.ofNat n).toNat = n % 256 := by rw [UInt8.toNat_ofNat']
theorem bigL_les (k : Nat) : ∀ n, n < 256 ^ k → bigL (les k n).reverse = n := by
  induction k with
  | zero => intro n h; have : n = 0 := by simpa using h
            subst this; rfl
  | succ k ih =>
    intro n h
    by_cases h0 : n = 0
    · subst h0; rw [les_zero]; rfl
    · rw [les_succ k n h0, List.reverse_cons, bigL_snoc, ih _ (by rw [Nat.pow_succ] at h; omega), ofNat_toNat]; omega
theorem fb_append (a b : List UInt8) (h : a ≠ []) : fb (a ++ b) = fb a := by
  cases a with
  | nil => exact absurd rfl h
  | cons c r => rfl
theorem les_nil (k n : Nat) (h : n < 256 ^ k) : les k n = [] ↔ n = 0 := by
  cases k with
  | zero => simp [les]; simpa using h
  | succ k =>
    by_cases h0 : n = 0
    · subst h0; simp [les]
    · rw [les_succ k n h0]; simp [h0]
theorem fb_les (k : Nat) : ∀ n, n < 256 ^ k → fb (les k n).reverse ≠ 0 := by
  induction k with
  | zero => intro n h; simp [les, fb]
  | succ k ih =>
    intro n h
    by_cases h0 : n = 0
    · subst h0; rw [les_zero]; simp [fb]
    · have hq : n / 256 < 256 ^ k := by rw [Nat.pow_succ] at h; omega
      rw [les_succ k n h0, List.reverse_cons]
      by_cases he : les k (n / 256) = []
      · rw [he]
        have := (les_nil k _ hq).1 he
        intro e
        have e := congrArg UInt8.toNat e
        simp only [fb, List.reverse_nil, List.nil_append] at e
        rw [ofNat_toNat] at e
        have : (0 : UInt8).toNat = 0 := rfl
        omega
      · rw [fb_append _ _ (by simpa using he)]
        exact ih _ hq
theorem drop_add {xs l post : List UInt8} {a k : Nat} (h : xs.drop a = l ++ post) (hk : l.length = k) : xs.drop (a + k) = post := by
  rw [← List.drop_drop, h, ← hk, List.drop_left]
theorem len_of_drop {xs l post : List UInt8} {a : Nat} (h : xs.drop a = l ++ post) (ha : a ≤ xs.length) : a + l.length + post.length = xs.length := by
  have := congrArg List.length h
  rw [List.length_drop, List.length_append] at this
  omega
theorem take_of_drop {xs l post : List UInt8} {a k : Nat} (h : xs.drop a = l ++ post) (hk : l.length = k) : (xs.drop a).take k = l := by
  rw [h, ← hk, List.take_left]

theorem numL_eq (n : Nat) : numL n = UInt8.ofNat (les 8 n).length :: (les 8 n).reverse := rfl
theorem kAt_of {xs r : List UInt8} {a k : Nat} (h : xs.drop a = UInt8.ofNat k :: r) (hk : k < 256) : kAt xs a = k := by
  unfold kAt
  rw [h]
  simp only [List.take_succ_cons, List.take_zero]
  rw [bigL_one, ofNat_toNat]
  omega
/-- A number that is written is read. -/
theorem numP_of {xs post : List UInt8} {a n : Nat} (h : xs.drop a = numL n ++ post) (ha : a ≤ xs.length) (hn : n < 9223372036854775808) : numP xs a = .ok n (a + (numL n).length) := by
  have hl := len_of_drop h ha
  have h8 := les_len 8 n
  have hL : (numL n).length = (les 8 n).length + 1 := by simp [numL]
  have hb := bigL_les 8 n (by omega)
  have hf := fb_les 8 n (by omega)
  rw [numL_eq, List.cons_append] at h
  have hk := kAt_of h (by omega)
  have hd : xs.drop (a + 1) = (les 8 n).reverse ++ post := drop_add (l := [UInt8.ofNat (les 8 n).length]) h rfl
  have hN : nAt xs a (les 8 n).length = (les 8 n).reverse := take_of_drop hd (by simp)
  unfold numP
  rw [hk, hN, hb, if_neg (by omega), if_neg (by omega), if_neg (by omega), if_neg, hL]
  · congr 1; omega
  · rintro (h1 | h1)
    · unfold zAt at h1; rw [hN] at h1; exact hf (by simpa using h1)
    · omega
/-- Cut off, it is not. -/
theorem numP_cut {xs post : List UInt8} {a n c : Nat} (h : xs.drop a = numL n ++ post) (ha : a ≤ c) (hc : c ≤ xs.length) (hs : c < a + (numL n).length) : numP (xs.take c) a = .bad 6 a := by
  have h8 := les_len 8 n
  have hL : (numL n).length = (les 8 n).length + 1 := by simp [numL]
  have hlen : (xs.take c).length = c := by rw [List.length_take]; omega
  unfold numP
  rw [hlen]
  by_cases h1 : c < a + 1
  · rw [if_pos h1]
  · have hd : (xs.take c).drop a = UInt8.ofNat (les 8 n).length :: ((les 8 n).reverse ++ post).take (c - a - 1) := by
      rw [List.drop_take, h, numL_eq, show c - a = (c - a - 1) + 1 by omega]
      rfl
    rw [if_neg h1, kAt_of hd (by omega), if_neg (by omega), if_pos (by omega)]
theorem takeP_of {α : Type} {xs l post : List UInt8} {a n f : Nat} {k : List UInt8 → α} (h : xs.drop a = l ++ post) (ha : a ≤ xs.length) (hl : l.length = n) : takeP xs n a f k = .ok (k l) (a + n) := by
  unfold takeP
  have := len_of_drop h ha
  rw [if_pos (by omega), take_of_drop h hl]
theorem takeP_cut {α : Type} {xs : List UInt8} {a n f c : Nat} {k : List UInt8 → α} (hc : c ≤ xs.length) (hs : c < a + n) : takeP (xs.take c) n a f k = .bad 6 f := by
  unfold takeP
  rw [List.length_take, if_neg (by omega)]
theorem bytesP_of {xs l post : List UInt8} {a : Nat} (h : xs.drop a = numL l.length ++ l ++ post) (ha : a ≤ xs.length) (hn : l.length < 9223372036854775808) : bytesP xs l.length a = .ok l (a + (numL l.length ++ l).length) := by
  rw [List.append_assoc] at h
  have h2 := drop_add h rfl
  unfold bytesP
  rw [numP_of h ha hn]
  simp only
  rw [if_pos (by omega), takeP_of h2 (by have := len_of_drop h ha; omega) rfl, List.length_append]
  congr 1
  omega
theorem bytesP_cut {xs l post : List UInt8} {a c : Nat} (h : xs.drop a = numL l.length ++ l ++ post) (ha : a ≤ c) (hc : c ≤ xs.length) (hn : l.length < 9223372036854775808) (hs : c < a + (numL l.length ++ l).length) : bytesP (xs.take c) l.length a = .bad 6 a := by
  rw [List.append_assoc] at h
  rw [List.length_append] at hs
  unfold bytesP
  by_cases h1 : c < a + (numL l.length).length
  · rw [numP_cut h ha hc h1]
  · have hlen : (xs.take c).length = c := by rw [List.length_take]; omega
    have hd : (xs.take c).drop a = numL l.length ++ (l ++ post).take (c - a - (numL l.length).length) := by
      rw [List.drop_take, h, List.take_append, List.take_of_length_le (by omega)]
    rw [numP_of hd (by omega) hn]
    simp only
    rw [if_pos (by omega), takeP_cut hc (by omega)]
theorem bigL_pre (n k : Nat) : bigL (pre n k) = n % 256 ^ k := by
  induction k with
  | zero => simp [pre, bigL, Nat.mod_one]
  | succ k ih =>
    rw [pre_next, bigL_cons, ih, pre_len, ofNat_toNat, Nat.pow_succ, Nat.mod_mul, Nat.mul_comm]
    omega
theorem bigL_wrd {n : Nat} (h : n < 18446744073709551616) : bigL (wrdL n) = n := by
  rw [pre_8, bigL_pre, Nat.mod_eq_of_lt (by omega)]

/-- What a thing is written as. -/
def Th.bytes (x : Th) : List UInt8 := if 0 ≤ x.kind ∧ x.kind ≤ 7 then x.form else []
/-- What 'back' answers, and the reader behind it. -/
def backS (xs : List UInt8) (x : Th) (st : St) : Bool × St :=
  if x.kind = 0 then (decide (((step (numP xs) 0 st).1 : Int) = x.n), (step (numP xs) 0 st).2)
  else if x.kind = 1 ∨ x.kind = 2 then ((step (bytesP xs x.b.length) [] st).1 == x.b, (step (bytesP xs x.b.length) [] st).2)
  else if x.kind = 3 then ((step (fun a => takeP xs 32 a a id) (List.replicate 32 0) st).1 == x.h, (step (fun a => takeP xs 32 a a id) (List.replicate 32 0) st).2)
  else if x.kind = 4 then ((step (fun a => takeP xs 4 a a id) (List.replicate 4 0) st).1 == x.k, (step (fun a => takeP xs 4 a a id) (List.replicate 4 0) st).2)
  else if x.kind = 5 then ((step (fun a => takeP xs 8 a a bigL) 0 st).1 == x.wd, (step (fun a => takeP xs 8 a a bigL) 0 st).2)
  else if x.kind = 6 then ((step (paceP xs) 0 st).1 == x.wd || (nanB (step (paceP xs) 0 st).1 && nanB x.wd), (step (paceP xs) 0 st).2)
  else if x.kind = 7 then ((step (boolP xs) false st).1 == x.is, (step (boolP xs) false st).2)
  else (true, st)
theorem step_ok {α : Type} {r : Nat → Rs α} {z : α} {a a' : Nat} {v : α} (h : r a = .ok v a') : step r z (.at a) = (v, .at a') := by simp [step, h]
theorem step_bad {α : Type} {r : Nat → Rs α} {z : α} {a e f : Nat} (h : r a = .bad e f) : step r z (.at a) = (z, .bad e f) := by simp [step, h]
theorem canon_lt' {b : Nat} (h : b < 18446744073709551616) : canon b < 18446744073709551616 := canon_lt h
theorem paceP_of {xs post : List UInt8} {a n : Nat} (h : xs.drop a = wrdL (canon n) ++ post) (ha : a ≤ xs.length) (hn : n < 18446744073709551616) : paceP xs a = .ok (canon n) (a + 8) := by
  unfold paceP
  rw [takeP_of h ha (wrdL_len _)]
  simp only
  rw [bigL_wrd (canon_lt hn), if_neg]
  rintro ⟨h1, h2⟩
  rw [nan_canon] at h1
  exact h2 (canon_nan h1)
theorem paceP_cut {xs : List UInt8} {a c : Nat} (hc : c ≤ xs.length) (hs : c < a + 8) : paceP (xs.take c) a = .bad 6 a := by
  unfold paceP
  rw [takeP_cut hc hs]
theorem boolP_of {xs post : List UInt8} {a : Nat} {b : Bool} (h : xs.drop a = [if b then 1 else 0] ++ post) (ha : a ≤ xs.length) : boolP xs a = .ok b (a + 1) := by
  unfold boolP
  rw [takeP_of (n := 1) h ha rfl, bigL_one]
  cases b <;> rfl
theorem boolP_cut {xs : List UInt8} {a c : Nat} (hc : c ≤ xs.length) (hs : c < a + 1) : boolP (xs.take c) a = .bad 6 a := by
  unfold boolP
  rw [takeP_cut hc hs]
/-- A thing that may be written. -/
structure Th.Good (x : Th) : Prop extends x.Ok where
  b : x.b.length ≤ 300
  pos : x.kind = 0 → 0 ≤ x.n
theorem Th.bytes_0 {x : Th} (h : x.kind = 0) : x.bytes = numL x.n.toNat := by simp [Th.bytes, Th.form, h]
theorem Th.bytes_1 {x : Th} (h : x.kind = 1 ∨ x.kind = 2) : x.bytes = numL x.b.length ++ x.b := by rcases h with h | h <;> simp [Th.bytes, Th.form, h]
theorem Th.bytes_3 {x : Th} (h : x.kind = 3) : x.bytes = x.h := by simp [Th.bytes, Th.form, h]
theorem Th.bytes_4 {x : Th} (h : x.kind = 4) : x.bytes = x.k := by simp [Th.bytes, Th.form, h]
theorem Th.bytes_5 {x : Th} (h : x.kind = 5) : x.bytes = wrdL x.wd := by simp [Th.bytes, Th.form, h]
theorem Th.bytes_6 {x : Th} (h : x.kind = 6) : x.bytes = wrdL (canon x.wd) := by simp [Th.bytes, Th.form, h]
theorem Th.bytes_7 {x : Th} (h : x.kind = 7) : x.bytes = [if x.is then 1 else 0] := by simp [Th.bytes, Th.form, h]
theorem Th.bytes_no {x : Th} (h : ¬ (0 ≤ x.kind ∧ x.kind ≤ 7)) : x.bytes = [] := by simp only [Th.bytes, if_neg h]
theorem back_0 {xs : List UInt8} {x : Th} {st : St} (h : x.kind = 0) : backS xs x st = (decide (((step (numP xs) 0 st).1 : Int) = x.n), (step (numP xs) 0 st).2) := by simp [backS, h]
theorem back_1 {xs : List UInt8} {x : Th} {st : St} (h : x.kind = 1 ∨ x.kind = 2) : backS xs x st = ((step (bytesP xs x.b.length) [] st).1 == x.b, (step (bytesP xs x.b.length) [] st).2) := by rcases h with h | h <;> simp [backS, h]
theorem back_3 {xs : List UInt8} {x : Th} {st : St} (h : x.kind = 3) : backS xs x st = ((step (fun a => takeP xs 32 a a id) (List.replicate 32 0) st).1 == x.h, (step (fun a => takeP xs 32 a a id) (List.replicate 32 0) st).2) := by simp [backS, h]
theorem back_4 {xs : List UInt8} {x : Th} {st : St} (h : x.kind = 4) : backS xs x st = ((step (fun a => takeP xs 4 a a id) (List.replicate 4 0) st).1 == x.k, (step (fun a => takeP xs 4 a a id) (List.replicate 4 0) st).2) := by simp [backS, h]
theorem back_5 {xs : List UInt8} {x : Th} {st : St} (h : x.kind = 5) : backS xs x st = ((step (fun a => takeP xs 8 a a bigL) 0 st).1 == x.wd, (step (fun a => takeP xs 8 a a bigL) 0 st).2) := by simp [backS, h]
theorem back_6 {xs : List UInt8} {x : Th} {st : St} (h : x.kind = 6) : backS xs x st = ((step (paceP xs) 0 st).1 == x.wd || (nanB (step (paceP xs) 0 st).1 && nanB x.wd), (step (paceP xs) 0 st).2) := by simp [backS, h]
theorem back_7 {xs : List UInt8} {x : Th} {st : St} (h : x.kind = 7) : backS xs x st = ((step (boolP xs) false st).1 == x.is, (step (boolP xs) false st).2) := by simp [backS, h]
theorem back_no {xs : List UInt8} {x : Th} {st : St} (h : ¬ (0 ≤ x.kind ∧ x.kind ≤ 7)) : backS xs x st = (true, st) := by
  unfold backS
  rw [if_neg (by omega), if_neg (by omega), if_neg (by omega), if_neg (by omega), if_neg (by omega), if_neg (by omega), if_neg (by omega)]
/-- A thing that was written is read as it was. -/
theorem back_of {xs post : List UInt8} {a : Nat} {x : Th} (hx : x.Good) (h : xs.drop a = x.bytes ++ post) (ha : a ≤ xs.length) : backS xs x (.at a) = (true, .at (a + x.bytes.length)) := by
  rcases kinds x with k | k | k | k | k | k | k | k | k
  · rw [Th.bytes_0 k] at h ⊢
    have hp := hx.pos k
    have hn := hx.n
    rw [back_0 k, step_ok (numP_of h ha (by omega))]
    simp; omega
  · rw [Th.bytes_1 (.inl k)] at h ⊢
    have := hx.b
    rw [back_1 (.inl k), step_ok (bytesP_of h ha (by omega))]
    simp
  · rw [Th.bytes_1 (.inr k)] at h ⊢
    have := hx.b
    rw [back_1 (.inr k), step_ok (bytesP_of h ha (by omega))]
    simp
  · rw [Th.bytes_3 k] at h ⊢
    rw [back_3 k, step_ok (takeP_of h ha hx.h), hx.h]
    simp
  · rw [Th.bytes_4 k] at h ⊢
    rw [back_4 k, step_ok (takeP_of h ha hx.k), hx.k]
    simp
  · rw [Th.bytes_5 k] at h ⊢
    rw [back_5 k, step_ok (takeP_of h ha (wrdL_len _)), bigL_wrd hx.wd, wrdL_len]
    simp
  · rw [Th.bytes_6 k] at h ⊢
    rw [back_6 k, step_ok (paceP_of h ha hx.wd), wrdL_len]
    cases hc : nanB x.wd
    · rw [canon_num hc]; simp
    · simp [nan_canon, hc]
  · rw [Th.bytes_7 k] at h ⊢
    rw [back_7 k, step_ok (boolP_of h ha)]
    simp
  · rw [Th.bytes_no k] at h ⊢
    rw [back_no k]
    simp
/-- A thing that was cut off is not read. -/
theorem back_cut {xs post : List UInt8} {a c : Nat} {x : Th} (hx : x.Good) (h : xs.drop a = x.bytes ++ post) (ha : a ≤ c) (hc : c ≤ xs.length) (hs : c < a + x.bytes.length) : (backS (xs.take c) x (.at a)).2 = .bad 6 a := by
  rcases kinds x with k | k | k | k | k | k | k | k | k
  · rw [Th.bytes_0 k] at h hs
    rw [back_0 k, step_bad (numP_cut h ha hc hs)]
  · rw [Th.bytes_1 (.inl k)] at h hs
    have := hx.b
    rw [back_1 (.inl k), step_bad (bytesP_cut h ha hc (by omega) hs)]
  · rw [Th.bytes_1 (.inr k)] at h hs
    have := hx.b
    rw [back_1 (.inr k), step_bad (bytesP_cut h ha hc (by omega) hs)]
  · rw [Th.bytes_3 k, hx.h] at hs
    rw [back_3 k, step_bad (takeP_cut hc hs)]
  · rw [Th.bytes_4 k, hx.k] at hs
    rw [back_4 k, step_bad (takeP_cut hc hs)]
  · rw [Th.bytes_5 k, wrdL_len] at hs
    rw [back_5 k, step_bad (takeP_cut hc hs)]
  · rw [Th.bytes_6 k, wrdL_len] at hs
    rw [back_6 k, step_bad (paceP_cut hc hs)]
  · rw [Th.bytes_7 k] at hs
    rw [back_7 k, step_bad (boolP_cut hc hs)]
  · rw [Th.bytes_no k] at hs
    simp at hs; omega
theorem back_bad {xs : List UInt8} {x : Th} {e f : Nat} : (backS xs x (.bad e f)).2 = .bad e f := by
  rcases kinds x with k | k | k | k | k | k | k | k | k
  · rw [back_0 k]; rfl
  · rw [back_1 (.inl k)]; rfl
  · rw [back_1 (.inr k)]; rfl
  · rw [back_3 k]; rfl
  · rw [back_4 k]; rfl
  · rw [back_5 k]; rfl
  · rw [back_6 k]; rfl
  · rw [back_7 k]; rfl
  · rw [back_no k]
/-- Where a reader of bytes that were cut off stands behind things: at their end, or it lacks bytes. -/
def CutAt (xs : List UInt8) (c m : Nat) (st : St) : Prop := (m ≤ c ∧ st = .at m) ∨ (c < m ∧ ∃ f, f ≤ c ∧ st = .bad 6 f)
theorem back_step {xs post : List UInt8} {m c : Nat} {x : Th} {st : St} (hx : x.Good) (h : xs.drop m = x.bytes ++ post) (hm : m ≤ xs.length) (hc : c ≤ xs.length) (hS : CutAt xs c m st) : CutAt xs c (m + x.bytes.length) (backS (xs.take c) x st).2 := by
  rcases hS with ⟨h1, rfl⟩ | ⟨h1, f, hf, rfl⟩
  · by_cases h2 : c < m + x.bytes.length
    · exact .inr ⟨h2, m, h1, back_cut hx h h1 hc h2⟩
    · have hd : (xs.take c).drop m = x.bytes ++ post.take (c - m - x.bytes.length) := by
        rw [List.drop_take, h, List.take_append, List.take_of_length_le (by omega)]
      exact .inl ⟨by omega, by rw [back_of hx hd (by rw [List.length_take]; omega)]⟩
  · exact .inr ⟨by omega, f, hf, back_bad⟩
end Go.Proofs.Ytajlcodlaalomaa
