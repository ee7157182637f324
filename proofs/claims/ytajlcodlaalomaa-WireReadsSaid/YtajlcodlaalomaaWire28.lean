/- Plain: what is read is written as it stood. -/
import Derived.Test.YtajlcodlaalomaaWire26
namespace Go.Proofs.Ytajlcodlaalomaa
open Go.RowKit Go.Proofs.Ytajlcodlaalomaa.Wi Go.Proofs.Ytajlcodlaalomaa.Pc
set_option linter.unusedSimpArgs false
set_option linter.unusedVariables false

theorem bigL_lt' (l : List UInt8) : bigL l < 256 ^ l.length := by
  have := bigL_lt l l.length (Nat.le_refl _)
  rwa [List.take_length] at this
theorem bigL_inj : ∀ {a b : List UInt8}, a.length = b.length → bigL a = bigL b → a = b := by
  intro a
  induction a with
  | nil => intro b h _; exact (List.eq_nil_of_length_eq_zero h.symm).symm
  | cons c r ih =>
    intro b h e
    cases b with
    | nil => simp at h
    | cons d s =>
      have hl : r.length = s.length := by simpa using h
      rw [bigL_cons, bigL_cons, hl] at e
      have h1 := bigL_lt' r
      have h2 := bigL_lt' s
      rw [hl] at h1
      have hcd : c.toNat = d.toNat := by
        have e1 : (c.toNat * 256 ^ s.length + bigL r) / 256 ^ s.length = c.toNat := by rw [Nat.mul_comm, Nat.mul_add_div (by exact Nat.pow_pos (by omega)), Nat.div_eq_of_lt h1]; rfl
        have e2 : (d.toNat * 256 ^ s.length + bigL s) / 256 ^ s.length = d.toNat := by rw [Nat.mul_comm, Nat.mul_add_div (by exact Nat.pow_pos (by omega)), Nat.div_eq_of_lt h2]; rfl
        rw [← e1, ← e2, e]
      rw [hcd] at e
      rw [ih hl (by omega), UInt8.toNat_inj.1 hcd]
theorem wrd_big {l : List UInt8} (h : l.length = 8) : wrdL (bigL l) = l := by
  have hl := bigL_lt' l
  rw [h] at hl
  exact bigL_inj (by rw [wrdL_len, h]) (bigL_wrd (by omega))
theorem bigL_pos {l : List UInt8} (h : fb l ≠ 0) (h0 : l ≠ []) : bigL l ≠ 0 := by
  cases l with
  | nil => exact absurd rfl h0
  | cons c r =>
    rw [bigL_cons]
    have h1 : c ≠ 0 := h
    have h2 : c.toNat ≠ 0 := fun e => h1 (UInt8.toNat_inj.1 (by simpa using e))
    have h3 : 0 < 256 ^ r.length := Nat.pow_pos (by omega)
    have := Nat.mul_pos (Nat.pos_of_ne_zero h2) h3
    omega
theorem les_big : ∀ (r : List UInt8) (m : Nat), r.length ≤ m → fb r.reverse ≠ 0 → les m (bigL r.reverse) = r := by
  intro r
  induction r with
  | nil => intro m _ _; rw [List.reverse_nil, bigL_nil, les_zero]
  | cons c t ih =>
    intro m hm hf
    cases m with
    | zero => simp at hm
    | succ m =>
      have hne : bigL (c :: t).reverse ≠ 0 := bigL_pos hf (by simp)
      rw [les_succ _ _ hne]
      rw [List.reverse_cons, bigL_snoc]
      have hc := c.toNat_lt
      have e1 : UInt8.ofNat (bigL t.reverse * 256 + c.toNat) = c := by
        apply UInt8.toNat_inj.1
        rw [ofNat_toNat]
        omega
      have e2 : (bigL t.reverse * 256 + c.toNat) / 256 = bigL t.reverse := by omega
      rw [e1, e2, ih m (by simpa using hm)]
      by_cases ht : t = []
      · subst ht; simp [fb]
      · rw [List.reverse_cons, fb_append _ _ (by simpa using ht)] at hf
        exact hf
theorem take_next {xs : List UInt8} {a a' : Nat} (h : a ≤ a') : xs.take a ++ (xs.drop a).take (a' - a) = xs.take a' := by
  rw [← List.drop_take, show xs.take a = (xs.take a').take a by rw [List.take_take, Nat.min_eq_left h], List.take_append_drop]
theorem seg_next {xs : List UInt8} {a b c : Nat} (h : a ≤ b) (h' : b ≤ c) : (xs.drop a).take (b - a) ++ (xs.drop b).take (c - b) = (xs.drop a).take (c - a) := by
  have e : xs.drop b = (xs.drop a).drop (b - a) := by rw [List.drop_drop, show a + (b - a) = b by omega]
  have := take_next (xs := xs.drop a) (a := b - a) (a' := c - a) (by omega)
  rw [e, show c - b = c - a - (b - a) by omega]
  exact this
/-- What is read of a to a' is that form. -/
def Is (xs : List UInt8) (a a' : Nat) (f : List UInt8) : Prop := a ≤ a' ∧ a' ≤ xs.length ∧ f = (xs.drop a).take (a' - a)
theorem takeP_one {α : Type} {xs : List UInt8} {n a f a' : Nat} {k : List UInt8 → α} {v : α} (h : takeP xs n a f k = .ok v a') : a' = a + n ∧ a' ≤ xs.length ∧ v = k ((xs.drop a).take n) ∧ ((xs.drop a).take n).length = n := by
  unfold takeP at h
  split at h
  · injection h with h1 h2
    exact ⟨h2.symm, by omega, h1.symm, by rw [List.length_take, List.length_drop]; omega⟩
  · injection h
theorem numP_one {xs : List UInt8} {a n a' : Nat} (h : numP xs a = .ok n a') : Is xs a a' (numL n) := by
  unfold numP at h
  split at h
  · injection h
  rename_i h1
  split at h
  · injection h
  rename_i h2
  split at h
  · injection h
  rename_i h3
  split at h
  · injection h
  rename_i h4
  injection h with e1 e2
  have hk : (nAt xs a (kAt xs a)).length = kAt xs a := by unfold nAt; rw [List.length_take, List.length_drop]; omega
  have hf : fb (nAt xs a (kAt xs a)) ≠ 0 := fun e => h4 (.inl (by unfold zAt; simpa using e))
  have hles := les_big (nAt xs a (kAt xs a)).reverse 8 (by rw [List.length_reverse, hk]; omega) (by rw [List.reverse_reverse]; exact hf)
  rw [List.reverse_reverse, e1] at hles
  refine ⟨by omega, by omega, ?_⟩
  rw [numL_eq, hles, List.length_reverse, List.reverse_reverse, hk]
  have hd : xs.drop a = xs[a] :: xs.drop (a + 1) := List.drop_eq_getElem_cons (by omega)
  have hka : kAt xs a = (xs[a]).toNat := by unfold kAt; rw [hd, List.take_succ_cons, List.take_zero, bigL_one]
  rw [hd, show a' - a = kAt xs a + 1 by omega, List.take_succ_cons]
  unfold nAt
  congr 1
  apply UInt8.toNat_inj.1
  rw [ofNat_toNat, hka]
  have := (xs[a]).toNat_lt
  omega
theorem bytesP_one {xs : List UInt8} {most : Int} {a a' : Nat} {l : List UInt8} (h : bytesP xs most a = .ok l a') : Is xs a a' (numL l.length ++ l) := by
  unfold bytesP at h
  cases hn : numP xs a with
  | bad e f => rw [hn] at h; injection h
  | ok n a1 =>
    rw [hn] at h
    simp only at h
    split at h
    · obtain ⟨h1, h2, h3⟩ := numP_one hn
      obtain ⟨e1, e2, e3, e4⟩ := takeP_one h
      simp only [id] at e3
      have hl : l.length = n := by rw [e3, e4]
      refine ⟨by omega, e2, ?_⟩
      rw [hl, h3, e3, ← seg_next h1 (show a1 ≤ a' by omega), show a' - a1 = n by omega]
    · injection h
theorem word_one {xs : List UInt8} {a a' n : Nat} (h : takeP xs 8 a a bigL = .ok n a') : Is xs a a' (wrdL n) ∧ n < 18446744073709551616 := by
  obtain ⟨e1, e2, e3, e4⟩ := takeP_one h
  have hl := bigL_lt' ((xs.drop a).take 8)
  rw [e4] at hl
  refine ⟨⟨by omega, e2, ?_⟩, by omega⟩
  rw [e3, wrd_big e4, show a' - a = 8 by omega]
theorem pace_one {xs : List UInt8} {a a' n : Nat} (h : paceP xs a = .ok n a') : Is xs a a' (wrdL (canon n)) ∧ n < 18446744073709551616 := by
  unfold paceP at h
  cases ht : takeP xs 8 a a bigL with
  | bad e f => rw [ht] at h; injection h
  | ok m a1 =>
    rw [ht] at h
    simp only at h
    split at h
    · injection h
    · rename_i hnot
      injection h with h1 h2
      subst h1; subst h2
      have hc : canon m = m := by
        cases hb : nanB m
        · exact canon_num hb
        · rw [canon_nan hb]
          by_cases e : m = 9221120237041090560
          · rw [e]; rfl
          · exact absurd ⟨hb, e⟩ hnot
      rw [hc]
      exact word_one ht
theorem bool_one {xs : List UInt8} {a a' : Nat} {b : Bool} (h : boolP xs a = .ok b a') : Is xs a a' [if b then 1 else 0] := by
  unfold boolP at h
  cases ht : takeP xs 1 a a bigL with
  | bad e f => rw [ht] at h; injection h
  | ok m a1 =>
    rw [ht] at h
    simp only at h
    split at h
    · rename_i hle
      injection h with h1 h2
      subst h1; subst h2
      obtain ⟨e1, e2, e3, e4⟩ := takeP_one ht
      refine ⟨by omega, e2, ?_⟩
      rw [show a1 - a = 1 by omega]
      obtain ⟨c, hc⟩ : ∃ c, (xs.drop a).take 1 = [c] := by
        match hq : (xs.drop a).take 1, e4 with
        | [c], _ => exact ⟨c, rfl⟩
      rw [hc, bigL_one] at e3
      rw [hc]
      have : c = if m == 1 then 1 else 0 := by
        apply UInt8.toNat_inj.1
        rcases (show m = 0 ∨ m = 1 by omega) with hm | hm
        · subst hm; rw [← e3]; rfl
        · subst hm; rw [← e3]; rfl
      rw [← this]
    · injection h
theorem put_fit {lim : Int} {bs : List UInt8} {x : Th} (hp : x.kind = 0 → 0 ≤ x.n) (hk : 0 ≤ x.kind ∧ x.kind ≤ 7) (hl : (bs.length : Int) + x.form.length ≤ lim) : ansT lim bs 0 x = 0 ∧ putT lim bs 0 x = ⟨bs ++ x.form, 0⟩ := by
  unfold ansT putT
  have hm : x.may = true := by
    unfold Th.may
    split
    · rename_i h; exact decide_eq_true (hp h)
    · rfl
  rw [if_pos hk, if_pos hk, hm]
  unfold putS
  rw [if_neg (by simp), if_neg (by simp), if_neg (by omega)]
  exact ⟨rfl, rfl⟩
theorem Is.next {xs f : List UInt8} {a a' : Nat} (h : Is xs a a' f) : xs.take a ++ f = xs.take a' := by
  obtain ⟨h1, h2, rfl⟩ := h
  exact take_next h1
theorem Is.len {xs f : List UInt8} {a a' : Nat} (h : Is xs a a' f) : (xs.take a).length + f.length = a' := by
  have := congrArg List.length h.next
  obtain ⟨h1, h2, _⟩ := h
  rw [List.length_append, List.length_take (i := a'), Nat.min_eq_left h2] at this
  exact this
end Go.Proofs.Ytajlcodlaalomaa
