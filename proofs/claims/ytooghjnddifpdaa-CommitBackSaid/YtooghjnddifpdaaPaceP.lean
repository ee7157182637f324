/- Plain facts on floating point as the model has it: what is no number, and that which NaN it is makes no difference. -/
import GoSem.Core.Float
import Derived.WalkArith
namespace Go.Proofs.Ytooghjnddifpdaa.Pc
open Go Ieee

/-- Is it no number? As the machine asks it: is it unlike itself? -/
def nanB (b : Nat) : Bool := FloatKind.f64.format.order b b != some .eq
/-- The one form of NaN. -/
def theNaN : Nat := 9221120237041090560
/-- The form of a pace: NaN in one form. -/
def canon (b : Nat) : Nat := if nanB b then theNaN else b

theorem order_self (d : Datum) : d.order d = if d.isNaN then none else some .eq := by
  cases d with
  | number s m i => simp [Datum.order, Datum.isNaN]
  | infinity s => simp [Datum.order, Datum.isNaN]
  | nan s t => rfl
theorem nanB_read (b : Nat) : nanB b = (double.read b).isNaN := by
  show ((double.read b).order (double.read b) != some .eq) = _
  rw [order_self]
  cases (double.read b).isNaN <;> rfl
theorem nan_the : nanB theNaN = true := by decide +kernel
/-- What the model may answer where the answer is NaN. -/
theorem nan_pick (t : Nat) : nanB ((t % 2) * 2 ^ 63 + 0x7ff0000000000000 + 1 + (t / 2) % (2 ^ 52 - 1)) = true := by
  rw [nanB_read]
  have h1 : t % 2 < 2 := Nat.mod_lt _ (by omega)
  have h2 : (t / 2) % (2 ^ 52 - 1) < 2 ^ 52 - 1 := Nat.mod_lt _ (by decide)
  generalize (t / 2) % (2 ^ 52 - 1) = r at *
  generalize t % 2 = s at *
  have hw : (s * 2 ^ 63 + 0x7ff0000000000000 + 1 + r) % double.signWeight = 0x7ff0000000000000 + 1 + r := by
    show (s * 2 ^ 63 + 0x7ff0000000000000 + 1 + r) % 2 ^ 63 = _
    omega
  unfold Format.read
  simp only [hw]
  rw [if_neg (by show ¬ 0x7ff0000000000000 + 1 + r < 2 ^ 52; omega), if_neg (by show ¬ 0x7ff0000000000000 + 1 + r < (2 ^ 11 - 1) * 2 ^ 52; omega), if_neg (by show ¬ 0x7ff0000000000000 + 1 + r = (2 ^ 11 - 1) * 2 ^ 52; omega)]
  rfl

theorem canon_eq {a b : Nat} (h : canon a = canon b) : (nanB a = true ∧ nanB b = true) ∨ (nanB a = false ∧ nanB b = false ∧ a = b) := by
  have ht := nan_the
  unfold canon at h
  cases ha : nanB a <;> cases hb : nanB b <;> simp only [ha, hb, if_true, if_false, Bool.false_eq_true] at h
  · exact .inr ⟨rfl, rfl, h⟩
  · subst h
    rw [ht] at ha
    cases ha
  · subst h
    rw [ht] at hb
    cases hb
  · exact .inl ⟨rfl, rfl⟩
theorem canon_nan {a : Nat} (h : nanB a = true) : canon a = theNaN := by simp [canon, h]
theorem canon_num {a : Nat} (h : nanB a = false) : canon a = a := by simp [canon, h]
theorem canon_canon (a : Nat) : canon (canon a) = canon a := by
  cases h : nanB a
  · rw [canon_num h, canon_num h]
  · rw [canon_nan h, canon_nan nan_the]
theorem nan_canon (a : Nat) : nanB (canon a) = nanB a := by
  cases h : nanB a
  · rw [canon_num h, h]
  · rw [canon_nan h, nan_the]
theorem nan_of_canon {a b : Nat} (h : canon a = canon b) : nanB a = nanB b := by
  rcases canon_eq h with ⟨h1, h2⟩ | ⟨h1, h2, _⟩ <;> rw [h1, h2]

/-! ### The operations, NaN in one form -/
def fadd (a b : Nat) : Nat := (double.add a b).getD theNaN
def fsub (a b : Nat) : Nat := (double.sub a b).getD theNaN
def fdiv (a b : Nat) : Nat := (double.div a b).getD theNaN

theorem add_nan {a b : Nat} (h : nanB a = true ∨ nanB b = true) : double.add a b = none := by
  simp only [nanB_read] at h
  unfold Format.add
  revert h
  cases double.read a <;> cases double.read b <;> simp [Datum.isNaN, Datum.sum]
theorem sub_nan {a b : Nat} (h : nanB a = true ∨ nanB b = true) : double.sub a b = none := by
  simp only [nanB_read] at h
  unfold Format.sub
  revert h
  cases double.read a <;> cases double.read b <;> simp [Datum.isNaN, Datum.sum, Datum.opposite]
theorem div_nan {a b : Nat} (h : nanB a = true ∨ nanB b = true) : double.div a b = none := by
  simp only [nanB_read] at h
  unfold Format.div
  revert h
  cases double.read a <;> cases double.read b <;> simp [Datum.isNaN, Datum.quotient]
theorem fadd_canon {a a' b b' : Nat} (h : canon a = canon a') (k : canon b = canon b') : fadd a b = fadd a' b' := by
  unfold fadd
  rcases canon_eq h with ⟨h1, h2⟩ | ⟨_, _, rfl⟩
  · rw [add_nan (.inl h1), add_nan (.inl h2)]
  · rcases canon_eq k with ⟨h1, h2⟩ | ⟨_, _, rfl⟩
    · rw [add_nan (.inr h1), add_nan (.inr h2)]
    · rfl
theorem fsub_canon {a a' b b' : Nat} (h : canon a = canon a') (k : canon b = canon b') : fsub a b = fsub a' b' := by
  unfold fsub
  rcases canon_eq h with ⟨h1, h2⟩ | ⟨_, _, rfl⟩
  · rw [sub_nan (.inl h1), sub_nan (.inl h2)]
  · rcases canon_eq k with ⟨h1, h2⟩ | ⟨_, _, rfl⟩
    · rw [sub_nan (.inr h1), sub_nan (.inr h2)]
    · rfl
theorem fdiv_canon {a a' b b' : Nat} (h : canon a = canon a') (k : canon b = canon b') : fdiv a b = fdiv a' b' := by
  unfold fdiv
  rcases canon_eq h with ⟨h1, h2⟩ | ⟨_, _, rfl⟩
  · rw [div_nan (.inl h1), div_nan (.inl h2)]
  · rcases canon_eq k with ⟨h1, h2⟩ | ⟨_, _, rfl⟩
    · rw [div_nan (.inr h1), div_nan (.inr h2)]
    · rfl

/-- The mean that forgets: old + (x - old) / 8; behind NaN it is x. -/
def smoothF (old x : Nat) : Nat := if nanB old then x else fadd old (fdiv (fsub x old) 4620693217682128896)
theorem smoothF_canon {a a' b b' : Nat} (h : canon a = canon a') (k : canon b = canon b') : canon (smoothF a b) = canon (smoothF a' b') := by
  unfold smoothF
  rw [nan_of_canon h]
  cases nanB a'
  · rw [if_neg (by decide), if_neg (by decide), fsub_canon k h, fadd_canon h rfl]
  · exact k

/-- Which of two paces is less. -/
def minusB (b : Nat) : Bool := decide (9223372036854775808 ≤ b)
def cmpF (a b : Nat) : Int :=
  if nanB a then (if nanB b then 0 else 1) else if nanB b then -1
  else if FloatKind.f64.format.order a b == some .lt then -1 else if FloatKind.f64.format.order a b == some .gt then 1
  else if minusB a then (if minusB b then 0 else -1) else if minusB b then 1 else 0
end Go.Proofs.Ytooghjnddifpdaa.Pc
