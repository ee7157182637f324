/- Sorting by swaps: plain facts on lists that are in order, cut and put together. -/
import Derived.WalkArith
namespace Go.Proofs.Ytockdfhejbbbeaa.Sy

/-- An order in which of two unlike ones one is less. -/
structure Strict (lt : Nat → Nat → Bool) : Prop where
  irr : ∀ x, lt x x = false
  tr : ∀ x y z, lt x y = true → lt y z = true → lt x z = true
  tot : ∀ x y, x ≠ y → lt x y = true ∨ lt y x = true
/-- A list is in order. -/
def Srt (lt : Nat → Nat → Bool) (l : List Nat) : Prop := l.Pairwise fun x y => lt x y = true

section
variable {lt : Nat → Nat → Bool} (O : Strict lt)
include O
theorem Strict.asym {x y : Nat} (h : lt x y = true) : lt y x = false := by
  cases h' : lt y x
  · rfl
  · have := O.tr x y x h h'
    rw [O.irr] at this
    cases this
theorem Strict.of_not {x y : Nat} (hne : x ≠ y) (h : lt y x = false) : lt x y = true := by
  rcases O.tot x y hne with h' | h'
  · exact h'
  · rw [h] at h'; cases h'
theorem srt_unique : ∀ {a b : List Nat}, a.Perm b → Srt lt a → Srt lt b → a = b := by
  intro a
  induction a with
  | nil => intro b p _ _; exact (List.Perm.nil_eq p)
  | cons x a ih =>
    intro b p ha hb
    cases b with
    | nil => exact absurd p.symm (by simp)
    | cons y b =>
      have hx : x = y := by
        have h1 : x ∈ y :: b := p.subset (List.mem_cons_self)
        have h2 : y ∈ x :: a := p.symm.subset (List.mem_cons_self)
        rcases List.mem_cons.1 h1 with h1 | h1
        · exact h1
        · rcases List.mem_cons.1 h2 with h2 | h2
          · exact h2.symm
          · have e1 := (List.pairwise_cons.1 hb).1 x h1
            have e2 := (List.pairwise_cons.1 ha).1 y h2
            have := O.asym e1
            rw [e2] at this
            cases this
      subst hx
      rw [ih (List.Perm.cons_inv p) (List.pairwise_cons.1 ha).2 (List.pairwise_cons.1 hb).2]
end

theorem getD_at {l : List Nat} {i : Nat} (h : i < l.length) : l.getD i 0 = l[i] := by rw [List.getD, List.getElem?_eq_getElem h]; rfl
theorem srt_get {lt : Nat → Nat → Bool} {l : List Nat} (h : Srt lt l) {i j : Nat} (hij : i < j) (hj : j < l.length) : lt (l.getD i 0) (l.getD j 0) = true := by
  rw [getD_at (by omega), getD_at hj]
  exact List.pairwise_iff_getElem.1 h i j (by omega) hj hij
theorem srt_le {lt : Nat → Nat → Bool} {l : List Nat} (h : Srt lt l) {i j : Nat} (hij : i ≤ j) (hj : j < l.length) : l.getD i 0 = l.getD j 0 ∨ lt (l.getD i 0) (l.getD j 0) = true := by
  rcases Nat.lt_or_eq_of_le hij with h1 | h1
  · exact .inr (srt_get h h1 hj)
  · subst h1; exact .inl rfl
theorem mem_take {l : List Nat} {s x : Nat} (h : x ∈ l.take s) : ∃ i, i < s ∧ i < l.length ∧ x = l.getD i 0 := by
  obtain ⟨i, hi, rfl⟩ := List.getElem_of_mem h
  rw [List.length_take] at hi
  exact ⟨i, by omega, by omega, by rw [List.getElem_take, getD_at (by omega)]⟩
theorem mem_drop {l : List Nat} {s x : Nat} (h : x ∈ l.drop s) : ∃ i, s ≤ i ∧ i < l.length ∧ x = l.getD i 0 := by
  obtain ⟨i, hi, rfl⟩ := List.getElem_of_mem h
  rw [List.length_drop] at hi
  exact ⟨s + i, by omega, by omega, by rw [List.getElem_drop, getD_at (by omega)]⟩
theorem getD_mem {l : List Nat} {i : Nat} (h : i < l.length) : l.getD i 0 ∈ l := by rw [getD_at h]; exact List.getElem_mem h

section
variable {lt : Nat → Nat → Bool} (O : Strict lt)
include O
theorem lt_le {x y z : Nat} (h : lt x y = true) (k : y = z ∨ lt y z = true) : lt x z = true := by
  rcases k with rfl | k
  · exact h
  · exact O.tr _ _ _ h k
theorem le_lt {x y z : Nat} (k : x = y ∨ lt x y = true) (h : lt y z = true) : lt x z = true := by
  rcases k with rfl | k
  · exact h
  · exact O.tr _ _ _ k h
/-- Two lists in order, cut so that both first parts are less than both second parts. -/
theorem sym_cut {L R : List Nat} {s q : Nat} (hL : Srt lt L) (hR : Srt lt R) (hne : ∀ x ∈ L, ∀ y ∈ R, x ≠ y)
    (c1 : 0 < s → s ≤ L.length → q < R.length → lt (R.getD q 0) (L.getD (s - 1) 0) = false) (c2 : s < L.length → 0 < q → q ≤ R.length → lt (R.getD (q - 1) 0) (L.getD s 0) = true)
    (hs : s ≤ L.length) (hq : q ≤ R.length) :
    ∀ x ∈ L.take s ++ R.take q, ∀ y ∈ L.drop s ++ R.drop q, lt x y = true := by
  intro x hx y hy
  rcases List.mem_append.1 hx with hx | hx <;> rcases List.mem_append.1 hy with hy | hy <;> obtain ⟨i, i1, i2, rfl⟩ := mem_take hx <;> obtain ⟨j, j1, j2, rfl⟩ := mem_drop hy
  · exact srt_get hL (by omega) j2
  · have h := O.of_not (hne _ (getD_mem (l := L) (i := s - 1) (by omega)) _ (getD_mem (l := R) (i := q) (by omega))) (c1 (by omega) hs (by omega))
    exact lt_le O (le_lt O (srt_le hL (i := i) (j := s - 1) (by omega) (by omega)) h) (srt_le hR j1 j2)
  · have h := c2 (by omega) (by omega) hq
    exact lt_le O (le_lt O (srt_le hR (i := i) (j := q - 1) (by omega) (by omega)) h) (srt_le hL j1 j2)
  · exact srt_get hR (by omega) j2
/-- One more, laid where it belongs. -/
theorem srt_lay {L : List Nat} {y c : Nat} (hL : Srt lt L) (hc : c ≤ L.length) (hne : ∀ x ∈ L, x ≠ y)
    (c1 : 0 < c → lt y (L.getD (c - 1) 0) = false) (c2 : c < L.length → lt y (L.getD c 0) = true) : Srt lt (L.take c ++ y :: L.drop c) := by
  refine List.pairwise_append.2 ⟨hL.sublist (List.take_sublist _ _), List.pairwise_cons.2 ⟨fun z hz => ?_, hL.sublist (List.drop_sublist _ _)⟩, fun x hx z hz => ?_⟩
  · obtain ⟨j, j1, j2, rfl⟩ := mem_drop hz
    exact lt_le O (c2 (by omega)) (srt_le hL j1 j2)
  · obtain ⟨i, i1, i2, rfl⟩ := mem_take hx
    have h := O.of_not (hne _ (getD_mem (l := L) (i := c - 1) (by omega))) (c1 (by omega))
    have h1 := le_lt O (srt_le hL (i := i) (j := c - 1) (by omega) (by omega)) h
    rcases List.mem_cons.1 hz with rfl | hz
    · exact h1
    · obtain ⟨j, j1, j2, rfl⟩ := mem_drop hz
      exact srt_get hL (by omega) j2
end
theorem perm_lay (L : List Nat) (y c : Nat) : (L.take c ++ y :: L.drop c).Perm (L ++ [y]) := by
  have h : (L.take c ++ y :: L.drop c).Perm (y :: (L.take c ++ L.drop c)) := List.perm_middle
  rw [List.take_append_drop] at h
  exact h.trans (List.perm_append_comm (l₁ := [y]))
theorem perm_lay' (L : List Nat) (y c : Nat) : (L.take c ++ y :: L.drop c).Perm (y :: L) := by
  have h : (L.take c ++ y :: L.drop c).Perm (y :: (L.take c ++ L.drop c)) := List.perm_middle
  rwa [List.take_append_drop] at h
/-- Both halves put in order are the whole in order. -/
theorem halves {lt : Nat → Nat → Bool} {L R M1 M2 : List Nat} {s q : Nat} (p1 : M1.Perm (L.take s ++ R.take q)) (p2 : M2.Perm (L.drop s ++ R.drop q)) (h1 : Srt lt M1) (h2 : Srt lt M2)
    (h : ∀ x ∈ L.take s ++ R.take q, ∀ y ∈ L.drop s ++ R.drop q, lt x y = true) : Srt lt (M1 ++ M2) ∧ (M1 ++ M2).Perm (L ++ R) := by
  refine ⟨List.pairwise_append.2 ⟨h1, h2, fun x hx y hy => h x (p1.subset hx) y (p2.subset hy)⟩, (p1.append p2).trans ?_⟩
  have e1 : L = L.take s ++ L.drop s := (List.take_append_drop s L).symm
  have e2 : R = R.take q ++ R.drop q := (List.take_append_drop q R).symm
  conv => rhs; rw [e1, e2]
  rw [List.append_assoc, List.append_assoc]
  refine List.Perm.append_left _ ?_
  rw [← List.append_assoc, ← List.append_assoc]
  exact List.Perm.append_right _ List.perm_append_comm

/-! ### Swaps -/
def swp (D : List Nat) (i j : Nat) : List Nat := (D.set i (D.getD j 0)).set j (D.getD i 0)
theorem swp_len (D : List Nat) (i j : Nat) : (swp D i j).length = D.length := by simp [swp]
theorem set_mid (P : List Nat) (x y : Nat) (Q : List Nat) {i : Nat} (hi : i = P.length) : (P ++ x :: Q).set i y = P ++ y :: Q := by
  subst hi
  rw [List.set_append_right _ _ (Nat.le_refl _), Nat.sub_self]
  rfl
theorem getD_mid (P : List Nat) (x : Nat) (Q : List Nat) {i : Nat} (hi : i = P.length) : (P ++ x :: Q).getD i 0 = x := by
  subst hi
  rw [List.getD, List.getElem?_append_right (Nat.le_refl _), Nat.sub_self]
  rfl
theorem swp_far (P : List Nat) (x : Nat) (Q : List Nat) (y : Nat) (S : List Nat) {i j : Nat} (hi : i = P.length) (hj : j = P.length + 1 + Q.length) : swp (P ++ x :: (Q ++ y :: S)) i j = P ++ y :: (Q ++ x :: S) := by
  have e : ∀ z, P ++ z :: (Q ++ y :: S) = (P ++ z :: Q) ++ y :: S := fun z => by simp
  have h1 : (P ++ x :: (Q ++ y :: S)).getD i 0 = x := getD_mid _ _ _ hi
  have h2 : (P ++ x :: (Q ++ y :: S)).getD j 0 = y := by rw [e]; exact getD_mid _ _ _ (by rw [hj]; simp; omega)
  rw [swp, h1, h2, set_mid _ _ _ _ hi, e, set_mid _ _ _ _ (by rw [hj]; simp; omega)]
  simp
theorem swp_comm (D : List Nat) (i j : Nat) : swp D i j = swp D j i := by
  unfold swp
  by_cases e : i = j
  · subst e; rfl
  · exact List.set_comm _ _ e
theorem swp_near (P : List Nat) (x y : Nat) (S : List Nat) {i j : Nat} (hi : i = P.length) (hj : j = P.length + 1) : swp (P ++ x :: y :: S) i j = P ++ y :: x :: S := swp_far P x [] y S hi (by simpa using hj)
end Go.Proofs.Ytockdfhejbbbeaa.Sy
