/- The commits of chapter 7 as plain data: votes in order, what is wrong with them, one more laid in, two lists joined. -/
import Derived.Test.YtooghjnddifpdaaBase
namespace Go.Proofs.Ytooghjnddifpdaa.Cm

/-- A vote, a commit. -/
structure Vt where
  p : Int
  g : Nat
deriving DecidableEq
structure C where
  h : Int
  x : List UInt8
  vs : List Vt

/-- What is wrong with votes behind a place. -/
def chkV : Int → List Vt → Nat
  | _, [] => 0
  | last, v :: L => if v.p < 0 ∨ 64 ≤ v.p then 3 else if v.p ≤ last then 9 else chkV v.p L
def chk (c : C) : Nat := if c.h < 1 ∨ 1073741824 < c.h then 3 else if 64 < c.vs.length then 4 else chkV (-1) c.vs
/-- Votes that rise, behind a place. -/
def Rs : Int → List Vt → Prop
  | _, [] => True
  | last, v :: L => 0 ≤ v.p ∧ v.p < 64 ∧ last < v.p ∧ Rs v.p L
theorem chkV_rs : ∀ (L : List Vt) (last : Int), chkV last L = 0 ↔ Rs last L
  | [], _ => by simp [chkV, Rs]
  | v :: L, last => by
    unfold chkV Rs
    by_cases h1 : v.p < 0 ∨ 64 ≤ v.p
    · rw [if_pos h1]; constructor
      · intro h; cases h
      · rintro ⟨a, b, _⟩; omega
    · rw [if_neg h1]
      by_cases h2 : v.p ≤ last
      · rw [if_pos h2]; constructor
        · intro h; cases h
        · rintro ⟨_, _, c, _⟩; omega
      · rw [if_neg h2, chkV_rs L v.p]
        constructor
        · intro h; exact ⟨by omega, by omega, by omega, h⟩
        · intro h; exact h.2.2.2
theorem Rs.mono {L : List Vt} {a b : Int} (h : Rs a L) (hb : b ≤ a) : Rs b L := by
  cases L with
  | nil => trivial
  | cons v L => obtain ⟨h1, h2, h3, h4⟩ := h; exact ⟨h1, h2, by omega, h4⟩
theorem Rs.mem : ∀ {L : List Vt} {a : Int} {v : Vt}, Rs a L → v ∈ L → 0 ≤ v.p ∧ v.p < 64 ∧ a < v.p
  | [], _, _, _, hv => by cases hv
  | u :: L, a, v, ⟨h1, h2, h3, h4⟩, hv => by
    rcases List.mem_cons.1 hv with rfl | hv
    · exact ⟨h1, h2, h3⟩
    · obtain ⟨k1, k2, k3⟩ := Rs.mem h4 hv
      exact ⟨k1, k2, by omega⟩
theorem Rs.at_lt : ∀ {L : List Vt} {a : Int} {i j : Nat} {u v : Vt}, Rs a L → i < j → L[i]? = some u → L[j]? = some v → u.p < v.p
  | [], _, _, _, _, _, _, _, h, _ => by simp at h
  | x :: L, a, i, j, u, v, ⟨h1, h2, h3, h4⟩, hij, hu, hv => by
    obtain ⟨j, rfl⟩ : ∃ k, j = k + 1 := ⟨j - 1, by omega⟩
    rw [List.getElem?_cons_succ] at hv
    cases i with
    | zero =>
      simp at hu; subst hu
      exact (Rs.mem h4 (List.mem_of_getElem? hv)).2.2
    | succ i =>
      rw [List.getElem?_cons_succ] at hu
      exact Rs.at_lt h4 (by omega) hu hv
/-- The signature of a place. -/
def findV : List Vt → Int → Option Nat
  | [], _ => none
  | v :: L, p => if v.p = p then some v.g else findV L p
/-- Votes with one more, in order. -/
def laidV : List Vt → Vt → List Vt
  | [], v => [v]
  | x :: L, v => if v.p < x.p then v :: x :: L else x :: laidV L v
theorem find_none {L : List Vt} {p : Int} : findV L p = none ↔ ∀ v ∈ L, v.p ≠ p := by
  induction L with
  | nil => simp [findV]
  | cons v L ih =>
    unfold findV
    by_cases h : v.p = p
    · simp [h]
    · simp [h, ih]
theorem find_some {L : List Vt} {p : Int} {g : Nat} (h : findV L p = some g) : (⟨p, g⟩ : Vt) ∈ L := by
  induction L with
  | nil => cases h
  | cons v L ih =>
    unfold findV at h
    by_cases e : v.p = p
    · rw [if_pos e] at h
      injection h with h
      subst h; subst e
      exact List.mem_cons_self ..
    · rw [if_neg e] at h
      exact List.mem_cons_of_mem _ (ih h)
theorem find_mem {L : List Vt} {a : Int} (hr : Rs a L) {v : Vt} (hv : v ∈ L) : findV L v.p = some v.g := by
  induction L generalizing a with
  | nil => cases hv
  | cons u L ih =>
    obtain ⟨h1, h2, h3, h4⟩ := hr
    unfold findV
    rcases List.mem_cons.1 hv with rfl | hv
    · simp
    · have := (Rs.mem h4 hv).2.2
      rw [if_neg (by omega)]
      exact ih h4 hv
theorem mem_laid {L : List Vt} {v x : Vt} : x ∈ laidV L v ↔ x = v ∨ x ∈ L := by
  induction L with
  | nil => simp [laidV]
  | cons u L ih =>
    unfold laidV
    by_cases h : v.p < u.p
    · rw [if_pos h]; simp
    · rw [if_neg h, List.mem_cons, ih, List.mem_cons]
      constructor
      · rintro (h | h | h)
        · exact .inr (.inl h)
        · exact .inl h
        · exact .inr (.inr h)
      · rintro (h | h | h)
        · exact .inr (.inl h)
        · exact .inl h
        · exact .inr (.inr h)
theorem laid_len (L : List Vt) (v : Vt) : (laidV L v).length = L.length + 1 := by
  induction L with
  | nil => rfl
  | cons u L ih =>
    unfold laidV
    by_cases h : v.p < u.p
    · rw [if_pos h]; rfl
    · rw [if_neg h, List.length_cons, ih, List.length_cons]
theorem laid_rs : ∀ {L : List Vt} {a : Int} {v : Vt}, Rs a L → 0 ≤ v.p → v.p < 64 → a < v.p → findV L v.p = none → Rs a (laidV L v)
  | [], _, _, _, h1, h2, h3, _ => ⟨h1, h2, h3, trivial⟩
  | u :: L, a, v, ⟨k1, k2, k3, k4⟩, h1, h2, h3, hn => by
    have hne := find_none.1 hn u (List.mem_cons_self ..)
    unfold laidV
    by_cases h : v.p < u.p
    · rw [if_pos h]; exact ⟨h1, h2, h3, k1, k2, h, k4⟩
    · rw [if_neg h]
      refine ⟨k1, k2, k3, laid_rs k4 h1 h2 (by omega) ?_⟩
      unfold findV at hn
      rwa [if_neg hne] at hn
theorem find_laid {L : List Vt} {v : Vt} {p : Int} (h : p ≠ v.p) : findV (laidV L v) p = findV L p := by
  induction L with
  | nil => simp [laidV, findV, Ne.symm h]
  | cons u L ih =>
    unfold laidV
    by_cases k : v.p < u.p
    · rw [if_pos k]
      conv => lhs; unfold findV
      rw [if_neg (Ne.symm h)]
    · rw [if_neg k]
      unfold findV
      rw [ih]
/-- How many votes lie ahead of a place. -/
def cutN (L : List Vt) (p : Int) : Nat := (L.takeWhile fun v => decide (v.p < p)).length
theorem cut_unique : ∀ {L : List Vt} {p : Int} {k : Nat}, k ≤ L.length → (∀ (i : Nat) (v : Vt), i < k → L[i]? = some v → v.p < p) → (∀ v, L[k]? = some v → ¬ v.p < p) → cutN L p = k
  | [], p, k, hk, _, _ => by simp [cutN] at hk ⊢; omega
  | u :: L, p, k, hk, h1, h2 => by
    cases k with
    | zero =>
      have := h2 u rfl
      simp [cutN, this]
    | succ k =>
      have h0 := h1 0 u (by omega) rfl
      have ih := cut_unique (L := L) (p := p) (k := k) (by simpa using hk) (fun i v hi hv => h1 (i + 1) v (by omega) (by simpa using hv)) (fun v hv => h2 v (by simpa using hv))
      simp only [cutN, List.takeWhile_cons, h0, decide_true, if_true, List.length_cons] at ih ⊢
      rw [ih]
theorem cut_le (L : List Vt) (p : Int) : cutN L p ≤ L.length := by
  unfold cutN
  exact (List.takeWhile_sublist _).length_le
theorem laid_cut : ∀ {L : List Vt} {a : Int} {v : Vt}, Rs a L → findV L v.p = none → laidV L v = L.take (cutN L v.p) ++ v :: L.drop (cutN L v.p)
  | [], _, _, _, _ => rfl
  | u :: L, a, v, ⟨k1, k2, k3, k4⟩, hn => by
    have hne := find_none.1 hn u (List.mem_cons_self ..)
    have hn' : findV L v.p = none := by unfold findV at hn; rwa [if_neg hne] at hn
    unfold laidV
    by_cases h : v.p < u.p
    · have hc : cutN (u :: L) v.p = 0 := by simp [cutN, show ¬ u.p < v.p by omega]
      rw [if_pos h, hc]; rfl
    · have hc : cutN (u :: L) v.p = cutN L v.p + 1 := by simp [cutN, show u.p < v.p by omega]
      rw [if_neg h, hc, laid_cut k4 hn']; rfl
/-- The vote at the cut tells whether the place is there. -/
theorem cut_find : ∀ {L : List Vt} {a : Int} {p : Int}, Rs a L → findV L p = match L[cutN L p]? with | none => none | some v => if v.p = p then some v.g else none
  | [], _, _, _ => rfl
  | u :: L, a, p, ⟨k1, k2, k3, k4⟩ => by
    by_cases h : u.p < p
    · have hc : cutN (u :: L) p = cutN L p + 1 := by simp [cutN, h]
      rw [hc, List.getElem?_cons_succ, ← cut_find k4]
      conv => lhs; unfold findV
      rw [if_neg (by omega)]
    · have hc : cutN (u :: L) p = 0 := by simp [cutN, h]
      rw [hc, List.getElem?_cons_zero]
      unfold findV
      by_cases e : u.p = p
      · simp [e]
      · simp only [if_neg e]
        refine find_none.2 fun x hx => ?_
        have := (Rs.mem k4 hx).2.2
        omega
theorem rs_ext : ∀ {L M : List Vt} {a b : Int}, Rs a L → Rs b M → (∀ x, x ∈ L ↔ x ∈ M) → L = M
  | [], [], _, _, _, _, _ => rfl
  | [], m :: M, _, _, _, _, h => by have := (h m).2 (List.mem_cons_self ..); cases this
  | l :: L, [], _, _, _, _, h => by have := (h l).1 (List.mem_cons_self ..); cases this
  | l :: L, m :: M, a, b, ⟨h1, h2, h3, h4⟩, ⟨k1, k2, k3, k4⟩, h => by
    have e : l = m := by
      rcases List.mem_cons.1 ((h l).1 (List.mem_cons_self ..)) with e | e
      · exact e
      · rcases List.mem_cons.1 ((h m).2 (List.mem_cons_self ..)) with f | f
        · exact f.symm
        · have := (Rs.mem k4 e).2.2
          have := (Rs.mem h4 f).2.2
          omega
    subst e
    rw [rs_ext h4 k4 fun x => ?_]
    constructor
    · intro hx
      rcases List.mem_cons.1 ((h x).1 (List.mem_cons_of_mem _ hx)) with e | e
      · subst e; have := (Rs.mem h4 hx).2.2; omega
      · exact e
    · intro hx
      rcases List.mem_cons.1 ((h x).2 (List.mem_cons_of_mem _ hx)) with e | e
      · subst e; have := (Rs.mem k4 hx).2.2; omega
      · exact e
/-- Lists of votes put together; none: two of one place are unlike. -/
def joinP : List Vt → List Vt → Option (List Vt)
  | out, [] => some out
  | out, v :: L => match findV out v.p with
    | none => joinP (laidV out v) L
    | some g => if g = v.g then joinP out L else none
/-- The document's. -/
def refJ (a : List Vt) : List Vt → List Vt → Option (List Vt)
  | out, [] => some out
  | out, v :: L => match findV a v.p with
    | none => refJ a (laidV out v) L
    | some g => if g = v.g then refJ a out L else none
theorem ref_join : ∀ {b a out : List Vt} {last : Int}, Rs last b → (∀ p, last < p → findV out p = findV a p) → refJ a out b = joinP out b
  | [], _, _, _, _, _ => rfl
  | v :: L, a, out, last, ⟨h1, h2, h3, h4⟩, h => by
    unfold refJ joinP
    rw [h v.p h3]
    split
    · exact ref_join h4 fun p hp => by rw [find_laid (by omega)]; exact h p (by omega)
    · split
      · exact ref_join h4 fun p hp => h p (by omega)
      · rfl
theorem join_append (a b : List Vt) : ∀ out, joinP out (a ++ b) = (joinP out a).bind fun o => joinP o b := by
  induction a with
  | nil => intro out; rfl
  | cons v L ih =>
    intro out
    have e : ∀ (o : List Vt) (M : List Vt), joinP o (v :: M) = match findV o v.p with
      | none => joinP (laidV o v) M
      | some g => if g = v.g then joinP o M else none := fun _ _ => rfl
    rw [List.cons_append, e, e]
    split
    · exact ih _
    · split
      · exact ih _
      · rfl
theorem laid_end {L : List Vt} {v : Vt} (h : ∀ x ∈ L, x.p < v.p) : laidV L v = L ++ [v] := by
  induction L with
  | nil => rfl
  | cons u L ih =>
    have := h u (List.mem_cons_self ..)
    unfold laidV
    rw [if_neg (by omega), ih fun x hx => h x (List.mem_cons_of_mem _ hx)]
    rfl
theorem join_self : ∀ {L out : List Vt} {last : Int}, Rs last L → (∀ x ∈ out, x.p ≤ last) → joinP out L = some (out ++ L)
  | [], out, _, _, _ => by simp [joinP]
  | v :: L, out, last, ⟨h1, h2, h3, h4⟩, h => by
    have hn : findV out v.p = none := find_none.2 fun x hx => by have := h x hx; omega
    unfold joinP
    rw [hn]
    simp only
    rw [laid_end fun x hx => by have := h x hx; omega, join_self h4 fun x hx => ?_, List.append_assoc]
    · rfl
    · rcases List.mem_append.1 hx with hx | hx
      · have := h x hx; omega
      · simp at hx; subst hx; omega
/-- What joining gives where all votes are those of one list that rises. -/
theorem join_mem : ∀ {L out M : List Vt} {a b : Int}, Rs a M → Rs b out → (∀ x ∈ out, x ∈ M) → (∀ x ∈ L, x ∈ M) → b < 0 → ∃ o, joinP out L = some o ∧ Rs b o ∧ ∀ x, x ∈ o ↔ x ∈ out ∨ x ∈ L
  | [], out, M, a, b, hM, ho, h1, h2, hb => ⟨out, rfl, ho, fun x => by simp⟩
  | v :: L, out, M, a, b, hM, ho, h1, h2, hb => by
    have hv := h2 v (List.mem_cons_self ..)
    obtain ⟨v1, v2, v3⟩ := hM.mem hv
    unfold joinP
    cases hf : findV out v.p with
    | none =>
      obtain ⟨o, e, r, m⟩ := join_mem (L := L) hM (laid_rs ho v1 v2 (by omega) hf) (fun x hx => by
        rcases mem_laid.1 hx with rfl | hx
        · exact hv
        · exact h1 x hx) (fun x hx => h2 x (List.mem_cons_of_mem _ hx)) hb
      refine ⟨o, e, r, fun x => ?_⟩
      rw [m, mem_laid, List.mem_cons]
      constructor
      · rintro ((h | h) | h)
        · exact .inr (.inl h)
        · exact .inl h
        · exact .inr (.inr h)
      · rintro (h | h | h)
        · exact .inl (.inr h)
        · exact .inl (.inl h)
        · exact .inr h
    | some g =>
      have hm := find_some hf
      have := find_mem hM (h1 _ hm)
      have e : g = v.g := by
        have k := find_mem hM hv
        simp only at this
        rw [this] at k
        injection k
      have ev : (⟨v.p, g⟩ : Vt) = v := by subst e; rfl
      rw [ev] at hm
      simp only [if_pos e]
      obtain ⟨o, e, r, m⟩ := join_mem (L := L) hM ho h1 (fun x hx => h2 x (List.mem_cons_of_mem _ hx)) hb
      refine ⟨o, e, r, fun x => ?_⟩
      rw [m, List.mem_cons]
      constructor
      · rintro (h | h)
        · exact .inl h
        · exact .inr (.inr h)
      · rintro (h | h | h)
        · exact .inl h
        · subst h; exact .inl hm
        · exact .inr h
/-- Who voted. -/
def whoV (ks : List (List UInt8)) : List Vt → Option (List (List UInt8))
  | [] => some []
  | v :: L => match ks[v.p.toNat]? with
    | none => none
    | some k => (whoV ks L).map (k :: ·)
end Go.Proofs.Ytooghjnddifpdaa.Cm
