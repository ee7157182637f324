/- Plain law of CommitGrows: votes given out in turn. -/
import Derived.Test.YtooghjnddifpdaaCm20
namespace Go.Proofs.Ytooghjnddifpdaa
open Go.RowKit Go.Proofs.Ytooghjnddifpdaa.Cm
set_option linter.unusedSimpArgs false
set_option linter.unusedVariables false

/-- Votes that were given out, those that are left. -/
structure Gr (vs left al a b : List Vt) : Prop where
  ral : Rs (-1) al
  ra : Rs (-1) a
  rb : Rs (-1) b
  m : ∀ x, x ∈ vs ↔ x ∈ al ∨ x ∈ left
  p : ∀ x, x ∈ al ↔ x ∈ a ∨ x ∈ b
  s : ∀ x ∈ al, ∀ y ∈ left, x.p ≠ y.p
  d : left.Pairwise (fun x y => x.p ≠ y.p)
  l : al.length + left.length = vs.length
  la : a.length + b.length = al.length
theorem rs_pair : ∀ {L : List Vt} {k : Int}, Rs k L → L.Pairwise (fun x y => x.p ≠ y.p)
  | [], _, _ => List.Pairwise.nil
  | v :: L, k, ⟨h1, h2, h3, h4⟩ => by
    refine List.Pairwise.cons (fun y hy => ?_) (rs_pair h4)
    have := (Rs.mem h4 hy).2.2
    omega
theorem Gr.start {vs : List Vt} (h : Rs (-1) vs) : Gr vs vs [] [] [] :=
  ⟨trivial, trivial, trivial, fun x => by simp, fun x => by simp, fun x hx => by simp at hx, rs_pair h, by simp, rfl⟩
/-- What is left behind a vote. -/
def without (l : List Vt) (k : Nat) : List Vt := l.take k ++ l.drop (k + 1)
theorem without_len {l : List Vt} {k : Nat} (h : k < l.length) : (without l k).length + 1 = l.length := by
  unfold without; rw [List.length_append, List.length_take, List.length_drop]; omega
theorem without_eq {l : List Vt} {k : Nat} (h : k < l.length) : l = l.take k ++ (vAt l k :: l.drop (k + 1)) := by
  rw [← drop_at h, List.take_append_drop]
theorem mem_without {l : List Vt} {k : Nat} (h : k < l.length) (x : Vt) : x ∈ l ↔ x = vAt l k ∨ x ∈ without l k := by
  conv => lhs; rw [without_eq h]
  unfold without
  simp only [List.mem_append, List.mem_cons]
  constructor
  · rintro (h | h | h)
    · exact .inr (.inl h)
    · exact .inl h
    · exact .inr (.inr h)
  · rintro (h | h | h)
    · exact .inr (.inl h)
    · exact .inl h
    · exact .inr (.inr h)
theorem pair_without {l : List Vt} {k : Nat} (h : k < l.length) (hd : l.Pairwise (fun x y => x.p ≠ y.p)) : (without l k).Pairwise (fun x y => x.p ≠ y.p) ∧ ∀ y ∈ without l k, (vAt l k).p ≠ y.p := by
  rw [without_eq h, List.pairwise_append] at hd
  obtain ⟨h1, h2, h3⟩ := hd
  rw [List.pairwise_cons] at h2
  refine ⟨?_, fun y hy => ?_⟩
  · unfold without
    rw [List.pairwise_append]
    exact ⟨h1, h2.2, fun x hx y hy => h3 x hx y (List.mem_cons_of_mem _ hy)⟩
  · unfold without at hy
    rcases List.mem_append.1 hy with hy | hy
    · exact fun e => h3 y hy _ (List.mem_cons_self ..) e.symm
    · exact h2.1 y hy
theorem Gr.vote {vs left al a b : List Vt} (H : Gr vs left al a b) (hv : Rs (-1) vs) {k : Nat} (hk : k < left.length) :
    0 ≤ (vAt left k).p ∧ (vAt left k).p < 64 ∧ findV al (vAt left k).p = none ∧ findV a (vAt left k).p = none ∧ findV b (vAt left k).p = none := by
  have hm : vAt left k ∈ left := List.mem_of_getElem? (vAt_some hk)
  have h1 := hv.mem ((H.m _).2 (.inr hm))
  have hal : ∀ x ∈ al, x.p ≠ (vAt left k).p := fun x hx => H.s x hx _ hm
  exact ⟨h1.1, h1.2.1, find_none.2 hal, find_none.2 fun x hx => hal x ((H.p x).2 (.inl hx)), find_none.2 fun x hx => hal x ((H.p x).2 (.inr hx))⟩
theorem Gr.next {vs left al a b : List Vt} (H : Gr vs left al a b) (hv : Rs (-1) vs) {k : Nat} (hk : k < left.length) :
    Gr vs (without left k) (laidV al (vAt left k)) (laidV a (vAt left k)) b ∧ Gr vs (without left k) (laidV al (vAt left k)) a (laidV b (vAt left k)) := by
  obtain ⟨v1, v2, f1, f2, f3⟩ := H.vote hv hk
  have hp := pair_without hk H.d
  have hw := without_len hk
  have m : ∀ x, x ∈ vs ↔ x ∈ laidV al (vAt left k) ∨ x ∈ without left k := fun x => by
    rw [H.m, mem_laid, mem_without hk]
    constructor
    · rintro (h | h | h)
      · exact .inl (.inr h)
      · exact .inl (.inl h)
      · exact .inr h
    · rintro ((h | h) | h)
      · exact .inr (.inl h)
      · exact .inl h
      · exact .inr (.inr h)
  have s : ∀ x ∈ laidV al (vAt left k), ∀ y ∈ without left k, x.p ≠ y.p := fun x hx y hy => by
    rcases mem_laid.1 hx with rfl | hx
    · exact hp.2 y hy
    · exact H.s x hx y ((mem_without hk y).2 (.inr hy))
  have l : (laidV al (vAt left k)).length + (without left k).length = vs.length := by rw [laid_len]; have := H.l; omega
  have ral := laid_rs H.ral v1 v2 (by omega) f1
  refine ⟨⟨ral, laid_rs H.ra v1 v2 (by omega) f2, H.rb, m, fun x => ?_, s, hp.1, l, by rw [laid_len, laid_len]; have := H.la; omega⟩, ⟨ral, H.ra, laid_rs H.rb v1 v2 (by omega) f3, m, fun x => ?_, s, hp.1, l, by rw [laid_len, laid_len]; have := H.la; omega⟩⟩
  · rw [mem_laid, mem_laid, H.p]
    constructor
    · rintro (h | h | h)
      · exact .inl (.inl h)
      · exact .inl (.inr h)
      · exact .inr h
    · rintro ((h | h) | h)
      · exact .inl h
      · exact .inr (.inl h)
      · exact .inr (.inr h)
  · rw [mem_laid, mem_laid, H.p]
    constructor
    · rintro (h | h | h)
      · exact .inr (.inl h)
      · exact .inl h
      · exact .inr (.inr h)
    · rintro (h | h | h)
      · exact .inr (.inl h)
      · exact .inl h
      · exact .inr (.inr h)
theorem Gr.end {vs al a b : List Vt} (H : Gr vs [] al a b) (hv : Rs (-1) vs) : al = vs := rs_ext H.ral hv fun x => by rw [H.m]; simp
theorem chk_zero {c : C} (h : chk c = 0) : 1 ≤ c.h ∧ c.h ≤ 1073741824 ∧ c.vs.length ≤ 64 ∧ Rs (-1) c.vs := by
  unfold chk at h
  by_cases h1 : c.h < 1 ∨ 1073741824 < c.h
  · rw [if_pos h1] at h; cases h
  · rw [if_neg h1] at h
    by_cases h2 : 64 < c.vs.length
    · rw [if_pos h2] at h; cases h
    · rw [if_neg h2] at h
      exact ⟨by omega, by omega, by omega, (chkV_rs _ _).1 h⟩
theorem chk_of {c : C} (h1 : 1 ≤ c.h) (h2 : c.h ≤ 1073741824) {L : List Vt} (h3 : L.length ≤ 64) (h4 : Rs (-1) L) : chk ⟨c.h, c.x, L⟩ = 0 := by
  unfold chk
  rw [if_neg (by show ¬ (c.h < 1 ∨ 1073741824 < c.h); omega), if_neg (by show ¬ 64 < L.length; omega)]
  exact (chkV_rs _ _).2 h4
theorem add_of {c : C} (h1 : 1 ≤ c.h) (h2 : c.h ≤ 1073741824) {L : List Vt} (h3 : L.length ≤ 64) (h4 : Rs (-1) L) {v : Vt} (v1 : 0 ≤ v.p) (v2 : v.p < 64) (hf : findV L v.p = none) : addE ⟨c.h, c.x, L⟩ v = 0 ∧ addC ⟨c.h, c.x, L⟩ v = ⟨c.h, c.x, laidV L v⟩ := by
  have e : addE ⟨c.h, c.x, L⟩ v = 0 := by
    unfold addE
    rw [chk_of h1 h2 h3 h4]
    simp only [ne_eq, not_true, if_false]
    rw [if_neg (by omega)]
    simp [hf]
  refine ⟨e, ?_⟩
  unfold addC
  rw [if_pos e]
theorem sig_of {L : List Vt} (hL : Rs (-1) L) {v : Vt} (v1 : 0 ≤ v.p) (v2 : v.p < 64) (hf : findV L v.p = none) : sigR (laidV L v) v.p = (v.g, true) := by
  unfold sigR
  rw [find_mem (laid_rs hL v1 v2 (by omega) hf) (mem_laid.2 (.inl rfl))]
theorem join_of {c : C} (h1 : 1 ≤ c.h) (h2 : c.h ≤ 1073741824) {L M O vs : List Vt} (hL : Rs (-1) L) (hM : Rs (-1) M) (hO : Rs (-1) O) (hv : Rs (-1) vs) (l1 : L.length ≤ 64) (l2 : M.length ≤ 64) (s1 : ∀ x ∈ L, x ∈ vs) (s2 : ∀ x ∈ M, x ∈ vs) (m : ∀ x, x ∈ O ↔ x ∈ L ∨ x ∈ M) :
    joinE ⟨c.h, c.x, L⟩ ⟨c.h, c.x, M⟩ = 0 ∧ sameC (joinC ⟨c.h, c.x, L⟩ ⟨c.h, c.x, M⟩) ⟨c.h, c.x, O⟩ = true := by
  obtain ⟨o, ho, ro, mo⟩ := join_mem (L := M) (out := L) (M := vs) hv hL s1 s2 (by omega)
  have e : o = O := rs_ext ro hO fun x => by rw [mo, m]
  subst e
  have hE : joinE ⟨c.h, c.x, L⟩ ⟨c.h, c.x, M⟩ = 0 := by
    unfold joinE
    rw [chk_of h1 h2 l1 hL, chk_of h1 h2 l2 hM]
    simp [ho]
  refine ⟨hE, ?_⟩
  unfold joinC
  rw [if_pos hE]
  show sameC ⟨c.h, c.x, (joinP L M).getD []⟩ _ = true
  rw [ho]
  exact sameC_refl _
end Go.Proofs.Ytooghjnddifpdaa
