/- The flight's map of what is under way: what its block says, over the requests as plain data. -/
import Derived.Test.YtfbgnimkjflffaaBase
import Derived.Maps.Own
import Derived.Maps.OwnOps
import Derived.Maps.OwnSet
import Derived.Maps.Views
import Derived.Maps.AppendAt
import Derived.DeepKeys4
import Derived.Laws.OwnMore
namespace Go.Proofs.Ytfbgnimkjflffaa
open Go.RowKit Go.Maps

theorem laidOut0 : laidOutB Try.prog = true := by kernel_rfl
theorem spotLaw : Keyed Try.prog 51 := Keyed.of_law (deep_law_laid laidOut0 (m := 2) (by omega) (of_decide_eq_true (by kernel_rfl)) (by kernel_rfl) (by kernel_rfl))

/-- What a spot reads as. -/
def kl (t h : Int) : Lit := .string (keyBytes [.int .i64 t, .int .i64 h])
def R64 (n : Int) : Prop := -9223372036854775808 ≤ n ∧ n ≤ 9223372036854775807
theorem kl_of {t h : Int} (ht : R64 t) (hh : R64 h) : keyOf Try.prog 51 (.agg #[.int .i64 t, .int .i64 h]) = some (kl t h) := by
  have u1 := Try.underlying51
  have u2 := Try.underlying3
  have k1 : Try.prog.keyType 51 = true := by kernel_rfl
  have k2 : Try.prog.cellsOf 51 = 2 := by kernel_rfl
  have k3 : Try.prog.cellsOf 3 = 1 := by kernel_rfl
  have k4 : 0 < Try.prog.types.size := of_decide_eq_true (by kernel_rfl)
  have w1 : (Lit.int .i64 t).wf = true := by unfold R64 at ht; exact WalkArith.wf_i64 (by omega)
  have w2 : (Lit.int .i64 h).wf = true := by unfold R64 at hh; exact WalkArith.wf_i64 (by omega)
  have l1 : Try.prog.keyLits Try.prog.types.size 3 [.int .i64 t] = some [.int .i64 t] := by
    obtain ⟨m, hm⟩ : ∃ m, Try.prog.types.size = m + 1 := ⟨Try.prog.types.size - 1, by omega⟩
    rw [hm]; unfold Program.keyLits; simp only [u2]; rw [if_pos ⟨trivial, w1⟩]
  have l2 : Try.prog.keyLits Try.prog.types.size 3 [.int .i64 h] = some [.int .i64 h] := by
    obtain ⟨m, hm⟩ : ∃ m, Try.prog.types.size = m + 1 := ⟨Try.prog.types.size - 1, by omega⟩
    rw [hm]; unfold Program.keyLits; simp only [u2]; rw [if_pos ⟨trivial, w2⟩]
  have f1 : Value.formed Try.prog 51 (.agg #[.int .i64 t, .int .i64 h]) = true := by
    unfold Value.formed; simp only [u1]; simp [k2]
  unfold keyOf
  simp only [u1]
  rw [k1, f1]
  unfold Program.keyLits
  simp only [u1]
  simp only [Value.cells, k2]
  rw [if_pos (by rfl), if_pos ⟨rfl, by decide +kernel⟩]
  simp only [List.mapM_cons, List.mapM_nil, k3, List.take, List.drop, l1, l2]
  rfl
theorem kl_key (t h : Int) : WideAt.IsKeyLit (kl t h) := trivial
theorem kl_inj {t h t' h' : Int} (ht : R64 t) (hh : R64 h) (ht' : R64 t') (hh' : R64 h') (e : kl t h = kl t' h') : t = t' ∧ h = h' := by
  have := spotLaw.inj (kl_of ht hh) ((kl_of ht' hh').trans (by rw [e]))
  simpa using this

/-! ### Requests as plain data -/
structure Rq where
  id : Int
  to : Int
  h : Int
  at_ : Int
  op : Bool
def Rq.cells (r : Rq) : List Value := [.int .i64 r.id, .int .i64 r.to, .int .i64 r.h, .int .i64 r.at_, .bool r.op]
def Rq.val (r : Rq) : Value := .agg #[.int .i64 r.id, .int .i64 r.to, .int .i64 r.h, .int .i64 r.at_, .bool r.op]
def rqs (L : List Rq) : List Value := L.flatMap Rq.cells
theorem rqs_len (L : List Rq) : (rqs L).length = L.length * 5 := by
  induction L with
  | nil => rfl
  | cons r L ih => show (r.cells ++ rqs L).length = _; rw [List.length_append, ih]; simp [Rq.cells]; omega
theorem rqs_at (L : List Rq) (i j : Nat) (r : Rq) (hr : L[i]? = some r) (hj : j < 5) : (rqs L)[i * 5 + j]? = r.cells[j]? := by
  induction L generalizing i with
  | nil => simp at hr
  | cons x L ih =>
    show (x.cells ++ rqs L)[i * 5 + j]? = _
    have hx : x.cells.length = 5 := rfl
    cases i with
    | zero => simp at hr; subst hr; rw [List.getElem?_append_left (by omega)]; simp
    | succ i => rw [List.getElem?_append_right (by omega), hx, show (i + 1) * 5 + j - 5 = i * 5 + j by omega]; exact ih i hr
theorem rqs_snoc (L : List Rq) (r : Rq) : rqs (L ++ [r]) = rqs L ++ r.cells := by simp [rqs]
theorem rqs_close (L : List Rq) (i : Nat) (r : Rq) (hr : L[i]? = some r) : (rqs L).set (i * 5 + 4) (.bool false) = rqs (L.set i { r with op := false }) := by
  induction L generalizing i with
  | nil => simp at hr
  | cons x L ih =>
    have hx : x.cells.length = 5 := rfl
    cases i with
    | zero => simp at hr; subst hr; rfl
    | succ i =>
      show (x.cells ++ rqs L).set _ _ = x.cells ++ rqs (L.set i _)
      rw [List.set_append_right _ _ (by omega), hx, show (i + 1) * 5 + 4 - 5 = i * 5 + 4 by omega, ih i hr]

/-- A request of a flight of n providers. -/
def Rq.fine (n : Int) (i : Nat) (r : Rq) : Prop := r.id = (i : Int) + 1 ∧ 0 ≤ r.to ∧ r.to < n ∧ 1 ≤ r.h ∧ r.h ≤ 1073741824 ∧ 0 ≤ r.at_ ∧ r.at_ ≤ 1099511627776
/-- Numbers stand in order; of two that are under way one provider or one height differs. -/
def Fine (n : Int) (L : List Rq) : Prop :=
  (∀ (i : Nat) r, L[i]? = some r → r.fine n i) ∧ ∀ (i k : Nat) r s, L[i]? = some r → L[k]? = some s → r.op = true → s.op = true → r.to = s.to → r.h = s.h → i = k

/-- What a map of what is under way says. -/
def Says (D : DataW Unit) (L : List Rq) : Prop :=
  IsMap D ∧ ∀ t h, R64 t → R64 h →
    (∃ (i : Nat) (r : Rq), L[i]? = some r ∧ r.op = true ∧ r.to = t ∧ r.h = h ∧ Maps.has D (kl t h) = true ∧ ∀ z, D.atKey (kl t h) z = .lit (.int .i64 ((i : Int) + 1))) ∨
    ((∀ (i : Nat) r, L[i]? = some r → r.op = true → r.to = t → r.h = h → False) ∧ Maps.has D (kl t h) = false)

theorem says_nil : Says (.map []) [] := ⟨⟨_, rfl⟩, fun t h _ _ => .inr ⟨fun i r hr => by simp at hr, rfl⟩⟩

theorem says_put {D : DataW Unit} {L : List Rq} {t h a : Int} (S : Says D L) (ht : R64 t) (hh : R64 h) (hno : Maps.has D (kl t h) = false) :
    Says (D.put (kl t h) (.lit (.int .i64 ((L.length : Int) + 1)))) (L ++ [⟨(L.length : Int) + 1, t, h, a, true⟩]) := by
  refine ⟨IsMap.put S.1 _ _, fun t' h' ht' hh' => ?_⟩
  by_cases e : kl t' h' = kl t h
  · obtain ⟨rfl, rfl⟩ := kl_inj ht' hh' ht hh e
    exact .inl ⟨L.length, ⟨(L.length : Int) + 1, t', h', a, true⟩, by simp, rfl, rfl, rfl, has_put_same S.1 (kl_key _ _) _, fun z => atKey_put_same S.1 (kl_key _ _) _ z⟩
  · rcases S.2 t' h' ht' hh' with ⟨i, r, h1, h2, h3, h4, h5, h6⟩ | ⟨h1, h2⟩
    · have hi : i < L.length := (List.getElem?_eq_some_iff.1 h1).1
      exact .inl ⟨i, r, by rw [List.getElem?_append_left hi]; exact h1, h2, h3, h4, by rw [has_put_other e]; exact h5, fun z => by rw [atKey_put_other e]; exact h6 z⟩
    · refine .inr ⟨fun i r hr ho h3 h4 => ?_, by rw [has_put_other e]; exact h2⟩
      by_cases hi : i < L.length
      · rw [List.getElem?_append_left hi] at hr; exact h1 i r hr ho h3 h4
      · rw [List.getElem?_append_right (by omega)] at hr
        have := (List.getElem?_eq_some_iff.1 hr).1
        simp at this
        have h0 : i - L.length = 0 := by omega
        rw [h0] at hr
        simp at hr
        subst hr
        exact e (by rw [← h3, ← h4])

theorem says_del {D : DataW Unit} {L : List Rq} {n : Int} {i : Nat} {r : Rq} (S : Says D L) (F : Fine n L) (hr : L[i]? = some r) (ho : r.op = true) (ht : R64 r.to) (hh : R64 r.h) :
    Says (D.del (kl r.to r.h)) (L.set i { r with op := false }) := by
  have hi : i < L.length := (List.getElem?_eq_some_iff.1 hr).1
  have back : ∀ (k : Nat) (s : Rq), (L.set i { r with op := false })[k]? = some s → s.op = true → k ≠ i ∧ L[k]? = some s := by
    intro k s hs hso
    by_cases e : k = i
    · subst e
      rw [List.getElem?_set_self hi] at hs
      simp at hs
      subst hs
      simp at hso
    · rw [List.getElem?_set_ne (fun h => e h.symm)] at hs
      exact ⟨e, hs⟩
  refine ⟨IsMap.del S.1 _, fun t' h' ht' hh' => ?_⟩
  by_cases e : kl t' h' = kl r.to r.h
  · obtain ⟨rfl, rfl⟩ := kl_inj ht' hh' ht hh e
    refine .inr ⟨fun k s hs hso h3 h4 => ?_, has_del_same⟩
    obtain ⟨hne, hk⟩ := back k s hs hso
    exact hne (F.2 k i s r hk hr hso ho h3 h4)
  · rcases S.2 t' h' ht' hh' with ⟨k, s, h1, h2, h3, h4, h5, h6⟩ | ⟨h1, h2⟩
    · have hne : k ≠ i := by
        rintro rfl
        rw [hr] at h1
        cases h1
        exact e (by rw [← h3, ← h4])
      exact .inl ⟨k, s, by rw [List.getElem?_set_ne hne.symm]; exact h1, h2, h3, h4, by rw [has_del_other e]; exact h5, fun z => by rw [atKey_del_other e]; exact h6 z⟩
    · refine .inr ⟨fun k s hs hso h3 h4 => ?_, by rw [has_del_other e]; exact h2⟩
      exact h1 k s (back k s hs hso).2 hso h3 h4

theorem fine_put {n : Int} {L : List Rq} {t h a : Int} (F : Fine n L) (h1 : 0 ≤ t) (h2 : t < n) (h3 : 1 ≤ h) (h4 : h ≤ 1073741824) (h5 : 0 ≤ a) (h6 : a ≤ 1099511627776)
    (hno : ∀ (i : Nat) r, L[i]? = some r → r.op = true → r.to = t → r.h = h → False) : Fine n (L ++ [⟨(L.length : Int) + 1, t, h, a, true⟩]) := by
  have at_ : ∀ (i : Nat) r, (L ++ [(⟨(L.length : Int) + 1, t, h, a, true⟩ : Rq)])[i]? = some r → L[i]? = some r ∨ (i = L.length ∧ r = ⟨(L.length : Int) + 1, t, h, a, true⟩) := by
    intro i r hr
    by_cases hi : i < L.length
    · rw [List.getElem?_append_left hi] at hr; exact .inl hr
    · rw [List.getElem?_append_right (by omega)] at hr
      have := (List.getElem?_eq_some_iff.1 hr).1
      simp at this
      have h0 : i - L.length = 0 := by omega
      rw [h0] at hr
      simp at hr
      exact .inr ⟨by omega, hr.symm⟩
  refine ⟨fun i r hr => ?_, fun i k r s hr hs ho hp e1 e2 => ?_⟩
  · rcases at_ i r hr with h | ⟨rfl, rfl⟩
    · exact F.1 i r h
    · exact ⟨rfl, h1, h2, h3, h4, h5, h6⟩
  · rcases at_ i r hr with h | ⟨rfl, rfl⟩ <;> rcases at_ k s hs with h' | ⟨rfl, rfl⟩
    · exact F.2 i k r s h h' ho hp e1 e2
    · exact (hno i r h ho e1 e2).elim
    · exact (hno k s h' hp e1.symm e2.symm).elim
    · rfl
theorem fine_close {n : Int} {L : List Rq} {i : Nat} {r : Rq} (F : Fine n L) (hr : L[i]? = some r) : Fine n (L.set i { r with op := false }) := by
  have hi : i < L.length := (List.getElem?_eq_some_iff.1 hr).1
  have at_ : ∀ (k : Nat) s, (L.set i { r with op := false })[k]? = some s → ∃ s', L[k]? = some s' ∧ s.id = s'.id ∧ s.to = s'.to ∧ s.h = s'.h ∧ s.at_ = s'.at_ ∧ (s.op = true → s'.op = true) := by
    intro k s hs
    by_cases e : k = i
    · subst e
      rw [List.getElem?_set_self hi] at hs
      simp at hs
      subst hs
      exact ⟨r, hr, rfl, rfl, rfl, rfl, fun h => by simp at h⟩
    · rw [List.getElem?_set_ne (fun h => e h.symm)] at hs
      exact ⟨s, hs, rfl, rfl, rfl, rfl, id⟩
  refine ⟨fun k s hs => ?_, fun k l s u hs hu ho hp e1 e2 => ?_⟩
  · obtain ⟨s', h1, h2, h3, h4, h5, _⟩ := at_ k s hs
    have := F.1 k s' h1
    unfold Rq.fine at *
    omega
  · obtain ⟨s', h1, _, h3, h4, _, h6⟩ := at_ k s hs
    obtain ⟨u', g1, _, g3, g4, _, g6⟩ := at_ l u hu
    exact F.2 k l s' u' h1 g1 (h6 ho) (g6 hp) (by omega) (by omega)
end Go.Proofs.Ytfbgnimkjflffaa
