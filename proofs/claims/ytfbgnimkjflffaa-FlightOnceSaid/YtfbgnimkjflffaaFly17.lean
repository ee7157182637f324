/- FlightOnce: an act, as plain lists. -/
import Derived.Test.YtfbgnimkjflffaaFly16
namespace Go.Proofs.Ytfbgnimkjflffaa
open Go.RowKit Go.Maps

theorem goes_refl (L : List Rq) : Goes L L := ⟨Nat.le_refl _, fun _ r hr => ⟨r.op, hr, id⟩⟩
theorem goes_snoc (L : List Rq) (r : Rq) : Goes L (L ++ [r]) :=
  ⟨by simp, fun i r hr => ⟨r.op, by rw [List.getElem?_append_left (List.getElem?_eq_some_iff.1 hr).1]; exact hr, id⟩⟩
theorem goes_ask (n : Int) (L : List Rq) (t h a : Int) : Goes L (askR n L t h a).L := by
  unfold askR
  split
  · split
    · exact goes_refl L
    · exact goes_snoc L _
  · exact goes_refl L
theorem len_ask (n : Int) (L : List Rq) (t h a : Int) : (askR n L t h a).L.length ≤ L.length + 1 ∧ L.length ≤ (askR n L t h a).L.length := by
  unfold askR
  split
  · split
    · simp
    · simp
  · simp
theorem goes_close (L : List Rq) (id : Int) : Goes L (closeR L id).2 ∧ (closeR L id).2.length = L.length := by
  unfold closeR
  cases ha : atR L id with
  | none => exact ⟨goes_refl L, rfl⟩
  | some r =>
    obtain ⟨i, hi, rfl⟩ := atR_some ha
    cases ho : r.op with
    | false => simp [ho]; exact goes_refl L
    | true =>
      simp only [ho, if_true]
      refine ⟨⟨by simp, fun k s hs => ?_⟩, by simp⟩
      by_cases e : k = ((i : Int) + 1 - 1).toNat
      · subst e
        have hk := (List.getElem?_eq_some_iff.1 hs).1
        rw [show ((i : Int) + 1 - 1).toNat = i by omega] at *
        rw [hi] at hs
        cases hs
        exact ⟨false, by rw [List.getElem?_set_self hk], fun h => by cases h⟩
      · exact ⟨s.op, by rw [List.getElem?_set_ne (fun h => e h.symm)]; exact hs, id⟩

/-- What is asked is told as open. -/
theorem is_ask {n : Int} {L : List Rq} {t h a : Int} (he : (askR n L t h a).err = 0) : isR (askR n L t h a).L (askR n L t h a).id t = 1 := by
  unfold askR at *
  split at he
  · rename_i hb
    rw [if_pos hb]
    cases ho : openIx L t h with
    | some i =>
      obtain ⟨r, h1, h2, h3, h4⟩ := openIx_some ho
      have ha : atR L ((i : Int) + 1) = some r := by unfold atR; rw [if_pos (by omega), show ((i : Int) + 1 - 1).toNat = i by omega, h1]
      simp only [isR, ha, h2, h3, if_true]
    | none =>
      have ha : atR (L ++ [(⟨(L.length : Int) + 1, t, h, a, true⟩ : Rq)]) ((L.length : Int) + 1) = some ⟨(L.length : Int) + 1, t, h, a, true⟩ := by
        unfold atR; rw [if_pos (by omega), show ((L.length : Int) + 1 - 1).toNat = L.length by omega]; simp
      simp only [isR, ha, if_true]
  · exact absurd (show (3 : Int) = 0 from he) (by decide)
/-- A number is new just where it is the next one. -/
theorem fresh_ask {n : Int} {L : List Rq} {t h a : Int} : (askR n L t h a).fresh = (((askR n L t h a).err == 0) && ((askR n L t h a).id == (L.length : Int) + 1)) := by
  unfold askR
  split
  · cases ho : openIx L t h with
    | some i =>
      obtain ⟨r, h1, _⟩ := openIx_some ho
      have := (List.getElem?_eq_some_iff.1 h1).1
      have e : (((i : Int) + 1) == (L.length : Int) + 1) = false := by simp; omega
      show false = ((0 : Int) == 0 && (((i : Int) + 1) == (L.length : Int) + 1))
      rw [e]; rfl
    | none =>
      show true = ((0 : Int) == 0 && (((L.length : Int) + 1) == (L.length : Int) + 1))
      simp
  · rfl
end Go.Proofs.Ytfbgnimkjflffaa
