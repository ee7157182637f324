/- FlightOnce: what fits counts, as plain lists. -/
import Derived.Test.YtfbgnimkjflffaaFly14
namespace Go.Proofs.Ytfbgnimkjflffaa
open Go.RowKit Go.Maps

def cntTo (L : List Rq) (t : Int) : Nat := (L.filter fun r => decide (r.to < t)).length
def cntOp (L : List Rq) (t : Int) : Nat := (L.filter fun r => r.op && decide (r.to < t)).length
theorem cntTo_next (L : List Rq) (t : Int) : cntTo L (t + 1) = cntTo L t + (L.filter (askHas t)).length := by
  induction L with
  | nil => rfl
  | cons r L ih =>
    unfold cntTo at *
    simp only [List.filter_cons]
    have e : (askHas t r) = decide (t = r.to) := by unfold askHas; rw [Bool.eq_iff_iff]; simp
    rcases Int.lt_trichotomy r.to t with h | h | h
    · rw [if_pos (by simp; omega), if_pos (by simp; omega), if_neg (by rw [e]; simp; omega)]; simp only [List.length_cons]; omega
    · rw [if_pos (by simp; omega), if_neg (by simp; omega), if_pos (by rw [e]; simp; omega)]; simp only [List.length_cons]; omega
    · rw [if_neg (by simp; omega), if_neg (by simp; omega), if_neg (by rw [e]; simp; omega)]; exact ih
theorem cntOp_next (L : List Rq) (t : Int) (ht : 0 ≤ t) : cntOp L (t + 1) = cntOp L t + (L.filter (askWaits t)).length := by
  induction L with
  | nil => rfl
  | cons r L ih =>
    unfold cntOp at *
    simp only [List.filter_cons]
    have e : (askWaits t r) = (r.op && decide (t = r.to)) := by
      unfold askWaits
      have h1 : (t == -1) = false := by simp; omega
      have h2 : (t == r.to) = decide (t = r.to) := by rw [Bool.eq_iff_iff]; simp
      rw [h1, h2]; simp
    cases ho : r.op
    · rw [if_neg (by simp), if_neg (by simp), if_neg (by rw [e, ho]; simp)]; exact ih
    · rcases Int.lt_trichotomy r.to t with h | h | h
      · rw [if_pos (by simp; omega), if_pos (by simp; omega), if_neg (by rw [e, ho]; simp; omega)]; simp only [List.length_cons]; omega
      · rw [if_pos (by simp; omega), if_neg (by simp; omega), if_pos (by rw [e, ho]; simp; omega)]; simp only [List.length_cons]; omega
      · rw [if_neg (by simp; omega), if_neg (by simp; omega), if_neg (by rw [e, ho]; simp; omega)]; exact ih
theorem cntTo_0 {n : Int} {L : List Rq} (F : Fine n L) : cntTo L 0 = 0 := by
  unfold cntTo
  rw [List.length_eq_zero_iff, List.filter_eq_nil_iff]
  intro r hr
  obtain ⟨i, hi, rfl⟩ := List.getElem_of_mem hr
  have := (F.1 i _ (List.getElem?_eq_getElem hi)).2.1
  simp; omega
theorem cntTo_n {n : Int} {L : List Rq} (F : Fine n L) : cntTo L n = L.length := by
  unfold cntTo
  rw [List.filter_eq_self.2]
  intro r hr
  obtain ⟨i, hi, rfl⟩ := List.getElem_of_mem hr
  have := (F.1 i _ (List.getElem?_eq_getElem hi)).2.2.1
  simp; omega
theorem cntOp_0 {n : Int} {L : List Rq} (F : Fine n L) : cntOp L 0 = 0 := by
  unfold cntOp
  rw [List.length_eq_zero_iff, List.filter_eq_nil_iff]
  intro r hr
  obtain ⟨i, hi, rfl⟩ := List.getElem_of_mem hr
  have := (F.1 i _ (List.getElem?_eq_getElem hi)).2.1
  simp; omega
def opens (L : List Rq) : Nat := (L.filter fun r => r.op).length
theorem cntOp_n {n : Int} {L : List Rq} (F : Fine n L) : cntOp L n = opens L := by
  unfold cntOp opens
  congr 1
  refine List.filter_congr fun r hr => ?_
  obtain ⟨i, hi, rfl⟩ := List.getElem_of_mem hr
  have := (F.1 i _ (List.getElem?_eq_getElem hi)).2.2.1
  simp; omega
theorem cntOp_le (L : List Rq) (t : Int) : cntOp L t ≤ L.length := List.length_filter_le _ _
theorem cntTo_le (L : List Rq) (t : Int) : cntTo L t ≤ L.length := List.length_filter_le _ _
theorem opens_le (L : List Rq) : opens L ≤ L.length := List.length_filter_le _ _
theorem opens_next (L : List Rq) (i : Nat) (r : Rq) (hr : L[i]? = some r) : opens (L.take (i + 1)) = opens (L.take i) + if r.op then 1 else 0 := by
  unfold opens
  rw [List.take_add_one, hr, List.filter_append, List.length_append]
  cases h : r.op <;> simp [h]

/-- Those that wait for one provider: each is told as open, and their numbers rise. -/
theorem waits_is {n : Int} {L : List Rq} {t : Int} {j : Nat} {r : Rq} (F : Fine n L) (ht : 0 ≤ t) (hr : (L.filter (askWaits t))[j]? = some r) : isR L r.id t = 1 := by
  have hm := List.mem_of_getElem? hr
  rw [List.mem_filter] at hm
  obtain ⟨h1, h2⟩ := hm
  obtain ⟨i, hi, rfl⟩ := List.getElem_of_mem h1
  have e := List.getElem?_eq_getElem hi
  have hid := (F.1 i _ e).1
  have ha : atR L (L[i]).id = some L[i] := by
    unfold atR
    rw [if_pos (by omega), hid, show ((i : Int) + 1 - 1).toNat = i by omega, e]
  unfold askWaits at h2
  have h3 : (t == -1) = false := by simp; omega
  rw [h3] at h2
  simp at h2
  unfold isR
  rw [ha]
  simp [h2.1, h2.2]
theorem waits_rise {n : Int} {L : List Rq} {t : Int} {j : Nat} {r s : Rq} (F : Fine n L) (hr : (L.filter (askWaits t))[j]? = some r) (hs : (L.filter (askWaits t))[j + 1]? = some s) : r.id < s.id := by
  have hp : L.Pairwise (fun a b => a.id < b.id) := by
    rw [List.pairwise_iff_getElem]
    intro i k hi hk hik
    have e1 := (F.1 i _ (List.getElem?_eq_getElem hi)).1
    have e2 := (F.1 k _ (List.getElem?_eq_getElem hk)).1
    omega
  have hq := hp.filter (askWaits t)
  rw [List.pairwise_iff_getElem] at hq
  obtain ⟨h1, e1⟩ := List.getElem?_eq_some_iff.1 hr
  obtain ⟨h2, e2⟩ := List.getElem?_eq_some_iff.1 hs
  have := hq j (j + 1) h1 h2 (by omega)
  rw [e1, e2] at this
  exact this
end Go.Proofs.Ytfbgnimkjflffaa
