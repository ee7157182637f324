/- Plain: texts of hashes, read back; which of two is less. -/
import Derived.Test.YtmfajippoielhaaDoorBlP
import GoSem.Extern.BytealgCompare
import GoSem.Op.String
namespace Go.Proofs.YtmfajippoielhaaDoor.Bl
set_option linter.unusedSimpArgs false
set_option linter.unusedVariables false

/-- Which of two is less: -1, 0, 1. -/
def cmpL : List UInt8 → List UInt8 → Int
  | [], [] => 0
  | [], _ :: _ => -1
  | _ :: _, [] => 1
  | a :: x, b :: y => if a < b then -1 else if b < a then 1 else cmpL x y
theorem cmpL_self : ∀ a : List UInt8, cmpL a a = 0
  | [] => rfl
  | a :: x => by unfold cmpL; rw [if_neg (UInt8.lt_irrefl a), if_neg (UInt8.lt_irrefl a)]; exact cmpL_self x
theorem cmpL_same : ∀ (a b : List UInt8), cmpL a b = 0 → a = b
  | [], [], _ => rfl
  | [], _ :: _, h => by simp [cmpL] at h
  | _ :: _, [], h => by simp [cmpL] at h
  | a :: x, b :: y, h => by
    unfold cmpL at h
    by_cases h1 : a < b
    · rw [if_pos h1] at h; simp at h
    · rw [if_neg h1] at h
      by_cases h2 : b < a
      · rw [if_pos h2] at h; simp at h
      · rw [if_neg h2] at h
        have e : a = b := UInt8.le_antisymm (UInt8.not_lt.1 h2) (UInt8.not_lt.1 h1)
        rw [e, cmpL_same x y h]
theorem cmpL_zero (a b : List UInt8) : (cmpL a b = 0) ↔ a = b := ⟨cmpL_same a b, fun h => by rw [h]; exact cmpL_self b⟩
theorem cmpL_neg : ∀ (a b : List UInt8), cmpL b a = - cmpL a b
  | [], [] => rfl
  | [], _ :: _ => rfl
  | _ :: _, [] => rfl
  | a :: x, b :: y => by
    have u : ∀ (a b : UInt8) (x y : List UInt8), cmpL (a :: x) (b :: y) = if a < b then -1 else if b < a then 1 else cmpL x y := fun _ _ _ _ => rfl
    rw [u, u]
    by_cases h1 : a < b
    · have h2 : ¬ b < a := UInt8.lt_asymm h1
      simp only [h1, h2, if_true, if_false]; rfl
    · by_cases h2 : b < a
      · simp only [h1, h2, if_true, if_false]
      · simp only [h1, h2, if_false]; exact cmpL_neg x y
theorem cmpL_three (a b : List UInt8) : cmpL a b = -1 ∨ cmpL a b = 0 ∨ cmpL a b = 1 := by
  induction a generalizing b with
  | nil => cases b <;> simp [cmpL]
  | cons a x ih =>
    cases b with
    | nil => simp [cmpL]
    | cons b y => unfold cmpL; split <;> (try split) <;> simp_all
theorem less_cmp : ∀ (a b : List UInt8), Op.bytesLess a b = decide (cmpL a b = -1)
  | [], [] => rfl
  | [], _ :: _ => rfl
  | _ :: _, [] => rfl
  | a :: x, b :: y => by
    unfold Op.bytesLess cmpL
    by_cases h1 : a < b
    · rw [if_pos h1]; simp [h1]
    · rw [if_neg h1]
      by_cases h2 : b < a
      · have e : a ≠ b := fun e => by subst e; exact h1 h2
        rw [if_pos h2]; simp [h1, e]
      · have e : a = b := UInt8.le_antisymm (UInt8.not_lt.1 h2) (UInt8.not_lt.1 h1)
        rw [if_neg h2, less_cmp x y]; simp [h1, e]
/-- At the first place at which they differ. -/
theorem cmpL_at : ∀ (a b : List UInt8) (k : Nat), k < a.length → k < b.length → (∀ j, j < k → bAt a j = bAt b j) → bAt a k ≠ bAt b k → cmpL a b = if bAt a k < bAt b k then -1 else 1
  | [], _, k, h, _, _, _ => by simp at h
  | _ :: _, [], k, _, h, _, _ => by simp at h
  | a :: x, b :: y, 0, _, _, _, hk => by
    have hk : a ≠ b := hk
    show cmpL (a :: x) (b :: y) = if a < b then -1 else 1
    unfold cmpL
    by_cases h1 : a < b
    · rw [if_pos h1, if_pos h1]
    · rw [if_neg h1, if_neg h1, if_pos]
      exact UInt8.lt_of_le_of_ne (UInt8.not_lt.1 h1) (fun e => hk e.symm)
  | a :: x, b :: y, k + 1, h1, h2, hj, hk => by
    have e : a = b := hj 0 (by omega)
    subst e
    have hk' : bAt x k ≠ bAt y k := hk
    have := cmpL_at x y k (by simpa using h1) (by simpa using h2) (fun j hj' => hj (j + 1) (by omega)) hk'
    show cmpL (a :: x) (a :: y) = if bAt x k < bAt y k then -1 else 1
    unfold cmpL
    rw [if_neg (UInt8.lt_irrefl a), if_neg (UInt8.lt_irrefl a)]; exact this
theorem same_at {a b : List UInt8} (h : a.length = b.length) (hj : ∀ j, j < a.length → bAt a j = bAt b j) : a = b := by
  apply List.ext_getElem h
  intro j h1 h2
  have := hj j h1
  unfold bAt at this
  rw [List.getD_eq_getElem?_getD, List.getD_eq_getElem?_getD, List.getElem?_eq_getElem h1, List.getElem?_eq_getElem h2] at this
  simpa using this
theorem cmp_ext (a b : List UInt8) (h : a.length = b.length) : Extern.BytealgCompare.cmp ⟨a.toArray⟩ ⟨b.toArray⟩ = cmpL a b := by
  have g : ∀ (l : List UInt8) (i : Nat), (⟨l.toArray⟩ : ByteArray)[i]! = bAt l i := fun l i => by
    unfold bAt
    by_cases hi : i < l.length
    · rw [getElem!_pos (⟨l.toArray⟩ : ByteArray) i hi, List.getD_eq_getElem?_getD, List.getElem?_eq_getElem hi]; rfl
    · rw [getElem!_neg (⟨l.toArray⟩ : ByteArray) i hi, List.getD_eq_getElem?_getD, List.getElem?_eq_none (by omega)]; rfl
  unfold Extern.BytealgCompare.cmp
  have hs : min (ByteArray.size ⟨a.toArray⟩) (ByteArray.size ⟨b.toArray⟩) = a.length := by
    show min a.toArray.size b.toArray.size = _
    simp [h]
  rw [hs]
  cases hf : (List.range a.length).find? fun i => (⟨a.toArray⟩ : ByteArray)[i]! != (⟨b.toArray⟩ : ByteArray)[i]! with
  | some k =>
    rw [List.find?_range_eq_some] at hf
    obtain ⟨h1, h2, h3⟩ := hf
    rw [g, g] at h1
    have hk : k < a.length := by simpa using h2
    rw [cmpL_at a b k hk (by omega) (fun j hj => by have := h3 j hj; rw [g, g] at this; simpa using this) (by simpa using h1)]
    simp only [g]
  | none =>
    have : a = b := same_at h fun j hj => by
      have := List.find?_eq_none.1 hf j (by simpa using hj)
      rw [g, g] at this
      simpa using this
    subst this
    simp [cmpL_self]

theorem dig_lt {a b : Nat} (ha : a < 16) (hb : b < 16) : (dig a < dig b) ↔ a < b := by
  have : ∀ a b : Fin 16, (dig a.1 < dig b.1) ↔ a.1 < b.1 := by decide +kernel
  exact this ⟨a, ha⟩ ⟨b, hb⟩
/-- Texts stand to one another as hashes do. -/
theorem cmp_text : ∀ (a b : List UInt8), cmpL (textB a) (textB b) = cmpL a b
  | [], [] => rfl
  | [], _ :: _ => rfl
  | _ :: _, [] => rfl
  | a :: x, b :: y => by
    have e : ∀ (a : UInt8) (x : List UInt8), textB (a :: x) = dig (a.toNat / 16) :: dig (a.toNat % 16) :: textB x := fun a x => by simp [textB]
    have ha := a.toNat_lt
    have hb := b.toNat_lt
    have l1 := dig_lt (a := a.toNat / 16) (b := b.toNat / 16) (by omega) (by omega)
    have l2 := dig_lt (a := b.toNat / 16) (b := a.toNat / 16) (by omega) (by omega)
    have l3 := dig_lt (a := a.toNat % 16) (b := b.toNat % 16) (by omega) (by omega)
    have l4 := dig_lt (a := b.toNat % 16) (b := a.toNat % 16) (by omega) (by omega)
    have e1 : a < b ↔ a.toNat < b.toNat := UInt8.lt_iff_toNat_lt
    have e2 : b < a ↔ b.toNat < a.toNat := UInt8.lt_iff_toNat_lt
    rw [e, e]
    have u : ∀ (a b : UInt8) (x y : List UInt8), cmpL (a :: x) (b :: y) = if a < b then -1 else if b < a then 1 else cmpL x y := fun _ _ _ _ => rfl
    rw [u, u, u]
    simp only [l1, l2, l3, l4, e1, e2, cmp_text x y]
    by_cases q1 : a.toNat / 16 < b.toNat / 16
    · rw [if_pos q1, if_pos (by omega)]
    · rw [if_neg q1]
      by_cases q2 : b.toNat / 16 < a.toNat / 16
      · rw [if_pos q2, if_neg (by omega), if_pos (by omega)]
      · rw [if_neg q2]
        by_cases q3 : a.toNat % 16 < b.toNat % 16
        · rw [if_pos q3, if_pos (by omega)]
        · rw [if_neg q3, if_neg (c := a.toNat < b.toNat) (by omega)]
          by_cases q4 : b.toNat % 16 < a.toNat % 16
          · rw [if_pos q4, if_pos (by omega)]
          · rw [if_neg q4, if_neg (by omega)]

/-- A text that is read. -/
def okT (s : List UInt8) : Bool := s.length == 64 && s.all fun c => decide (dgt c < 16)
def rdB (s : List UInt8) : List UInt8 := (List.range 32).map fun i => UInt8.ofNat (dgt (bAt s (2 * i)) * 16 + dgt (bAt s (2 * i + 1)))
theorem rdB_len (s : List UInt8) : (rdB s).length = 32 := by simp [rdB]
/-- What is read, and the word with it: 0, or 5: it's no hash's text. -/
def readP (s : List UInt8) : List UInt8 × Int := if okT s then (rdB s, 0) else (zeros 32, 5)
theorem readP_len (s : List UInt8) : (readP s).1.length = 32 := by
  unfold readP; split
  · exact rdB_len s
  · rfl
theorem dgt_dig {n : Nat} (h : n < 16) : dgt (dig n) = n := by
  have : ∀ n : Fin 16, dgt (dig n.1) = n.1 := by decide +kernel
  exact this ⟨n, h⟩
theorem dig_dgt (c : UInt8) (h : dgt c < 16) : dig (dgt c) = c := by
  have : ∀ n : Fin 256, dgt (UInt8.ofNat n.1) < 16 → dig (dgt (UInt8.ofNat n.1)) = UInt8.ofNat n.1 := by decide +kernel
  have h2 := this ⟨c.toNat, c.toNat_lt⟩
  simp only [UInt8.ofNat_toNat] at h2
  exact h2 h
theorem textB_at : ∀ (h : List UInt8) (i : Nat), i < h.length → bAt (textB h) (2 * i) = dig ((bAt h i).toNat / 16) ∧ bAt (textB h) (2 * i + 1) = dig ((bAt h i).toNat % 16)
  | [], i, hi => by simp at hi
  | a :: x, 0, _ => by
    have e : textB (a :: x) = dig (a.toNat / 16) :: dig (a.toNat % 16) :: textB x := by simp [textB]
    rw [e]; exact ⟨rfl, rfl⟩
  | a :: x, i + 1, hi => by
    have e : textB (a :: x) = dig (a.toNat / 16) :: dig (a.toNat % 16) :: textB x := by simp [textB]
    have := textB_at x i (by simpa using hi)
    rw [e, show 2 * (i + 1) = 2 * i + 2 by omega, show 2 * i + 2 + 1 = (2 * i + 1) + 2 by omega]
    exact this
theorem textB_len : ∀ (h : List UInt8), (textB h).length = 2 * h.length
  | [] => rfl
  | a :: x => by
    have e : textB (a :: x) = dig (a.toNat / 16) :: dig (a.toNat % 16) :: textB x := by simp [textB]
    rw [e]; simp [textB_len x]; omega
theorem all_at {s : List UInt8} {P : UInt8 → Bool} (h : s.all P = true) {i : Nat} (hi : i < s.length) : P (bAt s i) = true := by
  unfold bAt
  rw [List.getD_eq_getElem?_getD, List.getElem?_eq_getElem hi]
  exact List.all_eq_true.1 h _ (List.getElem_mem hi)
/-- What is told is read as it was. -/
theorem read_text {h : List UInt8} (hl : h.length = 32) : readP (textB h) = (h, 0) := by
  have ok : okT (textB h) = true := by
    unfold okT
    rw [Bool.and_eq_true]
    refine ⟨by rw [textB_len, hl]; rfl, ?_⟩
    rw [List.all_eq_true]
    intro c hc
    unfold textB at hc
    obtain ⟨a, _, ha⟩ := List.mem_flatMap.1 hc
    have := a.toNat_lt
    simp only [List.mem_cons, List.not_mem_nil, or_false] at ha
    rcases ha with rfl | rfl
    · rw [dgt_dig (by omega)]; simp; omega
    · rw [dgt_dig (by omega)]; simp; omega
  unfold readP
  rw [ok, if_pos rfl]
  congr 1
  refine same_at (by rw [rdB_len, hl]) fun j hj => ?_
  rw [rdB_len] at hj
  have h2 := textB_at h j (by omega)
  have h3 := (bAt h j).toNat_lt
  unfold rdB
  rw [bAt, List.getD_eq_getElem?_getD, List.getElem?_map, List.getElem?_range hj]
  simp only [Option.map_some, Option.getD_some, h2.1, h2.2]
  rw [dgt_dig (by omega), dgt_dig (by omega), show (bAt h j).toNat / 16 * 16 + (bAt h j).toNat % 16 = (bAt h j).toNat by omega, UInt8.ofNat_toNat]
/-- No other text is. -/
theorem text_read {s : List UInt8} (h : okT s = true) : textB (rdB s) = s := by
  unfold okT at h
  rw [Bool.and_eq_true] at h
  have hl : s.length = 64 := by simpa using h.1
  refine same_at (by rw [textB_len, rdB_len, hl]) fun j hj => ?_
  rw [textB_len, rdB_len] at hj
  have hd := fun i (hi : i < 64) => (of_decide_eq_true (all_at h.2 (i := i) (by omega)) : dgt (bAt s i) < 16)
  have hr : ∀ i, i < 32 → (bAt (rdB s) i).toNat = dgt (bAt s (2 * i)) * 16 + dgt (bAt s (2 * i + 1)) := fun i hi => by
    have d1 := hd (2 * i) (by omega)
    have d2 := hd (2 * i + 1) (by omega)
    unfold rdB
    rw [bAt, List.getD_eq_getElem?_getD, List.getElem?_map, List.getElem?_range hi]
    simp only [Option.map_some, Option.getD_some]
    rw [UInt8.toNat_ofNat', Nat.mod_eq_of_lt (by omega)]
  obtain ⟨i, hi⟩ : ∃ i, j = 2 * i ∨ j = 2 * i + 1 := ⟨j / 2, by omega⟩
  have d1 := hd (2 * i) (by omega)
  have d2 := hd (2 * i + 1) (by omega)
  have ht := textB_at (rdB s) i (by rw [rdB_len]; omega)
  rw [hr i (by omega)] at ht
  rcases hi with rfl | rfl
  · rw [ht.1, show (dgt (bAt s (2 * i)) * 16 + dgt (bAt s (2 * i + 1))) / 16 = dgt (bAt s (2 * i)) by omega]
    exact dig_dgt _ d1
  · rw [ht.2, show (dgt (bAt s (2 * i)) * 16 + dgt (bAt s (2 * i + 1))) % 16 = dgt (bAt s (2 * i + 1)) by omega]
    exact dig_dgt _ d2
theorem read_abc : readP abcT = (sumB [97, 98, 99], 0) := by
  rw [← sum_abc]; exact read_text (sumB_len _)
end Go.Proofs.YtmfajippoielhaaDoor.Bl
