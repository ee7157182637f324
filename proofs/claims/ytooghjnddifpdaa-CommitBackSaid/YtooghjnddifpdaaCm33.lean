/- Plain: what is encoded is decoded as it was; cut off, or with a byte more, it is not; what is decoded is encoded as it stood. -/
import Derived.Test.YtooghjnddifpdaaCWc
import Derived.Test.YtooghjnddifpdaaCm29
import Derived.Test.YtooghjnddifpdaaCm30
namespace Go.Proofs.Ytooghjnddifpdaa
open Go.RowKit Go.Proofs.Ytooghjnddifpdaa.Cm Go.Proofs.Ytooghjnddifpdaa.Wi
set_option linter.unusedSimpArgs false
set_option linter.unusedVariables false

/-- A reader's place, or its fault's, is in the bytes. -/
def StIn (xs : List UInt8) : St → Prop
  | .at a => a ≤ xs.length
  | .bad e f => e ≠ 0 ∧ f ≤ xs.length
theorem sNum_in {xs : List UInt8} {st : St} (h : StIn xs st) : StIn xs (sNum xs st).2 := by
  cases st with
  | bad e f => exact h
  | «at» a =>
    have h : a ≤ xs.length := h
    show StIn xs (step (numP xs) 0 (.at a)).2
    cases hn : numP xs a with
    | ok n a' => rw [step_ok hn]; exact (numP_one hn).2.1
    | bad e f =>
      rw [step_bad hn]
      show e ≠ 0 ∧ f ≤ xs.length
      unfold numP at hn
      split at hn
      · injection hn with h1 h2; exact ⟨by omega, by omega⟩
      split at hn
      · injection hn with h1 h2; exact ⟨by omega, by omega⟩
      split at hn
      · injection hn with h1 h2; exact ⟨by omega, by omega⟩
      split at hn
      · injection hn with h1 h2; exact ⟨by omega, by omega⟩
      · injection hn
theorem take_in {α : Type} {xs : List UInt8} {n : Nat} {k : List UInt8 → α} {z : α} {st : St} (h : StIn xs st) : StIn xs (step (fun a => takeP xs n a a k) z st).2 := by
  cases st with
  | bad e f => exact h
  | «at» a =>
    have h : a ≤ xs.length := h
    cases hn : takeP xs n a a k with
    | ok v a' => rw [step_ok (r := fun a => takeP xs n a a k) hn]; exact (takeP_one hn).2.1
    | bad e f =>
      rw [step_bad (r := fun a => takeP xs n a a k) hn]
      show e ≠ 0 ∧ f ≤ xs.length
      unfold takeP at hn
      split at hn
      · injection hn
      · injection hn with h1 h2; exact ⟨by omega, by omega⟩
theorem readV_in {xs : List UInt8} : ∀ (n : Nat) {st : St}, StIn xs st → StIn xs (readV xs n st).2
  | 0, _, h => h
  | n + 1, st, h => by
    show StIn xs (readV xs n (sWord xs (sNum xs st).2).2).2
    exact readV_in n (take_in (sNum_in h))
theorem decF_in (xs : List UInt8) : (decF xs).2 ≤ xs.length := by
  have h4 : StIn xs (dec4 xs).2 := readV_in _ (sNum_in (take_in (sNum_in (Nat.zero_le _))))
  unfold decF
  split
  · show decAt xs ≤ xs.length; unfold decAt; omega
  · split
    · exact Nat.zero_le _
    · cases hs : (dec4 xs).2 with
      | «at» a => unfold endS; dsimp only; split <;> omega
      | bad e f => rw [hs] at h4; exact h4.2
theorem decR_no {xs : List UInt8} (h : decF xs ≠ (0, 0)) : decR xs = cZ := by unfold decR; rw [if_neg h]
theorem sWord_lt (xs : List UInt8) (st : St) : (sWord xs st).1 < 18446744073709551616 := by
  cases st with
  | bad e f => show 0 < _; omega
  | «at» a =>
    show (step (fun a => takeP xs 8 a a bigL) 0 (.at a)).1 < _
    cases hn : takeP xs 8 a a bigL with
    | ok v a' => rw [step_ok (r := fun a => takeP xs 8 a a bigL) hn]; exact (word_one hn).2
    | bad e f => rw [step_bad (r := fun a => takeP xs 8 a a bigL) hn]; show 0 < _; omega
theorem readV_g {xs : List UInt8} : ∀ (n : Nat) (st : St), ∀ v ∈ (readV xs n st).1, v.g < 18446744073709551616
  | 0, _, v, h => by cases h
  | n + 1, st, v, h => by
    rcases List.mem_cons.1 (show v ∈ (⟨(sNum xs st).1, (sWord xs (sNum xs st).2).1⟩ :: (readV xs n (sWord xs (sNum xs st).2).2).1 : List Vt) from h) with rfl | h
    · exact sWord_lt _ _
    · exact readV_g n _ v h
theorem decR_g (xs : List UInt8) : ∀ v ∈ (decR xs).vs, v.g < 18446744073709551616 := by
  intro v h
  unfold decR at h
  split at h
  · exact readV_g _ _ v h
  · cases h

theorem num_cut {xs post : List UInt8} {m k n : Nat} {st : St} (h : xs.drop m = numL n ++ post) (hn : n < 9223372036854775808) (hc : k ≤ xs.length) (hS : CutAt xs k m st) :
    CutAt xs k (m + (numL n).length) (sNum (xs.take k) st).2 ∧ (m + (numL n).length ≤ k → (sNum (xs.take k) st).1 = n) ∧ (k < m + (numL n).length → (sNum (xs.take k) st).1 = 0) := by
  rcases hS with ⟨h1, rfl⟩ | ⟨h1, f, hf, rfl⟩
  · by_cases h2 : k < m + (numL n).length
    · have e := step_bad (z := 0) (numP_cut h h1 hc h2)
      exact ⟨.inr ⟨h2, m, h1, by rw [sNum, e]⟩, fun _ => by omega, fun _ => by rw [sNum, e]⟩
    · have hd : (xs.take k).drop m = numL n ++ post.take (k - m - (numL n).length) := by
        rw [List.drop_take, h, List.take_append, List.take_of_length_le (by omega)]
      have e := step_ok (z := 0) (numP_of hd (by rw [List.length_take]; omega) hn)
      exact ⟨.inl ⟨by omega, by rw [sNum, e]⟩, fun _ => by rw [sNum, e], fun h => by omega⟩
  · exact ⟨.inr ⟨by omega, f, hf, rfl⟩, fun h => by omega, fun _ => rfl⟩
theorem takes_cut {α : Type} {xs l post : List UInt8} {m k n : Nat} {f : List UInt8 → α} {z : α} {st : St} (h : xs.drop m = l ++ post) (hl : l.length = n) (hc : k ≤ xs.length) (hS : CutAt xs k m st) :
    CutAt xs k (m + n) (step (fun a => takeP (xs.take k) n a a f) z st).2 ∧ (m + n ≤ k → (step (fun a => takeP (xs.take k) n a a f) z st).1 = f l) := by
  rcases hS with ⟨h1, rfl⟩ | ⟨h1, g, hg, rfl⟩
  · by_cases h2 : k < m + n
    · have e := step_bad (r := fun a => takeP (xs.take k) n a a f) (z := z) (takeP_cut (f := m) (k := f) hc h2)
      exact ⟨.inr ⟨h2, m, h1, by rw [e]⟩, fun _ => by omega⟩
    · have hd : (xs.take k).drop m = l ++ post.take (k - m - l.length) := by
        rw [List.drop_take, h, List.take_append, List.take_of_length_le (by omega)]
      have e := step_ok (r := fun a => takeP (xs.take k) n a a f) (z := z) (takeP_of (f := m) (k := f) hd (by rw [List.length_take]; omega) hl)
      exact ⟨.inl ⟨by omega, by rw [e]⟩, fun _ => by rw [e]⟩
  · exact ⟨.inr ⟨by omega, g, hg, rfl⟩, fun h => by omega⟩
theorem readV_cut {xs post : List UInt8} {k : Nat} (hc : k ≤ xs.length) : ∀ (l : List Vt) {m : Nat} {st : St}, (∀ v ∈ l, 0 ≤ v.p ∧ v.p < 64) → (∀ v ∈ l, v.g < 18446744073709551616) → xs.drop m = l.flatMap encV ++ post → CutAt xs k m st →
    CutAt xs k (m + (l.flatMap encV).length) (readV (xs.take k) l.length st).2 ∧ (m + (l.flatMap encV).length ≤ k → (readV (xs.take k) l.length st).1 = l)
  | [], m, st, _, _, h, hS => ⟨hS, fun _ => rfl⟩
  | v :: l, m, st, hp, hg, h, hS => by
    obtain ⟨p0, p1⟩ := hp v (List.mem_cons_self ..)
    have g1 := hg v (List.mem_cons_self ..)
    rw [List.flatMap_cons, encV, List.append_assoc, List.append_assoc] at h
    have h2 := drop_add h rfl
    have h3 := drop_add h2 (wrdL_len v.g)
    obtain ⟨a1, a2, _⟩ := num_cut h (by omega) hc hS
    obtain ⟨b1, b2⟩ := takes_cut (f := bigL) (z := 0) h2 (wrdL_len v.g) hc a1
    obtain ⟨c1, c2⟩ := readV_cut hc l (fun u hu => hp u (List.mem_cons_of_mem _ hu)) (fun u hu => hg u (List.mem_cons_of_mem _ hu)) h3 b1
    have hL : (List.flatMap encV (v :: l)).length = (numL v.p.toNat).length + 8 + (l.flatMap encV).length := by
      rw [List.flatMap_cons, encV, List.length_append, List.length_append, wrdL_len]
    rw [hL, show m + ((numL v.p.toNat).length + 8 + (l.flatMap encV).length) = m + (numL v.p.toNat).length + 8 + (l.flatMap encV).length by omega]
    refine ⟨c1, fun hk => ?_⟩
    have e1 := a2 (by omega)
    have e2 := b2 (by omega)
    have e3 := c2 hk
    rw [bigL_wrd g1] at e2
    show (⟨(sNum (xs.take k) st).1, (sWord (xs.take k) (sNum (xs.take k) st).2).1⟩ :: (readV (xs.take k) l.length (sWord (xs.take k) (sNum (xs.take k) st).2).2).1 : List Vt) = v :: l
    rw [e3, e1, show (sWord (xs.take k) (sNum (xs.take k) st).2).1 = v.g from e2]
    congr 1
    cases v
    simp only [Vt.mk.injEq, and_true]
    exact Int.toNat_of_nonneg p0
/-- Of encoded bytes, cut at k: all is read if all is there; else bytes lack. -/
theorem dec_cut {c : C} {post xs : List UInt8} {k : Nat} (hx : c.x.length = 32) (hk : chk c = 0) (hg : ∀ v ∈ c.vs, v.g < 18446744073709551616) (hxs : xs = encB c ++ post) (hc : k ≤ xs.length) :
    ((encB c).length ≤ k → decC (xs.take k) = c ∧ (dec3 (xs.take k)).1 = c.vs.length ∧ (dec4 (xs.take k)).2 = .at (encB c).length) ∧
    (k < (encB c).length → ¬ 64 < (dec3 (xs.take k)).1 ∧ ∃ f, (dec4 (xs.take k)).2 = .bad 6 f) := by
  obtain ⟨c1, c2, c3, c4⟩ := chk_parts hk
  have h0 : xs.drop 0 = numL c.h.toNat ++ (c.x ++ (numL c.vs.length ++ (c.vs.flatMap encV ++ post))) := by
    rw [List.drop_zero, hxs]; simp [encB, encAt]
  have hL : (encB c).length = 0 + (numL c.h.toNat).length + 32 + (numL c.vs.length).length + (c.vs.flatMap encV).length := by
    simp only [encB, encAt, List.take_length, List.length_append, hx]; omega
  have h1 := drop_add h0 rfl
  have h2 := drop_add h1 hx
  have h3 := drop_add h2 rfl
  have S0 : CutAt xs k 0 (.at 0) := .inl ⟨Nat.zero_le _, rfl⟩
  obtain ⟨a1, a2, _⟩ := num_cut h0 (by omega) hc S0
  obtain ⟨b1, b2⟩ := takes_cut (f := id) (z := List.replicate 32 0) h1 hx hc a1
  obtain ⟨d1, d2, d3⟩ := num_cut h2 (by omega) hc b1
  have e3 : dec3 (xs.take k) = sNum (xs.take k) (step (fun a => takeP (xs.take k) 32 a a id) (List.replicate 32 0) (sNum (xs.take k) (.at 0)).2).2 := rfl
  rw [← e3] at d1 d2 d3
  by_cases hn : 0 + (numL c.h.toNat).length + 32 + (numL c.vs.length).length ≤ k
  · have n3 := d2 hn
    have e4 : dec4 (xs.take k) = readV (xs.take k) c.vs.length (dec3 (xs.take k)).2 := by unfold dec4; rw [n3]
    obtain ⟨r1, r2⟩ := readV_cut hc c.vs c4 hg h3 d1
    rw [← e4, ← hL] at r1 r2
    refine ⟨fun hK => ⟨?_, n3, ?_⟩, fun hK => ⟨by omega, ?_⟩⟩
    · have v1 : (dec1 (xs.take k)).1 = c.h.toNat := a2 (by omega)
      have v2 : (dec2 (xs.take k)).1 = c.x := b2 (by omega)
      unfold decC
      rw [v1, v2, r2 hK]
      cases c
      simp only [C.mk.injEq, and_true]
      exact Int.toNat_of_nonneg (by simp at c1; omega)
    · rcases r1 with ⟨_, r⟩ | ⟨r, _⟩
      · exact r
      · omega
    · rcases r1 with ⟨r, _⟩ | ⟨_, f, _, r⟩
      · omega
      · exact ⟨f, r⟩
  · refine ⟨fun hK => by omega, fun hK => ?_⟩
    have n3 := d3 (by omega)
    have e4 : dec4 (xs.take k) = ([], (dec3 (xs.take k)).2) := by unfold dec4; rw [n3]; rfl
    rw [n3, e4]
    refine ⟨by omega, ?_⟩
    rcases d1 with ⟨r, _⟩ | ⟨_, f, _, r⟩
    · omega
    · exact ⟨f, r⟩
/-- What is encoded is decoded as it was. -/
theorem dec_enc {c : C} (hx : c.x.length = 32) (hk : chk c = 0) (hg : ∀ v ∈ c.vs, v.g < 18446744073709551616) : decF (encB c) = (0, 0) ∧ decR (encB c) = c := by
  obtain ⟨c1, c2, c3, c4⟩ := chk_parts hk
  have h := (dec_cut hx hk hg (post := []) (List.append_nil _).symm (Nat.le_refl _)).1 (Nat.le_refl _)
  rw [List.take_length] at h
  obtain ⟨e1, e2, e3⟩ := h
  have hE : endS (encB c) (dec4 (encB c)).2 = (0, 0) := by rw [e3]; simp [endS]
  have hF : decF (encB c) = (0, 0) := by
    unfold decF
    rw [if_neg (by omega), if_pos hE, e1, hk]
  exact ⟨hF, by unfold decR; rw [if_pos hF, e1]⟩
/-- Cut off, it is not. -/
theorem dec_less {c : C} {k : Nat} (hx : c.x.length = 32) (hk : chk c = 0) (hg : ∀ v ∈ c.vs, v.g < 18446744073709551616) (h : k < (encB c).length) : (decF ((encB c).take k)).1 ≠ 0 := by
  obtain ⟨h1, f, h2⟩ := (dec_cut hx hk hg (post := []) (k := k) (List.append_nil _).symm (by omega)).2 h
  unfold decF
  rw [if_neg h1, h2, if_neg (by simp [endS])]
  simp [endS]
/-- With a byte more, it is not. -/
theorem dec_more {c : C} (x : UInt8) (hx : c.x.length = 32) (hk : chk c = 0) (hg : ∀ v ∈ c.vs, v.g < 18446744073709551616) : decF (encB c ++ [x]) = (4, (encB c).length) := by
  obtain ⟨c1, c2, c3, c4⟩ := chk_parts hk
  have h := (dec_cut hx hk hg (post := [x]) rfl (Nat.le_refl _)).1 (by simp)
  rw [List.take_length] at h
  obtain ⟨e1, e2, e3⟩ := h
  have hE : endS (encB c ++ [x]) (dec4 (encB c ++ [x])).2 = (4, (encB c).length) := by rw [e3]; simp [endS]
  unfold decF
  rw [if_neg (by omega), hE, if_neg (by simp)]

theorem sNum_one {xs : List UInt8} {st : St} {a' : Nat} (h : (sNum xs st).2 = .at a') : ∃ a, st = .at a ∧ Is xs a a' (numL (sNum xs st).1) := by
  cases st with
  | bad e f => cases h
  | «at» a =>
    refine ⟨a, rfl, ?_⟩
    cases hn : numP xs a with
    | ok n b =>
      rw [sNum, step_ok hn] at h ⊢
      injection h with h; subst h
      exact numP_one hn
    | bad e f => rw [sNum, step_bad hn] at h; cases h
theorem sWord_one {xs : List UInt8} {st : St} {a' : Nat} (h : (sWord xs st).2 = .at a') : ∃ a, st = .at a ∧ Is xs a a' (wrdL (sWord xs st).1) := by
  cases st with
  | bad e f => cases h
  | «at» a =>
    refine ⟨a, rfl, ?_⟩
    cases hn : takeP xs 8 a a bigL with
    | ok n b =>
      rw [sWord, step_ok (r := fun a => takeP xs 8 a a bigL) hn] at h ⊢
      injection h with h; subst h
      exact (word_one hn).1
    | bad e f => rw [sWord, step_bad (r := fun a => takeP xs 8 a a bigL) hn] at h; cases h
theorem sHash_one {xs : List UInt8} {st : St} {a' : Nat} (h : (sHash xs st).2 = .at a') : ∃ a, st = .at a ∧ Is xs a a' (sHash xs st).1 := by
  cases st with
  | bad e f => cases h
  | «at» a =>
    refine ⟨a, rfl, ?_⟩
    cases hn : takeP xs 32 a a (id : List UInt8 → List UInt8) with
    | ok n b =>
      rw [sHash, step_ok (r := fun a => takeP xs 32 a a (id : List UInt8 → List UInt8)) hn] at h ⊢
      injection h with h; subst h
      obtain ⟨e1, e2, e3, e4⟩ := takeP_one hn
      exact ⟨by omega, e2, by rw [e3, e1]; simp⟩
    | bad e f => rw [sHash, step_bad (r := fun a => takeP xs 32 a a (id : List UInt8 → List UInt8)) hn] at h; cases h
theorem Is.cat {xs f g : List UInt8} {a b c : Nat} (h : Is xs a b f) (k : Is xs b c g) : Is xs a c (f ++ g) := by
  obtain ⟨h1, h2, h3⟩ := h
  obtain ⟨k1, k2, k3⟩ := k
  exact ⟨by omega, k2, by rw [h3, k3, seg_next h1 k1]⟩
theorem readV_one {xs : List UInt8} : ∀ (n : Nat) {st : St} {a' : Nat}, (readV xs n st).2 = .at a' → a' ≤ xs.length → ∃ a, st = .at a ∧ Is xs a a' ((readV xs n st).1.flatMap encV)
  | 0, st, a', h, hl => ⟨a', h, Nat.le_refl _, hl, by simp [readV]⟩
  | n + 1, st, a', h, hl => by
    obtain ⟨a2, s2, i2⟩ := readV_one n (st := (sWord xs (sNum xs st).2).2) h hl
    obtain ⟨a1, s1, i1⟩ := sWord_one s2
    obtain ⟨a, s0, i0⟩ := sNum_one s1
    refine ⟨a, s0, ?_⟩
    have := (i0.cat i1).cat i2
    show Is xs a a' (List.flatMap encV (⟨(sNum xs st).1, (sWord xs (sNum xs st).2).1⟩ :: (readV xs n (sWord xs (sNum xs st).2).2).1))
    rw [List.flatMap_cons]
    unfold encV
    exact this
/-- What is decoded is encoded as it stood. -/
theorem enc_dec {xs : List UInt8} (h : decF xs = (0, 0)) : chk (decR xs) = 0 ∧ encB (decR xs) = xs := by
  have hR : decR xs = decC xs := by unfold decR; rw [if_pos h]
  have h4in : StIn xs (dec4 xs).2 := readV_in _ (sNum_in (take_in (sNum_in (Nat.zero_le _))))
  unfold decF at h
  split at h
  · injection h with h1 h2; cases h1
  rename_i hn
  split at h
  · rename_i hE
    injection h with hc _
    rw [hR]
    refine ⟨hc, ?_⟩
    cases hs : (dec4 xs).2 with
    | bad e f => 
      rw [hs] at hE h4in
      have hF : endS xs (St.bad e f) = (e, f) := rfl
      rw [hF] at hE
      injection hE with he hf
      exact absurd he h4in.1
    | «at» a =>
      rw [hs] at hE h4in
      have ha : a = xs.length := by
        have h5 : a ≤ xs.length := h4in
        unfold endS at hE
        dsimp only at hE
        split at hE
        · injection hE with h6; cases h6
        · omega
      obtain ⟨a3, s3, i3⟩ := readV_one _ hs (by omega)
      obtain ⟨a2, s2, i2⟩ := sNum_one s3
      obtain ⟨a1, s1, i1⟩ := sHash_one s2
      obtain ⟨a0, s0, i0⟩ := sNum_one s1
      injection s0 with s0
      subst s0
      obtain ⟨_, _, k⟩ := ((i0.cat i1).cat i2).cat i3
      rw [List.drop_zero, Nat.sub_zero, ha, List.take_length] at k
      conv => rhs; rw [← k]
      unfold encB encAt
      have hv : (decC xs).vs.length = (dec3 xs).1 := readV_len xs _ _
      rw [List.take_length, hv]
      show ((numL (((dec1 xs).1 : Int)).toNat ++ _) ++ _) ++ _ = _
      rw [Int.toNat_natCast]
      rfl
  · rename_i hE
    exact absurd h hE
end Go.Proofs.Ytooghjnddifpdaa
