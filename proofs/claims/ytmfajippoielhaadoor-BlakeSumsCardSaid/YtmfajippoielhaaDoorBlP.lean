/- Plain: words of 32 bits, the mixing of BLAKE2s, blocks, sums; the document's way to a sum. -/
import Derived.WalkArith
import Derived.Laws.BitsAllLaws
namespace Go.Proofs.YtmfajippoielhaaDoor.Bl
set_option linter.unusedSimpArgs false
set_option linter.unusedVariables false

abbrev W := UInt32
def wAt (V : List W) (i : Nat) : W := V.getD i 0
def r16 (x : W) : W := (x <<< 16) ||| (x >>> 16)
def r12 (x : W) : W := (x <<< 20) ||| (x >>> 12)
def r8 (x : W) : W := (x <<< 24) ||| (x >>> 8)
def r7 (x : W) : W := (x <<< 25) ||| (x >>> 7)
def mx1 (V : List W) (i j : Nat) (x : W) : List W := V.set i (wAt V i + (wAt V j + x))
def mx2 (r : W → W) (V : List W) (l i : Nat) : List W := V.set l (r (wAt V l ^^^ wAt V i))
def mx3 (V : List W) (k l : Nat) : List W := V.set k (wAt V k + wAt V l)
/-- Words at four places, mixed with two others. -/
def mixL (V : List W) (i j k l : Nat) (x y : W) : List W :=
  mx2 r7 (mx3 (mx2 r8 (mx1 (mx2 r12 (mx3 (mx2 r16 (mx1 V i j x) l i) k l) j k) i j y) l i) k l) j k
theorem mx1_len (V : List W) (i j : Nat) (x : W) : (mx1 V i j x).length = V.length := by simp [mx1]
theorem mx2_len (r : W → W) (V : List W) (i j : Nat) : (mx2 r V i j).length = V.length := by simp [mx2]
theorem mx3_len (V : List W) (i j : Nat) : (mx3 V i j).length = V.length := by simp [mx3]
theorem mixL_len (V : List W) (i j k l : Nat) (x y : W) : (mixL V i j k l x y).length = V.length := by
  unfold mixL; rw [mx2_len, mx3_len, mx2_len, mx1_len, mx2_len, mx3_len, mx2_len, mx1_len]

def sig : List (List Nat) :=
  [[0, 1, 2, 3, 4, 5, 6, 7, 8, 9, 10, 11, 12, 13, 14, 15],
   [14, 10, 4, 8, 9, 15, 13, 6, 1, 12, 0, 2, 11, 7, 5, 3],
   [11, 8, 12, 0, 5, 2, 15, 13, 10, 14, 3, 6, 7, 1, 9, 4],
   [7, 9, 3, 1, 13, 12, 11, 14, 2, 6, 5, 10, 4, 0, 15, 8],
   [9, 0, 5, 7, 2, 4, 10, 15, 14, 1, 11, 12, 6, 8, 3, 13],
   [2, 12, 6, 10, 0, 11, 8, 3, 4, 13, 7, 5, 15, 14, 1, 9],
   [12, 5, 1, 15, 14, 13, 4, 10, 0, 7, 6, 3, 9, 2, 8, 11],
   [13, 11, 7, 14, 12, 1, 3, 9, 5, 0, 15, 4, 8, 6, 2, 10],
   [6, 15, 14, 9, 11, 3, 0, 8, 12, 2, 13, 7, 1, 4, 10, 5],
   [10, 2, 8, 4, 7, 6, 1, 5, 15, 11, 9, 14, 3, 12, 13, 0]]
def sg (r k : Nat) : Nat := (sig.getD r []).getD k 0
theorem sg_lt (r k : Nat) : sg r k < 16 := by
  by_cases h : r < 10
  · by_cases h2 : k < 16
    · have : ∀ r : Fin 10, ∀ k : Fin 16, sg r.1 k.1 < 16 := by decide +kernel
      exact this ⟨r, h⟩ ⟨k, h2⟩
    · have : ∀ r : Fin 10, (sig.getD r.1 []).length = 16 := by decide +kernel
      have := this ⟨r, h⟩
      unfold sg
      rw [List.getD_eq_getElem?_getD (l := sig.getD r []), List.getElem?_eq_none (show (sig.getD r []).length ≤ k by rw [this]; omega)]; decide
  · unfold sg
    rw [List.getD_eq_getElem?_getD (l := sig), List.getElem?_eq_none (show sig.length ≤ r by show 10 ≤ r; omega)]; simp
/-- The words of a row. -/
def rowW (m : List W) (r : Nat) : List W := (List.range 16).map fun k => wAt m (sg r k)
theorem rowW_len (m : List W) (r : Nat) : (rowW m r).length = 16 := by simp [rowW]
theorem rowW_at (m : List W) (r : Nat) {k : Nat} (h : k < 16) : wAt (rowW m r) k = wAt m (sg r k) := by
  unfold rowW
  rw [wAt, List.getD_eq_getElem?_getD, List.getElem?_map, List.getElem?_range h]; rfl
def half1 (row : List W) : Nat → List W → List W
  | 0, V => V
  | n + 1, V => mixL (half1 row n V) n (4 + n) (8 + n) (12 + n) (wAt row (2 * n)) (wAt row (2 * n + 1))
def half2 (row : List W) : Nat → List W → List W
  | 0, V => V
  | n + 1, V => mixL (half2 row n V) n (4 + (n + 1) % 4) (8 + (n + 2) % 4) (12 + (n + 3) % 4) (wAt row (8 + 2 * n)) (wAt row (9 + 2 * n))
theorem half1_len (row : List W) (V : List W) : ∀ n, (half1 row n V).length = V.length
  | 0 => rfl
  | n + 1 => by unfold half1; rw [mixL_len, half1_len row V n]
theorem half2_len (row : List W) (V : List W) : ∀ n, (half2 row n V).length = V.length
  | 0 => rfl
  | n + 1 => by unfold half2; rw [mixL_len, half2_len row V n]
def rounds (m : List W) : Nat → List W → List W
  | 0, V => V
  | r + 1, V => half2 (rowW m r) 4 (half1 (rowW m r) 4 (rounds m r V))
theorem rounds_len (m V : List W) : ∀ n, (rounds m n V).length = V.length
  | 0 => rfl
  | n + 1 => by unfold rounds; rw [half2_len, half1_len, rounds_len m V n]

/-- A byte in its place of a word. -/
def shB (c : UInt8) (k : Nat) : W := UInt32.ofNat (c.toNat * 2 ^ (8 * k))
def bAt (bs : List UInt8) (i : Nat) : UInt8 := bs.getD i 0
/-- A word so far. -/
def wdN (bs : List UInt8) (i : Nat) : Nat → W
  | 0 => 0
  | k + 1 => wdN bs i k ||| shB (bAt bs (4 * i + k)) k
def wd (bs : List UInt8) (i : Nat) : W := wdN bs i 4
theorem wd_eq (bs : List UInt8) (i : Nat) : wd bs i = ((shB (bAt bs (4 * i)) 0 ||| shB (bAt bs (4 * i + 1)) 1) ||| shB (bAt bs (4 * i + 2)) 2) ||| shB (bAt bs (4 * i + 3)) 3 := by
  simp [wd, wdN]
def msg (bs : List UInt8) : List W := (List.range 16).map (wd bs)
theorem msg_len (bs : List UInt8) : (msg bs).length = 16 := by simp [msg]
theorem msg_at (bs : List UInt8) {i : Nat} (h : i < 16) : wAt (msg bs) i = wd bs i := by
  unfold msg
  rw [wAt, List.getD_eq_getElem?_getD, List.getElem?_map, List.getElem?_range h]; rfl
def iv : List W := [1779033703, 3144134277, 1013904242, 2773480762, 1359893119, 2600822924, 528734635, 1541459225]
def v0 (h : List W) (many : Nat) (last : Bool) : List W :=
  let V := h ++ iv
  let V := V.set 12 (wAt V 12 ^^^ UInt32.ofNat many)
  let V := V.set 13 (wAt V 13 ^^^ UInt32.ofNat (many / 4294967296))
  if last then V.set 14 (~~~ wAt V 14) else V
theorem v0_len {h : List W} (hh : h.length = 8) (many : Nat) (last : Bool) : (v0 h many last).length = 16 := by
  unfold v0; split <;> simp [hh, iv]
def outW (h V : List W) : List W := (List.range 8).map fun i => wAt h i ^^^ (wAt V i ^^^ wAt V (i + 8))
def blockP (h : List W) (bs : List UInt8) (many : Nat) (last : Bool) : List W := outW h (rounds (msg bs) 10 (v0 h many last))
theorem blockP_len (h : List W) (bs : List UInt8) (many : Nat) (last : Bool) : (blockP h bs many last).length = 8 := by simp [blockP, outW]
def h0 : List W := iv.set 0 (wAt iv 0 ^^^ 16842784)
theorem h0_len : h0.length = 8 := rfl
def hashAt (h : List W) (i : Nat) : UInt8 := UInt8.ofNat ((wAt h (i / 4)).toNat / 2 ^ (8 * (i % 4)))
def hashB (h : List W) : List UInt8 := (List.range 32).map (hashAt h)
theorem hashB_len (h : List W) : (hashB h).length = 32 := by simp [hashB]
def zeros (n : Nat) : List UInt8 := List.replicate n 0
theorem zeros_len (n : Nat) : (zeros n).length = n := by simp [zeros]

structure S where
  h : List W
  n : Nat
  l : List UInt8
def eatF : Nat → S → S
  | 0, s => s
  | f + 1, s => if 64 < s.l.length then eatF f ⟨blockP s.h (s.l.take 64) (s.n + 64) false, s.n + 64, s.l.drop 64⟩ else s
/-- All whole blocks but the last one are taken in. -/
def eat (s : S) : S := eatF s.l.length s
theorem eatF_more : ∀ (f : Nat) (s : S), s.l.length ≤ 64 * f + 64 → ∀ g, f ≤ g → eatF g s = eatF f s
  | 0, s, h, g, _ => by
    cases g with
    | zero => rfl
    | succ g => unfold eatF; rw [if_neg (by omega)]
  | f + 1, s, h, g, hg => by
    obtain ⟨g, rfl⟩ : ∃ k, g = k + 1 := ⟨g - 1, by omega⟩
    unfold eatF
    split
    · exact eatF_more f _ (by show (s.l.drop 64).length ≤ _; rw [List.length_drop]; omega) g (by omega)
    · rfl
theorem eat_eq (s : S) : eat s = if 64 < s.l.length then eat ⟨blockP s.h (s.l.take 64) (s.n + 64) false, s.n + 64, s.l.drop 64⟩ else s := by
  unfold eat
  by_cases h : 64 < s.l.length
  · rw [if_pos h]
    obtain ⟨k, hk⟩ : ∃ k, s.l.length = k + 1 := ⟨s.l.length - 1, by omega⟩
    conv => lhs; rw [hk]; unfold eatF
    rw [if_pos h]
    have hl : (s.l.drop 64).length = s.l.length - 64 := List.length_drop ..
    exact eatF_more (s.l.drop 64).length _ (by show (s.l.drop 64).length ≤ _; omega) k (by omega)
  · rw [if_neg h]
    cases hk : s.l.length with
    | zero => rfl
    | succ k => unfold eatF; rw [if_neg h]
theorem eat_small {s : S} (h : s.l.length ≤ 64) : eat s = s := by rw [eat_eq, if_neg (by omega)]
theorem eat_big {s : S} (h : 64 < s.l.length) : eat s = eat ⟨blockP s.h (s.l.take 64) (s.n + 64) false, s.n + 64, s.l.drop 64⟩ := by rw [eat_eq, if_pos h]
theorem eat_ind {P : S → Prop} (small : ∀ s : S, s.l.length ≤ 64 → P s) (big : ∀ s : S, 64 < s.l.length → P ⟨blockP s.h (s.l.take 64) (s.n + 64) false, s.n + 64, s.l.drop 64⟩ → P s) : ∀ (k : Nat) (s : S), s.l.length ≤ k → P s
  | 0, s, h => small s (by omega)
  | k + 1, s, h => by
    by_cases h2 : 64 < s.l.length
    · exact big s h2 (eat_ind small big k _ (by show (s.l.drop 64).length ≤ k; rw [List.length_drop]; omega))
    · exact small s (by omega)
/-- In whatever pieces they come. -/
theorem eat_append (s : S) (p : List UInt8) : eat ⟨s.h, s.n, s.l ++ p⟩ = eat ⟨(eat s).h, (eat s).n, (eat s).l ++ p⟩ := by
  refine eat_ind (P := fun s => eat ⟨s.h, s.n, s.l ++ p⟩ = eat ⟨(eat s).h, (eat s).n, (eat s).l ++ p⟩) ?_ ?_ _ s (Nat.le_refl _)
  · intro s h; rw [eat_small h]
  · intro s h ih
    have hl : (s.l ++ p).length = s.l.length + p.length := List.length_append
    rw [eat_big h, ← ih, eat_big (s := ⟨s.h, s.n, s.l ++ p⟩) (by show 64 < (s.l ++ p).length; omega)]
    show eat ⟨blockP s.h ((s.l ++ p).take 64) (s.n + 64) false, s.n + 64, (s.l ++ p).drop 64⟩ = _
    rw [List.take_append_of_le_length (by omega), List.drop_append_of_le_length (by omega)]
theorem eat_props (s : S) : (eat s).l.length ≤ 64 ∧ (eat s).n + (eat s).l.length = s.n + s.l.length ∧ (s.h.length = 8 → (eat s).h.length = 8) := by
  refine eat_ind (P := fun s => (eat s).l.length ≤ 64 ∧ (eat s).n + (eat s).l.length = s.n + s.l.length ∧ (s.h.length = 8 → (eat s).h.length = 8)) ?_ ?_ _ s (Nat.le_refl _)
  · intro s h; rw [eat_small h]; exact ⟨h, rfl, id⟩
  · intro s h ⟨i1, i2, i3⟩
    rw [eat_big h]
    refine ⟨i1, ?_, fun _ => i3 (blockP_len ..)⟩
    rw [i2]
    show s.n + 64 + (s.l.drop 64).length = _
    rw [List.length_drop]; omega
/-- The last block. -/
def lastH (s : S) : List W := blockP s.h (s.l ++ zeros (64 - s.l.length)) (s.n + s.l.length) true
def sumS (s : S) : List UInt8 := hashB (lastH s)
def start : S := ⟨h0, 0, []⟩
def stOf (bs : List UInt8) : S := eat ⟨h0, 0, bs⟩
def sumB (bs : List UInt8) : List UInt8 := sumS (stOf bs)
theorem sumB_len (bs : List UInt8) : (sumB bs).length = 32 := hashB_len _
theorem stOf_next (xs p : List UInt8) : eat ⟨(stOf xs).h, (stOf xs).n, (stOf xs).l ++ p⟩ = stOf (xs ++ p) := (eat_append ⟨h0, 0, xs⟩ p).symm

/-- The document's loop, at a place. -/
def RefI (bs all : List UInt8) (h : List W) (k : Nat) : Prop := h.length = 8 ∧ ((k < all.length ∧ k % 64 = 0 ∧ (k = 0 ∨ k < bs.length) ∧ stOf bs = eat ⟨h, k, bs.drop k⟩) ∨ (k = all.length ∧ hashB h = sumB bs))
/-- Bytes, filled up. -/
def Pad (bs all : List UInt8) : Prop := ∃ z, all = bs ++ zeros z ∧ all.length % 64 = 0 ∧ 0 < all.length ∧ (z < 64 ∨ (bs = [] ∧ z = 64))
theorem RefI.start {bs all : List UInt8} (h : Pad bs all) : RefI bs all h0 0 := by
  obtain ⟨z, _, _, h3, _⟩ := h
  exact ⟨h0_len, .inl ⟨h3, rfl, .inl rfl, rfl⟩⟩
theorem RefI.next {bs all : List UInt8} {h : List W} {k : Nat} (hp : Pad bs all) (hr : RefI bs all h k) (hk : k < all.length) :
    RefI bs all (blockP h ((all.drop k).take 64) (min bs.length (k + 64)) (decide (k + 64 = all.length))) (k + 64) := by
  obtain ⟨z, rfl, h2, h3, h4⟩ := hp
  rcases hr with ⟨_, ⟨_, k2, k3, k4⟩ | ⟨rfl, _⟩⟩
  · refine ⟨blockP_len .., ?_⟩
    have hl : (bs ++ zeros z).length = bs.length + z := by rw [List.length_append, zeros_len]
    have hd : (bs.drop k).length = bs.length - k := List.length_drop ..
    have hkb : k ≤ bs.length := by omega
    rw [hl] at hk h2 h3 ⊢
    rw [List.drop_append_of_le_length hkb]
    by_cases h64 : 64 < bs.length - k
    · left
      rw [List.take_append_of_le_length (by omega), Nat.min_eq_right (by omega), decide_eq_false (by omega)]
      refine ⟨by omega, by omega, .inr (by omega), ?_⟩
      rw [k4, eat_big (by show 64 < (bs.drop k).length; omega)]
      show eat ⟨_, _, (bs.drop k).drop 64⟩ = _
      rw [List.drop_drop]
    · right
      have he : k + 64 = bs.length + z := by
        rcases h4 with h4 | ⟨h4, h5⟩
        · omega
        · subst h4; subst h5; have : k = 0 := by simp at k3; omega
          subst this; rfl
      rw [decide_eq_true he]
      refine ⟨he, ?_⟩
      unfold sumB sumS lastH
      rw [k4, eat_small (by show (bs.drop k).length ≤ 64; omega)]
      show hashB (blockP h _ _ true) = hashB (blockP h (bs.drop k ++ zeros (64 - (bs.drop k).length)) (k + (bs.drop k).length) true)
      rw [hd, Nat.min_eq_left (by omega), show k + (bs.length - k) = bs.length by omega, show 64 - (bs.length - k) = z by omega, List.take_of_length_le (by rw [List.length_append, zeros_len]; omega)]
  · omega
theorem RefI.end {bs all : List UInt8} {h : List W} {k : Nat} (hr : RefI bs all h k) (hk : ¬ k < all.length) : hashB h = sumB bs := by
  rcases hr with ⟨_, ⟨h1, _⟩ | ⟨_, h2⟩⟩
  · omega
  · exact h2

/-- Which text a hash has. -/
def dig (n : Nat) : UInt8 := [48, 49, 50, 51, 52, 53, 54, 55, 56, 57, 97, 98, 99, 100, 101, 102].getD n 0
def textB (h : List UInt8) : List UInt8 := h.flatMap fun c => [dig (c.toNat / 16), dig (c.toNat % 16)]
/-- The number of a digit; 16: it is none. -/
def dgt (c : UInt8) : Nat := if 48 ≤ c.toNat ∧ c.toNat ≤ 57 then c.toNat - 48 else if 97 ≤ c.toNat ∧ c.toNat ≤ 102 then c.toNat - 87 else 16
def noneT : List UInt8 := "69217a3079908094e11121d042354a7c1f55b6482ca1a51e1b250dfd1ed0eef9".toUTF8.toList
def abcT : List UInt8 := "508c5e8c327c14e2e1a72ba34eeb452f37458b209ed63a294d999b4c86675982".toUTF8.toList
set_option maxRecDepth 100000 in
theorem sum_none : textB (sumB []) = noneT := by decide +kernel
set_option maxRecDepth 100000 in
theorem sum_abc : textB (sumB [97, 98, 99]) = abcT := by decide +kernel
end Go.Proofs.YtmfajippoielhaaDoor.Bl
