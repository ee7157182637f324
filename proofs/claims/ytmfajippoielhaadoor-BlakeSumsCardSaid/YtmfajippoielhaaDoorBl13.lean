/- The program's Read. -/
import Derived.Test.YtmfajippoielhaaDoorBl10
import Derived.Test.YtmfajippoielhaaDoorBlQ
namespace Go.Proofs.YtmfajippoielhaaDoor
open Go.RowKit Go.Proofs.YtmfajippoielhaaDoor.Bl BigFrame
set_option linter.unusedSimpArgs false
set_option linter.unusedVariables false
attribute [local go_sem] cell_alloc_some frozen_alloc_some

def hexL : List UInt8 := [48, 49, 50, 51, 52, 53, 54, 55, 56, 57, 97, 98, 99, 100, 101, 102]
theorem hexL_is : hexS.data.toList = hexL := rfl
def isHex (b : UInt8) : Bool := hexL.contains b
theorem hex_dgt (b : UInt8) : isHex b = decide (dgt b < 16) ∧ (dgt b < 16 → Lib.indexByte hexL b = (dgt b : Int)) := by
  have : ∀ n : Fin 256, isHex (UInt8.ofNat n.1) = decide (dgt (UInt8.ofNat n.1) < 16) ∧ (dgt (UInt8.ofNat n.1) < 16 → Lib.indexByte hexL (UInt8.ofNat n.1) = (dgt (UInt8.ofNat n.1) : Int)) := by decide +kernel
  have h := this ⟨b.toNat, b.toNat_lt⟩
  rwa [show UInt8.ofNat b.toNat = b from UInt8.ofNat_toNat] at h
theorem ba_len (s : ByteArray) : s.data.toList.length = s.size := Array.length_toList
theorem dropWhile_nil {α : Type} (p : α → Bool) : (l : List α) → (l.dropWhile p = [] ↔ l.all p = true)
  | [] => by simp
  | x :: l => by
    rw [List.dropWhile_cons, List.all_cons]
    cases h : p x
    · simp
    · simpa using dropWhile_nil p l
theorem trim_all {l : List UInt8} (h : l.all isHex = true) : Lib.trimS l hexL = [] := by
  have h1 : Lib.trimRightS l hexL = [] := by
    unfold Lib.trimRightS
    rw [(dropWhile_nil (hexL.contains ·) l.reverse).2 (by rw [List.all_reverse]; exact h)]; rfl
  unfold Lib.trimS
  rw [h1]; rfl
theorem dropWhile_head {α : Type} (p : α → Bool) : (l : List α) → (x : α) → (r : List α) → l.dropWhile p = x :: r → p x = false
  | [], x, r, h => by simp at h
  | y :: l, x, r, h => by
    rw [List.dropWhile_cons] at h
    cases hy : p y
    · rw [hy] at h
      simp at h
      rw [← h.1]; exact hy
    · rw [hy] at h
      exact dropWhile_head p l x r (by simpa using h)
theorem trim_some {l : List UInt8} (h : l.all isHex = false) : Lib.trimS l hexL ≠ [] := by
  intro e
  unfold Lib.trimS Lib.trimLeftS at e
  rw [dropWhile_nil] at e
  cases hd : l.reverse.dropWhile (hexL.contains ·) with
  | nil =>
    rw [dropWhile_nil, List.all_reverse] at hd
    rw [show l.all isHex = true from hd] at h
    cases h
  | cons x r =>
    have h1 := dropWhile_head _ _ _ _ hd
    unfold Lib.trimRightS at e
    rw [hd, List.all_reverse, List.all_cons, h1] at e
    cases e
theorem hex_all (l : List UInt8) : l.all isHex = l.all fun c => decide (dgt c < 16) := by
  congr 1; funext c; exact (hex_dgt c).1

/-- A row of 32 so far. -/
def upto (f : Nat → UInt8) (i : Nat) : List UInt8 := (List.range 32).map fun j => if j < i then f j else 0
theorem upto_len (f : Nat → UInt8) (i : Nat) : (upto f i).length = 32 := by simp [upto]
theorem upto_zero (f : Nat → UInt8) : upto f 0 = zeros 32 := by
  apply List.ext_getElem?
  intro j
  by_cases hj : j < 32
  · unfold upto zeros
    rw [List.getElem?_map, List.getElem?_range hj, List.getElem?_replicate, if_pos hj]; simp
  · rw [List.getElem?_eq_none (by rw [upto_len]; omega), List.getElem?_eq_none (by rw [zeros_len]; omega)]
theorem upto_end (f : Nat → UInt8) : upto f 32 = (List.range 32).map f := by
  unfold upto
  refine List.map_congr_left fun j hj => ?_
  rw [if_pos (List.mem_range.1 hj)]
theorem upto_next (f : Nat → UInt8) {i : Nat} (hi : i < 32) : (upto f i).set i (f i) = upto f (i + 1) := by
  apply List.ext_getElem?
  intro j
  rw [List.getElem?_set]
  by_cases hj : j < 32
  · by_cases e : i = j
    · subst e; simp [upto, hi]
    · rw [if_neg e]
      simp only [upto, List.getElem?_map, List.getElem?_range hj, Option.map_some]
      by_cases e2 : j < i
      · rw [if_pos e2, if_pos (by omega)]
      · rw [if_neg e2, if_neg (by omega)]
  · have e : i ≠ j := by omega
    rw [if_neg e, List.getElem?_eq_none (by rw [upto_len]; omega), List.getElem?_eq_none (by rw [upto_len]; omega)]
theorem or_hex {a b : Nat} (ha : a < 16) (hb : b < 16) : bits .or .i64 ((a : Int) * 16) (b : Int) = ((a * 16 + b : Nat) : Int) := by
  have : ∀ a b : Fin 16, bits .or .i64 ((a.1 : Int) * 16) (b.1 : Int) = ((a.1 * 16 + b.1 : Nat) : Int) := by decide +kernel
  exact this ⟨a, ha⟩ ⟨b, hb⟩
theorem bAt_ba (s : ByteArray) {k : Nat} (h : k < s.size) : s[k] = bAt s.data.toList k := by
  unfold bAt
  rw [List.getD_eq_getElem?_getD, List.getElem?_eq_getElem (by rw [ba_len]; exact h)]; rfl
def rdF (s : List UInt8) (i : Nat) : UInt8 := UInt8.ofNat (dgt (bAt s (2 * i)) * 16 + dgt (bAt s (2 * i + 1)))
theorem rdB_eq (s : List UInt8) : rdB s = upto (rdF s) 32 := by rw [upto_end]; rfl

set_option maxRecDepth 100000 in
theorem Read_no (s : ByteArray) (w : World) (h : okT s.data.toList = false) : Calls Tryd.prog 17 #[.string s] w fun e w' => e = .returned (.tuple #[.agg (u8s (zeros 32)).toArray, .int .i64 5]) ∧ Below w.heap.size w w' := by
  have hz32 : (u8s (zeros 32)).length = 32 := by rw [u8s_len, zeros_len]
  go_enter Tryd.func17, Tryd.ntmps17
  go_upto_region 1 with fail
  refine wp_world fun w1 hw => ?_
  have b1 : Below w.heap.size w w1 := by rw [hw]; exact bl_alloc (Below.refl _ _) _
  have C1 : Hs w1 w.heap.size (zeros 32) := by rw [hw]; exact hash_new _ _ rfl
  clear hw
  have H1 := Lib.hid (And.intro C1 b1)
  clear b1 C1
  by_cases h64 : s.size = 64
  · have ha : s.data.toList.all isHex = false := by
      rw [hex_all]
      unfold okT at h
      rw [ba_len, h64] at h
      simpa using h
    have h1 : ((s.size : Int) != 64) = false := by simp; omega
    have h2 : (s.size != 64) = false := by simp [h64]
    have HT := Lib.hid (Trim_any s w1 (by omega))
    have hne := trim_some ha
    rw [hexL_is] at HT
    generalize Lib.trimS s.data.toList hexL = t at *
    have e1 : t.isEmpty = false := by cases t with
      | nil => exact absurd rfl hne
      | cons x l => rfl
    clear ha hne h
    go_wp2_with fail
    refine HT.out.mono ?_
    rintro e w2 ⟨rfl, hb⟩
    have C2 := H1.out.1.below hb
    have hb2 := Lib.hid (bl_then H1.out.2 hb)
    clear hb
    go_wp2_with (first
      | (refine wpList_build_0 (op := ⟨some 13, _, _, _, _, _⟩) rfl rfl ?_)
      | (refine wpList_store_h (op := ⟨none, .store 26 _ _, _, _, _, _⟩) (cs := u8s (zeros 32)) rfl _ _ rfl w.heap.size rfl rfl C2 hz32 hz32 (u8s_one _) ?_; intro w9 c9 k9))
    refine bodyPost_ret (results_h2 rfl _ _ w.heap.size (cs := u8s (zeros 32)) hz32 rfl c9 rfl) rfl ⟨rfl, ?_⟩
    exact ((Keep.of_below (S := fun _ => False) hb2.out).trans k9 (fun b hb e => by omega)).below (Nat.le_refl _) (fun b e => e.elim)
  · have h1 : ((s.size : Int) != 64) = true := by simp; omega
    have h2 : (s.size != 64) = true := by simp [h64]
    clear h h64
    go_wp2_with (first
      | (refine wpList_build_0 (op := ⟨some 13, _, _, _, _, _⟩) rfl rfl ?_)
      | (refine wpList_store_h (op := ⟨none, .store 26 _ _, _, _, _, _⟩) (cs := u8s (zeros 32)) rfl _ _ rfl w.heap.size rfl rfl H1.out.1 hz32 hz32 (u8s_one _) ?_; intro w9 c9 k9))
    refine bodyPost_ret (results_h2 rfl _ _ w.heap.size (cs := u8s (zeros 32)) hz32 rfl c9 rfl) rfl ⟨rfl, ?_⟩
    exact ((Keep.of_below (S := fun _ => False) H1.out.2).trans k9 (fun b hb e => by omega)).below (Nat.le_refl _) (fun b e => e.elim)

set_option maxRecDepth 100000 in
set_option maxHeartbeats 2000000 in
theorem Read_ok (s : ByteArray) (w : World) (h : okT s.data.toList = true) : Calls Tryd.prog 17 #[.string s] w fun e w' => e = .returned (.tuple #[.agg (u8s (rdB s.data.toList)).toArray, .int .i64 0]) ∧ Below w.heap.size w w' := by
  have hz32 : (u8s (zeros 32)).length = 32 := by rw [u8s_len, zeros_len]
  unfold okT at h
  rw [Bool.and_eq_true, ba_len] at h
  have h64 : s.size = 64 := by simpa using h.1
  have ha : s.data.toList.all isHex = true := by rw [hex_all]; exact h.2
  have HD := Lib.hid h.2
  clear h
  go_enter Tryd.func17, Tryd.ntmps17
  go_upto_region 1 with fail
  refine wp_world fun w1 hw => ?_
  have b1 : Below w.heap.size w w1 := by rw [hw]; exact bl_alloc (Below.refl _ _) _
  have C1 : Hs w1 w.heap.size (zeros 32) := by rw [hw]; exact hash_new _ _ rfl
  clear hw
  have H1 := Lib.hid (And.intro C1 b1)
  clear b1 C1
  have h1 : ((s.size : Int) != 64) = false := by simp; omega
  have h2 : (s.size != 64) = false := by simp [h64]
  have HT := Lib.hid (Trim_any s w1 (by omega))
  rw [hexL_is, trim_all ha] at HT
  have HS := Lib.hid h64
  clear ha h64
  go_wp2_with fail
  refine HT.out.mono ?_
  rintro e w2 ⟨rfl, hb⟩
  have H2 : Hid (Hs w2 w.heap.size (upto (rdF s.data.toList) 0) ∧ Below w.heap.size w w2) := by rw [upto_zero]; exact Lib.hid ⟨H1.out.1.below hb, bl_then H1.out.2 hb⟩
  clear hb H1 HT
  go_wp2_with fail
  go_loopw [4, 14, 15, 16, 17, 18, 19, 20, 21, 22, 23, 24, 25, 26, 27, 28, 29, 30, 31, 32, 33] (fun _ s14 _ _ _ _ _ _ _ _ _ _ _ _ _ _ _ _ _ _ _ wr => ∃ i : Nat, i ≤ 32 ∧ s14 = .int .i64 i ∧ Hid (Hs wr w.heap.size (upto (rdF s.data.toList) i) ∧ Below w.heap.size w wr)) (fun _ s14 _ _ _ _ _ _ _ _ _ _ _ _ _ _ _ _ _ _ _ _ => 32 - (intOf s14).toNat)
  case atStart => exact ⟨0, by omega, rfl, H2⟩
  case round =>
    clear H2
    obtain ⟨i, hi, rfl, HI⟩ := hrel
    by_cases hi' : i < 32
    · have e0 := (Cs.at HI.out.1 i).trans (u8s_get (upto (rdF s.data.toList) i) i (by rw [upto_len]; exact hi'))
      generalize (upto (rdF s.data.toList) i)[i]'(by rw [upto_len]; exact hi') = y at e0
      have z0 := kb_frozen HI.out.1 i
      have hs1 : 2 * i < s.size := by rw [HS.out]; omega
      have hs2 : 2 * i + 1 < s.size := by rw [HS.out]; omega
      have d1 : dgt s[2 * i] < 16 := by rw [bAt_ba s hs1]; exact of_decide_eq_true (all_at HD.out (by rw [ba_len]; exact hs1))
      have d2 : dgt s[2 * i + 1] < 16 := by rw [bAt_ba s hs2]; exact of_decide_eq_true (all_at HD.out (by rw [ba_len]; exact hs2))
      have i1 : Lib.indexByte hexS.data.toList ((s[2 * i].toNat : Nat) : Int).toNat.toUInt8 = (dgt s[2 * i] : Int) := by
        rw [Int.toNat_natCast, hexL_is, show s[2 * i].toNat.toUInt8 = s[2 * i] by simp]; exact (hex_dgt _).2 d1
      have i2 : Lib.indexByte hexS.data.toList ((s[2 * i + 1].toNat : Nat) : Int).toNat.toUInt8 = (dgt s[2 * i + 1] : Int) := by
        rw [Int.toNat_natCast, hexL_is, show s[2 * i + 1].toNat.toUInt8 = s[2 * i + 1] by simp]; exact (hex_dgt _).2 d2
      have hN := Hs.put HI.out.1 i (rdF s.data.toList i)
      rw [upto_next _ hi'] at hN
      have hf : u8v (rdF s.data.toList i) = .int .u8 ((dgt s[2 * i] : Int) * 16 + (dgt s[2 * i + 1] : Int)) := by
        rw [bAt_ba s hs1, bAt_ba s hs2] at *
        unfold rdF u8v
        rw [UInt8.toNat_ofNat', Nat.mod_eq_of_lt (by omega), Int.natCast_add, Int.natCast_mul]; rfl
      have HN := Lib.hid (And.intro hN (bl_set (p := ⟨w.heap.size, i, none⟩) (by simp) HI.out.2 (u8v (rdF s.data.toList i))))
      rw [hf] at HN
      have HO := Lib.hid (or_hex d1 d2)
      have HI1 := Lib.hid i1
      have HI2 := Lib.hid i2
      have fi : (i : Int) < 32 := by omega
      have f1 : IntKind.i64.wrap (2 * (i : Int)) = ((2 * i : Nat) : Int) := by rw [IntKind.wrap_i64]; omega
      have f2 : IntKind.i64.wrap (((2 * i : Nat) : Int) + 1) = ((2 * i + 1 : Nat) : Int) := by rw [IntKind.wrap_i64]; omega
      have f3 : ((2 * i : Nat) : Int) < (s.size : Int) := by omega
      have f4 : ((2 * i + 1 : Nat) : Int) < (s.size : Int) := by omega
      clear i1 i2 hf hN HI HD
      generalize hn2 : 2 * i + 1 = n2 at *
      generalize hn1 : 2 * i = n1 at *
      have g1 : n1 < s.size := hs1
      have g2 : n2 < s.size := hs2
      have f5 : IntKind.i64.wrap ((dgt s[n1] : Int) * 16) = (dgt s[n1] : Int) * 16 := by rw [IntKind.wrap_i64]; omega
      have f6 : ((dgt s[n1] * 16 + dgt s[n2] : Nat) : Int) % 256 = ((dgt s[n1] * 16 + dgt s[n2] : Nat) : Int) := by omega
      clear hn1 hn2
      go_upto_region 6 with fail
      refine wp_region_held_drew (S := (fun W : World => True)) (by kernel_rfl) trivial (fun hHeld => ?_)
      refine wpAnyH_take (i := 0) (oi := { dst := some 17, op := _, type := _, pos := _, after := _, guard := _ }) (v := ?_) rfl (by kernel_rfl) (by kernel_rfl) (by kernel_rfl) (fun _ _ _ h => h) (Or.inl ⟨by rfl, ?_⟩) hHeld ?_
      rotate_left
      · (intro w hSw; (try dsimp only at hSw); go_simp); all_goals with_reducible rfl
      try simp only [Act.put, List.setIfInBounds_toArray, List.set_cons_zero, List.set_cons_succ]
      refine wpAnyH_take (i := 1) (oi := { dst := some 18, op := _, type := _, pos := _, after := _, guard := _ }) (v := ?_) rfl (by kernel_rfl) (by kernel_rfl) (by kernel_rfl) (fun _ _ _ h => h) (Or.inl ⟨by rfl, ?_⟩) hHeld ?_
      rotate_left
      · (intro w hSw; (try dsimp only at hSw); go_simp); all_goals with_reducible rfl
      try simp only [Act.put, List.setIfInBounds_toArray, List.set_cons_zero, List.set_cons_succ]
      refine wpAnyH_take (i := 2) (oi := { dst := some 19, op := _, type := _, pos := _, after := _, guard := _ }) (v := ?_) rfl (by kernel_rfl) (by kernel_rfl) (by kernel_rfl) (fun _ _ _ h => h) (Or.inl ⟨by rfl, ?_⟩) hHeld ?_
      rotate_left
      · (intro w hSw; (try dsimp only at hSw); go_simp); all_goals with_reducible rfl
      try simp only [Act.put, List.setIfInBounds_toArray, List.set_cons_zero, List.set_cons_succ]
      refine wpAnyH_take (i := 3) (oi := { dst := some 20, op := _, type := _, pos := _, after := _, guard := _ }) (v := ?_) rfl (by kernel_rfl) (by kernel_rfl) (by kernel_rfl) (fun _ _ _ h => h) (Or.inl ⟨by rfl, ?_⟩) hHeld ?_
      rotate_left
      · (intro w hSw; (try dsimp only at hSw); go_simp); all_goals with_reducible rfl
      try simp only [Act.put, List.setIfInBounds_toArray, List.set_cons_zero, List.set_cons_succ]
      refine wpAnyH_take (i := 4) (oi := { dst := some 21, op := _, type := _, pos := _, after := _, guard := _ }) (v := ?_) rfl (by kernel_rfl) (by kernel_rfl) (by kernel_rfl) (fun _ _ _ h => h) (Or.inl ⟨by rfl, ?_⟩) hHeld ?_
      rotate_left
      · (intro w hSw; (try dsimp only at hSw); go_simp); all_goals with_reducible rfl
      try simp only [Act.put, List.setIfInBounds_toArray, List.set_cons_zero, List.set_cons_succ]
      refine wpAnyH_take (i := 7) (oi := { dst := some 24, op := _, type := _, pos := _, after := _, guard := _ }) (v := ?_) rfl (by kernel_rfl) (by kernel_rfl) (by kernel_rfl) (fun _ _ _ h => h) (Or.inl ⟨by rfl, ?_⟩) hHeld ?_
      rotate_left
      · (intro w hSw; (try dsimp only at hSw); go_simp); all_goals with_reducible rfl
      try simp only [Act.put, List.setIfInBounds_toArray, List.set_cons_zero, List.set_cons_succ]
      refine wpAnyH_take (i := 8) (oi := { dst := some 25, op := _, type := _, pos := _, after := _, guard := _ }) (v := ?_) rfl (by kernel_rfl) (by kernel_rfl) (by kernel_rfl) (fun _ _ _ h => h) (Or.inl ⟨by rfl, ?_⟩) hHeld ?_
      rotate_left
      · (intro w hSw; (try dsimp only at hSw); go_simp); all_goals with_reducible rfl
      try simp only [Act.put, List.setIfInBounds_toArray, List.set_cons_zero, List.set_cons_succ]
      refine wpAnyH_take (i := 9) (oi := { dst := some 26, op := _, type := _, pos := _, after := _, guard := _ }) (v := ?_) rfl (by kernel_rfl) (by kernel_rfl) (by kernel_rfl) (fun _ _ _ h => h) (Or.inl ⟨by rfl, ?_⟩) hHeld ?_
      rotate_left
      · (intro w hSw; (try dsimp only at hSw); go_simp); all_goals with_reducible rfl
      try simp only [Act.put, List.setIfInBounds_toArray, List.set_cons_zero, List.set_cons_succ]
      refine wpAnyH_take (i := 10) (oi := { dst := some 27, op := _, type := _, pos := _, after := _, guard := _ }) (v := ?_) rfl (by kernel_rfl) (by kernel_rfl) (by kernel_rfl) (fun _ _ _ h => h) (Or.inl ⟨by rfl, ?_⟩) hHeld ?_
      rotate_left
      · (intro w hSw; (try dsimp only at hSw); go_simp); all_goals with_reducible rfl
      try simp only [Act.put, List.setIfInBounds_toArray, List.set_cons_zero, List.set_cons_succ]
      refine wpAnyH_take (i := 11) (oi := { dst := some 28, op := _, type := _, pos := _, after := _, guard := _ }) (v := ?_) rfl (by kernel_rfl) (by kernel_rfl) (by kernel_rfl) (fun _ _ _ h => h) (Or.inl ⟨by rfl, ?_⟩) hHeld ?_
      rotate_left
      · (intro w hSw; (try dsimp only at hSw); go_simp); all_goals with_reducible rfl
      try simp only [Act.put, List.setIfInBounds_toArray, List.set_cons_zero, List.set_cons_succ]
      refine wpAnyH_ready (rs := [5]) (by kernel_rfl) (by simp) (AllReadyH.cons (o := _) rfl (fun K hK => ?_) AllReadyH.nil)
      go_simp
      refine (IndexByte_any _ _).mono ?_
      rintro e w2 ⟨rfl, hw2⟩
      subst hw2
      rw [HI1.out]
      refine hK.out _ _ trivial (fun hHeld => ?_)
      clear hK K
      refine wpAnyH_take (i := 6) (oi := { dst := some 23, op := _, type := _, pos := _, after := _, guard := _ }) (v := ?_) rfl (by kernel_rfl) (by kernel_rfl) (by kernel_rfl) (fun _ _ _ h => h) (Or.inl ⟨by rfl, ?_⟩) hHeld ?_
      rotate_left
      · (intro w hSw; (try dsimp only at hSw); go_simp); all_goals with_reducible rfl
      try simp only [Act.put, List.setIfInBounds_toArray, List.set_cons_zero, List.set_cons_succ]
      refine wpAnyH_ready (rs := [12]) (by kernel_rfl) (by simp) (AllReadyH.cons (o := _) rfl (fun K hK => ?_) AllReadyH.nil)
      go_simp
      refine (IndexByte_any _ _).mono ?_
      rintro e w2 ⟨rfl, hw2⟩
      subst hw2
      rw [HI2.out]
      refine hK.out _ _ trivial (fun hHeld => ?_)
      clear hK K
      refine wpAnyH_take (i := 13) (oi := { dst := some 30, op := _, type := _, pos := _, after := _, guard := _ }) (v := ?_) rfl (by kernel_rfl) (by kernel_rfl) (by kernel_rfl) (fun _ _ _ h => h) (Or.inl ⟨by rfl, ?_⟩) hHeld ?_
      rotate_left
      · (intro w hSw; (try dsimp only at hSw); go_simp); all_goals with_reducible rfl
      try simp only [Act.put, List.setIfInBounds_toArray, List.set_cons_zero, List.set_cons_succ]
      rw [HO.out]
      refine wpAnyH_take (i := 14) (oi := { dst := some 31, op := _, type := _, pos := _, after := _, guard := _ }) (v := ?_) rfl (by kernel_rfl) (by kernel_rfl) (by kernel_rfl) (fun _ _ _ h => h) (Or.inl ⟨by rfl, ?_⟩) hHeld ?_
      rotate_left
      · (intro w hSw; (try dsimp only at hSw); go_simp); all_goals with_reducible rfl
      try simp only [Act.put, List.setIfInBounds_toArray, List.set_cons_zero, List.set_cons_succ]
      refine wpAnyH_take (i := 15) (oi := { dst := some 32, op := _, type := _, pos := _, after := _, guard := _ }) (v := ?_) rfl (by kernel_rfl) (by kernel_rfl) (by kernel_rfl) (fun _ _ _ h => h) (Or.inl ⟨by rfl, ?_⟩) hHeld ?_
      rotate_left
      · (intro w hSw; (try dsimp only at hSw); go_simp); all_goals with_reducible rfl
      try simp only [Act.put, List.setIfInBounds_toArray, List.set_cons_zero, List.set_cons_succ]
      refine wpAnyH_ready (rs := [16]) (by kernel_rfl) (by simp) (AllReadyH.cons (o := _) rfl (fun K hK => ?_) AllReadyH.nil)
      go_simp
      refine hK.out _ _ trivial (fun hHeld => ?_)
      refine wpAnyH_done (by kernel_rfl) ?_ _
      clear hHeld hK K e0 z0
      go_wp2_with fail
      go_roundw
      case rel => exact ⟨i + 1, by omega, by go_num, Lib.hid ⟨HN.out.1.drew, bl_drew HN.out.2⟩⟩
      case measure => simp [intOf]; omega
    · obtain rfl : i = 32 := by omega
      rw [← rdB_eq] at HI
      have hrl := rdB_len s.data.toList
      generalize hr : rdB s.data.toList = r at *
      have hr := Lib.hid hr
      have hul : (u8s r).length = 32 := by rw [u8s_len, hrl]
      have hrg := Cs.range HI.out.1
      go_wp2_with (first
        | (refine wpList_load_h (op := ⟨some 34, _, _, _, _, _⟩) _ rfl rfl w.heap.size 0 rfl hrg hul ?_)
        | (refine wpList_store_h (op := ⟨none, .store 26 _ _, _, _, _, _⟩) (cs := u8s r) rfl _ _ rfl w.heap.size rfl rfl HI.out.1 hul hul (u8s_one _) ?_; intro w9 c9 k9))
      refine bodyPost_ret (results_h2 rfl _ _ w.heap.size (cs := u8s r) hul rfl c9 rfl) rfl ⟨by rw [hr.out]; rfl, ?_⟩
      exact ((Keep.of_below (S := fun _ => False) HI.out.2).trans k9 (fun b hb e => by omega)).below (Nat.le_refl _) (fun b e => e.elim)
theorem Read_any (l : List UInt8) (w : World) : Calls Tryd.prog 17 #[.string (strB l)] w fun e w' => e = .returned (.tuple #[.agg (u8s (readP l).1).toArray, .int .i64 (readP l).2]) ∧ Below w.heap.size w w' := by
  unfold readP
  cases h : okT l
  · exact Read_no (strB l) w h
  · exact Read_ok (strB l) w h
end Go.Proofs.YtmfajippoielhaaDoor
