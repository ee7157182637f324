/- The walk of pace.Read. -/
import Derived.Test.YtgjampkdnpdblaaDoorPaceSh
namespace Go.Proofs.YtgjampkdnpdblaaDoor
open Go.RowKit Go.Proofs.YtgjampkdnpdblaaDoor.Pc BigFrame
set_option linter.unusedSimpArgs false
set_option linter.unusedVariables false

def hexL : List UInt8 := [48, 49, 50, 51, 52, 53, 54, 55, 56, 57, 97, 98, 99, 100, 101, 102]
theorem hexL_is : hexS.data.toList = hexL := rfl
def isHex (b : UInt8) : Bool := hexL.contains b
def idxH (b : UInt8) : Nat := (Lib.indexByte hexL b).toNat
theorem idx_all : ∀ n : Fin 256, isHex (UInt8.ofNat n.val) = true → Lib.indexByte hexL (UInt8.ofNat n.val) = (idxH (UInt8.ofNat n.val) : Int) ∧ idxH (UInt8.ofNat n.val) < 16 ∧ hexL[idxH (UInt8.ofNat n.val)]? = some (UInt8.ofNat n.val) := by decide +kernel
theorem idx_hex {b : UInt8} (h : isHex b = true) : Lib.indexByte hexL b = (idxH b : Int) ∧ idxH b < 16 ∧ hexL[idxH b]? = some b := by
  have := idx_all ⟨b.toNat, b.toNat_lt⟩
  rw [show UInt8.ofNat b.toNat = b from UInt8.ofNat_toNat] at this
  exact this h
/-- Is a text sixteen digits? The number of digits. -/
def okR (l : List UInt8) : Bool := l.length == 16 && l.all isHex
def readN (l : List UInt8) : Nat := l.foldl (fun n b => n * 16 + idxH b) 0
def readV (l : List UInt8) : Nat := if okR l then ofV (readN l) else 0
def readE (l : List UInt8) : Int := if okR l then ofE (readN l) else 5
theorem readN_snoc (l : List UInt8) (b : UInt8) : readN (l ++ [b]) = readN l * 16 + idxH b := by simp [readN]
theorem readN_acc : (l : List UInt8) → (a : Nat) → l.all isHex = true → l.foldl (fun n b => n * 16 + idxH b) a < (a + 1) * 16 ^ l.length
  | [], a, _ => by simp
  | b :: l, a, h => by
    rw [List.all_cons, Bool.and_eq_true] at h
    have h2 := (idx_hex h.1).2.1
    have ih := readN_acc l (a * 16 + idxH b) h.2
    rw [List.foldl_cons, List.length_cons, Nat.pow_succ]
    refine Nat.lt_of_lt_of_le ih ?_
    rw [Nat.mul_comm (16 ^ l.length) 16, ← Nat.mul_assoc]
    exact Nat.mul_le_mul_right _ (by omega)
theorem readN_lt (l : List UInt8) (h : l.all isHex = true) : readN l < 16 ^ l.length := by
  have := readN_acc l 0 h
  simpa [readN] using this
theorem ba_len (s : ByteArray) : s.data.toList.length = s.size := Array.length_toList
theorem dropWhile_nil {α : Type} (p : α → Bool) : (l : List α) → (l.dropWhile p = [] ↔ l.all p = true)
  | [] => by simp
  | x :: l => by
    rw [List.dropWhile_cons, List.all_cons]
    cases h : p x
    · simp
    · simpa using dropWhile_nil p l
theorem trim_all {l : List UInt8} (h : l.all isHex = true) : Lib.trimS l hexL = [] := by
  have h1 : Lib.trimRightS l hexL = [] := by
    unfold Lib.trimRightS
    rw [(dropWhile_nil (hexL.contains ·) l.reverse).2 (by rw [List.all_reverse]; exact h)]; rfl
  unfold Lib.trimS
  rw [h1]; rfl
theorem dropWhile_head {α : Type} (p : α → Bool) : (l : List α) → (x : α) → (r : List α) → l.dropWhile p = x :: r → p x = false
  | [], x, r, h => by simp at h
  | y :: l, x, r, h => by
    rw [List.dropWhile_cons] at h
    cases hy : p y
    · rw [hy] at h
      simp at h
      rw [← h.1]; exact hy
    · rw [hy] at h
      exact dropWhile_head p l x r (by simpa using h)
theorem trim_some {l : List UInt8} (h : l.all isHex = false) : Lib.trimS l hexL ≠ [] := by
  intro e
  unfold Lib.trimS Lib.trimLeftS at e
  rw [dropWhile_nil] at e
  cases hd : l.reverse.dropWhile (hexL.contains ·) with
  | nil =>
    rw [dropWhile_nil, List.all_reverse] at hd
    rw [show l.all isHex = true from hd] at h
    cases h
  | cons x r =>
    have h1 := dropWhile_head _ _ _ _ hd
    unfold Lib.trimRightS at e
    rw [hd, List.all_reverse, List.all_cons, h1] at e
    cases e

theorem or_digit {n d : Nat} (h : n < 1152921504606846976) (hd : d < 16) : bits .or .u64 ((n : Int) * 16) (d : Int) = ((n * 16 + d : Nat) : Int) := by
  rw [show (n : Int) * 16 = ((n * 16 : Nat) : Int) by omega]
  rw [u64_or_nat (n * 16) d (by omega) (by omega)]
  congr 1
  have h1 : n * 16 = n <<< 4 := by rw [Nat.shiftLeft_eq]
  rw [h1, ← Nat.shiftLeft_add_eq_or_of_lt (by omega : d < 2 ^ 4)]

set_option maxRecDepth 100000 in
set_option maxHeartbeats 1000000 in
theorem Read_short (s : ByteArray) (w : World) (h : s.size ≠ 16) : Calls Tryd.prog 12 #[.string s] w fun e w' => e = .returned (.tuple #[.float .f64 0, .int .i64 5]) ∧ Below w.heap.size w w' := by
  have h1 : ((s.size : Int) != 16) = true := by simp; omega
  have h2 : (s.size != 16) = true := by simp [h]
  clear h
  go_enter Tryd.func12, Tryd.ntmps12
  go_wp2
  exact bodyPost_ret (v := .tuple #[.float .f64 0, .int .i64 5]) (by simp [results, Tryd.results12, go_sem]) rfl ⟨rfl, by (repeat (with_reducible (first | exact Below.refl _ _ | assumption | refine bl_alloc ?_ _ | refine bl_drew ?_ | refine bl_drewN ?_ _ | (refine bl_set ?_ ?_ _; (focus (first | (simp; done) | (simp; omega) | omega))) | refine bl_then ?_ (by assumption))))⟩
set_option maxRecDepth 100000 in
set_option maxHeartbeats 1000000 in
theorem Read_bad (s : ByteArray) (w : World) (h : s.size = 16) (ha : s.data.toList.all isHex = false) : Calls Tryd.prog 12 #[.string s] w fun e w' => e = .returned (.tuple #[.float .f64 0, .int .i64 5]) ∧ Below w.heap.size w w' := by
  have h1 : ((s.size : Int) != 16) = false := by simp; omega
  have h2 : (s.size != 16) = false := by simp [h]
  have HT := Lib.hid (Trim_any s w (by omega))
  have hne := trim_some ha
  rw [hexL_is] at HT
  generalize Lib.trimS s.data.toList hexL = t at *
  have e1 : t.isEmpty = false := by cases t with
    | nil => exact absurd rfl hne
    | cons x l => rfl
  clear h ha hne
  go_enter Tryd.func12, Tryd.ntmps12
  go_wp2_with fail
  refine HT.out.mono ?_
  rintro e w1 ⟨rfl, hb⟩
  go_wp2
  exact bodyPost_ret (v := .tuple #[.float .f64 0, .int .i64 5]) (by simp [results, Tryd.results12, go_sem]) rfl ⟨rfl, by (repeat (with_reducible (first | exact Below.refl _ _ | assumption | refine bl_alloc ?_ _ | refine bl_drew ?_ | refine bl_drewN ?_ _ | (refine bl_set ?_ ?_ _; (focus (first | (simp; done) | (simp; omega) | omega))) | refine bl_then ?_ (by assumption))))⟩

set_option maxRecDepth 100000 in
set_option maxHeartbeats 2000000 in
theorem Read_ok (s : ByteArray) (w : World) (h : s.size = 16) (ha : s.data.toList.all isHex = true) : Calls Tryd.prog 12 #[.string s] w fun e w' => e = .returned (.tuple #[.float .f64 (ofV (readN s.data.toList)), .int .i64 (ofE (readN s.data.toList))]) ∧ Below w.heap.size w w' := by
  have h1 : ((s.size : Int) != 16) = false := by simp; omega
  have h2 : (s.size != 16) = false := by simp [h]
  have HT := Lib.hid (Trim_any s w (by omega))
  rw [hexL_is, trim_all ha] at HT
  have HA := Lib.hid ha
  have HS := Lib.hid h
  have hl : s.data.toList.length = 16 := by rw [← h]; exact ba_len s
  have HL := Lib.hid hl
  clear ha hl
  go_enter Tryd.func12, Tryd.ntmps12
  go_wp2_with fail
  refine HT.out.mono ?_
  rintro e w1 ⟨rfl, hb⟩
  go_wp2_with fail
  go_loop [4, 5, 14, 15, 16, 17, 18, 19, 20, 21, 22, 23, 24, 25] (fun s4 _ s14 _ _ _ _ _ _ _ _ _ _ _ => ∃ k : Nat, k ≤ 16 ∧ s14 = .int .i64 k ∧ s4 = .int .u64 (readN (s.data.toList.take k) : Nat)) (fun _ _ s14 _ _ _ _ _ _ _ _ _ _ _ => 16 - (intOf s14).toNat)
  case atStart => exact ⟨0, by omega, rfl, rfl⟩
  case round =>
    obtain ⟨k, hk, rfl, rfl⟩ := hrel
    by_cases hlt : k < 16
    · have hks : k < s.size := by omega
      have hks' : (k : Int) < (s.size : Int) := by omega
      have hx : s.data.toList[k]? = some s[k] := by simp [ByteArray.getElem_eq_getElem_data, hks]
      have hall := List.all_eq_true.1 HA.out
      have hhex : isHex s[k] = true := hall _ (List.mem_of_getElem? hx)
      obtain ⟨i1, i2, -⟩ := idx_hex hhex
      have hN := Lib.hid (show readN (s.data.toList.take (k + 1)) = readN (s.data.toList.take k) * 16 + idxH s[k] by rw [List.take_add_one, hx, Option.toList_some, readN_snoc])
      have hlen : (s.data.toList.take k).length = k := by rw [List.length_take, HL.out]; omega
      have hbd := readN_lt (s.data.toList.take k) (by rw [List.all_eq_true]; exact fun x hx => hall x (List.mem_of_mem_take hx))
      rw [hlen] at hbd
      have hbd' : readN (s.data.toList.take k) < 1152921504606846976 := Nat.lt_of_lt_of_le hbd (by
        have : (16 : Nat) ^ k ≤ 16 ^ 15 := Nat.pow_le_pow_right (by omega) (by omega)
        exact Nat.le_trans this (by decide))
      generalize readN (s.data.toList.take k) = n at *
      have hI : Lib.indexByte hexS.data.toList ((s[k].toNat : Nat) : Int).toNat.toUInt8 = (idxH s[k] : Int) := by
        rw [Int.toNat_natCast, hexL_is, show s[k].toNat.toUInt8 = s[k] by simp]
        exact i1
      have HI := Lib.hid hI
      have HO := Lib.hid (or_digit hbd' i2)
      clear i1 hI hbd hlen hall hx hhex
      go_wp2_with fail
      refine (IndexByte_any _ w1).mono ?_
      rintro e w2 ⟨rfl, rfl⟩
      rw [HI.out]
      go_wp2
      go_round
      case rel => exact ⟨k + 1, by omega, by go_num, congrArg (Value.int .u64) (by rw [hN.out]; exact HO.out)⟩
      case measure => simp [intOf]; omega
    · obtain rfl : k = 16 := by omega
      have hT : s.data.toList.take 16 = s.data.toList := List.take_of_length_le (by rw [HL.out]; exact Nat.le_refl _)
      rw [hT]
      obtain ⟨n, hn⟩ : ∃ n, readN s.data.toList = n := ⟨_, rfl⟩
      rw [hn]
      have HN := Lib.hid hn
      clear hT hn
      go_wp2_with (go_at_call 10; (with_reducible refine (Of_any _ _).mono ?_); rintro e w1 ⟨rfl, rfl⟩)
      exact bodyPost_ret (v := .tuple #[.float .f64 (ofV n), .int .i64 (ofE n)]) (by simp [results, Tryd.results12, go_sem]) rfl ⟨by rw [HN.out], by (repeat (with_reducible (first | exact Below.refl _ _ | assumption | refine bl_alloc ?_ _ | refine bl_drew ?_ | refine bl_drewN ?_ _ | (refine bl_set ?_ ?_ _; (focus (first | (simp; done) | (simp; omega) | omega))) | refine bl_then ?_ (by assumption))))⟩
theorem Read_any (s : ByteArray) (w : World) : Calls Tryd.prog 12 #[.string s] w fun e w' => e = .returned (.tuple #[.float .f64 (readV s.data.toList), .int .i64 (readE s.data.toList)]) ∧ Below w.heap.size w w' := by
  have hl : s.data.toList.length = s.size := ba_len s
  by_cases h : s.size = 16
  · cases ha : s.data.toList.all isHex
    · have : okR s.data.toList = false := by unfold okR; rw [ha, Bool.and_false]
      unfold readV readE
      rw [this]
      exact Read_bad s w h ha
    · have : okR s.data.toList = true := by unfold okR; rw [ha, hl, h]; rfl
      unfold readV readE
      rw [this]
      exact Read_ok s w h ha
  · have : okR s.data.toList = false := by unfold okR; rw [hl]; simp [h]
    unfold readV readE
    rw [this]
    exact Read_short s w h
end Go.Proofs.YtgjampkdnpdblaaDoor
