/- The walk of pace.Text: sixteen digits of base 16. -/
import Derived.Test.YtgjampkdnpdblaaDoorPaceD
import Derived.Laws.BitsAllLaws
import Derived.Laws.IdiomStrings
namespace Go.Proofs.YtgjampkdnpdblaaDoor
open Go.RowKit Go.Proofs.YtgjampkdnpdblaaDoor.Pc

/-- A digit of base 16, as a byte. -/
def hexD (d : Nat) : Int := if d < 10 then 48 + d else 87 + d
/-- The array behind k rounds. -/
def hexC (n k : Nat) : Array Value := ((List.range 16).map fun i => Value.int .u8 (if 15 < i + k then hexD (n / 16 ^ (15 - i) % 16) else 0)).toArray

theorem hex_get (n k i : Nat) (h : i < 16) : (hexC n k)[i]? = some (.int .u8 (if 15 < i + k then hexD (n / 16 ^ (15 - i) % 16) else 0)) := by
  simp [hexC, h]
theorem hex_size (n k : Nat) : (hexC n k).size = 16 := by simp [hexC]
theorem hex_set (n k : Nat) (h : k < 16) : (hexC n k).setIfInBounds (15 - k) (.int .u8 (hexD (n / 16 ^ k % 16))) = hexC n (k + 1) := by
  apply Array.ext_getElem?
  intro i
  rw [Array.getElem?_setIfInBounds, hex_size]
  by_cases hi : i < 16
  · rw [hex_get n (k + 1) i hi, hex_get n k i hi]
    by_cases e : 15 - k = i
    · subst e
      rw [if_pos rfl, if_pos (by omega), if_pos (by omega), show 15 - (15 - k) = k from by omega]
    · rw [if_neg e]
      by_cases g : 15 < i + k
      · rw [if_pos g, if_pos (by omega)]
      · rw [if_neg g, if_neg (by omega)]
  · have h1 : (hexC n (k + 1))[i]? = none := by simp [hexC]; omega
    have h2 : (hexC n k)[i]? = none := by simp [hexC]; omega
    rw [h1, h2, if_neg (by omega)]
def hexS : ByteArray := { data := #[48, 49, 50, 51, 52, 53, 54, 55, 56, 57, 97, 98, 99, 100, 101, 102] }
theorem hex_byte (d : Nat) (h : d < 16) (h' : d < hexS.size) : ((hexS[d].toNat : Nat) : Int) = hexD d := by
  have : d = 0 ∨ d = 1 ∨ d = 2 ∨ d = 3 ∨ d = 4 ∨ d = 5 ∨ d = 6 ∨ d = 7 ∨ d = 8 ∨ d = 9 ∨ d = 10 ∨ d = 11 ∨ d = 12 ∨ d = 13 ∨ d = 14 ∨ d = 15 := by omega
  rcases this with rfl | rfl | rfl | rfl | rfl | rfl | rfl | rfl | rfl | rfl | rfl | rfl | rfl | rfl | rfl | rfl <;> rfl
theorem canon_lt {b : Nat} (h : b < 18446744073709551616) : canon b < 18446744073709551616 := by
  unfold canon
  split
  · decide
  · exact h
theorem hex_and (n k : Nat) (h : n < 18446744073709551616) : bits BinOp.and IntKind.u64 ((n : Int) / 2 ^ (4 * k)) 15 = ((n / 16 ^ k % 16 : Nat) : Int) := by
  have e1 : ((n : Int) / 2 ^ (4 * k)) = ((n / 16 ^ k : Nat) : Int) := by
    rw [show (16 : Nat) ^ k = 2 ^ (4 * k) from by rw [Nat.pow_mul]]
    simp
  rw [e1]
  have hl : n / 16 ^ k < 18446744073709551616 := Nat.lt_of_le_of_lt (Nat.div_le_self _ _) h
  generalize n / 16 ^ k = m at *
  have := u64_and_nat m 15 hl (by omega)
  rw [show (15 : Nat) = 2 ^ 4 - 1 from rfl, Nat.and_two_pow_sub_one_eq_mod] at this
  exact this

theorem hexD_bd {d : Nat} (h : d < 16) : 48 ≤ hexD d ∧ hexD d ≤ 102 := by unfold hexD; split <;> omega
/-- The sixteen digits of a number. -/
def hexT (n : Nat) : List UInt8 := (List.range 16).map fun i => (hexD (n / 16 ^ (15 - i) % 16)).toNat.toUInt8
theorem hexT_get (n j : Nat) (h : j < (hexT n).length) : (((hexT n)[j]).toNat : Int) = hexD (n / 16 ^ (15 - j) % 16) := by
  have hb := hexD_bd (Nat.mod_lt (n / 16 ^ (15 - j)) (show 0 < 16 by omega))
  simp only [hexT, List.getElem_map, List.getElem_range]
  generalize hexD (n / 16 ^ (15 - j) % 16) = z at *
  rw [Nat.toUInt8_eq, UInt8.toNat_ofNat']
  omega

set_option maxHeartbeats 400000 in
theorem Text_any (b : Nat) (w : World) (h : b < 18446744073709551616) : Calls Tryd.prog 16 #[.float .f64 b] w fun e w' => e = .returned (.string ⟨(hexT (canon b)).toArray⟩) ∧ Below w.heap.size w w' := by
  have hl := canon_lt h
  obtain ⟨n, hn⟩ : ∃ n, canon b = n := ⟨_, rfl⟩
  rw [hn] at hl ⊢
  have B1 : ∀ W : World, Calls Tryd.prog 14 #[.float .f64 b] W fun e w' => e = .returned (.int .u64 n) ∧ W = w' := fun W => hn ▸ Bits_any b W
  have HB := Lib.hid B1
  clear hn B1
  go_enter Tryd.func16, Tryd.ntmps16
  go_wp2_with (go_at_call 14; (with_reducible refine (HB.out _).mono ?_); rintro e w1 ⟨rfl, rfl⟩)
  go_loopw [5, 8, 9, 10, 11, 12, 13, 14, 15, 16, 17, 18, 19, 20] (fun _ s8 _ _ _ _ _ _ _ _ _ _ _ _ wr => ∃ k : Nat, k ≤ 16 ∧ s8 = .int .i64 k ∧ wr.heap[w.heap.size]? = some (.cells (hexC n k) 51) ∧ Below w.heap.size w wr) (fun _ s8 _ _ _ _ _ _ _ _ _ _ _ _ _ => 16 - (intOf s8).toNat)
  case atStart =>
    exact ⟨0, by omega, rfl, kb_new rfl _, by (repeat (with_reducible (first | exact Below.refl _ _ | assumption | refine bl_alloc ?_ _ | refine bl_drew ?_ | refine bl_drewN ?_ _ | (refine bl_set ?_ ?_ _; (focus (first | (simp; done) | (simp; omega) | omega))) | refine bl_then ?_ (by assumption))))⟩
  case round =>
    obtain ⟨k, hk, rfl, B0, hb⟩ := hrel
    have z0 := kb_frozen B0
    by_cases hlt : k < 16
    · have c0 : wr.cell? ⟨w.heap.size, 15 - k, none⟩ = some _ := (kb_cell B0 (15 - k)).trans (hex_get n k (15 - k) (by omega))
      have ha := hex_and n k hl
      have hd : n / 16 ^ k % 16 < 16 := Nat.mod_lt _ (by omega)
      have hs := Lib.hid (hex_set n k hlt)
      generalize n / 16 ^ k % 16 = d at *
      have hx := Lib.hid (hex_byte d hd)
      go_wp2
      go_roundw
      case rel =>
        refine ⟨k + 1, by omega, by go_num, ?_, by (repeat (with_reducible (first | exact Below.refl _ _ | assumption | refine bl_alloc ?_ _ | refine bl_drew ?_ | refine bl_drewN ?_ _ | (refine bl_set ?_ ?_ _; (focus (first | (simp; done) | (simp; omega) | omega))) | refine bl_then ?_ (by assumption))))⟩
        rw [← hs.out, ← hx.out hd]
        exact kb_set B0 _
      case measure => simp [intOf]; omega
    · obtain rfl : k = 16 := by omega
      have hc : ∀ W : World, W = wr → (convert 52 9 (.slice (some ⟨w.heap.size, 0, none⟩) 16 16)).run Tryd.prog W = .ok (.string ⟨(hexT n).toArray⟩) W := fun W e => by
        subst e
        refine run_convert_bytes_back W 52 9 5 ⟨w.heap.size, 0, none⟩ 16 (hexT n) Tryd.underlying52 Tryd.underlying5 Tryd.underlying9 ?_
        intro j hj
        have hj' : j < 16 := by simpa [hexT] using hj
        have := (kb_cell B0 j).trans (hex_get n 16 j hj')
        rw [if_pos (by omega)] at this
        rw [show (⟨w.heap.size, 0, none⟩ : Addr).add j = ⟨w.heap.size, j, none⟩ from by simp [Addr.add]; omega, this, hexT_get n j hj]
      have hc' := hc wr rfl
      clear hc
      go_wp2
      go_ret
      exact ⟨rfl, by (repeat (with_reducible (first | exact Below.refl _ _ | assumption | refine bl_alloc ?_ _ | refine bl_drew ?_ | refine bl_drewN ?_ _ | (refine bl_set ?_ ?_ _; (focus (first | (simp; done) | (simp; omega) | omega))) | refine bl_then ?_ (by assumption))))⟩
end Go.Proofs.YtgjampkdnpdblaaDoor
