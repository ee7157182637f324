/- The walk of the reference's Text. -/
import Derived.Test.YtgjampkdnpdblaaDoorPaceD4
namespace Go.Proofs.YtgjampkdnpdblaaDoor
open Go.RowKit Go.Proofs.YtgjampkdnpdblaaDoor.Pc BigFrame
set_option linter.unusedSimpArgs false
set_option linter.unusedVariables false

theorem and_15 (m : Nat) (h : m < 18446744073709551616) : bits BinOp.and IntKind.u64 (m : Int) 15 = ((m % 16 : Nat) : Int) := by
  have := u64_and_nat m 15 h (by omega)
  rw [show (15 : Nat) = 2 ^ 4 - 1 from rfl, Nat.and_two_pow_sub_one_eq_mod] at this
  exact this
theorem hex_one (d : Nat) (h : d < 16) : ∀ W : World, (Instr.sliceAt 9 (.string hexS) (some (.int .u64 (d : Int))) (some (.int .u64 ((d : Int) + 1))) none).run Tryd.prog W = .ok (.string ⟨#[(hexD d).toNat.toUInt8]⟩) W := by
  match d, h with
  | 0, _ => intro W; rfl
  | 1, _ => intro W; rfl
  | 2, _ => intro W; rfl
  | 3, _ => intro W; rfl
  | 4, _ => intro W; rfl
  | 5, _ => intro W; rfl
  | 6, _ => intro W; rfl
  | 7, _ => intro W; rfl
  | 8, _ => intro W; rfl
  | 9, _ => intro W; rfl
  | 10, _ => intro W; rfl
  | 11, _ => intro W; rfl
  | 12, _ => intro W; rfl
  | 13, _ => intro W; rfl
  | 14, _ => intro W; rfl
  | 15, _ => intro W; rfl
  | d + 16, h => exact absurd h (by omega)
theorem ba_cons (x : UInt8) (l : List UInt8) : (⟨#[x]⟩ : ByteArray) ++ ⟨l.toArray⟩ = ⟨(x :: l).toArray⟩ := by
  apply ByteArray.ext
  simp [ByteArray.data_append]
theorem hexK_len (n k : Nat) (h : k ≤ 16) : (hexK n k).length = k := by unfold hexK; rw [List.length_drop, hexT_len]; omega
theorem digits_any (w : World) : Calls Tryd.prog 33 #[] w fun e w' => e = .returned (.string hexS) ∧ w = w' := by
  go_enter Tryd.func33, Tryd.ntmps33
  go_wp2
  go_ret
  exact ⟨rfl, rfl⟩

set_option maxRecDepth 100000 in
set_option maxHeartbeats 1000000 in
theorem rText_any (b : Nat) (w : World) (h : b < 18446744073709551616) : Calls Tryd.prog 17 #[.float .f64 b] w fun e w' => e = .returned (.string ⟨(hexT (canon b)).toArray⟩) ∧ w = w' := by
  have hl := canon_lt h
  obtain ⟨n, hn⟩ : ∃ n, canon b = n := ⟨_, rfl⟩
  rw [hn] at hl ⊢
  have B1 : ∀ W : World, Calls Tryd.prog 15 #[.float .f64 b] W fun e w' => e = .returned (.int .u64 n) ∧ W = w' := fun W => hn ▸ rBits_any b W
  have HB := Lib.hid B1
  clear hn B1
  go_enter Tryd.func17, Tryd.ntmps17
  go_wp2_with (go_at_call 15; (with_reducible refine (HB.out _).mono ?_); rintro e w1 ⟨rfl, rfl⟩)
  go_loop [3, 4, 5, 8, 9, 10, 11, 12, 13, 14, 15, 16, 17, 18, 19, 20, 21, 22] (fun s3 s4 s5 _ _ _ _ _ _ _ _ _ _ _ _ _ _ _ => ∃ k : Nat, k ≤ 16 ∧ s5 = .int .i64 k ∧ s3 = .string ⟨(hexK n k).toArray⟩ ∧ s4 = .int .u64 ((n / 16 ^ k : Nat) : Int)) (fun _ _ s5 _ _ _ _ _ _ _ _ _ _ _ _ _ _ _ => 16 - (intOf s5).toNat)
  case atStart => exact ⟨0, by omega, rfl, by rw [hexK_zero], by simp⟩
  case round =>
    obtain ⟨k, hk, rfl, rfl, rfl⟩ := hrel
    by_cases hlt : k < 16
    · have hm : n / 16 ^ k < 18446744073709551616 := Nat.lt_of_le_of_lt (Nat.div_le_self _ _) hl
      have hK := Lib.hid (hexK_next n k hlt)
      have hN := Lib.hid (show n / 16 ^ k / 16 = n / 16 ^ (k + 1) by rw [Nat.pow_succ, Nat.div_div_eq_div_mul])
      have hlen := hexK_len n k hk
      generalize n / 16 ^ k = m at *
      have ha := and_15 m hm
      have hd : m % 16 < 16 := Nat.mod_lt _ (by omega)
      have hw : IntKind.u64.wrap (((m % 16 : Nat) : Int) + 1) = ((m % 16 : Nat) : Int) + 1 := by rw [IntKind.wrap_u64]; omega
      have hs := hex_one (m % 16) hd
      generalize m % 16 = d at *
      generalize hexK n k = l at *
      have hsz : (⟨#[(hexD d).toNat.toUInt8]⟩ : ByteArray).size + (⟨l.toArray⟩ : ByteArray).size ≤ 9223372036854775807 := by
        show 1 + l.toArray.size ≤ _
        rw [List.size_toArray, hlen]; omega
      have hcat := fun W : World => run_string_add_sum (P := Tryd.prog) W ⟨#[(hexD d).toNat.toUInt8]⟩ ⟨l.toArray⟩ hsz
      rw [ba_cons] at hcat
      clear hsz
      go_wp2_with (go_at_call 33; (with_reducible refine (digits_any _).mono ?_); rintro e w1 ⟨rfl, rfl⟩)
      go_round
      case rel => exact ⟨k + 1, by omega, by go_num, by rw [hK.out], congrArg (Value.int .u64) (by rw [← hN.out]; omega)⟩
      case measure => simp [intOf]; omega
    · obtain rfl : k = 16 := by omega
      go_wp2
      go_ret
      exact ⟨rfl, rfl⟩
end Go.Proofs.YtgjampkdnpdblaaDoor
