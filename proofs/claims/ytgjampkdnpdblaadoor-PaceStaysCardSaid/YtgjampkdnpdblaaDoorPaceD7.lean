/- The walk of the reference's Read. -/
import Derived.Test.YtgjampkdnpdblaaDoorPaceD6
import Derived.BigQuiet
import Derived.Deep.QuietTactic
namespace Go.Proofs.YtgjampkdnpdblaaDoor
open Go.RowKit Go.Proofs.YtgjampkdnpdblaaDoor.Pc BigFrame
set_option linter.unusedSimpArgs false
set_option linter.unusedVariables false

theorem hex_at : ∀ d : Fin 16, ∃ b, hexL[d.val]? = some b ∧ idxH b = d.val ∧ isHex b = true := by
  intro d
  have : ∀ d : Fin 16, (match hexL[d.val]? with | some b => idxH b == d.val && isHex b | none => false) = true := by decide +kernel
  have h := this d
  cases e : hexL[d.val]? with
  | none => rw [e] at h; cases h
  | some b =>
    rw [e] at h
    simp at h
    exact ⟨b, rfl, h.1, h.2⟩
theorem hex_found {d : Nat} {b : UInt8} (hd : d < 16) (h : hexL[d]? = some b) : idxH b = d ∧ isHex b = true := by
  obtain ⟨c, h1, h2, h3⟩ := hex_at ⟨d, hd⟩
  rw [show hexL[(⟨d, hd⟩ : Fin 16).val]? = hexL[d]? from rfl, h] at h1
  injection h1 with h1
  subst h1
  exact ⟨h2, h3⟩
theorem hex_none {b : UInt8} (h : ∀ j, j < 16 → hexL[j]? ≠ some b) : isHex b = false := by
  cases e : isHex b
  · rfl
  · obtain ⟨_, h1, h2⟩ := idx_hex e
    exact absurd h2 (h _ h1)
theorem all_take {l : List UInt8} {k : Nat} {b : UInt8} (h : l[k]? = some b) (ha : (l.take k).all isHex = true) (hb : isHex b = true) : (l.take (k + 1)).all isHex = true := by
  rw [List.take_add_one, h, List.all_append, ha]
  simp [hb]
theorem all_not {l : List UInt8} {k : Nat} {b : UInt8} (h : l[k]? = some b) (hb : isHex b = false) : l.all isHex = false := by
  cases e : l.all isHex
  · rfl
  · have := List.all_eq_true.1 e b (List.mem_of_getElem? h)
    rw [hb] at this
    cases this
theorem hexS_at (d : Nat) (h : d < hexS.size) : hexL[d]? = some hexS[d] := by
  have h' : d < hexL.length := h
  rw [List.getElem?_eq_getElem h']
  rfl

set_option maxRecDepth 100000 in
set_option maxHeartbeats 1000000 in
theorem rRead_short (s : ByteArray) (w : World) (h : s.size ≠ 16) : Calls Tryd.prog 13 #[.string s] w fun e w' => e = .returned (.tuple #[.float .f64 0, .int .i64 5]) ∧ Below w.heap.size w w' := by
  have h1 : ((s.size : Int) != 16) = true := by simp; omega
  have h2 : (s.size != 16) = true := by simp [h]
  clear h
  go_enter Tryd.func13, Tryd.ntmps13
  go_wp2
  exact bodyPost_ret (v := .tuple #[.float .f64 0, .int .i64 5]) (by simp [results, Tryd.results13, go_sem]) rfl ⟨rfl, by (repeat (with_reducible (first | exact Below.refl _ _ | assumption | refine bl_alloc ?_ _ | refine bl_drew ?_ | refine bl_drewN ?_ _ | (refine bl_set ?_ ?_ _; (focus (first | (simp; done) | (simp; omega) | omega))) | refine bl_then ?_ (by assumption))))⟩

set_option maxRecDepth 100000 in
set_option maxHeartbeats 4000000 in
theorem rRead_long (s : ByteArray) (w : World) (h : s.size = 16) : Calls Tryd.prog 13 #[.string s] w fun e w' => e = .returned (.tuple #[.float .f64 (readV s.data.toList), .int .i64 (readE s.data.toList)]) ∧ Below w.heap.size w w' := by
  have h1 : ((s.size : Int) != 16) = false := by simp; omega
  have h2 : (s.size != 16) = false := by simp [h]
  have HL := Lib.hid (show s.data.toList.length = 16 by rw [← h]; exact ba_len s)
  go_enter Tryd.func13, Tryd.ntmps13
  go_wp2_with fail
  go_loopw [4, 5, 6, 10, 11, 12, 13, 14, 15, 16, 17, 18, 19, 20, 21, 22, 23, 24, 25, 26, 27, 28, 29, 30, 31, 32, 33] (fun s4 s5 _ _ _ _ _ _ _ _ _ _ _ _ _ _ _ _ _ _ _ _ _ _ _ _ _ wr => ∃ k : Nat, k ≤ 16 ∧ s5 = .int .i64 k ∧ s4 = .int .u64 (readN (s.data.toList.take k) : Nat) ∧ Hid ((s.data.toList.take k).all isHex = true) ∧ Below w.heap.size w wr) (fun _ s5 _ _ _ _ _ _ _ _ _ _ _ _ _ _ _ _ _ _ _ _ _ _ _ _ _ _ => 16 - (intOf s5).toNat)
  case atStart => exact ⟨0, by omega, rfl, rfl, rfl, Below.refl _ _⟩
  case round =>
    obtain ⟨k, hk, rfl, rfl, hall, hnx⟩ := hrel
    by_cases hlt : k < 16
    · have hks : k < s.size := by omega
      have hks' : (k : Int) < (s.size : Int) := by omega
      have hx : s.data.toList[k]? = some s[k] := by simp [ByteArray.getElem_eq_getElem_data, hks]
      have HX := Lib.hid hx
      have hlen : (s.data.toList.take k).length = k := by rw [List.length_take, HL.out]; omega
      have hbd := readN_lt (s.data.toList.take k) hall.out
      rw [hlen] at hbd
      have hbd' : readN (s.data.toList.take k) < 1152921504606846976 := Nat.lt_of_lt_of_le hbd (by
        have : (16 : Nat) ^ k ≤ 16 ^ 15 := Nat.pow_le_pow_right (by omega) (by omega)
        exact Nat.le_trans this (by decide))
      have HN := Lib.hid (fun (b : UInt8) (hb : s.data.toList[k]? = some b) => (show readN (s.data.toList.take (k + 1)) = readN (s.data.toList.take k) * 16 + idxH b by rw [List.take_add_one, hb, Option.toList_some, readN_snoc]))
      have HB := Lib.hid hbd'
      generalize readN (s.data.toList.take k) = n at *
      clear hbd hlen hx hbd'
      go_wp2_with fail
      go_loopw [6, 14, 15, 16, 17, 18, 19, 20, 21, 22, 23, 24, 25, 26] (fun s6 _ _ _ _ _ _ _ _ _ _ _ _ _ wr => ∃ d : Nat, d ≤ 16 ∧ s6 = .int .i64 d ∧ Hid (∀ j, j < d → hexL[j]? ≠ s.data.toList[k]?) ∧ Below w.heap.size w wr) (fun s6 _ _ _ _ _ _ _ _ _ _ _ _ _ _ => 16 - (intOf s6).toNat)
      case atStart => exact ⟨0, by omega, rfl, Lib.hid (fun j hj => by omega), hnx⟩
      case round =>
        obtain ⟨d, hd, rfl, hno, hnx2⟩ := hrel
        by_cases hdl : d < 16
        · have hds : d < hexS.size := hdl
          have hds' : (d : Int) < (hexS.size : Int) := by have : hexS.size = 16 := rfl; omega
          have hd16 : (d : Int) < 16 := by omega
          have HD := Lib.hid (hexS_at d hds)
          by_cases heq : hexS[d] = s[k]
          · have q1 : (((hexS[d]'hds).toNat : Int) != ((s[k]'hks).toNat : Int)) = false := by rw [heq]; simp
            have q2 : ((hexS[d]'hds).toNat != (s[k]'hks).toNat) = false := by rw [heq]; simp
            have q3 : (((hexS[d]'hds).toNat : Int) == ((s[k]'hks).toNat : Int)) = true := by rw [heq]; simp
            have HQ := Lib.hid heq
            clear heq
            go_wp2_with fail
            (refine wp_region_below (by kernel_rfl) (by kernel_rfl) ?_; (repeat (first | go_big_quiet_skip | (go_big_quiet_want; first | (go_big_quiet_op; go_big_quiet_on) | (apply Exists.intro; refine ⟨fun W hW => ?_, ?_⟩; (focus (unfold Oper.quietAt; go_simp; first | exact rfl | exact ⟨rfl, rfl⟩ | (go_at_call 33; exact q_same hW (digits_any _)))); go_big_quiet_on; simp only [Act.put, List.setIfInBounds_toArray, List.set_cons_succ, List.set_cons_zero])))); refine wpQuiet_nil ?_; intro w1 hb1; have hz1 := hb1.size)
            have hdn : ((d : Int) == 16) = false := by simp; omega
            obtain ⟨f1, f2⟩ := hex_found hdl (HD.out.trans (congrArg some HQ.out))
            have HO := Lib.hid (or_digit HB.out hdl)
            have HF := Lib.hid (And.intro f1 f2)
            have hwd : IntKind.u64.wrap (d : Int) = (d : Int) := by rw [IntKind.wrap_u64]; omega
            have hwn : IntKind.u64.wrap ((n : Int) * 16) = (n : Int) * 16 := by have := HB.out; rw [IntKind.wrap_u64]; omega
            clear q1 q2 q3 f1 f2
            go_wp2
            go_roundw
            case rel => exact ⟨k + 1, by omega, by go_num, congrArg (Value.int .u64) (by rw [HN.out _ HX.out, HF.out.1]; exact HO.out), Lib.hid (all_take HX.out hall.out HF.out.2), bl_then hnx2 hb1⟩
            case measure => simp [intOf]; omega
          · have hne : (hexS[d]).toNat ≠ (s[k]).toNat := fun e => heq (UInt8.toNat_inj.1 e)
            have q1 : (((hexS[d]'hds).toNat : Int) != ((s[k]'hks).toNat : Int)) = true := by simp; omega
            have q2 : ((hexS[d]'hds).toNat != (s[k]'hks).toNat) = true := by simpa using hne
            have q3 : (((hexS[d]'hds).toNat : Int) == ((s[k]'hks).toNat : Int)) = false := by simp; omega
            have HQ := Lib.hid heq
            clear heq hne
            go_wp2_with fail
            (refine wp_region_below (by kernel_rfl) (by kernel_rfl) ?_; (repeat (first | go_big_quiet_skip | (go_big_quiet_want; first | (go_big_quiet_op; go_big_quiet_on) | (apply Exists.intro; refine ⟨fun W hW => ?_, ?_⟩; (focus (unfold Oper.quietAt; go_simp; first | exact rfl | exact ⟨rfl, rfl⟩ | (go_at_call 33; exact q_same hW (digits_any _)))); go_big_quiet_on; simp only [Act.put, List.setIfInBounds_toArray, List.set_cons_succ, List.set_cons_zero])))); refine wpQuiet_nil ?_; intro w1 hb1; have hz1 := hb1.size)
            clear q1 q2 q3
            go_wp2
            go_roundw
            case rel => exact ⟨d + 1, by omega, by go_num, Lib.hid (fun j hj => by
              by_cases e : j = d
              · subst e
                rw [HD.out, HX.out]
                exact fun e => HQ.out (by injection e)
              · exact hno.out j (by omega)), bl_then hnx2 hb1⟩
            case measure => simp [intOf]; omega
        · obtain rfl : d = 16 := by omega
          have hb : isHex s[k] = false := hex_none (fun j hj => by rw [← HX.out]; exact hno.out j hj)
          have hok : okR s.data.toList = false := by unfold okR; rw [all_not HX.out hb, Bool.and_false]
          have HOK := Lib.hid (show readV s.data.toList = 0 ∧ readE s.data.toList = 5 by unfold readV readE; rw [hok]; exact ⟨rfl, rfl⟩)
          clear hb hok
          go_wp2_with fail
          (refine wp_region_below (by kernel_rfl) (by kernel_rfl) ?_; (repeat (first | go_big_quiet_skip | (go_big_quiet_want; first | (go_big_quiet_op; go_big_quiet_on) | (apply Exists.intro; refine ⟨fun W hW => ?_, ?_⟩; (focus (unfold Oper.quietAt; go_simp; first | exact rfl | exact ⟨rfl, rfl⟩ | (go_at_call 33; exact q_same hW (digits_any _)))); go_big_quiet_on; simp only [Act.put, List.setIfInBounds_toArray, List.set_cons_succ, List.set_cons_zero])))); refine wpQuiet_nil ?_; intro w1 hb1; have hz1 := hb1.size)
          go_wp2
          exact bodyPost_ret (v := .tuple #[.float .f64 0, .int .i64 5]) (by simp [results, Tryd.results13, go_sem]) rfl ⟨by rw [HOK.out.1, HOK.out.2], bl_then hnx2 hb1⟩
    · obtain rfl : k = 16 := by omega
      have hT : s.data.toList.take 16 = s.data.toList := List.take_of_length_le (by rw [HL.out]; exact Nat.le_refl _)
      rw [hT] at hall ⊢
      have hok : okR s.data.toList = true := by unfold okR; rw [hall.out, HL.out]; rfl
      have HOK := Lib.hid (show readV s.data.toList = ofV (readN s.data.toList) ∧ readE s.data.toList = ofE (readN s.data.toList) by unfold readV readE; rw [hok]; exact ⟨rfl, rfl⟩)
      generalize readN s.data.toList = n at *
      clear hT hok hall
      go_wp2_with (go_at_call 11; (with_reducible refine (rOf_any _ _).mono ?_); rintro e w1 ⟨rfl, rfl⟩)
      exact bodyPost_ret (v := .tuple #[.float .f64 (ofV n), .int .i64 (ofE n)]) (by simp [results, Tryd.results13, go_sem]) rfl ⟨by rw [HOK.out.1, HOK.out.2], hnx⟩
theorem rRead_any (s : ByteArray) (w : World) : Calls Tryd.prog 13 #[.string s] w fun e w' => e = .returned (.tuple #[.float .f64 (readV s.data.toList), .int .i64 (readE s.data.toList)]) ∧ Below w.heap.size w w' := by
  by_cases h : s.size = 16
  · exact rRead_long s w h
  · have : okR s.data.toList = false := by unfold okR; rw [ba_len]; simp [h]
    unfold readV readE
    rw [this]
    exact rRead_short s w h
end Go.Proofs.YtgjampkdnpdblaaDoor
