/- FlightOnce: the walk. -/
import Derived.Test.YtfbgnimkjflffaaFly17
import Derived.Test.YtfbgnimkjflffaaKit
namespace Go.Proofs.Ytfbgnimkjflffaa
open Go.RowKit Go.Maps
attribute [local go_sem] cell_alloc_some frozen_alloc_some

/-- An act. -/
structure Ac where
  kind : Int
  id : Int
  to : Int
  h : Int
  at_ : Int

theorem keep_fresh {w : World} {B p m : Nat} {s s' : Value} (hs : s'.ownBlock = s.ownBlock ∨ ∃ b, w.heap.size ≤ b ∧ s'.ownBlock = some b) {v : Value} {k e size : Nat} {xs : List Value} (ho : w.ownsRow B e size v k xs)
    (hn : ∀ b, v.ownBlock = some b → ¬ FlS p m s b) : ∀ b, v.ownBlock = some b → ¬ FlS p m s' b := by
  intro b hb hS
  rcases hS with h | h | h
  · exact hn b hb (.inl h)
  · exact hn b hb (.inr (.inl h))
  · rcases hs with e | ⟨c, hc, e⟩
    · exact hn b hb (.inr (.inr (e ▸ h)))
    · rw [e] at h
      have hlt := (ho.lt b hb).2
      injection h with h
      omega

set_option maxRecDepth 100000 in
set_option maxHeartbeats 4000000 in
theorem FlightOnce_some (x : Int) (b off cap : Nat) (l : List Ac) (w : World) (hl : l.length ≤ 60) (hb : b < w.heap.size)
    (hc : ∀ (k : Nat) a, l[k]? = some a → w.cell? ⟨b, off + k * 5, none⟩ = some (.int .i64 a.kind) ∧ w.cell? ⟨b, off + k * 5 + 1, none⟩ = some (.int .i64 a.id) ∧ w.cell? ⟨b, off + k * 5 + 2, none⟩ = some (.int .i64 a.to) ∧ w.cell? ⟨b, off + k * 5 + 3, none⟩ = some (.int .i64 a.h) ∧ w.cell? ⟨b, off + k * 5 + 4, none⟩ = some (.int .i64 a.at_)) :
    Calls Try.prog 4 #[.int .i64 x, .slice (some ⟨b, off, none⟩) l.length cap] w fun e w' => e = .returned (.bool true) ∧ Below w.heap.size w w' := by
  have HC := Lib.hid hc
  clear hc
  go_enter Try.func4, Try.ntmps4
  go_wp2_with fail
  refine (FlightKnown_any _).mono ?_
  rintro e w1 ⟨rfl, b1⟩
  go_wp2_with fail
  refine (Pick_any x 16 _ (by omega)).mono ?_
  rintro e w2 ⟨rfl, rfl⟩
  obtain ⟨p1, p2⟩ := pick_bd (x := x) (n := 16) (by omega)
  generalize pickN x 16 = y at *
  go_wp2_with fail
  refine (fNew_fl (1 + y) _ (by omega) (by omega)).mono ?_
  rintro e w2 ⟨rfl, F, b2⟩
  have F0 := Lib.hid F
  have b12 := bl_then b1 b2
  have hB : w.heap.size ≤ w1.heap.size := b1.size
  have hB2 : w1.heap.size ≤ w2.heap.size := b2.size
  clear F b1
  go_wp2_with fail
  go_loopw [8, 9, 10, 11, 12, 13, 14, 34, 35, 36, 37, 38, 39, 40, 41, 42, 43, 44, 45, 46, 47, 48, 49, 50, 51, 52, 53, 54, 55, 56, 57, 58, 59, 60, 61, 62, 63, 64, 65, 66, 67, 68, 69, 70, 71, 72, 73, 74, 75, 76, 77, 78, 79, 80, 81, 82, 83, 84, 85, 86, 87, 88, 89, 90, 91, 92, 93, 94, 95, 96, 97, 98, 99, 100, 101, 102, 103, 104, 105, 106, 107, 108, 109, 110, 111, 112, 113, 114] (fun s8 s9 _ _ _ _ _ _ _ _ _ _ _ _ _ _ _ _ _ _ _ _ _ _ _ _ _ _ _ _ _ _ _ _ _ _ _ _ _ _ _ _ _ _ _ _ _ _ _ _ _ _ _ _ _ _ _ _ _ _ _ _ _ _ _ _ _ _ _ _ _ _ _ _ _ _ _ _ _ _ _ _ _ _ _ _ _ _ wr => ∃ (k : Nat) (L : List Rq) (s : Value), k ≤ l.length ∧ L.length ≤ k ∧ s9 = .int .i64 k ∧ Fl wr w1.heap.size (w1.heap.size + 1) w1.heap.size (1 + y) s L ∧ wr.ownsRow w1.heap.size 29 5 s8 L.length (rqs L) ∧ (∀ b, s8.ownBlock = some b → ¬ FlS (w1.heap.size + 1) w1.heap.size s b) ∧ Below w.heap.size w wr) (fun _ s9 _ _ _ _ _ _ _ _ _ _ _ _ _ _ _ _ _ _ _ _ _ _ _ _ _ _ _ _ _ _ _ _ _ _ _ _ _ _ _ _ _ _ _ _ _ _ _ _ _ _ _ _ _ _ _ _ _ _ _ _ _ _ _ _ _ _ _ _ _ _ _ _ _ _ _ _ _ _ _ _ _ _ _ _ _ _ _ => l.length - (intOf s9).toNat)
  case atStart => exact ⟨0, [], _, by omega, by simp, rfl, F0.out, World.ownsRow_nil _ _ _ _, fun b h => by simp [Value.ownBlock] at h, b12⟩
  case round =>
    obtain ⟨k, L, s, hk, hLk, rfl, F, hrow, hdis, hb3⟩ := hrel
    by_cases hlt : k < l.length
    · obtain ⟨a, ha⟩ : ∃ a, l[k]? = some a := ⟨_, List.getElem?_eq_getElem hlt⟩
      obtain ⟨g0, g1, g2, g3, g4⟩ := HC.out k a ha
      have g0 := (hb3.cell (p := ⟨b, off + k * 5, none⟩) (by exact hb)).trans g0
      have g1 := (hb3.cell (p := ⟨b, off + k * 5 + 1, none⟩) (by exact hb)).trans g1
      have g2 := (hb3.cell (p := ⟨b, off + k * 5 + 2, none⟩) (by exact hb)).trans g2
      have g3 := (hb3.cell (p := ⟨b, off + k * 5 + 3, none⟩) (by exact hb)).trans g3
      have g4 := (hb3.cell (p := ⟨b, off + k * 5 + 4, none⟩) (by exact hb)).trans g4
      obtain ⟨kd, id, to, h, at_⟩ := a
      simp only at g0 g1 g2 g3 g4
      have HF := Lib.hid F
      have HR := Lib.hid hrow
      have HD := Lib.hid hdis
      have hL60 : L.length ≤ 1000 := by omega
      obtain ⟨A, cap1, rfl⟩ := owns_slice hrow
      have hilL : ((k : Nat) : Int) < (l.length : Int) := by omega
      clear F hrow hdis ha
      have D1 : (wr.alloc (.cells #[.int .i64 kd, .int .i64 id, .int .i64 to, .int .i64 h, .int .i64 at_] 38)).heap[wr.heap.size]? = some _ := kb_new rfl _
      have cD := kb_cell D1
      have FA := Lib.hid (HF.out.below (bl_alloc (Below.refl _ wr) (.cells #[.int .i64 kd, .int .i64 id, .int .i64 to, .int .i64 h, .int .i64 at_] 38)))
      have RA := Lib.hid (HR.out.alloc (.cells #[.int .i64 kd, .int .i64 id, .int .i64 to, .int .i64 h, .int .i64 at_] 38))
      have ba := bl_alloc hb3 (.cells #[.int .i64 kd, .int .i64 id, .int .i64 to, .int .i64 h, .int .i64 at_] 38)
      by_cases hkd : kd = 0
      · subst hkd
        go_wp2_with fail
        refine (fAsk_any _ _ _ _ to h at_ _ L _ FA.out hL60).mono ?_
        rintro e w4 ⟨rfl, s4, F4, hkp, hsn⟩
        have hgo := goes_ask (1 + y) L to h at_
        obtain ⟨hlen1, hlen2⟩ := len_ask (1 + y) L to h at_
        have hfr := fresh_ask (n := 1 + y) (L := L) (t := to) (h := h) (a := at_)
        have hia := fun he => is_ask (n := 1 + y) (L := L) (t := to) (h := h) (a := at_) he
        obtain ⟨R, hR⟩ : ∃ R, askR (1 + y) L to h at_ = R := ⟨_, rfl⟩
        rw [hR] at F4 hgo hlen1 hlen2 hfr hia ⊢
        obtain ⟨rid, rfr, rerr, L4⟩ := R
        simp only at F4 hgo hlen1 hlen2 hfr hia ⊢
        have R4 := Lib.hid (hkp.row RA.out HD.out)
        have D4 := hkp.kb D1 (fun hS => by have := (HF.out.ltS hS).2; omega)
        have c4 := kb_cell D4
        have HD4 := Lib.hid (keep_fresh hsn RA.out HD.out)
        have b4 := bl_from ba (FA.out.frame hkp) hB
        have F4' := Lib.hid F4
        have hL4 : L4.length ≤ 1000 := by omega
        have hgo' := Lib.hid hgo
        have hia' := Lib.hid hia
        clear F4 hkp hsn hR cD D1 hgo hia ba
        subst hfr
        by_cases herr : rerr = 0
        · subst herr
          cases hq : (rid == (L.length : Int) + 1)
          · go_wp2_with fail
            refine (fIs_any _ _ _ _ rid to s4 L4 _ F4'.out hL4).mono ?_
            rintro e w9 ⟨rfl, rfl⟩
            rw [hia'.out (by trivial)]
            go_wp2_with fail
            refine (fSent_any _ _ _ _ s4 L4 _ F4'.out hL4).mono ?_
            rintro e w5 ⟨v5, rfl, O5, b5⟩
            obtain ⟨A5, cap5, hv5⟩ := owns_slice O5
            subst hv5
            have F5 := Lib.hid (F4'.out.below b5)
            have R5 := Lib.hid ((Keep.of_below (S := fun _ => False) b5).row R4.out (fun _ _ x => x))
            have O5' := Lib.hid O5
            have b5' := bl_then b4 b5
            have hl1 : decide ((L4.length : Int) < (L.length : Int)) = false := by simp; omega
            have hl2 : decide ((L.length : Int) + 1 < (L4.length : Int)) = false := by simp; omega
            clear O5
            go_wp2_with fail
            refine (goes_yes L L4 _ _ _ (Reqs.of_own R5.out) (Reqs.of_own O5'.out) hL60 hL4 hgo'.out).mono ?_
            rintro e w6 ⟨rfl, b6⟩
            have F6 := Lib.hid (F5.out.below b6)
            have b6' := bl_then b5' b6
            have O6 := Lib.hid ((Keep.of_below (S := fun _ => False) b6).row O5'.out (fun _ _ x => x))
            go_wp2_with fail
            refine (fits_yes _ _ _ _ L4 _ _ ⟨s4, F6.out⟩ (Reqs.of_own O6.out) hL4).mono ?_
            rintro e w7 ⟨rfl, b7⟩
            have F7 := Lib.hid (F6.out.below b7)
            have b7' := bl_then b6' b7
            have O7 := Lib.hid ((Keep.of_below (S := fun _ => False) b7).row O6.out (fun _ _ x => x))
            have hws : w1.heap.size ≤ w4.heap.size := by have := F4'.out.ltp; omega
            have hd7 := Lib.hid (show ∀ c, (Value.slice A5 L4.length cap5).ownBlock = some c → ¬ FlS (w1.heap.size + 1) w1.heap.size s4 c from fun c hc hS => by
              have h1 := (O5'.out.lt c hc).1
              have h2 := (F4'.out.ltS hS).2
              omega)
            go_wp2_with fail
            go_roundw
            case rel => exact ⟨k + 1, L4, s4, by omega, by omega, by go_num, F7.out, owns_mono O7.out hws, hd7.out, b7'⟩
            case measure => simp [intOf]; omega
          · go_wp2_with fail
            refine (fIs_any _ _ _ _ rid to s4 L4 _ F4'.out hL4).mono ?_
            rintro e w9 ⟨rfl, rfl⟩
            rw [hia'.out (by trivial)]
            go_wp2_with fail
            refine (fSent_any _ _ _ _ s4 L4 _ F4'.out hL4).mono ?_
            rintro e w5 ⟨v5, rfl, O5, b5⟩
            obtain ⟨A5, cap5, hv5⟩ := owns_slice O5
            subst hv5
            have F5 := Lib.hid (F4'.out.below b5)
            have R5 := Lib.hid ((Keep.of_below (S := fun _ => False) b5).row R4.out (fun _ _ x => x))
            have O5' := Lib.hid O5
            have b5' := bl_then b4 b5
            have hl1 : decide ((L4.length : Int) < (L.length : Int)) = false := by simp; omega
            have hl2 : decide ((L.length : Int) + 1 < (L4.length : Int)) = false := by simp; omega
            clear O5
            go_wp2_with fail
            refine (goes_yes L L4 _ _ _ (Reqs.of_own R5.out) (Reqs.of_own O5'.out) hL60 hL4 hgo'.out).mono ?_
            rintro e w6 ⟨rfl, b6⟩
            have F6 := Lib.hid (F5.out.below b6)
            have b6' := bl_then b5' b6
            have O6 := Lib.hid ((Keep.of_below (S := fun _ => False) b6).row O5'.out (fun _ _ x => x))
            go_wp2_with fail
            refine (fits_yes _ _ _ _ L4 _ _ ⟨s4, F6.out⟩ (Reqs.of_own O6.out) hL4).mono ?_
            rintro e w7 ⟨rfl, b7⟩
            have F7 := Lib.hid (F6.out.below b7)
            have b7' := bl_then b6' b7
            have O7 := Lib.hid ((Keep.of_below (S := fun _ => False) b7).row O6.out (fun _ _ x => x))
            have hws : w1.heap.size ≤ w4.heap.size := by have := F4'.out.ltp; omega
            have hd7 := Lib.hid (show ∀ c, (Value.slice A5 L4.length cap5).ownBlock = some c → ¬ FlS (w1.heap.size + 1) w1.heap.size s4 c from fun c hc hS => by
              have h1 := (O5'.out.lt c hc).1
              have h2 := (F4'.out.ltS hS).2
              omega)
            go_wp2_with fail
            go_roundw
            case rel => exact ⟨k + 1, L4, s4, by omega, by omega, by go_num, F7.out, owns_mono O7.out hws, hd7.out, b7'⟩
            case measure => simp [intOf]; omega
        · have herr' : (rerr == 0) = false := by simpa using herr
          clear herr
          go_wp2_with fail
          refine (fSent_any _ _ _ _ s4 L4 _ F4'.out hL4).mono ?_
          rintro e w5 ⟨v5, rfl, O5, b5⟩
          obtain ⟨A5, cap5, hv5⟩ := owns_slice O5
          subst hv5
          have F5 := Lib.hid (F4'.out.below b5)
          have R5 := Lib.hid ((Keep.of_below (S := fun _ => False) b5).row R4.out (fun _ _ x => x))
          have O5' := Lib.hid O5
          have b5' := bl_then b4 b5
          have hl1 : decide ((L4.length : Int) < (L.length : Int)) = false := by simp; omega
          have hl2 : decide ((L.length : Int) + 1 < (L4.length : Int)) = false := by simp; omega
          clear O5
          go_wp2_with fail
          refine (goes_yes L L4 _ _ _ (Reqs.of_own R5.out) (Reqs.of_own O5'.out) hL60 hL4 hgo'.out).mono ?_
          rintro e w6 ⟨rfl, b6⟩
          have F6 := Lib.hid (F5.out.below b6)
          have b6' := bl_then b5' b6
          have O6 := Lib.hid ((Keep.of_below (S := fun _ => False) b6).row O5'.out (fun _ _ x => x))
          go_wp2_with fail
          refine (fits_yes _ _ _ _ L4 _ _ ⟨s4, F6.out⟩ (Reqs.of_own O6.out) hL4).mono ?_
          rintro e w7 ⟨rfl, b7⟩
          have F7 := Lib.hid (F6.out.below b7)
          have b7' := bl_then b6' b7
          have O7 := Lib.hid ((Keep.of_below (S := fun _ => False) b7).row O6.out (fun _ _ x => x))
          have hws : w1.heap.size ≤ w4.heap.size := by have := F4'.out.ltp; omega
          have hd7 := Lib.hid (show ∀ c, (Value.slice A5 L4.length cap5).ownBlock = some c → ¬ FlS (w1.heap.size + 1) w1.heap.size s4 c from fun c hc hS => by
            have h1 := (O5'.out.lt c hc).1
            have h2 := (F4'.out.ltS hS).2
            omega)
          go_wp2_with fail
          go_roundw
          case rel => exact ⟨k + 1, L4, s4, by omega, by omega, by go_num, F7.out, owns_mono O7.out hws, hd7.out, b7'⟩
          case measure => simp [intOf]; omega
      · have hkd' : (kd == 0) = false := by simpa using hkd
        clear hkd
        go_wp2_with fail
        refine (fClose_any _ _ _ _ id _ L _ FA.out hL60).mono ?_
        rintro e w4 ⟨rfl, F4, hkp⟩
        obtain ⟨hgo, hlen⟩ := goes_close L id
        obtain ⟨L4, hR⟩ : ∃ L4, (closeR L id).2 = L4 := ⟨_, rfl⟩
        rw [hR] at F4 hgo hlen
        obtain ⟨s4, hs4⟩ : ∃ s4, s = s4 := ⟨_, rfl⟩
        rw [hs4] at F4
        have R4 := Lib.hid (hkp.row RA.out HD.out)
        have hdd := HD.out
        have b4 := bl_from ba (FA.out.frame hkp) hB
        have F4' := Lib.hid F4
        have hL4 : L4.length ≤ 1000 := by omega
        have hgo' := Lib.hid hgo
        have hlen1 : L4.length ≤ L.length + 1 := by omega
        have hlen2 : L.length ≤ L4.length := by omega
        clear F4 hkp hR cD D1 hgo ba hdd hlen
        go_wp2_with fail
        refine (fSent_any _ _ _ _ s4 L4 _ F4'.out hL4).mono ?_
        rintro e w5 ⟨v5, rfl, O5, b5⟩
        obtain ⟨A5, cap5, hv5⟩ := owns_slice O5
        subst hv5
        have F5 := Lib.hid (F4'.out.below b5)
        have R5 := Lib.hid ((Keep.of_below (S := fun _ => False) b5).row R4.out (fun _ _ x => x))
        have O5' := Lib.hid O5
        have b5' := bl_then b4 b5
        have hl1 : decide ((L4.length : Int) < (L.length : Int)) = false := by simp; omega
        have hl2 : decide ((L.length : Int) + 1 < (L4.length : Int)) = false := by simp; omega
        clear O5
        go_wp2_with fail
        refine (goes_yes L L4 _ _ _ (Reqs.of_own R5.out) (Reqs.of_own O5'.out) hL60 hL4 hgo'.out).mono ?_
        rintro e w6 ⟨rfl, b6⟩
        have F6 := Lib.hid (F5.out.below b6)
        have b6' := bl_then b5' b6
        have O6 := Lib.hid ((Keep.of_below (S := fun _ => False) b6).row O5'.out (fun _ _ x => x))
        go_wp2_with fail
        refine (fits_yes _ _ _ _ L4 _ _ ⟨s4, F6.out⟩ (Reqs.of_own O6.out) hL4).mono ?_
        rintro e w7 ⟨rfl, b7⟩
        have F7 := Lib.hid (F6.out.below b7)
        have b7' := bl_then b6' b7
        have O7 := Lib.hid ((Keep.of_below (S := fun _ => False) b7).row O6.out (fun _ _ x => x))
        have hws : w1.heap.size ≤ w4.heap.size := by have := F4'.out.ltp; omega
        have hd7 := Lib.hid (show ∀ c, (Value.slice A5 L4.length cap5).ownBlock = some c → ¬ FlS (w1.heap.size + 1) w1.heap.size s4 c from fun c hc hS => by
          have h1 := (O5'.out.lt c hc).1
          have h2 := (F4'.out.ltS hS).2
          omega)
        go_wp2_with fail
        go_roundw
        case rel => exact ⟨k + 1, L4, s4, by omega, by omega, by go_num, F7.out, owns_mono O7.out hws, hd7.out, b7'⟩
        case measure => simp [intOf]; omega
    · obtain rfl : k = l.length := by omega
      go_wp2_with fail
      go_ret
      exact ⟨rfl, hb3⟩

set_option maxHeartbeats 1000000 in
theorem FlightOnce_long (x : Int) (A : Option Addr) (len cap : Nat) (w : World) (h : 60 < len) :
    Calls Try.prog 4 #[.int .i64 x, .slice A len cap] w fun e w' => e = .returned (.bool true) ∧ Below w.heap.size w w' := by
  have hd : decide ((60 : Int) < (len : Int)) = true := by simp; omega
  go_enter Try.func4, Try.ntmps4
  go_wp2_with fail
  refine (FlightKnown_any _).mono ?_
  rintro e w1 ⟨rfl, b1⟩
  go_wp2_with fail
  go_ret
  exact ⟨rfl, b1⟩

set_option maxRecDepth 100000 in
set_option maxHeartbeats 1000000 in
theorem FlightOnce_none (x : Int) (A : Option Addr) (cap : Nat) (w : World) :
    Calls Try.prog 4 #[.int .i64 x, .slice A 0 cap] w fun e w' => e = .returned (.bool true) ∧ Below w.heap.size w w' := by
  go_enter Try.func4, Try.ntmps4
  go_wp2_with fail
  refine (FlightKnown_any _).mono ?_
  rintro e w1 ⟨rfl, b1⟩
  go_wp2_with fail
  refine (Pick_any x 16 _ (by omega)).mono ?_
  rintro e w2 ⟨rfl, rfl⟩
  obtain ⟨p1, p2⟩ := pick_bd (x := x) (n := 16) (by omega)
  generalize pickN x 16 = y at *
  go_wp2_with fail
  refine (fNew_fl (1 + y) _ (by omega) (by omega)).mono ?_
  rintro e w2 ⟨rfl, F, b2⟩
  have b12 := bl_then b1 b2
  clear F b1
  go_wp2_with fail
  go_loopw [8, 9, 10, 11, 12, 13, 14, 34, 35, 36, 37, 38, 39, 40, 41, 42, 43, 44, 45, 46, 47, 48, 49, 50, 51, 52, 53, 54, 55, 56, 57, 58, 59, 60, 61, 62, 63, 64, 65, 66, 67, 68, 69, 70, 71, 72, 73, 74, 75, 76, 77, 78, 79, 80, 81, 82, 83, 84, 85, 86, 87, 88, 89, 90, 91, 92, 93, 94, 95, 96, 97, 98, 99, 100, 101, 102, 103, 104, 105, 106, 107, 108, 109, 110, 111, 112, 113, 114] (fun _ s9 _ _ _ _ _ _ _ _ _ _ _ _ _ _ _ _ _ _ _ _ _ _ _ _ _ _ _ _ _ _ _ _ _ _ _ _ _ _ _ _ _ _ _ _ _ _ _ _ _ _ _ _ _ _ _ _ _ _ _ _ _ _ _ _ _ _ _ _ _ _ _ _ _ _ _ _ _ _ _ _ _ _ _ _ _ _ wr => s9 = .int .i64 0 ∧ Below w.heap.size w wr) (fun _ _ _ _ _ _ _ _ _ _ _ _ _ _ _ _ _ _ _ _ _ _ _ _ _ _ _ _ _ _ _ _ _ _ _ _ _ _ _ _ _ _ _ _ _ _ _ _ _ _ _ _ _ _ _ _ _ _ _ _ _ _ _ _ _ _ _ _ _ _ _ _ _ _ _ _ _ _ _ _ _ _ _ _ _ _ _ _ _ => 0)
  case atStart => exact ⟨rfl, b12⟩
  case round =>
    obtain ⟨rfl, hb⟩ := hrel
    go_wp2_with fail
    go_ret
    exact ⟨rfl, hb⟩
end Go.Proofs.Ytfbgnimkjflffaa
