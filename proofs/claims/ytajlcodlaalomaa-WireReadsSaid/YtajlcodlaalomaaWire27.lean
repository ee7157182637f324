/- The walk of WireBack. -/
import Derived.Test.YtajlcodlaalomaaWire26
namespace Go.Proofs.Ytajlcodlaalomaa
open Go.RowKit Go.Proofs.Ytajlcodlaalomaa.Wi Go.Proofs.Ytajlcodlaalomaa.Pc
attribute [local go_sem] cell_alloc_some frozen_alloc_some
set_option linter.unusedSimpArgs false
set_option linter.unusedVariables false

theorem head_run {w : World} {B : Nat} {A : Option Addr} {cap : Nat} {xs : List UInt8} (h : w.ownsRow B 5 1 (.slice A xs.length cap) xs.length (u8s xs)) (n : Nat) (hk : n ≤ xs.length) :
    ∃ A', (∀ W : World, (Instr.sliceAt 32 (.slice A xs.length cap) none (some (.int .i64 (n : Int))) none).run Try.prog W = .ok (.slice A' n cap) W) ∧
      ∀ W : World, W.ownsRow B 5 1 (.slice A xs.length cap) xs.length (u8s xs) → BytesOf W (.slice A' n cap) (xs.take n) := by
  have hA : xs.length ≤ cap ∧ (0 < xs.length → ∃ g, A = some ⟨g, 0, none⟩) := by
    rcases h.2 with ⟨e, h0⟩ | ⟨g, c, cur, e, _, _, h1, h2, _, _⟩
    · simp only [Value.slice.injEq] at e; omega
    · simp only [Value.slice.injEq] at e
      obtain ⟨rfl, _, rfl⟩ := e
      exact ⟨by omega, fun _ => ⟨g, rfl⟩⟩
  refine ⟨if cap = 0 then A else A.map (·.add 0), fun W => ?_, fun W hW => ?_⟩
  · have hel : Try.prog.elem 32 = 5 := by kernel_rfl
    have hue : Try.prog.underlying 32 = some (.slice (Try.prog.elem 32)) := by rw [hel]; exact Try.underlying32
    rw [run_sliceAt_slice W _ _ _ _ _ hue, run_slice_h W _ _ _ _ hue _ _ (by omega) (by omega), hel]
    obtain ⟨i0, hi, hz0, hz1, hz2⟩ := info_parts infoU
    have hsz : (sizeOf 5).run Try.prog W = .ok 1 W := by simp [sizeOf, typeInfo, hi, hz1]
    rw [hsz]
    simp [Result.andThen, sliced]
  · have := sub_bytes hW 0 n (by omega) rfl (if cap = 0 then A else A.map (·.add 0)) cap fun h0 => by
      obtain ⟨g, rfl⟩ := hA.2 (by omega)
      refine ⟨g, rfl, ?_⟩
      rw [if_neg (by omega), Option.map_some, addr_add, Nat.zero_add]
    simpa using this
set_option maxRecDepth 100000 in
set_option maxHeartbeats 4000000 in
theorem WireBack_any {w : World} {A : Option Addr} {cap : Nat} {l : List Th} (cut : Int) (h : ThRow w A l) :
    Calls Try.prog 7 #[.slice A l.length cap, .int .i64 cut] w fun e w' => e = .returned (.bool true) ∧ Below w.heap.size w w' := by
  have HH := Lib.hid h
  clear h
  have hi41 : (Try.prog.info? 39).map (·.size) = some 41 := by kernel_rfl
  have HI := Lib.hid hi41
  clear hi41
  go_enter Try.func7, Try.ntmps7
  go_wp2_with fail
  refine (known_yes _).mono ?_
  rintro e w1 ⟨rfl, b1⟩
  have HB1 := Lib.hid b1
  have hs1 : w.heap.size ≤ w1.heap.size := b1.size
  clear b1
  go_wp2_with fail
  refine (long_any (HH.out.below HB1.out)).mono ?_
  rintro e w1' ⟨r, rfl, rfl, hr⟩
  have HR := Lib.hid hr
  clear hr
  cases r
  · go_wp2_with fail
    refine (NewWriter_yes 1048576 _ (by omega) (by omega)).mono ?_
    rintro e w2 ⟨rfl, F2, b2⟩
    have HF2 := Lib.hid F2
    have HB2 := Lib.hid (bl_then HB1.out b2)
    clear F2 b2
    have hl30 := (HR.out (by first | trivial | rfl)).1
    go_wp2_with fail
    go_loopw [8, 30, 31, 32, 33, 34, 35, 36, 37, 38, 39, 40, 41, 42, 43, 44, 45, 46, 47, 48, 49, 50, 51, 52, 53, 54, 55, 56, 57] (fun s8 _ _ _ _ _ _ _ _ _ _ _ _ _ _ _ _ _ _ _ _ _ _ _ _ _ _ _ _ wr => ∃ (k : Nat) (s : Value), k ≤ l.length ∧ s8 = .int .i64 k ∧ Wr wr w1.heap.size w1.heap.size 1048576 (catB (l.take k)) 0 s ∧ (∀ x ∈ l.take k, x.Good) ∧ Below w.heap.size w wr) (fun s8 _ _ _ _ _ _ _ _ _ _ _ _ _ _ _ _ _ _ _ _ _ _ _ _ _ _ _ _ _ => l.length - (intOf s8).toNat)
    case atStart => exact ⟨0, .slice none 0 0, by omega, rfl, by simpa [catB] using HF2.out, by simp, HB2.out⟩
    case round =>
      obtain ⟨k, s, hk, rfl, F, hgood, hb⟩ := hrel
      have HF := Lib.hid F
      have HG := Lib.hid hgood
      have HB := Lib.hid hb
      clear F hgood
      by_cases hlt : k < l.length
      · obtain ⟨b, off, rfl, hbw, hc⟩ := HH.out.2 (by omega)
        obtain ⟨x, hx⟩ : ∃ x, l[k]? = some x := ⟨_, List.getElem?_eq_getElem hlt⟩
        have hxm : x ∈ l := List.mem_of_getElem? hx
        have hxb := (HR.out (by first | trivial | rfl)).2 x hxm
        have hxo := HH.out.1 x hxm
        obtain ⟨u, hr0, hu0⟩ := hc k x hx
        have hr := range_below hr0 hbw hb
        have HU := Lib.hid (hu0.below hb)
        have HRr := Lib.hid hr
        have hil : ((k : Nat) : Int) < (l.length : Int) := by omega
        have HX := Lib.hid hx
        have HLT := Lib.hid hlt
        have hfine := hxo.fine (by omega)
        have hsz := Th.cells_len hfine u
        have d0 := hr 0 _ (Th.c0 x u)
        have d1 := hr 1 _ (Th.c1 x u)
        rw [Nat.add_zero] at d0
        have HO := Lib.hid hxo
        have HXB := Lib.hid hxb
        clear hc hr hr0 hu0 hx hxm hxo hxb
        by_cases hneg : x.kind = 0 ∧ x.n < 0
        · have e0 : (x.kind == 0) = true := by simp [hneg.1]
          have e1 : decide (x.n < 0) = true := decide_eq_true hneg.2
          have hn0 := hneg.2
          clear hneg
          go_wp2_with fail
          go_ret
          exact ⟨rfl, HB.out⟩
        · have HGD : Th.Good x := ⟨HO.out, HXB.out, fun h => by omega⟩
          have hgd := Lib.hid HGD
          clear HGD
          have hput := put_fits (lim := 1048576) (bs := catB (l.take k)) hgd.out (by
            have h1 := catB_len HG.out
            have h2 := Th.bytes_len hgd.out
            rw [List.length_take] at h1
            omega)
          have HP := Lib.hid hput
          clear hput
          by_cases hk0 : x.kind = 0
          · have e1 : decide (x.n < 0) = false := decide_eq_false (fun h => hneg ⟨hk0, h⟩)
            have e0 : (x.kind == 0) = true := by simp [hk0]
            clear hneg hk0
            go_wp2_with (with_reducible refine wpList_load_mid rfl 39 _ rfl b (off + k * 41) rfl (x.cells u) _ HRr.out Try.underlying39 rfl (HI.out.trans (congrArg some hsz.symm)) ?_)
            refine (puts_any hgd.out.fine HU.out HF.out).mono ?_
            rintro e5 w5 ⟨rfl, s1, F5, k5, n5⟩
            rw [HP.out.1]
            rw [HP.out.2] at F5
            have HF5 := Lib.hid F5
            have HB5 := Lib.hid (HB.out.trans (k5.below HB.out.size fun b' h => by have := (HF.out.ltS h).1; omega))
            clear F5 k5 n5 d0 d1
            go_wp2_with fail
            go_roundw
            case rel => exact ⟨k + 1, s1, by have := HLT.out; omega, by go_num, by rw [catB_next HX.out]; exact HF5.out, fun y hy => by
              rw [List.take_add_one, HX.out] at hy
              simp only [Option.toList_some, List.mem_append, List.mem_singleton] at hy
              rcases hy with hy | rfl
              · exact HG.out y hy
              · exact hgd.out, HB5.out⟩
            case measure => have := HLT.out; simp [intOf]; omega
          · have e0 : (x.kind == 0) = false := by simpa using hk0
            clear hneg hk0
            go_wp2_with (with_reducible refine wpList_load_mid rfl 39 _ rfl b (off + k * 41) rfl (x.cells u) _ HRr.out Try.underlying39 rfl (HI.out.trans (congrArg some hsz.symm)) ?_)
            refine (puts_any hgd.out.fine HU.out HF.out).mono ?_
            rintro e5 w5 ⟨rfl, s1, F5, k5, n5⟩
            rw [HP.out.1]
            rw [HP.out.2] at F5
            have HF5 := Lib.hid F5
            have HB5 := Lib.hid (HB.out.trans (k5.below HB.out.size fun b' h => by have := (HF.out.ltS h).1; omega))
            clear F5 k5 n5 d0 d1
            go_wp2_with fail
            go_roundw
            case rel => exact ⟨k + 1, s1, by have := HLT.out; omega, by go_num, by rw [catB_next HX.out]; exact HF5.out, fun y hy => by
              rw [List.take_add_one, HX.out] at hy
              simp only [Option.toList_some, List.mem_append, List.mem_singleton] at hy
              rcases hy with hy | rfl
              · exact HG.out y hy
              · exact hgd.out, HB5.out⟩
            case measure => have := HLT.out; simp [intOf]; omega
      · obtain rfl : k = l.length := by omega
        rw [List.take_length] at HG HF
        clear hlt
        go_wp2_with fail
        refine (wDone_ok HF.out).mono ?_
        rintro e w3 ⟨v, rfl, N3⟩
        have hlen := catB_len HG.out
        obtain ⟨A3, c3, hv3⟩ := owns_slice0 N3.1
        subst hv3
        have HN3 := Lib.hid N3
        have HB3 := Lib.hid (bl_then hb N3.2)
        clear N3 hb
        go_wp2_with fail
        refine (NewReader_any HN3.out.bytes (by omega)).mono ?_
        rintro e w4 ⟨p4, s4, rfl, F4, b4⟩
        have HF4 := Lib.hid F4
        have HB4 := Lib.hid b4
        have hp4 := F4.lp
        clear F4 b4
        go_wp2_with fail
        go_loopw [12, 67, 68, 69, 70, 71, 72, 73, 74, 75, 76, 77, 78, 79] (fun s12 _ _ _ _ _ _ _ _ _ _ _ _ _ wr => ∃ k : Nat, k ≤ l.length ∧ s12 = .int .i64 k ∧ RdO wr w3.heap.size p4 s4 (catB l) (.at (catB (l.take k)).length) ∧ Below w3.heap.size w3 wr) (fun s12 _ _ _ _ _ _ _ _ _ _ _ _ _ _ => l.length - (intOf s12).toNat)
        case atStart => exact ⟨0, by omega, rfl, by simpa [catB] using HF4.out, HB4.out⟩
        case round =>
          obtain ⟨k, hk, rfl, F, hbr⟩ := hrel
          have HF := Lib.hid F
          clear F
          by_cases hlt : k < l.length
          · obtain ⟨b, off, rfl, hbw, hc⟩ := HH.out.2 (by omega)
            obtain ⟨x, hx⟩ : ∃ x, l[k]? = some x := ⟨_, List.getElem?_eq_getElem hlt⟩
            have hgd := Lib.hid (HG.out x (List.mem_of_getElem? hx))
            obtain ⟨u, hr0, hu0⟩ := hc k x hx
            have hbr' := bl_then HB3.out hbr
            have hr := range_below hr0 hbw hbr'
            have HRr := Lib.hid hr
            have hil : ((k : Nat) : Int) < (l.length : Int) := by omega
            have HX := Lib.hid hx
            have HLT := Lib.hid hlt
            have hsz := Th.cells_len hgd.out.fine u
            have hww : w.heap.size ≤ wr.heap.size := hbr'.size
            have hw3 : w.heap.size ≤ w3.heap.size := HB3.out.size
            have hvW : ∀ W, Keep (fun b => b = p4) wr W → BytesOf W u x.b := fun W k => hu0.below (hbr'.trans (k.below hww (fun b h => by omega)))
            have HVW := Lib.hid hvW
            have HBR := Lib.hid hbr
            clear hc hr hr0 hu0 hx hvW hbr hbr'
            have hbk := back_of (post := catB (l.drop (k + 1))) hgd.out (catB_drop HX.out) (by have := catB_le HX.out; omega)
            have HBK := Lib.hid hbk
            clear hbk
            go_wp2_with (with_reducible refine wpList_load_mid rfl 39 _ rfl b (off + k * 41) rfl (x.cells u) _ HRr.out Try.underlying39 rfl (HI.out.trans (congrArg some hsz.symm)) ?_)
            refine (back_any hgd.out.fine HVW.out HF.out).mono ?_
            rintro e w5 ⟨rfl, F5, k5⟩
            rw [HBK.out] at F5 ⊢
            have HF5 := Lib.hid F5
            have HB5 := Lib.hid (HBR.out.trans (k5.below HBR.out.size fun b' h => by omega))
            clear F5 k5
            go_wp2_with fail
            go_roundw
            case rel => exact ⟨k + 1, by have := HLT.out; omega, by go_num, by rw [catB_next HX.out, List.length_append]; exact HF5.out, HB5.out⟩
            case measure => have := HLT.out; simp [intOf]; omega
          · obtain rfl : k = l.length := by omega
            rw [List.take_length] at HF
            clear hlt
            go_wp2_with fail
            refine (dRest_any HF.out).mono ?_
            rintro e w6 ⟨rfl, b6⟩
            have HF6 := Lib.hid (HF.out.below b6)
            have HB6 := Lib.hid (bl_then hbr b6)
            rw [show ((restS (catB l) (.at (catB l).length) : Nat) : Int) = 0 by simp [restS]]
            clear b6 hbr
            go_wp2_with fail
            refine (dEnd_any HF6.out).mono ?_
            rintro e w7 ⟨rfl, b7⟩
            have HF7 := Lib.hid (HF6.out.below b7)
            have HB7 := Lib.hid (bl_then HB6.out b7)
            rw [show endS (catB l) (.at (catB l).length) = (0, 0) by simp [endS]]
            clear b7
            by_cases h0 : (catB l).length = 0
            · have hq : (((catB l).length : Int) == 0) = true := by rw [h0]; rfl
              rw [h0] at hq
              have H0 := Lib.hid h0
              rw [h0]
              go_wp2_with fail
              refine (dEnd_any HF7.out).mono ?_
              rintro e w8 ⟨rfl, b8⟩
              rw [show endS (catB l) (.at (catB l).length) = (0, 0) by simp [endS]]
              go_wp2_with fail
              go_ret
              exact ⟨rfl, bl_then HB3.out (bl_then HB7.out b8)⟩
            · have hq : (((catB l).length : Int) == 0) = false := by simpa using h0
              have hq' : ((catB l).length == 0) = false := by simpa using h0
              have HN := Lib.hid h0
              clear h0
              go_wp2_with fail
              refine (Pick_any cut _ _ (by omega)).mono ?_
              rintro e w8 ⟨rfl, rfl⟩
              obtain ⟨pk1, pk2⟩ := pick_bd (x := cut) (n := ((catB l).length : Int)) (by have := HN.out; omega)
              obtain ⟨c, hc⟩ := Int.eq_ofNat_of_zero_le pk1
              rw [hc] at pk2 ⊢
              have hcl : c < (catB l).length := by omega
              clear hc pk1 pk2
              have HO7 := (Keep.of_below (S := fun _ => False) HB7.out).row HN3.out.1 (fun _ _ x => x)
              obtain ⟨A8, hsl, hsb⟩ := head_run HO7 c (by omega)
              have HS8 := Lib.hid (hsb _ HO7)
              clear hsb HO7
              go_wp2_with fail
              have hl8 : ((catB l).take c).length = c := by rw [List.length_take]; omega
              have HB8 := Lib.hid (bl_then HB3.out HB7.out)
              refine (NewReader_any (l := (catB l).take c) HS8.out (by omega)).mono ?_
              rintro e w9 ⟨p9, s9, rfl, F9, b9⟩
              have HF9 := Lib.hid F9
              have HB9 := Lib.hid b9
              have hp9 := F9.lp
              clear F9 b9
              go_wp2_with fail
              go_loopw [14, 114, 115, 116, 117, 118, 119, 120, 121, 122, 123, 124, 125] (fun s14 _ _ _ _ _ _ _ _ _ _ _ _ wr => ∃ (k : Nat) (st : St), k ≤ l.length ∧ s14 = .int .i64 k ∧ RdO wr w7.heap.size p9 s9 ((catB l).take c) st ∧ CutAt (catB l) c (catB (l.take k)).length st ∧ Below w7.heap.size w7 wr) (fun s14 _ _ _ _ _ _ _ _ _ _ _ _ _ => l.length - (intOf s14).toNat)
              case atStart => exact ⟨0, .at 0, by omega, rfl, HF9.out, .inl ⟨by simp [catB], by simp [catB]⟩, HB9.out⟩
              case round =>
                obtain ⟨k, st, hk, rfl, F, hcut, hbr⟩ := hrel
                have HF := Lib.hid F
                have HC := Lib.hid hcut
                clear F hcut
                by_cases hlt : k < l.length
                · obtain ⟨b, off, rfl, hbw, hc⟩ := HH.out.2 (by omega)
                  obtain ⟨x, hx⟩ : ∃ x, l[k]? = some x := ⟨_, List.getElem?_eq_getElem hlt⟩
                  have hgd := Lib.hid (HG.out x (List.mem_of_getElem? hx))
                  obtain ⟨u, hr0, hu0⟩ := hc k x hx
                  have hbr' := bl_then HB8.out hbr
                  have hr := range_below hr0 hbw hbr'
                  have HRr := Lib.hid hr
                  have hil : ((k : Nat) : Int) < (l.length : Int) := by omega
                  have HX := Lib.hid hx
                  have HLT := Lib.hid hlt
                  have hsz := Th.cells_len hgd.out.fine u
                  have hww : w.heap.size ≤ wr.heap.size := hbr'.size
                  have hw8 : w.heap.size ≤ w7.heap.size := HB8.out.size
                  have hvW : ∀ W, Keep (fun b => b = p9) wr W → BytesOf W u x.b := fun W k => hu0.below (hbr'.trans (k.below hww (fun b h => by omega)))
                  have HVW := Lib.hid hvW
                  have HBR := Lib.hid hbr
                  clear hc hr hr0 hu0 hx hvW hbr hbr'
                  have hbk := back_step hgd.out (catB_drop HX.out) (by have := catB_le HX.out; omega) (by omega) HC.out
                  have HBK := Lib.hid hbk
                  clear hbk
                  go_wp2_with (with_reducible refine wpList_load_mid rfl 39 _ rfl b (off + k * 41) rfl (x.cells u) _ HRr.out Try.underlying39 rfl (HI.out.trans (congrArg some hsz.symm)) ?_)
                  refine (back_any hgd.out.fine HVW.out HF.out).mono ?_
                  rintro e w5 ⟨rfl, F5, k5⟩
                  have HF5 := Lib.hid F5
                  have HB5 := Lib.hid (HBR.out.trans (k5.below HBR.out.size fun b' h => by omega))
                  clear F5 k5
                  generalize (backS ((catB l).take c) x st).1 = bb at *
                  go_wp2_with fail
                  go_roundw
                  case rel => exact ⟨k + 1, _, by have := HLT.out; omega, by go_num, HF5.out, by rw [catB_next HX.out, List.length_append]; exact HBK.out, HB5.out⟩
                  case measure => have := HLT.out; simp [intOf]; omega
                · obtain rfl : k = l.length := by omega
                  rw [List.take_length] at HC
                  obtain ⟨f, hf, rfl⟩ : ∃ f, f ≤ c ∧ st = .bad 6 f := by
                    rcases HC.out with ⟨h, _⟩ | ⟨_, f, h1, h2⟩
                    · omega
                    · exact ⟨f, h1, h2⟩
                  clear hlt
                  go_wp2_with fail
                  refine (dEnd_any HF.out).mono ?_
                  rintro e w10 ⟨rfl, b10⟩
                  have HF10 := Lib.hid (HF.out.below b10)
                  have HB10 := Lib.hid (bl_then HB8.out (bl_then hbr b10))
                  rw [show endS ((catB l).take c) (.bad 6 f) = (6, f) by rfl]
                  have hfc : decide ((f : Int) ≤ (c : Int)) = true := decide_eq_true (by omega)
                  have hfc' : decide (f ≤ c) = true := decide_eq_true hf
                  clear b10 hbr
                  go_wp2_with fail
                  refine (dRest_any (HF10.out.below (bl_alloc (Below.refl _ _) _))).mono ?_
                  rintro e w11 ⟨rfl, b11⟩
                  have HB11 := Lib.hid (bl_then (bl_alloc HB10.out _) b11)
                  rw [show ((restS ((catB l).take c) (.bad 6 f) : Nat) : Int) = 0 from rfl]
                  clear b11
                  go_wp2_with fail
                  go_ret
                  exact ⟨rfl, HB11.out⟩
  · go_wp2_with fail
    go_ret
    exact ⟨rfl, HB1.out⟩
end Go.Proofs.Ytajlcodlaalomaa
