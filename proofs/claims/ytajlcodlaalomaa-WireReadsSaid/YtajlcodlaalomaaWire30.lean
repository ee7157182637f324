/- The walk of WireOne. -/
import Derived.Test.YtajlcodlaalomaaWire27
import Derived.Test.YtajlcodlaalomaaWire29
namespace Go.Proofs.Ytajlcodlaalomaa
open Go.RowKit Go.Proofs.Ytajlcodlaalomaa.Wi Go.Proofs.Ytajlcodlaalomaa.Pc
attribute [local go_sem] cell_alloc_some frozen_alloc_some
set_option linter.unusedSimpArgs false
set_option linter.unusedVariables false

/-- A slice of ints that came in. -/
def IntRow (w : World) (A : Option Addr) (zs : List Int) : Prop := 0 < zs.length → ∃ b off, A = some ⟨b, off, none⟩ ∧ b < w.heap.size ∧ ∀ i z, zs[i]? = some z → w.cell? ⟨b, off + i, none⟩ = some (.int .i64 z)
theorem head_any {A : Option Addr} {cap : Nat} {l : List UInt8} (hcap : l.length ≤ cap) (n : Nat) (hn : n ≤ l.length) :
    ∃ A', (∀ W : World, (Instr.sliceAt 32 (.slice A l.length cap) none (some (.int .i64 (n : Int))) none).run Try.prog W = .ok (.slice A' n cap) W) ∧ ∀ W : World, BytesOf W (.slice A l.length cap) l → BytesOf W (.slice A' n cap) (l.take n) := by
  refine ⟨if cap = 0 then A else A.map (·.add 0), fun W => ?_, fun W hW => ?_⟩
  · have hel : Try.prog.elem 32 = 5 := by kernel_rfl
    have hue : Try.prog.underlying 32 = some (.slice (Try.prog.elem 32)) := by rw [hel]; exact Try.underlying32
    rw [run_sliceAt_slice W _ _ _ _ _ hue, run_slice_h W _ _ _ _ hue _ _ (by omega) (by omega), hel]
    obtain ⟨i0, hi, hz0, hz1, hz2⟩ := info_parts infoU
    have hsz : (sizeOf 5).run Try.prog W = .ok 1 W := by simp [sizeOf, typeInfo, hi, hz1]
    rw [hsz]
    simp [Result.andThen, sliced]
  · have hl : (l.take n).length = n := by rw [List.length_take]; omega
    obtain ⟨A0, c0, e, _, hc⟩ := hW
    simp only [Value.slice.injEq] at e
    obtain ⟨rfl, _, rfl⟩ := e
    refine ⟨_, _, by rw [hl], u8s_len _, fun h0 => ?_⟩
    rw [hl] at h0
    obtain ⟨b, off, rfl, hb, hcc⟩ := hc (by omega)
    refine ⟨b, off, ?_, hb, fun j u hu => hcc j u ?_⟩
    · rw [if_neg (by omega), Option.map_some, addr_add, Nat.add_zero]
    · rw [← u8s_take] at hu
      rw [List.getElem?_take] at hu
      split at hu
      · exact hu
      · cases hu
theorem run_field0 (W : World) (x y : Int) : (Instr.field 60 (.agg #[.int .i64 x, .int .i64 y]) 0).run Try.prog W = .ok (.int .i64 x) W := by
  unfold Instr.field
  simp only [Sem.run_bind, run_underlying Try.underlying60 W, Result.andThen_ok]
  exact run_part_plain W (by kernel_rfl) rfl
set_option maxRecDepth 100000 in
set_option maxHeartbeats 4000000 in
theorem WireOne_any {w : World} {A B : Option Addr} {cap cap2 : Nat} {l : List UInt8} {zs : List Int} (hv : BytesOf w (.slice A l.length cap) l) (hcap : l.length ≤ cap) (hz : IntRow w B zs) :
    Calls Try.prog 8 #[.slice A l.length cap, .slice B zs.length cap2] w fun e w' => e = .returned (.bool true) ∧ Below w.heap.size w w' := by
  have HV := Lib.hid hv
  have HZ := Lib.hid hz
  clear hv hz
  by_cases h600 : 600 < l.length
  · have hd : decide ((600 : Int) < (l.length : Int)) = true := decide_eq_true (by omega)
    clear h600
    go_enter Try.func8, Try.ntmps8
    go_wp2_with fail
    refine (known_yes _).mono ?_
    rintro e w1 ⟨rfl, b1⟩
    go_wp2_with fail
    go_ret
    exact ⟨rfl, b1⟩
  · have hd : decide ((600 : Int) < (l.length : Int)) = false := decide_eq_false (by omega)
    by_cases h30 : 30 < zs.length
    · have hd2 : decide ((30 : Int) < (zs.length : Int)) = true := decide_eq_true (by omega)
      clear h600 h30
      go_enter Try.func8, Try.ntmps8
      go_wp2_with fail
      refine (known_yes _).mono ?_
      rintro e w1 ⟨rfl, b1⟩
      go_wp2_with fail
      go_ret
      exact ⟨rfl, b1⟩
    · have hd2 : decide ((30 : Int) < (zs.length : Int)) = false := decide_eq_false (by omega)
      have hl6 : l.length ≤ 600 := by omega
      have hz3 : zs.length ≤ 30 := by omega
      clear h600 h30
      go_enter Try.func8, Try.ntmps8
      go_wp2_with fail
      refine (known_yes _).mono ?_
      rintro e w1 ⟨rfl, b1⟩
      have HB1 := Lib.hid b1
      clear b1
      go_wp2_with fail
      refine (NewReader_any (HV.out.below HB1.out) (by omega)).mono ?_
      rintro e w2 ⟨pr, sr, rfl, F2, b2⟩
      have HF2 := Lib.hid F2
      have HB2 := Lib.hid (bl_then HB1.out b2)
      clear F2 b2
      go_wp2_with fail
      refine (NewWriter_yes 1048576 _ (by omega) (by omega)).mono ?_
      rintro e w3 ⟨rfl, G3, b3⟩
      have HG3 := Lib.hid G3
      have HF3 := Lib.hid (HF2.out.below b3)
      have HB3 := Lib.hid (bl_then HB2.out b3)
      have hlow : pr < w2.heap.size ∧ ∀ b, sr.ownBlock = some b → b < w2.heap.size := ⟨HF2.out.ltp, fun b h => (HF2.out.low b h).2⟩
      have HLO := Lib.hid hlow
      clear G3 b3 hlow
      go_wp2_with fail
      go_loopw [9, 10, 11, 12, 39, 40, 41, 42, 43, 44, 45, 46, 47, 48, 49, 50, 51, 52, 53, 54, 55, 56, 57, 58, 59, 60, 61, 62, 63, 64, 65, 66, 67, 68, 69, 70, 71, 72, 73, 74, 75, 76, 77, 78, 79, 80, 81, 82, 83, 84, 85, 86, 87] (fun s9 _ _ _ _ _ _ _ _ _ _ _ _ _ _ _ _ _ _ _ _ _ _ _ _ _ _ _ _ _ _ _ _ _ _ _ _ _ _ _ _ _ _ _ _ _ _ _ _ _ _ _ _ wr => ∃ (k a : Nat) (sw : Value), k ≤ zs.length ∧ s9 = .int .i64 k ∧ RdO wr w1.heap.size pr sr l (.at a) ∧ Wr wr w2.heap.size w2.heap.size 1048576 (l.take a) 0 sw ∧ (∀ b, (b = pr ∨ sr.ownBlock = some b) → ¬ WrS w2.heap.size sw b) ∧ Below w.heap.size w wr) (fun s9 _ _ _ _ _ _ _ _ _ _ _ _ _ _ _ _ _ _ _ _ _ _ _ _ _ _ _ _ _ _ _ _ _ _ _ _ _ _ _ _ _ _ _ _ _ _ _ _ _ _ _ _ _ => zs.length - (intOf s9).toNat)
      case atStart => exact ⟨0, 0, .slice none 0 0, by omega, rfl, HF3.out, by simpa using HG3.out, fun b h1 h2 => by
        have := HLO.out.1
        rcases h2 with h2 | h2
        · rcases h1 with h1 | h1
          · omega
          · have := HLO.out.2 b h1; omega
        · simp [Value.ownBlock] at h2, HB3.out⟩
      case round =>
        obtain ⟨k, a, sw, hk, rfl, F, G, hdj, hb⟩ := hrel
        have HF := Lib.hid F
        have HG := Lib.hid G
        have HD := Lib.hid hdj
        have HB := Lib.hid hb
        clear F G hdj
        by_cases hlt : k < zs.length
        · obtain ⟨bb, off, rfl, hbb, hcc⟩ := HZ.out (by omega)
          obtain ⟨z, hzz⟩ : ∃ z, zs[k]? = some z := ⟨_, List.getElem?_eq_getElem hlt⟩
          have cz := (hb.cell (p := ⟨bb, off + k, none⟩) (by exact hbb)).trans (hcc k z hzz)
          have hil : ((k : Nat) : Int) < (zs.length : Int) := by omega
          have HLT := Lib.hid hlt
          clear hcc hzz hb
          go_wp2_with fail
          refine (Pick_any z 8 _ (by omega)).mono ?_
          rintro e w8 ⟨rfl, rfl⟩
          have hpk := pick_bd (x := z) (n := 8) (by omega)
          generalize pickN z 8 = kd at *
          go_wp2_with fail
          refine (again_any ⟨hpk.1, hpk.2⟩ HF.out HG.out HD.out hl6).mono ?_
          rintro e w5 ⟨ok, st, rfl, F5, K5, hT, hFa⟩
          have hlow5 : ∀ b, (b = pr ∨ WrS w2.heap.size sw b) → w.heap.size ≤ b := fun b h => by
            have h1 := HB1.out.size
            have h2 := HB2.out.size
            rcases h with rfl | h
            · have := HF.out.lp; omega
            · have := (HG.out.ltS h).1; omega
          have HB5 := Lib.hid (HB.out.trans (K5.below HB.out.size hlow5))
          have HF5 := Lib.hid F5
          have HK5 := Lib.hid K5
          have HTT := Lib.hid hT
          have HFF := Lib.hid hFa
          clear F5 K5 hT hFa hlow5 cz
          cases ok
          · obtain ⟨er, f, her, rfl, _⟩ := HFF.out rfl
            have he : ((er : Int) != 0) = true := by simpa using her
            have he' : (er != 0) = true := by simpa using her
            have hfd := fun W => run_field0 W (er : Int) (f : Int)
            clear her
            go_wp2_with fail
            refine (dEnd_any HF5.out).mono ?_
            rintro e w6 ⟨rfl, b6⟩
            rw [show endS l (.bad er f) = (er, f) from rfl]
            go_wp2_with fail
            go_ret
            exact ⟨rfl, bl_then HB5.out b6⟩
          · obtain ⟨a', sw', rfl, G5, n5⟩ := HTT.out rfl
            have HG5 := Lib.hid G5
            have HN5 := Lib.hid n5
            have ha' : a' ≤ l.length := by have := HF5.out; exact Rd.le this
            have hta : (l.take a').length = a' := by rw [List.length_take]; omega
            clear G5 n5
            go_wp2_with fail
            refine (wDone_ok HG5.out).mono ?_
            rintro e w6 ⟨v6, rfl, N6⟩
            obtain ⟨A6, c6, hv6⟩ := owns_slice0 N6.1
            subst hv6
            have HN6 := Lib.hid N6
            have HF6 := Lib.hid (HF5.out.below N6.2)
            have HG6 := Lib.hid (HG5.out.below N6.2)
            have HB6 := Lib.hid (bl_then HB5.out N6.2)
            clear N6
            rw [hta]
            obtain ⟨A7, hsl, hsb⟩ := head_any (A := A) hcap a' ha'
            have HS7 := Lib.hid hsb
            have hwr : IntKind.i64.wrap ((a' : Int) + ((l.length - a' : Nat) : Int)) = (l.length : Int) := by rw [IntWalk.i64_in _ (by omega)]; omega
            clear hsb
            go_wp2_with fail
            refine (dRest_any HF6.out).mono ?_
            rintro e w7 ⟨rfl, b7⟩
            rw [show restS l (.at a') = l.length - a' from rfl]
            have HF7 := Lib.hid (HF6.out.below b7)
            have HG7 := Lib.hid (HG6.out.below b7)
            have HB7 := Lib.hid (bl_then HB6.out b7)
            have hC7 : BytesOf w7 (.slice A6 a' c6) (l.take a') := by
              have h : RowOf w7 (.slice A6 (l.take a').length c6) (l.take a').length (u8s (l.take a')) := HN6.out.bytes.below b7
              show RowOf w7 (.slice A6 a' c6) (l.take a').length (u8s (l.take a'))
              rw [hta] at h ⊢
              exact h
            have HC7 := Lib.hid hC7
            clear b7 hC7
            go_wp2_with fail
            refine (SameBytes_any HC7.out (HS7.out _ (HV.out.below HB7.out))).mono ?_
            rintro e w8 ⟨rfl, rfl⟩
            rw [show (l.take a' == l.take a') = true by simp]
            go_wp2_with fail
            go_roundw
            case rel => exact ⟨k + 1, a', sw', by have := HLT.out; omega, by go_num, HF7.out, HG7.out, fun b h1 h2 => by
              rcases h2 with h2 | h2
              · exact HD.out b h1 (.inl h2)
              · rcases HN5.out b h2 with h | h
                · exact HD.out b h1 (.inr h)
                · have h3 : b < w.heap.size ∨ b < wr.heap.size := by
                    rcases h1 with rfl | h1
                    · exact .inr HF.out.ltp
                    · exact .inr (HF.out.low b h1).2
                  have h4 := HB.out.size
                  omega, HB7.out⟩
            case measure => have := HLT.out; simp [intOf]; omega
        · obtain rfl : k = zs.length := by omega
          clear hlt hb
          go_wp2_with fail
          go_ret
          exact ⟨rfl, HB.out⟩
end Go.Proofs.Ytajlcodlaalomaa
