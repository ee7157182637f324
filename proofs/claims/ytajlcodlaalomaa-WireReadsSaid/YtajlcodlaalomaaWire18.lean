/- The walks of package landfalllaw04: written, awake. -/
import Derived.Test.YtajlcodlaalomaaWire17
namespace Go.Proofs.Ytajlcodlaalomaa
open Go.RowKit Go.Proofs.Ytajlcodlaalomaa.Wi Go.Proofs.Ytajlcodlaalomaa.Pc
attribute [local go_sem] cell_alloc_some frozen_alloc_some
set_option linter.unusedSimpArgs false
set_option linter.unusedVariables false

/-- A writer of a call's own. -/
def AW (w0 w : World) (p : Nat) (lim : Int) (bs : List UInt8) (e : Int) : Prop := Below w0.heap.size w0 w ∧ ∃ s, Wr w w0.heap.size p lim bs e s
theorem AW.below {w0 w w' p lim bs e} (h : AW w0 w p lim bs e) (k : Below w.heap.size w w') : AW w0 w' p lim bs e := ⟨bl_then h.1 k, h.2.choose, h.2.choose_spec.below k⟩
theorem AW.of {w0 w : World} {p : Nat} {lim e : Int} {bs bs' : List UInt8} {e' : Int} {f : FuncId} {args : Array Value} {may : Bool} {l : List UInt8} (h : AW w0 w p lim bs e)
    (hC : ∀ s, Wr w w0.heap.size p lim bs e s → Calls Try.prog f args w (Puts w w0.heap.size p lim e bs s may l)) (hp : putS lim bs e may l = ⟨bs', e'⟩) :
    Calls Try.prog f args w fun x w' => x = .returned (.int .i64 e') ∧ AW w0 w' p lim bs' e' := by
  obtain ⟨hb, s, hW⟩ := h
  refine (hC s hW).mono fun x w' hP => ?_
  unfold Puts at hP
  rw [hp] at hP
  obtain ⟨hx, s', h1, h2, _⟩ := hP
  exact ⟨hx, (hb.trans (h2.below (B := w0.heap.size) hb.size fun b hb => (hW.ltS hb).1)), s', h1⟩
/-- A reader of a call's own. -/
def AR (w0 w : World) (p : Nat) (xs : List UInt8) (st : St) : Prop := Below w0.heap.size w0 w ∧ ∃ B s, w0.heap.size ≤ B ∧ RdO w B p s xs st
theorem RdO.lp {w : World} {B p s xs st} (h : RdO w B p s xs st) : B ≤ p := by
  cases st with
  | «at» a => exact Rd.lp h
  | bad e f => exact h.2.choose_spec.lp
theorem AR.below {w0 w w' p xs st} (h : AR w0 w p xs st) (k : Below w.heap.size w w') : AR w0 w' p xs st := by
  obtain ⟨hb, B, s, hB, hR⟩ := h
  exact ⟨bl_then hb k, B, s, hB, hR.below k⟩
theorem AR.of {α : Type} {w0 w : World} {p : Nat} {xs : List UInt8} {st st' : St} {f : FuncId} {args : Array Value} {r : α × St} {v : α} {U : α → Value} (h : AR w0 w p xs st)
    (hC : ∀ B s, RdO w B p s xs st → Calls Try.prog f args w (Did w B p s xs r fun x _ u => u = U x)) (hr : r = (v, st')) :
    Calls Try.prog f args w fun x w' => x = .returned (U v) ∧ AR w0 w' p xs st' := by
  obtain ⟨hb, B, s, hB, hR⟩ := h
  refine (hC B s hR).mono fun x w' hP => ?_
  rw [hr] at hP
  obtain ⟨u, rfl, rfl, h1, h2⟩ := hP
  have := hR.lp
  exact ⟨rfl, hb.trans (h2.below (B := w0.heap.size) hb.size fun b hb => by omega), B, s, hB, h1⟩
theorem AR.rest {w0 w : World} {p : Nat} {xs : List UInt8} {st : St} (h : AR w0 w p xs st) :
    Calls Try.prog 25 #[.pointer (some ⟨p, 0, none⟩)] w fun x w' => x = .returned (.int .i64 (restS xs st : Int)) ∧ AR w0 w' p xs st := by
  obtain ⟨hb, B, s, hB, hR⟩ := h
  exact (dRest_any hR).mono fun x w' ⟨h1, h2⟩ => ⟨h1, AR.below ⟨hb, B, s, hB, hR⟩ h2⟩
theorem AR.end {w0 w : World} {p : Nat} {xs : List UInt8} {st : St} (h : AR w0 w p xs st) :
    Calls Try.prog 32 #[.pointer (some ⟨p, 0, none⟩)] w fun x w' => x = .returned (.agg #[.int .i64 ((endS xs st).1 : Int), .int .i64 ((endS xs st).2 : Int)]) ∧ AR w0 w' p xs st := by
  obtain ⟨hb, B, s, hB, hR⟩ := h
  exact (dEnd_any hR).mono fun x w' ⟨h1, h2⟩ => ⟨h1, AR.below ⟨hb, B, s, hB, hR⟩ h2⟩

def XS : List UInt8 := [0, 1, 255, 2, 1, 0, 1, 2, 97, 98, 0, 0, 0, 0, 0, 0, 0, 1, 1]
theorem written_any (w : World) : Calls Try.prog 44 #[] w fun e w' => ∃ v, e = .returned v ∧ NewBytes w w' v XS := by
  go_enter Try.func44, Try.ntmps44
  go_wp2
  go_ret
  exact ⟨_, rfl, owns_lit (kb_new rfl _) (Nat.le_refl _) rfl (by decide), by (repeat (with_reducible (first | exact Below.refl _ _ | assumption | refine bl_alloc ?_ _ | refine bl_drew ?_ | refine bl_drewN ?_ _ | (refine bl_set ?_ ?_ _; (focus (first | (simp; done) | (simp; omega) | omega))) | refine bl_then ?_ (by assumption))))⟩

set_option maxRecDepth 100000 in
set_option maxHeartbeats 4000000 in
theorem awake_yes (w : World) : Calls Try.prog 10 #[] w fun e w' => e = .returned (.bool true) ∧ Below w.heap.size w w' := by
  have hab : (strB [97, 98]).toList = [97, 98] := by kernel_rfl
  go_enter Try.func10, Try.ntmps10
  go_wp2_with fail
  refine (NewWriter_yes 100 w (by omega) (by omega)).mono ?_
  rintro e w1 ⟨rfl, hW, hb⟩
  have H1 : Hid (AW w w1 w.heap.size 100 [] 0) := Lib.hid ⟨hb, _, hW⟩
  clear hW hb
  generalize hp : w.heap.size = p
  have hpp : Hid (w.heap.size = p) := Lib.hid hp
  rw [hp] at H1
  clear hp
  go_wp2_with fail
  refine (AW.of H1.out (fun s hW => wNum_any 0 (by omega) hW) (bs' := [0]) (e' := 0) (by kernel_rfl)).mono ?_
  rintro e w2 ⟨rfl, h⟩
  have H2 := Lib.hid h
  clear h
  go_wp2_with fail
  refine (AW.of H2.out (fun s hW => wNum_any 255 (by omega) hW) (bs' := [0, 1, 255]) (e' := 0) (by kernel_rfl)).mono ?_
  rintro e w3 ⟨rfl, h⟩
  have H3 := Lib.hid h
  clear h
  go_wp2_with fail
  refine (AW.of H3.out (fun s hW => wNum_any 256 (by omega) hW) (bs' := [0, 1, 255, 2, 1, 0]) (e' := 0) (by kernel_rfl)).mono ?_
  rintro e w4 ⟨rfl, h⟩
  have H4 := Lib.hid h
  clear h
  go_wp2_with fail
  refine (AW.of H4.out (fun s hW => wText_any ⟨#[97, 98]⟩ (by decide) hW) (bs' := [0, 1, 255, 2, 1, 0, 1, 2, 97, 98]) (e' := 0) (by kernel_rfl)).mono ?_
  rintro e w5 ⟨rfl, h⟩
  have H5 := Lib.hid h
  clear h
  go_wp2_with fail
  refine (AW.of H5.out (fun s hW => wWord_any 1 (by omega) hW) (bs' := [0, 1, 255, 2, 1, 0, 1, 2, 97, 98, 0, 0, 0, 0, 0, 0, 0, 1]) (e' := 0) (by kernel_rfl)).mono ?_
  rintro e w6 ⟨rfl, h⟩
  have H6 := Lib.hid h
  clear h
  go_wp2_with fail
  refine (AW.of H6.out (fun s hW => wBool_any true hW) (bs' := XS) (e' := 0) (by kernel_rfl)).mono ?_
  rintro e w7 ⟨rfl, h⟩
  have H7 := Lib.hid h
  clear h
  go_wp2_with fail
  obtain ⟨hb7, s7, hW7⟩ := H7.out
  refine (wDone_ok hW7).mono ?_
  rintro e w8 ⟨v, rfl, hN⟩
  have b8 := bl_then hb7 hN.2
  have HN := Lib.hid hN
  have HB8 := Lib.hid b8
  clear hN b8 hb7 hW7
  go_wp2_with fail
  refine (written_any w8).mono ?_
  rintro e w9 ⟨v9, rfl, h9⟩
  have H9 := Lib.hid h9
  clear h9
  go_wp2_with fail
  refine (NewReader_any H9.out.bytes (by decide)).mono ?_
  rintro e w10 ⟨p1, s10, rfl, hR, hb10⟩
  have b10 := bl_then (bl_then HB8.out H9.out.2) hb10
  have R10 : Hid (AR w w10 p1 XS (.at 0)) := Lib.hid ⟨b10, _, _, (bl_then HB8.out H9.out.2).size, hR⟩
  have HN10 : Hid (BytesOf w10 v XS) := Lib.hid (HN.out.bytes.below (bl_then H9.out.2 hb10))
  clear hR hb10 b10 HN H9
  go_wp2_with fail
  refine (written_any w10).mono ?_
  rintro e w11 ⟨v11, rfl, h11⟩
  have R11 := Lib.hid (R10.out.below h11.2)
  have HA := Lib.hid (HN10.out.below h11.2)
  have HB := Lib.hid h11.bytes
  clear h11
  go_wp2_with fail
  refine (SameBytes_any HA.out HB.out).mono ?_
  rintro e w12 ⟨rfl, rfl⟩
  go_wp2_with fail
  refine (AR.of (v := (0 : Nat)) (st' := .at 1) (U := fun n : Nat => .int .i64 (n : Int)) R11.out (fun B s hR => dNum_any hR) (by kernel_rfl)).mono ?_
  rintro e w12 ⟨rfl, h⟩
  have R12 := Lib.hid h
  clear h
  go_wp2_with fail
  refine (AR.of (v := (255 : Nat)) (st' := .at 3) (U := fun n : Nat => .int .i64 (n : Int)) R12.out (fun B s hR => dNum_any hR) (by kernel_rfl)).mono ?_
  rintro e w13 ⟨rfl, h⟩
  have R13 := Lib.hid h
  clear h
  go_wp2_with fail
  refine (AR.of (v := (256 : Nat)) (st' := .at 6) (U := fun n : Nat => .int .i64 (n : Int)) R13.out (fun B s hR => dNum_any hR) (by kernel_rfl)).mono ?_
  rintro e w14 ⟨rfl, h⟩
  have R14 := Lib.hid h
  clear h
  go_wp2_with fail
  refine (AR.of (v := ([97, 98] : List UInt8)) (st' := .at 10) (U := fun l => .string (strB l)) R14.out (fun B s hR => dText_any 2 hR) (by kernel_rfl)).mono ?_
  rintro e w15 ⟨rfl, h⟩
  have R15 := Lib.hid h
  clear h
  go_wp2_with fail
  refine (AR.of (v := (1 : Nat)) (st' := .at 18) (U := fun n : Nat => .int .u64 (n : Int)) R15.out (fun B s hR => dWord_any hR) (by kernel_rfl)).mono ?_
  rintro e w16 ⟨rfl, h⟩
  have R16 := Lib.hid h
  clear h
  go_wp2_with fail
  refine (AR.of (v := true) (st' := .at 19) (U := fun b => .bool b) R16.out (fun B s hR => dBool_any hR) (by kernel_rfl)).mono ?_
  rintro e w17 ⟨rfl, h⟩
  have R17 := Lib.hid h
  clear h
  go_wp2_with fail
  have hC := R17.out.rest
  rw [show ((restS XS (.at 19) : Nat) : Int) = 0 from by kernel_rfl] at hC
  refine hC.mono ?_
  clear hC
  rintro e w18 ⟨rfl, h⟩
  have R18 := Lib.hid h
  clear h
  go_wp2_with fail
  have hC := R18.out.end
  rw [show ((endS XS (.at 19)).1 : Int) = 0 from by kernel_rfl, show ((endS XS (.at 19)).2 : Int) = 0 from by kernel_rfl] at hC
  refine hC.mono ?_
  clear hC
  rintro e w19 ⟨rfl, h⟩
  have R19 := Lib.hid h
  clear h
  go_wp2_with fail
  go_ret
  exact ⟨rfl, R19.out.1⟩
end Go.Proofs.Ytajlcodlaalomaa
