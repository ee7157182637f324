/- The walk of WireKnown. Printed by wip/known.py. -/
import Derived.Test.YtajlcodlaalomaaWire19
namespace Go.Proofs.Ytajlcodlaalomaa
open Go.RowKit Go.Proofs.Ytajlcodlaalomaa.Wi Go.Proofs.Ytajlcodlaalomaa.Pc
attribute [local go_sem] cell_alloc_some frozen_alloc_some
set_option linter.unusedSimpArgs false
set_option linter.unusedVariables false

/-- The blocks that calls so far may have turned. -/
def Tu (lo X H : Nat) (b : Nat) : Prop := (lo ≤ b ∧ b < X) ∨ H ≤ b
/-- A reader whose blocks lie from lo to hi. -/
def RO (w : World) (lo hi p : Nat) (xs : List UInt8) (st : St) : Prop := ∃ s, RdO w lo p s xs st ∧ p < hi ∧ ∀ b, s.ownBlock = some b → b < hi
theorem RdO.keep {w w' : World} {B p s xs st} {S : Nat → Prop} (h : RdO w B p s xs st) (k : Keep S w w') (h1 : ¬ S p) (h2 : ∀ b, s.ownBlock = some b → ¬ S b) : RdO w' B p s xs st := by
  cases st with
  | «at» a => exact Rd.keep h k h1 h2
  | bad e f => exact ⟨h.1, h.2.choose, h.2.choose_spec.keep k h1 h2⟩
theorem RdO.low {w : World} {B p s xs st} (h : RdO w B p s xs st) : ∀ b, s.ownBlock = some b → B ≤ b ∧ b < w.heap.size := by
  cases st with
  | «at» a => exact Rd.row h |>.lt
  | bad e f => exact h.2.choose_spec.row.lt
theorem RO.keep {w w' : World} {lo hi p xs st} {E : Nat → Prop} (h : RO w lo hi p xs st) (k : Keep E w w') (hn : ∀ b, lo ≤ b → b < hi → ¬ E b) : RO w' lo hi p xs st := by
  obtain ⟨s, hR, h1, h2⟩ := h
  exact ⟨s, hR.keep k (hn p hR.lp h1) (fun b hb => hn b (hR.low b hb).1 (h2 b hb)), h1, h2⟩
theorem RO.new {w : World} {v : Value} {l : List UInt8} (h : BytesOf w v l) (hl : l.length ≤ 2097152) :
    Calls Try.prog 21 #[v] w fun e w' => ∃ p, e = .returned (.pointer (some ⟨p, 0, none⟩)) ∧ RO w' w.heap.size w'.heap.size p l (.at 0) ∧ Below w.heap.size w w' :=
  (NewReader_any h hl).mono fun e w' ⟨p, s, h1, h2, h3⟩ => ⟨p, h1, ⟨s, h2, h2.ltp, fun b hb => (h2.low b hb).2⟩, h3⟩
theorem RO.op {α : Type} {w : World} {lo hi p : Nat} {xs : List UInt8} {st st' : St} {f : FuncId} {args : Array Value} {r : α × St} {v : α} {U : α → Value} (h : RO w lo hi p xs st) (lo' H : Nat) (hl : lo' ≤ lo)
    (hC : ∀ B s, RdO w B p s xs st → Calls Try.prog f args w (Did w B p s xs r fun x _ u => u = U x)) (hr : r = (v, st')) :
    Calls Try.prog f args w fun x w' => x = .returned (U v) ∧ RO w' lo hi p xs st' ∧ Keep (Tu lo' hi H) w w' := by
  obtain ⟨s, hR, h1, h2⟩ := h
  refine (hC lo s hR).mono fun x w' hP => ?_
  rw [hr] at hP
  obtain ⟨u, rfl, rfl, h3, h4⟩ := hP
  have := hR.lp
  exact ⟨rfl, ⟨s, h3, h1, h2⟩, h4.mono fun b _ hb => .inl (by subst hb; omega)⟩
theorem RO.rest {w : World} {lo hi p : Nat} {xs : List UInt8} {st : St} (h : RO w lo hi p xs st) {n : Int} (hn : (restS xs st : Int) = n) (E : Nat → Prop) :
    Calls Try.prog 25 #[.pointer (some ⟨p, 0, none⟩)] w fun x w' => x = .returned (.int .i64 n) ∧ RO w' lo hi p xs st ∧ Keep E w w' := by
  obtain ⟨s, hR, h1, h2⟩ := h
  subst hn
  exact (dRest_any hR).mono fun x w' ⟨h3, h4⟩ => ⟨h3, ⟨s, hR.below h4, h1, h2⟩, Keep.of_below h4⟩
theorem ends_yes2 {w : World} {B p : Nat} {s : Value} {xs : List UInt8} {st : St} (h : RdO w B p s xs st) (e f : Nat) (hE : endS xs st = (e, f)) :
    Calls Try.prog 24 #[.pointer (some ⟨p, 0, none⟩), .int .i64 e, .int .i64 f] w fun x w' => x = .returned (.bool true) ∧ Below w.heap.size w w' := by
  have hC := dEnd_any h
  rw [hE] at hC
  have HC := Lib.hid hC
  clear hC h hE
  go_enter Try.func24, Try.ntmps24
  go_wp2_with fail
  refine HC.out.mono ?_
  rintro x w' ⟨rfl, h⟩
  have H := Lib.hid h
  clear h
  go_wp2_with fail
  go_ret
  exact ⟨rfl, H.out⟩
theorem RO.ends {w : World} {lo hi p : Nat} {xs : List UInt8} {st : St} (h : RO w lo hi p xs st) (e f : Nat) (hE : endS xs st = (e, f)) (E : Nat → Prop) :
    Calls Try.prog 24 #[.pointer (some ⟨p, 0, none⟩), .int .i64 e, .int .i64 f] w fun x w' => x = .returned (.bool true) ∧ RO w' lo hi p xs st ∧ Keep E w w' := by
  obtain ⟨s, hR, h1, h2⟩ := h
  exact (ends_yes2 hR e f hE).mono fun x w' ⟨h3, h4⟩ => ⟨h3, ⟨s, hR.below h4, h1, h2⟩, Keep.of_below h4⟩
/-- A writer whose blocks lie from lo to X or are new since H. -/
def WO (w : World) (lo X H p : Nat) (lim : Int) (bs : List UInt8) (e : Int) : Prop := ∃ s, Wr w lo p lim bs e s ∧ ∀ b, WrS p s b → Tu lo X H b
theorem WO.keep {w w' : World} {lo X H p : Nat} {lim : Int} {bs : List UInt8} {e : Int} {E : Nat → Prop} (h : WO w lo X H p lim bs e) (k : Keep E w w') (hn : ∀ b, b < w.heap.size → Tu lo X H b → ¬ E b) : WO w' lo X H p lim bs e := by
  obtain ⟨s, hW, h1⟩ := h
  exact ⟨s, hW.keep k fun b hb => hn b (hW.ltS hb).2 (h1 b hb), h1⟩
theorem WO.op {w : World} {lo X H p : Nat} {lim e : Int} {bs bs' : List UInt8} {e' : Int} {f : FuncId} {args : Array Value} {may : Bool} {l : List UInt8} (h : WO w lo X H p lim bs e) (hH : H ≤ w.heap.size)
    (hC : ∀ s, Wr w lo p lim bs e s → Calls Try.prog f args w (Puts w lo p lim e bs s may l)) (hp : putS lim bs e may l = ⟨bs', e'⟩) :
    Calls Try.prog f args w fun x w' => x = .returned (.int .i64 e') ∧ WO w' lo X H p lim bs' e' ∧ Keep (Tu lo X H) w w' := by
  obtain ⟨s, hW, h1⟩ := h
  refine (hC s hW).mono fun x w' hP => ?_
  unfold Puts at hP
  rw [hp] at hP
  obtain ⟨hx, s', h2, h3, h4⟩ := hP
  refine ⟨hx, ⟨s', h2, fun b hb => ?_⟩, h3.mono fun b _ hb => h1 b hb⟩
  rcases hb with rfl | hb
  · exact h1 _ (.inl rfl)
  · rcases h4 b hb with h | h
    · exact h1 _ (.inr h)
    · exact .inr (by omega)

set_option maxRecDepth 100000 in
set_option maxHeartbeats 8000000 in
theorem known_yes (w : World) : Calls Try.prog 4 #[] w fun e w' => e = .returned (.bool true) ∧ Below w.heap.size w w' := by
  have h97 : ∀ W : World, (binOp .eql 54 (.float .f64 0) (.float .f64 0)).run Try.prog W = .ok (.bool true) W := fun _ => by kernel_rfl
  have hs0 : (strB []).toList = [] := by kernel_rfl
  go_enter Try.func4, Try.ntmps4
  go_wp2_with fail
  refine (NewWriter_yes 9 w (by omega) (by omega)).mono ?_
  rintro e w1 ⟨rfl, hW, hb⟩
  have H1 := Lib.hid hW
  have B1 := Lib.hid hb
  have hlt1 := Lib.hid hW.ltp
  clear hW hb
  generalize hp : w.heap.size = q0 at *
  have hq0 := Lib.hid hp
  clear hp
  go_wp2_with fail
  refine (NewWriter_yes 2 w1 (by omega) (by omega)).mono ?_
  rintro e w2 ⟨rfl, hW, hb⟩
  have H2 := Lib.hid hW
  have B2 := Lib.hid hb
  clear hW hb
  generalize hp : w1.heap.size = q1 at *
  have hq1 := Lib.hid hp
  clear hp
  go_wp2_with fail
  refine (RO.new (l := [1, 0]) (RowOf.lit (kb_new rfl _) rfl) (by decide)).mono ?_
  rintro e w3 ⟨r0, rfl, hR, hb⟩
  have R0 := Lib.hid hR
  have hb' := bl_then (bl_alloc (Below.refl _ _) _) hb
  have B3 := Lib.hid hb'
  clear hR hb hb'
  go_wp2_with fail
  refine (RO.new (l := [9]) (RowOf.lit (kb_new rfl _) rfl) (by decide)).mono ?_
  rintro e w4 ⟨r1, rfl, hR, hb⟩
  have R1 := Lib.hid hR
  have hb' := bl_then (bl_alloc (Below.refl _ _) _) hb
  have B4 := Lib.hid hb'
  clear hR hb hb'
  go_wp2_with fail
  refine (RO.new (l := [2, 1]) (RowOf.lit (kb_new rfl _) rfl) (by decide)).mono ?_
  rintro e w5 ⟨r2, rfl, hR, hb⟩
  have R2 := Lib.hid hR
  have hb' := bl_then (bl_alloc (Below.refl _ _) _) hb
  have B5 := Lib.hid hb'
  clear hR hb hb'
  go_wp2_with fail
  refine (RO.new (l := [1, 5, 0]) (RowOf.lit (kb_new rfl _) rfl) (by decide)).mono ?_
  rintro e w6 ⟨r3, rfl, hR, hb⟩
  have R3 := Lib.hid hR
  have hb' := bl_then (bl_alloc (Below.refl _ _) _) hb
  have B6 := Lib.hid hb'
  clear hR hb hb'
  go_wp2_with fail
  refine (RO.new (l := [1, 3, 97]) (RowOf.lit (kb_new rfl _) rfl) (by decide)).mono ?_
  rintro e w7 ⟨r4, rfl, hR, hb⟩
  have R4 := Lib.hid hR
  have hb' := bl_then (bl_alloc (Below.refl _ _) _) hb
  have B7 := Lib.hid hb'
  clear hR hb hb'
  go_wp2_with fail
  refine (RO.new (l := [1, 2, 2]) (RowOf.lit (kb_new rfl _) rfl) (by decide)).mono ?_
  rintro e w8 ⟨r5, rfl, hR, hb⟩
  have R5 := Lib.hid hR
  have hb' := bl_then (bl_alloc (Below.refl _ _) _) hb
  have B8 := Lib.hid hb'
  clear hR hb hb'
  go_wp2_with fail
  refine (RO.new (l := [255, 255, 255, 255, 255, 255, 255, 255]) (RowOf.lit (kb_new rfl _) rfl) (by decide)).mono ?_
  rintro e w9 ⟨r6, rfl, hR, hb⟩
  have R6 := Lib.hid hR
  have hb' := bl_then (bl_alloc (Below.refl _ _) _) hb
  have B9 := Lib.hid hb'
  clear hR hb hb'
  go_wp2_with fail
  have T8 := B9.out
  have T7 := bl_then B8.out T8
  have T6 := bl_then B7.out T7
  have T5 := bl_then B6.out T6
  have T4 := bl_then B5.out T5
  have T3 := bl_then B4.out T4
  have T2 := bl_then B3.out T3
  have T1 := bl_then (show Below w1.heap.size w1 w2 by rw [hq1.out]; exact B2.out) T2
  have T0 := bl_then (show Below w.heap.size w w1 by rw [hq0.out]; exact B1.out) T1
  have e1 := hq1.out
  have e0 := hq0.out
  have s0 := hlt1.out
  have s2 : w2.heap.size ≤ w3.heap.size := B3.out.size
  have s3 : w3.heap.size ≤ w4.heap.size := B4.out.size
  have s4 : w4.heap.size ≤ w5.heap.size := B5.out.size
  have s5 : w5.heap.size ≤ w6.heap.size := B6.out.size
  have s6 : w6.heap.size ≤ w7.heap.size := B7.out.size
  have s7 : w7.heap.size ≤ w8.heap.size := B8.out.size
  have s8 : w8.heap.size ≤ w9.heap.size := B9.out.size
  have s1 : q1 < w2.heap.size := H2.out.ltp
  have R0r := R0.out
  rw [World.size_alloc] at R0r
  have N0 := Lib.hid (R0r.keep (Keep.of_below (S := fun _ => False) T3) fun _ _ _ x => x)
  clear R0r R0
  have R1r := R1.out
  rw [World.size_alloc] at R1r
  have N1 := Lib.hid (R1r.keep (Keep.of_below (S := fun _ => False) T4) fun _ _ _ x => x)
  clear R1r R1
  have R2r := R2.out
  rw [World.size_alloc] at R2r
  have N2 := Lib.hid (R2r.keep (Keep.of_below (S := fun _ => False) T5) fun _ _ _ x => x)
  clear R2r R2
  have R3r := R3.out
  rw [World.size_alloc] at R3r
  have N3 := Lib.hid (R3r.keep (Keep.of_below (S := fun _ => False) T6) fun _ _ _ x => x)
  clear R3r R3
  have R4r := R4.out
  rw [World.size_alloc] at R4r
  have N4 := Lib.hid (R4r.keep (Keep.of_below (S := fun _ => False) T7) fun _ _ _ x => x)
  clear R4r R4
  have R5r := R5.out
  rw [World.size_alloc] at R5r
  have N5 := Lib.hid (R5r.keep (Keep.of_below (S := fun _ => False) T8) fun _ _ _ x => x)
  clear R5r R5
  have R6r := R6.out
  rw [World.size_alloc] at R6r
  have N6 := Lib.hid (R6r.keep (Keep.of_below (S := fun _ => False) (Below.refl _ _)) fun _ _ _ x => x)
  clear R6r R6
  have WW : Hid (WO w9 q0 q1 w9.heap.size q0 9 [] 0) := Lib.hid ⟨_, H1.out.below T1, fun b hb => .inl (Or.elim hb (fun h => by subst h; exact ⟨Nat.le_refl _, s0⟩) (fun h => by simp [Value.ownBlock] at h))⟩
  have XX := Lib.hid (H2.out.below T2)
  have TT := Lib.hid T0
  clear T0 T1 T2 T3 T4 T5 T6 T7 T8 B1 B2 B3 B4 B5 B6 B7 B8 B9 H1 H2
  refine (WO.op WW.out (Nat.le_refl _) (fun s hW => wNum_any (-1) (by omega) hW) (bs' := []) (e' := 3) (by kernel_rfl)).mono ?_
  rintro e w10 ⟨rfl, hR, hk⟩
  have WW1 := Lib.hid hR
  have K10 := Lib.hid hk
  have z10 := hk.size
  clear hR hk WW
  go_wp2_with fail
  refine (WO.op WW1.out (by omega) (fun s hW => wNum_any 1 (by omega) hW) (bs' := []) (e' := 3) (by kernel_rfl)).mono ?_
  rintro e w11 ⟨rfl, hR, hk⟩
  have WW2 := Lib.hid hR
  have z11 := hk.size
  have K11 := Lib.hid (K10.out.trans hk fun _ _ h => h)
  clear hR hk WW1 K10
  have XX1 : Hid (WO w11 q1 w2.heap.size w11.heap.size q1 2 [] 0) := Lib.hid ⟨_, XX.out.keep K11.out (fun b hb => Or.elim hb (fun h => by subst h; unfold Tu; omega) (fun h => by simp [Value.ownBlock] at h)), fun b hb => .inl (Or.elim hb (fun h => by subst h; exact ⟨Nat.le_refl _, s1⟩) (fun h => by simp [Value.ownBlock] at h))⟩
  go_wp2_with fail
  refine (WO.op XX1.out (Nat.le_refl _) (fun s hW => wNum_any 256 (by omega) hW) (bs' := []) (e' := 4) (by kernel_rfl)).mono ?_
  rintro e w12 ⟨rfl, hR, hk⟩
  have XX2 := Lib.hid hR
  have z12 := hk.size
  have K12 := Lib.hid hk
  clear hR hk XX1
  go_wp2_with fail
  refine (WO.op XX2.out (by omega) (fun s hW => wNum_any 1 (by omega) hW) (bs' := []) (e' := 4) (by kernel_rfl)).mono ?_
  rintro e w13 ⟨rfl, hR, hk⟩
  have z13 := hk.size
  have K13 := Lib.hid (K12.out.trans hk fun _ _ h => h)
  clear hR hk XX2 K12
  have WW3 := Lib.hid (WW2.out.keep K13.out fun b hb h1 h2 => by unfold Tu at h1 h2; omega)
  go_wp2_with fail
  refine (wDone_err WW3.out.choose_spec.1 (by omega)).mono ?_
  rintro e w14 ⟨rfl, hb⟩
  have K14 : Hid (Keep (Tu q0 w2.heap.size w9.heap.size) w9 w14) := Lib.hid (((K11.out.mono fun b _ h => by unfold Tu at *; omega).trans K13.out fun b _ h => by unfold Tu at *; omega).then_below hb)
  clear hb WW2 WW3 K11 K13
  go_wp2_with fail
  have C := Lib.hid (N0.out.keep K14.out fun b h1 h2 h3 => by unfold Tu at h3; omega)
  have K14b : Hid (Keep (Tu q0 w3.heap.size w9.heap.size) w9 w14) := Lib.hid (K14.out.mono fun b _ h => by unfold Tu at *; omega)
  clear K14 N0
  refine (RO.op (v := (0 : Nat)) (st' := .bad 5 0) (U := fun x : Nat => .int .i64 (x : Int)) C.out q0 w9.heap.size (by omega) (fun B s hR => dNum_any hR) (by kernel_rfl)).mono ?_
  rintro e w15 ⟨rfl, hR, hk⟩
  have K15 := Lib.hid (K14b.out.trans hk fun _ _ h => h)
  have C' := Lib.hid hR
  clear hR hk C K14b
  have C := C'
  clear C'
  go_wp2_with fail
  refine (RO.ends C.out 5 0 (by kernel_rfl) (Tu q0 w3.heap.size w9.heap.size)).mono ?_
  rintro e w16 ⟨rfl, hR, hk⟩
  have K16 := Lib.hid (K15.out.trans hk fun _ _ h => h)
  have C' := Lib.hid hR
  clear hR hk C K15
  have C := C'
  clear C'
  go_wp2_with fail
  have C := Lib.hid (N1.out.keep K16.out fun b h1 h2 h3 => by unfold Tu at h3; omega)
  have K16b : Hid (Keep (Tu q0 w4.heap.size w9.heap.size) w9 w16) := Lib.hid (K16.out.mono fun b _ h => by unfold Tu at *; omega)
  clear K16 N1
  refine (RO.op (v := (0 : Nat)) (st' := .bad 5 0) (U := fun x : Nat => .int .i64 (x : Int)) C.out q0 w9.heap.size (by omega) (fun B s hR => dNum_any hR) (by kernel_rfl)).mono ?_
  rintro e w17 ⟨rfl, hR, hk⟩
  have K17 := Lib.hid (K16b.out.trans hk fun _ _ h => h)
  have C' := Lib.hid hR
  clear hR hk C K16b
  have C := C'
  clear C'
  go_wp2_with fail
  refine (RO.ends C.out 5 0 (by kernel_rfl) (Tu q0 w4.heap.size w9.heap.size)).mono ?_
  rintro e w18 ⟨rfl, hR, hk⟩
  have K18 := Lib.hid (K17.out.trans hk fun _ _ h => h)
  have C' := Lib.hid hR
  clear hR hk C K17
  have C := C'
  clear C'
  go_wp2_with fail
  have C := Lib.hid (N2.out.keep K18.out fun b h1 h2 h3 => by unfold Tu at h3; omega)
  have K18b : Hid (Keep (Tu q0 w5.heap.size w9.heap.size) w9 w18) := Lib.hid (K18.out.mono fun b _ h => by unfold Tu at *; omega)
  clear K18 N2
  refine (RO.op (v := (0 : Nat)) (st' := .bad 6 0) (U := fun x : Nat => .int .i64 (x : Int)) C.out q0 w9.heap.size (by omega) (fun B s hR => dNum_any hR) (by kernel_rfl)).mono ?_
  rintro e w19 ⟨rfl, hR, hk⟩
  have K19 := Lib.hid (K18b.out.trans hk fun _ _ h => h)
  have C' := Lib.hid hR
  clear hR hk C K18b
  have C := C'
  clear C'
  go_wp2_with fail
  refine (RO.ends C.out 6 0 (by kernel_rfl) (Tu q0 w5.heap.size w9.heap.size)).mono ?_
  rintro e w20 ⟨rfl, hR, hk⟩
  have K20 := Lib.hid (K19.out.trans hk fun _ _ h => h)
  have C' := Lib.hid hR
  clear hR hk C K19
  have C := C'
  clear C'
  go_wp2_with fail
  clear C
  have C := Lib.hid (N3.out.keep K20.out fun b h1 h2 h3 => by unfold Tu at h3; omega)
  have K20b : Hid (Keep (Tu q0 w6.heap.size w9.heap.size) w9 w20) := Lib.hid (K20.out.mono fun b _ h => by unfold Tu at *; omega)
  clear K20 N3
  refine (RO.op (v := (5 : Nat)) (st' := .at 2) (U := fun x : Nat => .int .i64 (x : Int)) C.out q0 w9.heap.size (by omega) (fun B s hR => dNum_any hR) (by kernel_rfl)).mono ?_
  rintro e w21 ⟨rfl, hR, hk⟩
  have K21 := Lib.hid (K20b.out.trans hk fun _ _ h => h)
  have C' := Lib.hid hR
  clear hR hk C K20b
  have C := C'
  clear C'
  go_wp2_with fail
  refine (RO.rest C.out (n := 1) (by kernel_rfl) (Tu q0 w6.heap.size w9.heap.size)).mono ?_
  rintro e w22 ⟨rfl, hR, hk⟩
  have K22 := Lib.hid (K21.out.trans hk fun _ _ h => h)
  have C' := Lib.hid hR
  clear hR hk C K21
  have C := C'
  clear C'
  go_wp2_with fail
  refine (RO.ends C.out 4 2 (by kernel_rfl) (Tu q0 w6.heap.size w9.heap.size)).mono ?_
  rintro e w23 ⟨rfl, hR, hk⟩
  have K23 := Lib.hid (K22.out.trans hk fun _ _ h => h)
  have C' := Lib.hid hR
  clear hR hk C K22
  have C := C'
  clear C'
  go_wp2_with fail
  have C := Lib.hid (N4.out.keep K23.out fun b h1 h2 h3 => by unfold Tu at h3; omega)
  have K23b : Hid (Keep (Tu q0 w7.heap.size w9.heap.size) w9 w23) := Lib.hid (K23.out.mono fun b _ h => by unfold Tu at *; omega)
  clear K23 N4
  refine (RO.op (v := ([] : List UInt8)) (st' := .bad 4 0) (U := fun x : List UInt8 => .string (strB x)) C.out q0 w9.heap.size (by omega) (fun B s hR => dText_any 2 hR) (by kernel_rfl)).mono ?_
  rintro e w24 ⟨rfl, hR, hk⟩
  have K24 := Lib.hid (K23b.out.trans hk fun _ _ h => h)
  have C' := Lib.hid hR
  clear hR hk C K23b
  have C := C'
  clear C'
  go_wp2_with fail
  refine (RO.ends C.out 4 0 (by kernel_rfl) (Tu q0 w7.heap.size w9.heap.size)).mono ?_
  rintro e w25 ⟨rfl, hR, hk⟩
  have K25 := Lib.hid (K24.out.trans hk fun _ _ h => h)
  have C' := Lib.hid hR
  clear hR hk C K24
  have C := C'
  clear C'
  go_wp2_with fail
  have C := Lib.hid (N5.out.keep K25.out fun b h1 h2 h3 => by unfold Tu at h3; omega)
  have K25b : Hid (Keep (Tu q0 w8.heap.size w9.heap.size) w9 w25) := Lib.hid (K25.out.mono fun b _ h => by unfold Tu at *; omega)
  clear K25 N5
  refine (RO.op (v := (2 : Nat)) (st' := .at 2) (U := fun x : Nat => .int .i64 (x : Int)) C.out q0 w9.heap.size (by omega) (fun B s hR => dNum_any hR) (by kernel_rfl)).mono ?_
  rintro e w26 ⟨rfl, hR, hk⟩
  have K26 := Lib.hid (K25b.out.trans hk fun _ _ h => h)
  have C' := Lib.hid hR
  clear hR hk C K25b
  have C := C'
  clear C'
  go_wp2_with fail
  refine (RO.op (v := (false : Bool)) (st' := .bad 5 2) (U := fun x : Bool => .bool x) C.out q0 w9.heap.size (by omega) (fun B s hR => dBool_any hR) (by kernel_rfl)).mono ?_
  rintro e w27 ⟨rfl, hR, hk⟩
  have K27 := Lib.hid (K26.out.trans hk fun _ _ h => h)
  have C' := Lib.hid hR
  clear hR hk C K26
  have C := C'
  clear C'
  go_wp2_with fail
  refine (RO.ends C.out 5 2 (by kernel_rfl) (Tu q0 w8.heap.size w9.heap.size)).mono ?_
  rintro e w28 ⟨rfl, hR, hk⟩
  have K28 := Lib.hid (K27.out.trans hk fun _ _ h => h)
  have C' := Lib.hid hR
  clear hR hk C K27
  have C := C'
  clear C'
  go_wp2_with fail
  refine (awake_yes _).mono ?_
  rintro e w29 ⟨rfl, hb⟩
  have K29 := Lib.hid (K28.out.then_below hb)
  clear hb K28
  go_wp2_with fail
  have C := Lib.hid (N6.out.keep K29.out fun b h1 h2 h3 => by unfold Tu at h3; omega)
  have K29b : Hid (Keep (Tu q0 w9.heap.size w9.heap.size) w9 w29) := Lib.hid (K29.out.mono fun b _ h => by unfold Tu at *; omega)
  clear K29 N6
  refine (RO.op (v := (0 : Nat)) (st' := .bad 5 0) (U := fun x : Nat => .float .f64 x) C.out q0 w9.heap.size (by omega) (fun B s hR => dPace_any hR) (by kernel_rfl)).mono ?_
  rintro e w30 ⟨rfl, hR, hk⟩
  have K30 := Lib.hid (K29b.out.trans hk fun _ _ h => h)
  have C' := Lib.hid hR
  clear hR hk C K29b
  have C := C'
  clear C'
  go_wp2_with fail
  refine (RO.ends C.out 5 0 (by kernel_rfl) (Tu q0 w9.heap.size w9.heap.size)).mono ?_
  rintro e w31 ⟨rfl, hR, hk⟩
  have K31 := Lib.hid (K30.out.trans hk fun _ _ h => h)
  have C' := Lib.hid hR
  clear hR hk C K30
  have C := C'
  clear C'
  go_wp2_with fail
  go_ret
  exact ⟨rfl, TT.out.trans (K31.out.below (by omega) fun b h => by unfold Tu at h; omega)⟩
end Go.Proofs.Ytajlcodlaalomaa
