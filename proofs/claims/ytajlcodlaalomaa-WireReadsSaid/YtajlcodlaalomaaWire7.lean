/- The walks of the reference's writer: Put, what it writes. -/
import Derived.Test.YtajlcodlaalomaaWire6
namespace Go.Proofs.Ytajlcodlaalomaa
open Go.RowKit Go.Proofs.Ytajlcodlaalomaa.Wi Go.Proofs.Ytajlcodlaalomaa.Pc
attribute [local go_sem] cell_alloc_some frozen_alloc_some

/-- The reference's writer. -/
structure RWr (w : World) (B p : Nat) (lim : Int) (bs : List UInt8) (e : Int) (s : Value) : Prop where
  st : w.heap[p]? = some (.cells #[.int .i64 lim, s, .int .i64 e] 85 (0, 0))
  row : w.ownsRow B 5 1 s bs.length (u8s bs)
  lp : B ≤ p
  len : bs.length ≤ 1048576
  l0 : 0 ≤ lim
  l1 : lim ≤ 1048576
theorem RWr.ltp {w B p lim bs e s} (h : RWr w B p lim bs e s) : p < w.heap.size := kb_lt h.st
theorem RWr.ltS {w B p lim bs e s} (h : RWr w B p lim bs e s) {b : Nat} (hb : WrS p s b) : B ≤ b ∧ b < w.heap.size := by
  rcases hb with rfl | hb
  · exact ⟨h.lp, h.ltp⟩
  · exact h.row.lt b hb
theorem RWr.keep {w w' : World} {B p lim bs e s} {S : Nat → Prop} (h : RWr w B p lim bs e s) (k : Keep S w w') (hn : ∀ b, WrS p s b → ¬ S b) : RWr w' B p lim bs e s where
  st := k.kb h.st (hn p (.inl rfl))
  row := k.row h.row fun b hb => hn b (.inr hb)
  lp := h.lp
  len := h.len
  l0 := h.l0
  l1 := h.l1
theorem RWr.below {w w' : World} {B p lim bs e s} (h : RWr w B p lim bs e s) (k : Below w.heap.size w w') : RWr w' B p lim bs e s := h.keep (S := fun _ => False) (Keep.of_below k) fun _ _ x => x
def RWrTo (w w' : World) (B p : Nat) (lim : Int) (s : Value) (bs' : List UInt8) (e' : Int) : Prop :=
  ∃ s', RWr w' B p lim bs' e' s' ∧ Keep (WrS p s) w w' ∧ ∀ b, s'.ownBlock = some b → s.ownBlock = some b ∨ w.heap.size ≤ b
theorem RWrTo.same {w w' : World} {B p lim bs e s} (h : RWr w B p lim bs e s) (k : Below w.heap.size w w') : RWrTo w w' B p lim s bs e := ⟨s, h.below k, Keep.of_below k, fun _ hb => .inl hb⟩
theorem RWrTo.after {w w1 w2 : World} {B p lim s bs' e'} (k : Below w.heap.size w w1) (h : RWrTo w1 w2 B p lim s bs' e') : RWrTo w w2 B p lim s bs' e' := by
  obtain ⟨s', h1, h2, h3⟩ := h
  exact ⟨s', h1, Keep.after k h2, fun b hb => (h3 b hb).imp id fun h => Nat.le_trans k.size h⟩
def RPuts (w : World) (B p : Nat) (lim e : Int) (bs : List UInt8) (s : Value) (may : Bool) (f : List UInt8) (e1 : Ending) (w' : World) : Prop :=
  e1 = .returned (.int .i64 (putS lim bs e may f).e) ∧ RWrTo w w' B p lim s (putS lim bs e may f).bs (putS lim bs e may f).e

set_option maxRecDepth 100000 in
set_option maxHeartbeats 1000000 in
theorem rPut_err {w : World} {B p : Nat} {lim e : Int} {bs f : List UInt8} {s v : Value} (F : RWr w B p lim bs e s) (hv : BytesOf w v f) (he : e ≠ 0) :
    Calls Try.prog 96 #[.pointer (some ⟨p, 0, none⟩), v] w fun e1 w' => e1 = .returned (.int .i64 e) ∧ RWrTo w w' B p lim s bs e := by
  have hne : (e == 0) = false := by simpa using he
  have D := F.st
  have c := kb_cell D
  obtain ⟨A, cap, rfl⟩ := hv.form
  have HF := Lib.hid F
  clear F he hv
  go_enter Try.func96, Try.ntmps96
  go_wp2_with fail
  go_quiet (fail)
  go_wp2_with fail
  go_ret
  exact ⟨rfl, RWrTo.same HF.out (by (repeat (with_reducible (first | exact Below.refl _ _ | assumption | refine bl_alloc ?_ _ | refine bl_drew ?_ | refine bl_drewN ?_ _ | (refine bl_set ?_ ?_ _; (focus (first | (simp; done) | (simp; omega) | omega))) | refine bl_then ?_ (by assumption)))))⟩

set_option maxRecDepth 100000 in
set_option maxHeartbeats 1000000 in
theorem rPut_long {w : World} {B p : Nat} {lim : Int} {bs f : List UInt8} {s v : Value} (F : RWr w B p lim bs 0 s) (hv : BytesOf w v f) (hf : f.length ≤ 1073741824) (hlong : lim < (bs.length : Int) + f.length) :
    Calls Try.prog 96 #[.pointer (some ⟨p, 0, none⟩), v] w fun e1 w' => e1 = .returned (.int .i64 4) ∧ RWrTo w w' B p lim s bs 4 := by
  have D := F.st
  have c := kb_cell D
  have z := kb_frozen D
  have hlen := F.len
  obtain ⟨A, cap, rfl⟩ := hv.form
  obtain ⟨A', cap', rfl⟩ := owns_slice0 F.row
  have HF := Lib.hid F
  have hw : IntKind.i64.wrap ((bs.length : Int) + (f.length : Int)) = (bs.length : Int) + (f.length : Int) := IntWalk.i64_in _ (by omega)
  have hd : decide (lim < (bs.length : Int) + (f.length : Int)) = true := decide_eq_true hlong
  clear F hv hlong
  go_enter Try.func96, Try.ntmps96
  go_wp2_with fail
  go_quiet (fail)
  go_wp2_with fail
  go_ret
  have F1 := HF.out
  have hsp := own_ne F1.row D (by decide)
  have k1 : Keep (WrS p (.slice A' bs.length cap')) w ((w.drewN nq).setCell ⟨p, 2, none⟩ (.int .i64 4)) := ((Keep.refl _ w).drewN nq).set (fun _ => .inl rfl) _
  exact ⟨rfl, _, ⟨kb_set (kb_drewN D nq) _, (owns_drewN F1.row nq).kept (row := some p) ⟨rfl, rfl, rfl, by simp, fun b _ hb => Below.heap_setCell _ _ _ _ (fun e => hb (by rw [e]))⟩ (.inr hsp), F1.lp, F1.len, F1.l0, F1.l1⟩, k1, fun _ hb => .inl hb⟩

set_option maxRecDepth 100000 in
set_option maxHeartbeats 2000000 in
theorem rPut_ok {w : World} {B p : Nat} {lim : Int} {bs f : List UInt8} {s v : Value} (F : RWr w B p lim bs 0 s) (hv : BytesOf w v f) (hlong : (bs.length : Int) + f.length ≤ lim) :
    Calls Try.prog 96 #[.pointer (some ⟨p, 0, none⟩), v] w fun e1 w' => e1 = .returned (.int .i64 0) ∧ RWrTo w w' B p lim s (bs ++ f) 0 := by
  have D := F.st
  have c := kb_cell D
  have hlen := F.len
  have hl1 := F.l1
  obtain ⟨A, cap, rfl⟩ := hv.form
  obtain ⟨A', cap', rfl⟩ := owns_slice0 F.row
  have HF := Lib.hid F
  have HV := Lib.hid hv
  have hw : IntKind.i64.wrap ((bs.length : Int) + (f.length : Int)) = (bs.length : Int) + (f.length : Int) := IntWalk.i64_in _ (by omega)
  have hd : decide (lim < (bs.length : Int) + (f.length : Int)) = false := decide_eq_false (by omega)
  obtain ⟨i0, hi, hz0, hz1, hz2⟩ := info_parts infoU
  have hsum : bs.length + f.length ≤ 1048576 := by omega
  have hBw : B ≤ w.heap.size := by have := F.ltp; have := F.lp; omega
  clear F hv
  go_enter Try.func96, Try.ntmps96
  go_wp2_with fail
  go_quiet (fail)
  clear hw hd
  have HS := Lib.hid (((RowOf.of_own HF.out.row).drewN nq).alloc (.cells #[] 5))
  have hn := owns_lit0 (w := (w.drewN nq).alloc (.cells #[] 5)) (base := w.heap.size) (cap := 0) (kb_new rfl _) (Nat.le_refl _) rfl
  have H1 := Lib.hid hn
  clear hn
  go_wp2_with (at_builtin; refine wpList_append_row _ rfl _ _ 32 rfl w.heap.size 5 i0 (.int .u8 0) 1 Try.underlying32 hi hz0 hz1 hz2 rfl _ _ _ rfl (H1.out) _ _ _ rfl (HS.out) (u8s_one _) ?c3 ?c4 ?c5 ?_)
  case c3 => unfold maxLen; omega
  case c4 => omega
  case c5 => simp
  intro v' w2 hown' hgrow _ hat
  have b0 : Below w.heap.size w ((w.drewN nq).alloc (.cells #[] 5)) := by (repeat (with_reducible (first | exact Below.refl _ _ | assumption | refine bl_alloc ?_ _ | refine bl_drew ?_ | refine bl_drewN ?_ _ | (refine bl_set ?_ ?_ _; (focus (first | (simp; done) | (simp; omega) | omega))) | refine bl_then ?_ (by assumption))))
  have b2 : Below w.heap.size w w2 := b0.grown hgrow (by simp) (fun j hj => by simp [Value.ownBlock] at hj; omega)
  obtain ⟨A2, cap2, hv'⟩ := owns_slice0 hown'
  subst hv'
  have HO := Lib.hid hown'
  have HV2 := Lib.hid (HV.out.below b2)
  have hws : w.heap.size ≤ w2.heap.size := b2.size
  clear hgrow hown' hat c
  go_wp2_with (at_builtin; refine wpList_append_row _ rfl _ _ 32 rfl w.heap.size 5 i0 (.int .u8 0) 1 Try.underlying32 hi hz0 hz1 hz2 rfl _ _ _ rfl (HO.out) _ _ _ rfl (HV2.out) (u8s_one _) ?c3 ?c4 ?c5 ?_)
  case c3 => unfold maxLen; omega
  case c4 => omega
  case c5 => omega
  intro v' w3 hown' hgrow _ _
  have b3 : Below w.heap.size w w3 := b2.grown hgrow hws (fun j hj => (HO.out.lt j hj).1)
  rw [← u8s_append] at hown'
  obtain ⟨A3, cap3, hv'⟩ := owns_slice0 hown'
  subst hv'
  have D3 := kb_below b3 D
  have c3 := kb_cell D3
  have z3 := kb_frozen D3
  have HO3 := Lib.hid hown'
  clear hgrow hown'
  go_wp2_with fail
  go_ret
  have F1 := HF.out
  have hsp := own_ne HO3.out D3 (by decide)
  have k1 : Keep (WrS p (.slice A' bs.length cap')) w (w3.setCell ⟨p, 1, none⟩ (.slice A3 (bs.length + f.length) cap3)) := (Keep.of_below b3).set (fun _ => .inl rfl) _
  have hr := own_set (i := 1) (u := .slice A3 (bs.length + f.length) cap3) HO3.out hsp
  exact ⟨rfl, .slice A3 (bs.length + f.length) cap3, ⟨kb_set D3 _, by rw [List.length_append]; exact owns_mono hr hBw, F1.lp, by rw [List.length_append]; exact hsum, F1.l0, F1.l1⟩, k1, fun b hb => .inr (HO3.out.lt b hb).1⟩

theorem rPut_any {w : World} {B p : Nat} {lim e : Int} {bs f : List UInt8} {s v : Value} (F : RWr w B p lim bs e s) (hv : BytesOf w v f) (hf : f.length ≤ 1073741824) :
    Calls Try.prog 96 #[.pointer (some ⟨p, 0, none⟩), v] w (RPuts w B p lim e bs s true f) := by
  unfold RPuts putS
  by_cases he : e = 0
  · subst he
    rw [if_neg (by simp), if_neg (by simp)]
    by_cases hl : lim < (bs.length : Int) + f.length
    · rw [if_pos hl]; exact rPut_long F hv hf hl
    · rw [if_neg hl]; exact rPut_ok F hv (by omega)
  · rw [if_pos he]; exact rPut_err F hv he
theorem rputs {w w0 : World} {B p : Nat} {lim e : Int} {bs f : List UInt8} {s v : Value} (F : RWr w0 B p lim bs e s) (hb : Below w0.heap.size w0 w) (hv : BytesOf w v f) (hf : f.length ≤ 1073741824) :
    Calls Try.prog 96 #[.pointer (some ⟨p, 0, none⟩), v] w (RPuts w0 B p lim e bs s true f) :=
  (rPut_any (F.below hb) hv hf).mono fun _ _ ⟨h1, h2⟩ => ⟨h1, RWrTo.after hb h2⟩
end Go.Proofs.Ytajlcodlaalomaa
