/- The walks of package wire: a writer; put. -/
import Derived.Test.YtooghjnddifpdaaWire2
import Derived.IntWalk
namespace Go.Proofs.Ytooghjnddifpdaa
open Go.RowKit Go.Proofs.Ytooghjnddifpdaa.Wi
attribute [local go_sem] cell_alloc_some frozen_alloc_some

/-- A writer: the struct's block p, the bytes' slice s, the bytes bs, the error e. -/
structure Wr (w : World) (B p : Nat) (lim : Int) (bs : List UInt8) (e : Int) (s : Value) : Prop where
  st : w.heap[p]? = some (.cells #[.int .i64 lim, s, .int .i64 e, .bool true] 128 (0, 0))
  row : w.ownsRow B 5 1 s bs.length (u8s bs)
  lp : B ≤ p
  len : bs.length ≤ 1048576
  l0 : 0 ≤ lim
  l1 : lim ≤ 1048576
def WrS (p : Nat) (s : Value) (b : Nat) : Prop := b = p ∨ s.ownBlock = some b
theorem Wr.ltp {w B p lim bs e s} (h : Wr w B p lim bs e s) : p < w.heap.size := kb_lt h.st
theorem Wr.ltS {w B p lim bs e s} (h : Wr w B p lim bs e s) {b : Nat} (hb : WrS p s b) : B ≤ b ∧ b < w.heap.size := by
  rcases hb with rfl | hb
  · exact ⟨h.lp, h.ltp⟩
  · exact h.row.lt b hb
theorem Wr.keep {w w' : World} {B p lim bs e s} {S : Nat → Prop} (h : Wr w B p lim bs e s) (k : Keep S w w') (hn : ∀ b, WrS p s b → ¬ S b) : Wr w' B p lim bs e s where
  st := k.kb h.st (hn p (.inl rfl))
  row := k.row h.row fun b hb => hn b (.inr hb)
  lp := h.lp
  len := h.len
  l0 := h.l0
  l1 := h.l1
theorem Wr.below {w w' : World} {B p lim bs e s} (h : Wr w B p lim bs e s) (k : Below w.heap.size w w') : Wr w' B p lim bs e s := h.keep (S := fun _ => False) (Keep.of_below k) fun _ _ x => x
/-- What becomes of a writer, beside the rest of memory. -/
def WrTo (w w' : World) (B p : Nat) (lim : Int) (s : Value) (bs' : List UInt8) (e' : Int) : Prop :=
  ∃ s', Wr w' B p lim bs' e' s' ∧ Keep (WrS p s) w w' ∧ ∀ b, s'.ownBlock = some b → s.ownBlock = some b ∨ w.heap.size ≤ b

theorem WrTo.same {w w' : World} {B p lim bs e s} (h : Wr w B p lim bs e s) (k : Below w.heap.size w w') : WrTo w w' B p lim s bs e := ⟨s, h.below k, Keep.of_below k, fun _ hb => .inl hb⟩
theorem WrTo.after {w w1 w2 : World} {B p lim s bs' e'} (k : Below w.heap.size w w1) (h : WrTo w1 w2 B p lim s bs' e') : WrTo w w2 B p lim s bs' e' := by
  obtain ⟨s', h1, h2, h3⟩ := h
  exact ⟨s', h1, Keep.after k h2, fun b hb => (h3 b hb).imp id fun h => Nat.le_trans k.size h⟩

structure PutR where
  bs : List UInt8
  e : Int
def putS (lim : Int) (bs : List UInt8) (e : Int) (may : Bool) (f : List UInt8) : PutR :=
  if e ≠ 0 then ⟨bs, e⟩ else if may = false then ⟨bs, 3⟩ else if lim < (bs.length : Int) + f.length then ⟨bs, 4⟩ else ⟨bs ++ f, 0⟩

set_option maxRecDepth 100000 in
set_option maxHeartbeats 1000000 in
theorem put_err {w : World} {B p : Nat} {lim e : Int} {bs : List UInt8} {s v : Value} {L : List (List UInt8)} (may : Bool) (F : Wr w B p lim bs e s) (hP : PartsOf w v L) (hL : L.length ≤ 1000) (hS : L.flatten.length ≤ 1073741824) (he : e ≠ 0) :
    Calls Try.prog 91 #[.pointer (some ⟨p, 0, none⟩), .bool may, v] w fun e1 w' => e1 = .returned (.int .i64 e) ∧ WrTo w w' B p lim s bs e := by
  have hne : (e == 0) = false := by simpa using he
  have hne' : (e != 0) = true := by simpa using he
  have D := F.st
  have c := kb_cell D
  have HF := Lib.hid F
  clear F he
  go_enter Try.func91, Try.ntmps91
  go_wp2_with fail
  refine (Concat_any hP hL hS).mono ?_
  rintro e1 w1 ⟨v1, rfl, hN⟩
  have HN := Lib.hid hN
  have c1 := kb_cell (kb_below hN.2 D)
  clear c hN
  go_wp2_with fail
  go_ret
  exact ⟨rfl, WrTo.same HF.out HN.out.2⟩

set_option maxRecDepth 100000 in
set_option maxHeartbeats 1000000 in
theorem put_not {w : World} {B p : Nat} {lim : Int} {bs : List UInt8} {s v : Value} {L : List (List UInt8)} (F : Wr w B p lim bs 0 s) (hP : PartsOf w v L) (hL : L.length ≤ 1000) (hS : L.flatten.length ≤ 1073741824) :
    Calls Try.prog 91 #[.pointer (some ⟨p, 0, none⟩), .bool false, v] w fun e1 w' => e1 = .returned (.int .i64 3) ∧ WrTo w w' B p lim s bs 3 := by
  have D := F.st
  have c := kb_cell D
  have HF := Lib.hid F
  clear F
  go_enter Try.func91, Try.ntmps91
  go_wp2_with fail
  refine (Concat_any hP hL hS).mono ?_
  rintro e1 w1 ⟨v1, rfl, hN⟩
  have HN := Lib.hid hN
  have D1 := kb_below hN.2 D
  have c1 := kb_cell D1
  have z1 := kb_frozen D1
  clear c hN
  go_wp2_with fail
  go_ret
  have F1 := HF.out.below HN.out.2
  have hsp := own_ne F1.row D1 (by decide)
  have k1 : Keep (WrS p s) w (w1.setCell ⟨p, 2, none⟩ (.int .i64 3)) := (Keep.of_below HN.out.2).set (fun _ => .inl rfl) _
  exact ⟨rfl, s, ⟨kb_set D1 _, F1.row.kept (row := some p) ⟨rfl, rfl, rfl, by simp, fun b _ hb => Below.heap_setCell _ _ _ _ (fun e => hb (by rw [e]))⟩ (.inr hsp), F1.lp, F1.len, F1.l0, F1.l1⟩, k1, fun _ hb => .inl hb⟩

set_option maxRecDepth 100000 in
set_option maxHeartbeats 1000000 in
theorem put_long {w : World} {B p : Nat} {lim : Int} {bs : List UInt8} {s v : Value} {L : List (List UInt8)} (F : Wr w B p lim bs 0 s) (hP : PartsOf w v L) (hL : L.length ≤ 1000) (hS : L.flatten.length ≤ 1073741824) (hlong : lim < (bs.length : Int) + L.flatten.length) :
    Calls Try.prog 91 #[.pointer (some ⟨p, 0, none⟩), .bool true, v] w fun e1 w' => e1 = .returned (.int .i64 4) ∧ WrTo w w' B p lim s bs 4 := by
  have D := F.st
  have c := kb_cell D
  have hlen := F.len
  have hl1 := F.l1
  obtain ⟨A, cap, rfl⟩ := owns_slice0 F.row
  have HF := Lib.hid F
  have hw : IntKind.i64.wrap ((bs.length : Int) + (L.flatten.length : Int)) = (bs.length : Int) + (L.flatten.length : Int) := IntWalk.i64_in _ (by omega)
  have hd : decide (lim < (bs.length : Int) + (L.flatten.length : Int)) = true := decide_eq_true hlong
  clear F hlong
  go_enter Try.func91, Try.ntmps91
  go_wp2_with fail
  refine (Concat_any hP hL hS).mono ?_
  rintro e1 w1 ⟨v1, rfl, hN⟩
  obtain ⟨A1, cap1, rfl⟩ := owns_slice0 hN.1
  have HN := Lib.hid hN
  have D1 := kb_below hN.2 D
  have c1 := kb_cell D1
  have z1 := kb_frozen D1
  clear c hN
  generalize L.flatten.length = q at *
  go_wp2_with fail
  go_quiet (fail)
  go_wp2_with fail
  go_ret
  have F1 := HF.out.below HN.out.2
  have hsp := own_ne F1.row D1 (by decide)
  have k1 : Keep (WrS p (.slice A bs.length cap)) w ((w1.drewN nq).setCell ⟨p, 2, none⟩ (.int .i64 4)) := ((Keep.of_below HN.out.2).drewN nq).set (fun _ => .inl rfl) _
  exact ⟨rfl, _, ⟨kb_set (kb_drewN D1 nq) _, (owns_drewN F1.row nq).kept (row := some p) ⟨rfl, rfl, rfl, by simp, fun b _ hb => Below.heap_setCell _ _ _ _ (fun e => hb (by rw [e]))⟩ (.inr hsp), F1.lp, F1.len, F1.l0, F1.l1⟩, k1, fun _ hb => .inl hb⟩

set_option maxRecDepth 100000 in
set_option maxHeartbeats 2000000 in
theorem put_ok {w : World} {B p : Nat} {lim : Int} {bs : List UInt8} {s v : Value} {L : List (List UInt8)} (F : Wr w B p lim bs 0 s) (hP : PartsOf w v L) (hL : L.length ≤ 1000) (hS : L.flatten.length ≤ 1073741824) (hlong : (bs.length : Int) + L.flatten.length ≤ lim) :
    Calls Try.prog 91 #[.pointer (some ⟨p, 0, none⟩), .bool true, v] w fun e1 w' => e1 = .returned (.int .i64 0) ∧ WrTo w w' B p lim s (bs ++ L.flatten) 0 := by
  have HC := Concat_any hP hL hS
  obtain ⟨X, hX⟩ : ∃ X, L.flatten = X := ⟨_, rfl⟩
  rw [hX] at hlong HC ⊢
  have HCC := Lib.hid HC
  clear hS hP HC hX
  have D := F.st
  have c := kb_cell D
  have hlen := F.len
  have hl1 := F.l1
  obtain ⟨A, cap, rfl⟩ := owns_slice0 F.row
  have HF := Lib.hid F
  have hw : IntKind.i64.wrap ((bs.length : Int) + (X.length : Int)) = (bs.length : Int) + (X.length : Int) := IntWalk.i64_in _ (by omega)
  have hd : decide (lim < (bs.length : Int) + (X.length : Int)) = false := decide_eq_false (by omega)
  clear F
  go_enter Try.func91, Try.ntmps91
  go_wp2_with fail
  refine (HCC.out).mono ?_
  rintro e1 w1 ⟨v1, rfl, hN⟩
  obtain ⟨A1, cap1, rfl⟩ := owns_slice0 hN.1
  have HN := Lib.hid hN
  have D1 := kb_below hN.2 D
  have c1 := kb_cell D1
  have z1 := kb_frozen D1
  clear c hN
  go_wp2_with fail
  go_quiet (fail)
  have F1 := Lib.hid (HF.out.below HN.out.2)
  obtain ⟨i0, hi, hz0, hz1, hz2⟩ := info_parts infoU
  have HS := Lib.hid (RowOf.drewN HN.out.bytes nq)
  have HR := Lib.hid (owns_drewN F1.out.row nq)
  have hBw : B ≤ w1.heap.size := by have := F1.out.ltp; have := F1.out.lp; omega
  have hsum : bs.length + X.length ≤ 1048576 := by omega
  go_wp2_with (at_builtin; refine wpList_append_row _ rfl _ _ 58 rfl B 5 i0 (.int .u8 0) 1 Try.underlying58 hi hz0 hz1 hz2 rfl _ _ _ rfl HR.out _ _ _ rfl HS.out (u8s_one _) ?c3 ?c4 ?c5 ?_)
  case c3 => unfold maxLen; omega
  case c4 => omega
  case c5 => exact hBw
  intro v' w2 hown' hgrow _ hat
  rw [← u8s_append] at hown'
  obtain ⟨A2, cap2, hv'⟩ := owns_slice0 hown'
  subst hv'
  have hsp := own_ne F1.out.row D1 (by decide)
  have D2 : w2.heap[p]? = some _ := (hgrow.block p (by simp; have := F1.out.ltp; omega) (fun e => hsp e.symm)).trans (kb_drewN D1 nq)
  have c2 := kb_cell D2
  have z2 := kb_frozen D2
  have HO := Lib.hid hown'
  have HG := Lib.hid hgrow
  clear c1 z1 hown' hgrow
  go_wp2_with fail
  go_ret
  have hsp2 := own_ne HO.out D2 (by decide)
  have F1' := F1.out
  have k1 : Keep (WrS p (.slice A bs.length cap)) w (w2.setCell ⟨p, 1, none⟩ (.slice A2 (bs.length + X.length) cap2)) := (((Keep.of_below HN.out.2).drewN nq).grown HG.out (fun b _ hb => .inr hb)).set (fun _ => .inl rfl) _
  have hr2 : (w2.setCell ⟨p, 1, none⟩ (.slice A2 (bs.length + X.length) cap2)).ownsRow B 5 1 (.slice A2 (bs.length + X.length) cap2) (bs.length + X.length) (u8s (bs ++ X)) :=
    HO.out.kept (row := some p) ⟨rfl, rfl, rfl, by simp, fun b _ hb => Below.heap_setCell _ _ _ _ (fun e => hb (by rw [e]))⟩ (.inr hsp2)
  refine ⟨rfl, .slice A2 (bs.length + X.length) cap2, ⟨kb_set D2 _, by rw [List.length_append]; exact hr2, F1'.lp, by rw [List.length_append]; exact hsum, F1'.l0, F1'.l1⟩, k1, ?_⟩
  intro b hb
  rcases hat with e | e
  · exact .inl (e ▸ hb)
  · rw [e] at hb
    injection hb with hb
    exact .inr (by have h1 := HN.out.2.size; have h2 : (w1.drewN nq).heap.size = w1.heap.size := by simp
                   omega)

theorem put_any {w : World} {B p : Nat} {lim e : Int} {bs : List UInt8} {s v : Value} {L : List (List UInt8)} (may : Bool) (F : Wr w B p lim bs e s) (hP : PartsOf w v L) (hL : L.length ≤ 1000) (hS : L.flatten.length ≤ 1073741824) :
    Calls Try.prog 91 #[.pointer (some ⟨p, 0, none⟩), .bool may, v] w fun e1 w' => e1 = .returned (.int .i64 (putS lim bs e may L.flatten).e) ∧ WrTo w w' B p lim s (putS lim bs e may L.flatten).bs (putS lim bs e may L.flatten).e := by
  unfold putS
  by_cases he : e = 0
  · subst he
    rw [if_neg (by simp)]
    cases may
    · rw [if_pos rfl]; exact put_not F hP hL hS
    · rw [if_neg (by simp)]
      by_cases hl : lim < (bs.length : Int) + L.flatten.length
      · rw [if_pos hl]; exact put_long F hP hL hS hl
      · rw [if_neg hl]; exact put_ok F hP hL hS (by omega)
  · rw [if_pos he]; exact put_err may F hP hL hS he

theorem parts1 {w : World} {v : Value} {l : List UInt8} (h : BytesOf w v l) : PartsOf (w.alloc (.cells #[v] 58)) (.slice (some ⟨w.heap.size, 0, none⟩) 1 1) [l] := by
  have hb : (w.alloc (.cells #[v] 58)).heap[w.heap.size]? = some _ := kb_new rfl _
  refine ⟨w.heap.size, 0, 1, rfl, by simp, fun j l' hl => ?_⟩
  match j, hl with
  | 0, hl => cases hl; exact ⟨v, by rw [kb_cell hb]; rfl, h.alloc _⟩
theorem parts2 {w : World} {v v' : Value} {l l' : List UInt8} (h : BytesOf w v l) (h' : BytesOf w v' l') : PartsOf (w.alloc (.cells #[v, v'] 58)) (.slice (some ⟨w.heap.size, 0, none⟩) 2 2) [l, l'] := by
  have hb : (w.alloc (.cells #[v, v'] 58)).heap[w.heap.size]? = some _ := kb_new rfl _
  refine ⟨w.heap.size, 0, 2, rfl, by simp, fun j x hl => ?_⟩
  match j, hl with
  | 0, hl => cases hl; exact ⟨v, by rw [kb_cell hb]; rfl, h.alloc _⟩
  | 1, hl => cases hl; exact ⟨v', by rw [kb_cell hb]; rfl, h'.alloc _⟩

/-- What a writer's method answers: the form f, if it may be. -/
def Puts (w : World) (B p : Nat) (lim e : Int) (bs : List UInt8) (s : Value) (may : Bool) (f : List UInt8) (e1 : Ending) (w' : World) : Prop :=
  e1 = .returned (.int .i64 (putS lim bs e may f).e) ∧ WrTo w w' B p lim s (putS lim bs e may f).bs (putS lim bs e may f).e
theorem puts1 {w w0 : World} {B p : Nat} {lim e : Int} {bs : List UInt8} {s v : Value} {l : List UInt8} (may : Bool) (F : Wr w0 B p lim bs e s) (hb : Below w0.heap.size w0 w) (hB : BytesOf w v l) (hl : l.length ≤ 1073741824) :
    Calls Try.prog 91 #[.pointer (some ⟨p, 0, none⟩), .bool may, .slice (some ⟨w.heap.size, 0, none⟩) 1 1] (w.alloc (.cells #[v] 58)) (Puts w0 B p lim e bs s may l) := by
  have h := put_any may ((F.below hb).below (bl_alloc (Below.refl _ w) (.cells #[v] 58))) (parts1 hB) (by simp) (by simpa using hl)
  simp only [List.flatten_cons, List.flatten_nil, List.append_nil] at h
  exact h.mono fun e1 w' ⟨h1, h2⟩ => ⟨h1, WrTo.after (bl_alloc hb _) h2⟩
theorem puts2 {w w0 : World} {B p : Nat} {lim e : Int} {bs : List UInt8} {s v v' : Value} {l l' : List UInt8} (may : Bool) (F : Wr w0 B p lim bs e s) (hb : Below w0.heap.size w0 w) (hB : BytesOf w v l) (hB' : BytesOf w v' l') (hl : l.length + l'.length ≤ 1073741824) :
    Calls Try.prog 91 #[.pointer (some ⟨p, 0, none⟩), .bool may, .slice (some ⟨w.heap.size, 0, none⟩) 2 2] (w.alloc (.cells #[v, v'] 58)) (Puts w0 B p lim e bs s may (l ++ l')) := by
  have h := put_any may ((F.below hb).below (bl_alloc (Below.refl _ w) (.cells #[v, v'] 58))) (parts2 hB hB') (by simp) (by simpa using hl)
  simp only [List.flatten_cons, List.flatten_nil, List.append_nil] at h
  exact h.mono fun e1 w' ⟨h1, h2⟩ => ⟨h1, WrTo.after (bl_alloc hb _) h2⟩
end Go.Proofs.Ytooghjnddifpdaa
