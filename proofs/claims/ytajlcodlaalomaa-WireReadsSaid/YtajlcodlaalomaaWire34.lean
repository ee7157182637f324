/- The document's reader: NewReader, Rest, End, Num. -/
import Derived.Test.YtajlcodlaalomaaWire33
namespace Go.Proofs.Ytajlcodlaalomaa
open Go.RowKit Go.Proofs.Ytajlcodlaalomaa.Wi Go.Proofs.Ytajlcodlaalomaa.Pc
attribute [local go_sem] cell_alloc_some frozen_alloc_some
set_option linter.unusedSimpArgs false
set_option linter.unusedVariables false

theorem rTake_any {w : World} {B p : Nat} {s : Value} {xs : List UInt8} {st : St} (n f : Nat) (h63 : n < 9223372036854775808) (F : RRdO w B p s xs st) :
    Calls Try.prog 105 #[.pointer (some ⟨p, 0, none⟩), .int .i64 n, .int .i64 f] w (RDid w B p s xs (step (fun a => takeP xs n a f id) [] st) fun l w' u => w'.ownsRow w.heap.size 5 1 u l.length (u8s l)) := by
  cases st with
  | «at» a =>
    by_cases h : a + n ≤ xs.length
    · have hs : takeP xs n a f id = .ok ((xs.drop a).take n) (a + n) := by unfold takeP; rw [if_pos h]; rfl
      have hl : ((xs.drop a).take n).length = n := by rw [List.length_take, List.length_drop]; omega
      rw [step_ok hs]
      refine (rTake_ok n f F h).mono fun x w' hP => ?_
      obtain ⟨v, rfl, h1, h2, h3⟩ := hP
      exact ⟨v, rfl, by show w'.ownsRow _ _ 1 v ((xs.drop a).take n).length _; rw [hl]; exact h1, h2, h3⟩
    · have hs : takeP xs n a f (id : List UInt8 → List UInt8) = .bad 6 f := by unfold takeP; rw [if_neg h]
      rw [step_bad hs]
      refine (rTake_short n f F (by omega) h63).mono fun x w' hP => ?_
      obtain ⟨rfl, h2, h3⟩ := hP
      exact ⟨_, rfl, World.ownsRow_nil _ _ _ _, ⟨by omega, a, h2⟩, h3⟩
  | bad er fr =>
    obtain ⟨he, a, hF⟩ := F
    refine (rTake_bad n f hF he).mono fun x w' hP => ?_
    obtain ⟨rfl, rfl⟩ := hP
    exact ⟨_, rfl, World.ownsRow_nil _ _ _ _, ⟨he, a, hF⟩, Keep.refl _ _⟩
theorem own_cells {w : World} {B n : Nat} {v : Value} {l : List UInt8} (h : w.ownsRow B 5 1 v n (u8s l)) (h0 : 0 < n) : ∃ g cap, v = .slice (some ⟨g, 0, none⟩) n cap ∧ B ≤ g ∧ g < w.heap.size ∧ ∀ (j : Nat) c, l[j]? = some c → w.cell? ⟨g, j, none⟩ = some (u8v c) := by
  obtain ⟨A, cap, e, hl, hc⟩ := RowOf.of_own h
  rcases h.2 with ⟨rfl, e0⟩ | ⟨g, cap', cur, rfl, hB, _⟩
  · exact absurd e0 (by omega)
  · obtain ⟨b, off, e1, hb, hcc⟩ := hc h0
    simp only [Value.slice.injEq] at e
    obtain ⟨eA, _, rfl⟩ := e
    rw [← eA] at e1
    simp only [Option.some.injEq, Addr.mk.injEq] at e1
    obtain ⟨rfl, rfl, _⟩ := e1
    refine ⟨g, cap', rfl, hB, hb, fun j c hj => ?_⟩
    have hjl : j < l.length := (List.getElem?_eq_some_iff.1 hj).1
    have e2 : l[j] = c := by rw [List.getElem?_eq_getElem hjl] at hj; simpa using hj
    have := hcc j _ (u8s_get l j hjl)
    rwa [Nat.zero_add, e2] at this
theorem rNew_any {w : World} {v : Value} {l : List UInt8} (h : BytesOf w v l) (hl : l.length ≤ 2097152) :
    Calls Try.prog 29 #[v] w fun e w' => ∃ p s, e = .returned (.pointer (some ⟨p, 0, none⟩)) ∧ RRdO w' w.heap.size p s l (.at 0) ∧ Below w.heap.size w w' := by
  obtain ⟨A, cap, rfl⟩ := h.form
  obtain ⟨i0, hi, hz0, hz1, hz2⟩ := info_parts infoU
  have H1 := Lib.hid (lit0 w (B := w.heap.size) (Nat.le_refl _))
  have HS := Lib.hid (h.alloc (.cells #[] 5))
  clear h
  go_enter Try.func29, Try.ntmps29
  go_wp2_with (at_builtin; refine wpList_append_row _ rfl _ _ 32 rfl w.heap.size 5 i0 (.int .u8 0) 1 Try.underlying32 hi hz0 hz1 hz2 rfl _ _ _ rfl (H1.out) _ _ _ rfl (HS.out) (u8s_one _) ?c3 ?c4 ?c5 ?_)
  case c3 => unfold maxLen; omega
  case c4 => omega
  case c5 => simp
  intro v' w2 hown' hgrow _ _
  have b0 : Below w.heap.size w (w.alloc (.cells #[] 5)) := by (repeat (with_reducible (first | exact Below.refl _ _ | assumption | refine bl_alloc ?_ _ | refine bl_drew ?_ | refine bl_drewN ?_ _ | (refine bl_set ?_ ?_ _; (focus (first | (simp; done) | (simp; omega) | omega))) | refine bl_then ?_ (by assumption))))
  have b2 : Below w.heap.size w w2 := b0.grown hgrow (by simp) (fun j hj => by simp [Value.ownBlock] at hj; omega)
  obtain ⟨A2, cap2, hv'⟩ := owns_slice0 hown'
  subst hv'
  have HO := Lib.hid hown'
  have HB := Lib.hid b2
  clear hgrow hown' b0 b2
  go_wp2_with fail
  go_ret
  refine ⟨_, _, rfl, ⟨kb_new rfl _, ?_, HB.out.size, hl, Nat.zero_le _⟩, bl_alloc HB.out _⟩
  have h1 := (Keep.of_below (S := fun _ => False) (bl_alloc (Below.refl _ w2) (.cells #[.slice A2 l.length cap2, .int .i64 0, .int .i64 0, .int .i64 0] 104))).row HO.out (fun _ _ x => x)
  simpa using h1
theorem rRest_any {w : World} {B p : Nat} {s : Value} {xs : List UInt8} {st : St} (F : RRdO w B p s xs st) :
    Calls Try.prog 31 #[.pointer (some ⟨p, 0, none⟩)] w fun e w' => e = .returned (.int .i64 (restS xs st : Int)) ∧ Below w.heap.size w w' := by
  cases st with
  | «at» a =>
    have F' : RRd w B p s xs a 0 0 := F
    obtain ⟨A, cap, rfl⟩ := (RowOf.of_own F'.row).form
    have c := kb_cell F'.st
    have c0 := c 0
    have c1 := c 1
    simp at c0 c1
    have hw : IntKind.i64.wrap ((xs.length : Int) - (a : Int)) = (xs.length : Int) - (a : Int) := IntWalk.i64_in _ (by have := F'.len; have := F'.le; omega)
    have he : ((restS xs (.at a) : Nat) : Int) = (xs.length : Int) - (a : Int) := by have := F'.le; simp only [restS]; omega
    rw [he]
    clear F F'
    go_enter Try.func31, Try.ntmps31
    go_wp2
    go_region
    go_wp2
    go_ret
    exact ⟨rfl, by (repeat (with_reducible (first | exact Below.refl _ _ | assumption | refine bl_alloc ?_ _ | refine bl_drew ?_ | refine bl_drewN ?_ _ | (refine bl_set ?_ ?_ _; (focus (first | (simp; done) | (simp; omega) | omega))) | refine bl_then ?_ (by assumption))))⟩
  | bad er f =>
    obtain ⟨he, a, hF⟩ := F
    have c := kb_cell hF.st
    have hne : ((er : Int) != 0) = true := by simpa using he
    have hne' : (er != 0) = true := by simpa using he
    clear hF
    go_enter Try.func31, Try.ntmps31
    go_wp2
    go_ret
    exact ⟨rfl, Below.refl _ _⟩
theorem rEnd_any {w : World} {B p : Nat} {s : Value} {xs : List UInt8} {st : St} (F : RRdO w B p s xs st) :
    Calls Try.prog 33 #[.pointer (some ⟨p, 0, none⟩)] w fun e w' => e = .returned (.agg #[.int .i64 ((endS xs st).1 : Int), .int .i64 ((endS xs st).2 : Int)]) ∧ Below w.heap.size w w' := by
  cases st with
  | «at» a =>
    have F' : RRd w B p s xs a 0 0 := F
    obtain ⟨A, cap, rfl⟩ := (RowOf.of_own F'.row).form
    have c := kb_cell F'.st
    have c0 := c 0
    have c1 := c 1
    have c2 := c 2
    simp at c0 c1 c2
    have hlt := kb_lt F'.st
    by_cases h : a < xs.length
    · have hd : decide ((a : Int) < (xs.length : Int)) = true := decide_eq_true (by omega)
      simp only [endS, if_pos h]
      clear F F'
      go_enter Try.func33, Try.ntmps33
      go_wp2
      go_region
      go_wp2
      exact bodyPost_ret (results_cell_row rfl _ _ w.heap.size 60 _ (0, 0) _ rfl (kb_drew (kb_new rfl _)) Try.underlying60 rfl (by kernel_rfl)) rfl ⟨rfl, by (repeat (with_reducible (first | exact Below.refl _ _ | assumption | refine bl_alloc ?_ _ | refine bl_drew ?_ | refine bl_drewN ?_ _ | (refine bl_set ?_ ?_ _; (focus (first | (simp; done) | (simp; omega) | omega))) | refine bl_then ?_ (by assumption))))⟩
    · have hd : decide ((a : Int) < (xs.length : Int)) = false := decide_eq_false (by omega)
      simp only [endS, if_neg h]
      clear F F'
      go_enter Try.func33, Try.ntmps33
      go_wp2
      go_region
      go_wp2
      exact bodyPost_ret (results_cell_row rfl _ _ w.heap.size 60 _ (0, 0) _ rfl (kb_drew (kb_new rfl _)) Try.underlying60 rfl (by kernel_rfl)) rfl ⟨rfl, by (repeat (with_reducible (first | exact Below.refl _ _ | assumption | refine bl_alloc ?_ _ | refine bl_drew ?_ | refine bl_drewN ?_ _ | (refine bl_set ?_ ?_ _; (focus (first | (simp; done) | (simp; omega) | omega))) | refine bl_then ?_ (by assumption))))⟩
  | bad er f =>
    obtain ⟨he, a, hF⟩ := F
    have c := kb_cell hF.st
    have c2 := c 2
    simp at c2
    have hlt := kb_lt hF.st
    have hne : ((er : Int) == 0) = false := by simpa using he
    have hne' : (er == 0) = false := by simpa using he
    simp only [endS]
    clear hF
    go_enter Try.func33, Try.ntmps33
    go_wp2
    go_region
    go_wp2
    exact bodyPost_ret (results_cell_row rfl _ _ w.heap.size 60 _ (0, 0) _ rfl (kb_drew (kb_new rfl _)) Try.underlying60 rfl (by kernel_rfl)) rfl ⟨rfl, by (repeat (with_reducible (first | exact Below.refl _ _ | assumption | refine bl_alloc ?_ _ | refine bl_drew ?_ | refine bl_drewN ?_ _ | (refine bl_set ?_ ?_ _; (focus (first | (simp; done) | (simp; omega) | omega))) | refine bl_then ?_ (by assumption))))⟩
end Go.Proofs.Ytajlcodlaalomaa
