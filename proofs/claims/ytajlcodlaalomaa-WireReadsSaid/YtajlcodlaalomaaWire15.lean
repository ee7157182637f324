/- The walks of package wire: Word, Bool, Bytes, Text of a reader. -/
import Derived.Test.YtajlcodlaalomaaWire14
namespace Go.Proofs.Ytajlcodlaalomaa
open Go.RowKit Go.Proofs.Ytajlcodlaalomaa.Wi Go.Proofs.Ytajlcodlaalomaa.Pc
attribute [local go_sem] cell_alloc_some frozen_alloc_some
set_option linter.unusedSimpArgs false
set_option linter.unusedVariables false

/-- A variable that holds the reader's address. -/
def BoxR (w : World) (b p : Nat) : Prop := w.heap[b]? = some (.cells #[.pointer (some ⟨p, 0, none⟩)] 48 (0, 0))
theorem word1_any {w : World} {B p b : Nat} {s : Value} {xs : List UInt8} {a : Nat} (F : Rd w B p s xs a 0 0) (hb : BoxR w b p) :
    Calls Try.prog 92 (#[] ++ #[.int .i64 a] ++ #[.pointer (some ⟨b, 0, none⟩)]) w (Takes w B p s xs (takeP xs 8 a a bigL) fun x _ u => u = .int .u64 (x : Int)) := by
  have cb := kb_cell hb 0
  simp at cb
  have H := take8_any 8 a (by omega) F
  revert H
  generalize takeP xs 8 a a bigL = r
  intro H
  have HH := Lib.hid H
  clear F H hb
  cases r with
  | ok v a' =>
    go_enter Try.func92, Try.ntmps92
    go_wp2_with fail
    refine HH.out.mono ?_
    rintro e w' ⟨u, rfl, rfl, hR⟩
    have HR := Lib.hid hR
    clear hR
    go_wp2_with fail
    go_ret
    exact ⟨_, rfl, rfl, HR.out⟩
  | bad er f =>
    go_enter Try.func92, Try.ntmps92
    go_wp2_with fail
    refine HH.out.mono ?_
    rintro e w' ⟨rfl, hR⟩
    exact ⟨rfl, rfl, hR⟩

theorem bool1_any {w : World} {B p b : Nat} {s : Value} {xs : List UInt8} {a : Nat} (F : Rd w B p s xs a 0 0) (hb : BoxR w b p) :
    Calls Try.prog 64 (#[] ++ #[.int .i64 a] ++ #[.pointer (some ⟨b, 0, none⟩)]) w (Takes w B p s xs (boolP xs a) fun x _ u => u = .bool x) := by
  have cb := kb_cell hb 0
  simp at cb
  have H := take8_any 1 a (by omega) F
  unfold boolP
  revert H
  generalize takeP xs 1 a a bigL = r
  intro H
  have HH := Lib.hid H
  clear F H hb
  cases r with
  | ok v a' =>
    by_cases h1 : v ≤ 1
    · simp only [if_pos h1]
      have hd : decide ((v : Int) ≤ 1) = true := decide_eq_true (by omega)
      have he : ((v : Int) == 1) = (v == 1) := by rcases (show v = 0 ∨ v = 1 by omega) with rfl | rfl <;> rfl
      go_enter Try.func64, Try.ntmps64
      go_wp2_with fail
      refine HH.out.mono ?_
      rintro e w' ⟨u, rfl, rfl, hR⟩
      have HR := Lib.hid hR
      clear hR
      go_wp2_with fail
      refine (must_yes _ _ _).mono ?_
      rintro e w'' ⟨rfl, rfl⟩
      go_wp2_with fail
      go_ret
      exact ⟨_, rfl, rfl, HR.out⟩
    · simp only [if_neg h1]
      have hd : decide ((v : Int) ≤ 1) = false := decide_eq_false (by omega)
      go_enter Try.func64, Try.ntmps64
      go_wp2_with fail
      refine HH.out.mono ?_
      rintro e w' ⟨u, rfl, rfl, hR⟩
      have HR := Lib.hid hR
      clear hR
      go_wp2_with fail
      refine (must_no _ _ _).mono ?_
      rintro e w'' ⟨rfl, rfl⟩
      exact ⟨rfl, rfl, _, HR.out⟩
  | bad er f =>
    go_enter Try.func64, Try.ntmps64
    go_wp2_with fail
    refine HH.out.mono ?_
    rintro e w' ⟨rfl, hR⟩
    exact ⟨rfl, rfl, hR⟩

theorem numP_le {xs a n a'} (h : numP xs a = .ok n a') : n ≤ 9223372036854775807 := by
  unfold numP at h
  repeat' split at h
  all_goals first | (injection h; done) | (injection h; omega)

theorem bytes1_any {w : World} {B p b b3 : Nat} {s : Value} {xs : List UInt8} {a : Nat} (most : Int) (F : Rd w B p s xs a 0 0) (hb : BoxR w b p) (h3 : w.heap[b3]? = some (.cells #[.int .i64 most] 3 (0, 0))) (hbp : b ≠ p) (hbp3 : b3 ≠ p) :
    Calls Try.prog 81 (#[] ++ #[.int .i64 a] ++ #[.pointer (some ⟨b, 0, none⟩), .pointer (some ⟨b3, 0, none⟩)]) w (Takes w B p s xs (bytesP xs most a) fun l w' u => w'.ownsRow w.heap.size 5 1 u l.length (u8s l)) := by
  have cb := kb_cell hb 0
  have c3 := kb_cell h3 0
  simp at cb c3
  have H := num_any F
  unfold bytesP
  revert H
  generalize hr : numP xs a = r
  intro H
  have HH := Lib.hid H
  have HB := Lib.hid hb
  have H3 := Lib.hid h3
  clear F H hb h3
  cases r with
  | ok v a' =>
    have hv := numP_le hr
    clear hr
    by_cases h1 : (v : Int) ≤ max most 0
    · simp only [if_pos h1]
      have hd : decide ((v : Int) ≤ max most 0) = true := decide_eq_true h1
      have Ht : ∀ w1, Rd w1 B p s xs a' 0 0 → _ := fun w1 F1 => takeB_any (w := w1) v a (by omega) F1
      revert Ht
      generalize takeP xs v a' a id = r2
      intro Ht
      have HT := Lib.hid Ht
      clear Ht
      go_enter Try.func81, Try.ntmps81
      go_wp2_with fail
      refine HH.out.mono ?_
      rintro e w1 ⟨u, rfl, rfl, hR⟩
      have HR := Lib.hid hR
      have d3 := kb_cell (hR.2.kb H3.out hbp3) 0
      have db := kb_cell (hR.2.kb HB.out hbp) 0
      simp at d3 db
      clear hR
      go_wp2_with fail
      refine (must_yes _ _ _).mono ?_
      rintro e w'' ⟨rfl, rfl⟩
      go_wp2_with fail
      refine (HT.out _ HR.out.1).mono ?_
      intro e w2 h2
      cases r2 with
      | ok l a2 =>
        obtain ⟨u, rfl, hu, hR2⟩ := h2
        have H2 := Lib.hid hR2
        have HU := Lib.hid hu
        clear hR2 hu
        go_wp2_with fail
        go_ret
        exact ⟨_, rfl, owns_mono HU.out HR.out.2.size, H2.out.1, HR.out.2.trans H2.out.2 fun _ _ h => h⟩
      | bad er f =>
        obtain ⟨rfl, a2, hR2⟩ := h2
        exact ⟨rfl, rfl, a2, hR2.1, HR.out.2.trans hR2.2 fun _ _ h => h⟩
    · simp only [if_neg h1]
      have hd : decide ((v : Int) ≤ max most 0) = false := decide_eq_false h1
      go_enter Try.func81, Try.ntmps81
      go_wp2_with fail
      refine HH.out.mono ?_
      rintro e w1 ⟨u, rfl, rfl, hR⟩
      have HR := Lib.hid hR
      have d3 := kb_cell (hR.2.kb H3.out hbp3) 0
      have db := kb_cell (hR.2.kb HB.out hbp) 0
      simp at d3 db
      clear hR
      go_wp2_with fail
      refine (must_no _ _ _).mono ?_
      rintro e w'' ⟨rfl, rfl⟩
      exact ⟨rfl, rfl, _, HR.out⟩
  | bad er f =>
    go_enter Try.func81, Try.ntmps81
    go_wp2_with fail
    refine HH.out.mono ?_
    rintro e w' ⟨rfl, hR⟩
    exact ⟨rfl, rfl, hR⟩
end Go.Proofs.Ytajlcodlaalomaa
