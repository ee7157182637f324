/- The walks of package wire: a number is read. -/
import Derived.Test.YtajlcodlaalomaaWire10
namespace Go.Proofs.Ytajlcodlaalomaa
open Go.RowKit Go.Proofs.Ytajlcodlaalomaa.Wi Go.Proofs.Ytajlcodlaalomaa.Pc
attribute [local go_sem] cell_alloc_some frozen_alloc_some
set_option linter.unusedSimpArgs false
set_option linter.unusedVariables false

def kAt (xs : List UInt8) (a : Nat) : Nat := bigL ((xs.drop a).take 1)
def nAt (xs : List UInt8) (a k : Nat) : List UInt8 := (xs.drop (a + 1)).take k
def fb : List UInt8 → UInt8 | c :: _ => c | [] => 1
def zAt (xs : List UInt8) (a k : Nat) : Bool := fb (nAt xs a k) == 0
def numP (xs : List UInt8) (a : Nat) : Rs Nat :=
  if xs.length < a + 1 then .bad 6 a
  else if 8 < kAt xs a then .bad 5 a
  else if xs.length < a + 1 + kAt xs a then .bad 6 a
  else if zAt xs a (kAt xs a) = true ∨ 9223372036854775807 < bigL (nAt xs a (kAt xs a)) then .bad 5 a
  else .ok (bigL (nAt xs a (kAt xs a))) (a + 1 + kAt xs a)

theorem kAt_lt (xs : List UInt8) (a : Nat) : kAt xs a < 256 := by
  unfold kAt
  have := bigL_lt ((xs.drop a).take 1) ((xs.drop a).take 1).length (Nat.le_refl _)
  rw [List.take_length] at this
  exact Nat.lt_of_lt_of_le this (Nat.le_trans (Nat.pow_le_pow_right (by omega) (show _ ≤ 1 by rw [List.length_take]; omega)) (by omega))

theorem num_short {w : World} {B p : Nat} {s : Value} {xs : List UInt8} {a : Nat} (F : Rd w B p s xs a 0 0) (h : xs.length < a + 1) :
    Calls Try.prog 62 #[.pointer (some ⟨p, 0, none⟩), .int .i64 a] w fun e w' => e = .panicked [{ v := wrongV 6 a, recovered := false }] ∧ Below w.heap.size w w' := by
  have HF := Lib.hid F
  clear F
  go_enter Try.func62, Try.ntmps62
  go_wp2_with fail
  refine (take8_short 1 a _ HF.out h (by omega)).mono ?_
  rintro e1 w1 ⟨rfl, hb⟩
  exact ⟨rfl, rfl, hb⟩

theorem num_big {w : World} {B p : Nat} {s : Value} {xs : List UInt8} {a : Nat} (F : Rd w B p s xs a 0 0) (h : a + 1 ≤ xs.length) (h8 : 8 < kAt xs a) :
    Calls Try.prog 62 #[.pointer (some ⟨p, 0, none⟩), .int .i64 a] w fun e w' => e = .panicked [{ v := wrongV 5 a, recovered := false }] ∧ ∃ a', RdTo (fun b => b = p) w w' B p s xs a' := by
  have HF := Lib.hid F
  have hk := kAt_lt xs a
  have hd : decide ((kAt xs a : Int) ≤ 8) = false := decide_eq_false (by omega)
  clear F
  go_enter Try.func62, Try.ntmps62
  go_wp2_with fail
  refine (take8_ok 1 a _ _ HF.out h (makes_big (by omega))).mono ?_
  rintro e1 w1 ⟨_, rfl, rfl, hR⟩
  have HR := Lib.hid hR
  clear hR
  rw [show bigL ((xs.drop a).take 1) = kAt xs a from rfl]
  generalize kAt xs a = k at *
  go_wp2_with fail
  refine (must_no _ _ _).mono ?_
  rintro e2 w2 ⟨rfl, rfl⟩
  exact ⟨rfl, rfl, _, HR.out.1.below (by (repeat (with_reducible (first | exact Below.refl _ _ | assumption | refine bl_alloc ?_ _ | refine bl_drew ?_ | refine bl_drewN ?_ _ | (refine bl_set ?_ ?_ _; (focus (first | (simp; done) | (simp; omega) | omega))) | refine bl_then ?_ (by assumption))))), HR.out.2.then_below (by (repeat (with_reducible (first | exact Below.refl _ _ | assumption | refine bl_alloc ?_ _ | refine bl_drew ?_ | refine bl_drewN ?_ _ | (refine bl_set ?_ ?_ _; (focus (first | (simp; done) | (simp; omega) | omega))) | refine bl_then ?_ (by assumption)))))⟩

set_option maxHeartbeats 1000000 in
theorem num1_any {w : World} {v : Value} {l : List UInt8} {b5 b6 : Nat} (hB : BytesOf w v l) (hl : l.length ≤ 8) (hv : v.ownBlock ≠ some b6) (h5 : w.heap[b5]? = some (.cells #[.int .i64 l.length] 3 (0, 0))) (h6 : w.heap[b6]? = some (.cells #[.int .u8 1] 5 (0, 0))) :
    Calls Try.prog 103 #[v, .pointer (some ⟨b5, 0, none⟩), .pointer (some ⟨b6, 0, none⟩)] w fun e w' => e = .returned (.int .u64 (bigL l : Int)) ∧ w'.heap[b6]? = some (.cells #[u8v (fb l)] 5 (0, 0)) ∧ Keep (fun b => b = b6) w w' := by
  have c5 := kb_cell h5 0
  simp at c5
  have H6 := Lib.hid h6
  have HB := Lib.hid hB
  have hBk : ∀ x, BytesOf (w.setCell ⟨b6, 0, none⟩ (u8v x)) v l := fun x => hB.keep ((Keep.refl (fun b => b = b6) w).set (p := ⟨b6, 0, none⟩) (fun _ => rfl) _) (fun b e h => hv (by rw [e, h]))
  obtain ⟨A, c, rfl⟩ := hB.form
  rcases hE : l with _ | ⟨x, r⟩
  · subst hE
    clear h6 hB hBk hv
    simp at c5
    go_enter Try.func103, Try.ntmps103
    go_wp2_with fail
    refine (big_any HB.out hl).mono ?_
    rintro e w' ⟨rfl, rfl⟩
    go_wp2_with fail
    go_ret
    exact ⟨rfl, H6.out, Keep.refl _ _⟩
  · have hp0 : 0 < l.length := by rw [hE]; simp
    have hpos : (0 : Int) < ((l.length : Nat) : Int) := by omega
    have hx : l[0] = x := by simp [hE]
    have z6 := kb_frozen h6
    have c6 := kb_cell h6 0
    simp at c6
    obtain ⟨A', c', e', _, hc⟩ := hB
    obtain ⟨b, off, rfl, hbl, hcc⟩ := hc hp0
    simp only [Value.slice.injEq] at e'
    obtain ⟨rfl, _, rfl⟩ := e'
    have c0 := hcc 0 _ (u8s_get l 0 hp0)
    rw [hx, Nat.add_zero] at c0
    have hK : Keep (fun b => b = b6) w (w.setCell ⟨b6, 0, none⟩ (u8v x)) := (Keep.refl (fun b => b = b6) w).set (p := ⟨b6, 0, none⟩) (fun _ => rfl) _
    have h6' : (w.setCell ⟨b6, 0, none⟩ (u8v x)).heap[b6]? = some (.cells #[u8v x] 5 (0, 0)) := by have := kb_set h6 (i := 0) (u8v x); simpa using this
    have hB2 := hBk x
    rw [← hE]
    have H2 := Lib.hid hB2
    clear hBk hv
    have HK := Lib.hid hK
    have HX := Lib.hid h6'
    unfold u8v at c0
    clear hB2 hK h6' h6 hcc hc
    have HE := Lib.hid hE
    clear hx hp0 hE
    have hil : (0 : Int) < (l.length : Int) := hpos
    go_enter Try.func103, Try.ntmps103
    go_wp2_with fail
    refine (big_any H2.out (by omega)).mono ?_
    rintro e w' ⟨rfl, rfl⟩
    go_wp2_with fail
    go_ret
    exact ⟨rfl, by rw [HE.out]; exact HX.out, HK.out⟩

theorem num_short2 {w : World} {B p : Nat} {s : Value} {xs : List UInt8} {a : Nat} (F : Rd w B p s xs a 0 0) (h : a + 1 ≤ xs.length) (h8 : kAt xs a ≤ 8) (h2 : xs.length < a + 1 + kAt xs a) :
    Calls Try.prog 62 #[.pointer (some ⟨p, 0, none⟩), .int .i64 a] w fun e w' => e = .panicked [{ v := wrongV 6 a, recovered := false }] ∧ ∃ a', RdTo (fun b => b = p) w w' B p s xs a' := by
  have HF := Lib.hid F
  have hmf : ∀ (fn : Fn) (first cap : Array Value) (w : World), (Instr.makeFunc fn first cap).run Try.prog w = .ok (.func fn first cap) w := fun _ _ _ _ => rfl
  have hd : decide ((kAt xs a : Int) ≤ 8) = true := decide_eq_true (by omega)
  clear F
  go_enter Try.func62, Try.ntmps62
  go_wp2_with fail
  refine (take8_ok 1 a _ _ HF.out h (makes_big (by omega))).mono ?_
  rintro e1 w1 ⟨_, rfl, rfl, hR⟩
  have HR := Lib.hid hR
  clear hR
  rw [show bigL ((xs.drop a).take 1) = kAt xs a from rfl]
  generalize kAt xs a = k at *
  go_wp2_with fail
  refine (must_yes _ _ _).mono ?_
  rintro e2 w2 ⟨rfl, rfl⟩
  go_wp2_with fail
  refine (take8_short k a _ (HR.out.1.below (by (repeat (with_reducible (first | exact Below.refl _ _ | assumption | refine bl_alloc ?_ _ | refine bl_drew ?_ | refine bl_drewN ?_ _ | (refine bl_set ?_ ?_ _; (focus (first | (simp; done) | (simp; omega) | omega))) | refine bl_then ?_ (by assumption)))))) h2 (by omega)).mono ?_
  rintro e3 w3 ⟨rfl, hb⟩
  exact ⟨rfl, rfl, _, HR.out.1.below (by (repeat (with_reducible (first | exact Below.refl _ _ | assumption | refine bl_alloc ?_ _ | refine bl_drew ?_ | refine bl_drewN ?_ _ | (refine bl_set ?_ ?_ _; (focus (first | (simp; done) | (simp; omega) | omega))) | refine bl_then ?_ (by assumption))))), HR.out.2.then_below (by (repeat (with_reducible (first | exact Below.refl _ _ | assumption | refine bl_alloc ?_ _ | refine bl_drew ?_ | refine bl_drewN ?_ _ | (refine bl_set ?_ ?_ _; (focus (first | (simp; done) | (simp; omega) | omega))) | refine bl_then ?_ (by assumption)))))⟩

theorem eNum1 : ∀ (args : Array Value) (W : World), (callFunc 103 args).run Try.prog W = .ok (.enter 103 args) W := fun _ _ => by kernel_rfl
theorem makes_num1 {w : World} {B p : Nat} {s : Value} {xs : List UInt8} {a n b5 b6 : Nat} (h5 : w.heap[b5]? = some (.cells #[.int .i64 n] 3 (0, 0))) (h6 : w.heap[b6]? = some (.cells #[.int .u8 1] 5 (0, 0))) (hp5 : b5 ≠ p) (hp6 : b6 ≠ p) (hs : s.ownBlock ≠ some b6) (hn : n ≤ 8) (ha : a + n ≤ xs.length) :
    Makes (fun b => b = p ∨ b = b6) w B p s xs a n 103 #[.pointer (some ⟨b5, 0, none⟩), .pointer (some ⟨b6, 0, none⟩)] fun w' u => u = .int .u64 (bigL ((xs.drop a).take n) : Int) ∧ w'.heap[b6]? = some (.cells #[u8v (fb ((xs.drop a).take n))] 5 (0, 0)) := by
  refine ⟨eNum1, fun w1 v hR hB hv => ?_⟩
  have hl : ((xs.drop a).take n).length = n := by rw [List.length_take, List.length_drop]; omega
  refine (num1_any hB (by omega) (fun e => hs (hv _ e)) (by rw [hl]; exact hR.2.kb h5 hp5) (hR.2.kb h6 hp6)).mono ?_
  rintro e w' ⟨rfl, h6', hk⟩
  refine ⟨_, rfl, ⟨rfl, h6'⟩, hR.1.keep hk (fun e => hp6 e.symm) (fun b hb e => hs (by rw [← e]; exact hb)), (hR.2.mono (T := fun b => b = p ∨ b = b6) fun _ _ h => .inl h).trans hk fun _ _ h => .inr h⟩

set_option maxHeartbeats 1000000 in
theorem num_ok {w : World} {B p : Nat} {s : Value} {xs : List UInt8} {a : Nat} (F : Rd w B p s xs a 0 0) (h : a + 1 ≤ xs.length) (h8 : kAt xs a ≤ 8) (h2 : a + 1 + kAt xs a ≤ xs.length)
    (hz : zAt xs a (kAt xs a) = false) (hbig : bigL (nAt xs a (kAt xs a)) ≤ 9223372036854775807) :
    Calls Try.prog 62 #[.pointer (some ⟨p, 0, none⟩), .int .i64 a] w fun e w' => e = .returned (.int .i64 (bigL (nAt xs a (kAt xs a)) : Int)) ∧ RdTo (fun b => b = p) w w' B p s xs (a + 1 + kAt xs a) := by
  have HF := Lib.hid F
  have hmf : ∀ (fn : Fn) (first cap : Array Value) (w : World), (Instr.makeFunc fn first cap).run Try.prog w = .ok (.func fn first cap) w := fun _ _ _ _ => rfl
  have hkA : bigL ((xs.drop a).take 1) = kAt xs a := rfl
  generalize kAt xs a = k at *
  have hnA : bigL ((xs.drop (a + 1)).take k) = bigL (nAt xs a k) := rfl
  generalize bigL (nAt xs a k) = N at *
  have hfA : fb ((xs.drop (a + 1)).take k) = fb (nAt xs a k) := rfl
  have hz6 : (((fb (nAt xs a k)).toNat : Int) != 0) = true := by
    simp only [zAt, beq_eq_false_iff_ne, ne_eq] at hz
    simp only [bne_iff_ne, ne_eq]
    intro e
    exact hz (UInt8.toNat_inj.1 (by simpa using e))
  generalize fb (nAt xs a k) = c at *
  have HA := Lib.hid hkA
  have HN := Lib.hid hnA
  have HC := Lib.hid hfA
  have hd : decide ((k : Int) ≤ 8) = true := decide_eq_true (by omega)
  have hle : decide ((N : Int) ≤ 9223372036854775807) = true := decide_eq_true (by omega)
  clear F hz hkA hnA hfA
  go_enter Try.func62, Try.ntmps62
  go_wp2_with fail
  refine (take8_ok 1 a _ _ HF.out h (makes_big (by omega))).mono ?_
  rintro e1 w1 ⟨_, rfl, rfl, hR⟩
  have HR := Lib.hid hR
  have hsz := hR.2.size
  clear hR
  rw [HA.out]
  go_wp2_with fail
  refine (must_yes _ _ _).mono ?_
  rintro e2 w2 ⟨rfl, rfl⟩
  go_wp2_with fail
  have hlt := kb_lt HR.out.1.st
  have b5 := kb_alloc (kb_new (w := w1) rfl (.cells #[.int .i64 (k : Int)] 3)) (.cells #[.int .u8 1] 5)
  have b6 := kb_new (w := w1.alloc (.cells #[.int .i64 (k : Int)] 3)) (b := w1.heap.size + 1) (by simp) (.cells #[.int .u8 1] 5)
  have hs6 : s.ownBlock ≠ some (w1.heap.size + 1) := fun e => by have := (HR.out.1.row.lt _ e).2; omega
  have hb2 : Below w1.heap.size w1 ((w1.alloc (.cells #[.int .i64 (k : Int)] 3)).alloc (.cells #[.int .u8 1] 5)) := by (repeat (with_reducible (first | exact Below.refl _ _ | assumption | refine bl_alloc ?_ _ | refine bl_drew ?_ | refine bl_drewN ?_ _ | (refine bl_set ?_ ?_ _; (focus (first | (simp; done) | (simp; omega) | omega))) | refine bl_then ?_ (by assumption))))
  refine (take8_ok k a _ _ (HR.out.1.below hb2) h2 (makes_num1 b5 b6 (by omega) (by omega) hs6 h8 h2)).mono ?_
  rintro e3 w3 ⟨_, rfl, ⟨rfl, h6⟩, hR3⟩
  rw [HN.out]
  rw [HC.out] at h6
  have hfin : Keep (fun b => b = p) w w3 := (HR.out.2.then_below hb2).trans hR3.2 fun b hb e => e.elim id fun e => by omega
  have HR3 := Lib.hid hR3.1
  have HK3 := Lib.hid hfin
  have c6 := kb_cell h6 0
  simp [u8v] at c6
  clear hR3 h6 b5 b6 hb2 hfin
  go_wp2_with fail
  refine (must_yes _ _ _).mono ?_
  rintro e4 w4 ⟨rfl, rfl⟩
  go_wp2_with fail
  go_ret
  exact ⟨rfl, HR3.out, HK3.out⟩
set_option maxHeartbeats 1000000 in
theorem num_zero {w : World} {B p : Nat} {s : Value} {xs : List UInt8} {a : Nat} (F : Rd w B p s xs a 0 0) (h : a + 1 ≤ xs.length) (h8 : kAt xs a ≤ 8) (h2 : a + 1 + kAt xs a ≤ xs.length)
    (hz : zAt xs a (kAt xs a) = true) :
    Calls Try.prog 62 #[.pointer (some ⟨p, 0, none⟩), .int .i64 a] w fun e w' => e = .panicked [{ v := wrongV 5 a, recovered := false }] ∧ ∃ a', RdTo (fun b => b = p) w w' B p s xs a' := by
  have HF := Lib.hid F
  have hmf : ∀ (fn : Fn) (first cap : Array Value) (w : World), (Instr.makeFunc fn first cap).run Try.prog w = .ok (.func fn first cap) w := fun _ _ _ _ => rfl
  have hkA : bigL ((xs.drop a).take 1) = kAt xs a := rfl
  generalize kAt xs a = k at *
  have hnA : bigL ((xs.drop (a + 1)).take k) = bigL (nAt xs a k) := rfl
  generalize bigL (nAt xs a k) = N at *
  have hfA : fb ((xs.drop (a + 1)).take k) = fb (nAt xs a k) := rfl
  have hz6 : (((fb (nAt xs a k)).toNat : Int) != 0) = false := by
    simp only [zAt, beq_iff_eq] at hz
    rw [hz]; rfl
  generalize fb (nAt xs a k) = c at *
  have HA := Lib.hid hkA
  have HN := Lib.hid hnA
  have HC := Lib.hid hfA
  have hd : decide ((k : Int) ≤ 8) = true := decide_eq_true (by omega)
  clear F hz hkA hnA hfA
  go_enter Try.func62, Try.ntmps62
  go_wp2_with fail
  refine (take8_ok 1 a _ _ HF.out h (makes_big (by omega))).mono ?_
  rintro e1 w1 ⟨_, rfl, rfl, hR⟩
  have HR := Lib.hid hR
  have hsz := hR.2.size
  clear hR
  rw [HA.out]
  go_wp2_with fail
  refine (must_yes _ _ _).mono ?_
  rintro e2 w2 ⟨rfl, rfl⟩
  go_wp2_with fail
  have hlt := kb_lt HR.out.1.st
  have b5 := kb_alloc (kb_new (w := w1) rfl (.cells #[.int .i64 (k : Int)] 3)) (.cells #[.int .u8 1] 5)
  have b6 := kb_new (w := w1.alloc (.cells #[.int .i64 (k : Int)] 3)) (b := w1.heap.size + 1) (by simp) (.cells #[.int .u8 1] 5)
  have hs6 : s.ownBlock ≠ some (w1.heap.size + 1) := fun e => by have := (HR.out.1.row.lt _ e).2; omega
  have hb2 : Below w1.heap.size w1 ((w1.alloc (.cells #[.int .i64 (k : Int)] 3)).alloc (.cells #[.int .u8 1] 5)) := by (repeat (with_reducible (first | exact Below.refl _ _ | assumption | refine bl_alloc ?_ _ | refine bl_drew ?_ | refine bl_drewN ?_ _ | (refine bl_set ?_ ?_ _; (focus (first | (simp; done) | (simp; omega) | omega))) | refine bl_then ?_ (by assumption))))
  refine (take8_ok k a _ _ (HR.out.1.below hb2) h2 (makes_num1 b5 b6 (by omega) (by omega) hs6 h8 h2)).mono ?_
  rintro e3 w3 ⟨_, rfl, ⟨rfl, h6⟩, hR3⟩
  rw [HN.out]
  rw [HC.out] at h6
  have hfin : Keep (fun b => b = p) w w3 := (HR.out.2.then_below hb2).trans hR3.2 fun b hb e => e.elim id fun e => by omega
  have HR3 := Lib.hid hR3.1
  have HK3 := Lib.hid hfin
  have c6 := kb_cell h6 0
  simp [u8v] at c6
  clear hR3 h6 b5 b6 hb2 hfin
  go_wp2_with fail
  refine (must_no _ _ _).mono ?_
  rintro e4 w4 ⟨rfl, rfl⟩
  exact ⟨rfl, rfl, _, HR3.out, HK3.out⟩

set_option maxHeartbeats 1000000 in
theorem num_much {w : World} {B p : Nat} {s : Value} {xs : List UInt8} {a : Nat} (F : Rd w B p s xs a 0 0) (h : a + 1 ≤ xs.length) (h8 : kAt xs a ≤ 8) (h2 : a + 1 + kAt xs a ≤ xs.length)
    (hz : zAt xs a (kAt xs a) = false) (hbig : 9223372036854775807 < bigL (nAt xs a (kAt xs a))) :
    Calls Try.prog 62 #[.pointer (some ⟨p, 0, none⟩), .int .i64 a] w fun e w' => e = .panicked [{ v := wrongV 5 a, recovered := false }] ∧ ∃ a', RdTo (fun b => b = p) w w' B p s xs a' := by
  have HF := Lib.hid F
  have hmf : ∀ (fn : Fn) (first cap : Array Value) (w : World), (Instr.makeFunc fn first cap).run Try.prog w = .ok (.func fn first cap) w := fun _ _ _ _ => rfl
  have hkA : bigL ((xs.drop a).take 1) = kAt xs a := rfl
  generalize kAt xs a = k at *
  have hnA : bigL ((xs.drop (a + 1)).take k) = bigL (nAt xs a k) := rfl
  generalize bigL (nAt xs a k) = N at *
  have hfA : fb ((xs.drop (a + 1)).take k) = fb (nAt xs a k) := rfl
  have hz6 : (((fb (nAt xs a k)).toNat : Int) != 0) = true := by
    simp only [zAt, beq_eq_false_iff_ne, ne_eq] at hz
    simp only [bne_iff_ne, ne_eq]
    intro e
    exact hz (UInt8.toNat_inj.1 (by simpa using e))
  generalize fb (nAt xs a k) = c at *
  have HA := Lib.hid hkA
  have HN := Lib.hid hnA
  have HC := Lib.hid hfA
  have hd : decide ((k : Int) ≤ 8) = true := decide_eq_true (by omega)
  have hle : decide ((N : Int) ≤ 9223372036854775807) = false := decide_eq_false (by omega)
  clear F hz hkA hnA hfA
  go_enter Try.func62, Try.ntmps62
  go_wp2_with fail
  refine (take8_ok 1 a _ _ HF.out h (makes_big (by omega))).mono ?_
  rintro e1 w1 ⟨_, rfl, rfl, hR⟩
  have HR := Lib.hid hR
  have hsz := hR.2.size
  clear hR
  rw [HA.out]
  go_wp2_with fail
  refine (must_yes _ _ _).mono ?_
  rintro e2 w2 ⟨rfl, rfl⟩
  go_wp2_with fail
  have hlt := kb_lt HR.out.1.st
  have b5 := kb_alloc (kb_new (w := w1) rfl (.cells #[.int .i64 (k : Int)] 3)) (.cells #[.int .u8 1] 5)
  have b6 := kb_new (w := w1.alloc (.cells #[.int .i64 (k : Int)] 3)) (b := w1.heap.size + 1) (by simp) (.cells #[.int .u8 1] 5)
  have hs6 : s.ownBlock ≠ some (w1.heap.size + 1) := fun e => by have := (HR.out.1.row.lt _ e).2; omega
  have hb2 : Below w1.heap.size w1 ((w1.alloc (.cells #[.int .i64 (k : Int)] 3)).alloc (.cells #[.int .u8 1] 5)) := by (repeat (with_reducible (first | exact Below.refl _ _ | assumption | refine bl_alloc ?_ _ | refine bl_drew ?_ | refine bl_drewN ?_ _ | (refine bl_set ?_ ?_ _; (focus (first | (simp; done) | (simp; omega) | omega))) | refine bl_then ?_ (by assumption))))
  refine (take8_ok k a _ _ (HR.out.1.below hb2) h2 (makes_num1 b5 b6 (by omega) (by omega) hs6 h8 h2)).mono ?_
  rintro e3 w3 ⟨_, rfl, ⟨rfl, h6⟩, hR3⟩
  rw [HN.out]
  rw [HC.out] at h6
  have hfin : Keep (fun b => b = p) w w3 := (HR.out.2.then_below hb2).trans hR3.2 fun b hb e => e.elim id fun e => by omega
  have HR3 := Lib.hid hR3.1
  have HK3 := Lib.hid hfin
  have c6 := kb_cell h6 0
  simp [u8v] at c6
  clear hR3 h6 b5 b6 hb2 hfin
  go_wp2_with fail
  refine (must_no _ _ _).mono ?_
  rintro e4 w4 ⟨rfl, rfl⟩
  exact ⟨rfl, rfl, _, HR3.out, HK3.out⟩

theorem num_any {w : World} {B p : Nat} {s : Value} {xs : List UInt8} {a : Nat} (F : Rd w B p s xs a 0 0) :
    Calls Try.prog 62 #[.pointer (some ⟨p, 0, none⟩), .int .i64 a] w (Takes w B p s xs (numP xs a) fun n _ u => u = .int .i64 (n : Int)) := by
  unfold numP Takes
  by_cases h : xs.length < a + 1
  · rw [if_pos h]; exact (num_short F h).mono fun e w' ⟨h1, h2⟩ => ⟨h1, a, F.below h2, Keep.of_below h2⟩
  rw [if_neg h]
  by_cases h8 : 8 < kAt xs a
  · rw [if_pos h8]; exact num_big F (by omega) h8
  rw [if_neg h8]
  by_cases h2 : xs.length < a + 1 + kAt xs a
  · rw [if_pos h2]; exact num_short2 F (by omega) (by omega) h2
  rw [if_neg h2]
  cases hz : zAt xs a (kAt xs a)
  · by_cases hb : 9223372036854775807 < bigL (nAt xs a (kAt xs a))
    · rw [if_pos (.inr hb)]; exact num_much F (by omega) (by omega) (by omega) hz hb
    · rw [if_neg (by simp [hb])]; exact (num_ok F (by omega) (by omega) (by omega) hz (by omega)).mono fun e w' ⟨h1, h2⟩ => ⟨_, h1, rfl, h2⟩
  · rw [if_pos (.inl rfl)]; exact num_zero F (by omega) (by omega) (by omega) hz
end Go.Proofs.Ytajlcodlaalomaa
