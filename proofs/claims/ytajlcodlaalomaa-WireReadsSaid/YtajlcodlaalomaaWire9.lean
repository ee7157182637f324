/- The walks of package wire: must, caught, big. -/
import Derived.Test.YtajlcodlaalomaaWire8
import Derived.Recover
import Derived.Deep.RegionHeld3
namespace Go.Proofs.Ytajlcodlaalomaa
open Go.RowKit Go.Proofs.Ytajlcodlaalomaa.Wi Go.Proofs.Ytajlcodlaalomaa.Pc
attribute [local go_sem] cell_alloc_some frozen_alloc_some

def wrongV (e f : Int) : Value := .iface 127 (.agg #[.int .i64 e, .int .i64 f])
def Panics (e f : Int) (x : Ending) : Prop := x = .panicked [{ v := wrongV e f, recovered := false }]

theorem must_yes (e f : Int) (w : World) :
    Calls Try.prog 67 #[.bool true, .int .i64 e, .int .i64 f] w fun e1 w' => e1 = .returned (.tuple #[]) ∧ w = w' := by
  go_enter Try.func67, Try.ntmps67
  go_wp2
  go_end0
  exact ⟨rfl, rfl⟩
theorem must_no (e f : Int) (w : World) :
    Calls Try.prog 67 #[.bool false, .int .i64 e, .int .i64 f] w fun e1 w' => e1 = .panicked [{ v := wrongV e f, recovered := false }] ∧ w = w' := by
  go_enter Try.func67, Try.ntmps67
  go_wp2
  exact ⟨rfl, rfl, rfl⟩
def bigL (l : List UInt8) : Nat := l.foldl (fun n c => n * 256 + c.toNat) 0
theorem bigL_snoc (l : List UInt8) (c : UInt8) : bigL (l ++ [c]) = bigL l * 256 + c.toNat := by simp [bigL]
theorem bigL_take (l : List UInt8) (k : Nat) (h : k < l.length) : bigL (l.take (k + 1)) = bigL (l.take k) * 256 + l[k].toNat := by
  rw [List.take_succ_eq_append_getElem h, bigL_snoc]
theorem bigL_lt (l : List UInt8) : ∀ k, k ≤ l.length → bigL (l.take k) < 256 ^ k := by
  intro k
  induction k with
  | zero => simp [bigL]
  | succ k ih => intro h; rw [bigL_take l k (by omega)]; have := l[k].toNat_lt; have := ih (by omega); rw [Nat.pow_succ]; omega

/-- A reader: the struct's block p, its bytes' slice s, the bytes, the place, the fault. -/
structure Rd (w : World) (B p : Nat) (s : Value) (xs : List UInt8) (at' : Nat) (e f : Int) : Prop where
  st : w.heap[p]? = some (.cells #[s, .int .i64 (at' : Int), .int .i64 e, .int .i64 f, .bool true] 67 (0, 0))
  row : w.ownsRow B 5 1 s xs.length (u8s xs)
  lp : B ≤ p
  len : xs.length ≤ 2097152
  le : at' ≤ xs.length

theorem caught_idle (p : Nat) (w : World) :
    CallsD Try.prog 102 #[.pointer (some ⟨p, 0, none⟩)] .returning w fun e u' w' => e = .returned (.tuple #[]) ∧ u' = .returning ∧ w' = w := by
  refine callsD_of_wpS Try.func102 rfl fun c₀ cs hu => ?_
  apply wpS_seq
  apply wpS_region
  generalize hQ : Exit.thenS _ _ = QQ
  simp [wpOpsS, go_sem, recoverD, hu, Try.ntmps102]
  rw [← hQ]
  refine wpS_of_wp ?_
  clear hQ
  simp only [Array.replicate_succ, Array.replicate_zero, List.push_toArray, List.append_toArray, List.nil_append, List.cons_append, List.setIfInBounds_toArray, List.set_cons_zero, List.set_cons_succ]
  have hq : ∀ a : Act, a.defers = [] → bodyPostS Try.prog Try.f102 c₀ cs (fun e u' w' => e = Ending.returned (Value.tuple #[]) ∧ u' = FrameMode.returning ∧ w' = w) .normal a (c₀ :: cs) w := by
    intro a ha
    refine ⟨ha, .returning, by cases c₀; simp_all, _, results_none rfl _ _ _, rfl, rfl, rfl⟩
  generalize hP : (fun e a' w' => bodyPostS Try.prog Try.f102 c₀ cs (fun e u' w' => e = Ending.returned (Value.tuple #[]) ∧ u' = FrameMode.returning ∧ w' = w) e a' (c₀ :: cs) w') = Q2
  have hq2 : ∀ a : Act, a.defers = [] → Q2 .normal a w := fun a ha => by rw [← hP]; exact hq a ha
  have H := Lib.hid hq2
  clear hP hq hu hq2
  go_wp2
  exact H.out _ rfl

theorem assert_wrong (W : World) (v : Value) : (Instr.typeAssert (.iface 127 v) 20 127 true).run Try.prog W = .ok (.tuple #[v, .bool true]) W := by kernel_rfl
set_option maxRecDepth 100000 in
theorem caught_wrong {w : World} {p : Nat} {s : Value} {at' : Nat} {e0 f0 : Int} (st : w.heap[p]? = some (.cells #[s, .int .i64 (at' : Int), .int .i64 e0, .int .i64 f0, .bool true] 67 (0, 0))) (e f : Int) (older : List PanicEntry) :
    CallsD Try.prog 102 #[.pointer (some ⟨p, 0, none⟩)] (.panicking ({ v := wrongV e f, recovered := false } :: older)) w fun e1 u' w' =>
      e1 = .returned (.tuple #[]) ∧ u' = .panicking ({ v := wrongV e f, recovered := true } :: older) ∧ ∃ o, w' = ((w.setCell ⟨p, 2, none⟩ (.int .i64 e)).setCell ⟨p, 3, none⟩ (.int .i64 f)).alloc o := by
  have c := kb_cell st
  have z := kb_frozen st
  have hlt := kb_lt st
  refine callsD_of_wpS Try.func102 rfl fun c₀ cs hu => ?_
  apply wpS_seq
  apply wpS_region
  generalize hQ : Exit.thenS _ _ = QQ
  simp [wpOpsS, go_sem, recoverD, hu, Try.ntmps102]
  rw [← hQ]
  refine wpS_of_wp ?_
  clear hQ
  simp only [Array.replicate_succ, Array.replicate_zero, List.push_toArray, List.append_toArray, List.nil_append, List.cons_append, List.setIfInBounds_toArray, List.set_cons_zero, List.set_cons_succ]
  have hq : ∀ (a : Act) (o : Obj), a.defers = [] → bodyPostS Try.prog Try.f102 c₀ cs (fun e1 u' w' => e1 = Ending.returned (Value.tuple #[]) ∧ u' = FrameMode.panicking ({ v := wrongV e f, recovered := true } :: older) ∧ ∃ o, w' = ((w.setCell ⟨p, 2, none⟩ (.int .i64 e)).setCell ⟨p, 3, none⟩ (.int .i64 f)).alloc o) .normal a ({ c₀ with mode := FrameMode.panicking ({ v := wrongV e f, recovered := true } :: older) } :: cs) (((w.setCell ⟨p, 2, none⟩ (.int .i64 e)).setCell ⟨p, 3, none⟩ (.int .i64 f)).alloc o) := by
    intro a o ha
    exact ⟨ha, _, rfl, _, results_none rfl _ _ _, rfl, rfl, o, rfl⟩
  generalize hP : (fun e1 a' w' => bodyPostS Try.prog Try.f102 c₀ cs (fun e1 u' w' => e1 = Ending.returned (Value.tuple #[]) ∧ u' = FrameMode.panicking ({ v := wrongV e f, recovered := true } :: older) ∧ ∃ o, w' = ((w.setCell ⟨p, 2, none⟩ (.int .i64 e)).setCell ⟨p, 3, none⟩ (.int .i64 f)).alloc o) e1 a' ({ c₀ with mode := FrameMode.panicking ({ v := wrongV e f, recovered := true } :: older) } :: cs) w') = Q2
  have hq2 : ∀ (a : Act) (o : Obj), a.defers = [] → Q2 .normal a (((w.setCell ⟨p, 2, none⟩ (.int .i64 e)).setCell ⟨p, 3, none⟩ (.int .i64 f)).alloc o) := fun a o ha => by rw [← hP]; exact hq a o ha
  have H := Lib.hid hq2
  clear hP hq hu hq2
  have ha := fun W => assert_wrong W (.agg #[.int .i64 e, .int .i64 f])
  unfold wrongV
  go_wp2
  exact H.out _ _ rfl

theorem shl8 {n : Nat} (h : n < 72057594037927936) {c : Nat} (hc : c < 256) : bits .or .u64 (IntKind.u64.wrap ((n : Int) * 256)) (IntKind.u64.wrap (c : Int)) = ((n * 256 + c : Nat) : Int) := by
  have h1 : IntKind.u64.wrap ((n : Int) * 256) = ((n * 256 : Nat) : Int) := by rw [IntWalk.u64_in] <;> omega
  have h2 : IntKind.u64.wrap (c : Int) = (c : Int) := by rw [IntWalk.u64_in]; omega
  rw [h1, h2]
  have := Nat.two_pow_add_eq_or_of_lt (i := 8) (b := c) (by omega) n
  have hb : IntKind.u64.bits = 64 := rfl
  have e1 : (((n : Int) * 256) % 2 ^ IntKind.u64.bits).toNat = 2 ^ 8 * n := by rw [hb]; omega
  have e2 : c % 2 ^ IntKind.u64.bits = c := by rw [hb]; omega
  simp only [bits]
  simp
  rw [e1, e2, ← this, IntWalk.u64_in] <;> omega

set_option maxHeartbeats 1000000 in
theorem big_any {w : World} {v : Value} {l : List UInt8} (h : BytesOf w v l) (hl : l.length ≤ 8) :
    Calls Try.prog 66 #[v] w fun e1 w' => e1 = .returned (.int .u64 (bigL l : Int)) ∧ w = w' := by
  obtain ⟨A, cap, rfl, _, hc⟩ := h
  go_enter Try.func66, Try.ntmps66
  go_wp2
  go_loopw [2, 4, 7, 8, 9, 10, 11, 12, 13, 14, 15, 16] (fun s2 _ s7 _ _ _ _ _ _ _ _ _ wr => ∃ i : Nat, i ≤ l.length ∧ s7 = .int .i64 i ∧ s2 = .int .u64 (bigL (l.take i) : Int) ∧ w = wr) (fun _ _ s7 _ _ _ _ _ _ _ _ _ _ => l.length - (intOf s7).toNat)
  case atStart => exact ⟨0, by omega, rfl, rfl, rfl⟩
  case round =>
    obtain ⟨i, hi, rfl, rfl, rfl⟩ := hrel
    have hlt8 := bigL_lt l i hi
    by_cases hlt : i < l.length
    · obtain ⟨b, off, rfl, _, hcc⟩ := hc (by omega)
      have hil : ((i : Nat) : Int) < (l.length : Int) := by omega
      have c0 := hcc i _ (u8s_get l i hlt)
      have hHC := Lib.hid hc
      have h7 : bigL (l.take i) < 72057594037927936 := Nat.lt_of_lt_of_le hlt8 (Nat.le_trans (Nat.pow_le_pow_right (by omega) (show i ≤ 7 by omega)) (by omega))
      have hH7 := Lib.hid h7
      have hs := shl8 h7 (l[i].toNat_lt)
      have hT := bigL_take l i hlt
      unfold u8v at c0
      generalize hN : bigL (l.take i) = N at *
      generalize hM : bigL (l.take (i + 1)) = M at *
      clear hc hcc h7 hlt8
      go_wp2
      exact ⟨⟨i + 1, by omega, by go_num, by rw [hM, hT]; simp, trivial⟩, by simp [intOf]; omega⟩
    · obtain rfl : i = l.length := by omega
      rw [List.take_length]
      clear hc
      go_wp2
      go_ret
      exact ⟨rfl, rfl⟩
end Go.Proofs.Ytajlcodlaalomaa
