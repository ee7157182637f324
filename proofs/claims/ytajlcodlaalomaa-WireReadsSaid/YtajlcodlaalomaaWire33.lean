/- The document's reader: Fails, take. -/
import Derived.Test.YtajlcodlaalomaaWire30
namespace Go.Proofs.Ytajlcodlaalomaa
open Go.RowKit Go.Proofs.Ytajlcodlaalomaa.Wi Go.Proofs.Ytajlcodlaalomaa.Pc
attribute [local go_sem] cell_alloc_some frozen_alloc_some
set_option linter.unusedSimpArgs false
set_option linter.unusedVariables false

/-- The document's reader. -/
structure RRd (w : World) (B p : Nat) (s : Value) (xs : List UInt8) (at' : Nat) (e f : Int) : Prop where
  st : w.heap[p]? = some (.cells #[s, .int .i64 (at' : Int), .int .i64 e, .int .i64 f] 104 (0, 0))
  row : w.ownsRow B 5 1 s xs.length (u8s xs)
  lp : B ≤ p
  len : xs.length ≤ 2097152
  le : at' ≤ xs.length
theorem RRd.keep {w w' : World} {B p s xs a e f} {S : Nat → Prop} (h : RRd w B p s xs a e f) (k : Keep S w w') (h1 : ¬ S p) (h2 : ∀ b, s.ownBlock = some b → ¬ S b) : RRd w' B p s xs a e f where
  st := k.kb h.st h1
  row := k.row h.row h2
  lp := h.lp
  len := h.len
  le := h.le
theorem RRd.below {w w' : World} {B p s xs a e f} (h : RRd w B p s xs a e f) (k : Below w.heap.size w w') : RRd w' B p s xs a e f := h.keep (S := fun _ => False) (Keep.of_below k) (fun x => x) fun _ _ x => x
theorem RRd.put {w : World} {B p s xs a e f} (h : RRd w B p s xs a e f) (a' : Nat) (h' : a' ≤ xs.length) : RRd (w.setCell ⟨p, 1, none⟩ (.int .i64 (a' : Int))) B p s xs a' e f where
  st := kb_set h.st _
  row := own_set h.row (own_ne h.row h.st (by decide))
  lp := h.lp
  len := h.len
  le := h'
theorem RRd.fault {w : World} {B p s xs a e f} (h : RRd w B p s xs a e f) (e' f' : Int) : RRd ((w.setCell ⟨p, 2, none⟩ (.int .i64 e')).setCell ⟨p, 3, none⟩ (.int .i64 f')) B p s xs a e' f' where
  st := by have := kb_set (kb_set h.st (i := 2) (.int .i64 e')) (i := 3) (.int .i64 f'); simpa using this
  row := by
    have hne := own_ne h.row h.st (by decide)
    exact own_set (own_set h.row hne) hne
  lp := h.lp
  len := h.len
  le := h.le
def RRdO (w : World) (B p : Nat) (s : Value) (xs : List UInt8) : St → Prop
  | .at a => RRd w B p s xs a 0 0
  | .bad e f => e ≠ 0 ∧ ∃ a, RRd w B p s xs a e f
theorem RRdO.keep {w w' : World} {B p s xs st} {S : Nat → Prop} (h : RRdO w B p s xs st) (k : Keep S w w') (h1 : ¬ S p) (h2 : ∀ b, s.ownBlock = some b → ¬ S b) : RRdO w' B p s xs st := by
  cases st with
  | «at» a => exact RRd.keep h k h1 h2
  | bad e f => exact ⟨h.1, h.2.choose, h.2.choose_spec.keep k h1 h2⟩
theorem RRdO.below {w w' : World} {B p s xs st} (h : RRdO w B p s xs st) (k : Below w.heap.size w w') : RRdO w' B p s xs st := h.keep (S := fun _ => False) (Keep.of_below k) (fun x => x) fun _ _ x => x
theorem RRdO.ltp {w : World} {B p s xs st} (h : RRdO w B p s xs st) : p < w.heap.size := by
  cases st with
  | «at» a => exact kb_lt (RRd.st h)
  | bad e f => exact kb_lt h.2.choose_spec.st
theorem RRdO.lp {w : World} {B p s xs st} (h : RRdO w B p s xs st) : B ≤ p := by
  cases st with
  | «at» a => exact RRd.lp h
  | bad e f => exact h.2.choose_spec.lp
theorem RRdO.low {w : World} {B p s xs st} (h : RRdO w B p s xs st) : ∀ b, s.ownBlock = some b → B ≤ b ∧ b < w.heap.size := by
  cases st with
  | «at» a => exact RRd.row h |>.lt
  | bad e f => exact h.2.choose_spec.row.lt
/-- What a method of the document's reader does. -/
def RDid {α : Type} (w : World) (B p : Nat) (s : Value) (xs : List UInt8) (r : α × St) (V : α → World → Value → Prop) : Ending → World → Prop := fun e w' =>
  ∃ u, e = .returned u ∧ V r.1 w' u ∧ RRdO w' B p s xs r.2 ∧ Keep (fun b => b = p) w w'

theorem rFails_at {w : World} {B p : Nat} {s : Value} {xs : List UInt8} {a : Nat} (e f : Nat) (F : RRd w B p s xs a 0 0) :
    Calls Try.prog 106 #[.pointer (some ⟨p, 0, none⟩), .int .i64 e, .int .i64 f] w fun x w' => x = .returned (.tuple #[]) ∧ RRd w' B p s xs a e f ∧ Keep (fun b => b = p) w w' := by
  have c := kb_cell F.st
  have z := kb_frozen F.st
  have HF := Lib.hid F
  clear F
  go_enter Try.func106, Try.ntmps106
  go_wp2
  go_end0
  exact ⟨rfl, HF.out.fault _ _, ((Keep.refl (fun b => b = p) w).set (p := ⟨p, 2, none⟩) (fun _ => rfl) _).set (p := ⟨p, 3, none⟩) (fun _ => rfl) _⟩
theorem rFails_bad {w : World} {B p : Nat} {s : Value} {xs : List UInt8} {a : Nat} {er fr : Nat} (e f : Nat) (F : RRd w B p s xs a er fr) (he : er ≠ 0) :
    Calls Try.prog 106 #[.pointer (some ⟨p, 0, none⟩), .int .i64 e, .int .i64 f] w fun x w' => x = .returned (.tuple #[]) ∧ w = w' := by
  have c := kb_cell F.st
  have h0 : ((er : Int) == 0) = false := by simpa using he
  have h0' : (er == 0) = false := by simpa using he
  clear F
  go_enter Try.func106, Try.ntmps106
  go_wp2
  go_end0
  exact ⟨rfl, rfl⟩

/-- append onto a row of the call's own, as an operation of a region that draws. -/
theorem wp_append_row {P : Program} (w : World) {o : Oper} {a : Act} {K : Act → World → Prop} {Q : Exit → Act → World → Prop} (s x : Operand) (t : TypeId)
    (ho : o.op = .call { callee := .builtin .append, args := #[s, x], argTypes := #[t, t] })
    (base : Nat) (e : TypeId) (i : TypeInfo) (z : Value) (bytes : Nat) (ht : P.underlying t = some (.slice e)) (hi : P.info? e = some i) (hz : i.zero = some z)
    (hsize : i.size = 1) (hby : i.bytes = bytes) (hzs : z.cells.size = 1)
    (v : Value) (n : Nat) (xs : List Value) (hs : a.eval s = v) (hown : w.ownsRow base e 1 v n xs)
    (u : Value) (m : Nat) (news : List Value) (hx : a.eval x = u) (hu : RowOf w u m news) (h1 : ∀ u ∈ news, u.oneCell' = true)
    (h63 : n + m ≤ maxLen) (hbytes : (n + m) * bytes ≤ 140737488355328) (hbase : base ≤ w.heap.size)
    (h : ∀ v' w', w'.ownsRow base e 1 v' (n + m) (xs ++ news) → w.grownBy w' v.ownBlock → (v' = .slice none 0 0 ↔ v = .slice none 0 0 ∧ m = 0) → (v'.ownBlock = v.ownBlock ∨ v'.ownBlock = some w.heap.size) → K (a.put o.dst v') w') :
    o.wp P a w K Q := by
  obtain ⟨v', w', hr, h2, h3, h4, h5⟩ := run_append_row (P := P) w base t o.type e i z bytes ht hi hz hsize hby hzs v n xs hown u m news hu h1 h63 hbytes hbase
  unfold Oper.wp execOp
  simp only [ho, resolve, invoke, builtin, Sem.run_bind, Sem.run_pure, Result.andThen_ok, List.map_toArray, List.map_cons, List.map_nil, hs, hx, hr]
  exact h v' w' h2 h3 h4 h5

theorem rTake_bad {w : World} {B p : Nat} {s : Value} {xs : List UInt8} {a : Nat} {er fr : Nat} (n f : Int) (F : RRd w B p s xs a er fr) (he : er ≠ 0) :
    Calls Try.prog 105 #[.pointer (some ⟨p, 0, none⟩), .int .i64 n, .int .i64 f] w fun x w' => x = .returned (.slice none 0 0) ∧ w = w' := by
  have c := kb_cell F.st
  have h0 : ((er : Int) != 0) = true := by simpa using he
  have h0' : (er != 0) = true := by simpa using he
  clear F
  go_enter Try.func105, Try.ntmps105
  go_wp2
  go_ret
  exact ⟨rfl, rfl⟩
set_option maxHeartbeats 1000000 in
theorem rTake_short {w : World} {B p : Nat} {s : Value} {xs : List UInt8} {a : Nat} (n f : Nat) (F : RRd w B p s xs a 0 0) (hn : xs.length < a + n) (h63 : n < 9223372036854775808) :
    Calls Try.prog 105 #[.pointer (some ⟨p, 0, none⟩), .int .i64 n, .int .i64 f] w fun x w' => x = .returned (.slice none 0 0) ∧ RRd w' B p s xs a 6 f ∧ Keep (fun b => b = p) w w' := by
  obtain ⟨A, cap, rfl⟩ := (RowOf.of_own F.row).form
  have c := kb_cell F.st
  have c0 := c 0
  have c1 := c 1
  simp at c0 c1
  have hd : decide ((xs.length : Int) - (a : Int) < (n : Int)) = true := decide_eq_true (by omega)
  have hw : IntKind.i64.wrap ((xs.length : Int) - (a : Int)) = (xs.length : Int) - (a : Int) := IntWalk.i64_in _ (by have := F.len; have := F.le; omega)
  have HF := Lib.hid F
  clear F
  go_enter Try.func105, Try.ntmps105
  go_wp2
  refine wp_region_held_drew (S := (fun W : World => W.cell? ⟨p, 0, none⟩ = some (.slice A xs.length cap) ∧ W.cell? ⟨p, 1, none⟩ = some (.int .i64 (a : Int)))) (by kernel_rfl) ⟨c0, c1⟩ (fun hHeld => ?_)
  refine wpAnyH_take (i := 0) (oi := { dst := some 14, op := _, type := _, pos := _, after := _, guard := _ }) (v := ?_) rfl (by kernel_rfl) (by kernel_rfl) (by kernel_rfl) (fun _ _ _ h => h) (Or.inl ⟨by rfl, ?_⟩) hHeld ?_
  rotate_left
  · (intro w hSw; (try dsimp only at hSw); go_simp); all_goals with_reducible rfl
  try simp only [Act.put, List.setIfInBounds_toArray, List.set_cons_zero, List.set_cons_succ]
  refine wpAnyH_take (i := 1) (oi := { dst := some 15, op := _, type := _, pos := _, after := _, guard := _ }) (v := ?_) rfl (by kernel_rfl) (by kernel_rfl) (by kernel_rfl) (fun _ _ _ h => h) (Or.inl ⟨by rfl, ?_⟩) hHeld ?_
  rotate_left
  · (intro w hSw; (try dsimp only at hSw); go_simp); all_goals with_reducible rfl
  try simp only [Act.put, List.setIfInBounds_toArray, List.set_cons_zero, List.set_cons_succ]
  refine wpAnyH_take (i := 2) (oi := { dst := some 16, op := _, type := _, pos := _, after := _, guard := _ }) (v := ?_) rfl (by kernel_rfl) (by kernel_rfl) (by kernel_rfl) (fun _ _ _ h => h) (Or.inl ⟨by rfl, ?_⟩) hHeld ?_
  rotate_left
  · (intro w hSw; (try dsimp only at hSw); go_simp); all_goals with_reducible rfl
  try simp only [Act.put, List.setIfInBounds_toArray, List.set_cons_zero, List.set_cons_succ]
  refine wpAnyH_take (i := 3) (oi := { dst := some 17, op := _, type := _, pos := _, after := _, guard := _ }) (v := ?_) rfl (by kernel_rfl) (by kernel_rfl) (by kernel_rfl) (fun _ _ _ h => h) (Or.inl ⟨by rfl, ?_⟩) hHeld ?_
  rotate_left
  · (intro w hSw; (try dsimp only at hSw); go_simp); all_goals with_reducible rfl
  try simp only [Act.put, List.setIfInBounds_toArray, List.set_cons_zero, List.set_cons_succ]
  refine wpAnyH_take (i := 4) (oi := { dst := some 18, op := _, type := _, pos := _, after := _, guard := _ }) (v := ?_) rfl (by kernel_rfl) (by kernel_rfl) (by kernel_rfl) (fun _ _ _ h => h) (Or.inl ⟨by rfl, ?_⟩) hHeld ?_
  rotate_left
  · (intro w hSw; (try dsimp only at hSw); go_simp); all_goals with_reducible rfl
  try simp only [Act.put, List.setIfInBounds_toArray, List.set_cons_zero, List.set_cons_succ]
  refine wpAnyH_take (i := 5) (oi := { dst := some 19, op := _, type := _, pos := _, after := _, guard := _ }) (v := ?_) rfl (by kernel_rfl) (by kernel_rfl) (by kernel_rfl) (fun _ _ _ h => h) (Or.inl ⟨by rfl, ?_⟩) hHeld ?_
  rotate_left
  · (intro w hSw; (try dsimp only at hSw); go_simp); all_goals with_reducible rfl
  try simp only [Act.put, List.setIfInBounds_toArray, List.set_cons_zero, List.set_cons_succ]
  refine wpAnyH_take (i := 6) (oi := { dst := some 20, op := _, type := _, pos := _, after := _, guard := _ }) (v := ?_) rfl (by kernel_rfl) (by kernel_rfl) (by kernel_rfl) (fun _ _ _ h => h) (Or.inl ⟨by rfl, ?_⟩) hHeld ?_
  rotate_left
  · (intro w hSw; (try dsimp only at hSw); go_simp); all_goals with_reducible rfl
  try simp only [Act.put, List.setIfInBounds_toArray, List.set_cons_zero, List.set_cons_succ]
  refine wpAnyH_take (i := 7) (oi := { dst := some 21, op := _, type := _, pos := _, after := _, guard := _ }) (v := ?_) rfl (by kernel_rfl) (by kernel_rfl) (by kernel_rfl) (fun _ _ _ h => h) (Or.inl ⟨by rfl, ?_⟩) hHeld ?_
  rotate_left
  · (intro w hSw; (try dsimp only at hSw); go_simp); all_goals with_reducible rfl
  try simp only [Act.put, List.setIfInBounds_toArray, List.set_cons_zero, List.set_cons_succ]
  refine wpAnyH_take (i := 8) (oi := { dst := some 22, op := _, type := _, pos := _, after := _, guard := _ }) (v := ?_) rfl (by kernel_rfl) (by kernel_rfl) (by kernel_rfl) (fun _ _ _ h => h) (Or.inl ⟨by rfl, ?_⟩) hHeld ?_
  rotate_left
  · (intro w hSw; (try dsimp only at hSw); go_simp); all_goals with_reducible rfl
  try simp only [Act.put, List.setIfInBounds_toArray, List.set_cons_zero, List.set_cons_succ]
  refine wpAnyH_take (i := 9) (oi := { dst := some 23, op := _, type := _, pos := _, after := _, guard := _ }) (v := ?_) rfl (by kernel_rfl) (by kernel_rfl) (by kernel_rfl) (fun _ _ _ h => h) (Or.inl ⟨by rfl, ?_⟩) hHeld ?_
  rotate_left
  · (intro w hSw; (try dsimp only at hSw); go_simp); all_goals with_reducible rfl
  try simp only [Act.put, List.setIfInBounds_toArray, List.set_cons_zero, List.set_cons_succ]
  refine wpAnyH_take (i := 10) (oi := { dst := some 24, op := _, type := _, pos := _, after := _, guard := _ }) (v := ?_) rfl (by kernel_rfl) (by kernel_rfl) (by kernel_rfl) (fun _ _ _ h => h) (Or.inl ⟨by rfl, ?_⟩) hHeld ?_
  rotate_left
  · (intro w hSw; (try dsimp only at hSw); go_simp); all_goals with_reducible rfl
  try simp only [Act.put, List.setIfInBounds_toArray, List.set_cons_zero, List.set_cons_succ]
  refine wpAnyH_take (i := 11) (oi := { dst := some 25, op := _, type := _, pos := _, after := _, guard := _ }) (v := ?_) rfl (by kernel_rfl) (by kernel_rfl) (by kernel_rfl) (fun _ _ _ h => h) (Or.inl ⟨by rfl, ?_⟩) hHeld ?_
  rotate_left
  · (intro w hSw; (try dsimp only at hSw); go_simp); all_goals with_reducible rfl
  try simp only [Act.put, List.setIfInBounds_toArray, List.set_cons_zero, List.set_cons_succ]
  refine wpAnyH_done (by kernel_rfl) ?_ _
  clear hHeld c c0 c1
  go_wp2_with fail
  refine (rFails_at 6 f (HF.out.below (bl_drew (Below.refl _ _)))).mono ?_
  rintro e w' ⟨rfl, F2, k2⟩
  have HF2 := Lib.hid F2
  have HK2 := Lib.hid k2
  clear F2 k2
  go_wp2_with fail
  go_ret
  exact ⟨rfl, HF2.out, Keep.after (bl_drew (Below.refl _ _)) HK2.out⟩
set_option maxRecDepth 100000 in
set_option maxHeartbeats 2000000 in
theorem rTake_ok {w : World} {B p : Nat} {s : Value} {xs : List UInt8} {a : Nat} (n f : Nat) (F : RRd w B p s xs a 0 0) (hn : a + n ≤ xs.length) :
    Calls Try.prog 105 #[.pointer (some ⟨p, 0, none⟩), .int .i64 n, .int .i64 f] w fun x w' => ∃ v, x = .returned v ∧ w'.ownsRow w.heap.size 5 1 v n (u8s ((xs.drop a).take n)) ∧ RRd w' B p s xs (a + n) 0 0 ∧ Keep (fun b => b = p) w w' := by
  obtain ⟨A, cap, rfl⟩ := (RowOf.of_own F.row).form
  have c := kb_cell F.st
  have c0 := c 0
  have c1 := c 1
  simp at c0 c1
  have hlt := kb_lt F.st
  have hle := F.len
  have hd : decide ((xs.length : Int) - (a : Int) < (n : Int)) = false := decide_eq_false (by omega)
  have hw : IntKind.i64.wrap ((xs.length : Int) - (a : Int)) = (xs.length : Int) - (a : Int) := IntWalk.i64_in _ (by have := F.len; have := F.le; omega)
  have hw2 : IntKind.i64.wrap ((a : Int) + (n : Int)) = (a : Int) + (n : Int) := IntWalk.i64_in _ (by omega)
  obtain ⟨A', hsl, hsb⟩ := part_run F.row a n hn
  obtain ⟨i0, hi, hz0, hz1, hz2⟩ := info_parts infoU
  have HF := Lib.hid F
  have HS := Lib.hid hsb
  clear F hsb
  go_enter Try.func105, Try.ntmps105
  go_wp2
  refine wp_region_held_drew (S := (fun W : World => W.cell? ⟨p, 0, none⟩ = some (.slice A xs.length cap) ∧ W.cell? ⟨p, 1, none⟩ = some (.int .i64 (a : Int)))) (by kernel_rfl) ⟨c0, c1⟩ (fun hHeld => ?_)
  refine wpAnyH_take (i := 0) (oi := { dst := some 14, op := _, type := _, pos := _, after := _, guard := _ }) (v := ?_) rfl (by kernel_rfl) (by kernel_rfl) (by kernel_rfl) (fun _ _ _ h => h) (Or.inl ⟨by rfl, ?_⟩) hHeld ?_
  rotate_left
  · (intro w hSw; (try dsimp only at hSw); go_simp); all_goals with_reducible rfl
  try simp only [Act.put, List.setIfInBounds_toArray, List.set_cons_zero, List.set_cons_succ]
  refine wpAnyH_take (i := 1) (oi := { dst := some 15, op := _, type := _, pos := _, after := _, guard := _ }) (v := ?_) rfl (by kernel_rfl) (by kernel_rfl) (by kernel_rfl) (fun _ _ _ h => h) (Or.inl ⟨by rfl, ?_⟩) hHeld ?_
  rotate_left
  · (intro w hSw; (try dsimp only at hSw); go_simp); all_goals with_reducible rfl
  try simp only [Act.put, List.setIfInBounds_toArray, List.set_cons_zero, List.set_cons_succ]
  refine wpAnyH_take (i := 2) (oi := { dst := some 16, op := _, type := _, pos := _, after := _, guard := _ }) (v := ?_) rfl (by kernel_rfl) (by kernel_rfl) (by kernel_rfl) (fun _ _ _ h => h) (Or.inl ⟨by rfl, ?_⟩) hHeld ?_
  rotate_left
  · (intro w hSw; (try dsimp only at hSw); go_simp); all_goals with_reducible rfl
  try simp only [Act.put, List.setIfInBounds_toArray, List.set_cons_zero, List.set_cons_succ]
  refine wpAnyH_take (i := 3) (oi := { dst := some 17, op := _, type := _, pos := _, after := _, guard := _ }) (v := ?_) rfl (by kernel_rfl) (by kernel_rfl) (by kernel_rfl) (fun _ _ _ h => h) (Or.inl ⟨by rfl, ?_⟩) hHeld ?_
  rotate_left
  · (intro w hSw; (try dsimp only at hSw); go_simp); all_goals with_reducible rfl
  try simp only [Act.put, List.setIfInBounds_toArray, List.set_cons_zero, List.set_cons_succ]
  refine wpAnyH_take (i := 4) (oi := { dst := some 18, op := _, type := _, pos := _, after := _, guard := _ }) (v := ?_) rfl (by kernel_rfl) (by kernel_rfl) (by kernel_rfl) (fun _ _ _ h => h) (Or.inl ⟨by rfl, ?_⟩) hHeld ?_
  rotate_left
  · (intro w hSw; (try dsimp only at hSw); go_simp); all_goals with_reducible rfl
  try simp only [Act.put, List.setIfInBounds_toArray, List.set_cons_zero, List.set_cons_succ]
  refine wpAnyH_take (i := 5) (oi := { dst := some 19, op := _, type := _, pos := _, after := _, guard := _ }) (v := ?_) rfl (by kernel_rfl) (by kernel_rfl) (by kernel_rfl) (fun _ _ _ h => h) (Or.inl ⟨by rfl, ?_⟩) hHeld ?_
  rotate_left
  · (intro w hSw; (try dsimp only at hSw); go_simp); all_goals with_reducible rfl
  try simp only [Act.put, List.setIfInBounds_toArray, List.set_cons_zero, List.set_cons_succ]
  refine wpAnyH_take (i := 6) (oi := { dst := some 20, op := _, type := _, pos := _, after := _, guard := _ }) (v := ?_) rfl (by kernel_rfl) (by kernel_rfl) (by kernel_rfl) (fun _ _ _ h => h) (Or.inl ⟨by rfl, ?_⟩) hHeld ?_
  rotate_left
  · (intro w hSw; (try dsimp only at hSw); go_simp); all_goals with_reducible rfl
  try simp only [Act.put, List.setIfInBounds_toArray, List.set_cons_zero, List.set_cons_succ]
  refine wpAnyH_take (i := 7) (oi := { dst := some 21, op := _, type := _, pos := _, after := _, guard := _ }) (v := ?_) rfl (by kernel_rfl) (by kernel_rfl) (by kernel_rfl) (fun _ _ _ h => h) (Or.inl ⟨by rfl, ?_⟩) hHeld ?_
  rotate_left
  · (intro w hSw; (try dsimp only at hSw); go_simp); all_goals with_reducible rfl
  try simp only [Act.put, List.setIfInBounds_toArray, List.set_cons_zero, List.set_cons_succ]
  refine wpAnyH_take (i := 8) (oi := { dst := some 22, op := _, type := _, pos := _, after := _, guard := _ }) (v := ?_) rfl (by kernel_rfl) (by kernel_rfl) (by kernel_rfl) (fun _ _ _ h => h) (Or.inl ⟨by rfl, ?_⟩) hHeld ?_
  rotate_left
  · (intro w hSw; (try dsimp only at hSw); go_simp); all_goals with_reducible rfl
  try simp only [Act.put, List.setIfInBounds_toArray, List.set_cons_zero, List.set_cons_succ]
  refine wpAnyH_take (i := 9) (oi := { dst := some 23, op := _, type := _, pos := _, after := _, guard := _ }) (v := ?_) rfl (by kernel_rfl) (by kernel_rfl) (by kernel_rfl) (fun _ _ _ h => h) (Or.inl ⟨by rfl, ?_⟩) hHeld ?_
  rotate_left
  · (intro w hSw; (try dsimp only at hSw); go_simp); all_goals with_reducible rfl
  try simp only [Act.put, List.setIfInBounds_toArray, List.set_cons_zero, List.set_cons_succ]
  refine wpAnyH_take (i := 10) (oi := { dst := some 24, op := _, type := _, pos := _, after := _, guard := _ }) (v := ?_) rfl (by kernel_rfl) (by kernel_rfl) (by kernel_rfl) (fun _ _ _ h => h) (Or.inl ⟨by rfl, ?_⟩) hHeld ?_
  rotate_left
  · (intro w hSw; (try dsimp only at hSw); go_simp); all_goals with_reducible rfl
  try simp only [Act.put, List.setIfInBounds_toArray, List.set_cons_zero, List.set_cons_succ]
  refine wpAnyH_take (i := 11) (oi := { dst := some 25, op := _, type := _, pos := _, after := _, guard := _ }) (v := ?_) rfl (by kernel_rfl) (by kernel_rfl) (by kernel_rfl) (fun _ _ _ h => h) (Or.inl ⟨by rfl, ?_⟩) hHeld ?_
  rotate_left
  · (intro w hSw; (try dsimp only at hSw); go_simp); all_goals with_reducible rfl
  try simp only [Act.put, List.setIfInBounds_toArray, List.set_cons_zero, List.set_cons_succ]
  refine wpAnyH_done (by kernel_rfl) ?_ _
  clear hHeld
  go_wp2
  refine wp_region_held_drew (S := (fun W : World => W.cell? ⟨p, 0, none⟩ = some (.slice A xs.length cap) ∧ W.cell? ⟨p, 1, none⟩ = some (.int .i64 (a : Int)))) (by kernel_rfl) ⟨c0, c1⟩ (fun hHeld => ?_)
  refine wpAnyH_take (i := 1) (oi := { dst := some 30, op := _, type := _, pos := _, after := _, guard := _ }) (v := ?_) rfl (by kernel_rfl) (by kernel_rfl) (by kernel_rfl) (fun _ _ _ h => h) (Or.inl ⟨by rfl, ?_⟩) hHeld ?_
  rotate_left
  · (intro w hSw; (try dsimp only at hSw); go_simp); all_goals with_reducible rfl
  try simp only [Act.put, List.setIfInBounds_toArray, List.set_cons_zero, List.set_cons_succ]
  refine wpAnyH_take (i := 2) (oi := { dst := some 31, op := _, type := _, pos := _, after := _, guard := _ }) (v := ?_) rfl (by kernel_rfl) (by kernel_rfl) (by kernel_rfl) (fun _ _ _ h => h) (Or.inl ⟨by rfl, ?_⟩) hHeld ?_
  rotate_left
  · (intro w hSw; (try dsimp only at hSw); go_simp); all_goals with_reducible rfl
  try simp only [Act.put, List.setIfInBounds_toArray, List.set_cons_zero, List.set_cons_succ]
  refine wpAnyH_take (i := 3) (oi := { dst := some 32, op := _, type := _, pos := _, after := _, guard := _ }) (v := ?_) rfl (by kernel_rfl) (by kernel_rfl) (by kernel_rfl) (fun _ _ _ h => h) (Or.inl ⟨by rfl, ?_⟩) hHeld ?_
  rotate_left
  · (intro w hSw; (try dsimp only at hSw); go_simp); all_goals with_reducible rfl
  try simp only [Act.put, List.setIfInBounds_toArray, List.set_cons_zero, List.set_cons_succ]
  refine wpAnyH_take (i := 4) (oi := { dst := some 33, op := _, type := _, pos := _, after := _, guard := _ }) (v := ?_) rfl (by kernel_rfl) (by kernel_rfl) (by kernel_rfl) (fun _ _ _ h => h) (Or.inl ⟨by rfl, ?_⟩) hHeld ?_
  rotate_left
  · (intro w hSw; (try dsimp only at hSw); go_simp); all_goals with_reducible rfl
  try simp only [Act.put, List.setIfInBounds_toArray, List.set_cons_zero, List.set_cons_succ]
  refine wpAnyH_take (i := 5) (oi := { dst := some 34, op := _, type := _, pos := _, after := _, guard := _ }) (v := ?_) rfl (by kernel_rfl) (by kernel_rfl) (by kernel_rfl) (fun _ _ _ h => h) (Or.inl ⟨by rfl, ?_⟩) hHeld ?_
  rotate_left
  · (intro w hSw; (try dsimp only at hSw); go_simp); all_goals with_reducible rfl
  try simp only [Act.put, List.setIfInBounds_toArray, List.set_cons_zero, List.set_cons_succ]
  refine wpAnyH_take (i := 6) (oi := { dst := some 35, op := _, type := _, pos := _, after := _, guard := _ }) (v := ?_) rfl (by kernel_rfl) (by kernel_rfl) (by kernel_rfl) (fun _ _ _ h => h) (Or.inl ⟨by rfl, ?_⟩) hHeld ?_
  rotate_left
  · (intro w hSw; (try dsimp only at hSw); go_simp); all_goals with_reducible rfl
  try simp only [Act.put, List.setIfInBounds_toArray, List.set_cons_zero, List.set_cons_succ]
  refine wpAnyH_take (i := 7) (oi := { dst := some 36, op := _, type := _, pos := _, after := _, guard := _ }) (v := ?_) rfl (by kernel_rfl) (by kernel_rfl) (by kernel_rfl) (fun _ _ _ h => h) (Or.inl ⟨by rfl, ?_⟩) hHeld ?_
  rotate_left
  · (intro w hSw; (try dsimp only at hSw); go_simp); all_goals with_reducible rfl
  try simp only [Act.put, List.setIfInBounds_toArray, List.set_cons_zero, List.set_cons_succ]
  refine wpAnyH_take (i := 8) (oi := { dst := some 37, op := _, type := _, pos := _, after := _, guard := _ }) (v := ?_) rfl (by kernel_rfl) (by kernel_rfl) (by kernel_rfl) (fun _ _ _ h => h) (Or.inl ⟨by rfl, ?_⟩) hHeld ?_
  rotate_left
  · (intro w hSw; (try dsimp only at hSw); go_simp); all_goals with_reducible rfl
  try simp only [Act.put, List.setIfInBounds_toArray, List.set_cons_zero, List.set_cons_succ]
  refine wpAnyH_take (i := 9) (oi := { dst := some 38, op := _, type := _, pos := _, after := _, guard := _ }) (v := ?_) rfl (by kernel_rfl) (by kernel_rfl) (by kernel_rfl) (fun _ _ _ h => h) (Or.inl ⟨by rfl, ?_⟩) hHeld ?_
  rotate_left
  · (intro w hSw; (try dsimp only at hSw); go_simp); all_goals with_reducible rfl
  try simp only [Act.put, List.setIfInBounds_toArray, List.set_cons_zero, List.set_cons_succ]
  refine wpAnyH_take (i := 10) (oi := { dst := some 39, op := _, type := _, pos := _, after := _, guard := _ }) (v := ?_) rfl (by kernel_rfl) (by kernel_rfl) (by kernel_rfl) (fun _ _ _ h => h) (Or.inl ⟨by rfl, ?_⟩) hHeld ?_
  rotate_left
  · (intro w hSw; (try dsimp only at hSw); go_simp); all_goals with_reducible rfl
  try simp only [Act.put, List.setIfInBounds_toArray, List.set_cons_zero, List.set_cons_succ]
  refine wpAnyH_take (i := 11) (oi := { dst := some 40, op := _, type := _, pos := _, after := _, guard := _ }) (v := ?_) rfl (by kernel_rfl) (by kernel_rfl) (by kernel_rfl) (fun _ _ _ h => h) (Or.inl ⟨by rfl, ?_⟩) hHeld ?_
  rotate_left
  · (intro w hSw; (try dsimp only at hSw); go_simp); all_goals with_reducible rfl
  try simp only [Act.put, List.setIfInBounds_toArray, List.set_cons_zero, List.set_cons_succ]
  refine wpAnyH_take (i := 12) (oi := { dst := some 41, op := _, type := _, pos := _, after := _, guard := _ }) (v := ?_) rfl (by kernel_rfl) (by kernel_rfl) (by kernel_rfl) (fun _ _ _ h => h) (Or.inl ⟨by rfl, ?_⟩) hHeld ?_
  rotate_left
  · (intro w hSw; (try dsimp only at hSw); go_simp); all_goals with_reducible rfl
  try simp only [Act.put, List.setIfInBounds_toArray, List.set_cons_zero, List.set_cons_succ]
  refine wpAnyH_take (i := 13) (oi := { dst := some 42, op := _, type := _, pos := _, after := _, guard := _ }) (v := ?_) rfl (by kernel_rfl) (by kernel_rfl) (by kernel_rfl) (fun _ _ _ h => h) (Or.inl ⟨by rfl, ?_⟩) hHeld ?_
  rotate_left
  · (intro w hSw; (try dsimp only at hSw); go_simp); all_goals with_reducible rfl
  try simp only [Act.put, List.setIfInBounds_toArray, List.set_cons_zero, List.set_cons_succ]
  refine wpAnyH_take (i := 14) (oi := { dst := some 43, op := _, type := _, pos := _, after := _, guard := _ }) (v := ?_) rfl (by kernel_rfl) (by kernel_rfl) (by kernel_rfl) (fun _ _ _ h => h) (Or.inl ⟨by rfl, ?_⟩) hHeld ?_
  rotate_left
  · (intro w hSw; (try dsimp only at hSw); go_simp); all_goals with_reducible rfl
  try simp only [Act.put, List.setIfInBounds_toArray, List.set_cons_zero, List.set_cons_succ]
  refine wpAnyH_take (i := 15) (oi := { dst := some 44, op := _, type := _, pos := _, after := _, guard := _ }) (v := ?_) rfl (by kernel_rfl) (by kernel_rfl) (by kernel_rfl) (fun _ _ _ h => h) (Or.inl ⟨by rfl, ?_⟩) hHeld ?_
  rotate_left
  · (intro w hSw; (try dsimp only at hSw); go_simp); all_goals with_reducible rfl
  try simp only [Act.put, List.setIfInBounds_toArray, List.set_cons_zero, List.set_cons_succ]
  refine wpAnyH_ready (rs := [0]) (by kernel_rfl) (by simp) (AllReadyH.cons (o := _) rfl (fun K hK => ?_) AllReadyH.nil)
  go_simp
  have bE : Below w.heap.size w ((w.alloc (.cells #[] 5)).drew.drew) := by (repeat (with_reducible (first | exact Below.refl _ _ | assumption | refine bl_alloc ?_ _ | refine bl_drew ?_ | refine bl_drewN ?_ _ | (refine bl_set ?_ ?_ _; (focus (first | (simp; done) | (simp; omega) | omega))) | refine bl_then ?_ (by assumption))))
  have FE := HF.out.below bE
  have k0 := kb_cell FE.st 0
  have k1 := kb_cell FE.st 1
  simp at k0 k1
  refine hK.out _ _ ⟨k0, k1⟩ (fun hHeld => ?_)
  try simp only [Act.put, List.setIfInBounds_toArray, List.set_cons_zero, List.set_cons_succ]
  refine wpAnyH_ready (rs := [16]) (by kernel_rfl) (by simp) (AllReadyH.cons (o := _) rfl (fun K hK => ?_) AllReadyH.nil)
  rw [if_pos (by rfl)]
  have hOE : ((w.alloc (.cells #[] 5)).drew.drew).ownsRow w.heap.size 5 1 (.slice (some ⟨w.heap.size, 0, none⟩) 0 0) 0 [] := owns_drew (owns_drew (owns_lit0 (kb_new rfl _) (Nat.le_refl _) rfl))
  have hSB := (HS.out _ FE.row).1
  have hlen : ((xs.drop a).take n).length = n := by rw [List.length_take, List.length_drop]; omega
  rw [BytesOf, hlen] at hSB
  refine wp_append_row _ _ _ 32 rfl w.heap.size 5 i0 (.int .u8 0) 1 Try.underlying32 hi hz0 hz1 hz2 rfl _ _ _ rfl hOE _ _ _ rfl hSB (u8s_one _) ?c3 ?c4 ?c5 ?_
  case c3 => unfold maxLen; omega
  case c4 => omega
  case c5 => simp
  intro v' w2 hown' hgrow _ _
  rw [Nat.zero_add, List.nil_append] at hown'
  have b2 : Below w.heap.size w w2 := bE.grown hgrow (by show w.heap.size ≤ _; exact bE.size) (fun j hj => by
    have : w.heap.size = j := by injection hj
    omega)
  have F2 := HF.out.below b2
  have j0 := kb_cell F2.st 0
  have j1 := kb_cell F2.st 1
  simp at j0 j1
  obtain ⟨A2, cap2, hv'⟩ := owns_slice0 hown'
  subst hv'
  refine hK.out _ _ ⟨j0, j1⟩ (fun hHeld => ?_)
  try simp only [Act.put, List.setIfInBounds_toArray, List.set_cons_zero, List.set_cons_succ]
  refine wpAnyH_take (i := 17) (oi := { dst := some 7, op := _, type := _, pos := _, after := _, guard := _ }) (v := ?_) rfl (by kernel_rfl) (by kernel_rfl) (by kernel_rfl) (fun _ _ _ h => h) (Or.inl ⟨by rfl, ?_⟩) hHeld ?_
  rotate_left
  · (intro w hSw; (try dsimp only at hSw); go_simp); all_goals with_reducible rfl
  try simp only [Act.put, List.setIfInBounds_toArray, List.set_cons_zero, List.set_cons_succ]
  refine wpAnyH_done (by kernel_rfl) ?_ _
  have z1 : w2.frozen? ⟨p, 1, none⟩ = false := kb_frozen F2.st 1
  have HF2 := Lib.hid F2
  have HO2 := Lib.hid hown'
  have HB2 := Lib.hid b2
  clear hHeld hK F2 hown' b2 hgrow bE FE k0 k1 hOE hSB c c0 c1 j0
  go_wp2_with fail
  go_ret
  have h1 := HF2.out.put (a + n) hn
  rw [Int.natCast_add] at h1
  have k3 : Keep (fun b => b = p) w (w2.setCell ⟨p, 1, none⟩ (.int .i64 ((a : Int) + (n : Int)))) := (Keep.of_below (S := fun b => b = p) HB2.out).set (p := ⟨p, 1, none⟩) (fun _ => rfl) _
  have hne : (Value.slice A2 n cap2).ownBlock ≠ some p := fun h => by have := (HO2.out.lt p h).1; omega
  exact ⟨_, rfl, own_set HO2.out hne, h1, k3⟩
end Go.Proofs.Ytajlcodlaalomaa
