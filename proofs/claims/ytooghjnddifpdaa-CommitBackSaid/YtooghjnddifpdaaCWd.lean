/- The document's reader: Fails, take. · The document's reader: NewReader, Rest, End, Num. · The document's reader: Num. · The document's reader: Num, whole. Printed by wip/rnums.py. · The document's reader: Bytes, Text, Word, Bool, Of. · The document's reader: Word, Bool, Of, Pace. · The document's reader: Of, Pace. · The document's reader: Hash, Key. Printed by wip/rarrs.py. -/
import Derived.Test.YtooghjnddifpdaaCWc
section
namespace Go.Proofs.Ytooghjnddifpdaa
open Go.RowKit Go.Proofs.Ytooghjnddifpdaa.Wi Go.Proofs.Ytooghjnddifpdaa.Pc
attribute [local go_sem] cell_alloc_some frozen_alloc_some
set_option linter.unusedSimpArgs false
set_option linter.unusedVariables false

/-- The document's reader. -/
structure RRd (w : World) (B p : Nat) (s : Value) (xs : List UInt8) (at' : Nat) (e f : Int) : Prop where
  st : w.heap[p]? = some (.cells #[s, .int .i64 (at' : Int), .int .i64 e, .int .i64 f] 124 (0, 0))
  row : w.ownsRow B 5 1 s xs.length (u8s xs)
  lp : B ≤ p
  len : xs.length ≤ 2097152
  le : at' ≤ xs.length
theorem RRd.keep {w w' : World} {B p s xs a e f} {S : Nat → Prop} (h : RRd w B p s xs a e f) (k : Keep S w w') (h1 : ¬ S p) (h2 : ∀ b, s.ownBlock = some b → ¬ S b) : RRd w' B p s xs a e f where
  st := k.kb h.st h1
  row := k.row h.row h2
  lp := h.lp
  len := h.len
  le := h.le
theorem RRd.below {w w' : World} {B p s xs a e f} (h : RRd w B p s xs a e f) (k : Below w.heap.size w w') : RRd w' B p s xs a e f := h.keep (S := fun _ => False) (Keep.of_below k) (fun x => x) fun _ _ x => x
theorem RRd.put {w : World} {B p s xs a e f} (h : RRd w B p s xs a e f) (a' : Nat) (h' : a' ≤ xs.length) : RRd (w.setCell ⟨p, 1, none⟩ (.int .i64 (a' : Int))) B p s xs a' e f where
  st := kb_set h.st _
  row := own_set h.row (own_ne h.row h.st (by decide))
  lp := h.lp
  len := h.len
  le := h'
theorem RRd.fault {w : World} {B p s xs a e f} (h : RRd w B p s xs a e f) (e' f' : Int) : RRd ((w.setCell ⟨p, 2, none⟩ (.int .i64 e')).setCell ⟨p, 3, none⟩ (.int .i64 f')) B p s xs a e' f' where
  st := by have := kb_set (kb_set h.st (i := 2) (.int .i64 e')) (i := 3) (.int .i64 f'); simpa using this
  row := by
    have hne := own_ne h.row h.st (by decide)
    exact own_set (own_set h.row hne) hne
  lp := h.lp
  len := h.len
  le := h.le
def RRdO (w : World) (B p : Nat) (s : Value) (xs : List UInt8) : St → Prop
  | .at a => RRd w B p s xs a 0 0
  | .bad e f => e ≠ 0 ∧ ∃ a, RRd w B p s xs a e f
theorem RRdO.keep {w w' : World} {B p s xs st} {S : Nat → Prop} (h : RRdO w B p s xs st) (k : Keep S w w') (h1 : ¬ S p) (h2 : ∀ b, s.ownBlock = some b → ¬ S b) : RRdO w' B p s xs st := by
  cases st with
  | «at» a => exact RRd.keep h k h1 h2
  | bad e f => exact ⟨h.1, h.2.choose, h.2.choose_spec.keep k h1 h2⟩
theorem RRdO.below {w w' : World} {B p s xs st} (h : RRdO w B p s xs st) (k : Below w.heap.size w w') : RRdO w' B p s xs st := h.keep (S := fun _ => False) (Keep.of_below k) (fun x => x) fun _ _ x => x
theorem RRdO.ltp {w : World} {B p s xs st} (h : RRdO w B p s xs st) : p < w.heap.size := by
  cases st with
  | «at» a => exact kb_lt (RRd.st h)
  | bad e f => exact kb_lt h.2.choose_spec.st
theorem RRdO.lp {w : World} {B p s xs st} (h : RRdO w B p s xs st) : B ≤ p := by
  cases st with
  | «at» a => exact RRd.lp h
  | bad e f => exact h.2.choose_spec.lp
theorem RRdO.low {w : World} {B p s xs st} (h : RRdO w B p s xs st) : ∀ b, s.ownBlock = some b → B ≤ b ∧ b < w.heap.size := by
  cases st with
  | «at» a => exact RRd.row h |>.lt
  | bad e f => exact h.2.choose_spec.row.lt
/-- What a method of the document's reader does. -/
def RDid {α : Type} (w : World) (B p : Nat) (s : Value) (xs : List UInt8) (r : α × St) (V : α → World → Value → Prop) : Ending → World → Prop := fun e w' =>
  ∃ u, e = .returned u ∧ V r.1 w' u ∧ RRdO w' B p s xs r.2 ∧ Keep (fun b => b = p) w w'

theorem rFails_at {w : World} {B p : Nat} {s : Value} {xs : List UInt8} {a : Nat} (e f : Nat) (F : RRd w B p s xs a 0 0) :
    Calls Try.prog 90 #[.pointer (some ⟨p, 0, none⟩), .int .i64 e, .int .i64 f] w fun x w' => x = .returned (.tuple #[]) ∧ RRd w' B p s xs a e f ∧ Keep (fun b => b = p) w w' := by
  have c := kb_cell F.st
  have z := kb_frozen F.st
  have HF := Lib.hid F
  clear F
  go_enter Try.func90, Try.ntmps90
  go_wp2
  go_end0
  exact ⟨rfl, HF.out.fault _ _, ((Keep.refl (fun b => b = p) w).set (p := ⟨p, 2, none⟩) (fun _ => rfl) _).set (p := ⟨p, 3, none⟩) (fun _ => rfl) _⟩
theorem rFails_bad {w : World} {B p : Nat} {s : Value} {xs : List UInt8} {a : Nat} {er fr : Nat} (e f : Nat) (F : RRd w B p s xs a er fr) (he : er ≠ 0) :
    Calls Try.prog 90 #[.pointer (some ⟨p, 0, none⟩), .int .i64 e, .int .i64 f] w fun x w' => x = .returned (.tuple #[]) ∧ w = w' := by
  have c := kb_cell F.st
  have h0 : ((er : Int) == 0) = false := by simpa using he
  have h0' : (er == 0) = false := by simpa using he
  clear F
  go_enter Try.func90, Try.ntmps90
  go_wp2
  go_end0
  exact ⟨rfl, rfl⟩

/-- append onto a row of the call's own, as an operation of a region that draws. -/
theorem wp_append_row {P : Program} (w : World) {o : Oper} {a : Act} {K : Act → World → Prop} {Q : Exit → Act → World → Prop} (s x : Operand) (t : TypeId)
    (ho : o.op = .call { callee := .builtin .append, args := #[s, x], argTypes := #[t, t] })
    (base : Nat) (e : TypeId) (i : TypeInfo) (z : Value) (bytes : Nat) (ht : P.underlying t = some (.slice e)) (hi : P.info? e = some i) (hz : i.zero = some z)
    (hsize : i.size = 1) (hby : i.bytes = bytes) (hzs : z.cells.size = 1)
    (v : Value) (n : Nat) (xs : List Value) (hs : a.eval s = v) (hown : w.ownsRow base e 1 v n xs)
    (u : Value) (m : Nat) (news : List Value) (hx : a.eval x = u) (hu : RowOf w u m news) (h1 : ∀ u ∈ news, u.oneCell' = true)
    (h63 : n + m ≤ maxLen) (hbytes : (n + m) * bytes ≤ 140737488355328) (hbase : base ≤ w.heap.size)
    (h : ∀ v' w', w'.ownsRow base e 1 v' (n + m) (xs ++ news) → w.grownBy w' v.ownBlock → (v' = .slice none 0 0 ↔ v = .slice none 0 0 ∧ m = 0) → (v'.ownBlock = v.ownBlock ∨ v'.ownBlock = some w.heap.size) → K (a.put o.dst v') w') :
    o.wp P a w K Q := by
  obtain ⟨v', w', hr, h2, h3, h4, h5⟩ := run_append_row (P := P) w base t o.type e i z bytes ht hi hz hsize hby hzs v n xs hown u m news hu h1 h63 hbytes hbase
  unfold Oper.wp execOp
  simp only [ho, resolve, invoke, builtin, Sem.run_bind, Sem.run_pure, Result.andThen_ok, List.map_toArray, List.map_cons, List.map_nil, hs, hx, hr]
  exact h v' w' h2 h3 h4 h5

theorem rTake_bad {w : World} {B p : Nat} {s : Value} {xs : List UInt8} {a : Nat} {er fr : Nat} (n f : Int) (F : RRd w B p s xs a er fr) (he : er ≠ 0) :
    Calls Try.prog 89 #[.pointer (some ⟨p, 0, none⟩), .int .i64 n, .int .i64 f] w fun x w' => x = .returned (.slice none 0 0) ∧ w = w' := by
  have c := kb_cell F.st
  have h0 : ((er : Int) != 0) = true := by simpa using he
  have h0' : (er != 0) = true := by simpa using he
  clear F
  go_enter Try.func89, Try.ntmps89
  go_wp2
  go_ret
  exact ⟨rfl, rfl⟩
set_option maxHeartbeats 1000000 in
theorem rTake_short {w : World} {B p : Nat} {s : Value} {xs : List UInt8} {a : Nat} (n f : Nat) (F : RRd w B p s xs a 0 0) (hn : xs.length < a + n) (h63 : n < 9223372036854775808) :
    Calls Try.prog 89 #[.pointer (some ⟨p, 0, none⟩), .int .i64 n, .int .i64 f] w fun x w' => x = .returned (.slice none 0 0) ∧ RRd w' B p s xs a 6 f ∧ Keep (fun b => b = p) w w' := by
  obtain ⟨A, cap, rfl⟩ := (RowOf.of_own F.row).form
  have c := kb_cell F.st
  have c0 := c 0
  have c1 := c 1
  simp at c0 c1
  have hd : decide ((xs.length : Int) - (a : Int) < (n : Int)) = true := decide_eq_true (by omega)
  have hw : IntKind.i64.wrap ((xs.length : Int) - (a : Int)) = (xs.length : Int) - (a : Int) := IntWalk.i64_in _ (by have := F.len; have := F.le; omega)
  have HF := Lib.hid F
  clear F
  go_enter Try.func89, Try.ntmps89
  go_wp2
  refine wp_region_held_drew (S := (fun W : World => W.cell? ⟨p, 0, none⟩ = some (.slice A xs.length cap) ∧ W.cell? ⟨p, 1, none⟩ = some (.int .i64 (a : Int)))) (by kernel_rfl) ⟨c0, c1⟩ (fun hHeld => ?_)
  refine wpAnyH_take (i := 0) (oi := { dst := some 14, op := _, type := _, pos := _, after := _, guard := _ }) (v := ?_) rfl (by kernel_rfl) (by kernel_rfl) (by kernel_rfl) (fun _ _ _ h => h) (Or.inl ⟨by rfl, ?_⟩) hHeld ?_
  rotate_left
  · (intro w hSw; (try dsimp only at hSw); go_simp); all_goals with_reducible rfl
  try simp only [Act.put, List.setIfInBounds_toArray, List.set_cons_zero, List.set_cons_succ]
  refine wpAnyH_take (i := 1) (oi := { dst := some 15, op := _, type := _, pos := _, after := _, guard := _ }) (v := ?_) rfl (by kernel_rfl) (by kernel_rfl) (by kernel_rfl) (fun _ _ _ h => h) (Or.inl ⟨by rfl, ?_⟩) hHeld ?_
  rotate_left
  · (intro w hSw; (try dsimp only at hSw); go_simp); all_goals with_reducible rfl
  try simp only [Act.put, List.setIfInBounds_toArray, List.set_cons_zero, List.set_cons_succ]
  refine wpAnyH_take (i := 2) (oi := { dst := some 16, op := _, type := _, pos := _, after := _, guard := _ }) (v := ?_) rfl (by kernel_rfl) (by kernel_rfl) (by kernel_rfl) (fun _ _ _ h => h) (Or.inl ⟨by rfl, ?_⟩) hHeld ?_
  rotate_left
  · (intro w hSw; (try dsimp only at hSw); go_simp); all_goals with_reducible rfl
  try simp only [Act.put, List.setIfInBounds_toArray, List.set_cons_zero, List.set_cons_succ]
  refine wpAnyH_take (i := 3) (oi := { dst := some 17, op := _, type := _, pos := _, after := _, guard := _ }) (v := ?_) rfl (by kernel_rfl) (by kernel_rfl) (by kernel_rfl) (fun _ _ _ h => h) (Or.inl ⟨by rfl, ?_⟩) hHeld ?_
  rotate_left
  · (intro w hSw; (try dsimp only at hSw); go_simp); all_goals with_reducible rfl
  try simp only [Act.put, List.setIfInBounds_toArray, List.set_cons_zero, List.set_cons_succ]
  refine wpAnyH_take (i := 4) (oi := { dst := some 18, op := _, type := _, pos := _, after := _, guard := _ }) (v := ?_) rfl (by kernel_rfl) (by kernel_rfl) (by kernel_rfl) (fun _ _ _ h => h) (Or.inl ⟨by rfl, ?_⟩) hHeld ?_
  rotate_left
  · (intro w hSw; (try dsimp only at hSw); go_simp); all_goals with_reducible rfl
  try simp only [Act.put, List.setIfInBounds_toArray, List.set_cons_zero, List.set_cons_succ]
  refine wpAnyH_take (i := 5) (oi := { dst := some 19, op := _, type := _, pos := _, after := _, guard := _ }) (v := ?_) rfl (by kernel_rfl) (by kernel_rfl) (by kernel_rfl) (fun _ _ _ h => h) (Or.inl ⟨by rfl, ?_⟩) hHeld ?_
  rotate_left
  · (intro w hSw; (try dsimp only at hSw); go_simp); all_goals with_reducible rfl
  try simp only [Act.put, List.setIfInBounds_toArray, List.set_cons_zero, List.set_cons_succ]
  refine wpAnyH_take (i := 6) (oi := { dst := some 20, op := _, type := _, pos := _, after := _, guard := _ }) (v := ?_) rfl (by kernel_rfl) (by kernel_rfl) (by kernel_rfl) (fun _ _ _ h => h) (Or.inl ⟨by rfl, ?_⟩) hHeld ?_
  rotate_left
  · (intro w hSw; (try dsimp only at hSw); go_simp); all_goals with_reducible rfl
  try simp only [Act.put, List.setIfInBounds_toArray, List.set_cons_zero, List.set_cons_succ]
  refine wpAnyH_take (i := 7) (oi := { dst := some 21, op := _, type := _, pos := _, after := _, guard := _ }) (v := ?_) rfl (by kernel_rfl) (by kernel_rfl) (by kernel_rfl) (fun _ _ _ h => h) (Or.inl ⟨by rfl, ?_⟩) hHeld ?_
  rotate_left
  · (intro w hSw; (try dsimp only at hSw); go_simp); all_goals with_reducible rfl
  try simp only [Act.put, List.setIfInBounds_toArray, List.set_cons_zero, List.set_cons_succ]
  refine wpAnyH_take (i := 8) (oi := { dst := some 22, op := _, type := _, pos := _, after := _, guard := _ }) (v := ?_) rfl (by kernel_rfl) (by kernel_rfl) (by kernel_rfl) (fun _ _ _ h => h) (Or.inl ⟨by rfl, ?_⟩) hHeld ?_
  rotate_left
  · (intro w hSw; (try dsimp only at hSw); go_simp); all_goals with_reducible rfl
  try simp only [Act.put, List.setIfInBounds_toArray, List.set_cons_zero, List.set_cons_succ]
  refine wpAnyH_take (i := 9) (oi := { dst := some 23, op := _, type := _, pos := _, after := _, guard := _ }) (v := ?_) rfl (by kernel_rfl) (by kernel_rfl) (by kernel_rfl) (fun _ _ _ h => h) (Or.inl ⟨by rfl, ?_⟩) hHeld ?_
  rotate_left
  · (intro w hSw; (try dsimp only at hSw); go_simp); all_goals with_reducible rfl
  try simp only [Act.put, List.setIfInBounds_toArray, List.set_cons_zero, List.set_cons_succ]
  refine wpAnyH_take (i := 10) (oi := { dst := some 24, op := _, type := _, pos := _, after := _, guard := _ }) (v := ?_) rfl (by kernel_rfl) (by kernel_rfl) (by kernel_rfl) (fun _ _ _ h => h) (Or.inl ⟨by rfl, ?_⟩) hHeld ?_
  rotate_left
  · (intro w hSw; (try dsimp only at hSw); go_simp); all_goals with_reducible rfl
  try simp only [Act.put, List.setIfInBounds_toArray, List.set_cons_zero, List.set_cons_succ]
  refine wpAnyH_take (i := 11) (oi := { dst := some 25, op := _, type := _, pos := _, after := _, guard := _ }) (v := ?_) rfl (by kernel_rfl) (by kernel_rfl) (by kernel_rfl) (fun _ _ _ h => h) (Or.inl ⟨by rfl, ?_⟩) hHeld ?_
  rotate_left
  · (intro w hSw; (try dsimp only at hSw); go_simp); all_goals with_reducible rfl
  try simp only [Act.put, List.setIfInBounds_toArray, List.set_cons_zero, List.set_cons_succ]
  refine wpAnyH_done (by kernel_rfl) ?_ _
  clear hHeld c c0 c1
  go_wp2_with fail
  refine (rFails_at 6 f (HF.out.below (bl_drew (Below.refl _ _)))).mono ?_
  rintro e w' ⟨rfl, F2, k2⟩
  have HF2 := Lib.hid F2
  have HK2 := Lib.hid k2
  clear F2 k2
  go_wp2_with fail
  go_ret
  exact ⟨rfl, HF2.out, Keep.after (bl_drew (Below.refl _ _)) HK2.out⟩
set_option maxRecDepth 100000 in
set_option maxHeartbeats 2000000 in
theorem rTake_ok {w : World} {B p : Nat} {s : Value} {xs : List UInt8} {a : Nat} (n f : Nat) (F : RRd w B p s xs a 0 0) (hn : a + n ≤ xs.length) :
    Calls Try.prog 89 #[.pointer (some ⟨p, 0, none⟩), .int .i64 n, .int .i64 f] w fun x w' => ∃ v, x = .returned v ∧ w'.ownsRow w.heap.size 5 1 v n (u8s ((xs.drop a).take n)) ∧ RRd w' B p s xs (a + n) 0 0 ∧ Keep (fun b => b = p) w w' := by
  obtain ⟨A, cap, rfl⟩ := (RowOf.of_own F.row).form
  have c := kb_cell F.st
  have c0 := c 0
  have c1 := c 1
  simp at c0 c1
  have hlt := kb_lt F.st
  have hle := F.len
  have hd : decide ((xs.length : Int) - (a : Int) < (n : Int)) = false := decide_eq_false (by omega)
  have hw : IntKind.i64.wrap ((xs.length : Int) - (a : Int)) = (xs.length : Int) - (a : Int) := IntWalk.i64_in _ (by have := F.len; have := F.le; omega)
  have hw2 : IntKind.i64.wrap ((a : Int) + (n : Int)) = (a : Int) + (n : Int) := IntWalk.i64_in _ (by omega)
  obtain ⟨A', hsl, hsb⟩ := part_run F.row a n hn
  obtain ⟨i0, hi, hz0, hz1, hz2⟩ := info_parts infoU
  have HF := Lib.hid F
  have HS := Lib.hid hsb
  clear F hsb
  go_enter Try.func89, Try.ntmps89
  go_wp2
  refine wp_region_held_drew (S := (fun W : World => W.cell? ⟨p, 0, none⟩ = some (.slice A xs.length cap) ∧ W.cell? ⟨p, 1, none⟩ = some (.int .i64 (a : Int)))) (by kernel_rfl) ⟨c0, c1⟩ (fun hHeld => ?_)
  refine wpAnyH_take (i := 0) (oi := { dst := some 14, op := _, type := _, pos := _, after := _, guard := _ }) (v := ?_) rfl (by kernel_rfl) (by kernel_rfl) (by kernel_rfl) (fun _ _ _ h => h) (Or.inl ⟨by rfl, ?_⟩) hHeld ?_
  rotate_left
  · (intro w hSw; (try dsimp only at hSw); go_simp); all_goals with_reducible rfl
  try simp only [Act.put, List.setIfInBounds_toArray, List.set_cons_zero, List.set_cons_succ]
  refine wpAnyH_take (i := 1) (oi := { dst := some 15, op := _, type := _, pos := _, after := _, guard := _ }) (v := ?_) rfl (by kernel_rfl) (by kernel_rfl) (by kernel_rfl) (fun _ _ _ h => h) (Or.inl ⟨by rfl, ?_⟩) hHeld ?_
  rotate_left
  · (intro w hSw; (try dsimp only at hSw); go_simp); all_goals with_reducible rfl
  try simp only [Act.put, List.setIfInBounds_toArray, List.set_cons_zero, List.set_cons_succ]
  refine wpAnyH_take (i := 2) (oi := { dst := some 16, op := _, type := _, pos := _, after := _, guard := _ }) (v := ?_) rfl (by kernel_rfl) (by kernel_rfl) (by kernel_rfl) (fun _ _ _ h => h) (Or.inl ⟨by rfl, ?_⟩) hHeld ?_
  rotate_left
  · (intro w hSw; (try dsimp only at hSw); go_simp); all_goals with_reducible rfl
  try simp only [Act.put, List.setIfInBounds_toArray, List.set_cons_zero, List.set_cons_succ]
  refine wpAnyH_take (i := 3) (oi := { dst := some 17, op := _, type := _, pos := _, after := _, guard := _ }) (v := ?_) rfl (by kernel_rfl) (by kernel_rfl) (by kernel_rfl) (fun _ _ _ h => h) (Or.inl ⟨by rfl, ?_⟩) hHeld ?_
  rotate_left
  · (intro w hSw; (try dsimp only at hSw); go_simp); all_goals with_reducible rfl
  try simp only [Act.put, List.setIfInBounds_toArray, List.set_cons_zero, List.set_cons_succ]
  refine wpAnyH_take (i := 4) (oi := { dst := some 18, op := _, type := _, pos := _, after := _, guard := _ }) (v := ?_) rfl (by kernel_rfl) (by kernel_rfl) (by kernel_rfl) (fun _ _ _ h => h) (Or.inl ⟨by rfl, ?_⟩) hHeld ?_
  rotate_left
  · (intro w hSw; (try dsimp only at hSw); go_simp); all_goals with_reducible rfl
  try simp only [Act.put, List.setIfInBounds_toArray, List.set_cons_zero, List.set_cons_succ]
  refine wpAnyH_take (i := 5) (oi := { dst := some 19, op := _, type := _, pos := _, after := _, guard := _ }) (v := ?_) rfl (by kernel_rfl) (by kernel_rfl) (by kernel_rfl) (fun _ _ _ h => h) (Or.inl ⟨by rfl, ?_⟩) hHeld ?_
  rotate_left
  · (intro w hSw; (try dsimp only at hSw); go_simp); all_goals with_reducible rfl
  try simp only [Act.put, List.setIfInBounds_toArray, List.set_cons_zero, List.set_cons_succ]
  refine wpAnyH_take (i := 6) (oi := { dst := some 20, op := _, type := _, pos := _, after := _, guard := _ }) (v := ?_) rfl (by kernel_rfl) (by kernel_rfl) (by kernel_rfl) (fun _ _ _ h => h) (Or.inl ⟨by rfl, ?_⟩) hHeld ?_
  rotate_left
  · (intro w hSw; (try dsimp only at hSw); go_simp); all_goals with_reducible rfl
  try simp only [Act.put, List.setIfInBounds_toArray, List.set_cons_zero, List.set_cons_succ]
  refine wpAnyH_take (i := 7) (oi := { dst := some 21, op := _, type := _, pos := _, after := _, guard := _ }) (v := ?_) rfl (by kernel_rfl) (by kernel_rfl) (by kernel_rfl) (fun _ _ _ h => h) (Or.inl ⟨by rfl, ?_⟩) hHeld ?_
  rotate_left
  · (intro w hSw; (try dsimp only at hSw); go_simp); all_goals with_reducible rfl
  try simp only [Act.put, List.setIfInBounds_toArray, List.set_cons_zero, List.set_cons_succ]
  refine wpAnyH_take (i := 8) (oi := { dst := some 22, op := _, type := _, pos := _, after := _, guard := _ }) (v := ?_) rfl (by kernel_rfl) (by kernel_rfl) (by kernel_rfl) (fun _ _ _ h => h) (Or.inl ⟨by rfl, ?_⟩) hHeld ?_
  rotate_left
  · (intro w hSw; (try dsimp only at hSw); go_simp); all_goals with_reducible rfl
  try simp only [Act.put, List.setIfInBounds_toArray, List.set_cons_zero, List.set_cons_succ]
  refine wpAnyH_take (i := 9) (oi := { dst := some 23, op := _, type := _, pos := _, after := _, guard := _ }) (v := ?_) rfl (by kernel_rfl) (by kernel_rfl) (by kernel_rfl) (fun _ _ _ h => h) (Or.inl ⟨by rfl, ?_⟩) hHeld ?_
  rotate_left
  · (intro w hSw; (try dsimp only at hSw); go_simp); all_goals with_reducible rfl
  try simp only [Act.put, List.setIfInBounds_toArray, List.set_cons_zero, List.set_cons_succ]
  refine wpAnyH_take (i := 10) (oi := { dst := some 24, op := _, type := _, pos := _, after := _, guard := _ }) (v := ?_) rfl (by kernel_rfl) (by kernel_rfl) (by kernel_rfl) (fun _ _ _ h => h) (Or.inl ⟨by rfl, ?_⟩) hHeld ?_
  rotate_left
  · (intro w hSw; (try dsimp only at hSw); go_simp); all_goals with_reducible rfl
  try simp only [Act.put, List.setIfInBounds_toArray, List.set_cons_zero, List.set_cons_succ]
  refine wpAnyH_take (i := 11) (oi := { dst := some 25, op := _, type := _, pos := _, after := _, guard := _ }) (v := ?_) rfl (by kernel_rfl) (by kernel_rfl) (by kernel_rfl) (fun _ _ _ h => h) (Or.inl ⟨by rfl, ?_⟩) hHeld ?_
  rotate_left
  · (intro w hSw; (try dsimp only at hSw); go_simp); all_goals with_reducible rfl
  try simp only [Act.put, List.setIfInBounds_toArray, List.set_cons_zero, List.set_cons_succ]
  refine wpAnyH_done (by kernel_rfl) ?_ _
  clear hHeld
  go_wp2
  refine wp_region_held_drew (S := (fun W : World => W.cell? ⟨p, 0, none⟩ = some (.slice A xs.length cap) ∧ W.cell? ⟨p, 1, none⟩ = some (.int .i64 (a : Int)))) (by kernel_rfl) ⟨c0, c1⟩ (fun hHeld => ?_)
  refine wpAnyH_take (i := 1) (oi := { dst := some 30, op := _, type := _, pos := _, after := _, guard := _ }) (v := ?_) rfl (by kernel_rfl) (by kernel_rfl) (by kernel_rfl) (fun _ _ _ h => h) (Or.inl ⟨by rfl, ?_⟩) hHeld ?_
  rotate_left
  · (intro w hSw; (try dsimp only at hSw); go_simp); all_goals with_reducible rfl
  try simp only [Act.put, List.setIfInBounds_toArray, List.set_cons_zero, List.set_cons_succ]
  refine wpAnyH_take (i := 2) (oi := { dst := some 31, op := _, type := _, pos := _, after := _, guard := _ }) (v := ?_) rfl (by kernel_rfl) (by kernel_rfl) (by kernel_rfl) (fun _ _ _ h => h) (Or.inl ⟨by rfl, ?_⟩) hHeld ?_
  rotate_left
  · (intro w hSw; (try dsimp only at hSw); go_simp); all_goals with_reducible rfl
  try simp only [Act.put, List.setIfInBounds_toArray, List.set_cons_zero, List.set_cons_succ]
  refine wpAnyH_take (i := 3) (oi := { dst := some 32, op := _, type := _, pos := _, after := _, guard := _ }) (v := ?_) rfl (by kernel_rfl) (by kernel_rfl) (by kernel_rfl) (fun _ _ _ h => h) (Or.inl ⟨by rfl, ?_⟩) hHeld ?_
  rotate_left
  · (intro w hSw; (try dsimp only at hSw); go_simp); all_goals with_reducible rfl
  try simp only [Act.put, List.setIfInBounds_toArray, List.set_cons_zero, List.set_cons_succ]
  refine wpAnyH_take (i := 4) (oi := { dst := some 33, op := _, type := _, pos := _, after := _, guard := _ }) (v := ?_) rfl (by kernel_rfl) (by kernel_rfl) (by kernel_rfl) (fun _ _ _ h => h) (Or.inl ⟨by rfl, ?_⟩) hHeld ?_
  rotate_left
  · (intro w hSw; (try dsimp only at hSw); go_simp); all_goals with_reducible rfl
  try simp only [Act.put, List.setIfInBounds_toArray, List.set_cons_zero, List.set_cons_succ]
  refine wpAnyH_take (i := 5) (oi := { dst := some 34, op := _, type := _, pos := _, after := _, guard := _ }) (v := ?_) rfl (by kernel_rfl) (by kernel_rfl) (by kernel_rfl) (fun _ _ _ h => h) (Or.inl ⟨by rfl, ?_⟩) hHeld ?_
  rotate_left
  · (intro w hSw; (try dsimp only at hSw); go_simp); all_goals with_reducible rfl
  try simp only [Act.put, List.setIfInBounds_toArray, List.set_cons_zero, List.set_cons_succ]
  refine wpAnyH_take (i := 6) (oi := { dst := some 35, op := _, type := _, pos := _, after := _, guard := _ }) (v := ?_) rfl (by kernel_rfl) (by kernel_rfl) (by kernel_rfl) (fun _ _ _ h => h) (Or.inl ⟨by rfl, ?_⟩) hHeld ?_
  rotate_left
  · (intro w hSw; (try dsimp only at hSw); go_simp); all_goals with_reducible rfl
  try simp only [Act.put, List.setIfInBounds_toArray, List.set_cons_zero, List.set_cons_succ]
  refine wpAnyH_take (i := 7) (oi := { dst := some 36, op := _, type := _, pos := _, after := _, guard := _ }) (v := ?_) rfl (by kernel_rfl) (by kernel_rfl) (by kernel_rfl) (fun _ _ _ h => h) (Or.inl ⟨by rfl, ?_⟩) hHeld ?_
  rotate_left
  · (intro w hSw; (try dsimp only at hSw); go_simp); all_goals with_reducible rfl
  try simp only [Act.put, List.setIfInBounds_toArray, List.set_cons_zero, List.set_cons_succ]
  refine wpAnyH_take (i := 8) (oi := { dst := some 37, op := _, type := _, pos := _, after := _, guard := _ }) (v := ?_) rfl (by kernel_rfl) (by kernel_rfl) (by kernel_rfl) (fun _ _ _ h => h) (Or.inl ⟨by rfl, ?_⟩) hHeld ?_
  rotate_left
  · (intro w hSw; (try dsimp only at hSw); go_simp); all_goals with_reducible rfl
  try simp only [Act.put, List.setIfInBounds_toArray, List.set_cons_zero, List.set_cons_succ]
  refine wpAnyH_take (i := 9) (oi := { dst := some 38, op := _, type := _, pos := _, after := _, guard := _ }) (v := ?_) rfl (by kernel_rfl) (by kernel_rfl) (by kernel_rfl) (fun _ _ _ h => h) (Or.inl ⟨by rfl, ?_⟩) hHeld ?_
  rotate_left
  · (intro w hSw; (try dsimp only at hSw); go_simp); all_goals with_reducible rfl
  try simp only [Act.put, List.setIfInBounds_toArray, List.set_cons_zero, List.set_cons_succ]
  refine wpAnyH_take (i := 10) (oi := { dst := some 39, op := _, type := _, pos := _, after := _, guard := _ }) (v := ?_) rfl (by kernel_rfl) (by kernel_rfl) (by kernel_rfl) (fun _ _ _ h => h) (Or.inl ⟨by rfl, ?_⟩) hHeld ?_
  rotate_left
  · (intro w hSw; (try dsimp only at hSw); go_simp); all_goals with_reducible rfl
  try simp only [Act.put, List.setIfInBounds_toArray, List.set_cons_zero, List.set_cons_succ]
  refine wpAnyH_take (i := 11) (oi := { dst := some 40, op := _, type := _, pos := _, after := _, guard := _ }) (v := ?_) rfl (by kernel_rfl) (by kernel_rfl) (by kernel_rfl) (fun _ _ _ h => h) (Or.inl ⟨by rfl, ?_⟩) hHeld ?_
  rotate_left
  · (intro w hSw; (try dsimp only at hSw); go_simp); all_goals with_reducible rfl
  try simp only [Act.put, List.setIfInBounds_toArray, List.set_cons_zero, List.set_cons_succ]
  refine wpAnyH_take (i := 12) (oi := { dst := some 41, op := _, type := _, pos := _, after := _, guard := _ }) (v := ?_) rfl (by kernel_rfl) (by kernel_rfl) (by kernel_rfl) (fun _ _ _ h => h) (Or.inl ⟨by rfl, ?_⟩) hHeld ?_
  rotate_left
  · (intro w hSw; (try dsimp only at hSw); go_simp); all_goals with_reducible rfl
  try simp only [Act.put, List.setIfInBounds_toArray, List.set_cons_zero, List.set_cons_succ]
  refine wpAnyH_take (i := 13) (oi := { dst := some 42, op := _, type := _, pos := _, after := _, guard := _ }) (v := ?_) rfl (by kernel_rfl) (by kernel_rfl) (by kernel_rfl) (fun _ _ _ h => h) (Or.inl ⟨by rfl, ?_⟩) hHeld ?_
  rotate_left
  · (intro w hSw; (try dsimp only at hSw); go_simp); all_goals with_reducible rfl
  try simp only [Act.put, List.setIfInBounds_toArray, List.set_cons_zero, List.set_cons_succ]
  refine wpAnyH_take (i := 14) (oi := { dst := some 43, op := _, type := _, pos := _, after := _, guard := _ }) (v := ?_) rfl (by kernel_rfl) (by kernel_rfl) (by kernel_rfl) (fun _ _ _ h => h) (Or.inl ⟨by rfl, ?_⟩) hHeld ?_
  rotate_left
  · (intro w hSw; (try dsimp only at hSw); go_simp); all_goals with_reducible rfl
  try simp only [Act.put, List.setIfInBounds_toArray, List.set_cons_zero, List.set_cons_succ]
  refine wpAnyH_take (i := 15) (oi := { dst := some 44, op := _, type := _, pos := _, after := _, guard := _ }) (v := ?_) rfl (by kernel_rfl) (by kernel_rfl) (by kernel_rfl) (fun _ _ _ h => h) (Or.inl ⟨by rfl, ?_⟩) hHeld ?_
  rotate_left
  · (intro w hSw; (try dsimp only at hSw); go_simp); all_goals with_reducible rfl
  try simp only [Act.put, List.setIfInBounds_toArray, List.set_cons_zero, List.set_cons_succ]
  refine wpAnyH_ready (rs := [0]) (by kernel_rfl) (by simp) (AllReadyH.cons (o := _) rfl (fun K hK => ?_) AllReadyH.nil)
  go_simp
  have bE : Below w.heap.size w ((w.alloc (.cells #[] 5)).drew.drew) := by (repeat (with_reducible (first | exact Below.refl _ _ | assumption | refine bl_alloc ?_ _ | refine bl_drew ?_ | refine bl_drewN ?_ _ | (refine bl_set ?_ ?_ _; (focus (first | (simp; done) | (simp; omega) | omega))) | refine bl_then ?_ (by assumption))))
  have FE := HF.out.below bE
  have k0 := kb_cell FE.st 0
  have k1 := kb_cell FE.st 1
  simp at k0 k1
  refine hK.out _ _ ⟨k0, k1⟩ (fun hHeld => ?_)
  try simp only [Act.put, List.setIfInBounds_toArray, List.set_cons_zero, List.set_cons_succ]
  refine wpAnyH_ready (rs := [16]) (by kernel_rfl) (by simp) (AllReadyH.cons (o := _) rfl (fun K hK => ?_) AllReadyH.nil)
  rw [if_pos (by rfl)]
  have hOE : ((w.alloc (.cells #[] 5)).drew.drew).ownsRow w.heap.size 5 1 (.slice (some ⟨w.heap.size, 0, none⟩) 0 0) 0 [] := owns_drew (owns_drew (owns_lit0 (kb_new rfl _) (Nat.le_refl _) rfl))
  have hSB := (HS.out _ FE.row).1
  have hlen : ((xs.drop a).take n).length = n := by rw [List.length_take, List.length_drop]; omega
  rw [BytesOf, hlen] at hSB
  refine wp_append_row _ _ _ 58 rfl w.heap.size 5 i0 (.int .u8 0) 1 Try.underlying58 hi hz0 hz1 hz2 rfl _ _ _ rfl hOE _ _ _ rfl hSB (u8s_one _) ?c3 ?c4 ?c5 ?_
  case c3 => unfold maxLen; omega
  case c4 => omega
  case c5 => simp
  intro v' w2 hown' hgrow _ _
  rw [Nat.zero_add, List.nil_append] at hown'
  have b2 : Below w.heap.size w w2 := bE.grown hgrow (by show w.heap.size ≤ _; exact bE.size) (fun j hj => by
    have : w.heap.size = j := by injection hj
    omega)
  have F2 := HF.out.below b2
  have j0 := kb_cell F2.st 0
  have j1 := kb_cell F2.st 1
  simp at j0 j1
  obtain ⟨A2, cap2, hv'⟩ := owns_slice0 hown'
  subst hv'
  refine hK.out _ _ ⟨j0, j1⟩ (fun hHeld => ?_)
  try simp only [Act.put, List.setIfInBounds_toArray, List.set_cons_zero, List.set_cons_succ]
  refine wpAnyH_take (i := 17) (oi := { dst := some 7, op := _, type := _, pos := _, after := _, guard := _ }) (v := ?_) rfl (by kernel_rfl) (by kernel_rfl) (by kernel_rfl) (fun _ _ _ h => h) (Or.inl ⟨by rfl, ?_⟩) hHeld ?_
  rotate_left
  · (intro w hSw; (try dsimp only at hSw); go_simp); all_goals with_reducible rfl
  try simp only [Act.put, List.setIfInBounds_toArray, List.set_cons_zero, List.set_cons_succ]
  refine wpAnyH_done (by kernel_rfl) ?_ _
  have z1 : w2.frozen? ⟨p, 1, none⟩ = false := kb_frozen F2.st 1
  have HF2 := Lib.hid F2
  have HO2 := Lib.hid hown'
  have HB2 := Lib.hid b2
  clear hHeld hK F2 hown' b2 hgrow bE FE k0 k1 hOE hSB c c0 c1 j0
  go_wp2_with fail
  go_ret
  have h1 := HF2.out.put (a + n) hn
  rw [Int.natCast_add] at h1
  have k3 : Keep (fun b => b = p) w (w2.setCell ⟨p, 1, none⟩ (.int .i64 ((a : Int) + (n : Int)))) := (Keep.of_below (S := fun b => b = p) HB2.out).set (p := ⟨p, 1, none⟩) (fun _ => rfl) _
  have hne : (Value.slice A2 n cap2).ownBlock ≠ some p := fun h => by have := (HO2.out.lt p h).1; omega
  exact ⟨_, rfl, own_set HO2.out hne, h1, k3⟩
end Go.Proofs.Ytooghjnddifpdaa
end
section
namespace Go.Proofs.Ytooghjnddifpdaa
open Go.RowKit Go.Proofs.Ytooghjnddifpdaa.Wi Go.Proofs.Ytooghjnddifpdaa.Pc
attribute [local go_sem] cell_alloc_some frozen_alloc_some
set_option linter.unusedSimpArgs false
set_option linter.unusedVariables false

theorem rTake_any {w : World} {B p : Nat} {s : Value} {xs : List UInt8} {st : St} (n f : Nat) (h63 : n < 9223372036854775808) (F : RRdO w B p s xs st) :
    Calls Try.prog 89 #[.pointer (some ⟨p, 0, none⟩), .int .i64 n, .int .i64 f] w (RDid w B p s xs (step (fun a => takeP xs n a f id) [] st) fun l w' u => w'.ownsRow w.heap.size 5 1 u l.length (u8s l)) := by
  cases st with
  | «at» a =>
    by_cases h : a + n ≤ xs.length
    · have hs : takeP xs n a f id = .ok ((xs.drop a).take n) (a + n) := by unfold takeP; rw [if_pos h]; rfl
      have hl : ((xs.drop a).take n).length = n := by rw [List.length_take, List.length_drop]; omega
      rw [step_ok hs]
      refine (rTake_ok n f F h).mono fun x w' hP => ?_
      obtain ⟨v, rfl, h1, h2, h3⟩ := hP
      exact ⟨v, rfl, by show w'.ownsRow _ _ 1 v ((xs.drop a).take n).length _; rw [hl]; exact h1, h2, h3⟩
    · have hs : takeP xs n a f (id : List UInt8 → List UInt8) = .bad 6 f := by unfold takeP; rw [if_neg h]
      rw [step_bad hs]
      refine (rTake_short n f F (by omega) h63).mono fun x w' hP => ?_
      obtain ⟨rfl, h2, h3⟩ := hP
      exact ⟨_, rfl, World.ownsRow_nil _ _ _ _, ⟨by omega, a, h2⟩, h3⟩
  | bad er fr =>
    obtain ⟨he, a, hF⟩ := F
    refine (rTake_bad n f hF he).mono fun x w' hP => ?_
    obtain ⟨rfl, rfl⟩ := hP
    exact ⟨_, rfl, World.ownsRow_nil _ _ _ _, ⟨he, a, hF⟩, Keep.refl _ _⟩
theorem own_cells {w : World} {B n : Nat} {v : Value} {l : List UInt8} (h : w.ownsRow B 5 1 v n (u8s l)) (h0 : 0 < n) : ∃ g cap, v = .slice (some ⟨g, 0, none⟩) n cap ∧ B ≤ g ∧ g < w.heap.size ∧ ∀ (j : Nat) c, l[j]? = some c → w.cell? ⟨g, j, none⟩ = some (u8v c) := by
  obtain ⟨A, cap, e, hl, hc⟩ := RowOf.of_own h
  rcases h.2 with ⟨rfl, e0⟩ | ⟨g, cap', cur, rfl, hB, _⟩
  · exact absurd e0 (by omega)
  · obtain ⟨b, off, e1, hb, hcc⟩ := hc h0
    simp only [Value.slice.injEq] at e
    obtain ⟨eA, _, rfl⟩ := e
    rw [← eA] at e1
    simp only [Option.some.injEq, Addr.mk.injEq] at e1
    obtain ⟨rfl, rfl, _⟩ := e1
    refine ⟨g, cap', rfl, hB, hb, fun j c hj => ?_⟩
    have hjl : j < l.length := (List.getElem?_eq_some_iff.1 hj).1
    have e2 : l[j] = c := by rw [List.getElem?_eq_getElem hjl] at hj; simpa using hj
    have := hcc j _ (u8s_get l j hjl)
    rwa [Nat.zero_add, e2] at this
theorem rNew_any {w : World} {v : Value} {l : List UInt8} (h : BytesOf w v l) (hl : l.length ≤ 2097152) :
    Calls Try.prog 58 #[v] w fun e w' => ∃ p s, e = .returned (.pointer (some ⟨p, 0, none⟩)) ∧ RRdO w' w.heap.size p s l (.at 0) ∧ Below w.heap.size w w' := by
  obtain ⟨A, cap, rfl⟩ := h.form
  obtain ⟨i0, hi, hz0, hz1, hz2⟩ := info_parts infoU
  have H1 := Lib.hid (lit0 w (B := w.heap.size) (Nat.le_refl _))
  have HS := Lib.hid (h.alloc (.cells #[] 5))
  clear h
  go_enter Try.func58, Try.ntmps58
  go_wp2_with (at_builtin; refine wpList_append_row _ rfl _ _ 58 rfl w.heap.size 5 i0 (.int .u8 0) 1 Try.underlying58 hi hz0 hz1 hz2 rfl _ _ _ rfl (H1.out) _ _ _ rfl (HS.out) (u8s_one _) ?c3 ?c4 ?c5 ?_)
  case c3 => unfold maxLen; omega
  case c4 => omega
  case c5 => simp
  intro v' w2 hown' hgrow _ _
  have b0 : Below w.heap.size w (w.alloc (.cells #[] 5)) := by (repeat (with_reducible (first | exact Below.refl _ _ | assumption | refine bl_alloc ?_ _ | refine bl_drew ?_ | refine bl_drewN ?_ _ | (refine bl_set ?_ ?_ _; (focus (first | (simp; done) | (simp; omega) | omega))) | refine bl_then ?_ (by assumption))))
  have b2 : Below w.heap.size w w2 := b0.grown hgrow (by simp) (fun j hj => by simp [Value.ownBlock] at hj; omega)
  obtain ⟨A2, cap2, hv'⟩ := owns_slice0 hown'
  subst hv'
  have HO := Lib.hid hown'
  have HB := Lib.hid b2
  clear hgrow hown' b0 b2
  go_wp2_with fail
  go_ret
  refine ⟨_, _, rfl, ⟨kb_new rfl _, ?_, HB.out.size, hl, Nat.zero_le _⟩, bl_alloc HB.out _⟩
  have h1 := (Keep.of_below (S := fun _ => False) (bl_alloc (Below.refl _ w2) (.cells #[.slice A2 l.length cap2, .int .i64 0, .int .i64 0, .int .i64 0] 124))).row HO.out (fun _ _ x => x)
  simpa using h1
theorem rRest_any {w : World} {B p : Nat} {s : Value} {xs : List UInt8} {st : St} (F : RRdO w B p s xs st) :
    Calls Try.prog 61 #[.pointer (some ⟨p, 0, none⟩)] w fun e w' => e = .returned (.int .i64 (restS xs st : Int)) ∧ Below w.heap.size w w' := by
  cases st with
  | «at» a =>
    have F' : RRd w B p s xs a 0 0 := F
    obtain ⟨A, cap, rfl⟩ := (RowOf.of_own F'.row).form
    have c := kb_cell F'.st
    have c0 := c 0
    have c1 := c 1
    simp at c0 c1
    have hw : IntKind.i64.wrap ((xs.length : Int) - (a : Int)) = (xs.length : Int) - (a : Int) := IntWalk.i64_in _ (by have := F'.len; have := F'.le; omega)
    have he : ((restS xs (.at a) : Nat) : Int) = (xs.length : Int) - (a : Int) := by have := F'.le; simp only [restS]; omega
    rw [he]
    clear F F'
    go_enter Try.func61, Try.ntmps61
    go_wp2
    go_region
    go_wp2
    go_ret
    exact ⟨rfl, by (repeat (with_reducible (first | exact Below.refl _ _ | assumption | refine bl_alloc ?_ _ | refine bl_drew ?_ | refine bl_drewN ?_ _ | (refine bl_set ?_ ?_ _; (focus (first | (simp; done) | (simp; omega) | omega))) | refine bl_then ?_ (by assumption))))⟩
  | bad er f =>
    obtain ⟨he, a, hF⟩ := F
    have c := kb_cell hF.st
    have hne : ((er : Int) != 0) = true := by simpa using he
    have hne' : (er != 0) = true := by simpa using he
    clear hF
    go_enter Try.func61, Try.ntmps61
    go_wp2
    go_ret
    exact ⟨rfl, Below.refl _ _⟩
theorem rEnd_any {w : World} {B p : Nat} {s : Value} {xs : List UInt8} {st : St} (F : RRdO w B p s xs st) :
    Calls Try.prog 63 #[.pointer (some ⟨p, 0, none⟩)] w fun e w' => e = .returned (.agg #[.int .i64 ((endS xs st).1 : Int), .int .i64 ((endS xs st).2 : Int)]) ∧ Below w.heap.size w w' := by
  cases st with
  | «at» a =>
    have F' : RRd w B p s xs a 0 0 := F
    obtain ⟨A, cap, rfl⟩ := (RowOf.of_own F'.row).form
    have c := kb_cell F'.st
    have c0 := c 0
    have c1 := c 1
    have c2 := c 2
    simp at c0 c1 c2
    have hlt := kb_lt F'.st
    by_cases h : a < xs.length
    · have hd : decide ((a : Int) < (xs.length : Int)) = true := decide_eq_true (by omega)
      simp only [endS, if_pos h]
      clear F F'
      go_enter Try.func63, Try.ntmps63
      go_wp2
      go_region
      go_wp2
      exact bodyPost_ret (results_cell_row rfl _ _ w.heap.size 61 _ (0, 0) _ rfl (kb_drew (kb_new rfl _)) Try.underlying61 rfl (by kernel_rfl)) rfl ⟨rfl, by (repeat (with_reducible (first | exact Below.refl _ _ | assumption | refine bl_alloc ?_ _ | refine bl_drew ?_ | refine bl_drewN ?_ _ | (refine bl_set ?_ ?_ _; (focus (first | (simp; done) | (simp; omega) | omega))) | refine bl_then ?_ (by assumption))))⟩
    · have hd : decide ((a : Int) < (xs.length : Int)) = false := decide_eq_false (by omega)
      simp only [endS, if_neg h]
      clear F F'
      go_enter Try.func63, Try.ntmps63
      go_wp2
      go_region
      go_wp2
      exact bodyPost_ret (results_cell_row rfl _ _ w.heap.size 61 _ (0, 0) _ rfl (kb_drew (kb_new rfl _)) Try.underlying61 rfl (by kernel_rfl)) rfl ⟨rfl, by (repeat (with_reducible (first | exact Below.refl _ _ | assumption | refine bl_alloc ?_ _ | refine bl_drew ?_ | refine bl_drewN ?_ _ | (refine bl_set ?_ ?_ _; (focus (first | (simp; done) | (simp; omega) | omega))) | refine bl_then ?_ (by assumption))))⟩
  | bad er f =>
    obtain ⟨he, a, hF⟩ := F
    have c := kb_cell hF.st
    have c2 := c 2
    simp at c2
    have hlt := kb_lt hF.st
    have hne : ((er : Int) == 0) = false := by simpa using he
    have hne' : (er == 0) = false := by simpa using he
    simp only [endS]
    clear hF
    go_enter Try.func63, Try.ntmps63
    go_wp2
    go_region
    go_wp2
    exact bodyPost_ret (results_cell_row rfl _ _ w.heap.size 61 _ (0, 0) _ rfl (kb_drew (kb_new rfl _)) Try.underlying61 rfl (by kernel_rfl)) rfl ⟨rfl, by (repeat (with_reducible (first | exact Below.refl _ _ | assumption | refine bl_alloc ?_ _ | refine bl_drew ?_ | refine bl_drewN ?_ _ | (refine bl_set ?_ ?_ _; (focus (first | (simp; done) | (simp; omega) | omega))) | refine bl_then ?_ (by assumption))))⟩
end Go.Proofs.Ytooghjnddifpdaa
end
section
namespace Go.Proofs.Ytooghjnddifpdaa
open Go.RowKit Go.Proofs.Ytooghjnddifpdaa.Wi Go.Proofs.Ytooghjnddifpdaa.Pc
attribute [local go_sem] cell_alloc_some frozen_alloc_some
set_option linter.unusedSimpArgs false
set_option linter.unusedVariables false

/-- The first byte, and what it tells. -/
theorem first_byte {xs : List UInt8} {a : Nat} (h : a + 1 ≤ xs.length) : ∃ c : UInt8, (xs.drop a).take 1 = [c] ∧ kAt xs a = c.toNat := by
  have hd : xs.drop a = xs[a] :: xs.drop (a + 1) := List.drop_eq_getElem_cons (by omega)
  refine ⟨xs[a], by rw [hd]; rfl, ?_⟩
  unfold kAt
  rw [hd, List.take_succ_cons, List.take_zero, bigL_one]
theorem num_p1 {xs : List UInt8} {a : Nat} (h : xs.length < a + 1) : numP xs a = .bad 6 a := by unfold numP; rw [if_pos h]
theorem num_p2 {xs : List UInt8} {a : Nat} (h : ¬ xs.length < a + 1) (h2 : 8 < kAt xs a) : numP xs a = .bad 5 a := by unfold numP; rw [if_neg h, if_pos h2]
theorem num_p3 {xs : List UInt8} {a : Nat} (h : ¬ xs.length < a + 1) (h2 : ¬ 8 < kAt xs a) (h3 : xs.length < a + 1 + kAt xs a) : numP xs a = .bad 6 a := by unfold numP; rw [if_neg h, if_neg h2, if_pos h3]
theorem num_p4 {xs : List UInt8} {a : Nat} (h : ¬ xs.length < a + 1) (h2 : ¬ 8 < kAt xs a) (h3 : ¬ xs.length < a + 1 + kAt xs a) (h4 : zAt xs a (kAt xs a) = true ∨ 9223372036854775807 < bigL (nAt xs a (kAt xs a))) : numP xs a = .bad 5 a := by
  unfold numP; rw [if_neg h, if_neg h2, if_neg h3, if_pos h4]
theorem num_p5 {xs : List UInt8} {a : Nat} (h : ¬ xs.length < a + 1) (h2 : ¬ 8 < kAt xs a) (h3 : ¬ xs.length < a + 1 + kAt xs a) (h4 : ¬ (zAt xs a (kAt xs a) = true ∨ 9223372036854775807 < bigL (nAt xs a (kAt xs a)))) : numP xs a = .ok (bigL (nAt xs a (kAt xs a))) (a + 1 + kAt xs a) := by
  unfold numP; rw [if_neg h, if_neg h2, if_neg h3, if_neg h4]

abbrev NumP (w : World) (B p : Nat) (s : Value) (xs : List UInt8) (r : Nat × St) : Ending → World → Prop := RDid w B p s xs r fun n _ u => u = .int .i64 (n : Int)
set_option maxHeartbeats 1000000 in
theorem rNum_bad {w : World} {B p : Nat} {s : Value} {xs : List UInt8} {a er fr : Nat} (F : RRd w B p s xs a er fr) (he : er ≠ 0) :
    Calls Try.prog 59 #[.pointer (some ⟨p, 0, none⟩)] w (NumP w B p s xs (0, .bad er fr)) := by
  have c := kb_cell F.st
  have hne : ((er : Int) != 0) = true := by simpa using he
  have hne' : (er != 0) = true := by simpa using he
  have HF := Lib.hid F
  have HE := Lib.hid he
  clear F he
  go_enter Try.func59, Try.ntmps59
  go_wp2_with fail
  refine (rTake_bad 1 a HF.out HE.out).mono ?_
  rintro e w' ⟨rfl, rfl⟩
  go_wp2_with fail
  go_ret
  exact ⟨_, rfl, rfl, ⟨HE.out, a, HF.out⟩, Keep.refl _ _⟩
set_option maxHeartbeats 1000000 in
theorem rNum_1 {w : World} {B p : Nat} {s : Value} {xs : List UInt8} {a : Nat} (F : RRd w B p s xs a 0 0) (h : xs.length < a + 1) :
    Calls Try.prog 59 #[.pointer (some ⟨p, 0, none⟩)] w (NumP w B p s xs (0, .bad 6 a)) := by
  have c := kb_cell F.st
  have HF := Lib.hid F
  clear F
  go_enter Try.func59, Try.ntmps59
  go_wp2_with fail
  refine (rTake_short 1 a HF.out h (by omega)).mono ?_
  rintro e w' ⟨rfl, F1, k1⟩
  have c1 := kb_cell F1.st
  have HF1 := Lib.hid F1
  have HK1 := Lib.hid k1
  clear F1 k1 c
  go_wp2_with fail
  go_ret
  exact ⟨_, rfl, rfl, ⟨by omega, a, HF1.out⟩, HK1.out⟩
set_option maxHeartbeats 1000000 in
theorem rNum_2 {w : World} {B p : Nat} {s : Value} {xs : List UInt8} {a : Nat} (F : RRd w B p s xs a 0 0) (h : ¬ xs.length < a + 1) (h2 : 8 < kAt xs a) :
    Calls Try.prog 59 #[.pointer (some ⟨p, 0, none⟩)] w (NumP w B p s xs (0, .bad 5 a)) := by
  obtain ⟨k0, hk1, hk2⟩ := first_byte (xs := xs) (a := a) (by omega)
  have c := kb_cell F.st
  have HF := Lib.hid F
  have hd : decide ((8 : Int) < (k0.toNat : Int)) = true := decide_eq_true (by omega)
  have HK := Lib.hid hk1
  clear F hk1 hk2 h2
  go_enter Try.func59, Try.ntmps59
  go_wp2_with fail
  refine (rTake_ok 1 a HF.out (by omega)).mono ?_
  rintro e w1 ⟨v, rfl, hO, F1, k1⟩
  rw [HK.out] at hO
  obtain ⟨g, cp, rfl, hg, hgl, hcc⟩ := own_cells hO (by omega)
  have cg := hcc 0 k0 rfl
  unfold u8v at cg
  have HF1 := Lib.hid F1
  have HK1 := Lib.hid k1
  clear F1 k1 c hO hcc
  go_wp2_with fail
  refine (rFails_at 5 a HF1.out).mono ?_
  rintro e w2 ⟨rfl, F2, k2⟩
  have c2 := kb_cell F2.st
  have HF2 := Lib.hid F2
  have HK2 := Lib.hid (HK1.out.trans k2 fun _ _ h => h)
  clear F2 k2 cg
  go_wp2_with fail
  go_ret
  exact ⟨_, rfl, rfl, ⟨by omega, _, HF2.out⟩, HK2.out⟩
set_option maxHeartbeats 1000000 in
theorem rNum_3 {w : World} {B p : Nat} {s : Value} {xs : List UInt8} {a : Nat} (F : RRd w B p s xs a 0 0) (h : ¬ xs.length < a + 1) (h2 : ¬ 8 < kAt xs a) (h3 : xs.length < a + 1 + kAt xs a) :
    Calls Try.prog 59 #[.pointer (some ⟨p, 0, none⟩)] w (NumP w B p s xs (0, .bad 6 a)) := by
  obtain ⟨k0, hk1, hk2⟩ := first_byte (xs := xs) (a := a) (by omega)
  rw [hk2] at h2 h3
  have c := kb_cell F.st
  have HF := Lib.hid F
  have hd : decide ((8 : Int) < (k0.toNat : Int)) = false := decide_eq_false (by omega)
  have hwr : IntKind.i64.wrap (k0.toNat : Int) = (k0.toNat : Int) := IntWalk.i64_in _ (by omega)
  have HK := Lib.hid hk1
  have H2 := Lib.hid h2
  have H3 := Lib.hid h3
  clear F hk1 hk2 h2 h3
  go_enter Try.func59, Try.ntmps59
  go_wp2_with fail
  refine (rTake_ok 1 a HF.out (by omega)).mono ?_
  rintro e w1 ⟨v, rfl, hO, F1, k1⟩
  rw [HK.out] at hO
  obtain ⟨g, cp, rfl, hg, hgl, hcc⟩ := own_cells hO (by omega)
  have cg := hcc 0 k0 rfl
  unfold u8v at cg
  have c1 := kb_cell F1.st
  have HF1 := Lib.hid F1
  have HK1 := Lib.hid k1
  clear F1 k1 c hO hcc
  go_wp2_with fail
  refine (rTake_short k0.toNat a HF1.out H3.out (by have := H2.out; omega)).mono ?_
  rintro e w2 ⟨rfl, F2, k2⟩
  have c2 := kb_cell F2.st
  have HF2 := Lib.hid F2
  have HK2 := Lib.hid (HK1.out.trans k2 fun _ _ h => h)
  clear F2 k2 cg c1
  go_wp2_with fail
  go_loopw [6, 7, 40, 41, 42, 43, 44, 45, 46, 47, 48, 49, 50, 51, 52, 53] (fun s6 s7 _ _ _ _ _ _ _ _ _ _ _ _ _ _ wr => s6 = .int .u64 0 ∧ s7 = .int .i64 0 ∧ wr = w2) (fun _ _ _ _ _ _ _ _ _ _ _ _ _ _ _ _ _ => 0)
  case atStart => exact ⟨rfl, rfl, rfl⟩
  case round =>
    obtain ⟨rfl, rfl, rfl⟩ := hrel
    go_wp2_with fail
    go_ret
    exact ⟨_, rfl, rfl, ⟨by omega, _, HF2.out⟩, HK2.out⟩
end Go.Proofs.Ytooghjnddifpdaa
end
section
namespace Go.Proofs.Ytooghjnddifpdaa
open Go.RowKit Go.Proofs.Ytooghjnddifpdaa.Wi Go.Proofs.Ytooghjnddifpdaa.Pc
attribute [local go_sem] cell_alloc_some frozen_alloc_some
set_option linter.unusedSimpArgs false
set_option linter.unusedVariables false

set_option maxRecDepth 100000 in
set_option maxHeartbeats 2000000 in
theorem rNum_n0 {w : World} {B p : Nat} {s : Value} {xs : List UInt8} {a : Nat} (F : RRd w B p s xs a 0 0) (h : ¬ xs.length < a + 1) (hk0 : kAt xs a = 0) :
    Calls Try.prog 59 #[.pointer (some ⟨p, 0, none⟩)] w (NumP w B p s xs (0, .at (a + 1))) := by
  obtain ⟨k0, hk1, hk2⟩ := first_byte (xs := xs) (a := a) (by omega)
  have hz : ((k0.toNat : Nat) : Int) = 0 := by omega
  have c := kb_cell F.st
  have HF := Lib.hid F
  have HK := Lib.hid hk1
  have HZ := Lib.hid hz
  clear F hk1 hk2 hk0 hz
  go_enter Try.func59, Try.ntmps59
  go_wp2_with fail
  refine (rTake_ok 1 a HF.out (by omega)).mono ?_
  rintro e w1 ⟨v, rfl, hO, F1, k1⟩
  rw [HK.out] at hO
  obtain ⟨g, cp, rfl, hg, hgl, hcc⟩ := own_cells hO (by omega)
  have cg := hcc 0 k0 rfl
  unfold u8v at cg
  rw [HZ.out] at cg
  have c1 := kb_cell F1.st
  have HF1 := Lib.hid F1
  have HK1 := Lib.hid k1
  have hT := rTake_ok 0 a F1 (by omega)
  rw [show ((0 : Nat) : Int) = 0 from rfl] at hT
  have HT := Lib.hid hT
  clear F1 k1 c hO hcc hT
  go_wp2_with fail
  refine HT.out.mono ?_
  rintro e w2 ⟨v2, rfl, hO2, F2, k2⟩
  obtain ⟨A2, cp2, hv2⟩ := owns_slice0 hO2
  have c2 := kb_cell F2.st
  have HF2 := Lib.hid F2
  have HK2 := Lib.hid (HK1.out.trans k2 fun _ _ h => h)
  clear F2 k2 cg c1 hO2
  subst hv2
  go_wp2_with fail
  go_loopw [6, 7, 40, 41, 42, 43, 44, 45, 46, 47, 48, 49, 50, 51, 52, 53] (fun s6 s7 _ _ _ _ _ _ _ _ _ _ _ _ _ _ wr => s6 = .int .u64 0 ∧ s7 = .int .i64 0 ∧ wr = w2) (fun _ _ _ _ _ _ _ _ _ _ _ _ _ _ _ _ _ => 0)
  case atStart => exact ⟨rfl, rfl, rfl⟩
  case round =>
    obtain ⟨rfl, rfl, rfl⟩ := hrel
    go_wp2_with fail
    go_ret
    exact ⟨_, rfl, rfl, HF2.out, HK2.out⟩

set_option maxRecDepth 100000 in
set_option maxHeartbeats 2000000 in
theorem rNum_nz {w : World} {B p : Nat} {s : Value} {xs : List UInt8} {a : Nat} (F : RRd w B p s xs a 0 0) (h : ¬ xs.length < a + 1) (h2 : ¬ 8 < kAt xs a) (h3 : ¬ xs.length < a + 1 + kAt xs a) (hk0 : 0 < kAt xs a) (hz : zAt xs a (kAt xs a) = true) :
    Calls Try.prog 59 #[.pointer (some ⟨p, 0, none⟩)] w (NumP w B p s xs (0, .bad 5 a)) := by
  obtain ⟨k0, hk1, hk2⟩ := first_byte (xs := xs) (a := a) (by omega)
  obtain ⟨l, hl⟩ : ∃ l, nAt xs a (kAt xs a) = l := ⟨_, rfl⟩
  have hll : l.length = k0.toNat := by rw [← hl, ← hk2]; unfold nAt; rw [List.length_take, List.length_drop]; omega
  have hlt : (xs.drop (a + 1)).take k0.toNat = l := by rw [← hl, hk2]; rfl
  have hzz : zAt xs a (kAt xs a) = (fb l == 0) := by unfold zAt; rw [hl]
  rw [hzz] at hz
  rw [hk2] at h2 h3 hk0
  have c := kb_cell F.st
  have HF := Lib.hid F
  have hd : decide ((8 : Int) < (k0.toNat : Int)) = false := decide_eq_false (by omega)
  have hwr : IntKind.i64.wrap (k0.toNat : Int) = (k0.toNat : Int) := IntWalk.i64_in _ (by omega)
  have HK := Lib.hid hk1
  have HL := Lib.hid hlt
  have H2 := Lib.hid h2
  have H3 := Lib.hid h3
  have HK0 := Lib.hid hk0
  obtain ⟨c0, r0, hcr⟩ : ∃ c0 r0, l = c0 :: r0 := by cases l with
    | nil => simp at hll; omega
    | cons c r => exact ⟨c, r, rfl⟩
  have HCR := Lib.hid hcr
  have hz0 : ((c0.toNat : Int) == 0) = true := by
    rw [hcr] at hz
    simp only [fb] at hz
    rw [← hz, Bool.eq_iff_iff, beq_iff_eq, beq_iff_eq, ← UInt8.toNat_inj]
    have : (0 : UInt8).toNat = 0 := rfl
    omega
  have hz0' : (c0.toNat == 0) = true := by rw [← hz0, Bool.eq_iff_iff]; simp
  have hkp : decide ((0 : Int) < (k0.toNat : Int)) = true := decide_eq_true (by omega)
  have hkp' : decide (0 < k0.toNat) = true := decide_eq_true (by omega)
  clear F hk1 hk2 h2 h3 hl hlt hzz hz hcr
  go_enter Try.func59, Try.ntmps59
  go_wp2_with fail
  refine (rTake_ok 1 a HF.out (by omega)).mono ?_
  rintro e w1 ⟨v, rfl, hO, F1, k1⟩
  rw [HK.out] at hO
  obtain ⟨g, cp, rfl, hg, hgl, hcc⟩ := own_cells hO (by omega)
  have cg := hcc 0 k0 rfl
  unfold u8v at cg
  have c1 := kb_cell F1.st
  have HF1 := Lib.hid F1
  have HK1 := Lib.hid k1
  clear F1 k1 c hO hcc
  go_wp2_with fail
  refine (rTake_ok k0.toNat a HF1.out (by have := H3.out; omega)).mono ?_
  rintro e w2 ⟨v2, rfl, hO2, F2, k2⟩
  rw [HL.out] at hO2
  obtain ⟨A2, cp2, hv2⟩ := owns_slice0 hO2
  have c2 := kb_cell F2.st
  have HF2 := Lib.hid F2
  have HK2 := Lib.hid (HK1.out.trans k2 fun _ _ h => h)
  have HO2 := Lib.hid hO2
  clear F2 k2 cg c1 hO2
  subst hv2
  go_wp2_with fail
  go_loopw [6, 7, 40, 41, 42, 43, 44, 45, 46, 47, 48, 49, 50, 51, 52, 53] (fun s6 s7 _ _ _ _ _ _ _ _ _ _ _ _ _ _ wr => ∃ i : Nat, i ≤ l.length ∧ s7 = .int .i64 i ∧ s6 = .int .u64 (bigL (l.take i) : Int) ∧ wr = w2) (fun _ s7 _ _ _ _ _ _ _ _ _ _ _ _ _ _ _ => l.length - (intOf s7).toNat)
  case atStart => exact ⟨0, by omega, rfl, rfl, rfl⟩
  case round =>
    obtain ⟨i, hi, rfl, rfl, rfl⟩ := hrel
    have h8 : l.length ≤ 8 := by have := H2.out; omega
    have hlt8 := bigL_lt l i hi
    by_cases hlt : i < l.length
    · obtain ⟨g2, cp3, hv3, hg2, hgl2, hcc2⟩ := own_cells HO2.out (by omega)
      simp only [Value.slice.injEq] at hv3
      obtain ⟨rfl, _, rfl⟩ := hv3
      have hil : ((i : Nat) : Int) < (k0.toNat : Int) := by omega
      have cc := hcc2 i _ (List.getElem?_eq_getElem hlt)
      have h7 : bigL (l.take i) < 72057594037927936 := Nat.lt_of_lt_of_le hlt8 (Nat.le_trans (Nat.pow_le_pow_right (by omega) (show i ≤ 7 by omega)) (by omega))
      have hs := shl8 h7 (l[i].toNat_lt)
      have hT := bigL_take l i hlt
      unfold u8v at cc
      generalize hN' : bigL (l.take i) = N at *
      generalize hM : bigL (l.take (i + 1)) = M at *
      clear hcc2 h7 hlt8 c2
      go_wp2_with fail
      go_roundw
      case rel => exact ⟨i + 1, by omega, by go_num, by rw [hM, hT]; simp, by first | rfl | trivial⟩
      case measure => simp [intOf]; omega
    · obtain rfl : i = l.length := by omega
      rw [List.take_length]
      clear hlt hlt8
      obtain ⟨g2, cp3, hv3, hg2, hgl2, hcc2⟩ := own_cells HO2.out (by omega)
      simp only [Value.slice.injEq] at hv3
      obtain ⟨rfl, _, rfl⟩ := hv3
      have cc := hcc2 0 c0 (by rw [HCR.out]; rfl)
      unfold u8v at cc
      clear hcc2
      have hil : (0 : Int) < (k0.toNat : Int) := by omega
      generalize hNN : bigL l = N at *
      go_wp2_with fail
      refine (rFails_at 5 a HF2.out).mono ?_
      rintro e w3 ⟨rfl, F3, k3⟩
      have c3 := kb_cell F3.st
      have HF3 := Lib.hid F3
      have HK3 := Lib.hid (HK2.out.trans k3 fun _ _ h => h)
      clear F3 k3 c2 cc
      go_wp2_with fail
      go_ret
      exact ⟨_, rfl, rfl, ⟨by omega, _, HF3.out⟩, HK3.out⟩

set_option maxRecDepth 100000 in
set_option maxHeartbeats 2000000 in
theorem rNum_nb {w : World} {B p : Nat} {s : Value} {xs : List UInt8} {a : Nat} (F : RRd w B p s xs a 0 0) (h : ¬ xs.length < a + 1) (h2 : ¬ 8 < kAt xs a) (h3 : ¬ xs.length < a + 1 + kAt xs a) (hk0 : 0 < kAt xs a) (hz : zAt xs a (kAt xs a) = false) (hN : 9223372036854775807 < bigL (nAt xs a (kAt xs a))) :
    Calls Try.prog 59 #[.pointer (some ⟨p, 0, none⟩)] w (NumP w B p s xs (0, .bad 5 a)) := by
  obtain ⟨k0, hk1, hk2⟩ := first_byte (xs := xs) (a := a) (by omega)
  obtain ⟨l, hl⟩ : ∃ l, nAt xs a (kAt xs a) = l := ⟨_, rfl⟩
  have hll : l.length = k0.toNat := by rw [← hl, ← hk2]; unfold nAt; rw [List.length_take, List.length_drop]; omega
  have hlt : (xs.drop (a + 1)).take k0.toNat = l := by rw [← hl, hk2]; rfl
  have hzz : zAt xs a (kAt xs a) = (fb l == 0) := by unfold zAt; rw [hl]
  rw [hzz] at hz
  rw [hl] at hN
  rw [hk2] at h2 h3 hk0
  have c := kb_cell F.st
  have HF := Lib.hid F
  have hd : decide ((8 : Int) < (k0.toNat : Int)) = false := decide_eq_false (by omega)
  have hwr : IntKind.i64.wrap (k0.toNat : Int) = (k0.toNat : Int) := IntWalk.i64_in _ (by omega)
  have HK := Lib.hid hk1
  have HL := Lib.hid hlt
  have H2 := Lib.hid h2
  have H3 := Lib.hid h3
  have HK0 := Lib.hid hk0
  obtain ⟨c0, r0, hcr⟩ : ∃ c0 r0, l = c0 :: r0 := by cases l with
    | nil => simp at hll; omega
    | cons c r => exact ⟨c, r, rfl⟩
  have HCR := Lib.hid hcr
  have hz0 : ((c0.toNat : Int) == 0) = false := by
    rw [hcr] at hz
    simp only [fb] at hz
    rw [← hz, Bool.eq_iff_iff, beq_iff_eq, beq_iff_eq, ← UInt8.toNat_inj]
    have : (0 : UInt8).toNat = 0 := rfl
    omega
  have hz0' : (c0.toNat == 0) = false := by rw [← hz0, Bool.eq_iff_iff]; simp
  have hkp : decide ((0 : Int) < (k0.toNat : Int)) = true := decide_eq_true (by omega)
  have hkp' : decide (0 < k0.toNat) = true := decide_eq_true (by omega)
  have hNb := Nat.lt_of_lt_of_le (bigL_lt' l) (Nat.pow_le_pow_right (by omega) (show l.length ≤ 8 by omega))
  have hsh : ((bigL l : Int) / 9223372036854775808 == 1) = true := by rw [beq_iff_eq]; omega
  have hsh' : ((bigL l) / 9223372036854775808 == 1) = true := by rw [beq_iff_eq]; omega
  clear F hk1 hk2 h2 h3 hl hlt hzz hz hcr
  go_enter Try.func59, Try.ntmps59
  go_wp2_with fail
  refine (rTake_ok 1 a HF.out (by omega)).mono ?_
  rintro e w1 ⟨v, rfl, hO, F1, k1⟩
  rw [HK.out] at hO
  obtain ⟨g, cp, rfl, hg, hgl, hcc⟩ := own_cells hO (by omega)
  have cg := hcc 0 k0 rfl
  unfold u8v at cg
  have c1 := kb_cell F1.st
  have HF1 := Lib.hid F1
  have HK1 := Lib.hid k1
  clear F1 k1 c hO hcc
  go_wp2_with fail
  refine (rTake_ok k0.toNat a HF1.out (by have := H3.out; omega)).mono ?_
  rintro e w2 ⟨v2, rfl, hO2, F2, k2⟩
  rw [HL.out] at hO2
  obtain ⟨A2, cp2, hv2⟩ := owns_slice0 hO2
  have c2 := kb_cell F2.st
  have HF2 := Lib.hid F2
  have HK2 := Lib.hid (HK1.out.trans k2 fun _ _ h => h)
  have HO2 := Lib.hid hO2
  clear F2 k2 cg c1 hO2
  subst hv2
  go_wp2_with fail
  go_loopw [6, 7, 40, 41, 42, 43, 44, 45, 46, 47, 48, 49, 50, 51, 52, 53] (fun s6 s7 _ _ _ _ _ _ _ _ _ _ _ _ _ _ wr => ∃ i : Nat, i ≤ l.length ∧ s7 = .int .i64 i ∧ s6 = .int .u64 (bigL (l.take i) : Int) ∧ wr = w2) (fun _ s7 _ _ _ _ _ _ _ _ _ _ _ _ _ _ _ => l.length - (intOf s7).toNat)
  case atStart => exact ⟨0, by omega, rfl, rfl, rfl⟩
  case round =>
    obtain ⟨i, hi, rfl, rfl, rfl⟩ := hrel
    have h8 : l.length ≤ 8 := by have := H2.out; omega
    have hlt8 := bigL_lt l i hi
    by_cases hlt : i < l.length
    · obtain ⟨g2, cp3, hv3, hg2, hgl2, hcc2⟩ := own_cells HO2.out (by omega)
      simp only [Value.slice.injEq] at hv3
      obtain ⟨rfl, _, rfl⟩ := hv3
      have hil : ((i : Nat) : Int) < (k0.toNat : Int) := by omega
      have cc := hcc2 i _ (List.getElem?_eq_getElem hlt)
      have h7 : bigL (l.take i) < 72057594037927936 := Nat.lt_of_lt_of_le hlt8 (Nat.le_trans (Nat.pow_le_pow_right (by omega) (show i ≤ 7 by omega)) (by omega))
      have hs := shl8 h7 (l[i].toNat_lt)
      have hT := bigL_take l i hlt
      unfold u8v at cc
      generalize hN' : bigL (l.take i) = N at *
      generalize hM : bigL (l.take (i + 1)) = M at *
      clear hcc2 h7 hlt8 c2
      go_wp2_with fail
      go_roundw
      case rel => exact ⟨i + 1, by omega, by go_num, by rw [hM, hT]; simp, by first | rfl | trivial⟩
      case measure => simp [intOf]; omega
    · obtain rfl : i = l.length := by omega
      rw [List.take_length]
      clear hlt hlt8
      obtain ⟨g2, cp3, hv3, hg2, hgl2, hcc2⟩ := own_cells HO2.out (by omega)
      simp only [Value.slice.injEq] at hv3
      obtain ⟨rfl, _, rfl⟩ := hv3
      have cc := hcc2 0 c0 (by rw [HCR.out]; rfl)
      unfold u8v at cc
      clear hcc2
      have hil : (0 : Int) < (k0.toNat : Int) := by omega
      generalize hNN : bigL l = N at *
      go_wp2_with fail
      refine (rFails_at 5 a HF2.out).mono ?_
      rintro e w3 ⟨rfl, F3, k3⟩
      have c3 := kb_cell F3.st
      have HF3 := Lib.hid F3
      have HK3 := Lib.hid (HK2.out.trans k3 fun _ _ h => h)
      clear F3 k3 c2 cc
      go_wp2_with fail
      go_ret
      exact ⟨_, rfl, rfl, ⟨by omega, _, HF3.out⟩, HK3.out⟩

set_option maxRecDepth 100000 in
set_option maxHeartbeats 2000000 in
theorem rNum_nok {w : World} {B p : Nat} {s : Value} {xs : List UInt8} {a : Nat} (F : RRd w B p s xs a 0 0) (h : ¬ xs.length < a + 1) (h2 : ¬ 8 < kAt xs a) (h3 : ¬ xs.length < a + 1 + kAt xs a) (hk0 : 0 < kAt xs a) (hz : zAt xs a (kAt xs a) = false) (hN : bigL (nAt xs a (kAt xs a)) ≤ 9223372036854775807) :
    Calls Try.prog 59 #[.pointer (some ⟨p, 0, none⟩)] w (NumP w B p s xs (bigL (nAt xs a (kAt xs a)), .at (a + 1 + kAt xs a))) := by
  obtain ⟨k0, hk1, hk2⟩ := first_byte (xs := xs) (a := a) (by omega)
  obtain ⟨l, hl⟩ : ∃ l, nAt xs a (kAt xs a) = l := ⟨_, rfl⟩
  have hll : l.length = k0.toNat := by rw [← hl, ← hk2]; unfold nAt; rw [List.length_take, List.length_drop]; omega
  have hlt : (xs.drop (a + 1)).take k0.toNat = l := by rw [← hl, hk2]; rfl
  have hzz : zAt xs a (kAt xs a) = (fb l == 0) := by unfold zAt; rw [hl]
  rw [hzz] at hz
  rw [hl] at hN ⊢
  rw [hk2] at h2 h3 hk0 ⊢
  have c := kb_cell F.st
  have HF := Lib.hid F
  have hd : decide ((8 : Int) < (k0.toNat : Int)) = false := decide_eq_false (by omega)
  have hwr : IntKind.i64.wrap (k0.toNat : Int) = (k0.toNat : Int) := IntWalk.i64_in _ (by omega)
  have HK := Lib.hid hk1
  have HL := Lib.hid hlt
  have H2 := Lib.hid h2
  have H3 := Lib.hid h3
  have HK0 := Lib.hid hk0
  obtain ⟨c0, r0, hcr⟩ : ∃ c0 r0, l = c0 :: r0 := by cases l with
    | nil => simp at hll; omega
    | cons c r => exact ⟨c, r, rfl⟩
  have HCR := Lib.hid hcr
  have hz0 : ((c0.toNat : Int) == 0) = false := by
    rw [hcr] at hz
    simp only [fb] at hz
    rw [← hz, Bool.eq_iff_iff, beq_iff_eq, beq_iff_eq, ← UInt8.toNat_inj]
    have : (0 : UInt8).toNat = 0 := rfl
    omega
  have hz0' : (c0.toNat == 0) = false := by rw [← hz0, Bool.eq_iff_iff]; simp
  have hkp : decide ((0 : Int) < (k0.toNat : Int)) = true := decide_eq_true (by omega)
  have hkp' : decide (0 < k0.toNat) = true := decide_eq_true (by omega)
  have hsh : ((bigL l : Int) / 9223372036854775808 == 1) = false := by rw [beq_eq_false_iff_ne]; omega
  have hsh' : ((bigL l) / 9223372036854775808 == 1) = false := by rw [beq_eq_false_iff_ne]; omega
  have hwn : IntKind.i64.wrap (bigL l : Int) = (bigL l : Int) := IntWalk.i64_in _ (by omega)
  clear F hk1 hk2 h2 h3 hl hlt hzz hz hcr
  go_enter Try.func59, Try.ntmps59
  go_wp2_with fail
  refine (rTake_ok 1 a HF.out (by omega)).mono ?_
  rintro e w1 ⟨v, rfl, hO, F1, k1⟩
  rw [HK.out] at hO
  obtain ⟨g, cp, rfl, hg, hgl, hcc⟩ := own_cells hO (by omega)
  have cg := hcc 0 k0 rfl
  unfold u8v at cg
  have c1 := kb_cell F1.st
  have HF1 := Lib.hid F1
  have HK1 := Lib.hid k1
  clear F1 k1 c hO hcc
  go_wp2_with fail
  refine (rTake_ok k0.toNat a HF1.out (by have := H3.out; omega)).mono ?_
  rintro e w2 ⟨v2, rfl, hO2, F2, k2⟩
  rw [HL.out] at hO2
  obtain ⟨A2, cp2, hv2⟩ := owns_slice0 hO2
  have c2 := kb_cell F2.st
  have HF2 := Lib.hid F2
  have HK2 := Lib.hid (HK1.out.trans k2 fun _ _ h => h)
  have HO2 := Lib.hid hO2
  clear F2 k2 cg c1 hO2
  subst hv2
  go_wp2_with fail
  go_loopw [6, 7, 40, 41, 42, 43, 44, 45, 46, 47, 48, 49, 50, 51, 52, 53] (fun s6 s7 _ _ _ _ _ _ _ _ _ _ _ _ _ _ wr => ∃ i : Nat, i ≤ l.length ∧ s7 = .int .i64 i ∧ s6 = .int .u64 (bigL (l.take i) : Int) ∧ wr = w2) (fun _ s7 _ _ _ _ _ _ _ _ _ _ _ _ _ _ _ => l.length - (intOf s7).toNat)
  case atStart => exact ⟨0, by omega, rfl, rfl, rfl⟩
  case round =>
    obtain ⟨i, hi, rfl, rfl, rfl⟩ := hrel
    have h8 : l.length ≤ 8 := by have := H2.out; omega
    have hlt8 := bigL_lt l i hi
    by_cases hlt : i < l.length
    · obtain ⟨g2, cp3, hv3, hg2, hgl2, hcc2⟩ := own_cells HO2.out (by omega)
      simp only [Value.slice.injEq] at hv3
      obtain ⟨rfl, _, rfl⟩ := hv3
      have hil : ((i : Nat) : Int) < (k0.toNat : Int) := by omega
      have cc := hcc2 i _ (List.getElem?_eq_getElem hlt)
      have h7 : bigL (l.take i) < 72057594037927936 := Nat.lt_of_lt_of_le hlt8 (Nat.le_trans (Nat.pow_le_pow_right (by omega) (show i ≤ 7 by omega)) (by omega))
      have hs := shl8 h7 (l[i].toNat_lt)
      have hT := bigL_take l i hlt
      unfold u8v at cc
      generalize hN' : bigL (l.take i) = N at *
      generalize hM : bigL (l.take (i + 1)) = M at *
      clear hcc2 h7 hlt8 c2
      go_wp2_with fail
      go_roundw
      case rel => exact ⟨i + 1, by omega, by go_num, by rw [hM, hT]; simp, by first | rfl | trivial⟩
      case measure => simp [intOf]; omega
    · obtain rfl : i = l.length := by omega
      rw [List.take_length]
      clear hlt hlt8
      obtain ⟨g2, cp3, hv3, hg2, hgl2, hcc2⟩ := own_cells HO2.out (by omega)
      simp only [Value.slice.injEq] at hv3
      obtain ⟨rfl, _, rfl⟩ := hv3
      have cc := hcc2 0 c0 (by rw [HCR.out]; rfl)
      unfold u8v at cc
      clear hcc2
      have hil : (0 : Int) < (k0.toNat : Int) := by omega
      generalize hNN : bigL l = N at *
      go_wp2_with fail
      go_ret
      exact ⟨_, rfl, rfl, HF2.out, HK2.out⟩

theorem rNum_any {w : World} {B p : Nat} {s : Value} {xs : List UInt8} {st : St} (F : RRdO w B p s xs st) :
    Calls Try.prog 59 #[.pointer (some ⟨p, 0, none⟩)] w (NumP w B p s xs (step (numP xs) 0 st)) := by
  cases st with
  | bad er fr => obtain ⟨he, a, hF⟩ := F; exact rNum_bad hF he
  | «at» a =>
    have F' : RRd w B p s xs a 0 0 := F
    by_cases h1 : xs.length < a + 1
    · rw [step_bad (num_p1 h1)]; exact rNum_1 F' h1
    by_cases h2 : 8 < kAt xs a
    · rw [step_bad (num_p2 h1 h2)]; exact rNum_2 F' h1 h2
    by_cases h3 : xs.length < a + 1 + kAt xs a
    · rw [step_bad (num_p3 h1 h2 h3)]; exact rNum_3 F' h1 h2 h3
    by_cases hk : kAt xs a = 0
    · have hn : nAt xs a (kAt xs a) = [] := by rw [hk]; rfl
      have h4 : ¬ (zAt xs a (kAt xs a) = true ∨ 9223372036854775807 < bigL (nAt xs a (kAt xs a))) := by
        unfold zAt; rw [hn, bigL_nil]; simp [fb]
      rw [step_ok (num_p5 h1 h2 h3 h4), hn, bigL_nil, hk]; exact rNum_n0 F' h1 hk
    · by_cases h4 : zAt xs a (kAt xs a) = true ∨ 9223372036854775807 < bigL (nAt xs a (kAt xs a))
      · rw [step_bad (num_p4 h1 h2 h3 h4)]
        cases hz : zAt xs a (kAt xs a)
        · exact rNum_nb F' h1 h2 h3 (by omega) hz (h4.resolve_left (by rw [hz]; simp))
        · exact rNum_nz F' h1 h2 h3 (by omega) hz
      · rw [step_ok (num_p5 h1 h2 h3 h4)]
        have h5 : zAt xs a (kAt xs a) = false := by
          cases hz : zAt xs a (kAt xs a)
          · rfl
          · exact absurd (.inl hz) h4
        exact rNum_nok F' h1 h2 h3 (by omega) h5 (Nat.le_of_not_lt fun h => h4 (.inr h))
end Go.Proofs.Ytooghjnddifpdaa
end
section
namespace Go.Proofs.Ytooghjnddifpdaa
open Go.RowKit Go.Proofs.Ytooghjnddifpdaa.Wi Go.Proofs.Ytooghjnddifpdaa.Pc
attribute [local go_sem] cell_alloc_some frozen_alloc_some
set_option linter.unusedSimpArgs false
set_option linter.unusedVariables false

abbrev RowV (w : World) : List UInt8 → World → Value → Prop := fun l w' u => w'.ownsRow w.heap.size 5 1 u l.length (u8s l)
end Go.Proofs.Ytooghjnddifpdaa
end
section
namespace Go.Proofs.Ytooghjnddifpdaa
open Go.RowKit Go.Proofs.Ytooghjnddifpdaa.Wi Go.Proofs.Ytooghjnddifpdaa.Pc
attribute [local go_sem] cell_alloc_some frozen_alloc_some
set_option linter.unusedSimpArgs false
set_option linter.unusedVariables false

/-- What the document's reader takes is nothing: the loop behind it has no round. -/
theorem rAt {w : World} {B p : Nat} {s : Value} {xs : List UInt8} {st : St} (F : RRdO w B p s xs st) : ∃ (a0 : Nat) (e0 f0 : Int), ∀ i, w.cell? ⟨p, i, none⟩ = #[s, .int .i64 (a0 : Int), .int .i64 e0, .int .i64 f0][i]? := by
  cases st with
  | «at» a => exact ⟨a, 0, 0, kb_cell (RRd.st F)⟩
  | bad er fr => obtain ⟨_, a, hF⟩ := F; exact ⟨a, er, fr, kb_cell hF.st⟩
theorem word_ok {xs : List UInt8} {a : Nat} (h : a + 8 ≤ xs.length) : takeP xs 8 a a bigL = .ok (bigL ((xs.drop a).take 8)) (a + 8) := by unfold takeP; rw [if_pos h]
theorem word_bad {xs : List UInt8} {a : Nat} (h : ¬ a + 8 ≤ xs.length) : takeP xs 8 a a bigL = .bad 6 a := by unfold takeP; rw [if_neg h]
set_option maxHeartbeats 1000000 in
theorem rWord_ok {w : World} {B p : Nat} {s : Value} {xs : List UInt8} {a : Nat} (F : RRd w B p s xs a 0 0) (h : a + 8 ≤ xs.length) :
    Calls Try.prog 62 #[.pointer (some ⟨p, 0, none⟩)] w (RDid w B p s xs (bigL ((xs.drop a).take 8), .at (a + 8)) fun n _ u => u = .int .u64 (n : Int)) := by
  obtain ⟨l, hl⟩ : ∃ l, (xs.drop a).take 8 = l := ⟨_, rfl⟩
  have hll : l.length = 8 := by rw [← hl, List.length_take, List.length_drop]; omega
  have HL := Lib.hid hl
  rw [hl]
  have c := kb_cell F.st
  have HF := Lib.hid F
  clear F hl
  go_enter Try.func62, Try.ntmps62
  go_wp2_with fail
  refine (rTake_ok 8 a HF.out h).mono ?_
  rintro e w2 ⟨v2, rfl, hO2, F2, k2⟩
  rw [HL.out] at hO2
  obtain ⟨g2, cp3, hv3, hg2, hgl2, hcc2⟩ := own_cells hO2 (by omega)
  subst hv3
  have HF2 := Lib.hid F2
  have HK2 := Lib.hid k2
  have HCC := Lib.hid hcc2
  clear F2 k2 c hO2 hcc2
  go_wp2_with fail
  go_loopw [3, 5, 12, 13, 14, 15, 16, 17, 18, 19, 20, 21, 22, 23, 24, 25] (fun s3 s5 _ _ _ _ _ _ _ _ _ _ _ _ _ _ wr => ∃ i : Nat, i ≤ 8 ∧ s5 = .int .i64 i ∧ s3 = .int .u64 (bigL (l.take i) : Int) ∧ wr = w2) (fun _ s5 _ _ _ _ _ _ _ _ _ _ _ _ _ _ _ => 8 - (intOf s5).toNat)
  case atStart => exact ⟨0, by omega, rfl, rfl, rfl⟩
  case round =>
    obtain ⟨i, hi, rfl, rfl, rfl⟩ := hrel
    have hlt8 := bigL_lt l i (by omega)
    by_cases hlt : i < 8
    · have hil : ((i : Nat) : Int) < 8 := by omega
      have hli : i < l.length := by omega
      have cc := HCC.out i _ (List.getElem?_eq_getElem hli)
      have h7 : bigL (l.take i) < 72057594037927936 := Nat.lt_of_lt_of_le hlt8 (Nat.le_trans (Nat.pow_le_pow_right (by omega) (show i ≤ 7 by omega)) (by omega))
      have hs := shl8 h7 (l[i].toNat_lt)
      have hT := bigL_take l i hli
      unfold u8v at cc
      generalize hN' : bigL (l.take i) = N at *
      generalize hM : bigL (l.take (i + 1)) = M at *
      clear h7 hlt8
      go_wp2_with fail
      go_roundw
      case rel => exact ⟨i + 1, by omega, by go_num, by rw [hM, hT]; simp, by first | rfl | trivial⟩
      case measure => simp [intOf]; omega
    · obtain rfl : i = 8 := by omega
      rw [List.take_of_length_le (by omega)]
      clear hlt hlt8
      go_wp2_with fail
      go_ret
      exact ⟨_, rfl, rfl, HF2.out, HK2.out⟩
set_option maxHeartbeats 1000000 in
theorem rWord_no {w : World} {B p : Nat} {s : Value} {xs : List UInt8} {st : St} {e f : Nat} (F : RRdO w B p s xs st) (hn : ∀ f', (∀ a, st = .at a → f' = a) → step (fun a => takeP xs 8 a f' id) ([] : List UInt8) st = ([], .bad e f)) :
    Calls Try.prog 62 #[.pointer (some ⟨p, 0, none⟩)] w (RDid w B p s xs (0, .bad e f) fun n _ u => u = .int .u64 (n : Int)) := by
  obtain ⟨a0, e0, f0, c, hat⟩ : ∃ (a0 : Nat) (e0 f0 : Int), (∀ i, w.cell? ⟨p, i, none⟩ = #[s, .int .i64 (a0 : Int), .int .i64 e0, .int .i64 f0][i]?) ∧ ∀ a, st = .at a → a0 = a := by
    cases st with
    | «at» a => exact ⟨a, 0, 0, kb_cell (RRd.st F), fun b h => by injection h⟩
    | bad er fr => obtain ⟨_, a, hF⟩ := F; exact ⟨a, er, fr, kb_cell hF.st, fun b h => by cases h⟩
  have hC := rTake_any 8 a0 (by omega) F
  rw [hn a0 hat] at hC
  have HC := Lib.hid hC
  clear F hC hn hat
  go_enter Try.func62, Try.ntmps62
  go_wp2_with fail
  refine HC.out.mono ?_
  rintro e1 w1 ⟨u, rfl, hO, F1, k1⟩
  obtain ⟨A, cp, rfl⟩ := owns_slice0 hO
  have HF1 := Lib.hid F1
  have HK1 := Lib.hid k1
  clear F1 k1 c hO
  go_wp2_with fail
  go_loopw [3, 5, 12, 13, 14, 15, 16, 17, 18, 19, 20, 21, 22, 23, 24, 25] (fun s3 s5 _ _ _ _ _ _ _ _ _ _ _ _ _ _ wr => s3 = .int .u64 0 ∧ s5 = .int .i64 0 ∧ wr = w1) (fun _ _ _ _ _ _ _ _ _ _ _ _ _ _ _ _ _ => 0)
  case atStart => exact ⟨rfl, rfl, rfl⟩
  case round =>
    obtain ⟨rfl, rfl, rfl⟩ := hrel
    go_wp2_with fail
    go_ret
    exact ⟨_, rfl, rfl, HF1.out, HK1.out⟩
theorem rWord_any' {w : World} {B p : Nat} {s : Value} {xs : List UInt8} {st : St} (F : RRdO w B p s xs st) :
    Calls Try.prog 62 #[.pointer (some ⟨p, 0, none⟩)] w (RDid w B p s xs (step (fun a => takeP xs 8 a a bigL) 0 st) fun n _ u => u = .int .u64 (n : Int)) := by
  cases st with
  | bad er fr => exact rWord_no F fun _ _ => rfl
  | «at» a =>
    by_cases h : a + 8 ≤ xs.length
    · rw [step_ok (word_ok h)]; exact rWord_ok F h
    · rw [step_bad (word_bad h)]
      refine rWord_no F fun f' hf => ?_
      rw [hf a rfl, step_bad (e := 6) (f := a)]
      unfold takeP
      rw [if_neg h]
end Go.Proofs.Ytooghjnddifpdaa
end
section
namespace Go.Proofs.Ytooghjnddifpdaa
open Go.RowKit Go.Proofs.Ytooghjnddifpdaa.Wi Go.Proofs.Ytooghjnddifpdaa.Pc
attribute [local go_sem] cell_alloc_some frozen_alloc_some
set_option linter.unusedSimpArgs false
set_option linter.unusedVariables false

end Go.Proofs.Ytooghjnddifpdaa
end
section
namespace Go.Proofs.Ytooghjnddifpdaa
open Go.RowKit Go.Proofs.Ytooghjnddifpdaa.Wi Go.Proofs.Ytooghjnddifpdaa.Pc
attribute [local go_sem] cell_alloc_some frozen_alloc_some
set_option linter.unusedSimpArgs false
set_option linter.unusedVariables false
theorem keep_cell {S : Nat → Prop} {w w' : World} {p : Addr} (h : Keep S w w') (hp : p.block < w.heap.size) (hn : ¬ S p.block) : w'.cell? p = w.cell? p := by
  unfold World.cell?
  rw [h.block p.block hp hn]
/-- The first i bytes of l, then zeros, up to n. -/
def fillS (n : Nat) (l : List UInt8) (i : Nat) : List UInt8 := l.take i ++ List.replicate (n - i) 0
theorem fillS_len {n i : Nat} {l : List UInt8} (hl : l.length = n) (hi : i ≤ n) : (fillS n l i).length = n := by simp [fillS]; omega
theorem fillS_zero (n : Nat) (l : List UInt8) : fillS n l 0 = List.replicate n 0 := by simp [fillS]
theorem fillS_all {n : Nat} {l : List UInt8} (hl : l.length = n) : fillS n l n = l := by simp [fillS, List.take_of_length_le (Nat.le_of_eq hl)]
theorem fillS_next {n i : Nat} {l : List UInt8} (hl : l.length = n) (hi : i < l.length) : (u8s (fillS n l i)).toArray.setIfInBounds i (.int .u8 (l[i].toNat : Int)) = (u8s (fillS n l (i + 1))).toArray := by
  have h1 : (u8s (fillS n l i)).toArray.setIfInBounds i (.int .u8 (l[i].toNat : Int)) = (u8s ((fillS n l i).set i l[i])).toArray := by
    simp [u8s, List.map_set, u8v]
  rw [h1]
  congr 2
  unfold fillS
  have e : n - i = (n - (i + 1)) + 1 := by omega
  rw [List.set_append_right _ _ (by rw [List.length_take]; omega), e, List.replicate_succ, List.length_take, Nat.min_eq_left (by omega), Nat.sub_self, List.set_cons_zero, List.take_succ_eq_append_getElem hi, List.append_assoc]
  rfl

set_option maxRecDepth 100000 in
set_option maxHeartbeats 2000000 in
theorem rHash_ok {w : World} {B p : Nat} {s : Value} {xs : List UInt8} {a : Nat} (F : RRd w B p s xs a 0 0) (h : a + 32 ≤ xs.length) :
    Calls Try.prog 60 #[.pointer (some ⟨p, 0, none⟩)] w (RDid w B p s xs ((xs.drop a).take 32, .at (a + 32)) fun l _ u => u = .agg (u8s l).toArray) := by
  obtain ⟨l, hl⟩ : ∃ l, (xs.drop a).take 32 = l := ⟨_, rfl⟩
  have hll : l.length = 32 := by rw [← hl, List.length_take, List.length_drop]; omega
  rw [hl]
  have HL := Lib.hid hl
  have b2 : Below w.heap.size w ((w.alloc (.cells #[.int .u8 0, .int .u8 0, .int .u8 0, .int .u8 0, .int .u8 0, .int .u8 0, .int .u8 0, .int .u8 0, .int .u8 0, .int .u8 0, .int .u8 0, .int .u8 0, .int .u8 0, .int .u8 0, .int .u8 0, .int .u8 0, .int .u8 0, .int .u8 0, .int .u8 0, .int .u8 0, .int .u8 0, .int .u8 0, .int .u8 0, .int .u8 0, .int .u8 0, .int .u8 0, .int .u8 0, .int .u8 0, .int .u8 0, .int .u8 0, .int .u8 0, .int .u8 0] 23)).alloc (.cells #[.int .u8 0, .int .u8 0, .int .u8 0, .int .u8 0, .int .u8 0, .int .u8 0, .int .u8 0, .int .u8 0, .int .u8 0, .int .u8 0, .int .u8 0, .int .u8 0, .int .u8 0, .int .u8 0, .int .u8 0, .int .u8 0, .int .u8 0, .int .u8 0, .int .u8 0, .int .u8 0, .int .u8 0, .int .u8 0, .int .u8 0, .int .u8 0, .int .u8 0, .int .u8 0, .int .u8 0, .int .u8 0, .int .u8 0, .int .u8 0, .int .u8 0, .int .u8 0] 23)) := by (repeat (with_reducible (first | exact Below.refl _ _ | assumption | refine bl_alloc ?_ _ | refine bl_drew ?_ | refine bl_drewN ?_ _ | (refine bl_set ?_ ?_ _; (focus (first | (simp; done) | (simp; omega) | omega))) | refine bl_then ?_ (by assumption))))
  have D0 := kb_alloc (kb_new (w := w) rfl (.cells #[.int .u8 0, .int .u8 0, .int .u8 0, .int .u8 0, .int .u8 0, .int .u8 0, .int .u8 0, .int .u8 0, .int .u8 0, .int .u8 0, .int .u8 0, .int .u8 0, .int .u8 0, .int .u8 0, .int .u8 0, .int .u8 0, .int .u8 0, .int .u8 0, .int .u8 0, .int .u8 0, .int .u8 0, .int .u8 0, .int .u8 0, .int .u8 0, .int .u8 0, .int .u8 0, .int .u8 0, .int .u8 0, .int .u8 0, .int .u8 0, .int .u8 0, .int .u8 0] 23)) (.cells #[.int .u8 0, .int .u8 0, .int .u8 0, .int .u8 0, .int .u8 0, .int .u8 0, .int .u8 0, .int .u8 0, .int .u8 0, .int .u8 0, .int .u8 0, .int .u8 0, .int .u8 0, .int .u8 0, .int .u8 0, .int .u8 0, .int .u8 0, .int .u8 0, .int .u8 0, .int .u8 0, .int .u8 0, .int .u8 0, .int .u8 0, .int .u8 0, .int .u8 0, .int .u8 0, .int .u8 0, .int .u8 0, .int .u8 0, .int .u8 0, .int .u8 0, .int .u8 0] 23)
  have D1 := kb_new (w := w.alloc (.cells #[.int .u8 0, .int .u8 0, .int .u8 0, .int .u8 0, .int .u8 0, .int .u8 0, .int .u8 0, .int .u8 0, .int .u8 0, .int .u8 0, .int .u8 0, .int .u8 0, .int .u8 0, .int .u8 0, .int .u8 0, .int .u8 0, .int .u8 0, .int .u8 0, .int .u8 0, .int .u8 0, .int .u8 0, .int .u8 0, .int .u8 0, .int .u8 0, .int .u8 0, .int .u8 0, .int .u8 0, .int .u8 0, .int .u8 0, .int .u8 0, .int .u8 0, .int .u8 0] 23)) (b := w.heap.size + 1) (by simp) (.cells #[.int .u8 0, .int .u8 0, .int .u8 0, .int .u8 0, .int .u8 0, .int .u8 0, .int .u8 0, .int .u8 0, .int .u8 0, .int .u8 0, .int .u8 0, .int .u8 0, .int .u8 0, .int .u8 0, .int .u8 0, .int .u8 0, .int .u8 0, .int .u8 0, .int .u8 0, .int .u8 0, .int .u8 0, .int .u8 0, .int .u8 0, .int .u8 0, .int .u8 0, .int .u8 0, .int .u8 0, .int .u8 0, .int .u8 0, .int .u8 0, .int .u8 0, .int .u8 0] 23)
  have F2 := F.below b2
  have hlt := kb_lt F.st
  have hrow : ∀ b, s.ownBlock = some b → b < w.heap.size := fun b h => (F.row.lt b h).2
  have hs2 : ((w.alloc (.cells #[.int .u8 0, .int .u8 0, .int .u8 0, .int .u8 0, .int .u8 0, .int .u8 0, .int .u8 0, .int .u8 0, .int .u8 0, .int .u8 0, .int .u8 0, .int .u8 0, .int .u8 0, .int .u8 0, .int .u8 0, .int .u8 0, .int .u8 0, .int .u8 0, .int .u8 0, .int .u8 0, .int .u8 0, .int .u8 0, .int .u8 0, .int .u8 0, .int .u8 0, .int .u8 0, .int .u8 0, .int .u8 0, .int .u8 0, .int .u8 0, .int .u8 0, .int .u8 0] 23)).alloc (.cells #[.int .u8 0, .int .u8 0, .int .u8 0, .int .u8 0, .int .u8 0, .int .u8 0, .int .u8 0, .int .u8 0, .int .u8 0, .int .u8 0, .int .u8 0, .int .u8 0, .int .u8 0, .int .u8 0, .int .u8 0, .int .u8 0, .int .u8 0, .int .u8 0, .int .u8 0, .int .u8 0, .int .u8 0, .int .u8 0, .int .u8 0, .int .u8 0, .int .u8 0, .int .u8 0, .int .u8 0, .int .u8 0, .int .u8 0, .int .u8 0, .int .u8 0, .int .u8 0] 23)).heap.size = w.heap.size + 2 := by simp
  have c := kb_cell F2.st
  have HF2 := Lib.hid F2
  have HD0 := Lib.hid D0
  have HD1 := Lib.hid D1
  have HB2 := Lib.hid b2
  clear F F2 hl D0 D1 b2
  go_enter Try.func60, Try.ntmps60
  go_wp2_with fail
  refine (rTake_ok 32 a HF2.out h).mono ?_
  rintro e w3 ⟨v3, rfl, hO3, F3, k3⟩
  rw [HL.out] at hO3
  obtain ⟨g3, cp3, hv3, hg3, hgl3, hcc3⟩ := own_cells hO3 (by omega)
  subst hv3
  have E0 := k3.kb HD0.out (by omega)
  have E1 := k3.kb HD1.out (by omega)
  have K3 := Keep.after HB2.out k3
  have HF3 := Lib.hid F3
  have HK3 := Lib.hid K3
  have HCC := Lib.hid hcc3
  have HE0 := Lib.hid E0
  have HE1 := Lib.hid E1
  have hg3' : w.heap.size + 2 ≤ g3 := by omega
  have hlt3 : w.heap.size + 2 ≤ w3.heap.size := by have := k3.size; omega
  clear F3 k3 K3 c hO3 hcc3 E0 E1 HD0 HD1 HF2 HB2 hs2 hg3
  go_wp2_with fail
  go_loopw [5, 12, 13, 14, 15, 16, 17, 18, 19, 20, 21, 22, 23] (fun s5 _ _ _ _ _ _ _ _ _ _ _ _ wr => ∃ i : Nat, i ≤ 32 ∧ s5 = .int .i64 i ∧ wr.heap[w.heap.size + 1]? = some (.cells (u8s (fillS 32 l i)).toArray 23 (0, 0)) ∧ Keep (fun b => b = w.heap.size + 1) w3 wr) (fun s5 _ _ _ _ _ _ _ _ _ _ _ _ _ => 32 - (intOf s5).toNat)
  case atStart => exact ⟨0, by omega, rfl, by rw [fillS_zero]; exact HE1.out, Keep.refl _ _⟩
  case round =>
    obtain ⟨i, hi, rfl, hD, hK⟩ := hrel
    by_cases hlt : i < 32
    · have hil : ((i : Nat) : Int) < 32 := by omega
      have hli : i < l.length := by omega
      have cc := (keep_cell hK (p := ⟨g3, i, none⟩) hgl3 (by show ¬ g3 = w.heap.size + 1; omega)).trans (HCC.out i _ (List.getElem?_eq_getElem hli))
      unfold u8v at cc
      have hlen := fillS_len hll hi
      have hj : i < (fillS 32 l i).length := by omega
      have cd := (kb_cell hD i).trans (show (u8s (fillS 32 l i)).toArray[i]? = some (.int .u8 ((fillS 32 l i)[i].toNat : Int)) by simp [u8s, u8v, hj])
      have zd := kb_frozen hD i
      have hN := kb_set (i := i) hD (.int .u8 (l[i].toNat : Int))
      rw [fillS_next hll hli] at hN
      have hK' := hK.set (p := ⟨w.heap.size + 1, i, none⟩) (fun _ => rfl) (.int .u8 (l[i].toNat : Int))
      have HN := Lib.hid hN
      have HK' := Lib.hid hK'
      generalize (fillS 32 l i)[i] = z0 at *
      generalize l[i] = z1 at *
      clear hN hK' hD hK hj hlen
      go_wp2_with fail
      go_roundw
      case rel => exact ⟨i + 1, by omega, by go_num, HN.out, HK'.out⟩
      case measure => simp [intOf]; omega
    · obtain rfl : i = 32 := by omega
      rw [fillS_all hll] at hD
      have hsz : (u8s l).length = 32 := by rw [u8s_len, hll]
      have hszA : (u8s l).toArray.size = 32 := by simpa using hsz
      have G0 := hK.kb HE0.out (by omega)
      have HR := Lib.hid (range_of_kb (cs := u8s l) hD)
      have HT := Lib.hid (there_kb G0 (show _ = (u8s l).toArray.size by rw [hszA]; rfl))
      have HG := Lib.hid (setCells_kb (u8s l) G0 (by rw [hsz]; rfl))
      have HKN := Lib.hid (keep_cells (u8s l) (g := w.heap.size) 0 (Keep.refl (fun b => b = w.heap.size) wr) (fun _ => rfl))
      have HKK := Lib.hid hK
      clear hlt hD hK G0
      go_wp2_with (first
        | (with_reducible refine wpList_load_mid rfl 23 _ rfl (w.heap.size + 1) 0 rfl (u8s l) _ HR.out Try.underlying23 rfl (sizeHash.trans (congrArg some hsz.symm)) ?_)
        | (with_reducible refine wpList_store_mid rfl 23 _ _ rfl w.heap.size 0 (u8s l).toArray rfl rfl HT.out (sizeHash.trans (congrArg some hszA.symm)) (u8s_all _) ?_))
      refine bodyPost_ret (results_cell_row rfl _ _ w.heap.size 23 _ (0, 0) _ rfl HG.out Try.underlying23 rfl (sizeHash.trans (congrArg some hszA.symm))) rfl ?_
      exact ⟨_, rfl, rfl, (HF3.out.keep HKK.out (by omega) (fun b h e => by have := hrow b h; omega)).keep HKN.out (by omega) (fun b h e => by have := hrow b h; omega), (HK3.out.trans HKK.out (fun b h e => by omega)).trans HKN.out (fun b h e => by omega)⟩

set_option maxRecDepth 100000 in
set_option maxHeartbeats 2000000 in
theorem rHash_no {w : World} {B p : Nat} {s : Value} {xs : List UInt8} {st : St} {e f : Nat} (F : RRdO w B p s xs st) (hn : ∀ f', (∀ a, st = .at a → f' = a) → step (fun a => takeP xs 32 a f' id) ([] : List UInt8) st = ([], .bad e f)) :
    Calls Try.prog 60 #[.pointer (some ⟨p, 0, none⟩)] w (RDid w B p s xs (List.replicate 32 0, .bad e f) fun l _ u => u = .agg (u8s l).toArray) := by
  have b2 : Below w.heap.size w ((w.alloc (.cells #[.int .u8 0, .int .u8 0, .int .u8 0, .int .u8 0, .int .u8 0, .int .u8 0, .int .u8 0, .int .u8 0, .int .u8 0, .int .u8 0, .int .u8 0, .int .u8 0, .int .u8 0, .int .u8 0, .int .u8 0, .int .u8 0, .int .u8 0, .int .u8 0, .int .u8 0, .int .u8 0, .int .u8 0, .int .u8 0, .int .u8 0, .int .u8 0, .int .u8 0, .int .u8 0, .int .u8 0, .int .u8 0, .int .u8 0, .int .u8 0, .int .u8 0, .int .u8 0] 23)).alloc (.cells #[.int .u8 0, .int .u8 0, .int .u8 0, .int .u8 0, .int .u8 0, .int .u8 0, .int .u8 0, .int .u8 0, .int .u8 0, .int .u8 0, .int .u8 0, .int .u8 0, .int .u8 0, .int .u8 0, .int .u8 0, .int .u8 0, .int .u8 0, .int .u8 0, .int .u8 0, .int .u8 0, .int .u8 0, .int .u8 0, .int .u8 0, .int .u8 0, .int .u8 0, .int .u8 0, .int .u8 0, .int .u8 0, .int .u8 0, .int .u8 0, .int .u8 0, .int .u8 0] 23)) := by (repeat (with_reducible (first | exact Below.refl _ _ | assumption | refine bl_alloc ?_ _ | refine bl_drew ?_ | refine bl_drewN ?_ _ | (refine bl_set ?_ ?_ _; (focus (first | (simp; done) | (simp; omega) | omega))) | refine bl_then ?_ (by assumption))))
  have D0 := kb_alloc (kb_new (w := w) rfl (.cells #[.int .u8 0, .int .u8 0, .int .u8 0, .int .u8 0, .int .u8 0, .int .u8 0, .int .u8 0, .int .u8 0, .int .u8 0, .int .u8 0, .int .u8 0, .int .u8 0, .int .u8 0, .int .u8 0, .int .u8 0, .int .u8 0, .int .u8 0, .int .u8 0, .int .u8 0, .int .u8 0, .int .u8 0, .int .u8 0, .int .u8 0, .int .u8 0, .int .u8 0, .int .u8 0, .int .u8 0, .int .u8 0, .int .u8 0, .int .u8 0, .int .u8 0, .int .u8 0] 23)) (.cells #[.int .u8 0, .int .u8 0, .int .u8 0, .int .u8 0, .int .u8 0, .int .u8 0, .int .u8 0, .int .u8 0, .int .u8 0, .int .u8 0, .int .u8 0, .int .u8 0, .int .u8 0, .int .u8 0, .int .u8 0, .int .u8 0, .int .u8 0, .int .u8 0, .int .u8 0, .int .u8 0, .int .u8 0, .int .u8 0, .int .u8 0, .int .u8 0, .int .u8 0, .int .u8 0, .int .u8 0, .int .u8 0, .int .u8 0, .int .u8 0, .int .u8 0, .int .u8 0] 23)
  have D1 := kb_new (w := w.alloc (.cells #[.int .u8 0, .int .u8 0, .int .u8 0, .int .u8 0, .int .u8 0, .int .u8 0, .int .u8 0, .int .u8 0, .int .u8 0, .int .u8 0, .int .u8 0, .int .u8 0, .int .u8 0, .int .u8 0, .int .u8 0, .int .u8 0, .int .u8 0, .int .u8 0, .int .u8 0, .int .u8 0, .int .u8 0, .int .u8 0, .int .u8 0, .int .u8 0, .int .u8 0, .int .u8 0, .int .u8 0, .int .u8 0, .int .u8 0, .int .u8 0, .int .u8 0, .int .u8 0] 23)) (b := w.heap.size + 1) (by simp) (.cells #[.int .u8 0, .int .u8 0, .int .u8 0, .int .u8 0, .int .u8 0, .int .u8 0, .int .u8 0, .int .u8 0, .int .u8 0, .int .u8 0, .int .u8 0, .int .u8 0, .int .u8 0, .int .u8 0, .int .u8 0, .int .u8 0, .int .u8 0, .int .u8 0, .int .u8 0, .int .u8 0, .int .u8 0, .int .u8 0, .int .u8 0, .int .u8 0, .int .u8 0, .int .u8 0, .int .u8 0, .int .u8 0, .int .u8 0, .int .u8 0, .int .u8 0, .int .u8 0] 23)
  have F2 := F.below b2
  have hlt := F.ltp
  have hrow : ∀ b, s.ownBlock = some b → b < w.heap.size := fun b h => (F.low b h).2
  obtain ⟨zl, hz, hzl⟩ : ∃ zl : List UInt8, List.replicate 32 0 = zl ∧ zl.length = 32 := ⟨_, rfl, by simp⟩
  have D1' : ((w.alloc (.cells #[.int .u8 0, .int .u8 0, .int .u8 0, .int .u8 0, .int .u8 0, .int .u8 0, .int .u8 0, .int .u8 0, .int .u8 0, .int .u8 0, .int .u8 0, .int .u8 0, .int .u8 0, .int .u8 0, .int .u8 0, .int .u8 0, .int .u8 0, .int .u8 0, .int .u8 0, .int .u8 0, .int .u8 0, .int .u8 0, .int .u8 0, .int .u8 0, .int .u8 0, .int .u8 0, .int .u8 0, .int .u8 0, .int .u8 0, .int .u8 0, .int .u8 0, .int .u8 0] 23)).alloc (.cells #[.int .u8 0, .int .u8 0, .int .u8 0, .int .u8 0, .int .u8 0, .int .u8 0, .int .u8 0, .int .u8 0, .int .u8 0, .int .u8 0, .int .u8 0, .int .u8 0, .int .u8 0, .int .u8 0, .int .u8 0, .int .u8 0, .int .u8 0, .int .u8 0, .int .u8 0, .int .u8 0, .int .u8 0, .int .u8 0, .int .u8 0, .int .u8 0, .int .u8 0, .int .u8 0, .int .u8 0, .int .u8 0, .int .u8 0, .int .u8 0, .int .u8 0, .int .u8 0] 23)).heap[w.heap.size + 1]? = some (.cells (u8s (List.replicate 32 0)).toArray 23 (0, 0)) := D1
  rw [hz] at D1' ⊢
  obtain ⟨a0, e0, f0, c, hat⟩ : ∃ (a0 : Nat) (e0 f0 : Int), (∀ i, ((w.alloc (.cells #[.int .u8 0, .int .u8 0, .int .u8 0, .int .u8 0, .int .u8 0, .int .u8 0, .int .u8 0, .int .u8 0, .int .u8 0, .int .u8 0, .int .u8 0, .int .u8 0, .int .u8 0, .int .u8 0, .int .u8 0, .int .u8 0, .int .u8 0, .int .u8 0, .int .u8 0, .int .u8 0, .int .u8 0, .int .u8 0, .int .u8 0, .int .u8 0, .int .u8 0, .int .u8 0, .int .u8 0, .int .u8 0, .int .u8 0, .int .u8 0, .int .u8 0, .int .u8 0] 23)).alloc (.cells #[.int .u8 0, .int .u8 0, .int .u8 0, .int .u8 0, .int .u8 0, .int .u8 0, .int .u8 0, .int .u8 0, .int .u8 0, .int .u8 0, .int .u8 0, .int .u8 0, .int .u8 0, .int .u8 0, .int .u8 0, .int .u8 0, .int .u8 0, .int .u8 0, .int .u8 0, .int .u8 0, .int .u8 0, .int .u8 0, .int .u8 0, .int .u8 0, .int .u8 0, .int .u8 0, .int .u8 0, .int .u8 0, .int .u8 0, .int .u8 0, .int .u8 0, .int .u8 0] 23)).cell? ⟨p, i, none⟩ = #[s, .int .i64 (a0 : Int), .int .i64 e0, .int .i64 f0][i]?) ∧ ∀ a, st = .at a → a0 = a := by
    cases st with
    | «at» a => exact ⟨a, 0, 0, kb_cell (RRd.st F2), fun b h => by injection h⟩
    | bad er fr => obtain ⟨_, a, hF⟩ := F2; exact ⟨a, er, fr, kb_cell hF.st, fun b h => by cases h⟩
  have hC := rTake_any 32 a0 (by omega) F2
  rw [hn a0 hat] at hC
  have hs2 : ((w.alloc (.cells #[.int .u8 0, .int .u8 0, .int .u8 0, .int .u8 0, .int .u8 0, .int .u8 0, .int .u8 0, .int .u8 0, .int .u8 0, .int .u8 0, .int .u8 0, .int .u8 0, .int .u8 0, .int .u8 0, .int .u8 0, .int .u8 0, .int .u8 0, .int .u8 0, .int .u8 0, .int .u8 0, .int .u8 0, .int .u8 0, .int .u8 0, .int .u8 0, .int .u8 0, .int .u8 0, .int .u8 0, .int .u8 0, .int .u8 0, .int .u8 0, .int .u8 0, .int .u8 0] 23)).alloc (.cells #[.int .u8 0, .int .u8 0, .int .u8 0, .int .u8 0, .int .u8 0, .int .u8 0, .int .u8 0, .int .u8 0, .int .u8 0, .int .u8 0, .int .u8 0, .int .u8 0, .int .u8 0, .int .u8 0, .int .u8 0, .int .u8 0, .int .u8 0, .int .u8 0, .int .u8 0, .int .u8 0, .int .u8 0, .int .u8 0, .int .u8 0, .int .u8 0, .int .u8 0, .int .u8 0, .int .u8 0, .int .u8 0, .int .u8 0, .int .u8 0, .int .u8 0, .int .u8 0] 23)).heap.size = w.heap.size + 2 := by simp
  have HC := Lib.hid hC
  have HD0 := Lib.hid D0
  have HD1 := Lib.hid D1'
  have HB2 := Lib.hid b2
  clear F F2 hC hn hat D0 D1 D1' b2 hz
  go_enter Try.func60, Try.ntmps60
  go_wp2_with fail
  refine HC.out.mono ?_
  rintro e1 w1 ⟨u, rfl, hO, F1, k1⟩
  obtain ⟨A, cp, rfl⟩ := owns_slice0 hO
  have hsz : (u8s zl).length = 32 := by rw [u8s_len, hzl]
  have hszA : (u8s zl).toArray.size = 32 := by simpa using hsz
  have G0 := k1.kb HD0.out (by omega)
  have HR := Lib.hid (range_of_kb (cs := u8s zl) (k1.kb HD1.out (by omega)))
  have HT := Lib.hid (there_kb G0 (show _ = (u8s zl).toArray.size by rw [hszA]; rfl))
  have HG := Lib.hid (setCells_kb (u8s zl) G0 (by rw [hsz]; rfl))
  have HKN := Lib.hid (keep_cells (u8s zl) (g := w.heap.size) 0 (Keep.refl (fun b => b = w.heap.size) w1) (fun _ => rfl))
  have HF1 := Lib.hid F1
  have HK1 := Lib.hid (Keep.after HB2.out k1)
  clear F1 k1 c hO G0 HD0 HD1 HB2 HC hs2
  go_wp2_with fail
  go_loopw [5, 12, 13, 14, 15, 16, 17, 18, 19, 20, 21, 22, 23] (fun s5 _ _ _ _ _ _ _ _ _ _ _ _ wr => s5 = .int .i64 0 ∧ wr = w1) (fun _ _ _ _ _ _ _ _ _ _ _ _ _ _ => 0)
  case atStart => exact ⟨rfl, rfl⟩
  case round =>
    obtain ⟨rfl, rfl⟩ := hrel
    go_wp2_with (first
        | (with_reducible refine wpList_load_mid rfl 23 _ rfl (w.heap.size + 1) 0 rfl (u8s zl) _ HR.out Try.underlying23 rfl (sizeHash.trans (congrArg some hsz.symm)) ?_)
        | (with_reducible refine wpList_store_mid rfl 23 _ _ rfl w.heap.size 0 (u8s zl).toArray rfl rfl HT.out (sizeHash.trans (congrArg some hszA.symm)) (u8s_all _) ?_))
    refine bodyPost_ret (results_cell_row rfl _ _ w.heap.size 23 _ (0, 0) _ rfl HG.out Try.underlying23 rfl (sizeHash.trans (congrArg some hszA.symm))) rfl ?_
    exact ⟨_, rfl, rfl, HF1.out.keep HKN.out (by omega) (fun b h e => by have := hrow b h; omega), HK1.out.trans HKN.out (fun b h e => by omega)⟩

theorem rHash_any' {w : World} {B p : Nat} {s : Value} {xs : List UInt8} {st : St} (F : RRdO w B p s xs st) :
    Calls Try.prog 60 #[.pointer (some ⟨p, 0, none⟩)] w (RDid w B p s xs (step (fun a => takeP xs 32 a a id) (List.replicate 32 0) st) fun l _ u => u = .agg (u8s l).toArray) := by
  cases st with
  | bad er fr => exact rHash_no F fun _ _ => rfl
  | «at» a =>
    by_cases h : a + 32 ≤ xs.length
    · have hs : takeP xs 32 a a id = .ok ((xs.drop a).take 32) (a + 32) := by unfold takeP; rw [if_pos h]; rfl
      rw [step_ok hs]; exact rHash_ok F h
    · have hs : takeP xs 32 a a id = .bad 6 a := by unfold takeP; rw [if_neg h]
      rw [step_bad hs]
      refine rHash_no F fun f' hf => ?_
      rw [hf a rfl, step_bad hs]

end Go.Proofs.Ytooghjnddifpdaa
end
