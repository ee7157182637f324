/- The walks of package wire: a reader's Hash, Key. Printed by wip/arrs.py. -/
import Derived.Test.YtajlcodlaalomaaWire23
import Derived.Defers
import Derived.Recover
namespace Go.Proofs.Ytajlcodlaalomaa
open Go.RowKit Go.Proofs.Ytajlcodlaalomaa.Wi Go.Proofs.Ytajlcodlaalomaa.Pc
attribute [local go_sem] cell_alloc_some frozen_alloc_some
set_option linter.unusedSimpArgs false
set_option linter.unusedVariables false
theorem bytes_range {w : World} {v : Value} {l : List UInt8} (h : BytesOf w v l) (h0 : 0 < l.length) : ∃ b off cap, v = .slice (some ⟨b, off, none⟩) l.length cap ∧ b < w.heap.size ∧ w.rangeAt b off (u8s l) := by
  obtain ⟨A, cap, rfl, _, hc⟩ := h
  obtain ⟨b, off, rfl, hb, hcc⟩ := hc h0
  exact ⟨b, off, cap, rfl, hb, hcc⟩
theorem u8s_all (l : List UInt8) : (u8s l).toArray.all (·.oneCell') = true := by
  rw [List.all_toArray, List.all_eq_true]
  exact u8s_one l
theorem takeP_len {xs : List UInt8} {n a f a' : Nat} {l : List UInt8} (h : takeP xs n a f id = .ok l a') : l.length = n := by
  unfold takeP at h
  split at h
  · injection h with h1 h2
    rw [← h1, id, List.length_take, List.length_drop]; omega
  · injection h
theorem Reads.keep {α : Type} {w : World} {B p : Nat} {s : Value} {xs : List UInt8} {r : Rs α} {V : α → World → Value → Prop} {z : Value} {e : Ending} {w' : World} (h : Reads w B p s xs r V z e w') : Keep (fun b => b = p) w w' := by
  cases r with
  | ok v a => obtain ⟨u, _, _, h⟩ := h; exact h.2
  | bad er f => obtain ⟨_, a, h⟩ := h; exact h.2
theorem step_len {xs zl : List UInt8} {n : Nat} (hz : zl.length = n) (st : St) : (step (fun a => takeP xs n a a id) zl st).1.length = n := by
  cases st with
  | «at» a =>
    simp only [step]
    cases h : takeP xs n a a id with
    | ok v a' => exact takeP_len h
    | bad e f => exact hz
  | bad e f => exact hz

theorem run_arrHash (W : World) (b off c : Nat) : (Instr.arrayAt 34 (.slice (some ⟨b, off, none⟩) 32 c)).run Try.prog W = .ok (.pointer (some ⟨b, off, none⟩)) W := by
  unfold Instr.arrayAt
  simp only [Sem.run_bind, run_underlying Try.underlying34 W, Result.andThen_ok]
  rfl
theorem sizeHash : (Try.prog.info? 34).map (·.size) = some 32 := by kernel_rfl
set_option maxRecDepth 100000 in
set_option maxHeartbeats 1000000 in
theorem arrHash {w : World} {v : Value} {l : List UInt8} (hv : BytesOf w v l) (hl : l.length = 32) :
    Calls Try.prog 86 #[v] w fun e w' => e = .returned (.agg (u8s l).toArray) ∧ Below w.heap.size w w' := by
  obtain ⟨b, off, c, rfl, hb, hr⟩ := bytes_range hv (by omega)
  rw [hl]
  have hsa := fun W => run_arrHash W b off c
  have HR := Lib.hid (show ∀ o, (w.alloc o).rangeAt b off (u8s l) from fun o => range_below hr hb (bl_alloc (Below.refl _ _) o))
  have hsz : (u8s l).length = 32 := by rw [u8s_len]; exact hl
  have hszA : (u8s l).toArray.size = 32 := by simpa using hsz
  clear hr hv
  go_enter Try.func86, Try.ntmps86
  go_wp2_with (first
    | (with_reducible refine wpList_load_mid rfl 34 _ rfl b off rfl (u8s l) _ (HR.out _) Try.underlying34 rfl (sizeHash.trans (congrArg some hsz.symm)) ?_)
    | (with_reducible refine wpList_store_new rfl 34 _ _ rfl (u8s l).toArray rfl rfl (Eq.trans (b := 32) (by kernel_rfl) hszA.symm) (sizeHash.trans (congrArg some hszA.symm)) (u8s_all l) ?_))
  exact bodyPost_ret (results_cell_row rfl _ _ w.heap.size 34 _ (0, 0) _ rfl (kb_new rfl _) Try.underlying34 rfl (sizeHash.trans (congrArg some hszA.symm))) rfl ⟨rfl, by (repeat (with_reducible (first | exact Below.refl _ _ | assumption | refine bl_alloc ?_ _ | refine bl_drew ?_ | refine bl_drewN ?_ _ | (refine bl_set ?_ ?_ _; (focus (first | (simp; done) | (simp; omega) | omega))) | refine bl_then ?_ (by assumption))))⟩

set_option maxHeartbeats 1000000 in
theorem takeHash_short {w : World} {B p : Nat} {s : Value} {xs : List UInt8} {a : Nat} (n : Nat) (f : Int) (mk : Value) (F : Rd w B p s xs a 0 0) (hn : xs.length < a + n) (h63 : n < 9223372036854775808) :
    Calls Try.prog 85 #[.pointer (some ⟨p, 0, none⟩), .int .i64 n, .int .i64 f, mk] w fun e w' => e = .panicked [{ v := wrongV 6 f, recovered := false }] ∧ Below w.heap.size w w' := by
  obtain ⟨A, cap, rfl⟩ := (RowOf.of_own F.row).form
  have hlt := kb_lt F.st
  have c0 := kb_cell F.st 0
  have c1 := kb_cell F.st 1
  simp at c0 c1
  have hd : decide ((n : Int) ≤ (xs.length : Int) - (a : Int)) = false := decide_eq_false (by omega)
  have hw : IntKind.i64.wrap ((xs.length : Int) - (a : Int)) = (xs.length : Int) - (a : Int) := IntWalk.i64_in _ (by have := F.len; have := F.le; omega)
  have hx : ∀ o, (w.alloc o).cell? ⟨p, 0, none⟩ = some (.slice A xs.length cap) ∧ (w.alloc o).cell? ⟨p, 1, none⟩ = some (.int .i64 (a : Int)) := fun o => ⟨(cell_alloc_some w p 0 o (by rw [c0]; rfl)).trans c0, (cell_alloc_some w p 1 o (by rw [c1]; rfl)).trans c1⟩
  have HX := Lib.hid hx
  clear F hx
  go_enter Try.func85, Try.ntmps85
  go_wp2
  refine wp_region_held_drew (S := (fun W : World => W.cell? ⟨p, 0, none⟩ = some (.slice A xs.length cap) ∧ W.cell? ⟨p, 1, none⟩ = some (.int .i64 (a : Int)))) (by kernel_rfl) (HX.out _) (fun hHeld => ?_)
  refine wpAnyH_take (i := 0) (oi := { dst := some 9, op := _, type := _, pos := _, after := _, guard := _ }) (v := ?_) rfl (by kernel_rfl) (by kernel_rfl) (by kernel_rfl) (fun _ _ _ h => h) (Or.inl ⟨by rfl, ?_⟩) hHeld ?_
  rotate_left
  · (intro w hSw; (try dsimp only at hSw); go_simp); all_goals with_reducible rfl
  try simp only [Act.put, List.setIfInBounds_toArray, List.set_cons_zero, List.set_cons_succ]
  refine wpAnyH_take (i := 1) (oi := { dst := some 10, op := _, type := _, pos := _, after := _, guard := _ }) (v := ?_) rfl (by kernel_rfl) (by kernel_rfl) (by kernel_rfl) (fun _ _ _ h => h) (Or.inl ⟨by rfl, ?_⟩) hHeld ?_
  rotate_left
  · (intro w hSw; (try dsimp only at hSw); go_simp); all_goals with_reducible rfl
  try simp only [Act.put, List.setIfInBounds_toArray, List.set_cons_zero, List.set_cons_succ]
  refine wpAnyH_take (i := 2) (oi := { dst := some 11, op := _, type := _, pos := _, after := _, guard := _ }) (v := ?_) rfl (by kernel_rfl) (by kernel_rfl) (by kernel_rfl) (fun _ _ _ h => h) (Or.inl ⟨by rfl, ?_⟩) hHeld ?_
  rotate_left
  · (intro w hSw; (try dsimp only at hSw); go_simp); all_goals with_reducible rfl
  try simp only [Act.put, List.setIfInBounds_toArray, List.set_cons_zero, List.set_cons_succ]
  refine wpAnyH_take (i := 3) (oi := { dst := some 12, op := _, type := _, pos := _, after := _, guard := _ }) (v := ?_) rfl (by kernel_rfl) (by kernel_rfl) (by kernel_rfl) (fun _ _ _ h => h) (Or.inl ⟨by rfl, ?_⟩) hHeld ?_
  rotate_left
  · (intro w hSw; (try dsimp only at hSw); go_simp); all_goals with_reducible rfl
  try simp only [Act.put, List.setIfInBounds_toArray, List.set_cons_zero, List.set_cons_succ]
  refine wpAnyH_take (i := 4) (oi := { dst := some 13, op := _, type := _, pos := _, after := _, guard := _ }) (v := ?_) rfl (by kernel_rfl) (by kernel_rfl) (by kernel_rfl) (fun _ _ _ h => h) (Or.inl ⟨by rfl, ?_⟩) hHeld ?_
  rotate_left
  · (intro w hSw; (try dsimp only at hSw); go_simp); all_goals with_reducible rfl
  try simp only [Act.put, List.setIfInBounds_toArray, List.set_cons_zero, List.set_cons_succ]
  refine wpAnyH_take (i := 5) (oi := { dst := some 14, op := _, type := _, pos := _, after := _, guard := _ }) (v := ?_) rfl (by kernel_rfl) (by kernel_rfl) (by kernel_rfl) (fun _ _ _ h => h) (Or.inl ⟨by rfl, ?_⟩) hHeld ?_
  rotate_left
  · (intro w hSw; (try dsimp only at hSw); go_simp); all_goals with_reducible rfl
  try simp only [Act.put, List.setIfInBounds_toArray, List.set_cons_zero, List.set_cons_succ]
  refine wpAnyH_take (i := 6) (oi := { dst := some 15, op := _, type := _, pos := _, after := _, guard := _ }) (v := ?_) rfl (by kernel_rfl) (by kernel_rfl) (by kernel_rfl) (fun _ _ _ h => h) (Or.inl ⟨by rfl, ?_⟩) hHeld ?_
  rotate_left
  · (intro w hSw; (try dsimp only at hSw); go_simp); all_goals with_reducible rfl
  try simp only [Act.put, List.setIfInBounds_toArray, List.set_cons_zero, List.set_cons_succ]
  refine wpAnyH_take (i := 7) (oi := { dst := some 16, op := _, type := _, pos := _, after := _, guard := _ }) (v := ?_) rfl (by kernel_rfl) (by kernel_rfl) (by kernel_rfl) (fun _ _ _ h => h) (Or.inl ⟨by rfl, ?_⟩) hHeld ?_
  rotate_left
  · (intro w hSw; (try dsimp only at hSw); go_simp); all_goals with_reducible rfl
  try simp only [Act.put, List.setIfInBounds_toArray, List.set_cons_zero, List.set_cons_succ]
  refine wpAnyH_take (i := 8) (oi := { dst := some 17, op := _, type := _, pos := _, after := _, guard := _ }) (v := ?_) rfl (by kernel_rfl) (by kernel_rfl) (by kernel_rfl) (fun _ _ _ h => h) (Or.inl ⟨by rfl, ?_⟩) hHeld ?_
  rotate_left
  · (intro w hSw; (try dsimp only at hSw); go_simp); all_goals with_reducible rfl
  try simp only [Act.put, List.setIfInBounds_toArray, List.set_cons_zero, List.set_cons_succ]
  refine wpAnyH_take (i := 9) (oi := { dst := some 18, op := _, type := _, pos := _, after := _, guard := _ }) (v := ?_) rfl (by kernel_rfl) (by kernel_rfl) (by kernel_rfl) (fun _ _ _ h => h) (Or.inl ⟨by rfl, ?_⟩) hHeld ?_
  rotate_left
  · (intro w hSw; (try dsimp only at hSw); go_simp); all_goals with_reducible rfl
  try simp only [Act.put, List.setIfInBounds_toArray, List.set_cons_zero, List.set_cons_succ]
  refine wpAnyH_take (i := 10) (oi := { dst := some 19, op := _, type := _, pos := _, after := _, guard := _ }) (v := ?_) rfl (by kernel_rfl) (by kernel_rfl) (by kernel_rfl) (fun _ _ _ h => h) (Or.inl ⟨by rfl, ?_⟩) hHeld ?_
  rotate_left
  · (intro w hSw; (try dsimp only at hSw); go_simp); all_goals with_reducible rfl
  try simp only [Act.put, List.setIfInBounds_toArray, List.set_cons_zero, List.set_cons_succ]
  refine wpAnyH_take (i := 11) (oi := { dst := some 20, op := _, type := _, pos := _, after := _, guard := _ }) (v := ?_) rfl (by kernel_rfl) (by kernel_rfl) (by kernel_rfl) (fun _ _ _ h => h) (Or.inl ⟨by rfl, ?_⟩) hHeld ?_
  rotate_left
  · (intro w hSw; (try dsimp only at hSw); go_simp); all_goals with_reducible rfl
  try simp only [Act.put, List.setIfInBounds_toArray, List.set_cons_zero, List.set_cons_succ]
  refine wpAnyH_take (i := 12) (oi := { dst := some 21, op := _, type := _, pos := _, after := _, guard := _ }) (v := ?_) rfl (by kernel_rfl) (by kernel_rfl) (by kernel_rfl) (fun _ _ _ h => h) (Or.inl ⟨by rfl, ?_⟩) hHeld ?_
  rotate_left
  · (intro w hSw; (try dsimp only at hSw); go_simp); all_goals with_reducible rfl
  try simp only [Act.put, List.setIfInBounds_toArray, List.set_cons_zero, List.set_cons_succ]
  refine wpAnyH_ready (rs := [13]) (by kernel_rfl) (by simp) (AllReadyH.cons (o := _) rfl (fun K hK => ?_) AllReadyH.nil)
  go_simp
  refine (must_no _ _ _).mono ?_
  rintro e w' ⟨rfl, rfl⟩
  exact ⟨rfl, rfl, by (repeat (with_reducible (first | exact Below.refl _ _ | assumption | refine bl_alloc ?_ _ | refine bl_drew ?_ | refine bl_drewN ?_ _ | (refine bl_set ?_ ?_ _; (focus (first | (simp; done) | (simp; omega) | omega))) | refine bl_then ?_ (by assumption))))⟩
set_option maxRecDepth 100000 in
set_option maxHeartbeats 2000000 in
theorem takeHash_ok {w : World} {B p : Nat} {s : Value} {xs : List UInt8} {a : Nat} (f : Int) (F : Rd w B p s xs a 0 0) (hn : a + 32 ≤ xs.length) :
    Calls Try.prog 85 #[.pointer (some ⟨p, 0, none⟩), .int .i64 32, .int .i64 f, .func (.func 86) #[] #[]] w fun e w' => ∃ u, e = .returned u ∧ u = .agg (u8s ((xs.drop a).take 32)).toArray ∧ RdTo (fun b => b = p) w w' B p s xs (a + 32) := by
  obtain ⟨A, c, rfl⟩ := (RowOf.of_own F.row).form
  have hlt := kb_lt F.st
  have hle := F.len
  have hd : decide ((32 : Int) ≤ (xs.length : Int) - (a : Int)) = true := decide_eq_true (by omega)
  have hw : IntKind.i64.wrap ((xs.length : Int) - (a : Int)) = (xs.length : Int) - (a : Int) := IntWalk.i64_in _ (by have := F.len; have := F.le; omega)
  have hw2 : IntKind.i64.wrap ((a : Int) + 32) = (a : Int) + 32 := IntWalk.i64_in _ (by omega)
  have hw3 : IntKind.i64.wrap ((a : Int) + 32 - 32) = (a : Int) := by rw [IntWalk.i64_in _ (by omega)]; omega
  have hw4 : IntKind.i64.wrap (a : Int) = (a : Int) := IntWalk.i64_in _ (by omega)
  obtain ⟨A', hsl, hsb⟩ := part_run F.row a 32 hn
  rw [show ((32 : Nat) : Int) = (32 : Int) from rfl] at hsl
  have eK : Enters 86 := fun _ _ => by kernel_rfl
  unfold Enters at eK
  obtain ⟨Z, hZ, hZs⟩ : ∃ Z : Array Value, Z = #[.int .u8 0, .int .u8 0, .int .u8 0, .int .u8 0, .int .u8 0, .int .u8 0, .int .u8 0, .int .u8 0, .int .u8 0, .int .u8 0, .int .u8 0, .int .u8 0, .int .u8 0, .int .u8 0, .int .u8 0, .int .u8 0, .int .u8 0, .int .u8 0, .int .u8 0, .int .u8 0, .int .u8 0, .int .u8 0, .int .u8 0, .int .u8 0, .int .u8 0, .int .u8 0, .int .u8 0, .int .u8 0, .int .u8 0, .int .u8 0, .int .u8 0, .int .u8 0] ∧ Z.size = 32 := ⟨_, rfl, rfl⟩
  have bA : Below w.heap.size w (w.alloc (.cells Z 34)) := bl_alloc (Below.refl _ _) _
  have FA := F.below bA
  have DA := kb_new (w := w) rfl (.cells Z 34)
  rw [hZ] at FA bA DA
  generalize hWA : w.alloc (.cells #[.int .u8 0, .int .u8 0, .int .u8 0, .int .u8 0, .int .u8 0, .int .u8 0, .int .u8 0, .int .u8 0, .int .u8 0, .int .u8 0, .int .u8 0, .int .u8 0, .int .u8 0, .int .u8 0, .int .u8 0, .int .u8 0, .int .u8 0, .int .u8 0, .int .u8 0, .int .u8 0, .int .u8 0, .int .u8 0, .int .u8 0, .int .u8 0, .int .u8 0, .int .u8 0, .int .u8 0, .int .u8 0, .int .u8 0, .int .u8 0, .int .u8 0, .int .u8 0] 34) = wA at *
  have hsA : wA.heap.size = w.heap.size + 1 := by rw [← hWA]; simp
  have HWA := Lib.hid hWA
  have HBA := Lib.hid bA
  have HF := Lib.hid F
  have HFA := Lib.hid FA
  have HDA := Lib.hid DA
  have c0 := kb_cell FA.st 0
  have c1 := kb_cell FA.st 1
  simp at c0 c1
  have z1 : wA.frozen? ⟨p, 1, none⟩ = false := kb_frozen FA.st 1
  have HB := Lib.hid hsb
  clear F hsb FA DA hZ hZs bA
  go_enter Try.func85, Try.ntmps85
  go_wp2
  try rw [HWA.out]
  refine wp_region_held_drew (S := (fun W : World => W.cell? ⟨p, 0, none⟩ = some (.slice A xs.length c) ∧ W.cell? ⟨p, 1, none⟩ = some (.int .i64 (a : Int)))) (by kernel_rfl) ⟨c0, c1⟩ (fun hHeld => ?_)
  refine wpAnyH_take (i := 0) (oi := { dst := some 9, op := _, type := _, pos := _, after := _, guard := _ }) (v := ?_) rfl (by kernel_rfl) (by kernel_rfl) (by kernel_rfl) (fun _ _ _ h => h) (Or.inl ⟨by rfl, ?_⟩) hHeld ?_
  rotate_left
  · (intro w hSw; (try dsimp only at hSw); go_simp); all_goals with_reducible rfl
  try simp only [Act.put, List.setIfInBounds_toArray, List.set_cons_zero, List.set_cons_succ]
  refine wpAnyH_take (i := 1) (oi := { dst := some 10, op := _, type := _, pos := _, after := _, guard := _ }) (v := ?_) rfl (by kernel_rfl) (by kernel_rfl) (by kernel_rfl) (fun _ _ _ h => h) (Or.inl ⟨by rfl, ?_⟩) hHeld ?_
  rotate_left
  · (intro w hSw; (try dsimp only at hSw); go_simp); all_goals with_reducible rfl
  try simp only [Act.put, List.setIfInBounds_toArray, List.set_cons_zero, List.set_cons_succ]
  refine wpAnyH_take (i := 2) (oi := { dst := some 11, op := _, type := _, pos := _, after := _, guard := _ }) (v := ?_) rfl (by kernel_rfl) (by kernel_rfl) (by kernel_rfl) (fun _ _ _ h => h) (Or.inl ⟨by rfl, ?_⟩) hHeld ?_
  rotate_left
  · (intro w hSw; (try dsimp only at hSw); go_simp); all_goals with_reducible rfl
  try simp only [Act.put, List.setIfInBounds_toArray, List.set_cons_zero, List.set_cons_succ]
  refine wpAnyH_take (i := 3) (oi := { dst := some 12, op := _, type := _, pos := _, after := _, guard := _ }) (v := ?_) rfl (by kernel_rfl) (by kernel_rfl) (by kernel_rfl) (fun _ _ _ h => h) (Or.inl ⟨by rfl, ?_⟩) hHeld ?_
  rotate_left
  · (intro w hSw; (try dsimp only at hSw); go_simp); all_goals with_reducible rfl
  try simp only [Act.put, List.setIfInBounds_toArray, List.set_cons_zero, List.set_cons_succ]
  refine wpAnyH_take (i := 4) (oi := { dst := some 13, op := _, type := _, pos := _, after := _, guard := _ }) (v := ?_) rfl (by kernel_rfl) (by kernel_rfl) (by kernel_rfl) (fun _ _ _ h => h) (Or.inl ⟨by rfl, ?_⟩) hHeld ?_
  rotate_left
  · (intro w hSw; (try dsimp only at hSw); go_simp); all_goals with_reducible rfl
  try simp only [Act.put, List.setIfInBounds_toArray, List.set_cons_zero, List.set_cons_succ]
  refine wpAnyH_take (i := 5) (oi := { dst := some 14, op := _, type := _, pos := _, after := _, guard := _ }) (v := ?_) rfl (by kernel_rfl) (by kernel_rfl) (by kernel_rfl) (fun _ _ _ h => h) (Or.inl ⟨by rfl, ?_⟩) hHeld ?_
  rotate_left
  · (intro w hSw; (try dsimp only at hSw); go_simp); all_goals with_reducible rfl
  try simp only [Act.put, List.setIfInBounds_toArray, List.set_cons_zero, List.set_cons_succ]
  refine wpAnyH_take (i := 6) (oi := { dst := some 15, op := _, type := _, pos := _, after := _, guard := _ }) (v := ?_) rfl (by kernel_rfl) (by kernel_rfl) (by kernel_rfl) (fun _ _ _ h => h) (Or.inl ⟨by rfl, ?_⟩) hHeld ?_
  rotate_left
  · (intro w hSw; (try dsimp only at hSw); go_simp); all_goals with_reducible rfl
  try simp only [Act.put, List.setIfInBounds_toArray, List.set_cons_zero, List.set_cons_succ]
  refine wpAnyH_take (i := 7) (oi := { dst := some 16, op := _, type := _, pos := _, after := _, guard := _ }) (v := ?_) rfl (by kernel_rfl) (by kernel_rfl) (by kernel_rfl) (fun _ _ _ h => h) (Or.inl ⟨by rfl, ?_⟩) hHeld ?_
  rotate_left
  · (intro w hSw; (try dsimp only at hSw); go_simp); all_goals with_reducible rfl
  try simp only [Act.put, List.setIfInBounds_toArray, List.set_cons_zero, List.set_cons_succ]
  refine wpAnyH_take (i := 8) (oi := { dst := some 17, op := _, type := _, pos := _, after := _, guard := _ }) (v := ?_) rfl (by kernel_rfl) (by kernel_rfl) (by kernel_rfl) (fun _ _ _ h => h) (Or.inl ⟨by rfl, ?_⟩) hHeld ?_
  rotate_left
  · (intro w hSw; (try dsimp only at hSw); go_simp); all_goals with_reducible rfl
  try simp only [Act.put, List.setIfInBounds_toArray, List.set_cons_zero, List.set_cons_succ]
  refine wpAnyH_take (i := 9) (oi := { dst := some 18, op := _, type := _, pos := _, after := _, guard := _ }) (v := ?_) rfl (by kernel_rfl) (by kernel_rfl) (by kernel_rfl) (fun _ _ _ h => h) (Or.inl ⟨by rfl, ?_⟩) hHeld ?_
  rotate_left
  · (intro w hSw; (try dsimp only at hSw); go_simp); all_goals with_reducible rfl
  try simp only [Act.put, List.setIfInBounds_toArray, List.set_cons_zero, List.set_cons_succ]
  refine wpAnyH_take (i := 10) (oi := { dst := some 19, op := _, type := _, pos := _, after := _, guard := _ }) (v := ?_) rfl (by kernel_rfl) (by kernel_rfl) (by kernel_rfl) (fun _ _ _ h => h) (Or.inl ⟨by rfl, ?_⟩) hHeld ?_
  rotate_left
  · (intro w hSw; (try dsimp only at hSw); go_simp); all_goals with_reducible rfl
  try simp only [Act.put, List.setIfInBounds_toArray, List.set_cons_zero, List.set_cons_succ]
  refine wpAnyH_take (i := 11) (oi := { dst := some 20, op := _, type := _, pos := _, after := _, guard := _ }) (v := ?_) rfl (by kernel_rfl) (by kernel_rfl) (by kernel_rfl) (fun _ _ _ h => h) (Or.inl ⟨by rfl, ?_⟩) hHeld ?_
  rotate_left
  · (intro w hSw; (try dsimp only at hSw); go_simp); all_goals with_reducible rfl
  try simp only [Act.put, List.setIfInBounds_toArray, List.set_cons_zero, List.set_cons_succ]
  refine wpAnyH_take (i := 12) (oi := { dst := some 21, op := _, type := _, pos := _, after := _, guard := _ }) (v := ?_) rfl (by kernel_rfl) (by kernel_rfl) (by kernel_rfl) (fun _ _ _ h => h) (Or.inl ⟨by rfl, ?_⟩) hHeld ?_
  rotate_left
  · (intro w hSw; (try dsimp only at hSw); go_simp); all_goals with_reducible rfl
  try simp only [Act.put, List.setIfInBounds_toArray, List.set_cons_zero, List.set_cons_succ]
  refine wpAnyH_ready (rs := [13]) (by kernel_rfl) (by simp) (AllReadyH.cons (o := _) rfl (fun K hK => ?_) AllReadyH.nil)
  go_simp
  refine (must_yes _ _ _).mono ?_
  rintro e w' ⟨rfl, rfl⟩
  refine hK.out _ _ ⟨c0, c1⟩ (fun hHeld => ?_)
  refine wpAnyH_done (by kernel_rfl) ?_ _
  clear hHeld hK
  go_wp2
  have F1 := HFA.out.put (a + 32) hn
  have k1 : Keep (fun b => b = p) wA (wA.setCell ⟨p, 1, none⟩ (.int .i64 ((a : Int) + 32))) := (Keep.refl (fun b => b = p) wA).set (p := ⟨p, 1, none⟩) (fun _ => rfl) _
  rw [show ((a + 32 : Nat) : Int) = (a : Int) + 32 from rfl] at F1
  have D1 := k1.kb HDA.out (by omega)
  generalize wA.setCell ⟨p, 1, none⟩ (.int .i64 ((a : Int) + 32)) = wB at *
  have d0 := kb_cell F1.st 0
  have d1 := kb_cell F1.st 1
  simp at d0 d1
  have HF1 := Lib.hid F1
  have HD1 := Lib.hid D1
  have HK1 := Lib.hid k1
  clear F1 D1 k1
  refine wp_region_held_drew (S := (fun W : World => W.cell? ⟨p, 0, none⟩ = some (.slice A xs.length c) ∧ W.cell? ⟨p, 1, none⟩ = some (.int .i64 ((a : Int) + 32)))) (by kernel_rfl) ⟨d0, d1⟩ (fun hHeld => ?_)
  refine wpAnyH_take (i := 0) (oi := { dst := some 31, op := _, type := _, pos := _, after := _, guard := _ }) (v := ?_) rfl (by kernel_rfl) (by kernel_rfl) (by kernel_rfl) (fun _ _ _ h => h) (Or.inl ⟨by rfl, ?_⟩) hHeld ?_
  rotate_left
  · (intro w hSw; (try dsimp only at hSw); go_simp); all_goals with_reducible rfl
  try simp only [Act.put, List.setIfInBounds_toArray, List.set_cons_zero, List.set_cons_succ]
  refine wpAnyH_take (i := 1) (oi := { dst := some 32, op := _, type := _, pos := _, after := _, guard := _ }) (v := ?_) rfl (by kernel_rfl) (by kernel_rfl) (by kernel_rfl) (fun _ _ _ h => h) (Or.inl ⟨by rfl, ?_⟩) hHeld ?_
  rotate_left
  · (intro w hSw; (try dsimp only at hSw); go_simp); all_goals with_reducible rfl
  try simp only [Act.put, List.setIfInBounds_toArray, List.set_cons_zero, List.set_cons_succ]
  refine wpAnyH_take (i := 2) (oi := { dst := some 33, op := _, type := _, pos := _, after := _, guard := _ }) (v := ?_) rfl (by kernel_rfl) (by kernel_rfl) (by kernel_rfl) (fun _ _ _ h => h) (Or.inl ⟨by rfl, ?_⟩) hHeld ?_
  rotate_left
  · (intro w hSw; (try dsimp only at hSw); go_simp); all_goals with_reducible rfl
  try simp only [Act.put, List.setIfInBounds_toArray, List.set_cons_zero, List.set_cons_succ]
  refine wpAnyH_take (i := 3) (oi := { dst := some 34, op := _, type := _, pos := _, after := _, guard := _ }) (v := ?_) rfl (by kernel_rfl) (by kernel_rfl) (by kernel_rfl) (fun _ _ _ h => h) (Or.inl ⟨by rfl, ?_⟩) hHeld ?_
  rotate_left
  · (intro w hSw; (try dsimp only at hSw); go_simp); all_goals with_reducible rfl
  try simp only [Act.put, List.setIfInBounds_toArray, List.set_cons_zero, List.set_cons_succ]
  refine wpAnyH_take (i := 4) (oi := { dst := some 35, op := _, type := _, pos := _, after := _, guard := _ }) (v := ?_) rfl (by kernel_rfl) (by kernel_rfl) (by kernel_rfl) (fun _ _ _ h => h) (Or.inl ⟨by rfl, ?_⟩) hHeld ?_
  rotate_left
  · (intro w hSw; (try dsimp only at hSw); go_simp); all_goals with_reducible rfl
  try simp only [Act.put, List.setIfInBounds_toArray, List.set_cons_zero, List.set_cons_succ]
  refine wpAnyH_take (i := 5) (oi := { dst := some 36, op := _, type := _, pos := _, after := _, guard := _ }) (v := ?_) rfl (by kernel_rfl) (by kernel_rfl) (by kernel_rfl) (fun _ _ _ h => h) (Or.inl ⟨by rfl, ?_⟩) hHeld ?_
  rotate_left
  · (intro w hSw; (try dsimp only at hSw); go_simp); all_goals with_reducible rfl
  try simp only [Act.put, List.setIfInBounds_toArray, List.set_cons_zero, List.set_cons_succ]
  refine wpAnyH_take (i := 6) (oi := { dst := some 37, op := _, type := _, pos := _, after := _, guard := _ }) (v := ?_) rfl (by kernel_rfl) (by kernel_rfl) (by kernel_rfl) (fun _ _ _ h => h) (Or.inl ⟨by rfl, ?_⟩) hHeld ?_
  rotate_left
  · (intro w hSw; (try dsimp only at hSw); go_simp); all_goals with_reducible rfl
  try simp only [Act.put, List.setIfInBounds_toArray, List.set_cons_zero, List.set_cons_succ]
  refine wpAnyH_take (i := 7) (oi := { dst := some 38, op := _, type := _, pos := _, after := _, guard := _ }) (v := ?_) rfl (by kernel_rfl) (by kernel_rfl) (by kernel_rfl) (fun _ _ _ h => h) (Or.inl ⟨by rfl, ?_⟩) hHeld ?_
  rotate_left
  · (intro w hSw; (try dsimp only at hSw); go_simp); all_goals with_reducible rfl
  try simp only [Act.put, List.setIfInBounds_toArray, List.set_cons_zero, List.set_cons_succ]
  refine wpAnyH_take (i := 8) (oi := { dst := some 39, op := _, type := _, pos := _, after := _, guard := _ }) (v := ?_) rfl (by kernel_rfl) (by kernel_rfl) (by kernel_rfl) (fun _ _ _ h => h) (Or.inl ⟨by rfl, ?_⟩) hHeld ?_
  rotate_left
  · (intro w hSw; (try dsimp only at hSw); go_simp); all_goals with_reducible rfl
  try simp only [Act.put, List.setIfInBounds_toArray, List.set_cons_zero, List.set_cons_succ]
  refine wpAnyH_take (i := 9) (oi := { dst := some 40, op := _, type := _, pos := _, after := _, guard := _ }) (v := ?_) rfl (by kernel_rfl) (by kernel_rfl) (by kernel_rfl) (fun _ _ _ h => h) (Or.inl ⟨by rfl, ?_⟩) hHeld ?_
  rotate_left
  · (intro w hSw; (try dsimp only at hSw); go_simp); all_goals with_reducible rfl
  try simp only [Act.put, List.setIfInBounds_toArray, List.set_cons_zero, List.set_cons_succ]
  refine wpAnyH_take (i := 10) (oi := { dst := some 41, op := _, type := _, pos := _, after := _, guard := _ }) (v := ?_) rfl (by kernel_rfl) (by kernel_rfl) (by kernel_rfl) (fun _ _ _ h => h) (Or.inl ⟨by rfl, ?_⟩) hHeld ?_
  rotate_left
  · (intro w hSw; (try dsimp only at hSw); go_simp); all_goals with_reducible rfl
  try simp only [Act.put, List.setIfInBounds_toArray, List.set_cons_zero, List.set_cons_succ]
  refine wpAnyH_take (i := 11) (oi := { dst := some 42, op := _, type := _, pos := _, after := _, guard := _ }) (v := ?_) rfl (by kernel_rfl) (by kernel_rfl) (by kernel_rfl) (fun _ _ _ h => h) (Or.inl ⟨by rfl, ?_⟩) hHeld ?_
  rotate_left
  · (intro w hSw; (try dsimp only at hSw); go_simp); all_goals with_reducible rfl
  try simp only [Act.put, List.setIfInBounds_toArray, List.set_cons_zero, List.set_cons_succ]
  refine wpAnyH_take (i := 12) (oi := { dst := some 43, op := _, type := _, pos := _, after := _, guard := _ }) (v := ?_) rfl (by kernel_rfl) (by kernel_rfl) (by kernel_rfl) (fun _ _ _ h => h) (Or.inl ⟨by rfl, ?_⟩) hHeld ?_
  rotate_left
  · (intro w hSw; (try dsimp only at hSw); go_simp); all_goals with_reducible rfl
  try simp only [Act.put, List.setIfInBounds_toArray, List.set_cons_zero, List.set_cons_succ]
  refine wpAnyH_take (i := 13) (oi := { dst := some 44, op := _, type := _, pos := _, after := _, guard := _ }) (v := ?_) rfl (by kernel_rfl) (by kernel_rfl) (by kernel_rfl) (fun _ _ _ h => h) (Or.inl ⟨by rfl, ?_⟩) hHeld ?_
  rotate_left
  · (intro w hSw; (try dsimp only at hSw); go_simp); all_goals with_reducible rfl
  try simp only [Act.put, List.setIfInBounds_toArray, List.set_cons_zero, List.set_cons_succ]
  refine wpAnyH_take (i := 14) (oi := { dst := some 45, op := _, type := _, pos := _, after := _, guard := _ }) (v := ?_) rfl (by kernel_rfl) (by kernel_rfl) (by kernel_rfl) (fun _ _ _ h => h) (Or.inl ⟨by rfl, ?_⟩) hHeld ?_
  rotate_left
  · (intro w hSw; (try dsimp only at hSw); go_simp); all_goals with_reducible rfl
  try simp only [Act.put, List.setIfInBounds_toArray, List.set_cons_zero, List.set_cons_succ]
  refine wpAnyH_take (i := 15) (oi := { dst := some 46, op := _, type := _, pos := _, after := _, guard := _ }) (v := ?_) rfl (by kernel_rfl) (by kernel_rfl) (by kernel_rfl) (fun _ _ _ h => h) (Or.inl ⟨by rfl, ?_⟩) hHeld ?_
  rotate_left
  · (intro w hSw; (try dsimp only at hSw); go_simp); all_goals with_reducible rfl
  try simp only [Act.put, List.setIfInBounds_toArray, List.set_cons_zero, List.set_cons_succ]
  refine wpAnyH_ready (rs := [16]) (by kernel_rfl) (by simp) (AllReadyH.cons (o := _) rfl (fun K hK => ?_) AllReadyH.nil)
  go_simp
  have hlen : ((xs.drop a).take 32).length = 32 := by rw [List.length_take, List.length_drop]; omega
  refine (arrHash (l := (xs.drop a).take 32) (by have := (HB.out _ (HF1.out.below (bl_drew (bl_drew (Below.refl _ _)))).row).1; exact this) hlen).mono ?_
  rintro e w' ⟨rfl, hb⟩
  have hpB : p < wB.heap.size := by have := HK1.out.size; omega
  have e0 := (hb.cell (p := ⟨p, 0, none⟩) hpB).trans d0
  have e1 := (hb.cell (p := ⟨p, 1, none⟩) hpB).trans d1
  refine hK.out _ _ ⟨e0, e1⟩ (fun hHeld => ?_)
  try simp only [Act.put, List.setIfInBounds_toArray, List.set_cons_zero, List.set_cons_succ]
  refine wpAnyH_ready (rs := [17]) (by kernel_rfl) (by simp) (AllReadyH.cons (o := _) rfl (fun K hK => ?_) AllReadyH.nil)
  have D2 := kb_below hb (kb_drew (kb_drew HD1.out))
  have hszA : (u8s ((xs.drop a).take 32)).toArray.size = 32 := by simpa [u8s_len] using hlen
  have hsz : (u8s ((xs.drop a).take 32)).length = 32 := by simpa [u8s_len] using hlen
  have D3 := setCells_kb (u8s ((xs.drop a).take 32)) D2 hsz.symm
  rw [if_pos (by rfl)]
  refine wp_store_mid 34 _ _ rfl w.heap.size 0 (u8s ((xs.drop a).take 32)).toArray rfl rfl (there_kb D2 hszA.symm) (sizeHash.trans (congrArg some hszA.symm)) (u8s_all _) ?_
  have hpN : p ≠ w.heap.size := by omega
  have kN : Keep (fun b => b = w.heap.size) w' (w'.setCells w.heap.size 0 (u8s ((xs.drop a).take 32))) := keep_cells _ _ (Keep.refl _ _) (fun _ => rfl)
  have F2 := ((HF1.out.below (bl_drew (bl_drew (Below.refl _ _)))).below hb).keep kN (by omega) (fun b h e => by
    have h1 := (HF.out.row.lt b h).2
    omega)
  have f0 := kb_cell F2.st 0
  have f1 := kb_cell F2.st 1
  simp at f0 f1
  refine hK.out _ _ ⟨f0, f1⟩ (fun hHeld => ?_)
  try simp only [Act.put, List.setIfInBounds_toArray, List.set_cons_zero, List.set_cons_succ]
  refine wpAnyH_done (by kernel_rfl) ?_ _
  clear hHeld hK
  have HF2 := Lib.hid F2
  have HD3 := Lib.hid D3
  have HKN := Lib.hid kN
  generalize w'.setCells w.heap.size 0 (u8s ((xs.drop a).take 32)) = wC at *
  clear F2 D3 kN f0 f1 D2 e0 e1 d0 d1
  go_wp2
  refine bodyPost_ret (results_cell_row rfl _ _ w.heap.size 34 _ (0, 0) _ rfl HD3.out Try.underlying34 rfl (sizeHash.trans (congrArg some hszA.symm))) rfl ?_
  exact ⟨_, rfl, rfl, HF2.out, ((Keep.after HBA.out HK1.out).drew.drew.then_below hb).trans HKN.out (fun b h e => by omega)⟩

theorem zerosHash : #[.int .u8 0, .int .u8 0, .int .u8 0, .int .u8 0, .int .u8 0, .int .u8 0, .int .u8 0, .int .u8 0, .int .u8 0, .int .u8 0, .int .u8 0, .int .u8 0, .int .u8 0, .int .u8 0, .int .u8 0, .int .u8 0, .int .u8 0, .int .u8 0, .int .u8 0, .int .u8 0, .int .u8 0, .int .u8 0, .int .u8 0, .int .u8 0, .int .u8 0, .int .u8 0, .int .u8 0, .int .u8 0, .int .u8 0, .int .u8 0, .int .u8 0, .int .u8 0] = (u8s (List.replicate 32 0)).toArray := rfl
theorem takeHash_any {w : World} {B p : Nat} {s : Value} {xs : List UInt8} {a : Nat} (f : Nat) (F : Rd w B p s xs a 0 0) :
    Calls Try.prog 85 #[.pointer (some ⟨p, 0, none⟩), .int .i64 32, .int .i64 f, .func (.func 86) #[] #[]] w (Takes w B p s xs (takeP xs 32 a f id) fun l _ u => u = .agg (u8s l).toArray) := by
  unfold takeP Takes
  by_cases h : a + 32 ≤ xs.length
  · rw [if_pos h]; exact takeHash_ok f F h
  · rw [if_neg h]; exact (takeHash_short 32 f _ F (by omega) (by omega)).mono fun e w' ⟨h1, h2⟩ => ⟨h1, a, F.below h2, Keep.of_below h2⟩
set_option maxHeartbeats 1000000 in
theorem Hash1_any {w : World} {B p b : Nat} {s : Value} {xs : List UInt8} {a : Nat} (F : Rd w B p s xs a 0 0) (hb : BoxR w b p) :
    Calls Try.prog 84 (#[] ++ #[.int .i64 a] ++ #[.pointer (some ⟨b, 0, none⟩)]) w (Takes w B p s xs (takeP xs 32 a a id) fun l _ u => u = .agg (u8s l).toArray) := by
  have bA : Below w.heap.size w (w.alloc (.cells #[.int .u8 0, .int .u8 0, .int .u8 0, .int .u8 0, .int .u8 0, .int .u8 0, .int .u8 0, .int .u8 0, .int .u8 0, .int .u8 0, .int .u8 0, .int .u8 0, .int .u8 0, .int .u8 0, .int .u8 0, .int .u8 0, .int .u8 0, .int .u8 0, .int .u8 0, .int .u8 0, .int .u8 0, .int .u8 0, .int .u8 0, .int .u8 0, .int .u8 0, .int .u8 0, .int .u8 0, .int .u8 0, .int .u8 0, .int .u8 0, .int .u8 0, .int .u8 0] 34)) := bl_alloc (Below.refl _ _) _
  have FA := F.below bA
  have hlt := kb_lt F.st
  have HA := Lib.hid (kb_new (w := w) rfl (.cells #[.int .u8 0, .int .u8 0, .int .u8 0, .int .u8 0, .int .u8 0, .int .u8 0, .int .u8 0, .int .u8 0, .int .u8 0, .int .u8 0, .int .u8 0, .int .u8 0, .int .u8 0, .int .u8 0, .int .u8 0, .int .u8 0, .int .u8 0, .int .u8 0, .int .u8 0, .int .u8 0, .int .u8 0, .int .u8 0, .int .u8 0, .int .u8 0, .int .u8 0, .int .u8 0, .int .u8 0, .int .u8 0, .int .u8 0, .int .u8 0, .int .u8 0, .int .u8 0] 34))
  have hrow : ∀ b, s.ownBlock = some b → b < w.heap.size := fun b h => (F.row.lt b h).2
  have cb := kb_cell hb 0
  simp at cb
  have HBA := Lib.hid bA
  have hl : ∀ l a', takeP xs 32 a a id = .ok l a' → l.length = 32 := fun l a' h => takeP_len h
  have H := takeHash_any a FA
  clear bA FA
  revert H hl
  generalize takeP xs 32 a a id = r
  intro hl H
  have HH := Lib.hid H
  have HL := Lib.hid hl
  clear F H hb hl
  cases r with
  | ok v a' =>
    have hlen := HL.out v a' rfl
    have hszA : (u8s v).toArray.size = 32 := by simpa [u8s_len] using hlen
    have hsz : (u8s v).length = 32 := by simpa [u8s_len] using hlen
    go_enter Try.func84, Try.ntmps84
    go_wp2_with fail
    refine HH.out.mono ?_
    rintro e w' ⟨u, rfl, rfl, hR⟩
    have HR := Lib.hid hR
    have D := hR.2.kb HA.out (by omega)
    clear hR
    have D3 := setCells_kb (u8s v) D hsz.symm
    have kN : Keep (fun b => b = w.heap.size) w' (w'.setCells w.heap.size 0 (u8s v)) := keep_cells _ _ (Keep.refl _ _) (fun _ => rfl)
    have HD3 := Lib.hid D3
    have HKN := Lib.hid kN
    have HT := Lib.hid (there_kb D hszA.symm)
    clear D D3 kN
    go_wp2_with (with_reducible refine wpList_store_mid rfl 34 _ _ rfl w.heap.size 0 (u8s v).toArray rfl rfl HT.out (sizeHash.trans (congrArg some hszA.symm)) (u8s_all _) ?_)
    refine bodyPost_ret (results_cell_row rfl _ _ w.heap.size 34 _ (0, 0) _ rfl HD3.out Try.underlying34 rfl (sizeHash.trans (congrArg some hszA.symm))) rfl ?_
    exact ⟨_, rfl, rfl, HR.out.1.keep HKN.out (by omega) (fun b h e => by have := hrow b h; omega), (Keep.after HBA.out HR.out.2).trans HKN.out (fun b h e => by omega)⟩
  | bad er f =>
    go_enter Try.func84, Try.ntmps84
    go_wp2_with fail
    refine HH.out.mono ?_
    rintro e w' ⟨rfl, a2, hR⟩
    exact ⟨rfl, rfl, a2, hR.1, Keep.after HBA.out hR.2⟩

theorem readsHash_ok {w : World} {B p : Nat} {s : Value} {xs : List UInt8} {a a' : Nat} {l : List UInt8} (hlen : l.length = 32) (F : Rd w B p s xs a 0 0) (k : Nat) (first cap : Array Value) (eK : Enters k)
    (hC : ∀ W, Below w.heap.size w W → Calls Try.prog k (first ++ #[.int .i64 a] ++ cap) W fun e w' => ∃ u, e = .returned u ∧ u = .agg (u8s l).toArray ∧ RdTo (fun b => b = p) W w' B p s xs a') :
    Calls Try.prog 83 #[.pointer (some ⟨p, 0, none⟩), .func (.func k) first cap] w fun e w' => ∃ u, e = .returned u ∧ u = .agg (u8s l).toArray ∧ RdTo (fun b => b = p) w w' B p s xs a' := by
  have bA : Below w.heap.size w (w.alloc (.cells #[.int .u8 0, .int .u8 0, .int .u8 0, .int .u8 0, .int .u8 0, .int .u8 0, .int .u8 0, .int .u8 0, .int .u8 0, .int .u8 0, .int .u8 0, .int .u8 0, .int .u8 0, .int .u8 0, .int .u8 0, .int .u8 0, .int .u8 0, .int .u8 0, .int .u8 0, .int .u8 0, .int .u8 0, .int .u8 0, .int .u8 0, .int .u8 0, .int .u8 0, .int .u8 0, .int .u8 0, .int .u8 0, .int .u8 0, .int .u8 0, .int .u8 0, .int .u8 0] 34)) := bl_alloc (Below.refl _ _) _
  have FA := F.below bA
  have hlt := kb_lt F.st
  have c := kb_cell FA.st
  have HA := Lib.hid (kb_new (w := w) rfl (.cells #[.int .u8 0, .int .u8 0, .int .u8 0, .int .u8 0, .int .u8 0, .int .u8 0, .int .u8 0, .int .u8 0, .int .u8 0, .int .u8 0, .int .u8 0, .int .u8 0, .int .u8 0, .int .u8 0, .int .u8 0, .int .u8 0, .int .u8 0, .int .u8 0, .int .u8 0, .int .u8 0, .int .u8 0, .int .u8 0, .int .u8 0, .int .u8 0, .int .u8 0, .int .u8 0, .int .u8 0, .int .u8 0, .int .u8 0, .int .u8 0, .int .u8 0, .int .u8 0] 34))
  have hrow : ∀ b, s.ownBlock = some b → b < w.heap.size := fun b h => (F.row.lt b h).2
  have HC := Lib.hid (hC _ bA)
  have HBA := Lib.hid bA
  have eK' := eK
  unfold Enters at eK'
  have hszA : (u8s l).toArray.size = 32 := by simpa [u8s_len] using hlen
  have hsz : (u8s l).length = 32 := by simpa [u8s_len] using hlen
  clear F hC bA FA
  go_enter_defers Try.func83, Try.ntmps83
  go_wp2_with fail
  refine HC.out.mono ?_
  rintro e w1 ⟨u, rfl, rfl, hR⟩
  have HR := Lib.hid hR
  have D := hR.2.kb HA.out (by omega)
  clear hR c
  have D3 := setCells_kb (u8s l) D hsz.symm
  have kN : Keep (fun b => b = w.heap.size) w1 (w1.setCells w.heap.size 0 (u8s l)) := keep_cells _ _ (Keep.refl _ _) (fun _ => rfl)
  have HD3 := Lib.hid D3
  have HKN := Lib.hid kN
  have HT := Lib.hid (there_kb D hszA.symm)
  clear D D3 kN
  go_wp2_with (with_reducible refine wpList_store_mid rfl 34 _ _ rfl w.heap.size 0 (u8s l).toArray rfl rfl HT.out (sizeHash.trans (congrArg some hszA.symm)) (u8s_all _) ?_)
  refine leaves_cons (f := 102) (args := #[.pointer (some ⟨p, 0, none⟩)]) (by simp) (by simp [go_sem]) ?_
  refine (caught_idle p _).mono ?_
  rintro e u' w'' ⟨rfl, rfl, rfl⟩
  refine (show Leaves _ _ _ _ [] FrameMode.returning _ from ?_)
  unfold Leaves
  exact ⟨_, results_cell_row rfl _ _ w.heap.size 34 _ (0, 0) _ rfl HD3.out Try.underlying34 rfl (sizeHash.trans (congrArg some hszA.symm)), _, rfl, rfl, HR.out.1.keep HKN.out (by omega) (fun b h e => by have := hrow b h; omega), (Keep.after HBA.out HR.out.2).trans HKN.out (fun b h e => by omega)⟩
theorem readsHash_bad {w : World} {B p : Nat} {s : Value} {xs : List UInt8} {a : Nat} {er f : Nat} (F : Rd w B p s xs a 0 0) (k : Nat) (first cap : Array Value) (eK : Enters k)
    (hC : ∀ W, Below w.heap.size w W → Calls Try.prog k (first ++ #[.int .i64 a] ++ cap) W fun e w' => e = .panicked [{ v := wrongV er f, recovered := false }] ∧ ∃ a', RdTo (fun b => b = p) W w' B p s xs a') :
    Calls Try.prog 83 #[.pointer (some ⟨p, 0, none⟩), .func (.func k) first cap] w fun e w' => e = .returned (.agg (u8s (List.replicate 32 0)).toArray) ∧ ∃ a', Rd w' B p s xs a' er f ∧ Keep (fun b => b = p) w w' := by
  have bA : Below w.heap.size w (w.alloc (.cells #[.int .u8 0, .int .u8 0, .int .u8 0, .int .u8 0, .int .u8 0, .int .u8 0, .int .u8 0, .int .u8 0, .int .u8 0, .int .u8 0, .int .u8 0, .int .u8 0, .int .u8 0, .int .u8 0, .int .u8 0, .int .u8 0, .int .u8 0, .int .u8 0, .int .u8 0, .int .u8 0, .int .u8 0, .int .u8 0, .int .u8 0, .int .u8 0, .int .u8 0, .int .u8 0, .int .u8 0, .int .u8 0, .int .u8 0, .int .u8 0, .int .u8 0, .int .u8 0] 34)) := bl_alloc (Below.refl _ _) _
  have FA := F.below bA
  have hlt := kb_lt F.st
  have c := kb_cell FA.st
  have HA := Lib.hid (kb_new (w := w) rfl (.cells #[.int .u8 0, .int .u8 0, .int .u8 0, .int .u8 0, .int .u8 0, .int .u8 0, .int .u8 0, .int .u8 0, .int .u8 0, .int .u8 0, .int .u8 0, .int .u8 0, .int .u8 0, .int .u8 0, .int .u8 0, .int .u8 0, .int .u8 0, .int .u8 0, .int .u8 0, .int .u8 0, .int .u8 0, .int .u8 0, .int .u8 0, .int .u8 0, .int .u8 0, .int .u8 0, .int .u8 0, .int .u8 0, .int .u8 0, .int .u8 0, .int .u8 0, .int .u8 0] 34))
  have HC := Lib.hid (hC _ bA)
  have HBA := Lib.hid bA
  have eK' := eK
  unfold Enters at eK'
  clear F hC bA FA
  go_enter_defers Try.func83, Try.ntmps83
  go_wp2_with fail
  refine HC.out.mono ?_
  rintro e w1 ⟨rfl, a', hR⟩
  refine leaves_cons (f := 102) (args := #[.pointer (some ⟨p, 0, none⟩)]) (by simp) (by simp [go_sem]) ?_
  have D := hR.2.kb HA.out (by omega)
  refine (caught_wrong hR.1.st er f []).mono ?_
  rintro e u' w'' ⟨rfl, rfl, o, rfl⟩
  have h1 := hR.1.fault er f o
  have h2 := hR.2.fault er f o
  have D2 : (((w1.setCell ⟨p, 2, none⟩ (.int .i64 er)).setCell ⟨p, 3, none⟩ (.int .i64 f)).alloc o).heap[w.heap.size]? = some (.cells #[.int .u8 0, .int .u8 0, .int .u8 0, .int .u8 0, .int .u8 0, .int .u8 0, .int .u8 0, .int .u8 0, .int .u8 0, .int .u8 0, .int .u8 0, .int .u8 0, .int .u8 0, .int .u8 0, .int .u8 0, .int .u8 0, .int .u8 0, .int .u8 0, .int .u8 0, .int .u8 0, .int .u8 0, .int .u8 0, .int .u8 0, .int .u8 0, .int .u8 0, .int .u8 0, .int .u8 0, .int .u8 0, .int .u8 0, .int .u8 0, .int .u8 0, .int .u8 0] 34 (0, 0)) := kb_alloc (kb_far (kb_far D (by show w.heap.size ≠ p; omega) _) (by show w.heap.size ≠ p; omega) _) _
  refine (show Leaves _ _ _ _ [] FrameMode.returning _ from ?_)
  unfold Leaves
  exact ⟨_, results_cell_row rfl _ _ w.heap.size 34 _ (0, 0) _ rfl D2 Try.underlying34 rfl sizeHash, rfl, a', h1, Keep.after HBA.out h2⟩
theorem readsHash_not {w : World} {B p : Nat} {s : Value} {xs : List UInt8} {a : Nat} {er f : Int} (F : Rd w B p s xs a er f) (he : er ≠ 0) (fv : Value) :
    Calls Try.prog 83 #[.pointer (some ⟨p, 0, none⟩), fv] w fun e w' => e = .returned (.agg (u8s (List.replicate 32 0)).toArray) ∧ Below w.heap.size w w' := by
  have bA : Below w.heap.size w (w.alloc (.cells #[.int .u8 0, .int .u8 0, .int .u8 0, .int .u8 0, .int .u8 0, .int .u8 0, .int .u8 0, .int .u8 0, .int .u8 0, .int .u8 0, .int .u8 0, .int .u8 0, .int .u8 0, .int .u8 0, .int .u8 0, .int .u8 0, .int .u8 0, .int .u8 0, .int .u8 0, .int .u8 0, .int .u8 0, .int .u8 0, .int .u8 0, .int .u8 0, .int .u8 0, .int .u8 0, .int .u8 0, .int .u8 0, .int .u8 0, .int .u8 0, .int .u8 0, .int .u8 0] 34)) := bl_alloc (Below.refl _ _) _
  have c := kb_cell (F.below bA).st
  have hA := kb_new (w := w) rfl (.cells #[.int .u8 0, .int .u8 0, .int .u8 0, .int .u8 0, .int .u8 0, .int .u8 0, .int .u8 0, .int .u8 0, .int .u8 0, .int .u8 0, .int .u8 0, .int .u8 0, .int .u8 0, .int .u8 0, .int .u8 0, .int .u8 0, .int .u8 0, .int .u8 0, .int .u8 0, .int .u8 0, .int .u8 0, .int .u8 0, .int .u8 0, .int .u8 0, .int .u8 0, .int .u8 0, .int .u8 0, .int .u8 0, .int .u8 0, .int .u8 0, .int .u8 0, .int .u8 0] 34)
  have hne : (er != 0) = true := by simpa using he
  have hG : (w.alloc (.cells #[.int .u8 0, .int .u8 0, .int .u8 0, .int .u8 0, .int .u8 0, .int .u8 0, .int .u8 0, .int .u8 0, .int .u8 0, .int .u8 0, .int .u8 0, .int .u8 0, .int .u8 0, .int .u8 0, .int .u8 0, .int .u8 0, .int .u8 0, .int .u8 0, .int .u8 0, .int .u8 0, .int .u8 0, .int .u8 0, .int .u8 0, .int .u8 0, .int .u8 0, .int .u8 0, .int .u8 0, .int .u8 0, .int .u8 0, .int .u8 0, .int .u8 0, .int .u8 0] 34)).rangeAt w.heap.size 0 (u8s (List.replicate 32 0)) := range_of_kb (cs := u8s (List.replicate 32 0)) hA
  obtain ⟨zl, hz, hzl⟩ : ∃ zl : List UInt8, List.replicate 32 0 = zl ∧ zl.length = 32 := ⟨_, rfl, by simp⟩
  rw [hz] at hG ⊢
  have hszA : (u8s zl).toArray.size = 32 := by simpa [u8s_len] using hzl
  have hsz : (u8s zl).length = 32 := by simpa [u8s_len] using hzl
  have HG := Lib.hid hG
  have HT := Lib.hid (there_kb hA (show _ = (u8s zl).toArray.size by rw [hszA]; rfl))
  have HD := Lib.hid (setCells_kb (u8s zl) hA (by rw [hsz]; rfl))
  have HB := Lib.hid (bl_cells (g := w.heap.size) (u8s zl) (Nat.le_refl _) 0 bA)
  clear F bA hA hG hz
  go_enter_defers Try.func83, Try.ntmps83
  go_wp2_with (first
    | (with_reducible refine wpList_load_mid rfl 34 _ rfl w.heap.size 0 rfl (u8s zl) _ HG.out Try.underlying34 rfl (sizeHash.trans (congrArg some hsz.symm)) ?_)
    | (with_reducible refine wpList_store_mid rfl 34 _ _ rfl w.heap.size 0 (u8s zl).toArray rfl rfl HT.out (sizeHash.trans (congrArg some hszA.symm)) (u8s_all _) ?_))
  simp only [bodyPostD, Act.put, Leaves]
  exact ⟨_, results_cell_row rfl _ _ w.heap.size 34 _ (0, 0) _ rfl HD.out Try.underlying34 rfl (sizeHash.trans (congrArg some hszA.symm)), rfl, HB.out⟩
theorem readsHash_any {w : World} {B p : Nat} {s : Value} {xs : List UInt8} {a : Nat} (F : Rd w B p s xs a 0 0) (k : Nat) (first cap : Array Value) (eK : Enters k) {r : Rs (List UInt8)} (hr : ∀ l a', r = .ok l a' → l.length = 32)
    (hC : ∀ W, Below w.heap.size w W → Calls Try.prog k (first ++ #[.int .i64 a] ++ cap) W (Takes W B p s xs r fun l _ u => u = .agg (u8s l).toArray)) :
    Calls Try.prog 83 #[.pointer (some ⟨p, 0, none⟩), .func (.func k) first cap] w (Reads w B p s xs r (fun l _ u => u = .agg (u8s l).toArray) (.agg (u8s (List.replicate 32 0)).toArray)) := by
  cases r with
  | ok v a' => exact readsHash_ok (hr v a' rfl) F k first cap eK hC
  | bad er f => exact readsHash_bad F k first cap eK hC

theorem eHash1 : Enters 84 := fun _ _ => by kernel_rfl
set_option maxRecDepth 100000 in
set_option maxHeartbeats 1000000 in
theorem dHash_any {w : World} {B p : Nat} {s : Value} {xs : List UInt8} {st : St} (F : RdO w B p s xs st) :
    Calls Try.prog 35 #[.pointer (some ⟨p, 0, none⟩)] w (Did w B p s xs (step (fun a => takeP xs 32 a a id) (List.replicate 32 0) st) fun l _ u => u = .agg (u8s l).toArray) := by
  have hmf : ∀ (fn : Fn) (first cap : Array Value) (w : World), (Instr.makeFunc fn first cap).run Try.prog w = .ok (.func fn first cap) w := fun _ _ _ _ => rfl
  have HF := Lib.hid F
  have hlt := F.ltp
  have hrow : ∀ b, s.ownBlock = some b → b < w.heap.size := fun b h => (F.low b h).2
  have hbl : Below w.heap.size w ((w.alloc (.cells #[.pointer (some ⟨p, 0, none⟩)] 48)).alloc (.cells #[.int .u8 0, .int .u8 0, .int .u8 0, .int .u8 0, .int .u8 0, .int .u8 0, .int .u8 0, .int .u8 0, .int .u8 0, .int .u8 0, .int .u8 0, .int .u8 0, .int .u8 0, .int .u8 0, .int .u8 0, .int .u8 0, .int .u8 0, .int .u8 0, .int .u8 0, .int .u8 0, .int .u8 0, .int .u8 0, .int .u8 0, .int .u8 0, .int .u8 0, .int .u8 0, .int .u8 0, .int .u8 0, .int .u8 0, .int .u8 0, .int .u8 0, .int .u8 0] 34)) := by (repeat (with_reducible (first | exact Below.refl _ _ | assumption | refine bl_alloc ?_ _ | refine bl_drew ?_ | refine bl_drewN ?_ _ | (refine bl_set ?_ ?_ _; (focus (first | (simp; done) | (simp; omega) | omega))) | refine bl_then ?_ (by assumption))))
  have hb1 : BoxR ((w.alloc (.cells #[.pointer (some ⟨p, 0, none⟩)] 48)).alloc (.cells #[.int .u8 0, .int .u8 0, .int .u8 0, .int .u8 0, .int .u8 0, .int .u8 0, .int .u8 0, .int .u8 0, .int .u8 0, .int .u8 0, .int .u8 0, .int .u8 0, .int .u8 0, .int .u8 0, .int .u8 0, .int .u8 0, .int .u8 0, .int .u8 0, .int .u8 0, .int .u8 0, .int .u8 0, .int .u8 0, .int .u8 0, .int .u8 0, .int .u8 0, .int .u8 0, .int .u8 0, .int .u8 0, .int .u8 0, .int .u8 0, .int .u8 0, .int .u8 0] 34)) w.heap.size p := kb_alloc (kb_new rfl _) _
  have hD := kb_new (w := w.alloc (.cells #[.pointer (some ⟨p, 0, none⟩)] 48)) (b := w.heap.size + 1) (by simp) (.cells #[.int .u8 0, .int .u8 0, .int .u8 0, .int .u8 0, .int .u8 0, .int .u8 0, .int .u8 0, .int .u8 0, .int .u8 0, .int .u8 0, .int .u8 0, .int .u8 0, .int .u8 0, .int .u8 0, .int .u8 0, .int .u8 0, .int .u8 0, .int .u8 0, .int .u8 0, .int .u8 0, .int .u8 0, .int .u8 0, .int .u8 0, .int .u8 0, .int .u8 0, .int .u8 0, .int .u8 0, .int .u8 0, .int .u8 0, .int .u8 0, .int .u8 0, .int .u8 0] 34)
  have hsA : ((w.alloc (.cells #[.pointer (some ⟨p, 0, none⟩)] 48)).alloc (.cells #[.int .u8 0, .int .u8 0, .int .u8 0, .int .u8 0, .int .u8 0, .int .u8 0, .int .u8 0, .int .u8 0, .int .u8 0, .int .u8 0, .int .u8 0, .int .u8 0, .int .u8 0, .int .u8 0, .int .u8 0, .int .u8 0, .int .u8 0, .int .u8 0, .int .u8 0, .int .u8 0, .int .u8 0, .int .u8 0, .int .u8 0, .int .u8 0, .int .u8 0, .int .u8 0, .int .u8 0, .int .u8 0, .int .u8 0, .int .u8 0, .int .u8 0, .int .u8 0] 34)).heap.size = w.heap.size + 2 := by simp
  obtain ⟨zl, hz, hzl⟩ : ∃ zl : List UInt8, List.replicate 32 0 = zl ∧ zl.length = 32 := ⟨_, rfl, by simp⟩
  rw [hz]
  have HZ := Lib.hid hz
  clear hz
  cases st with
  | «at» a =>
    have F1 : Rd ((w.alloc (.cells #[.pointer (some ⟨p, 0, none⟩)] 48)).alloc (.cells #[.int .u8 0, .int .u8 0, .int .u8 0, .int .u8 0, .int .u8 0, .int .u8 0, .int .u8 0, .int .u8 0, .int .u8 0, .int .u8 0, .int .u8 0, .int .u8 0, .int .u8 0, .int .u8 0, .int .u8 0, .int .u8 0, .int .u8 0, .int .u8 0, .int .u8 0, .int .u8 0, .int .u8 0, .int .u8 0, .int .u8 0, .int .u8 0, .int .u8 0, .int .u8 0, .int .u8 0, .int .u8 0, .int .u8 0, .int .u8 0, .int .u8 0, .int .u8 0] 34)) B p s xs a 0 0 := (HF.out : Rd _ _ _ _ _ _ _ _).below hbl
    have HC := Lib.hid (readsHash_any F1 84 #[] #[.pointer (some ⟨w.heap.size, 0, none⟩)] eHash1 (r := takeP xs 32 a a id) (fun l a' h => takeP_len h) (fun W hW => Hash1_any (F1.below hW) (kb_below hW hb1)))
    have HBL := Lib.hid hbl
    have HD0 := Lib.hid hD
    have cb := kb_cell hb1 0
    simp at cb
    clear F F1 hbl hD hb1
    go_enter Try.func35, Try.ntmps35
    go_wp2_with fail
    refine HC.out.mono ?_
    intro e w' h
    rw [HZ.out] at h
    have D := h.keep.kb HD0.out (by omega)
    have hD := Did.of (r := fun a => takeP xs 32 a a id) (z := zl) (V := fun l _ u => u = .agg (u8s l).toArray) HBL.out h (fun _ _ _ h => h) (fun _ => rfl) (fun _ _ => takeP_bad)
    have hL := step_len (xs := xs) hzl (.at a)
    clear h
    obtain ⟨r, hr⟩ : ∃ r, step (fun a => takeP xs 32 a a id) zl (.at a) = r := ⟨_, rfl⟩
    rw [hr] at hD hL
    obtain ⟨l, st'⟩ := r
    have HRR := Lib.hid hr
    clear hr
    obtain ⟨u, rfl, rfl, h2, h3⟩ := hD
    simp only at hL
    have hszA : (u8s l).toArray.size = 32 := by simpa [u8s_len] using hL
    have hsz : (u8s l).length = 32 := by simpa [u8s_len] using hL
    have HT := Lib.hid (there_kb D (show _ = (u8s l).toArray.size by rw [hszA]; rfl))
    have HD := Lib.hid (setCells_kb (u8s l) D (by rw [hsz]; rfl))
    have HKN := Lib.hid (keep_cells (u8s l) (g := w.heap.size + 1) 0 (Keep.refl (fun b => b = w.heap.size + 1) w') (fun _ => rfl))
    have H2 := Lib.hid h2
    have H3 := Lib.hid h3
    clear h2 h3 D
    go_wp2_with (with_reducible refine wpList_store_mid rfl 34 _ _ rfl (w.heap.size + 1) 0 (u8s l).toArray rfl rfl HT.out (sizeHash.trans (congrArg some hszA.symm)) (u8s_all _) ?_)
    refine bodyPost_ret (results_cell_row rfl _ _ (w.heap.size + 1) 34 _ (0, 0) _ rfl HD.out Try.underlying34 rfl (sizeHash.trans (congrArg some hszA.symm))) rfl ?_
    rw [HRR.out]
    exact ⟨_, rfl, rfl, H2.out.keep HKN.out (by omega) (fun b h e => by have := hrow b h; omega), H3.out.trans HKN.out (fun b h e => by omega)⟩
  | bad er f =>
    have hF := F
    obtain ⟨he, a, hF⟩ := hF
    have HC := Lib.hid (readsHash_not (hF.below hbl) (by omega) (.func (.func 84) #[] #[.pointer (some ⟨w.heap.size, 0, none⟩)]))
    have HBL := Lib.hid hbl
    have HD0 := Lib.hid hD
    have hszA : (u8s zl).toArray.size = 32 := by simpa [u8s_len] using hzl
    have hsz : (u8s zl).length = 32 := by simpa [u8s_len] using hzl
    have cb := kb_cell hb1 0
    simp at cb
    clear F hF hbl hD hb1
    go_enter Try.func35, Try.ntmps35
    go_wp2_with fail
    refine HC.out.mono ?_
    rintro e w' ⟨rfl, hb⟩
    rw [HZ.out]
    have D := kb_below hb HD0.out
    have HT := Lib.hid (there_kb D (show _ = (u8s zl).toArray.size by rw [hszA]; rfl))
    have HD := Lib.hid (setCells_kb (u8s zl) D (by rw [hsz]; rfl))
    have HKN := Lib.hid (keep_cells (u8s zl) (g := w.heap.size + 1) 0 (Keep.refl (fun b => b = w.heap.size + 1) w') (fun _ => rfl))
    have HB2 := Lib.hid (bl_then HBL.out hb)
    clear D hb
    go_wp2_with (with_reducible refine wpList_store_mid rfl 34 _ _ rfl (w.heap.size + 1) 0 (u8s zl).toArray rfl rfl HT.out (sizeHash.trans (congrArg some hszA.symm)) (u8s_all _) ?_)
    refine bodyPost_ret (results_cell_row rfl _ _ (w.heap.size + 1) 34 _ (0, 0) _ rfl HD.out Try.underlying34 rfl (sizeHash.trans (congrArg some hszA.symm))) rfl ?_
    exact ⟨_, rfl, rfl, (HF.out.below HB2.out).keep HKN.out (by omega) (fun b h e => by have := hrow b h; omega), (Keep.of_below HB2.out).trans HKN.out (fun b h e => by omega)⟩

theorem run_arrKey (W : World) (b off c : Nat) : (Instr.arrayAt 36 (.slice (some ⟨b, off, none⟩) 4 c)).run Try.prog W = .ok (.pointer (some ⟨b, off, none⟩)) W := by
  unfold Instr.arrayAt
  simp only [Sem.run_bind, run_underlying Try.underlying36 W, Result.andThen_ok]
  rfl
theorem sizeKey : (Try.prog.info? 36).map (·.size) = some 4 := by kernel_rfl
set_option maxRecDepth 100000 in
set_option maxHeartbeats 1000000 in
theorem arrKey {w : World} {v : Value} {l : List UInt8} (hv : BytesOf w v l) (hl : l.length = 4) :
    Calls Try.prog 90 #[v] w fun e w' => e = .returned (.agg (u8s l).toArray) ∧ Below w.heap.size w w' := by
  obtain ⟨b, off, c, rfl, hb, hr⟩ := bytes_range hv (by omega)
  rw [hl]
  have hsa := fun W => run_arrKey W b off c
  have HR := Lib.hid (show ∀ o, (w.alloc o).rangeAt b off (u8s l) from fun o => range_below hr hb (bl_alloc (Below.refl _ _) o))
  have hsz : (u8s l).length = 4 := by rw [u8s_len]; exact hl
  have hszA : (u8s l).toArray.size = 4 := by simpa using hsz
  clear hr hv
  go_enter Try.func90, Try.ntmps90
  go_wp2_with (first
    | (with_reducible refine wpList_load_mid rfl 36 _ rfl b off rfl (u8s l) _ (HR.out _) Try.underlying36 rfl (sizeKey.trans (congrArg some hsz.symm)) ?_)
    | (with_reducible refine wpList_store_new rfl 36 _ _ rfl (u8s l).toArray rfl rfl (Eq.trans (b := 4) (by kernel_rfl) hszA.symm) (sizeKey.trans (congrArg some hszA.symm)) (u8s_all l) ?_))
  exact bodyPost_ret (results_cell_row rfl _ _ w.heap.size 36 _ (0, 0) _ rfl (kb_new rfl _) Try.underlying36 rfl (sizeKey.trans (congrArg some hszA.symm))) rfl ⟨rfl, by (repeat (with_reducible (first | exact Below.refl _ _ | assumption | refine bl_alloc ?_ _ | refine bl_drew ?_ | refine bl_drewN ?_ _ | (refine bl_set ?_ ?_ _; (focus (first | (simp; done) | (simp; omega) | omega))) | refine bl_then ?_ (by assumption))))⟩

set_option maxHeartbeats 1000000 in
theorem takeKey_short {w : World} {B p : Nat} {s : Value} {xs : List UInt8} {a : Nat} (n : Nat) (f : Int) (mk : Value) (F : Rd w B p s xs a 0 0) (hn : xs.length < a + n) (h63 : n < 9223372036854775808) :
    Calls Try.prog 89 #[.pointer (some ⟨p, 0, none⟩), .int .i64 n, .int .i64 f, mk] w fun e w' => e = .panicked [{ v := wrongV 6 f, recovered := false }] ∧ Below w.heap.size w w' := by
  obtain ⟨A, cap, rfl⟩ := (RowOf.of_own F.row).form
  have hlt := kb_lt F.st
  have c0 := kb_cell F.st 0
  have c1 := kb_cell F.st 1
  simp at c0 c1
  have hd : decide ((n : Int) ≤ (xs.length : Int) - (a : Int)) = false := decide_eq_false (by omega)
  have hw : IntKind.i64.wrap ((xs.length : Int) - (a : Int)) = (xs.length : Int) - (a : Int) := IntWalk.i64_in _ (by have := F.len; have := F.le; omega)
  have hx : ∀ o, (w.alloc o).cell? ⟨p, 0, none⟩ = some (.slice A xs.length cap) ∧ (w.alloc o).cell? ⟨p, 1, none⟩ = some (.int .i64 (a : Int)) := fun o => ⟨(cell_alloc_some w p 0 o (by rw [c0]; rfl)).trans c0, (cell_alloc_some w p 1 o (by rw [c1]; rfl)).trans c1⟩
  have HX := Lib.hid hx
  clear F hx
  go_enter Try.func89, Try.ntmps89
  go_wp2
  refine wp_region_held_drew (S := (fun W : World => W.cell? ⟨p, 0, none⟩ = some (.slice A xs.length cap) ∧ W.cell? ⟨p, 1, none⟩ = some (.int .i64 (a : Int)))) (by kernel_rfl) (HX.out _) (fun hHeld => ?_)
  refine wpAnyH_take (i := 0) (oi := { dst := some 9, op := _, type := _, pos := _, after := _, guard := _ }) (v := ?_) rfl (by kernel_rfl) (by kernel_rfl) (by kernel_rfl) (fun _ _ _ h => h) (Or.inl ⟨by rfl, ?_⟩) hHeld ?_
  rotate_left
  · (intro w hSw; (try dsimp only at hSw); go_simp); all_goals with_reducible rfl
  try simp only [Act.put, List.setIfInBounds_toArray, List.set_cons_zero, List.set_cons_succ]
  refine wpAnyH_take (i := 1) (oi := { dst := some 10, op := _, type := _, pos := _, after := _, guard := _ }) (v := ?_) rfl (by kernel_rfl) (by kernel_rfl) (by kernel_rfl) (fun _ _ _ h => h) (Or.inl ⟨by rfl, ?_⟩) hHeld ?_
  rotate_left
  · (intro w hSw; (try dsimp only at hSw); go_simp); all_goals with_reducible rfl
  try simp only [Act.put, List.setIfInBounds_toArray, List.set_cons_zero, List.set_cons_succ]
  refine wpAnyH_take (i := 2) (oi := { dst := some 11, op := _, type := _, pos := _, after := _, guard := _ }) (v := ?_) rfl (by kernel_rfl) (by kernel_rfl) (by kernel_rfl) (fun _ _ _ h => h) (Or.inl ⟨by rfl, ?_⟩) hHeld ?_
  rotate_left
  · (intro w hSw; (try dsimp only at hSw); go_simp); all_goals with_reducible rfl
  try simp only [Act.put, List.setIfInBounds_toArray, List.set_cons_zero, List.set_cons_succ]
  refine wpAnyH_take (i := 3) (oi := { dst := some 12, op := _, type := _, pos := _, after := _, guard := _ }) (v := ?_) rfl (by kernel_rfl) (by kernel_rfl) (by kernel_rfl) (fun _ _ _ h => h) (Or.inl ⟨by rfl, ?_⟩) hHeld ?_
  rotate_left
  · (intro w hSw; (try dsimp only at hSw); go_simp); all_goals with_reducible rfl
  try simp only [Act.put, List.setIfInBounds_toArray, List.set_cons_zero, List.set_cons_succ]
  refine wpAnyH_take (i := 4) (oi := { dst := some 13, op := _, type := _, pos := _, after := _, guard := _ }) (v := ?_) rfl (by kernel_rfl) (by kernel_rfl) (by kernel_rfl) (fun _ _ _ h => h) (Or.inl ⟨by rfl, ?_⟩) hHeld ?_
  rotate_left
  · (intro w hSw; (try dsimp only at hSw); go_simp); all_goals with_reducible rfl
  try simp only [Act.put, List.setIfInBounds_toArray, List.set_cons_zero, List.set_cons_succ]
  refine wpAnyH_take (i := 5) (oi := { dst := some 14, op := _, type := _, pos := _, after := _, guard := _ }) (v := ?_) rfl (by kernel_rfl) (by kernel_rfl) (by kernel_rfl) (fun _ _ _ h => h) (Or.inl ⟨by rfl, ?_⟩) hHeld ?_
  rotate_left
  · (intro w hSw; (try dsimp only at hSw); go_simp); all_goals with_reducible rfl
  try simp only [Act.put, List.setIfInBounds_toArray, List.set_cons_zero, List.set_cons_succ]
  refine wpAnyH_take (i := 6) (oi := { dst := some 15, op := _, type := _, pos := _, after := _, guard := _ }) (v := ?_) rfl (by kernel_rfl) (by kernel_rfl) (by kernel_rfl) (fun _ _ _ h => h) (Or.inl ⟨by rfl, ?_⟩) hHeld ?_
  rotate_left
  · (intro w hSw; (try dsimp only at hSw); go_simp); all_goals with_reducible rfl
  try simp only [Act.put, List.setIfInBounds_toArray, List.set_cons_zero, List.set_cons_succ]
  refine wpAnyH_take (i := 7) (oi := { dst := some 16, op := _, type := _, pos := _, after := _, guard := _ }) (v := ?_) rfl (by kernel_rfl) (by kernel_rfl) (by kernel_rfl) (fun _ _ _ h => h) (Or.inl ⟨by rfl, ?_⟩) hHeld ?_
  rotate_left
  · (intro w hSw; (try dsimp only at hSw); go_simp); all_goals with_reducible rfl
  try simp only [Act.put, List.setIfInBounds_toArray, List.set_cons_zero, List.set_cons_succ]
  refine wpAnyH_take (i := 8) (oi := { dst := some 17, op := _, type := _, pos := _, after := _, guard := _ }) (v := ?_) rfl (by kernel_rfl) (by kernel_rfl) (by kernel_rfl) (fun _ _ _ h => h) (Or.inl ⟨by rfl, ?_⟩) hHeld ?_
  rotate_left
  · (intro w hSw; (try dsimp only at hSw); go_simp); all_goals with_reducible rfl
  try simp only [Act.put, List.setIfInBounds_toArray, List.set_cons_zero, List.set_cons_succ]
  refine wpAnyH_take (i := 9) (oi := { dst := some 18, op := _, type := _, pos := _, after := _, guard := _ }) (v := ?_) rfl (by kernel_rfl) (by kernel_rfl) (by kernel_rfl) (fun _ _ _ h => h) (Or.inl ⟨by rfl, ?_⟩) hHeld ?_
  rotate_left
  · (intro w hSw; (try dsimp only at hSw); go_simp); all_goals with_reducible rfl
  try simp only [Act.put, List.setIfInBounds_toArray, List.set_cons_zero, List.set_cons_succ]
  refine wpAnyH_take (i := 10) (oi := { dst := some 19, op := _, type := _, pos := _, after := _, guard := _ }) (v := ?_) rfl (by kernel_rfl) (by kernel_rfl) (by kernel_rfl) (fun _ _ _ h => h) (Or.inl ⟨by rfl, ?_⟩) hHeld ?_
  rotate_left
  · (intro w hSw; (try dsimp only at hSw); go_simp); all_goals with_reducible rfl
  try simp only [Act.put, List.setIfInBounds_toArray, List.set_cons_zero, List.set_cons_succ]
  refine wpAnyH_take (i := 11) (oi := { dst := some 20, op := _, type := _, pos := _, after := _, guard := _ }) (v := ?_) rfl (by kernel_rfl) (by kernel_rfl) (by kernel_rfl) (fun _ _ _ h => h) (Or.inl ⟨by rfl, ?_⟩) hHeld ?_
  rotate_left
  · (intro w hSw; (try dsimp only at hSw); go_simp); all_goals with_reducible rfl
  try simp only [Act.put, List.setIfInBounds_toArray, List.set_cons_zero, List.set_cons_succ]
  refine wpAnyH_take (i := 12) (oi := { dst := some 21, op := _, type := _, pos := _, after := _, guard := _ }) (v := ?_) rfl (by kernel_rfl) (by kernel_rfl) (by kernel_rfl) (fun _ _ _ h => h) (Or.inl ⟨by rfl, ?_⟩) hHeld ?_
  rotate_left
  · (intro w hSw; (try dsimp only at hSw); go_simp); all_goals with_reducible rfl
  try simp only [Act.put, List.setIfInBounds_toArray, List.set_cons_zero, List.set_cons_succ]
  refine wpAnyH_ready (rs := [13]) (by kernel_rfl) (by simp) (AllReadyH.cons (o := _) rfl (fun K hK => ?_) AllReadyH.nil)
  go_simp
  refine (must_no _ _ _).mono ?_
  rintro e w' ⟨rfl, rfl⟩
  exact ⟨rfl, rfl, by (repeat (with_reducible (first | exact Below.refl _ _ | assumption | refine bl_alloc ?_ _ | refine bl_drew ?_ | refine bl_drewN ?_ _ | (refine bl_set ?_ ?_ _; (focus (first | (simp; done) | (simp; omega) | omega))) | refine bl_then ?_ (by assumption))))⟩
set_option maxRecDepth 100000 in
set_option maxHeartbeats 2000000 in
theorem takeKey_ok {w : World} {B p : Nat} {s : Value} {xs : List UInt8} {a : Nat} (f : Int) (F : Rd w B p s xs a 0 0) (hn : a + 4 ≤ xs.length) :
    Calls Try.prog 89 #[.pointer (some ⟨p, 0, none⟩), .int .i64 4, .int .i64 f, .func (.func 90) #[] #[]] w fun e w' => ∃ u, e = .returned u ∧ u = .agg (u8s ((xs.drop a).take 4)).toArray ∧ RdTo (fun b => b = p) w w' B p s xs (a + 4) := by
  obtain ⟨A, c, rfl⟩ := (RowOf.of_own F.row).form
  have hlt := kb_lt F.st
  have hle := F.len
  have hd : decide ((4 : Int) ≤ (xs.length : Int) - (a : Int)) = true := decide_eq_true (by omega)
  have hw : IntKind.i64.wrap ((xs.length : Int) - (a : Int)) = (xs.length : Int) - (a : Int) := IntWalk.i64_in _ (by have := F.len; have := F.le; omega)
  have hw2 : IntKind.i64.wrap ((a : Int) + 4) = (a : Int) + 4 := IntWalk.i64_in _ (by omega)
  have hw3 : IntKind.i64.wrap ((a : Int) + 4 - 4) = (a : Int) := by rw [IntWalk.i64_in _ (by omega)]; omega
  have hw4 : IntKind.i64.wrap (a : Int) = (a : Int) := IntWalk.i64_in _ (by omega)
  obtain ⟨A', hsl, hsb⟩ := part_run F.row a 4 hn
  rw [show ((4 : Nat) : Int) = (4 : Int) from rfl] at hsl
  have eK : Enters 90 := fun _ _ => by kernel_rfl
  unfold Enters at eK
  obtain ⟨Z, hZ, hZs⟩ : ∃ Z : Array Value, Z = #[.int .u8 0, .int .u8 0, .int .u8 0, .int .u8 0] ∧ Z.size = 4 := ⟨_, rfl, rfl⟩
  have bA : Below w.heap.size w (w.alloc (.cells Z 36)) := bl_alloc (Below.refl _ _) _
  have FA := F.below bA
  have DA := kb_new (w := w) rfl (.cells Z 36)
  rw [hZ] at FA bA DA
  generalize hWA : w.alloc (.cells #[.int .u8 0, .int .u8 0, .int .u8 0, .int .u8 0] 36) = wA at *
  have hsA : wA.heap.size = w.heap.size + 1 := by rw [← hWA]; simp
  have HWA := Lib.hid hWA
  have HBA := Lib.hid bA
  have HF := Lib.hid F
  have HFA := Lib.hid FA
  have HDA := Lib.hid DA
  have c0 := kb_cell FA.st 0
  have c1 := kb_cell FA.st 1
  simp at c0 c1
  have z1 : wA.frozen? ⟨p, 1, none⟩ = false := kb_frozen FA.st 1
  have HB := Lib.hid hsb
  clear F hsb FA DA hZ hZs bA
  go_enter Try.func89, Try.ntmps89
  go_wp2
  try rw [HWA.out]
  refine wp_region_held_drew (S := (fun W : World => W.cell? ⟨p, 0, none⟩ = some (.slice A xs.length c) ∧ W.cell? ⟨p, 1, none⟩ = some (.int .i64 (a : Int)))) (by kernel_rfl) ⟨c0, c1⟩ (fun hHeld => ?_)
  refine wpAnyH_take (i := 0) (oi := { dst := some 9, op := _, type := _, pos := _, after := _, guard := _ }) (v := ?_) rfl (by kernel_rfl) (by kernel_rfl) (by kernel_rfl) (fun _ _ _ h => h) (Or.inl ⟨by rfl, ?_⟩) hHeld ?_
  rotate_left
  · (intro w hSw; (try dsimp only at hSw); go_simp); all_goals with_reducible rfl
  try simp only [Act.put, List.setIfInBounds_toArray, List.set_cons_zero, List.set_cons_succ]
  refine wpAnyH_take (i := 1) (oi := { dst := some 10, op := _, type := _, pos := _, after := _, guard := _ }) (v := ?_) rfl (by kernel_rfl) (by kernel_rfl) (by kernel_rfl) (fun _ _ _ h => h) (Or.inl ⟨by rfl, ?_⟩) hHeld ?_
  rotate_left
  · (intro w hSw; (try dsimp only at hSw); go_simp); all_goals with_reducible rfl
  try simp only [Act.put, List.setIfInBounds_toArray, List.set_cons_zero, List.set_cons_succ]
  refine wpAnyH_take (i := 2) (oi := { dst := some 11, op := _, type := _, pos := _, after := _, guard := _ }) (v := ?_) rfl (by kernel_rfl) (by kernel_rfl) (by kernel_rfl) (fun _ _ _ h => h) (Or.inl ⟨by rfl, ?_⟩) hHeld ?_
  rotate_left
  · (intro w hSw; (try dsimp only at hSw); go_simp); all_goals with_reducible rfl
  try simp only [Act.put, List.setIfInBounds_toArray, List.set_cons_zero, List.set_cons_succ]
  refine wpAnyH_take (i := 3) (oi := { dst := some 12, op := _, type := _, pos := _, after := _, guard := _ }) (v := ?_) rfl (by kernel_rfl) (by kernel_rfl) (by kernel_rfl) (fun _ _ _ h => h) (Or.inl ⟨by rfl, ?_⟩) hHeld ?_
  rotate_left
  · (intro w hSw; (try dsimp only at hSw); go_simp); all_goals with_reducible rfl
  try simp only [Act.put, List.setIfInBounds_toArray, List.set_cons_zero, List.set_cons_succ]
  refine wpAnyH_take (i := 4) (oi := { dst := some 13, op := _, type := _, pos := _, after := _, guard := _ }) (v := ?_) rfl (by kernel_rfl) (by kernel_rfl) (by kernel_rfl) (fun _ _ _ h => h) (Or.inl ⟨by rfl, ?_⟩) hHeld ?_
  rotate_left
  · (intro w hSw; (try dsimp only at hSw); go_simp); all_goals with_reducible rfl
  try simp only [Act.put, List.setIfInBounds_toArray, List.set_cons_zero, List.set_cons_succ]
  refine wpAnyH_take (i := 5) (oi := { dst := some 14, op := _, type := _, pos := _, after := _, guard := _ }) (v := ?_) rfl (by kernel_rfl) (by kernel_rfl) (by kernel_rfl) (fun _ _ _ h => h) (Or.inl ⟨by rfl, ?_⟩) hHeld ?_
  rotate_left
  · (intro w hSw; (try dsimp only at hSw); go_simp); all_goals with_reducible rfl
  try simp only [Act.put, List.setIfInBounds_toArray, List.set_cons_zero, List.set_cons_succ]
  refine wpAnyH_take (i := 6) (oi := { dst := some 15, op := _, type := _, pos := _, after := _, guard := _ }) (v := ?_) rfl (by kernel_rfl) (by kernel_rfl) (by kernel_rfl) (fun _ _ _ h => h) (Or.inl ⟨by rfl, ?_⟩) hHeld ?_
  rotate_left
  · (intro w hSw; (try dsimp only at hSw); go_simp); all_goals with_reducible rfl
  try simp only [Act.put, List.setIfInBounds_toArray, List.set_cons_zero, List.set_cons_succ]
  refine wpAnyH_take (i := 7) (oi := { dst := some 16, op := _, type := _, pos := _, after := _, guard := _ }) (v := ?_) rfl (by kernel_rfl) (by kernel_rfl) (by kernel_rfl) (fun _ _ _ h => h) (Or.inl ⟨by rfl, ?_⟩) hHeld ?_
  rotate_left
  · (intro w hSw; (try dsimp only at hSw); go_simp); all_goals with_reducible rfl
  try simp only [Act.put, List.setIfInBounds_toArray, List.set_cons_zero, List.set_cons_succ]
  refine wpAnyH_take (i := 8) (oi := { dst := some 17, op := _, type := _, pos := _, after := _, guard := _ }) (v := ?_) rfl (by kernel_rfl) (by kernel_rfl) (by kernel_rfl) (fun _ _ _ h => h) (Or.inl ⟨by rfl, ?_⟩) hHeld ?_
  rotate_left
  · (intro w hSw; (try dsimp only at hSw); go_simp); all_goals with_reducible rfl
  try simp only [Act.put, List.setIfInBounds_toArray, List.set_cons_zero, List.set_cons_succ]
  refine wpAnyH_take (i := 9) (oi := { dst := some 18, op := _, type := _, pos := _, after := _, guard := _ }) (v := ?_) rfl (by kernel_rfl) (by kernel_rfl) (by kernel_rfl) (fun _ _ _ h => h) (Or.inl ⟨by rfl, ?_⟩) hHeld ?_
  rotate_left
  · (intro w hSw; (try dsimp only at hSw); go_simp); all_goals with_reducible rfl
  try simp only [Act.put, List.setIfInBounds_toArray, List.set_cons_zero, List.set_cons_succ]
  refine wpAnyH_take (i := 10) (oi := { dst := some 19, op := _, type := _, pos := _, after := _, guard := _ }) (v := ?_) rfl (by kernel_rfl) (by kernel_rfl) (by kernel_rfl) (fun _ _ _ h => h) (Or.inl ⟨by rfl, ?_⟩) hHeld ?_
  rotate_left
  · (intro w hSw; (try dsimp only at hSw); go_simp); all_goals with_reducible rfl
  try simp only [Act.put, List.setIfInBounds_toArray, List.set_cons_zero, List.set_cons_succ]
  refine wpAnyH_take (i := 11) (oi := { dst := some 20, op := _, type := _, pos := _, after := _, guard := _ }) (v := ?_) rfl (by kernel_rfl) (by kernel_rfl) (by kernel_rfl) (fun _ _ _ h => h) (Or.inl ⟨by rfl, ?_⟩) hHeld ?_
  rotate_left
  · (intro w hSw; (try dsimp only at hSw); go_simp); all_goals with_reducible rfl
  try simp only [Act.put, List.setIfInBounds_toArray, List.set_cons_zero, List.set_cons_succ]
  refine wpAnyH_take (i := 12) (oi := { dst := some 21, op := _, type := _, pos := _, after := _, guard := _ }) (v := ?_) rfl (by kernel_rfl) (by kernel_rfl) (by kernel_rfl) (fun _ _ _ h => h) (Or.inl ⟨by rfl, ?_⟩) hHeld ?_
  rotate_left
  · (intro w hSw; (try dsimp only at hSw); go_simp); all_goals with_reducible rfl
  try simp only [Act.put, List.setIfInBounds_toArray, List.set_cons_zero, List.set_cons_succ]
  refine wpAnyH_ready (rs := [13]) (by kernel_rfl) (by simp) (AllReadyH.cons (o := _) rfl (fun K hK => ?_) AllReadyH.nil)
  go_simp
  refine (must_yes _ _ _).mono ?_
  rintro e w' ⟨rfl, rfl⟩
  refine hK.out _ _ ⟨c0, c1⟩ (fun hHeld => ?_)
  refine wpAnyH_done (by kernel_rfl) ?_ _
  clear hHeld hK
  go_wp2
  have F1 := HFA.out.put (a + 4) hn
  have k1 : Keep (fun b => b = p) wA (wA.setCell ⟨p, 1, none⟩ (.int .i64 ((a : Int) + 4))) := (Keep.refl (fun b => b = p) wA).set (p := ⟨p, 1, none⟩) (fun _ => rfl) _
  rw [show ((a + 4 : Nat) : Int) = (a : Int) + 4 from rfl] at F1
  have D1 := k1.kb HDA.out (by omega)
  generalize wA.setCell ⟨p, 1, none⟩ (.int .i64 ((a : Int) + 4)) = wB at *
  have d0 := kb_cell F1.st 0
  have d1 := kb_cell F1.st 1
  simp at d0 d1
  have HF1 := Lib.hid F1
  have HD1 := Lib.hid D1
  have HK1 := Lib.hid k1
  clear F1 D1 k1
  refine wp_region_held_drew (S := (fun W : World => W.cell? ⟨p, 0, none⟩ = some (.slice A xs.length c) ∧ W.cell? ⟨p, 1, none⟩ = some (.int .i64 ((a : Int) + 4)))) (by kernel_rfl) ⟨d0, d1⟩ (fun hHeld => ?_)
  refine wpAnyH_take (i := 0) (oi := { dst := some 31, op := _, type := _, pos := _, after := _, guard := _ }) (v := ?_) rfl (by kernel_rfl) (by kernel_rfl) (by kernel_rfl) (fun _ _ _ h => h) (Or.inl ⟨by rfl, ?_⟩) hHeld ?_
  rotate_left
  · (intro w hSw; (try dsimp only at hSw); go_simp); all_goals with_reducible rfl
  try simp only [Act.put, List.setIfInBounds_toArray, List.set_cons_zero, List.set_cons_succ]
  refine wpAnyH_take (i := 1) (oi := { dst := some 32, op := _, type := _, pos := _, after := _, guard := _ }) (v := ?_) rfl (by kernel_rfl) (by kernel_rfl) (by kernel_rfl) (fun _ _ _ h => h) (Or.inl ⟨by rfl, ?_⟩) hHeld ?_
  rotate_left
  · (intro w hSw; (try dsimp only at hSw); go_simp); all_goals with_reducible rfl
  try simp only [Act.put, List.setIfInBounds_toArray, List.set_cons_zero, List.set_cons_succ]
  refine wpAnyH_take (i := 2) (oi := { dst := some 33, op := _, type := _, pos := _, after := _, guard := _ }) (v := ?_) rfl (by kernel_rfl) (by kernel_rfl) (by kernel_rfl) (fun _ _ _ h => h) (Or.inl ⟨by rfl, ?_⟩) hHeld ?_
  rotate_left
  · (intro w hSw; (try dsimp only at hSw); go_simp); all_goals with_reducible rfl
  try simp only [Act.put, List.setIfInBounds_toArray, List.set_cons_zero, List.set_cons_succ]
  refine wpAnyH_take (i := 3) (oi := { dst := some 34, op := _, type := _, pos := _, after := _, guard := _ }) (v := ?_) rfl (by kernel_rfl) (by kernel_rfl) (by kernel_rfl) (fun _ _ _ h => h) (Or.inl ⟨by rfl, ?_⟩) hHeld ?_
  rotate_left
  · (intro w hSw; (try dsimp only at hSw); go_simp); all_goals with_reducible rfl
  try simp only [Act.put, List.setIfInBounds_toArray, List.set_cons_zero, List.set_cons_succ]
  refine wpAnyH_take (i := 4) (oi := { dst := some 35, op := _, type := _, pos := _, after := _, guard := _ }) (v := ?_) rfl (by kernel_rfl) (by kernel_rfl) (by kernel_rfl) (fun _ _ _ h => h) (Or.inl ⟨by rfl, ?_⟩) hHeld ?_
  rotate_left
  · (intro w hSw; (try dsimp only at hSw); go_simp); all_goals with_reducible rfl
  try simp only [Act.put, List.setIfInBounds_toArray, List.set_cons_zero, List.set_cons_succ]
  refine wpAnyH_take (i := 5) (oi := { dst := some 36, op := _, type := _, pos := _, after := _, guard := _ }) (v := ?_) rfl (by kernel_rfl) (by kernel_rfl) (by kernel_rfl) (fun _ _ _ h => h) (Or.inl ⟨by rfl, ?_⟩) hHeld ?_
  rotate_left
  · (intro w hSw; (try dsimp only at hSw); go_simp); all_goals with_reducible rfl
  try simp only [Act.put, List.setIfInBounds_toArray, List.set_cons_zero, List.set_cons_succ]
  refine wpAnyH_take (i := 6) (oi := { dst := some 37, op := _, type := _, pos := _, after := _, guard := _ }) (v := ?_) rfl (by kernel_rfl) (by kernel_rfl) (by kernel_rfl) (fun _ _ _ h => h) (Or.inl ⟨by rfl, ?_⟩) hHeld ?_
  rotate_left
  · (intro w hSw; (try dsimp only at hSw); go_simp); all_goals with_reducible rfl
  try simp only [Act.put, List.setIfInBounds_toArray, List.set_cons_zero, List.set_cons_succ]
  refine wpAnyH_take (i := 7) (oi := { dst := some 38, op := _, type := _, pos := _, after := _, guard := _ }) (v := ?_) rfl (by kernel_rfl) (by kernel_rfl) (by kernel_rfl) (fun _ _ _ h => h) (Or.inl ⟨by rfl, ?_⟩) hHeld ?_
  rotate_left
  · (intro w hSw; (try dsimp only at hSw); go_simp); all_goals with_reducible rfl
  try simp only [Act.put, List.setIfInBounds_toArray, List.set_cons_zero, List.set_cons_succ]
  refine wpAnyH_take (i := 8) (oi := { dst := some 39, op := _, type := _, pos := _, after := _, guard := _ }) (v := ?_) rfl (by kernel_rfl) (by kernel_rfl) (by kernel_rfl) (fun _ _ _ h => h) (Or.inl ⟨by rfl, ?_⟩) hHeld ?_
  rotate_left
  · (intro w hSw; (try dsimp only at hSw); go_simp); all_goals with_reducible rfl
  try simp only [Act.put, List.setIfInBounds_toArray, List.set_cons_zero, List.set_cons_succ]
  refine wpAnyH_take (i := 9) (oi := { dst := some 40, op := _, type := _, pos := _, after := _, guard := _ }) (v := ?_) rfl (by kernel_rfl) (by kernel_rfl) (by kernel_rfl) (fun _ _ _ h => h) (Or.inl ⟨by rfl, ?_⟩) hHeld ?_
  rotate_left
  · (intro w hSw; (try dsimp only at hSw); go_simp); all_goals with_reducible rfl
  try simp only [Act.put, List.setIfInBounds_toArray, List.set_cons_zero, List.set_cons_succ]
  refine wpAnyH_take (i := 10) (oi := { dst := some 41, op := _, type := _, pos := _, after := _, guard := _ }) (v := ?_) rfl (by kernel_rfl) (by kernel_rfl) (by kernel_rfl) (fun _ _ _ h => h) (Or.inl ⟨by rfl, ?_⟩) hHeld ?_
  rotate_left
  · (intro w hSw; (try dsimp only at hSw); go_simp); all_goals with_reducible rfl
  try simp only [Act.put, List.setIfInBounds_toArray, List.set_cons_zero, List.set_cons_succ]
  refine wpAnyH_take (i := 11) (oi := { dst := some 42, op := _, type := _, pos := _, after := _, guard := _ }) (v := ?_) rfl (by kernel_rfl) (by kernel_rfl) (by kernel_rfl) (fun _ _ _ h => h) (Or.inl ⟨by rfl, ?_⟩) hHeld ?_
  rotate_left
  · (intro w hSw; (try dsimp only at hSw); go_simp); all_goals with_reducible rfl
  try simp only [Act.put, List.setIfInBounds_toArray, List.set_cons_zero, List.set_cons_succ]
  refine wpAnyH_take (i := 12) (oi := { dst := some 43, op := _, type := _, pos := _, after := _, guard := _ }) (v := ?_) rfl (by kernel_rfl) (by kernel_rfl) (by kernel_rfl) (fun _ _ _ h => h) (Or.inl ⟨by rfl, ?_⟩) hHeld ?_
  rotate_left
  · (intro w hSw; (try dsimp only at hSw); go_simp); all_goals with_reducible rfl
  try simp only [Act.put, List.setIfInBounds_toArray, List.set_cons_zero, List.set_cons_succ]
  refine wpAnyH_take (i := 13) (oi := { dst := some 44, op := _, type := _, pos := _, after := _, guard := _ }) (v := ?_) rfl (by kernel_rfl) (by kernel_rfl) (by kernel_rfl) (fun _ _ _ h => h) (Or.inl ⟨by rfl, ?_⟩) hHeld ?_
  rotate_left
  · (intro w hSw; (try dsimp only at hSw); go_simp); all_goals with_reducible rfl
  try simp only [Act.put, List.setIfInBounds_toArray, List.set_cons_zero, List.set_cons_succ]
  refine wpAnyH_take (i := 14) (oi := { dst := some 45, op := _, type := _, pos := _, after := _, guard := _ }) (v := ?_) rfl (by kernel_rfl) (by kernel_rfl) (by kernel_rfl) (fun _ _ _ h => h) (Or.inl ⟨by rfl, ?_⟩) hHeld ?_
  rotate_left
  · (intro w hSw; (try dsimp only at hSw); go_simp); all_goals with_reducible rfl
  try simp only [Act.put, List.setIfInBounds_toArray, List.set_cons_zero, List.set_cons_succ]
  refine wpAnyH_take (i := 15) (oi := { dst := some 46, op := _, type := _, pos := _, after := _, guard := _ }) (v := ?_) rfl (by kernel_rfl) (by kernel_rfl) (by kernel_rfl) (fun _ _ _ h => h) (Or.inl ⟨by rfl, ?_⟩) hHeld ?_
  rotate_left
  · (intro w hSw; (try dsimp only at hSw); go_simp); all_goals with_reducible rfl
  try simp only [Act.put, List.setIfInBounds_toArray, List.set_cons_zero, List.set_cons_succ]
  refine wpAnyH_ready (rs := [16]) (by kernel_rfl) (by simp) (AllReadyH.cons (o := _) rfl (fun K hK => ?_) AllReadyH.nil)
  go_simp
  have hlen : ((xs.drop a).take 4).length = 4 := by rw [List.length_take, List.length_drop]; omega
  refine (arrKey (l := (xs.drop a).take 4) (by have := (HB.out _ (HF1.out.below (bl_drew (bl_drew (Below.refl _ _)))).row).1; exact this) hlen).mono ?_
  rintro e w' ⟨rfl, hb⟩
  have hpB : p < wB.heap.size := by have := HK1.out.size; omega
  have e0 := (hb.cell (p := ⟨p, 0, none⟩) hpB).trans d0
  have e1 := (hb.cell (p := ⟨p, 1, none⟩) hpB).trans d1
  refine hK.out _ _ ⟨e0, e1⟩ (fun hHeld => ?_)
  try simp only [Act.put, List.setIfInBounds_toArray, List.set_cons_zero, List.set_cons_succ]
  refine wpAnyH_ready (rs := [17]) (by kernel_rfl) (by simp) (AllReadyH.cons (o := _) rfl (fun K hK => ?_) AllReadyH.nil)
  have D2 := kb_below hb (kb_drew (kb_drew HD1.out))
  have hszA : (u8s ((xs.drop a).take 4)).toArray.size = 4 := by simpa [u8s_len] using hlen
  have hsz : (u8s ((xs.drop a).take 4)).length = 4 := by simpa [u8s_len] using hlen
  have D3 := setCells_kb (u8s ((xs.drop a).take 4)) D2 hsz.symm
  rw [if_pos (by rfl)]
  refine wp_store_mid 36 _ _ rfl w.heap.size 0 (u8s ((xs.drop a).take 4)).toArray rfl rfl (there_kb D2 hszA.symm) (sizeKey.trans (congrArg some hszA.symm)) (u8s_all _) ?_
  have hpN : p ≠ w.heap.size := by omega
  have kN : Keep (fun b => b = w.heap.size) w' (w'.setCells w.heap.size 0 (u8s ((xs.drop a).take 4))) := keep_cells _ _ (Keep.refl _ _) (fun _ => rfl)
  have F2 := ((HF1.out.below (bl_drew (bl_drew (Below.refl _ _)))).below hb).keep kN (by omega) (fun b h e => by
    have h1 := (HF.out.row.lt b h).2
    omega)
  have f0 := kb_cell F2.st 0
  have f1 := kb_cell F2.st 1
  simp at f0 f1
  refine hK.out _ _ ⟨f0, f1⟩ (fun hHeld => ?_)
  try simp only [Act.put, List.setIfInBounds_toArray, List.set_cons_zero, List.set_cons_succ]
  refine wpAnyH_done (by kernel_rfl) ?_ _
  clear hHeld hK
  have HF2 := Lib.hid F2
  have HD3 := Lib.hid D3
  have HKN := Lib.hid kN
  generalize w'.setCells w.heap.size 0 (u8s ((xs.drop a).take 4)) = wC at *
  clear F2 D3 kN f0 f1 D2 e0 e1 d0 d1
  go_wp2
  refine bodyPost_ret (results_cell_row rfl _ _ w.heap.size 36 _ (0, 0) _ rfl HD3.out Try.underlying36 rfl (sizeKey.trans (congrArg some hszA.symm))) rfl ?_
  exact ⟨_, rfl, rfl, HF2.out, ((Keep.after HBA.out HK1.out).drew.drew.then_below hb).trans HKN.out (fun b h e => by omega)⟩

theorem zerosKey : #[.int .u8 0, .int .u8 0, .int .u8 0, .int .u8 0] = (u8s (List.replicate 4 0)).toArray := rfl
theorem takeKey_any {w : World} {B p : Nat} {s : Value} {xs : List UInt8} {a : Nat} (f : Nat) (F : Rd w B p s xs a 0 0) :
    Calls Try.prog 89 #[.pointer (some ⟨p, 0, none⟩), .int .i64 4, .int .i64 f, .func (.func 90) #[] #[]] w (Takes w B p s xs (takeP xs 4 a f id) fun l _ u => u = .agg (u8s l).toArray) := by
  unfold takeP Takes
  by_cases h : a + 4 ≤ xs.length
  · rw [if_pos h]; exact takeKey_ok f F h
  · rw [if_neg h]; exact (takeKey_short 4 f _ F (by omega) (by omega)).mono fun e w' ⟨h1, h2⟩ => ⟨h1, a, F.below h2, Keep.of_below h2⟩
set_option maxHeartbeats 1000000 in
theorem Key1_any {w : World} {B p b : Nat} {s : Value} {xs : List UInt8} {a : Nat} (F : Rd w B p s xs a 0 0) (hb : BoxR w b p) :
    Calls Try.prog 88 (#[] ++ #[.int .i64 a] ++ #[.pointer (some ⟨b, 0, none⟩)]) w (Takes w B p s xs (takeP xs 4 a a id) fun l _ u => u = .agg (u8s l).toArray) := by
  have bA : Below w.heap.size w (w.alloc (.cells #[.int .u8 0, .int .u8 0, .int .u8 0, .int .u8 0] 36)) := bl_alloc (Below.refl _ _) _
  have FA := F.below bA
  have hlt := kb_lt F.st
  have HA := Lib.hid (kb_new (w := w) rfl (.cells #[.int .u8 0, .int .u8 0, .int .u8 0, .int .u8 0] 36))
  have hrow : ∀ b, s.ownBlock = some b → b < w.heap.size := fun b h => (F.row.lt b h).2
  have cb := kb_cell hb 0
  simp at cb
  have HBA := Lib.hid bA
  have hl : ∀ l a', takeP xs 4 a a id = .ok l a' → l.length = 4 := fun l a' h => takeP_len h
  have H := takeKey_any a FA
  clear bA FA
  revert H hl
  generalize takeP xs 4 a a id = r
  intro hl H
  have HH := Lib.hid H
  have HL := Lib.hid hl
  clear F H hb hl
  cases r with
  | ok v a' =>
    have hlen := HL.out v a' rfl
    have hszA : (u8s v).toArray.size = 4 := by simpa [u8s_len] using hlen
    have hsz : (u8s v).length = 4 := by simpa [u8s_len] using hlen
    go_enter Try.func88, Try.ntmps88
    go_wp2_with fail
    refine HH.out.mono ?_
    rintro e w' ⟨u, rfl, rfl, hR⟩
    have HR := Lib.hid hR
    have D := hR.2.kb HA.out (by omega)
    clear hR
    have D3 := setCells_kb (u8s v) D hsz.symm
    have kN : Keep (fun b => b = w.heap.size) w' (w'.setCells w.heap.size 0 (u8s v)) := keep_cells _ _ (Keep.refl _ _) (fun _ => rfl)
    have HD3 := Lib.hid D3
    have HKN := Lib.hid kN
    have HT := Lib.hid (there_kb D hszA.symm)
    clear D D3 kN
    go_wp2_with (with_reducible refine wpList_store_mid rfl 36 _ _ rfl w.heap.size 0 (u8s v).toArray rfl rfl HT.out (sizeKey.trans (congrArg some hszA.symm)) (u8s_all _) ?_)
    refine bodyPost_ret (results_cell_row rfl _ _ w.heap.size 36 _ (0, 0) _ rfl HD3.out Try.underlying36 rfl (sizeKey.trans (congrArg some hszA.symm))) rfl ?_
    exact ⟨_, rfl, rfl, HR.out.1.keep HKN.out (by omega) (fun b h e => by have := hrow b h; omega), (Keep.after HBA.out HR.out.2).trans HKN.out (fun b h e => by omega)⟩
  | bad er f =>
    go_enter Try.func88, Try.ntmps88
    go_wp2_with fail
    refine HH.out.mono ?_
    rintro e w' ⟨rfl, a2, hR⟩
    exact ⟨rfl, rfl, a2, hR.1, Keep.after HBA.out hR.2⟩

theorem readsKey_ok {w : World} {B p : Nat} {s : Value} {xs : List UInt8} {a a' : Nat} {l : List UInt8} (hlen : l.length = 4) (F : Rd w B p s xs a 0 0) (k : Nat) (first cap : Array Value) (eK : Enters k)
    (hC : ∀ W, Below w.heap.size w W → Calls Try.prog k (first ++ #[.int .i64 a] ++ cap) W fun e w' => ∃ u, e = .returned u ∧ u = .agg (u8s l).toArray ∧ RdTo (fun b => b = p) W w' B p s xs a') :
    Calls Try.prog 87 #[.pointer (some ⟨p, 0, none⟩), .func (.func k) first cap] w fun e w' => ∃ u, e = .returned u ∧ u = .agg (u8s l).toArray ∧ RdTo (fun b => b = p) w w' B p s xs a' := by
  have bA : Below w.heap.size w (w.alloc (.cells #[.int .u8 0, .int .u8 0, .int .u8 0, .int .u8 0] 36)) := bl_alloc (Below.refl _ _) _
  have FA := F.below bA
  have hlt := kb_lt F.st
  have c := kb_cell FA.st
  have HA := Lib.hid (kb_new (w := w) rfl (.cells #[.int .u8 0, .int .u8 0, .int .u8 0, .int .u8 0] 36))
  have hrow : ∀ b, s.ownBlock = some b → b < w.heap.size := fun b h => (F.row.lt b h).2
  have HC := Lib.hid (hC _ bA)
  have HBA := Lib.hid bA
  have eK' := eK
  unfold Enters at eK'
  have hszA : (u8s l).toArray.size = 4 := by simpa [u8s_len] using hlen
  have hsz : (u8s l).length = 4 := by simpa [u8s_len] using hlen
  clear F hC bA FA
  go_enter_defers Try.func87, Try.ntmps87
  go_wp2_with fail
  refine HC.out.mono ?_
  rintro e w1 ⟨u, rfl, rfl, hR⟩
  have HR := Lib.hid hR
  have D := hR.2.kb HA.out (by omega)
  clear hR c
  have D3 := setCells_kb (u8s l) D hsz.symm
  have kN : Keep (fun b => b = w.heap.size) w1 (w1.setCells w.heap.size 0 (u8s l)) := keep_cells _ _ (Keep.refl _ _) (fun _ => rfl)
  have HD3 := Lib.hid D3
  have HKN := Lib.hid kN
  have HT := Lib.hid (there_kb D hszA.symm)
  clear D D3 kN
  go_wp2_with (with_reducible refine wpList_store_mid rfl 36 _ _ rfl w.heap.size 0 (u8s l).toArray rfl rfl HT.out (sizeKey.trans (congrArg some hszA.symm)) (u8s_all _) ?_)
  refine leaves_cons (f := 102) (args := #[.pointer (some ⟨p, 0, none⟩)]) (by simp) (by simp [go_sem]) ?_
  refine (caught_idle p _).mono ?_
  rintro e u' w'' ⟨rfl, rfl, rfl⟩
  refine (show Leaves _ _ _ _ [] FrameMode.returning _ from ?_)
  unfold Leaves
  exact ⟨_, results_cell_row rfl _ _ w.heap.size 36 _ (0, 0) _ rfl HD3.out Try.underlying36 rfl (sizeKey.trans (congrArg some hszA.symm)), _, rfl, rfl, HR.out.1.keep HKN.out (by omega) (fun b h e => by have := hrow b h; omega), (Keep.after HBA.out HR.out.2).trans HKN.out (fun b h e => by omega)⟩
theorem readsKey_bad {w : World} {B p : Nat} {s : Value} {xs : List UInt8} {a : Nat} {er f : Nat} (F : Rd w B p s xs a 0 0) (k : Nat) (first cap : Array Value) (eK : Enters k)
    (hC : ∀ W, Below w.heap.size w W → Calls Try.prog k (first ++ #[.int .i64 a] ++ cap) W fun e w' => e = .panicked [{ v := wrongV er f, recovered := false }] ∧ ∃ a', RdTo (fun b => b = p) W w' B p s xs a') :
    Calls Try.prog 87 #[.pointer (some ⟨p, 0, none⟩), .func (.func k) first cap] w fun e w' => e = .returned (.agg (u8s (List.replicate 4 0)).toArray) ∧ ∃ a', Rd w' B p s xs a' er f ∧ Keep (fun b => b = p) w w' := by
  have bA : Below w.heap.size w (w.alloc (.cells #[.int .u8 0, .int .u8 0, .int .u8 0, .int .u8 0] 36)) := bl_alloc (Below.refl _ _) _
  have FA := F.below bA
  have hlt := kb_lt F.st
  have c := kb_cell FA.st
  have HA := Lib.hid (kb_new (w := w) rfl (.cells #[.int .u8 0, .int .u8 0, .int .u8 0, .int .u8 0] 36))
  have HC := Lib.hid (hC _ bA)
  have HBA := Lib.hid bA
  have eK' := eK
  unfold Enters at eK'
  clear F hC bA FA
  go_enter_defers Try.func87, Try.ntmps87
  go_wp2_with fail
  refine HC.out.mono ?_
  rintro e w1 ⟨rfl, a', hR⟩
  refine leaves_cons (f := 102) (args := #[.pointer (some ⟨p, 0, none⟩)]) (by simp) (by simp [go_sem]) ?_
  have D := hR.2.kb HA.out (by omega)
  refine (caught_wrong hR.1.st er f []).mono ?_
  rintro e u' w'' ⟨rfl, rfl, o, rfl⟩
  have h1 := hR.1.fault er f o
  have h2 := hR.2.fault er f o
  have D2 : (((w1.setCell ⟨p, 2, none⟩ (.int .i64 er)).setCell ⟨p, 3, none⟩ (.int .i64 f)).alloc o).heap[w.heap.size]? = some (.cells #[.int .u8 0, .int .u8 0, .int .u8 0, .int .u8 0] 36 (0, 0)) := kb_alloc (kb_far (kb_far D (by show w.heap.size ≠ p; omega) _) (by show w.heap.size ≠ p; omega) _) _
  refine (show Leaves _ _ _ _ [] FrameMode.returning _ from ?_)
  unfold Leaves
  exact ⟨_, results_cell_row rfl _ _ w.heap.size 36 _ (0, 0) _ rfl D2 Try.underlying36 rfl sizeKey, rfl, a', h1, Keep.after HBA.out h2⟩
theorem readsKey_not {w : World} {B p : Nat} {s : Value} {xs : List UInt8} {a : Nat} {er f : Int} (F : Rd w B p s xs a er f) (he : er ≠ 0) (fv : Value) :
    Calls Try.prog 87 #[.pointer (some ⟨p, 0, none⟩), fv] w fun e w' => e = .returned (.agg (u8s (List.replicate 4 0)).toArray) ∧ Below w.heap.size w w' := by
  have bA : Below w.heap.size w (w.alloc (.cells #[.int .u8 0, .int .u8 0, .int .u8 0, .int .u8 0] 36)) := bl_alloc (Below.refl _ _) _
  have c := kb_cell (F.below bA).st
  have hA := kb_new (w := w) rfl (.cells #[.int .u8 0, .int .u8 0, .int .u8 0, .int .u8 0] 36)
  have hne : (er != 0) = true := by simpa using he
  have hG : (w.alloc (.cells #[.int .u8 0, .int .u8 0, .int .u8 0, .int .u8 0] 36)).rangeAt w.heap.size 0 (u8s (List.replicate 4 0)) := range_of_kb (cs := u8s (List.replicate 4 0)) hA
  obtain ⟨zl, hz, hzl⟩ : ∃ zl : List UInt8, List.replicate 4 0 = zl ∧ zl.length = 4 := ⟨_, rfl, by simp⟩
  rw [hz] at hG ⊢
  have hszA : (u8s zl).toArray.size = 4 := by simpa [u8s_len] using hzl
  have hsz : (u8s zl).length = 4 := by simpa [u8s_len] using hzl
  have HG := Lib.hid hG
  have HT := Lib.hid (there_kb hA (show _ = (u8s zl).toArray.size by rw [hszA]; rfl))
  have HD := Lib.hid (setCells_kb (u8s zl) hA (by rw [hsz]; rfl))
  have HB := Lib.hid (bl_cells (g := w.heap.size) (u8s zl) (Nat.le_refl _) 0 bA)
  clear F bA hA hG hz
  go_enter_defers Try.func87, Try.ntmps87
  go_wp2_with (first
    | (with_reducible refine wpList_load_mid rfl 36 _ rfl w.heap.size 0 rfl (u8s zl) _ HG.out Try.underlying36 rfl (sizeKey.trans (congrArg some hsz.symm)) ?_)
    | (with_reducible refine wpList_store_mid rfl 36 _ _ rfl w.heap.size 0 (u8s zl).toArray rfl rfl HT.out (sizeKey.trans (congrArg some hszA.symm)) (u8s_all _) ?_))
  simp only [bodyPostD, Act.put, Leaves]
  exact ⟨_, results_cell_row rfl _ _ w.heap.size 36 _ (0, 0) _ rfl HD.out Try.underlying36 rfl (sizeKey.trans (congrArg some hszA.symm)), rfl, HB.out⟩
theorem readsKey_any {w : World} {B p : Nat} {s : Value} {xs : List UInt8} {a : Nat} (F : Rd w B p s xs a 0 0) (k : Nat) (first cap : Array Value) (eK : Enters k) {r : Rs (List UInt8)} (hr : ∀ l a', r = .ok l a' → l.length = 4)
    (hC : ∀ W, Below w.heap.size w W → Calls Try.prog k (first ++ #[.int .i64 a] ++ cap) W (Takes W B p s xs r fun l _ u => u = .agg (u8s l).toArray)) :
    Calls Try.prog 87 #[.pointer (some ⟨p, 0, none⟩), .func (.func k) first cap] w (Reads w B p s xs r (fun l _ u => u = .agg (u8s l).toArray) (.agg (u8s (List.replicate 4 0)).toArray)) := by
  cases r with
  | ok v a' => exact readsKey_ok (hr v a' rfl) F k first cap eK hC
  | bad er f => exact readsKey_bad F k first cap eK hC

theorem eKey1 : Enters 88 := fun _ _ => by kernel_rfl
set_option maxRecDepth 100000 in
set_option maxHeartbeats 1000000 in
theorem dKey_any {w : World} {B p : Nat} {s : Value} {xs : List UInt8} {st : St} (F : RdO w B p s xs st) :
    Calls Try.prog 36 #[.pointer (some ⟨p, 0, none⟩)] w (Did w B p s xs (step (fun a => takeP xs 4 a a id) (List.replicate 4 0) st) fun l _ u => u = .agg (u8s l).toArray) := by
  have hmf : ∀ (fn : Fn) (first cap : Array Value) (w : World), (Instr.makeFunc fn first cap).run Try.prog w = .ok (.func fn first cap) w := fun _ _ _ _ => rfl
  have HF := Lib.hid F
  have hlt := F.ltp
  have hrow : ∀ b, s.ownBlock = some b → b < w.heap.size := fun b h => (F.low b h).2
  have hbl : Below w.heap.size w ((w.alloc (.cells #[.pointer (some ⟨p, 0, none⟩)] 48)).alloc (.cells #[.int .u8 0, .int .u8 0, .int .u8 0, .int .u8 0] 36)) := by (repeat (with_reducible (first | exact Below.refl _ _ | assumption | refine bl_alloc ?_ _ | refine bl_drew ?_ | refine bl_drewN ?_ _ | (refine bl_set ?_ ?_ _; (focus (first | (simp; done) | (simp; omega) | omega))) | refine bl_then ?_ (by assumption))))
  have hb1 : BoxR ((w.alloc (.cells #[.pointer (some ⟨p, 0, none⟩)] 48)).alloc (.cells #[.int .u8 0, .int .u8 0, .int .u8 0, .int .u8 0] 36)) w.heap.size p := kb_alloc (kb_new rfl _) _
  have hD := kb_new (w := w.alloc (.cells #[.pointer (some ⟨p, 0, none⟩)] 48)) (b := w.heap.size + 1) (by simp) (.cells #[.int .u8 0, .int .u8 0, .int .u8 0, .int .u8 0] 36)
  have hsA : ((w.alloc (.cells #[.pointer (some ⟨p, 0, none⟩)] 48)).alloc (.cells #[.int .u8 0, .int .u8 0, .int .u8 0, .int .u8 0] 36)).heap.size = w.heap.size + 2 := by simp
  obtain ⟨zl, hz, hzl⟩ : ∃ zl : List UInt8, List.replicate 4 0 = zl ∧ zl.length = 4 := ⟨_, rfl, by simp⟩
  rw [hz]
  have HZ := Lib.hid hz
  clear hz
  cases st with
  | «at» a =>
    have F1 : Rd ((w.alloc (.cells #[.pointer (some ⟨p, 0, none⟩)] 48)).alloc (.cells #[.int .u8 0, .int .u8 0, .int .u8 0, .int .u8 0] 36)) B p s xs a 0 0 := (HF.out : Rd _ _ _ _ _ _ _ _).below hbl
    have HC := Lib.hid (readsKey_any F1 88 #[] #[.pointer (some ⟨w.heap.size, 0, none⟩)] eKey1 (r := takeP xs 4 a a id) (fun l a' h => takeP_len h) (fun W hW => Key1_any (F1.below hW) (kb_below hW hb1)))
    have HBL := Lib.hid hbl
    have HD0 := Lib.hid hD
    have cb := kb_cell hb1 0
    simp at cb
    clear F F1 hbl hD hb1
    go_enter Try.func36, Try.ntmps36
    go_wp2_with fail
    refine HC.out.mono ?_
    intro e w' h
    rw [HZ.out] at h
    have D := h.keep.kb HD0.out (by omega)
    have hD := Did.of (r := fun a => takeP xs 4 a a id) (z := zl) (V := fun l _ u => u = .agg (u8s l).toArray) HBL.out h (fun _ _ _ h => h) (fun _ => rfl) (fun _ _ => takeP_bad)
    have hL := step_len (xs := xs) hzl (.at a)
    clear h
    obtain ⟨r, hr⟩ : ∃ r, step (fun a => takeP xs 4 a a id) zl (.at a) = r := ⟨_, rfl⟩
    rw [hr] at hD hL
    obtain ⟨l, st'⟩ := r
    have HRR := Lib.hid hr
    clear hr
    obtain ⟨u, rfl, rfl, h2, h3⟩ := hD
    simp only at hL
    have hszA : (u8s l).toArray.size = 4 := by simpa [u8s_len] using hL
    have hsz : (u8s l).length = 4 := by simpa [u8s_len] using hL
    have HT := Lib.hid (there_kb D (show _ = (u8s l).toArray.size by rw [hszA]; rfl))
    have HD := Lib.hid (setCells_kb (u8s l) D (by rw [hsz]; rfl))
    have HKN := Lib.hid (keep_cells (u8s l) (g := w.heap.size + 1) 0 (Keep.refl (fun b => b = w.heap.size + 1) w') (fun _ => rfl))
    have H2 := Lib.hid h2
    have H3 := Lib.hid h3
    clear h2 h3 D
    go_wp2_with (with_reducible refine wpList_store_mid rfl 36 _ _ rfl (w.heap.size + 1) 0 (u8s l).toArray rfl rfl HT.out (sizeKey.trans (congrArg some hszA.symm)) (u8s_all _) ?_)
    refine bodyPost_ret (results_cell_row rfl _ _ (w.heap.size + 1) 36 _ (0, 0) _ rfl HD.out Try.underlying36 rfl (sizeKey.trans (congrArg some hszA.symm))) rfl ?_
    rw [HRR.out]
    exact ⟨_, rfl, rfl, H2.out.keep HKN.out (by omega) (fun b h e => by have := hrow b h; omega), H3.out.trans HKN.out (fun b h e => by omega)⟩
  | bad er f =>
    have hF := F
    obtain ⟨he, a, hF⟩ := hF
    have HC := Lib.hid (readsKey_not (hF.below hbl) (by omega) (.func (.func 88) #[] #[.pointer (some ⟨w.heap.size, 0, none⟩)]))
    have HBL := Lib.hid hbl
    have HD0 := Lib.hid hD
    have hszA : (u8s zl).toArray.size = 4 := by simpa [u8s_len] using hzl
    have hsz : (u8s zl).length = 4 := by simpa [u8s_len] using hzl
    have cb := kb_cell hb1 0
    simp at cb
    clear F hF hbl hD hb1
    go_enter Try.func36, Try.ntmps36
    go_wp2_with fail
    refine HC.out.mono ?_
    rintro e w' ⟨rfl, hb⟩
    rw [HZ.out]
    have D := kb_below hb HD0.out
    have HT := Lib.hid (there_kb D (show _ = (u8s zl).toArray.size by rw [hszA]; rfl))
    have HD := Lib.hid (setCells_kb (u8s zl) D (by rw [hsz]; rfl))
    have HKN := Lib.hid (keep_cells (u8s zl) (g := w.heap.size + 1) 0 (Keep.refl (fun b => b = w.heap.size + 1) w') (fun _ => rfl))
    have HB2 := Lib.hid (bl_then HBL.out hb)
    clear D hb
    go_wp2_with (with_reducible refine wpList_store_mid rfl 36 _ _ rfl (w.heap.size + 1) 0 (u8s zl).toArray rfl rfl HT.out (sizeKey.trans (congrArg some hszA.symm)) (u8s_all _) ?_)
    refine bodyPost_ret (results_cell_row rfl _ _ (w.heap.size + 1) 36 _ (0, 0) _ rfl HD.out Try.underlying36 rfl (sizeKey.trans (congrArg some hszA.symm))) rfl ?_
    exact ⟨_, rfl, rfl, (HF.out.below HB2.out).keep HKN.out (by omega) (fun b h e => by have := hrow b h; omega), (Keep.of_below HB2.out).trans HKN.out (fun b h e => by omega)⟩
end Go.Proofs.Ytajlcodlaalomaa
