/- back: a thing is read back. Printed by wip/backs.py. -/
import Derived.Test.YtajlcodlaalomaaWireL
import Derived.Test.YtajlcodlaalomaaBytesEq
namespace Go.Proofs.Ytajlcodlaalomaa
open Go.RowKit Go.Proofs.Ytajlcodlaalomaa.Wi Go.Proofs.Ytajlcodlaalomaa.Pc
attribute [local go_sem] cell_alloc_some frozen_alloc_some
set_option linter.unusedSimpArgs false
set_option linter.unusedVariables false
theorem Keep.kb_new {S : Nat → Prop} {w w1 : World} {b : Nat} {o : Obj} (h : Keep S w w1) (hb : w.heap[b]? = some o) (_ : True) (hn : ¬ S b) : w1.heap[b]? = some o := h.kb hb hn
theorem bool_int (a b : Int) : (a == b) = decide (a = b) := by rw [Bool.eq_iff_iff]; simp

set_option maxRecDepth 100000 in
set_option maxHeartbeats 2000000 in
theorem bk0_any {w : World} {B p : Nat} {s : Value} {xs : List UInt8} {st : St} {v : Value} {x : Th} (hx : x.Fine) (hv : ∀ W, Keep (fun b => b = p) w W → BytesOf W v x.b) (F : RdO w B p s xs st) (hk : x.kind = 0) :
    Calls Try.prog 38 #[.pointer (some ⟨p, 0, none⟩), .agg (x.cells v).toArray] w fun e w' => e = .returned (.bool (backS xs x st).1) ∧ RdO w' B p s xs (backS xs x st).2 ∧ Keep (fun b => b = p) w w' := by
  have hlt := F.ltp
  have b1 : Below w.heap.size w (w.alloc (.cells (x.cells v).toArray 39)).drew := by (repeat (with_reducible (first | exact Below.refl _ _ | assumption | refine bl_alloc ?_ _ | refine bl_drew ?_ | refine bl_drewN ?_ _ | (refine bl_set ?_ ?_ _; (focus (first | (simp; done) | (simp; omega) | omega))) | refine bl_then ?_ (by assumption))))
  have F1 := F.below b1
  have D := kb_drew (kb_new (w := w) rfl (.cells (x.cells v).toArray 39))
  have C := kb_cell (kb_new (w := w) rfl (.cells (x.cells v).toArray 39))
  have C' := kb_cell D
  have c0 := (C 0).trans (arr_get (Th.c0 x v))
  rw [hk] at c0
  have cc := (C' 1).trans (arr_get (Th.c1 x v))
  have CG := Lib.hid (arr_get (Th.c1 x v))
  rw [back_0 hk]
  obtain ⟨q, hq⟩ : ∃ q, step (numP xs) 0 st = q := ⟨_, rfl⟩
  have HC := dNum_any F1
  rw [hq] at HC ⊢
  have HC := Lib.hid HC
  have HD := Lib.hid D
  have HB1 := Lib.hid b1
  have HV := Lib.hid hv
  obtain ⟨A, cp, rfl⟩ := (hv w (Keep.refl _ _)).form
  clear b1 F1 C C' D hv F hq
  generalize (x.cells (.slice A x.b.length cp)).toArray = T at *
  go_enter Try.func38, Try.ntmps38
  go_wp2
  refine wp_region_held_drew (S := (fun W : World => W.cell? ⟨w.heap.size, 1, none⟩ = some (.int .i64 x.n))) (by kernel_rfl) (cc) (fun hHeld => ?_)
  refine wpAnyH_take (i := 0) (oi := { dst := some 11, op := _, type := _, pos := _, after := _, guard := _ }) (v := ?_) rfl (by kernel_rfl) (by kernel_rfl) (by kernel_rfl) (fun _ _ _ h => h) (Or.inl ⟨by rfl, ?_⟩) hHeld ?_
  rotate_left
  · (intro w hSw; (try dsimp only at hSw); go_simp); all_goals with_reducible rfl
  try simp only [Act.put, List.setIfInBounds_toArray, List.set_cons_zero, List.set_cons_succ]
  refine wpAnyH_take (i := 2) (oi := { dst := some 13, op := _, type := _, pos := _, after := _, guard := _ }) (v := ?_) rfl (by kernel_rfl) (by kernel_rfl) (by kernel_rfl) (fun _ _ _ h => h) (Or.inl ⟨by rfl, ?_⟩) hHeld ?_
  rotate_left
  · (intro w hSw; (try dsimp only at hSw); go_simp); all_goals with_reducible rfl
  try simp only [Act.put, List.setIfInBounds_toArray, List.set_cons_zero, List.set_cons_succ]
  refine wpAnyH_take (i := 3) (oi := { dst := some 14, op := _, type := _, pos := _, after := _, guard := _ }) (v := ?_) rfl (by kernel_rfl) (by kernel_rfl) (by kernel_rfl) (fun _ _ _ h => h) (Or.inl ⟨by rfl, ?_⟩) hHeld ?_
  rotate_left
  · (intro w hSw; (try dsimp only at hSw); go_simp); all_goals with_reducible rfl
  try simp only [Act.put, List.setIfInBounds_toArray, List.set_cons_zero, List.set_cons_succ]
  refine wpAnyH_ready (rs := [1]) (by kernel_rfl) (by simp) (AllReadyH.cons (o := _) rfl (fun K hK => ?_) AllReadyH.nil)
  go_simp
  refine HC.out.mono ?_
  rintro e w' ⟨u, rfl, rfl, h2, h3⟩
  have D2 := h3.kb_new HD.out (by simp) (by omega)
  have hK3 := Keep.after HB1.out h3
  have H2 := Lib.hid h2
  have H3 := Lib.hid hK3
  refine hK.out _ _ ((kb_cell D2 1).trans CG.out) (fun hHeld => ?_)
  clear h2 h3 hK3
  try simp only [Act.put, List.setIfInBounds_toArray, List.set_cons_zero, List.set_cons_succ]
  refine wpAnyH_take (i := 4) (oi := { dst := some 15, op := _, type := _, pos := _, after := _, guard := _ }) (v := ?_) rfl (by kernel_rfl) (by kernel_rfl) (by kernel_rfl) (fun _ _ _ h => h) (Or.inl ⟨by rfl, ?_⟩) hHeld ?_
  rotate_left
  · (intro w hSw; (try dsimp only at hSw); go_simp); all_goals with_reducible rfl
  try simp only [Act.put, List.setIfInBounds_toArray, List.set_cons_zero, List.set_cons_succ]
  refine wpAnyH_take (i := 5) (oi := { dst := some 4, op := _, type := _, pos := _, after := _, guard := _ }) (v := ?_) rfl (by kernel_rfl) (by kernel_rfl) (by kernel_rfl) (fun _ _ _ h => h) (Or.inl ⟨by rfl, ?_⟩) hHeld ?_
  rotate_left
  · (intro w hSw; (try dsimp only at hSw); go_simp); all_goals with_reducible rfl
  try simp only [Act.put, List.setIfInBounds_toArray, List.set_cons_zero, List.set_cons_succ]
  refine wpAnyH_done (by kernel_rfl) ?_ _
  go_wp2
  go_ret
  exact ⟨ret_bool (bool_int _ _), H2.out, H3.out⟩

set_option maxRecDepth 100000 in
set_option maxHeartbeats 2000000 in
theorem bk5_any {w : World} {B p : Nat} {s : Value} {xs : List UInt8} {st : St} {v : Value} {x : Th} (hx : x.Fine) (hv : ∀ W, Keep (fun b => b = p) w W → BytesOf W v x.b) (F : RdO w B p s xs st) (hk : x.kind = 5) :
    Calls Try.prog 38 #[.pointer (some ⟨p, 0, none⟩), .agg (x.cells v).toArray] w fun e w' => e = .returned (.bool (backS xs x st).1) ∧ RdO w' B p s xs (backS xs x st).2 ∧ Keep (fun b => b = p) w w' := by
  have hlt := F.ltp
  have b1 : Below w.heap.size w (w.alloc (.cells (x.cells v).toArray 39)).drew := by (repeat (with_reducible (first | exact Below.refl _ _ | assumption | refine bl_alloc ?_ _ | refine bl_drew ?_ | refine bl_drewN ?_ _ | (refine bl_set ?_ ?_ _; (focus (first | (simp; done) | (simp; omega) | omega))) | refine bl_then ?_ (by assumption))))
  have F1 := F.below b1
  have D := kb_drew (kb_new (w := w) rfl (.cells (x.cells v).toArray 39))
  have C := kb_cell (kb_new (w := w) rfl (.cells (x.cells v).toArray 39))
  have C' := kb_cell D
  have c0 := (C 0).trans (arr_get (Th.c0 x v))
  rw [hk] at c0
  have cc := (C' 39).trans (arr_get (Th.c39 hx v))
  have CG := Lib.hid (arr_get (Th.c39 hx v))
  rw [back_5 hk]
  obtain ⟨q, hq⟩ : ∃ q, step (fun a => takeP xs 8 a a bigL) 0 st = q := ⟨_, rfl⟩
  have HC := dWord_any F1
  rw [hq] at HC ⊢
  have HC := Lib.hid HC
  have HD := Lib.hid D
  have HB1 := Lib.hid b1
  have HV := Lib.hid hv
  obtain ⟨A, cp, rfl⟩ := (hv w (Keep.refl _ _)).form
  clear b1 F1 C C' D hv F hq
  generalize (x.cells (.slice A x.b.length cp)).toArray = T at *
  go_enter Try.func38, Try.ntmps38
  go_wp2
  refine wp_region_held_drew (S := (fun W : World => W.cell? ⟨w.heap.size, 39, none⟩ = some (.int .u64 x.wd))) (by kernel_rfl) (cc) (fun hHeld => ?_)
  refine wpAnyH_take (i := 0) (oi := { dst := some 53, op := _, type := _, pos := _, after := _, guard := _ }) (v := ?_) rfl (by kernel_rfl) (by kernel_rfl) (by kernel_rfl) (fun _ _ _ h => h) (Or.inl ⟨by rfl, ?_⟩) hHeld ?_
  rotate_left
  · (intro w hSw; (try dsimp only at hSw); go_simp); all_goals with_reducible rfl
  try simp only [Act.put, List.setIfInBounds_toArray, List.set_cons_zero, List.set_cons_succ]
  refine wpAnyH_take (i := 2) (oi := { dst := some 55, op := _, type := _, pos := _, after := _, guard := _ }) (v := ?_) rfl (by kernel_rfl) (by kernel_rfl) (by kernel_rfl) (fun _ _ _ h => h) (Or.inl ⟨by rfl, ?_⟩) hHeld ?_
  rotate_left
  · (intro w hSw; (try dsimp only at hSw); go_simp); all_goals with_reducible rfl
  try simp only [Act.put, List.setIfInBounds_toArray, List.set_cons_zero, List.set_cons_succ]
  refine wpAnyH_take (i := 3) (oi := { dst := some 56, op := _, type := _, pos := _, after := _, guard := _ }) (v := ?_) rfl (by kernel_rfl) (by kernel_rfl) (by kernel_rfl) (fun _ _ _ h => h) (Or.inl ⟨by rfl, ?_⟩) hHeld ?_
  rotate_left
  · (intro w hSw; (try dsimp only at hSw); go_simp); all_goals with_reducible rfl
  try simp only [Act.put, List.setIfInBounds_toArray, List.set_cons_zero, List.set_cons_succ]
  refine wpAnyH_ready (rs := [1]) (by kernel_rfl) (by simp) (AllReadyH.cons (o := _) rfl (fun K hK => ?_) AllReadyH.nil)
  go_simp
  refine HC.out.mono ?_
  rintro e w' ⟨u, rfl, rfl, h2, h3⟩
  have D2 := h3.kb_new HD.out (by simp) (by omega)
  have hK3 := Keep.after HB1.out h3
  have H2 := Lib.hid h2
  have H3 := Lib.hid hK3
  refine hK.out _ _ ((kb_cell D2 39).trans CG.out) (fun hHeld => ?_)
  clear h2 h3 hK3
  try simp only [Act.put, List.setIfInBounds_toArray, List.set_cons_zero, List.set_cons_succ]
  refine wpAnyH_take (i := 4) (oi := { dst := some 57, op := _, type := _, pos := _, after := _, guard := _ }) (v := ?_) rfl (by kernel_rfl) (by kernel_rfl) (by kernel_rfl) (fun _ _ _ h => h) (Or.inl ⟨by rfl, ?_⟩) hHeld ?_
  rotate_left
  · (intro w hSw; (try dsimp only at hSw); go_simp); all_goals with_reducible rfl
  try simp only [Act.put, List.setIfInBounds_toArray, List.set_cons_zero, List.set_cons_succ]
  refine wpAnyH_take (i := 5) (oi := { dst := some 4, op := _, type := _, pos := _, after := _, guard := _ }) (v := ?_) rfl (by kernel_rfl) (by kernel_rfl) (by kernel_rfl) (fun _ _ _ h => h) (Or.inl ⟨by rfl, ?_⟩) hHeld ?_
  rotate_left
  · (intro w hSw; (try dsimp only at hSw); go_simp); all_goals with_reducible rfl
  try simp only [Act.put, List.setIfInBounds_toArray, List.set_cons_zero, List.set_cons_succ]
  refine wpAnyH_done (by kernel_rfl) ?_ _
  go_wp2
  go_ret
  exact ⟨ret_bool (by rw [Bool.eq_iff_iff]; simp; omega), H2.out, H3.out⟩

set_option maxRecDepth 100000 in
set_option maxHeartbeats 2000000 in
theorem bk7_any {w : World} {B p : Nat} {s : Value} {xs : List UInt8} {st : St} {v : Value} {x : Th} (hx : x.Fine) (hv : ∀ W, Keep (fun b => b = p) w W → BytesOf W v x.b) (F : RdO w B p s xs st) (hk : x.kind = 7) :
    Calls Try.prog 38 #[.pointer (some ⟨p, 0, none⟩), .agg (x.cells v).toArray] w fun e w' => e = .returned (.bool (backS xs x st).1) ∧ RdO w' B p s xs (backS xs x st).2 ∧ Keep (fun b => b = p) w w' := by
  have hlt := F.ltp
  have b1 : Below w.heap.size w (w.alloc (.cells (x.cells v).toArray 39)).drew := by (repeat (with_reducible (first | exact Below.refl _ _ | assumption | refine bl_alloc ?_ _ | refine bl_drew ?_ | refine bl_drewN ?_ _ | (refine bl_set ?_ ?_ _; (focus (first | (simp; done) | (simp; omega) | omega))) | refine bl_then ?_ (by assumption))))
  have F1 := F.below b1
  have D := kb_drew (kb_new (w := w) rfl (.cells (x.cells v).toArray 39))
  have C := kb_cell (kb_new (w := w) rfl (.cells (x.cells v).toArray 39))
  have C' := kb_cell D
  have c0 := (C 0).trans (arr_get (Th.c0 x v))
  rw [hk] at c0
  have cc := (C' 40).trans (arr_get (Th.c40 hx v))
  have CG := Lib.hid (arr_get (Th.c40 hx v))
  rw [back_7 hk]
  obtain ⟨q, hq⟩ : ∃ q, step (boolP xs) false st = q := ⟨_, rfl⟩
  have HC := dBool_any F1
  rw [hq] at HC ⊢
  have HC := Lib.hid HC
  have HD := Lib.hid D
  have HB1 := Lib.hid b1
  have HV := Lib.hid hv
  obtain ⟨A, cp, rfl⟩ := (hv w (Keep.refl _ _)).form
  clear b1 F1 C C' D hv F hq
  generalize (x.cells (.slice A x.b.length cp)).toArray = T at *
  go_enter Try.func38, Try.ntmps38
  go_wp2
  refine wp_region_held_drew (S := (fun W : World => W.cell? ⟨w.heap.size, 40, none⟩ = some (.bool x.is))) (by kernel_rfl) (cc) (fun hHeld => ?_)
  refine wpAnyH_take (i := 0) (oi := { dst := some 82, op := _, type := _, pos := _, after := _, guard := _ }) (v := ?_) rfl (by kernel_rfl) (by kernel_rfl) (by kernel_rfl) (fun _ _ _ h => h) (Or.inl ⟨by rfl, ?_⟩) hHeld ?_
  rotate_left
  · (intro w hSw; (try dsimp only at hSw); go_simp); all_goals with_reducible rfl
  try simp only [Act.put, List.setIfInBounds_toArray, List.set_cons_zero, List.set_cons_succ]
  refine wpAnyH_take (i := 2) (oi := { dst := some 84, op := _, type := _, pos := _, after := _, guard := _ }) (v := ?_) rfl (by kernel_rfl) (by kernel_rfl) (by kernel_rfl) (fun _ _ _ h => h) (Or.inl ⟨by rfl, ?_⟩) hHeld ?_
  rotate_left
  · (intro w hSw; (try dsimp only at hSw); go_simp); all_goals with_reducible rfl
  try simp only [Act.put, List.setIfInBounds_toArray, List.set_cons_zero, List.set_cons_succ]
  refine wpAnyH_take (i := 3) (oi := { dst := some 85, op := _, type := _, pos := _, after := _, guard := _ }) (v := ?_) rfl (by kernel_rfl) (by kernel_rfl) (by kernel_rfl) (fun _ _ _ h => h) (Or.inl ⟨by rfl, ?_⟩) hHeld ?_
  rotate_left
  · (intro w hSw; (try dsimp only at hSw); go_simp); all_goals with_reducible rfl
  try simp only [Act.put, List.setIfInBounds_toArray, List.set_cons_zero, List.set_cons_succ]
  refine wpAnyH_ready (rs := [1]) (by kernel_rfl) (by simp) (AllReadyH.cons (o := _) rfl (fun K hK => ?_) AllReadyH.nil)
  go_simp
  refine HC.out.mono ?_
  rintro e w' ⟨u, rfl, rfl, h2, h3⟩
  have D2 := h3.kb_new HD.out (by simp) (by omega)
  have hK3 := Keep.after HB1.out h3
  have H2 := Lib.hid h2
  have H3 := Lib.hid hK3
  refine hK.out _ _ ((kb_cell D2 40).trans CG.out) (fun hHeld => ?_)
  clear h2 h3 hK3
  try simp only [Act.put, List.setIfInBounds_toArray, List.set_cons_zero, List.set_cons_succ]
  refine wpAnyH_take (i := 4) (oi := { dst := some 86, op := _, type := _, pos := _, after := _, guard := _ }) (v := ?_) rfl (by kernel_rfl) (by kernel_rfl) (by kernel_rfl) (fun _ _ _ h => h) (Or.inl ⟨by rfl, ?_⟩) hHeld ?_
  rotate_left
  · (intro w hSw; (try dsimp only at hSw); go_simp); all_goals with_reducible rfl
  try simp only [Act.put, List.setIfInBounds_toArray, List.set_cons_zero, List.set_cons_succ]
  refine wpAnyH_take (i := 5) (oi := { dst := some 4, op := _, type := _, pos := _, after := _, guard := _ }) (v := ?_) rfl (by kernel_rfl) (by kernel_rfl) (by kernel_rfl) (fun _ _ _ h => h) (Or.inl ⟨by rfl, ?_⟩) hHeld ?_
  rotate_left
  · (intro w hSw; (try dsimp only at hSw); go_simp); all_goals with_reducible rfl
  try simp only [Act.put, List.setIfInBounds_toArray, List.set_cons_zero, List.set_cons_succ]
  refine wpAnyH_done (by kernel_rfl) ?_ _
  go_wp2
  go_ret
  exact ⟨ret_bool (rfl), H2.out, H3.out⟩

set_option maxRecDepth 100000 in
set_option maxHeartbeats 2000000 in
theorem bk3_any {w : World} {B p : Nat} {s : Value} {xs : List UInt8} {st : St} {v : Value} {x : Th} (hx : x.Fine) (hv : ∀ W, Keep (fun b => b = p) w W → BytesOf W v x.b) (F : RdO w B p s xs st) (hk : x.kind = 3) :
    Calls Try.prog 38 #[.pointer (some ⟨p, 0, none⟩), .agg (x.cells v).toArray] w fun e w' => e = .returned (.bool (backS xs x st).1) ∧ RdO w' B p s xs (backS xs x st).2 ∧ Keep (fun b => b = p) w w' := by
  have hlt := F.ltp
  have b1 : Below w.heap.size w (w.alloc (.cells (x.cells v).toArray 39)).drew := by (repeat (with_reducible (first | exact Below.refl _ _ | assumption | refine bl_alloc ?_ _ | refine bl_drew ?_ | refine bl_drewN ?_ _ | (refine bl_set ?_ ?_ _; (focus (first | (simp; done) | (simp; omega) | omega))) | refine bl_then ?_ (by assumption))))
  have F1 := F.below b1
  have D := kb_drew (kb_new (w := w) rfl (.cells (x.cells v).toArray 39))
  have C := kb_cell (kb_new (w := w) rfl (.cells (x.cells v).toArray 39))
  have C' := kb_cell D
  have c0 := (C 0).trans (arr_get (Th.c0 x v))
  rw [hk] at c0
  have cc := (range_of_kb D : (w.alloc (.cells (x.cells v).toArray 39)).drew.rangeAt w.heap.size 0 (x.cells v))
  have hch := fun (j : Nat) (u : Value) (h : (u8s x.h)[j]? = some u) => arr_get (Th.ch hx v j u h)
  have CG := Lib.hid hch
  have rr : (w.alloc (.cells (x.cells v).toArray 39)).drew.rangeAt w.heap.size 3 (u8s x.h) := fun j u h => (C' _).trans (hch j u h)
  have hl := hx.h
  have hsz : (u8s x.h).length = 32 := by rw [u8s_len, hl]
  clear cc hch
  rw [back_3 hk]
  obtain ⟨q, hq⟩ : ∃ q, step (fun a => takeP xs 32 a a id) (List.replicate 32 0) st = q := ⟨_, rfl⟩
  have HC := dHash_any F1
  rw [hq] at HC ⊢
  have HC := Lib.hid HC
  have hql : q.1.length = 32 := by rw [← hq]; exact step_len (by simp) st
  have heq := fun W => run_eql_bytes Try.underlying34 q.1 x.h hql hl W
  have HD := Lib.hid D
  have HB1 := Lib.hid b1
  have HV := Lib.hid hv
  obtain ⟨A, cp, rfl⟩ := (hv w (Keep.refl _ _)).form
  clear b1 F1 C C' D hv F hq
  generalize (x.cells (.slice A x.b.length cp)).toArray = T at *
  go_enter Try.func38, Try.ntmps38
  go_wp2
  refine wp_region_held_drew (S := (fun W : World => W.rangeAt w.heap.size 3 (u8s x.h))) (by kernel_rfl) (rr) (fun hHeld => ?_)
  refine wpAnyH_take (i := 0) (oi := { dst := some 39, op := _, type := _, pos := _, after := _, guard := _ }) (v := ?_) rfl (by kernel_rfl) (by kernel_rfl) (by kernel_rfl) (fun _ _ _ h => h) (Or.inl ⟨by rfl, ?_⟩) hHeld ?_
  rotate_left
  · (intro w hSw; (try dsimp only at hSw); go_simp); all_goals with_reducible rfl
  try simp only [Act.put, List.setIfInBounds_toArray, List.set_cons_zero, List.set_cons_succ]
  refine wpAnyH_take (i := 2) (oi := { dst := some 41, op := _, type := _, pos := _, after := _, guard := _ }) (v := ?_) rfl (by kernel_rfl) (by kernel_rfl) (by kernel_rfl) (fun _ _ _ h => h) (Or.inl ⟨by rfl, ?_⟩) hHeld ?_
  rotate_left
  · (intro w hSw; (try dsimp only at hSw); go_simp); all_goals with_reducible rfl
  try simp only [Act.put, List.setIfInBounds_toArray, List.set_cons_zero, List.set_cons_succ]
  refine wpAnyH_take (i := 3) (oi := { dst := some 42, op := _, type := _, pos := _, after := _, guard := _ }) (v := _) rfl (by kernel_rfl) (by kernel_rfl) (by kernel_rfl) (fun _ _ _ h => h) (yieldsIf_load_mid (by rfl) 34 _ rfl w.heap.size 3 rfl (u8s x.h) _ (fun _ h => h) Try.underlying34 rfl (sizeHash.trans (congrArg some hsz.symm))) hHeld ?_
  try simp only [Act.put, List.setIfInBounds_toArray, List.set_cons_zero, List.set_cons_succ]
  refine wpAnyH_ready (rs := [1]) (by kernel_rfl) (by simp) (AllReadyH.cons (o := _) rfl (fun K hK => ?_) AllReadyH.nil)
  go_simp
  refine HC.out.mono ?_
  rintro e w' ⟨u, rfl, rfl, h2, h3⟩
  have D2 := h3.kb_new HD.out (by simp) (by omega)
  have hK3 := Keep.after HB1.out h3
  have H2 := Lib.hid h2
  have H3 := Lib.hid hK3
  refine hK.out _ _ (fun j u h => (kb_cell D2 _).trans (CG.out j u h)) (fun hHeld => ?_)
  clear h2 h3 hK3
  try simp only [Act.put, List.setIfInBounds_toArray, List.set_cons_zero, List.set_cons_succ]
  refine wpAnyH_take (i := 4) (oi := { dst := some 43, op := _, type := _, pos := _, after := _, guard := _ }) (v := ?_) rfl (by kernel_rfl) (by kernel_rfl) (by kernel_rfl) (fun _ _ _ h => h) (Or.inl ⟨by rfl, ?_⟩) hHeld ?_
  rotate_left
  · (intro w hSw; (try dsimp only at hSw); go_simp); all_goals with_reducible rfl
  try simp only [Act.put, List.setIfInBounds_toArray, List.set_cons_zero, List.set_cons_succ]
  refine wpAnyH_take (i := 5) (oi := { dst := some 4, op := _, type := _, pos := _, after := _, guard := _ }) (v := ?_) rfl (by kernel_rfl) (by kernel_rfl) (by kernel_rfl) (fun _ _ _ h => h) (Or.inl ⟨by rfl, ?_⟩) hHeld ?_
  rotate_left
  · (intro w hSw; (try dsimp only at hSw); go_simp); all_goals with_reducible rfl
  try simp only [Act.put, List.setIfInBounds_toArray, List.set_cons_zero, List.set_cons_succ]
  refine wpAnyH_done (by kernel_rfl) ?_ _
  go_wp2
  go_ret
  exact ⟨ret_bool (rfl), H2.out, H3.out⟩

set_option maxRecDepth 100000 in
set_option maxHeartbeats 2000000 in
theorem bk4_any {w : World} {B p : Nat} {s : Value} {xs : List UInt8} {st : St} {v : Value} {x : Th} (hx : x.Fine) (hv : ∀ W, Keep (fun b => b = p) w W → BytesOf W v x.b) (F : RdO w B p s xs st) (hk : x.kind = 4) :
    Calls Try.prog 38 #[.pointer (some ⟨p, 0, none⟩), .agg (x.cells v).toArray] w fun e w' => e = .returned (.bool (backS xs x st).1) ∧ RdO w' B p s xs (backS xs x st).2 ∧ Keep (fun b => b = p) w w' := by
  have hlt := F.ltp
  have b1 : Below w.heap.size w (w.alloc (.cells (x.cells v).toArray 39)).drew := by (repeat (with_reducible (first | exact Below.refl _ _ | assumption | refine bl_alloc ?_ _ | refine bl_drew ?_ | refine bl_drewN ?_ _ | (refine bl_set ?_ ?_ _; (focus (first | (simp; done) | (simp; omega) | omega))) | refine bl_then ?_ (by assumption))))
  have F1 := F.below b1
  have D := kb_drew (kb_new (w := w) rfl (.cells (x.cells v).toArray 39))
  have C := kb_cell (kb_new (w := w) rfl (.cells (x.cells v).toArray 39))
  have C' := kb_cell D
  have c0 := (C 0).trans (arr_get (Th.c0 x v))
  rw [hk] at c0
  have cc := (range_of_kb D : (w.alloc (.cells (x.cells v).toArray 39)).drew.rangeAt w.heap.size 0 (x.cells v))
  have hch := fun (j : Nat) (u : Value) (h : (u8s x.k)[j]? = some u) => arr_get (Th.ck hx v j u h)
  have CG := Lib.hid hch
  have rr : (w.alloc (.cells (x.cells v).toArray 39)).drew.rangeAt w.heap.size 35 (u8s x.k) := fun j u h => (C' _).trans (hch j u h)
  have hl := hx.k
  have hsz : (u8s x.k).length = 4 := by rw [u8s_len, hl]
  clear cc hch
  rw [back_4 hk]
  obtain ⟨q, hq⟩ : ∃ q, step (fun a => takeP xs 4 a a id) (List.replicate 4 0) st = q := ⟨_, rfl⟩
  have HC := dKey_any F1
  rw [hq] at HC ⊢
  have HC := Lib.hid HC
  have hql : q.1.length = 4 := by rw [← hq]; exact step_len (by simp) st
  have heq := fun W => run_eql_bytes Try.underlying36 q.1 x.k hql hl W
  have HD := Lib.hid D
  have HB1 := Lib.hid b1
  have HV := Lib.hid hv
  obtain ⟨A, cp, rfl⟩ := (hv w (Keep.refl _ _)).form
  clear b1 F1 C C' D hv F hq
  generalize (x.cells (.slice A x.b.length cp)).toArray = T at *
  go_enter Try.func38, Try.ntmps38
  go_wp2
  refine wp_region_held_drew (S := (fun W : World => W.rangeAt w.heap.size 35 (u8s x.k))) (by kernel_rfl) (rr) (fun hHeld => ?_)
  refine wpAnyH_take (i := 0) (oi := { dst := some 46, op := _, type := _, pos := _, after := _, guard := _ }) (v := ?_) rfl (by kernel_rfl) (by kernel_rfl) (by kernel_rfl) (fun _ _ _ h => h) (Or.inl ⟨by rfl, ?_⟩) hHeld ?_
  rotate_left
  · (intro w hSw; (try dsimp only at hSw); go_simp); all_goals with_reducible rfl
  try simp only [Act.put, List.setIfInBounds_toArray, List.set_cons_zero, List.set_cons_succ]
  refine wpAnyH_take (i := 2) (oi := { dst := some 48, op := _, type := _, pos := _, after := _, guard := _ }) (v := ?_) rfl (by kernel_rfl) (by kernel_rfl) (by kernel_rfl) (fun _ _ _ h => h) (Or.inl ⟨by rfl, ?_⟩) hHeld ?_
  rotate_left
  · (intro w hSw; (try dsimp only at hSw); go_simp); all_goals with_reducible rfl
  try simp only [Act.put, List.setIfInBounds_toArray, List.set_cons_zero, List.set_cons_succ]
  refine wpAnyH_take (i := 3) (oi := { dst := some 49, op := _, type := _, pos := _, after := _, guard := _ }) (v := _) rfl (by kernel_rfl) (by kernel_rfl) (by kernel_rfl) (fun _ _ _ h => h) (yieldsIf_load_mid (by rfl) 36 _ rfl w.heap.size 35 rfl (u8s x.k) _ (fun _ h => h) Try.underlying36 rfl (sizeKey.trans (congrArg some hsz.symm))) hHeld ?_
  try simp only [Act.put, List.setIfInBounds_toArray, List.set_cons_zero, List.set_cons_succ]
  refine wpAnyH_ready (rs := [1]) (by kernel_rfl) (by simp) (AllReadyH.cons (o := _) rfl (fun K hK => ?_) AllReadyH.nil)
  go_simp
  refine HC.out.mono ?_
  rintro e w' ⟨u, rfl, rfl, h2, h3⟩
  have D2 := h3.kb_new HD.out (by simp) (by omega)
  have hK3 := Keep.after HB1.out h3
  have H2 := Lib.hid h2
  have H3 := Lib.hid hK3
  refine hK.out _ _ (fun j u h => (kb_cell D2 _).trans (CG.out j u h)) (fun hHeld => ?_)
  clear h2 h3 hK3
  try simp only [Act.put, List.setIfInBounds_toArray, List.set_cons_zero, List.set_cons_succ]
  refine wpAnyH_take (i := 4) (oi := { dst := some 50, op := _, type := _, pos := _, after := _, guard := _ }) (v := ?_) rfl (by kernel_rfl) (by kernel_rfl) (by kernel_rfl) (fun _ _ _ h => h) (Or.inl ⟨by rfl, ?_⟩) hHeld ?_
  rotate_left
  · (intro w hSw; (try dsimp only at hSw); go_simp); all_goals with_reducible rfl
  try simp only [Act.put, List.setIfInBounds_toArray, List.set_cons_zero, List.set_cons_succ]
  refine wpAnyH_take (i := 5) (oi := { dst := some 4, op := _, type := _, pos := _, after := _, guard := _ }) (v := ?_) rfl (by kernel_rfl) (by kernel_rfl) (by kernel_rfl) (fun _ _ _ h => h) (Or.inl ⟨by rfl, ?_⟩) hHeld ?_
  rotate_left
  · (intro w hSw; (try dsimp only at hSw); go_simp); all_goals with_reducible rfl
  try simp only [Act.put, List.setIfInBounds_toArray, List.set_cons_zero, List.set_cons_succ]
  refine wpAnyH_done (by kernel_rfl) ?_ _
  go_wp2
  go_ret
  exact ⟨ret_bool (rfl), H2.out, H3.out⟩

set_option maxRecDepth 100000 in
set_option maxHeartbeats 2000000 in
theorem bk1_any {w : World} {B p : Nat} {s : Value} {xs : List UInt8} {st : St} {v : Value} {x : Th} (hx : x.Fine) (hv : ∀ W, Keep (fun b => b = p) w W → BytesOf W v x.b) (F : RdO w B p s xs st) (hk : x.kind = 1) :
    Calls Try.prog 38 #[.pointer (some ⟨p, 0, none⟩), .agg (x.cells v).toArray] w fun e w' => e = .returned (.bool (backS xs x st).1) ∧ RdO w' B p s xs (backS xs x st).2 ∧ Keep (fun b => b = p) w w' := by
  have hlt := F.ltp
  have b1 : Below w.heap.size w (w.alloc (.cells (x.cells v).toArray 39)).drew := by (repeat (with_reducible (first | exact Below.refl _ _ | assumption | refine bl_alloc ?_ _ | refine bl_drew ?_ | refine bl_drewN ?_ _ | (refine bl_set ?_ ?_ _; (focus (first | (simp; done) | (simp; omega) | omega))) | refine bl_then ?_ (by assumption))))
  have F1 := F.below b1
  have D := kb_drew (kb_new (w := w) rfl (.cells (x.cells v).toArray 39))
  have C := kb_cell (kb_new (w := w) rfl (.cells (x.cells v).toArray 39))
  have C' := kb_cell D
  have c0 := (C 0).trans (arr_get (Th.c0 x v))
  rw [hk] at c0
  have cc := (C' 2).trans (arr_get (Th.c2 x v))
  have CG := Lib.hid (arr_get (Th.c2 x v))
  have hcv := run_conv (hv _ (Keep.of_below b1))
  rw [back_1 (.inl hk)]
  obtain ⟨q, hq⟩ : ∃ q, step (bytesP xs x.b.length) [] st = q := ⟨_, rfl⟩
  have HC := dText_any x.b.length F1
  rw [hq] at HC ⊢
  have HC := Lib.hid HC
  have HD := Lib.hid D
  have HB1 := Lib.hid b1
  have HV := Lib.hid hv
  obtain ⟨A, cp, rfl⟩ := (hv w (Keep.refl _ _)).form
  clear b1 F1 C C' D hv F hq
  generalize (x.cells (.slice A x.b.length cp)).toArray = T at *
  go_enter Try.func38, Try.ntmps38
  go_wp2
  refine wp_region_held_drew (S := (fun W : World => W.cell? ⟨w.heap.size, 2, none⟩ = some (.slice A x.b.length cp) ∧ (convert 32 9 (.slice A x.b.length cp)).run Try.prog W = .ok (.string (strB x.b)) W)) (by kernel_rfl) (⟨cc, hcv⟩) (fun hHeld => ?_)
  refine wpAnyH_take (i := 0) (oi := { dst := some 18, op := _, type := _, pos := _, after := _, guard := _ }) (v := ?_) rfl (by kernel_rfl) (by kernel_rfl) (by kernel_rfl) (fun _ _ _ h => h) (Or.inl ⟨by rfl, ?_⟩) hHeld ?_
  rotate_left
  · (intro w hSw; (try dsimp only at hSw); go_simp); all_goals with_reducible rfl
  try simp only [Act.put, List.setIfInBounds_toArray, List.set_cons_zero, List.set_cons_succ]
  refine wpAnyH_take (i := 1) (oi := { dst := some 19, op := _, type := _, pos := _, after := _, guard := _ }) (v := ?_) rfl (by kernel_rfl) (by kernel_rfl) (by kernel_rfl) (fun _ _ _ h => h) (Or.inl ⟨by rfl, ?_⟩) hHeld ?_
  rotate_left
  · (intro w hSw; (try dsimp only at hSw); go_simp); all_goals with_reducible rfl
  try simp only [Act.put, List.setIfInBounds_toArray, List.set_cons_zero, List.set_cons_succ]
  refine wpAnyH_take (i := 2) (oi := { dst := some 20, op := _, type := _, pos := _, after := _, guard := _ }) (v := ?_) rfl (by kernel_rfl) (by kernel_rfl) (by kernel_rfl) (fun _ _ _ h => h) (Or.inl ⟨by rfl, ?_⟩) hHeld ?_
  rotate_left
  · (intro w hSw; (try dsimp only at hSw); go_simp); all_goals with_reducible rfl
  try simp only [Act.put, List.setIfInBounds_toArray, List.set_cons_zero, List.set_cons_succ]
  refine wpAnyH_take (i := 3) (oi := { dst := some 21, op := _, type := _, pos := _, after := _, guard := _ }) (v := ?_) rfl (by kernel_rfl) (by kernel_rfl) (by kernel_rfl) (fun _ _ _ h => h) (Or.inl ⟨by rfl, ?_⟩) hHeld ?_
  rotate_left
  · (intro w hSw; (try dsimp only at hSw); go_simp); all_goals with_reducible rfl
  try simp only [Act.put, List.setIfInBounds_toArray, List.set_cons_zero, List.set_cons_succ]
  refine wpAnyH_take (i := 5) (oi := { dst := some 23, op := _, type := _, pos := _, after := _, guard := _ }) (v := ?_) rfl (by kernel_rfl) (by kernel_rfl) (by kernel_rfl) (fun _ _ _ h => h) (Or.inl ⟨by rfl, ?_⟩) hHeld ?_
  rotate_left
  · (intro w hSw; (try dsimp only at hSw); go_simp); all_goals with_reducible rfl
  try simp only [Act.put, List.setIfInBounds_toArray, List.set_cons_zero, List.set_cons_succ]
  refine wpAnyH_take (i := 6) (oi := { dst := some 24, op := _, type := _, pos := _, after := _, guard := _ }) (v := ?_) rfl (by kernel_rfl) (by kernel_rfl) (by kernel_rfl) (fun _ _ _ h => h) (Or.inl ⟨by rfl, ?_⟩) hHeld ?_
  rotate_left
  · (intro w hSw; (try dsimp only at hSw); go_simp); all_goals with_reducible rfl
  try simp only [Act.put, List.setIfInBounds_toArray, List.set_cons_zero, List.set_cons_succ]
  refine wpAnyH_take (i := 7) (oi := { dst := some 25, op := _, type := _, pos := _, after := _, guard := _ }) (v := ?_) rfl (by kernel_rfl) (by kernel_rfl) (by kernel_rfl) (fun _ _ _ h => h) (Or.inl ⟨by rfl, ?_⟩) hHeld ?_
  rotate_left
  · (intro w hSw; (try dsimp only at hSw); go_simp); all_goals with_reducible rfl
  try simp only [Act.put, List.setIfInBounds_toArray, List.set_cons_zero, List.set_cons_succ]
  refine wpAnyH_ready (rs := [4]) (by kernel_rfl) (by simp) (AllReadyH.cons (o := _) rfl (fun K hK => ?_) AllReadyH.nil)
  go_simp
  refine HC.out.mono ?_
  rintro e w' ⟨u, rfl, rfl, h2, h3⟩
  have D2 := h3.kb_new HD.out (by simp) (by omega)
  have hK3 := Keep.after HB1.out h3
  have H2 := Lib.hid h2
  have H3 := Lib.hid hK3
  refine hK.out _ _ (⟨(kb_cell D2 2).trans CG.out, run_conv (HV.out _ H3.out)⟩) (fun hHeld => ?_)
  clear h2 h3 hK3
  try simp only [Act.put, List.setIfInBounds_toArray, List.set_cons_zero, List.set_cons_succ]
  refine wpAnyH_take (i := 8) (oi := { dst := some 26, op := _, type := _, pos := _, after := _, guard := _ }) (v := ?_) rfl (by kernel_rfl) (by kernel_rfl) (by kernel_rfl) (fun _ _ _ h => h) (Or.inl ⟨by rfl, ?_⟩) hHeld ?_
  rotate_left
  · (intro w hSw; (try dsimp only at hSw); go_simp); all_goals with_reducible rfl
  try simp only [Act.put, List.setIfInBounds_toArray, List.set_cons_zero, List.set_cons_succ]
  refine wpAnyH_take (i := 9) (oi := { dst := some 4, op := _, type := _, pos := _, after := _, guard := _ }) (v := ?_) rfl (by kernel_rfl) (by kernel_rfl) (by kernel_rfl) (fun _ _ _ h => h) (Or.inl ⟨by rfl, ?_⟩) hHeld ?_
  rotate_left
  · (intro w hSw; (try dsimp only at hSw); go_simp); all_goals with_reducible rfl
  try simp only [Act.put, List.setIfInBounds_toArray, List.set_cons_zero, List.set_cons_succ]
  refine wpAnyH_done (by kernel_rfl) ?_ _
  go_wp2
  go_ret
  exact ⟨ret_bool (strB_eq _ _), H2.out, H3.out⟩

set_option maxRecDepth 100000 in
set_option maxHeartbeats 2000000 in
theorem bk2_any {w : World} {B p : Nat} {s : Value} {xs : List UInt8} {st : St} {v : Value} {x : Th} (hx : x.Fine) (hv : ∀ W, Keep (fun b => b = p) w W → BytesOf W v x.b) (F : RdO w B p s xs st) (hk : x.kind = 2) :
    Calls Try.prog 38 #[.pointer (some ⟨p, 0, none⟩), .agg (x.cells v).toArray] w fun e w' => e = .returned (.bool (backS xs x st).1) ∧ RdO w' B p s xs (backS xs x st).2 ∧ Keep (fun b => b = p) w w' := by
  have hlt := F.ltp
  have b1 : Below w.heap.size w (w.alloc (.cells (x.cells v).toArray 39)).drew := by (repeat (with_reducible (first | exact Below.refl _ _ | assumption | refine bl_alloc ?_ _ | refine bl_drew ?_ | refine bl_drewN ?_ _ | (refine bl_set ?_ ?_ _; (focus (first | (simp; done) | (simp; omega) | omega))) | refine bl_then ?_ (by assumption))))
  have F1 := F.below b1
  have D := kb_drew (kb_new (w := w) rfl (.cells (x.cells v).toArray 39))
  have C := kb_cell (kb_new (w := w) rfl (.cells (x.cells v).toArray 39))
  have C' := kb_cell D
  have c0 := (C 0).trans (arr_get (Th.c0 x v))
  rw [hk] at c0
  have cc := (C' 2).trans (arr_get (Th.c2 x v))
  have CG := Lib.hid (arr_get (Th.c2 x v))
  rw [back_1 (.inr hk)]
  obtain ⟨q, hq⟩ : ∃ q, step (bytesP xs x.b.length) [] st = q := ⟨_, rfl⟩
  have HC := dBytes_any x.b.length F1
  rw [hq] at HC ⊢
  have HC := Lib.hid HC
  have HD := Lib.hid D
  have HB1 := Lib.hid b1
  have HV := Lib.hid hv
  obtain ⟨A, cp, rfl⟩ := (hv w (Keep.refl _ _)).form
  clear b1 F1 C C' D hv F hq
  generalize (x.cells (.slice A x.b.length cp)).toArray = T at *
  go_enter Try.func38, Try.ntmps38
  go_wp2
  refine wp_region_held_drew (S := (fun W : World => W.cell? ⟨w.heap.size, 2, none⟩ = some (.slice A x.b.length cp))) (by kernel_rfl) (cc) (fun hHeld => ?_)
  refine wpAnyH_take (i := 0) (oi := { dst := some 29, op := _, type := _, pos := _, after := _, guard := _ }) (v := ?_) rfl (by kernel_rfl) (by kernel_rfl) (by kernel_rfl) (fun _ _ _ h => h) (Or.inl ⟨by rfl, ?_⟩) hHeld ?_
  rotate_left
  · (intro w hSw; (try dsimp only at hSw); go_simp); all_goals with_reducible rfl
  try simp only [Act.put, List.setIfInBounds_toArray, List.set_cons_zero, List.set_cons_succ]
  refine wpAnyH_take (i := 1) (oi := { dst := some 30, op := _, type := _, pos := _, after := _, guard := _ }) (v := ?_) rfl (by kernel_rfl) (by kernel_rfl) (by kernel_rfl) (fun _ _ _ h => h) (Or.inl ⟨by rfl, ?_⟩) hHeld ?_
  rotate_left
  · (intro w hSw; (try dsimp only at hSw); go_simp); all_goals with_reducible rfl
  try simp only [Act.put, List.setIfInBounds_toArray, List.set_cons_zero, List.set_cons_succ]
  refine wpAnyH_take (i := 2) (oi := { dst := some 31, op := _, type := _, pos := _, after := _, guard := _ }) (v := ?_) rfl (by kernel_rfl) (by kernel_rfl) (by kernel_rfl) (fun _ _ _ h => h) (Or.inl ⟨by rfl, ?_⟩) hHeld ?_
  rotate_left
  · (intro w hSw; (try dsimp only at hSw); go_simp); all_goals with_reducible rfl
  try simp only [Act.put, List.setIfInBounds_toArray, List.set_cons_zero, List.set_cons_succ]
  refine wpAnyH_take (i := 3) (oi := { dst := some 32, op := _, type := _, pos := _, after := _, guard := _ }) (v := ?_) rfl (by kernel_rfl) (by kernel_rfl) (by kernel_rfl) (fun _ _ _ h => h) (Or.inl ⟨by rfl, ?_⟩) hHeld ?_
  rotate_left
  · (intro w hSw; (try dsimp only at hSw); go_simp); all_goals with_reducible rfl
  try simp only [Act.put, List.setIfInBounds_toArray, List.set_cons_zero, List.set_cons_succ]
  refine wpAnyH_take (i := 5) (oi := { dst := some 34, op := _, type := _, pos := _, after := _, guard := _ }) (v := ?_) rfl (by kernel_rfl) (by kernel_rfl) (by kernel_rfl) (fun _ _ _ h => h) (Or.inl ⟨by rfl, ?_⟩) hHeld ?_
  rotate_left
  · (intro w hSw; (try dsimp only at hSw); go_simp); all_goals with_reducible rfl
  try simp only [Act.put, List.setIfInBounds_toArray, List.set_cons_zero, List.set_cons_succ]
  refine wpAnyH_take (i := 6) (oi := { dst := some 35, op := _, type := _, pos := _, after := _, guard := _ }) (v := ?_) rfl (by kernel_rfl) (by kernel_rfl) (by kernel_rfl) (fun _ _ _ h => h) (Or.inl ⟨by rfl, ?_⟩) hHeld ?_
  rotate_left
  · (intro w hSw; (try dsimp only at hSw); go_simp); all_goals with_reducible rfl
  try simp only [Act.put, List.setIfInBounds_toArray, List.set_cons_zero, List.set_cons_succ]
  refine wpAnyH_ready (rs := [4]) (by kernel_rfl) (by simp) (AllReadyH.cons (o := _) rfl (fun K hK => ?_) AllReadyH.nil)
  go_simp
  refine HC.out.mono ?_
  rintro e w' ⟨u, rfl, h1, h2, h3⟩
  have D2 := h3.kb_new HD.out (by simp) (by omega)
  have hK3 := Keep.after HB1.out h3
  have H2 := Lib.hid h2
  have H3 := Lib.hid hK3
  refine hK.out _ _ ((kb_cell D2 2).trans CG.out) (fun hHeld => ?_)
  clear h2 h3 hK3
  obtain ⟨A1, c1, rfl⟩ := (RowOf.of_own h1).form
  try simp only [Act.put, List.setIfInBounds_toArray, List.set_cons_zero, List.set_cons_succ]
  refine wpAnyH_ready (rs := [7]) (by kernel_rfl) (by simp) (AllReadyH.cons (o := _) rfl (fun K hK => ?_) AllReadyH.nil)
  go_simp
  refine (SameBytes_any (RowOf.of_own h1) (HV.out _ H3.out)).mono ?_
  rintro e w'' ⟨rfl, rfl⟩
  refine hK.out _ _ ((kb_cell D2 2).trans CG.out) (fun hHeld => ?_)
  try simp only [Act.put, List.setIfInBounds_toArray, List.set_cons_zero, List.set_cons_succ]
  refine wpAnyH_take (i := 8) (oi := { dst := some 4, op := _, type := _, pos := _, after := _, guard := _ }) (v := ?_) rfl (by kernel_rfl) (by kernel_rfl) (by kernel_rfl) (fun _ _ _ h => h) (Or.inl ⟨by rfl, ?_⟩) hHeld ?_
  rotate_left
  · (intro w hSw; (try dsimp only at hSw); go_simp); all_goals with_reducible rfl
  try simp only [Act.put, List.setIfInBounds_toArray, List.set_cons_zero, List.set_cons_succ]
  refine wpAnyH_done (by kernel_rfl) ?_ _
  go_wp2
  go_ret
  exact ⟨ret_bool (rfl), H2.out, H3.out⟩

set_option maxRecDepth 100000 in
set_option maxHeartbeats 2000000 in
theorem bk6_0 {w : World} {B p : Nat} {s : Value} {xs : List UInt8} {st : St} {v : Value} {x : Th} (hx : x.Fine) (hv : ∀ W, Keep (fun b => b = p) w W → BytesOf W v x.b) (F : RdO w B p s xs st) (hk : x.kind = 6) (h1 : ∀ q1, (step (paceP xs) 0 st).1 = q1 → (q1 == x.wd) = true) :
    Calls Try.prog 38 #[.pointer (some ⟨p, 0, none⟩), .agg (x.cells v).toArray] w fun e w' => e = .returned (.bool (backS xs x st).1) ∧ RdO w' B p s xs (backS xs x st).2 ∧ Keep (fun b => b = p) w w' := by
  have hlt := F.ltp
  have b1 : Below w.heap.size w (w.alloc (.cells (x.cells v).toArray 39)).drew := by (repeat (with_reducible (first | exact Below.refl _ _ | assumption | refine bl_alloc ?_ _ | refine bl_drew ?_ | refine bl_drewN ?_ _ | (refine bl_set ?_ ?_ _; (focus (first | (simp; done) | (simp; omega) | omega))) | refine bl_then ?_ (by assumption))))
  have F1 := F.below b1
  have D := kb_drew (kb_new (w := w) rfl (.cells (x.cells v).toArray 39))
  have C := kb_cell (kb_new (w := w) rfl (.cells (x.cells v).toArray 39))
  have C' := kb_cell D
  have c0 := (C 0).trans (arr_get (Th.c0 x v))
  rw [hk] at c0
  have cc := (C' 39).trans (arr_get (Th.c39 hx v))
  have CG := Lib.hid (arr_get (Th.c39 hx v))
  have hr := fun W => run_from (x.wd : Int) W
  simp only [Int.toNat_natCast] at hr
  rw [back_6 hk]
  obtain ⟨q, hq⟩ : ∃ q, step (paceP xs) 0 st = q := ⟨_, rfl⟩
  have HC := dPace_any F1
  rw [hq] at HC ⊢
  have HC := Lib.hid HC
  obtain ⟨q1, q2⟩ := q
  have hrb := fun W => run_bits q1 W
  have h1 := h1 q1 (by rw [hq])
  have H1 := Lib.hid h1
  have he1 : ((q1 : Int) == (x.wd : Int)) = true := by rw [← H1.out, Bool.eq_iff_iff]; simp; omega
  have he2 : (q1 == x.wd) = true := H1.out
  clear h1
  have HD := Lib.hid D
  have HB1 := Lib.hid b1
  have HV := Lib.hid hv
  obtain ⟨A, cp, rfl⟩ := (hv w (Keep.refl _ _)).form
  clear b1 F1 C C' D hv F hq
  generalize (x.cells (.slice A x.b.length cp)).toArray = T at *
  go_enter Try.func38, Try.ntmps38
  go_wp2
  refine wp_region_held_drew (S := (fun W : World => W.cell? ⟨w.heap.size, 39, none⟩ = some (.int .u64 x.wd))) (by kernel_rfl) (cc) (fun hHeld => ?_)
  refine wpAnyH_take (i := 0) (oi := { dst := some 60, op := _, type := _, pos := _, after := _, guard := _ }) (v := ?_) rfl (by kernel_rfl) (by kernel_rfl) (by kernel_rfl) (fun _ _ _ h => h) (Or.inl ⟨by rfl, ?_⟩) hHeld ?_
  rotate_left
  · (intro w hSw; (try dsimp only at hSw); go_simp); all_goals with_reducible rfl
  try simp only [Act.put, List.setIfInBounds_toArray, List.set_cons_zero, List.set_cons_succ]
  refine wpAnyH_take (i := 2) (oi := { dst := some 62, op := _, type := _, pos := _, after := _, guard := _ }) (v := ?_) rfl (by kernel_rfl) (by kernel_rfl) (by kernel_rfl) (fun _ _ _ h => h) (Or.inl ⟨by rfl, ?_⟩) hHeld ?_
  rotate_left
  · (intro w hSw; (try dsimp only at hSw); go_simp); all_goals with_reducible rfl
  try simp only [Act.put, List.setIfInBounds_toArray, List.set_cons_zero, List.set_cons_succ]
  refine wpAnyH_take (i := 3) (oi := { dst := some 63, op := _, type := _, pos := _, after := _, guard := _ }) (v := ?_) rfl (by kernel_rfl) (by kernel_rfl) (by kernel_rfl) (fun _ _ _ h => h) (Or.inl ⟨by rfl, ?_⟩) hHeld ?_
  rotate_left
  · (intro w hSw; (try dsimp only at hSw); go_simp); all_goals with_reducible rfl
  try simp only [Act.put, List.setIfInBounds_toArray, List.set_cons_zero, List.set_cons_succ]
  refine wpAnyH_ready (rs := [1]) (by kernel_rfl) (by simp) (AllReadyH.cons (o := _) rfl (fun K hK => ?_) AllReadyH.nil)
  go_simp
  refine HC.out.mono ?_
  rintro e w' ⟨u, rfl, rfl, h2, h3⟩
  have D2 := h3.kb_new HD.out (by simp) (by omega)
  have hK3 := Keep.after HB1.out h3
  have d2 := (kb_cell D2 39).trans CG.out
  have d3 : w'.drew.cell? ⟨w.heap.size, 39, none⟩ = some (.int .u64 x.wd) := d2
  have H2 := Lib.hid (h2.below (bl_drew (Below.refl _ _)))
  have H3 := Lib.hid (hK3.then_below (bl_drew (Below.refl _ _)))
  refine hK.out _ _ d2 (fun hHeld => ?_)
  clear h2 h3 hK3 D2
  try simp only [Act.put, List.setIfInBounds_toArray, List.set_cons_zero, List.set_cons_succ]
  refine wpAnyH_ready (rs := [4]) (by kernel_rfl) (by simp) (AllReadyH.cons (o := _) rfl (fun K hK => ?_) AllReadyH.nil)
  go_simp
  refine hK.out _ _ d2 (fun hHeld => ?_)
  try simp only [Act.put, List.setIfInBounds_toArray, List.set_cons_zero, List.set_cons_succ]
  refine wpAnyH_take (i := 5) (oi := { dst := some 5, op := _, type := _, pos := _, after := _, guard := _ }) (v := ?_) rfl (by kernel_rfl) (by kernel_rfl) (by kernel_rfl) (fun _ _ _ h => h) (Or.inl ⟨by rfl, ?_⟩) hHeld ?_
  rotate_left
  · (intro w hSw; (try dsimp only at hSw); go_simp); all_goals with_reducible rfl
  try simp only [Act.put, List.setIfInBounds_toArray, List.set_cons_zero, List.set_cons_succ]
  refine wpAnyH_take (i := 6) (oi := { dst := some 6, op := _, type := _, pos := _, after := _, guard := _ }) (v := ?_) rfl (by kernel_rfl) (by kernel_rfl) (by kernel_rfl) (fun _ _ _ h => h) (Or.inl ⟨by rfl, ?_⟩) hHeld ?_
  rotate_left
  · (intro w hSw; (try dsimp only at hSw); go_simp); all_goals with_reducible rfl
  try simp only [Act.put, List.setIfInBounds_toArray, List.set_cons_zero, List.set_cons_succ]
  refine wpAnyH_done (by kernel_rfl) ?_ _
  clear hHeld hK
  go_wp2
  refine wp_region_held_drew (S := (fun W : World => W.cell? ⟨w.heap.size, 39, none⟩ = some (.int .u64 x.wd))) (by kernel_rfl) (d3) (fun hHeld => ?_)
  refine wpAnyH_take (i := 0) (oi := { dst := some 65, op := _, type := _, pos := _, after := _, guard := _ }) (v := ?_) rfl (by kernel_rfl) (by kernel_rfl) (by kernel_rfl) (fun _ _ _ h => h) (Or.inl ⟨by rfl, ?_⟩) hHeld ?_
  rotate_left
  · (intro w hSw; (try dsimp only at hSw); go_simp); all_goals with_reducible rfl
  try simp only [Act.put, List.setIfInBounds_toArray, List.set_cons_zero, List.set_cons_succ]
  refine wpAnyH_take (i := 2) (oi := { dst := some 67, op := _, type := _, pos := _, after := _, guard := _ }) (v := ?_) rfl (by kernel_rfl) (by kernel_rfl) (by kernel_rfl) (fun _ _ _ h => h) (Or.inl ⟨by rfl, ?_⟩) hHeld ?_
  rotate_left
  · (intro w hSw; (try dsimp only at hSw); go_simp); all_goals with_reducible rfl
  try simp only [Act.put, List.setIfInBounds_toArray, List.set_cons_zero, List.set_cons_succ]
  refine wpAnyH_take (i := 3) (oi := { dst := some 68, op := _, type := _, pos := _, after := _, guard := _ }) (v := ?_) rfl (by kernel_rfl) (by kernel_rfl) (by kernel_rfl) (fun _ _ _ h => h) (Or.inl ⟨by rfl, ?_⟩) hHeld ?_
  rotate_left
  · (intro w hSw; (try dsimp only at hSw); go_simp); all_goals with_reducible rfl
  try simp only [Act.put, List.setIfInBounds_toArray, List.set_cons_zero, List.set_cons_succ]
  refine wpAnyH_ready (rs := [1]) (by kernel_rfl) (by simp) (AllReadyH.cons (o := _) rfl (fun K hK => ?_) AllReadyH.nil)
  go_simp
  refine hK.out _ _ d3 (fun hHeld => ?_)
  try simp only [Act.put, List.setIfInBounds_toArray, List.set_cons_zero, List.set_cons_succ]
  refine wpAnyH_take (i := 4) (oi := { dst := some 69, op := _, type := _, pos := _, after := _, guard := _ }) (v := ?_) rfl (by kernel_rfl) (by kernel_rfl) (by kernel_rfl) (fun _ _ _ h => h) (Or.inl ⟨by rfl, ?_⟩) hHeld ?_
  rotate_left
  · (intro w hSw; (try dsimp only at hSw); go_simp); all_goals with_reducible rfl
  try simp only [Act.put, List.setIfInBounds_toArray, List.set_cons_zero, List.set_cons_succ]
  refine wpAnyH_take (i := 5) (oi := { dst := some 70, op := _, type := _, pos := _, after := _, guard := _ }) (v := ?_) rfl (by kernel_rfl) (by kernel_rfl) (by kernel_rfl) (fun _ _ _ h => h) (Or.inl ⟨by rfl, ?_⟩) hHeld ?_
  rotate_left
  · (intro w hSw; (try dsimp only at hSw); go_simp); all_goals with_reducible rfl
  try simp only [Act.put, List.setIfInBounds_toArray, List.set_cons_zero, List.set_cons_succ]
  refine wpAnyH_take (i := 6) (oi := { dst := some 71, op := _, type := _, pos := _, after := _, guard := _ }) (v := undef) rfl (by kernel_rfl) (by kernel_rfl) (by kernel_rfl) (fun _ _ _ h => h) (Or.inr ⟨by rfl, rfl⟩) hHeld ?_
  try simp only [Act.put, List.setIfInBounds_toArray, List.set_cons_zero, List.set_cons_succ]
  refine wpAnyH_take (i := 7) (oi := { dst := some 72, op := _, type := _, pos := _, after := _, guard := _ }) (v := undef) rfl (by kernel_rfl) (by kernel_rfl) (by kernel_rfl) (fun _ _ _ h => h) (Or.inr ⟨by rfl, rfl⟩) hHeld ?_
  try simp only [Act.put, List.setIfInBounds_toArray, List.set_cons_zero, List.set_cons_succ]
  refine wpAnyH_take (i := 8) (oi := { dst := some 73, op := _, type := _, pos := _, after := _, guard := _ }) (v := undef) rfl (by kernel_rfl) (by kernel_rfl) (by kernel_rfl) (fun _ _ _ h => h) (Or.inr ⟨by rfl, rfl⟩) hHeld ?_
  try simp only [Act.put, List.setIfInBounds_toArray, List.set_cons_zero, List.set_cons_succ]
  refine wpAnyH_take (i := 9) (oi := { dst := some 74, op := _, type := _, pos := _, after := _, guard := _ }) (v := undef) rfl (by kernel_rfl) (by kernel_rfl) (by kernel_rfl) (fun _ _ _ h => h) (Or.inr ⟨by rfl, rfl⟩) hHeld ?_
  try simp only [Act.put, List.setIfInBounds_toArray, List.set_cons_zero, List.set_cons_succ]
  refine wpAnyH_take (i := 10) (oi := { dst := some 75, op := _, type := _, pos := _, after := _, guard := _ }) (v := undef) rfl (by kernel_rfl) (by kernel_rfl) (by kernel_rfl) (fun _ _ _ h => h) (Or.inr ⟨by rfl, rfl⟩) hHeld ?_
  try simp only [Act.put, List.setIfInBounds_toArray, List.set_cons_zero, List.set_cons_succ]
  refine wpAnyH_take (i := 11) (oi := { dst := some 76, op := _, type := _, pos := _, after := _, guard := _ }) (v := undef) rfl (by kernel_rfl) (by kernel_rfl) (by kernel_rfl) (fun _ _ _ h => h) (Or.inr ⟨by rfl, rfl⟩) hHeld ?_
  try simp only [Act.put, List.setIfInBounds_toArray, List.set_cons_zero, List.set_cons_succ]
  refine wpAnyH_take (i := 12) (oi := { dst := some 77, op := _, type := _, pos := _, after := _, guard := _ }) (v := undef) rfl (by kernel_rfl) (by kernel_rfl) (by kernel_rfl) (fun _ _ _ h => h) (Or.inr ⟨by rfl, rfl⟩) hHeld ?_
  try simp only [Act.put, List.setIfInBounds_toArray, List.set_cons_zero, List.set_cons_succ]
  refine wpAnyH_take (i := 13) (oi := { dst := some 78, op := _, type := _, pos := _, after := _, guard := _ }) (v := undef) rfl (by kernel_rfl) (by kernel_rfl) (by kernel_rfl) (fun _ _ _ h => h) (Or.inr ⟨by rfl, rfl⟩) hHeld ?_
  try simp only [Act.put, List.setIfInBounds_toArray, List.set_cons_zero, List.set_cons_succ]
  refine wpAnyH_take (i := 14) (oi := { dst := some 79, op := _, type := _, pos := _, after := _, guard := _ }) (v := ?_) rfl (by kernel_rfl) (by kernel_rfl) (by kernel_rfl) (fun _ _ _ h => h) (Or.inl ⟨by rfl, ?_⟩) hHeld ?_
  rotate_left
  · (intro w hSw; (try dsimp only at hSw); go_simp); all_goals with_reducible rfl
  try simp only [Act.put, List.setIfInBounds_toArray, List.set_cons_zero, List.set_cons_succ]
  refine wpAnyH_take (i := 15) (oi := { dst := some 4, op := _, type := _, pos := _, after := _, guard := _ }) (v := ?_) rfl (by kernel_rfl) (by kernel_rfl) (by kernel_rfl) (fun _ _ _ h => h) (Or.inl ⟨by rfl, ?_⟩) hHeld ?_
  rotate_left
  · (intro w hSw; (try dsimp only at hSw); go_simp); all_goals with_reducible rfl
  try simp only [Act.put, List.setIfInBounds_toArray, List.set_cons_zero, List.set_cons_succ]
  refine wpAnyH_done (by kernel_rfl) ?_ _
  go_wp2
  go_ret
  exact ⟨ret_bool (by simp [H1.out]), H2.out, H3.out⟩

set_option maxRecDepth 100000 in
set_option maxHeartbeats 2000000 in
theorem bk6_1 {w : World} {B p : Nat} {s : Value} {xs : List UInt8} {st : St} {v : Value} {x : Th} (hx : x.Fine) (hv : ∀ W, Keep (fun b => b = p) w W → BytesOf W v x.b) (F : RdO w B p s xs st) (hk : x.kind = 6) (h1 : ∀ q1, (step (paceP xs) 0 st).1 = q1 → (q1 == x.wd) = false ∧ nanB q1 = false) :
    Calls Try.prog 38 #[.pointer (some ⟨p, 0, none⟩), .agg (x.cells v).toArray] w fun e w' => e = .returned (.bool (backS xs x st).1) ∧ RdO w' B p s xs (backS xs x st).2 ∧ Keep (fun b => b = p) w w' := by
  have hlt := F.ltp
  have b1 : Below w.heap.size w (w.alloc (.cells (x.cells v).toArray 39)).drew := by (repeat (with_reducible (first | exact Below.refl _ _ | assumption | refine bl_alloc ?_ _ | refine bl_drew ?_ | refine bl_drewN ?_ _ | (refine bl_set ?_ ?_ _; (focus (first | (simp; done) | (simp; omega) | omega))) | refine bl_then ?_ (by assumption))))
  have F1 := F.below b1
  have D := kb_drew (kb_new (w := w) rfl (.cells (x.cells v).toArray 39))
  have C := kb_cell (kb_new (w := w) rfl (.cells (x.cells v).toArray 39))
  have C' := kb_cell D
  have c0 := (C 0).trans (arr_get (Th.c0 x v))
  rw [hk] at c0
  have cc := (C' 39).trans (arr_get (Th.c39 hx v))
  have CG := Lib.hid (arr_get (Th.c39 hx v))
  have hr := fun W => run_from (x.wd : Int) W
  simp only [Int.toNat_natCast] at hr
  rw [back_6 hk]
  obtain ⟨q, hq⟩ : ∃ q, step (paceP xs) 0 st = q := ⟨_, rfl⟩
  have HC := dPace_any F1
  rw [hq] at HC ⊢
  have HC := Lib.hid HC
  obtain ⟨q1, q2⟩ := q
  have hrb := fun W => run_bits q1 W
  have h1 := h1 q1 (by rw [hq])
  have H1 := Lib.hid h1
  have he1 : ((q1 : Int) == (x.wd : Int)) = false := by rw [← H1.out.1, Bool.eq_iff_iff]; simp; omega
  have he2 : (q1 == x.wd) = false := H1.out.1
  have hn1 : (FloatKind.f64.format.order q1 q1 != some .eq) = false := H1.out.2
  clear h1
  have HD := Lib.hid D
  have HB1 := Lib.hid b1
  have HV := Lib.hid hv
  obtain ⟨A, cp, rfl⟩ := (hv w (Keep.refl _ _)).form
  clear b1 F1 C C' D hv F hq
  generalize (x.cells (.slice A x.b.length cp)).toArray = T at *
  go_enter Try.func38, Try.ntmps38
  go_wp2
  refine wp_region_held_drew (S := (fun W : World => W.cell? ⟨w.heap.size, 39, none⟩ = some (.int .u64 x.wd))) (by kernel_rfl) (cc) (fun hHeld => ?_)
  refine wpAnyH_take (i := 0) (oi := { dst := some 60, op := _, type := _, pos := _, after := _, guard := _ }) (v := ?_) rfl (by kernel_rfl) (by kernel_rfl) (by kernel_rfl) (fun _ _ _ h => h) (Or.inl ⟨by rfl, ?_⟩) hHeld ?_
  rotate_left
  · (intro w hSw; (try dsimp only at hSw); go_simp); all_goals with_reducible rfl
  try simp only [Act.put, List.setIfInBounds_toArray, List.set_cons_zero, List.set_cons_succ]
  refine wpAnyH_take (i := 2) (oi := { dst := some 62, op := _, type := _, pos := _, after := _, guard := _ }) (v := ?_) rfl (by kernel_rfl) (by kernel_rfl) (by kernel_rfl) (fun _ _ _ h => h) (Or.inl ⟨by rfl, ?_⟩) hHeld ?_
  rotate_left
  · (intro w hSw; (try dsimp only at hSw); go_simp); all_goals with_reducible rfl
  try simp only [Act.put, List.setIfInBounds_toArray, List.set_cons_zero, List.set_cons_succ]
  refine wpAnyH_take (i := 3) (oi := { dst := some 63, op := _, type := _, pos := _, after := _, guard := _ }) (v := ?_) rfl (by kernel_rfl) (by kernel_rfl) (by kernel_rfl) (fun _ _ _ h => h) (Or.inl ⟨by rfl, ?_⟩) hHeld ?_
  rotate_left
  · (intro w hSw; (try dsimp only at hSw); go_simp); all_goals with_reducible rfl
  try simp only [Act.put, List.setIfInBounds_toArray, List.set_cons_zero, List.set_cons_succ]
  refine wpAnyH_ready (rs := [1]) (by kernel_rfl) (by simp) (AllReadyH.cons (o := _) rfl (fun K hK => ?_) AllReadyH.nil)
  go_simp
  refine HC.out.mono ?_
  rintro e w' ⟨u, rfl, rfl, h2, h3⟩
  have D2 := h3.kb_new HD.out (by simp) (by omega)
  have hK3 := Keep.after HB1.out h3
  have d2 := (kb_cell D2 39).trans CG.out
  have d3 : w'.drew.cell? ⟨w.heap.size, 39, none⟩ = some (.int .u64 x.wd) := d2
  have H2 := Lib.hid (h2.below (bl_drew (Below.refl _ _)))
  have H3 := Lib.hid (hK3.then_below (bl_drew (Below.refl _ _)))
  refine hK.out _ _ d2 (fun hHeld => ?_)
  clear h2 h3 hK3 D2
  try simp only [Act.put, List.setIfInBounds_toArray, List.set_cons_zero, List.set_cons_succ]
  refine wpAnyH_ready (rs := [4]) (by kernel_rfl) (by simp) (AllReadyH.cons (o := _) rfl (fun K hK => ?_) AllReadyH.nil)
  go_simp
  refine hK.out _ _ d2 (fun hHeld => ?_)
  try simp only [Act.put, List.setIfInBounds_toArray, List.set_cons_zero, List.set_cons_succ]
  refine wpAnyH_take (i := 5) (oi := { dst := some 5, op := _, type := _, pos := _, after := _, guard := _ }) (v := ?_) rfl (by kernel_rfl) (by kernel_rfl) (by kernel_rfl) (fun _ _ _ h => h) (Or.inl ⟨by rfl, ?_⟩) hHeld ?_
  rotate_left
  · (intro w hSw; (try dsimp only at hSw); go_simp); all_goals with_reducible rfl
  try simp only [Act.put, List.setIfInBounds_toArray, List.set_cons_zero, List.set_cons_succ]
  refine wpAnyH_take (i := 6) (oi := { dst := some 6, op := _, type := _, pos := _, after := _, guard := _ }) (v := ?_) rfl (by kernel_rfl) (by kernel_rfl) (by kernel_rfl) (fun _ _ _ h => h) (Or.inl ⟨by rfl, ?_⟩) hHeld ?_
  rotate_left
  · (intro w hSw; (try dsimp only at hSw); go_simp); all_goals with_reducible rfl
  try simp only [Act.put, List.setIfInBounds_toArray, List.set_cons_zero, List.set_cons_succ]
  refine wpAnyH_done (by kernel_rfl) ?_ _
  clear hHeld hK
  go_wp2
  refine wp_region_held_drew (S := (fun W : World => W.cell? ⟨w.heap.size, 39, none⟩ = some (.int .u64 x.wd))) (by kernel_rfl) (d3) (fun hHeld => ?_)
  refine wpAnyH_take (i := 0) (oi := { dst := some 65, op := _, type := _, pos := _, after := _, guard := _ }) (v := ?_) rfl (by kernel_rfl) (by kernel_rfl) (by kernel_rfl) (fun _ _ _ h => h) (Or.inl ⟨by rfl, ?_⟩) hHeld ?_
  rotate_left
  · (intro w hSw; (try dsimp only at hSw); go_simp); all_goals with_reducible rfl
  try simp only [Act.put, List.setIfInBounds_toArray, List.set_cons_zero, List.set_cons_succ]
  refine wpAnyH_take (i := 2) (oi := { dst := some 67, op := _, type := _, pos := _, after := _, guard := _ }) (v := ?_) rfl (by kernel_rfl) (by kernel_rfl) (by kernel_rfl) (fun _ _ _ h => h) (Or.inl ⟨by rfl, ?_⟩) hHeld ?_
  rotate_left
  · (intro w hSw; (try dsimp only at hSw); go_simp); all_goals with_reducible rfl
  try simp only [Act.put, List.setIfInBounds_toArray, List.set_cons_zero, List.set_cons_succ]
  refine wpAnyH_take (i := 3) (oi := { dst := some 68, op := _, type := _, pos := _, after := _, guard := _ }) (v := ?_) rfl (by kernel_rfl) (by kernel_rfl) (by kernel_rfl) (fun _ _ _ h => h) (Or.inl ⟨by rfl, ?_⟩) hHeld ?_
  rotate_left
  · (intro w hSw; (try dsimp only at hSw); go_simp); all_goals with_reducible rfl
  try simp only [Act.put, List.setIfInBounds_toArray, List.set_cons_zero, List.set_cons_succ]
  refine wpAnyH_ready (rs := [1]) (by kernel_rfl) (by simp) (AllReadyH.cons (o := _) rfl (fun K hK => ?_) AllReadyH.nil)
  go_simp
  refine hK.out _ _ d3 (fun hHeld => ?_)
  try simp only [Act.put, List.setIfInBounds_toArray, List.set_cons_zero, List.set_cons_succ]
  refine wpAnyH_take (i := 4) (oi := { dst := some 69, op := _, type := _, pos := _, after := _, guard := _ }) (v := ?_) rfl (by kernel_rfl) (by kernel_rfl) (by kernel_rfl) (fun _ _ _ h => h) (Or.inl ⟨by rfl, ?_⟩) hHeld ?_
  rotate_left
  · (intro w hSw; (try dsimp only at hSw); go_simp); all_goals with_reducible rfl
  try simp only [Act.put, List.setIfInBounds_toArray, List.set_cons_zero, List.set_cons_succ]
  refine wpAnyH_take (i := 5) (oi := { dst := some 70, op := _, type := _, pos := _, after := _, guard := _ }) (v := ?_) rfl (by kernel_rfl) (by kernel_rfl) (by kernel_rfl) (fun _ _ _ h => h) (Or.inl ⟨by rfl, ?_⟩) hHeld ?_
  rotate_left
  · (intro w hSw; (try dsimp only at hSw); go_simp); all_goals with_reducible rfl
  try simp only [Act.put, List.setIfInBounds_toArray, List.set_cons_zero, List.set_cons_succ]
  refine wpAnyH_take (i := 6) (oi := { dst := some 71, op := _, type := _, pos := _, after := _, guard := _ }) (v := ?_) rfl (by kernel_rfl) (by kernel_rfl) (by kernel_rfl) (fun _ _ _ h => h) (Or.inl ⟨by rfl, ?_⟩) hHeld ?_
  rotate_left
  · (intro w hSw; (try dsimp only at hSw); go_simp); all_goals with_reducible rfl
  try simp only [Act.put, List.setIfInBounds_toArray, List.set_cons_zero, List.set_cons_succ]
  refine wpAnyH_take (i := 7) (oi := { dst := some 72, op := _, type := _, pos := _, after := _, guard := _ }) (v := ?_) rfl (by kernel_rfl) (by kernel_rfl) (by kernel_rfl) (fun _ _ _ h => h) (Or.inl ⟨by rfl, ?_⟩) hHeld ?_
  rotate_left
  · (intro w hSw; (try dsimp only at hSw); go_simp); all_goals with_reducible rfl
  try simp only [Act.put, List.setIfInBounds_toArray, List.set_cons_zero, List.set_cons_succ]
  refine wpAnyH_take (i := 8) (oi := { dst := some 73, op := _, type := _, pos := _, after := _, guard := _ }) (v := ?_) rfl (by kernel_rfl) (by kernel_rfl) (by kernel_rfl) (fun _ _ _ h => h) (Or.inl ⟨by rfl, ?_⟩) hHeld ?_
  rotate_left
  · (intro w hSw; (try dsimp only at hSw); go_simp); all_goals with_reducible rfl
  try simp only [Act.put, List.setIfInBounds_toArray, List.set_cons_zero, List.set_cons_succ]
  refine wpAnyH_take (i := 9) (oi := { dst := some 74, op := _, type := _, pos := _, after := _, guard := _ }) (v := ?_) rfl (by kernel_rfl) (by kernel_rfl) (by kernel_rfl) (fun _ _ _ h => h) (Or.inl ⟨by rfl, ?_⟩) hHeld ?_
  rotate_left
  · (intro w hSw; (try dsimp only at hSw); go_simp); all_goals with_reducible rfl
  try simp only [Act.put, List.setIfInBounds_toArray, List.set_cons_zero, List.set_cons_succ]
  refine wpAnyH_take (i := 10) (oi := { dst := some 75, op := _, type := _, pos := _, after := _, guard := _ }) (v := undef) rfl (by kernel_rfl) (by kernel_rfl) (by kernel_rfl) (fun _ _ _ h => h) (Or.inr ⟨by rfl, rfl⟩) hHeld ?_
  try simp only [Act.put, List.setIfInBounds_toArray, List.set_cons_zero, List.set_cons_succ]
  refine wpAnyH_take (i := 11) (oi := { dst := some 76, op := _, type := _, pos := _, after := _, guard := _ }) (v := undef) rfl (by kernel_rfl) (by kernel_rfl) (by kernel_rfl) (fun _ _ _ h => h) (Or.inr ⟨by rfl, rfl⟩) hHeld ?_
  try simp only [Act.put, List.setIfInBounds_toArray, List.set_cons_zero, List.set_cons_succ]
  refine wpAnyH_take (i := 12) (oi := { dst := some 77, op := _, type := _, pos := _, after := _, guard := _ }) (v := undef) rfl (by kernel_rfl) (by kernel_rfl) (by kernel_rfl) (fun _ _ _ h => h) (Or.inr ⟨by rfl, rfl⟩) hHeld ?_
  try simp only [Act.put, List.setIfInBounds_toArray, List.set_cons_zero, List.set_cons_succ]
  refine wpAnyH_take (i := 13) (oi := { dst := some 78, op := _, type := _, pos := _, after := _, guard := _ }) (v := ?_) rfl (by kernel_rfl) (by kernel_rfl) (by kernel_rfl) (fun _ _ _ h => h) (Or.inl ⟨by rfl, ?_⟩) hHeld ?_
  rotate_left
  · (intro w hSw; (try dsimp only at hSw); go_simp); all_goals with_reducible rfl
  try simp only [Act.put, List.setIfInBounds_toArray, List.set_cons_zero, List.set_cons_succ]
  refine wpAnyH_take (i := 14) (oi := { dst := some 79, op := _, type := _, pos := _, after := _, guard := _ }) (v := ?_) rfl (by kernel_rfl) (by kernel_rfl) (by kernel_rfl) (fun _ _ _ h => h) (Or.inl ⟨by rfl, ?_⟩) hHeld ?_
  rotate_left
  · (intro w hSw; (try dsimp only at hSw); go_simp); all_goals with_reducible rfl
  try simp only [Act.put, List.setIfInBounds_toArray, List.set_cons_zero, List.set_cons_succ]
  refine wpAnyH_take (i := 15) (oi := { dst := some 4, op := _, type := _, pos := _, after := _, guard := _ }) (v := ?_) rfl (by kernel_rfl) (by kernel_rfl) (by kernel_rfl) (fun _ _ _ h => h) (Or.inl ⟨by rfl, ?_⟩) hHeld ?_
  rotate_left
  · (intro w hSw; (try dsimp only at hSw); go_simp); all_goals with_reducible rfl
  try simp only [Act.put, List.setIfInBounds_toArray, List.set_cons_zero, List.set_cons_succ]
  refine wpAnyH_done (by kernel_rfl) ?_ _
  go_wp2
  go_ret
  exact ⟨ret_bool (by simp [H1.out.1, H1.out.2]), H2.out, H3.out⟩

set_option maxRecDepth 100000 in
set_option maxHeartbeats 2000000 in
theorem bk6_2 {w : World} {B p : Nat} {s : Value} {xs : List UInt8} {st : St} {v : Value} {x : Th} (hx : x.Fine) (hv : ∀ W, Keep (fun b => b = p) w W → BytesOf W v x.b) (F : RdO w B p s xs st) (hk : x.kind = 6) (h1 : ∀ q1, (step (paceP xs) 0 st).1 = q1 → (q1 == x.wd) = false ∧ nanB q1 = true ∧ nanB x.wd = true) :
    Calls Try.prog 38 #[.pointer (some ⟨p, 0, none⟩), .agg (x.cells v).toArray] w fun e w' => e = .returned (.bool (backS xs x st).1) ∧ RdO w' B p s xs (backS xs x st).2 ∧ Keep (fun b => b = p) w w' := by
  have hlt := F.ltp
  have b1 : Below w.heap.size w (w.alloc (.cells (x.cells v).toArray 39)).drew := by (repeat (with_reducible (first | exact Below.refl _ _ | assumption | refine bl_alloc ?_ _ | refine bl_drew ?_ | refine bl_drewN ?_ _ | (refine bl_set ?_ ?_ _; (focus (first | (simp; done) | (simp; omega) | omega))) | refine bl_then ?_ (by assumption))))
  have F1 := F.below b1
  have D := kb_drew (kb_new (w := w) rfl (.cells (x.cells v).toArray 39))
  have C := kb_cell (kb_new (w := w) rfl (.cells (x.cells v).toArray 39))
  have C' := kb_cell D
  have c0 := (C 0).trans (arr_get (Th.c0 x v))
  rw [hk] at c0
  have cc := (C' 39).trans (arr_get (Th.c39 hx v))
  have CG := Lib.hid (arr_get (Th.c39 hx v))
  have hr := fun W => run_from (x.wd : Int) W
  simp only [Int.toNat_natCast] at hr
  rw [back_6 hk]
  obtain ⟨q, hq⟩ : ∃ q, step (paceP xs) 0 st = q := ⟨_, rfl⟩
  have HC := dPace_any F1
  rw [hq] at HC ⊢
  have HC := Lib.hid HC
  obtain ⟨q1, q2⟩ := q
  have hrb := fun W => run_bits q1 W
  have h1 := h1 q1 (by rw [hq])
  have H1 := Lib.hid h1
  have he1 : ((q1 : Int) == (x.wd : Int)) = false := by rw [← H1.out.1, Bool.eq_iff_iff]; simp; omega
  have he2 : (q1 == x.wd) = false := H1.out.1
  have hn1 : (FloatKind.f64.format.order q1 q1 != some .eq) = true := H1.out.2.1
  have hn2 : (FloatKind.f64.format.order x.wd x.wd != some .eq) = true := H1.out.2.2
  clear h1
  have HD := Lib.hid D
  have HB1 := Lib.hid b1
  have HV := Lib.hid hv
  obtain ⟨A, cp, rfl⟩ := (hv w (Keep.refl _ _)).form
  clear b1 F1 C C' D hv F hq
  generalize (x.cells (.slice A x.b.length cp)).toArray = T at *
  go_enter Try.func38, Try.ntmps38
  go_wp2
  refine wp_region_held_drew (S := (fun W : World => W.cell? ⟨w.heap.size, 39, none⟩ = some (.int .u64 x.wd))) (by kernel_rfl) (cc) (fun hHeld => ?_)
  refine wpAnyH_take (i := 0) (oi := { dst := some 60, op := _, type := _, pos := _, after := _, guard := _ }) (v := ?_) rfl (by kernel_rfl) (by kernel_rfl) (by kernel_rfl) (fun _ _ _ h => h) (Or.inl ⟨by rfl, ?_⟩) hHeld ?_
  rotate_left
  · (intro w hSw; (try dsimp only at hSw); go_simp); all_goals with_reducible rfl
  try simp only [Act.put, List.setIfInBounds_toArray, List.set_cons_zero, List.set_cons_succ]
  refine wpAnyH_take (i := 2) (oi := { dst := some 62, op := _, type := _, pos := _, after := _, guard := _ }) (v := ?_) rfl (by kernel_rfl) (by kernel_rfl) (by kernel_rfl) (fun _ _ _ h => h) (Or.inl ⟨by rfl, ?_⟩) hHeld ?_
  rotate_left
  · (intro w hSw; (try dsimp only at hSw); go_simp); all_goals with_reducible rfl
  try simp only [Act.put, List.setIfInBounds_toArray, List.set_cons_zero, List.set_cons_succ]
  refine wpAnyH_take (i := 3) (oi := { dst := some 63, op := _, type := _, pos := _, after := _, guard := _ }) (v := ?_) rfl (by kernel_rfl) (by kernel_rfl) (by kernel_rfl) (fun _ _ _ h => h) (Or.inl ⟨by rfl, ?_⟩) hHeld ?_
  rotate_left
  · (intro w hSw; (try dsimp only at hSw); go_simp); all_goals with_reducible rfl
  try simp only [Act.put, List.setIfInBounds_toArray, List.set_cons_zero, List.set_cons_succ]
  refine wpAnyH_ready (rs := [1]) (by kernel_rfl) (by simp) (AllReadyH.cons (o := _) rfl (fun K hK => ?_) AllReadyH.nil)
  go_simp
  refine HC.out.mono ?_
  rintro e w' ⟨u, rfl, rfl, h2, h3⟩
  have D2 := h3.kb_new HD.out (by simp) (by omega)
  have hK3 := Keep.after HB1.out h3
  have d2 := (kb_cell D2 39).trans CG.out
  have d3 : w'.drew.cell? ⟨w.heap.size, 39, none⟩ = some (.int .u64 x.wd) := d2
  have H2 := Lib.hid (h2.below (bl_drew (Below.refl _ _)))
  have H3 := Lib.hid (hK3.then_below (bl_drew (Below.refl _ _)))
  refine hK.out _ _ d2 (fun hHeld => ?_)
  clear h2 h3 hK3 D2
  try simp only [Act.put, List.setIfInBounds_toArray, List.set_cons_zero, List.set_cons_succ]
  refine wpAnyH_ready (rs := [4]) (by kernel_rfl) (by simp) (AllReadyH.cons (o := _) rfl (fun K hK => ?_) AllReadyH.nil)
  go_simp
  refine hK.out _ _ d2 (fun hHeld => ?_)
  try simp only [Act.put, List.setIfInBounds_toArray, List.set_cons_zero, List.set_cons_succ]
  refine wpAnyH_take (i := 5) (oi := { dst := some 5, op := _, type := _, pos := _, after := _, guard := _ }) (v := ?_) rfl (by kernel_rfl) (by kernel_rfl) (by kernel_rfl) (fun _ _ _ h => h) (Or.inl ⟨by rfl, ?_⟩) hHeld ?_
  rotate_left
  · (intro w hSw; (try dsimp only at hSw); go_simp); all_goals with_reducible rfl
  try simp only [Act.put, List.setIfInBounds_toArray, List.set_cons_zero, List.set_cons_succ]
  refine wpAnyH_take (i := 6) (oi := { dst := some 6, op := _, type := _, pos := _, after := _, guard := _ }) (v := ?_) rfl (by kernel_rfl) (by kernel_rfl) (by kernel_rfl) (fun _ _ _ h => h) (Or.inl ⟨by rfl, ?_⟩) hHeld ?_
  rotate_left
  · (intro w hSw; (try dsimp only at hSw); go_simp); all_goals with_reducible rfl
  try simp only [Act.put, List.setIfInBounds_toArray, List.set_cons_zero, List.set_cons_succ]
  refine wpAnyH_done (by kernel_rfl) ?_ _
  clear hHeld hK
  go_wp2
  refine wp_region_held_drew (S := (fun W : World => W.cell? ⟨w.heap.size, 39, none⟩ = some (.int .u64 x.wd))) (by kernel_rfl) (d3) (fun hHeld => ?_)
  refine wpAnyH_take (i := 0) (oi := { dst := some 65, op := _, type := _, pos := _, after := _, guard := _ }) (v := ?_) rfl (by kernel_rfl) (by kernel_rfl) (by kernel_rfl) (fun _ _ _ h => h) (Or.inl ⟨by rfl, ?_⟩) hHeld ?_
  rotate_left
  · (intro w hSw; (try dsimp only at hSw); go_simp); all_goals with_reducible rfl
  try simp only [Act.put, List.setIfInBounds_toArray, List.set_cons_zero, List.set_cons_succ]
  refine wpAnyH_take (i := 2) (oi := { dst := some 67, op := _, type := _, pos := _, after := _, guard := _ }) (v := ?_) rfl (by kernel_rfl) (by kernel_rfl) (by kernel_rfl) (fun _ _ _ h => h) (Or.inl ⟨by rfl, ?_⟩) hHeld ?_
  rotate_left
  · (intro w hSw; (try dsimp only at hSw); go_simp); all_goals with_reducible rfl
  try simp only [Act.put, List.setIfInBounds_toArray, List.set_cons_zero, List.set_cons_succ]
  refine wpAnyH_take (i := 3) (oi := { dst := some 68, op := _, type := _, pos := _, after := _, guard := _ }) (v := ?_) rfl (by kernel_rfl) (by kernel_rfl) (by kernel_rfl) (fun _ _ _ h => h) (Or.inl ⟨by rfl, ?_⟩) hHeld ?_
  rotate_left
  · (intro w hSw; (try dsimp only at hSw); go_simp); all_goals with_reducible rfl
  try simp only [Act.put, List.setIfInBounds_toArray, List.set_cons_zero, List.set_cons_succ]
  refine wpAnyH_ready (rs := [1]) (by kernel_rfl) (by simp) (AllReadyH.cons (o := _) rfl (fun K hK => ?_) AllReadyH.nil)
  go_simp
  refine hK.out _ _ d3 (fun hHeld => ?_)
  try simp only [Act.put, List.setIfInBounds_toArray, List.set_cons_zero, List.set_cons_succ]
  refine wpAnyH_take (i := 4) (oi := { dst := some 69, op := _, type := _, pos := _, after := _, guard := _ }) (v := ?_) rfl (by kernel_rfl) (by kernel_rfl) (by kernel_rfl) (fun _ _ _ h => h) (Or.inl ⟨by rfl, ?_⟩) hHeld ?_
  rotate_left
  · (intro w hSw; (try dsimp only at hSw); go_simp); all_goals with_reducible rfl
  try simp only [Act.put, List.setIfInBounds_toArray, List.set_cons_zero, List.set_cons_succ]
  refine wpAnyH_take (i := 5) (oi := { dst := some 70, op := _, type := _, pos := _, after := _, guard := _ }) (v := ?_) rfl (by kernel_rfl) (by kernel_rfl) (by kernel_rfl) (fun _ _ _ h => h) (Or.inl ⟨by rfl, ?_⟩) hHeld ?_
  rotate_left
  · (intro w hSw; (try dsimp only at hSw); go_simp); all_goals with_reducible rfl
  try simp only [Act.put, List.setIfInBounds_toArray, List.set_cons_zero, List.set_cons_succ]
  refine wpAnyH_take (i := 6) (oi := { dst := some 71, op := _, type := _, pos := _, after := _, guard := _ }) (v := ?_) rfl (by kernel_rfl) (by kernel_rfl) (by kernel_rfl) (fun _ _ _ h => h) (Or.inl ⟨by rfl, ?_⟩) hHeld ?_
  rotate_left
  · (intro w hSw; (try dsimp only at hSw); go_simp); all_goals with_reducible rfl
  try simp only [Act.put, List.setIfInBounds_toArray, List.set_cons_zero, List.set_cons_succ]
  refine wpAnyH_take (i := 7) (oi := { dst := some 72, op := _, type := _, pos := _, after := _, guard := _ }) (v := ?_) rfl (by kernel_rfl) (by kernel_rfl) (by kernel_rfl) (fun _ _ _ h => h) (Or.inl ⟨by rfl, ?_⟩) hHeld ?_
  rotate_left
  · (intro w hSw; (try dsimp only at hSw); go_simp); all_goals with_reducible rfl
  try simp only [Act.put, List.setIfInBounds_toArray, List.set_cons_zero, List.set_cons_succ]
  refine wpAnyH_take (i := 8) (oi := { dst := some 73, op := _, type := _, pos := _, after := _, guard := _ }) (v := ?_) rfl (by kernel_rfl) (by kernel_rfl) (by kernel_rfl) (fun _ _ _ h => h) (Or.inl ⟨by rfl, ?_⟩) hHeld ?_
  rotate_left
  · (intro w hSw; (try dsimp only at hSw); go_simp); all_goals with_reducible rfl
  try simp only [Act.put, List.setIfInBounds_toArray, List.set_cons_zero, List.set_cons_succ]
  refine wpAnyH_take (i := 9) (oi := { dst := some 74, op := _, type := _, pos := _, after := _, guard := _ }) (v := ?_) rfl (by kernel_rfl) (by kernel_rfl) (by kernel_rfl) (fun _ _ _ h => h) (Or.inl ⟨by rfl, ?_⟩) hHeld ?_
  rotate_left
  · (intro w hSw; (try dsimp only at hSw); go_simp); all_goals with_reducible rfl
  try simp only [Act.put, List.setIfInBounds_toArray, List.set_cons_zero, List.set_cons_succ]
  refine wpAnyH_take (i := 10) (oi := { dst := some 75, op := _, type := _, pos := _, after := _, guard := _ }) (v := ?_) rfl (by kernel_rfl) (by kernel_rfl) (by kernel_rfl) (fun _ _ _ h => h) (Or.inl ⟨by rfl, ?_⟩) hHeld ?_
  rotate_left
  · (intro w hSw; (try dsimp only at hSw); go_simp); all_goals with_reducible rfl
  try simp only [Act.put, List.setIfInBounds_toArray, List.set_cons_zero, List.set_cons_succ]
  refine wpAnyH_take (i := 11) (oi := { dst := some 76, op := _, type := _, pos := _, after := _, guard := _ }) (v := ?_) rfl (by kernel_rfl) (by kernel_rfl) (by kernel_rfl) (fun _ _ _ h => h) (Or.inl ⟨by rfl, ?_⟩) hHeld ?_
  rotate_left
  · (intro w hSw; (try dsimp only at hSw); go_simp); all_goals with_reducible rfl
  try simp only [Act.put, List.setIfInBounds_toArray, List.set_cons_zero, List.set_cons_succ]
  refine wpAnyH_take (i := 12) (oi := { dst := some 77, op := _, type := _, pos := _, after := _, guard := _ }) (v := ?_) rfl (by kernel_rfl) (by kernel_rfl) (by kernel_rfl) (fun _ _ _ h => h) (Or.inl ⟨by rfl, ?_⟩) hHeld ?_
  rotate_left
  · (intro w hSw; (try dsimp only at hSw); go_simp); all_goals with_reducible rfl
  try simp only [Act.put, List.setIfInBounds_toArray, List.set_cons_zero, List.set_cons_succ]
  refine wpAnyH_take (i := 13) (oi := { dst := some 78, op := _, type := _, pos := _, after := _, guard := _ }) (v := ?_) rfl (by kernel_rfl) (by kernel_rfl) (by kernel_rfl) (fun _ _ _ h => h) (Or.inl ⟨by rfl, ?_⟩) hHeld ?_
  rotate_left
  · (intro w hSw; (try dsimp only at hSw); go_simp); all_goals with_reducible rfl
  try simp only [Act.put, List.setIfInBounds_toArray, List.set_cons_zero, List.set_cons_succ]
  refine wpAnyH_take (i := 14) (oi := { dst := some 79, op := _, type := _, pos := _, after := _, guard := _ }) (v := ?_) rfl (by kernel_rfl) (by kernel_rfl) (by kernel_rfl) (fun _ _ _ h => h) (Or.inl ⟨by rfl, ?_⟩) hHeld ?_
  rotate_left
  · (intro w hSw; (try dsimp only at hSw); go_simp); all_goals with_reducible rfl
  try simp only [Act.put, List.setIfInBounds_toArray, List.set_cons_zero, List.set_cons_succ]
  refine wpAnyH_take (i := 15) (oi := { dst := some 4, op := _, type := _, pos := _, after := _, guard := _ }) (v := ?_) rfl (by kernel_rfl) (by kernel_rfl) (by kernel_rfl) (fun _ _ _ h => h) (Or.inl ⟨by rfl, ?_⟩) hHeld ?_
  rotate_left
  · (intro w hSw; (try dsimp only at hSw); go_simp); all_goals with_reducible rfl
  try simp only [Act.put, List.setIfInBounds_toArray, List.set_cons_zero, List.set_cons_succ]
  refine wpAnyH_done (by kernel_rfl) ?_ _
  go_wp2
  go_ret
  exact ⟨ret_bool (by simp [H1.out.1, H1.out.2.1, H1.out.2.2]), H2.out, H3.out⟩

set_option maxRecDepth 100000 in
set_option maxHeartbeats 2000000 in
theorem bk6_3 {w : World} {B p : Nat} {s : Value} {xs : List UInt8} {st : St} {v : Value} {x : Th} (hx : x.Fine) (hv : ∀ W, Keep (fun b => b = p) w W → BytesOf W v x.b) (F : RdO w B p s xs st) (hk : x.kind = 6) (h1 : ∀ q1, (step (paceP xs) 0 st).1 = q1 → (q1 == x.wd) = false ∧ nanB q1 = true ∧ nanB x.wd = false) :
    Calls Try.prog 38 #[.pointer (some ⟨p, 0, none⟩), .agg (x.cells v).toArray] w fun e w' => e = .returned (.bool (backS xs x st).1) ∧ RdO w' B p s xs (backS xs x st).2 ∧ Keep (fun b => b = p) w w' := by
  have hlt := F.ltp
  have b1 : Below w.heap.size w (w.alloc (.cells (x.cells v).toArray 39)).drew := by (repeat (with_reducible (first | exact Below.refl _ _ | assumption | refine bl_alloc ?_ _ | refine bl_drew ?_ | refine bl_drewN ?_ _ | (refine bl_set ?_ ?_ _; (focus (first | (simp; done) | (simp; omega) | omega))) | refine bl_then ?_ (by assumption))))
  have F1 := F.below b1
  have D := kb_drew (kb_new (w := w) rfl (.cells (x.cells v).toArray 39))
  have C := kb_cell (kb_new (w := w) rfl (.cells (x.cells v).toArray 39))
  have C' := kb_cell D
  have c0 := (C 0).trans (arr_get (Th.c0 x v))
  rw [hk] at c0
  have cc := (C' 39).trans (arr_get (Th.c39 hx v))
  have CG := Lib.hid (arr_get (Th.c39 hx v))
  have hr := fun W => run_from (x.wd : Int) W
  simp only [Int.toNat_natCast] at hr
  rw [back_6 hk]
  obtain ⟨q, hq⟩ : ∃ q, step (paceP xs) 0 st = q := ⟨_, rfl⟩
  have HC := dPace_any F1
  rw [hq] at HC ⊢
  have HC := Lib.hid HC
  obtain ⟨q1, q2⟩ := q
  have hrb := fun W => run_bits q1 W
  have h1 := h1 q1 (by rw [hq])
  have H1 := Lib.hid h1
  have he1 : ((q1 : Int) == (x.wd : Int)) = false := by rw [← H1.out.1, Bool.eq_iff_iff]; simp; omega
  have he2 : (q1 == x.wd) = false := H1.out.1
  have hn1 : (FloatKind.f64.format.order q1 q1 != some .eq) = true := H1.out.2.1
  have hn2 : (FloatKind.f64.format.order x.wd x.wd != some .eq) = false := H1.out.2.2
  clear h1
  have HD := Lib.hid D
  have HB1 := Lib.hid b1
  have HV := Lib.hid hv
  obtain ⟨A, cp, rfl⟩ := (hv w (Keep.refl _ _)).form
  clear b1 F1 C C' D hv F hq
  generalize (x.cells (.slice A x.b.length cp)).toArray = T at *
  go_enter Try.func38, Try.ntmps38
  go_wp2
  refine wp_region_held_drew (S := (fun W : World => W.cell? ⟨w.heap.size, 39, none⟩ = some (.int .u64 x.wd))) (by kernel_rfl) (cc) (fun hHeld => ?_)
  refine wpAnyH_take (i := 0) (oi := { dst := some 60, op := _, type := _, pos := _, after := _, guard := _ }) (v := ?_) rfl (by kernel_rfl) (by kernel_rfl) (by kernel_rfl) (fun _ _ _ h => h) (Or.inl ⟨by rfl, ?_⟩) hHeld ?_
  rotate_left
  · (intro w hSw; (try dsimp only at hSw); go_simp); all_goals with_reducible rfl
  try simp only [Act.put, List.setIfInBounds_toArray, List.set_cons_zero, List.set_cons_succ]
  refine wpAnyH_take (i := 2) (oi := { dst := some 62, op := _, type := _, pos := _, after := _, guard := _ }) (v := ?_) rfl (by kernel_rfl) (by kernel_rfl) (by kernel_rfl) (fun _ _ _ h => h) (Or.inl ⟨by rfl, ?_⟩) hHeld ?_
  rotate_left
  · (intro w hSw; (try dsimp only at hSw); go_simp); all_goals with_reducible rfl
  try simp only [Act.put, List.setIfInBounds_toArray, List.set_cons_zero, List.set_cons_succ]
  refine wpAnyH_take (i := 3) (oi := { dst := some 63, op := _, type := _, pos := _, after := _, guard := _ }) (v := ?_) rfl (by kernel_rfl) (by kernel_rfl) (by kernel_rfl) (fun _ _ _ h => h) (Or.inl ⟨by rfl, ?_⟩) hHeld ?_
  rotate_left
  · (intro w hSw; (try dsimp only at hSw); go_simp); all_goals with_reducible rfl
  try simp only [Act.put, List.setIfInBounds_toArray, List.set_cons_zero, List.set_cons_succ]
  refine wpAnyH_ready (rs := [1]) (by kernel_rfl) (by simp) (AllReadyH.cons (o := _) rfl (fun K hK => ?_) AllReadyH.nil)
  go_simp
  refine HC.out.mono ?_
  rintro e w' ⟨u, rfl, rfl, h2, h3⟩
  have D2 := h3.kb_new HD.out (by simp) (by omega)
  have hK3 := Keep.after HB1.out h3
  have d2 := (kb_cell D2 39).trans CG.out
  have d3 : w'.drew.cell? ⟨w.heap.size, 39, none⟩ = some (.int .u64 x.wd) := d2
  have H2 := Lib.hid (h2.below (bl_drew (Below.refl _ _)))
  have H3 := Lib.hid (hK3.then_below (bl_drew (Below.refl _ _)))
  refine hK.out _ _ d2 (fun hHeld => ?_)
  clear h2 h3 hK3 D2
  try simp only [Act.put, List.setIfInBounds_toArray, List.set_cons_zero, List.set_cons_succ]
  refine wpAnyH_ready (rs := [4]) (by kernel_rfl) (by simp) (AllReadyH.cons (o := _) rfl (fun K hK => ?_) AllReadyH.nil)
  go_simp
  refine hK.out _ _ d2 (fun hHeld => ?_)
  try simp only [Act.put, List.setIfInBounds_toArray, List.set_cons_zero, List.set_cons_succ]
  refine wpAnyH_take (i := 5) (oi := { dst := some 5, op := _, type := _, pos := _, after := _, guard := _ }) (v := ?_) rfl (by kernel_rfl) (by kernel_rfl) (by kernel_rfl) (fun _ _ _ h => h) (Or.inl ⟨by rfl, ?_⟩) hHeld ?_
  rotate_left
  · (intro w hSw; (try dsimp only at hSw); go_simp); all_goals with_reducible rfl
  try simp only [Act.put, List.setIfInBounds_toArray, List.set_cons_zero, List.set_cons_succ]
  refine wpAnyH_take (i := 6) (oi := { dst := some 6, op := _, type := _, pos := _, after := _, guard := _ }) (v := ?_) rfl (by kernel_rfl) (by kernel_rfl) (by kernel_rfl) (fun _ _ _ h => h) (Or.inl ⟨by rfl, ?_⟩) hHeld ?_
  rotate_left
  · (intro w hSw; (try dsimp only at hSw); go_simp); all_goals with_reducible rfl
  try simp only [Act.put, List.setIfInBounds_toArray, List.set_cons_zero, List.set_cons_succ]
  refine wpAnyH_done (by kernel_rfl) ?_ _
  clear hHeld hK
  go_wp2
  refine wp_region_held_drew (S := (fun W : World => W.cell? ⟨w.heap.size, 39, none⟩ = some (.int .u64 x.wd))) (by kernel_rfl) (d3) (fun hHeld => ?_)
  refine wpAnyH_take (i := 0) (oi := { dst := some 65, op := _, type := _, pos := _, after := _, guard := _ }) (v := ?_) rfl (by kernel_rfl) (by kernel_rfl) (by kernel_rfl) (fun _ _ _ h => h) (Or.inl ⟨by rfl, ?_⟩) hHeld ?_
  rotate_left
  · (intro w hSw; (try dsimp only at hSw); go_simp); all_goals with_reducible rfl
  try simp only [Act.put, List.setIfInBounds_toArray, List.set_cons_zero, List.set_cons_succ]
  refine wpAnyH_take (i := 2) (oi := { dst := some 67, op := _, type := _, pos := _, after := _, guard := _ }) (v := ?_) rfl (by kernel_rfl) (by kernel_rfl) (by kernel_rfl) (fun _ _ _ h => h) (Or.inl ⟨by rfl, ?_⟩) hHeld ?_
  rotate_left
  · (intro w hSw; (try dsimp only at hSw); go_simp); all_goals with_reducible rfl
  try simp only [Act.put, List.setIfInBounds_toArray, List.set_cons_zero, List.set_cons_succ]
  refine wpAnyH_take (i := 3) (oi := { dst := some 68, op := _, type := _, pos := _, after := _, guard := _ }) (v := ?_) rfl (by kernel_rfl) (by kernel_rfl) (by kernel_rfl) (fun _ _ _ h => h) (Or.inl ⟨by rfl, ?_⟩) hHeld ?_
  rotate_left
  · (intro w hSw; (try dsimp only at hSw); go_simp); all_goals with_reducible rfl
  try simp only [Act.put, List.setIfInBounds_toArray, List.set_cons_zero, List.set_cons_succ]
  refine wpAnyH_ready (rs := [1]) (by kernel_rfl) (by simp) (AllReadyH.cons (o := _) rfl (fun K hK => ?_) AllReadyH.nil)
  go_simp
  refine hK.out _ _ d3 (fun hHeld => ?_)
  try simp only [Act.put, List.setIfInBounds_toArray, List.set_cons_zero, List.set_cons_succ]
  refine wpAnyH_take (i := 4) (oi := { dst := some 69, op := _, type := _, pos := _, after := _, guard := _ }) (v := ?_) rfl (by kernel_rfl) (by kernel_rfl) (by kernel_rfl) (fun _ _ _ h => h) (Or.inl ⟨by rfl, ?_⟩) hHeld ?_
  rotate_left
  · (intro w hSw; (try dsimp only at hSw); go_simp); all_goals with_reducible rfl
  try simp only [Act.put, List.setIfInBounds_toArray, List.set_cons_zero, List.set_cons_succ]
  refine wpAnyH_take (i := 5) (oi := { dst := some 70, op := _, type := _, pos := _, after := _, guard := _ }) (v := ?_) rfl (by kernel_rfl) (by kernel_rfl) (by kernel_rfl) (fun _ _ _ h => h) (Or.inl ⟨by rfl, ?_⟩) hHeld ?_
  rotate_left
  · (intro w hSw; (try dsimp only at hSw); go_simp); all_goals with_reducible rfl
  try simp only [Act.put, List.setIfInBounds_toArray, List.set_cons_zero, List.set_cons_succ]
  refine wpAnyH_take (i := 6) (oi := { dst := some 71, op := _, type := _, pos := _, after := _, guard := _ }) (v := ?_) rfl (by kernel_rfl) (by kernel_rfl) (by kernel_rfl) (fun _ _ _ h => h) (Or.inl ⟨by rfl, ?_⟩) hHeld ?_
  rotate_left
  · (intro w hSw; (try dsimp only at hSw); go_simp); all_goals with_reducible rfl
  try simp only [Act.put, List.setIfInBounds_toArray, List.set_cons_zero, List.set_cons_succ]
  refine wpAnyH_take (i := 7) (oi := { dst := some 72, op := _, type := _, pos := _, after := _, guard := _ }) (v := ?_) rfl (by kernel_rfl) (by kernel_rfl) (by kernel_rfl) (fun _ _ _ h => h) (Or.inl ⟨by rfl, ?_⟩) hHeld ?_
  rotate_left
  · (intro w hSw; (try dsimp only at hSw); go_simp); all_goals with_reducible rfl
  try simp only [Act.put, List.setIfInBounds_toArray, List.set_cons_zero, List.set_cons_succ]
  refine wpAnyH_take (i := 8) (oi := { dst := some 73, op := _, type := _, pos := _, after := _, guard := _ }) (v := ?_) rfl (by kernel_rfl) (by kernel_rfl) (by kernel_rfl) (fun _ _ _ h => h) (Or.inl ⟨by rfl, ?_⟩) hHeld ?_
  rotate_left
  · (intro w hSw; (try dsimp only at hSw); go_simp); all_goals with_reducible rfl
  try simp only [Act.put, List.setIfInBounds_toArray, List.set_cons_zero, List.set_cons_succ]
  refine wpAnyH_take (i := 9) (oi := { dst := some 74, op := _, type := _, pos := _, after := _, guard := _ }) (v := ?_) rfl (by kernel_rfl) (by kernel_rfl) (by kernel_rfl) (fun _ _ _ h => h) (Or.inl ⟨by rfl, ?_⟩) hHeld ?_
  rotate_left
  · (intro w hSw; (try dsimp only at hSw); go_simp); all_goals with_reducible rfl
  try simp only [Act.put, List.setIfInBounds_toArray, List.set_cons_zero, List.set_cons_succ]
  refine wpAnyH_take (i := 10) (oi := { dst := some 75, op := _, type := _, pos := _, after := _, guard := _ }) (v := ?_) rfl (by kernel_rfl) (by kernel_rfl) (by kernel_rfl) (fun _ _ _ h => h) (Or.inl ⟨by rfl, ?_⟩) hHeld ?_
  rotate_left
  · (intro w hSw; (try dsimp only at hSw); go_simp); all_goals with_reducible rfl
  try simp only [Act.put, List.setIfInBounds_toArray, List.set_cons_zero, List.set_cons_succ]
  refine wpAnyH_take (i := 11) (oi := { dst := some 76, op := _, type := _, pos := _, after := _, guard := _ }) (v := ?_) rfl (by kernel_rfl) (by kernel_rfl) (by kernel_rfl) (fun _ _ _ h => h) (Or.inl ⟨by rfl, ?_⟩) hHeld ?_
  rotate_left
  · (intro w hSw; (try dsimp only at hSw); go_simp); all_goals with_reducible rfl
  try simp only [Act.put, List.setIfInBounds_toArray, List.set_cons_zero, List.set_cons_succ]
  refine wpAnyH_take (i := 12) (oi := { dst := some 77, op := _, type := _, pos := _, after := _, guard := _ }) (v := ?_) rfl (by kernel_rfl) (by kernel_rfl) (by kernel_rfl) (fun _ _ _ h => h) (Or.inl ⟨by rfl, ?_⟩) hHeld ?_
  rotate_left
  · (intro w hSw; (try dsimp only at hSw); go_simp); all_goals with_reducible rfl
  try simp only [Act.put, List.setIfInBounds_toArray, List.set_cons_zero, List.set_cons_succ]
  refine wpAnyH_take (i := 13) (oi := { dst := some 78, op := _, type := _, pos := _, after := _, guard := _ }) (v := ?_) rfl (by kernel_rfl) (by kernel_rfl) (by kernel_rfl) (fun _ _ _ h => h) (Or.inl ⟨by rfl, ?_⟩) hHeld ?_
  rotate_left
  · (intro w hSw; (try dsimp only at hSw); go_simp); all_goals with_reducible rfl
  try simp only [Act.put, List.setIfInBounds_toArray, List.set_cons_zero, List.set_cons_succ]
  refine wpAnyH_take (i := 14) (oi := { dst := some 79, op := _, type := _, pos := _, after := _, guard := _ }) (v := ?_) rfl (by kernel_rfl) (by kernel_rfl) (by kernel_rfl) (fun _ _ _ h => h) (Or.inl ⟨by rfl, ?_⟩) hHeld ?_
  rotate_left
  · (intro w hSw; (try dsimp only at hSw); go_simp); all_goals with_reducible rfl
  try simp only [Act.put, List.setIfInBounds_toArray, List.set_cons_zero, List.set_cons_succ]
  refine wpAnyH_take (i := 15) (oi := { dst := some 4, op := _, type := _, pos := _, after := _, guard := _ }) (v := ?_) rfl (by kernel_rfl) (by kernel_rfl) (by kernel_rfl) (fun _ _ _ h => h) (Or.inl ⟨by rfl, ?_⟩) hHeld ?_
  rotate_left
  · (intro w hSw; (try dsimp only at hSw); go_simp); all_goals with_reducible rfl
  try simp only [Act.put, List.setIfInBounds_toArray, List.set_cons_zero, List.set_cons_succ]
  refine wpAnyH_done (by kernel_rfl) ?_ _
  go_wp2
  go_ret
  exact ⟨ret_bool (by simp [H1.out.1, H1.out.2.1, H1.out.2.2]), H2.out, H3.out⟩

theorem bk6_any {w : World} {B p : Nat} {s : Value} {xs : List UInt8} {st : St} {v : Value} {x : Th} (hx : x.Fine) (hv : ∀ W, Keep (fun b => b = p) w W → BytesOf W v x.b) (F : RdO w B p s xs st) (hk : x.kind = 6) :
    Calls Try.prog 38 #[.pointer (some ⟨p, 0, none⟩), .agg (x.cells v).toArray] w fun e w' => e = .returned (.bool (backS xs x st).1) ∧ RdO w' B p s xs (backS xs x st).2 ∧ Keep (fun b => b = p) w w' := by
  cases h1 : ((step (paceP xs) 0 st).1 == x.wd)
  · cases h2 : nanB (step (paceP xs) 0 st).1
    · exact bk6_1 hx hv F hk fun q hq => by rw [← hq]; exact ⟨h1, h2⟩
    · cases h3 : nanB x.wd
      · exact bk6_3 hx hv F hk fun q hq => by rw [← hq]; exact ⟨h1, h2, h3⟩
      · exact bk6_2 hx hv F hk fun q hq => by rw [← hq]; exact ⟨h1, h2, h3⟩
  · exact bk6_0 hx hv F hk fun q hq => by rw [← hq]; exact h1

set_option maxRecDepth 100000 in
set_option maxHeartbeats 1000000 in
theorem bk_none {w : World} {B p : Nat} {s : Value} {xs : List UInt8} {st : St} {v : Value} {x : Th} (hx : x.Fine) (F : RdO w B p s xs st) (hk : ¬ (0 ≤ x.kind ∧ x.kind ≤ 7)) :
    Calls Try.prog 38 #[.pointer (some ⟨p, 0, none⟩), .agg (x.cells v).toArray] w fun e w' => e = .returned (.bool (backS xs x st).1) ∧ RdO w' B p s xs (backS xs x st).2 ∧ Keep (fun b => b = p) w w' := by
  have b1 : Below w.heap.size w (w.alloc (.cells (x.cells v).toArray 39)) := bl_alloc (Below.refl _ _) _
  have C := kb_cell (kb_new (w := w) rfl (.cells (x.cells v).toArray 39))
  have c0 := (C 0).trans (arr_get (Th.c0 x v))
  rw [back_no hk]
  obtain ⟨n, hn⟩ : ∃ n, x.kind = n := ⟨_, rfl⟩
  rw [hn] at c0 hk
  have k0 : (n == 0) = false := by simp; omega
  have k1 : (n == 1) = false := by simp; omega
  have k2 : (n == 2) = false := by simp; omega
  have k3 : (n == 3) = false := by simp; omega
  have k4 : (n == 4) = false := by simp; omega
  have k5 : (n == 5) = false := by simp; omega
  have k6 : (n == 6) = false := by simp; omega
  have k7 : (n == 7) = false := by simp; omega
  have HF := Lib.hid F
  have B1 := Lib.hid b1
  clear b1 F C hk hn
  generalize (x.cells v).toArray = T at *
  go_enter Try.func38, Try.ntmps38
  go_wp2_with fail
  go_ret
  exact ⟨rfl, HF.out.below B1.out, Keep.of_below B1.out⟩

theorem back_any {w : World} {B p : Nat} {s : Value} {xs : List UInt8} {st : St} {v : Value} {x : Th} (hx : x.Fine) (hv : ∀ W, Keep (fun b => b = p) w W → BytesOf W v x.b) (F : RdO w B p s xs st) :
    Calls Try.prog 38 #[.pointer (some ⟨p, 0, none⟩), .agg (x.cells v).toArray] w fun e w' => e = .returned (.bool (backS xs x st).1) ∧ RdO w' B p s xs (backS xs x st).2 ∧ Keep (fun b => b = p) w w' := by
  rcases kinds x with h | h | h | h | h | h | h | h | h
  · exact bk0_any hx hv F h
  · exact bk1_any hx hv F h
  · exact bk2_any hx hv F h
  · exact bk3_any hx hv F h
  · exact bk4_any hx hv F h
  · exact bk5_any hx hv F h
  · exact bk6_any hx hv F h
  · exact bk7_any hx hv F h
  · exact bk_none hx F h
end Go.Proofs.Ytajlcodlaalomaa
