/- The law package's acts: is an act answered alike? -/
import Derived.Test.YtlnhofpjeinadaaPee21
namespace Go.Proofs.Ytlnhofpjeinadaa
open Go.RowKit Go.Proofs.Ytlnhofpjeinadaa.Pc BigFrame
attribute [local go_sem] run_store_float
set_option linter.unusedSimpArgs false
set_option linter.unusedVariables false

/-- Both sides, apart. -/
structure Both (w : World) (q g q' g' : Nat) (X : List Pr) : Prop where
  p : PQ w q g X
  r : RQ w q' g' X
  a : q ≠ g'
  b : q' ≠ g
  c : g ≠ g'
theorem Both.below {w w' : World} {q g q' g' : Nat} {X : List Pr} (h : Both w q g q' g' X) (k : Below w.heap.size w w') : Both w' q g q' g' X := ⟨h.p.below k, h.r.below k, h.a, h.b, h.c⟩
abbrev Gs (g g' : Nat) : Nat → Prop := fun b => b = g ∨ b = g'
theorem gs_l {g g' : Nat} {w w' : World} (k : Keep (fun b => b = g) w w') : Keep (Gs g g') w w' := k.mono fun b _ e => .inl e
theorem gs_r {g g' : Nat} {w w' : World} (k : Keep (fun b => b = g') w w') : Keep (Gs g g') w w' := k.mono fun b _ e => .inr e
theorem gs_then {g g' : Nat} {w w1 w2 : World} (k : Keep (Gs g g') w w1) (l : Keep (Gs g g') w1 w2) : Keep (Gs g g') w w2 := k.trans l fun b _ e => e
theorem fill_sum (most : Int) (L : List Pr) : (k : Nat) → (fillI most L k).length + (ofs (fillL most L k) 1).length = (ofs L 1).length
  | 0 => by simp [fillI, fillL]
  | k + 1 => by
    have ih := fill_sum most L k
    cases hf : fills most (fillL most L k)
    · simp only [fillI, fillL]
      rw [hf]
      simpa using ih
    · have h := fill_less hf
      have e : (fillI most L (k + 1)).length = (fillI most L k).length + 1 := by simp only [fillI]; rw [hf]; simp
      omega
/-- What acts leaves. -/
def ActPost (q g q' g' : Nat) (w : World) (e : Ending) (w' : World) : Prop := e = .returned (.bool true) ∧ ∃ X', Both w' q g q' g' X' ∧ Keep (Gs g g') w w'

set_option maxRecDepth 100000 in
set_option maxHeartbeats 2000000 in
theorem acts_move {w : World} {q g q' g' : Nat} {X : List Pr} (B : Both w q g q' g' X) (who n : Int) : Calls Try.prog 26 #[.pointer (some ⟨q, 0, none⟩), .pointer (some ⟨q', 0, none⟩), .agg #[.int .i64 0, .int .i64 who, .int .i64 n]] w (ActPost q g q' g' w) := by
  have b0 : Below w.heap.size w (w.alloc (.cells #[.int .i64 0, .int .i64 who, .int .i64 n] 48)) := bl_alloc (Below.refl _ _) _
  have D0 : (w.alloc (.cells #[.int .i64 0, .int .i64 who, .int .i64 n] 48)).heap[w.heap.size]? = some _ := kb_new rfl _
  have hg := B.p.ltg
  have hg' := B.r.ltg
  have HB0 := Lib.hid (B.below b0)
  have HB := Lib.hid (And.intro B.a (And.intro B.b B.c))
  clear B
  go_enter Try.func26, Try.ntmps26
  go_wp2_with fail
  generalize w.alloc (.cells #[.int .i64 0, .int .i64 who, .int .i64 n] 48) = w0 at *
  have HK0 := Lib.hid (Keep.of_below (S := Gs g g') b0)
  have HD := Lib.hid D0
  have hne : w.heap.size ≠ g := by omega
  have hne' : w.heap.size ≠ g' := by omega
  generalize hzz : w.heap.size = z at *
  clear b0 hg hg'
  refine wp_region_held_drew (S := (fun W : World => W.cell? ⟨z, 0, none⟩ = some (.int .i64 0) ∧ W.cell? ⟨z, 1, none⟩ = some (.int .i64 who) ∧ W.cell? ⟨z, 2, none⟩ = some (.int .i64 n))) (by kernel_rfl) ⟨kb_cell (kb_drew HD.out) 0, kb_cell (kb_drew HD.out) 1, kb_cell (kb_drew HD.out) 2⟩ (fun hHeld => ?_)
  refine wpAnyH_take (i := 0) (oi := { dst := some 17, op := _, type := _, pos := _, after := _, guard := _ }) (v := ?_) rfl (by kernel_rfl) (by kernel_rfl) (by kernel_rfl) (fun _ _ _ h => h) (Or.inl ⟨by rfl, ?_⟩) hHeld ?_
  rotate_left
  · (intro w hSw; (try dsimp only at hSw); go_simp); all_goals with_reducible rfl
  try simp only [Act.put, List.setIfInBounds_toArray, List.set_cons_zero, List.set_cons_succ]
  refine wpAnyH_take (i := 1) (oi := { dst := some 18, op := _, type := _, pos := _, after := _, guard := _ }) (v := ?_) rfl (by kernel_rfl) (by kernel_rfl) (by kernel_rfl) (fun _ _ _ h => h) (Or.inl ⟨by rfl, ?_⟩) hHeld ?_
  rotate_left
  · (intro w hSw; (try dsimp only at hSw); go_simp); all_goals with_reducible rfl
  try simp only [Act.put, List.setIfInBounds_toArray, List.set_cons_zero, List.set_cons_succ]
  refine wpAnyH_take (i := 2) (oi := { dst := some 19, op := _, type := _, pos := _, after := _, guard := _ }) (v := ?_) rfl (by kernel_rfl) (by kernel_rfl) (by kernel_rfl) (fun _ _ _ h => h) (Or.inl ⟨by rfl, ?_⟩) hHeld ?_
  rotate_left
  · (intro w hSw; (try dsimp only at hSw); go_simp); all_goals with_reducible rfl
  try simp only [Act.put, List.setIfInBounds_toArray, List.set_cons_zero, List.set_cons_succ]
  refine wpAnyH_take (i := 3) (oi := { dst := some 20, op := _, type := _, pos := _, after := _, guard := _ }) (v := ?_) rfl (by kernel_rfl) (by kernel_rfl) (by kernel_rfl) (fun _ _ _ h => h) (Or.inl ⟨by rfl, ?_⟩) hHeld ?_
  rotate_left
  · (intro w hSw; (try dsimp only at hSw); go_simp); all_goals with_reducible rfl
  try simp only [Act.put, List.setIfInBounds_toArray, List.set_cons_zero, List.set_cons_succ]
  refine wpAnyH_take (i := 4) (oi := { dst := some 21, op := _, type := _, pos := _, after := _, guard := _ }) (v := ?_) rfl (by kernel_rfl) (by kernel_rfl) (by kernel_rfl) (fun _ _ _ h => h) (Or.inl ⟨by rfl, ?_⟩) hHeld ?_
  rotate_left
  · (intro w hSw; (try dsimp only at hSw); go_simp); all_goals with_reducible rfl
  try simp only [Act.put, List.setIfInBounds_toArray, List.set_cons_zero, List.set_cons_succ]
  refine wpAnyH_take (i := 6) (oi := { dst := some 23, op := _, type := _, pos := _, after := _, guard := _ }) (v := ?_) rfl (by kernel_rfl) (by kernel_rfl) (by kernel_rfl) (fun _ _ _ h => h) (Or.inl ⟨by rfl, ?_⟩) hHeld ?_
  rotate_left
  · (intro w hSw; (try dsimp only at hSw); go_simp); all_goals with_reducible rfl
  try simp only [Act.put, List.setIfInBounds_toArray, List.set_cons_zero, List.set_cons_succ]
  refine wpAnyH_take (i := 7) (oi := { dst := some 24, op := _, type := _, pos := _, after := _, guard := _ }) (v := ?_) rfl (by kernel_rfl) (by kernel_rfl) (by kernel_rfl) (fun _ _ _ h => h) (Or.inl ⟨by rfl, ?_⟩) hHeld ?_
  rotate_left
  · (intro w hSw; (try dsimp only at hSw); go_simp); all_goals with_reducible rfl
  try simp only [Act.put, List.setIfInBounds_toArray, List.set_cons_zero, List.set_cons_succ]
  refine wpAnyH_take (i := 8) (oi := { dst := some 25, op := _, type := _, pos := _, after := _, guard := _ }) (v := ?_) rfl (by kernel_rfl) (by kernel_rfl) (by kernel_rfl) (fun _ _ _ h => h) (Or.inl ⟨by rfl, ?_⟩) hHeld ?_
  rotate_left
  · (intro w hSw; (try dsimp only at hSw); go_simp); all_goals with_reducible rfl
  try simp only [Act.put, List.setIfInBounds_toArray, List.set_cons_zero, List.set_cons_succ]
  refine wpAnyH_take (i := 9) (oi := { dst := some 26, op := _, type := _, pos := _, after := _, guard := _ }) (v := ?_) rfl (by kernel_rfl) (by kernel_rfl) (by kernel_rfl) (fun _ _ _ h => h) (Or.inl ⟨by rfl, ?_⟩) hHeld ?_
  rotate_left
  · (intro w hSw; (try dsimp only at hSw); go_simp); all_goals with_reducible rfl
  try simp only [Act.put, List.setIfInBounds_toArray, List.set_cons_zero, List.set_cons_succ]
  refine wpAnyH_take (i := 10) (oi := { dst := some 27, op := _, type := _, pos := _, after := _, guard := _ }) (v := ?_) rfl (by kernel_rfl) (by kernel_rfl) (by kernel_rfl) (fun _ _ _ h => h) (Or.inl ⟨by rfl, ?_⟩) hHeld ?_
  rotate_left
  · (intro w hSw; (try dsimp only at hSw); go_simp); all_goals with_reducible rfl
  try simp only [Act.put, List.setIfInBounds_toArray, List.set_cons_zero, List.set_cons_succ]
  refine wpAnyH_ready (rs := [5]) (by kernel_rfl) (by simp) (AllReadyH.cons (o := _) rfl (fun K hK => ?_) AllReadyH.nil)
  go_simp
  refine (qMove_q (HB0.out.p.below (bl_drew (Below.refl _ _))) who n).mono ?_
  rintro e w1 ⟨rfl, P1, k1⟩
  have D1 := k1.kb (kb_drew HD.out) hne
  have R1 := (HB0.out.r.below (bl_drew (Below.refl _ _))).keep k1 HB.out.2.1 (fun e => HB.out.2.2 e.symm)
  have HH1 := Lib.hid (And.intro P1 (And.intro R1 k1))
  refine hK.out _ _ ⟨kb_cell D1 0, kb_cell D1 1, kb_cell D1 2⟩ (fun hHeld => ?_)
  clear hK K P1 k1 R1
  refine wpAnyH_ready (rs := [11]) (by kernel_rfl) (by simp) (AllReadyH.cons (o := _) rfl (fun K hK => ?_) AllReadyH.nil)
  go_simp
  refine (rMove_q HH1.out.2.1 who n).mono ?_
  rintro e w2 ⟨rfl, R2, k2⟩
  have D2 := k2.kb D1 hne'
  have P2 := HH1.out.1.keep k2 HB.out.1 HB.out.2.2
  have HB2 := Lib.hid (Both.mk P2 R2 HB.out.1 HB.out.2.1 HB.out.2.2)
  have HK2 := Lib.hid (gs_then (gs_then HK0.out.drew (gs_l HH1.out.2.2)) (gs_r k2))
  refine hK.out _ _ ⟨kb_cell D2 0, kb_cell D2 1, kb_cell D2 2⟩ (fun hHeld => ?_)
  clear hK K P2 k2 R2
  generalize moveE X who n = ee at *
  have he : (ee == ee) = true := by simp
  refine wpAnyH_take (i := 12) (oi := { dst := some 29, op := _, type := _, pos := _, after := _, guard := _ }) (v := ?_) rfl (by kernel_rfl) (by kernel_rfl) (by kernel_rfl) (fun _ _ _ h => h) (Or.inl ⟨by rfl, ?_⟩) hHeld ?_
  rotate_left
  · (intro w hSw; (try dsimp only at hSw); go_simp); all_goals with_reducible rfl
  try simp only [Act.put, List.setIfInBounds_toArray, List.set_cons_zero, List.set_cons_succ]
  refine wpAnyH_take (i := 13) (oi := { dst := some 6, op := _, type := _, pos := _, after := _, guard := _ }) (v := ?_) rfl (by kernel_rfl) (by kernel_rfl) (by kernel_rfl) (fun _ _ _ h => h) (Or.inl ⟨by rfl, ?_⟩) hHeld ?_
  rotate_left
  · (intro w hSw; (try dsimp only at hSw); go_simp); all_goals with_reducible rfl
  try simp only [Act.put, List.setIfInBounds_toArray, List.set_cons_zero, List.set_cons_succ]
  refine wpAnyH_done (by kernel_rfl) ?_ _
  clear HH1 HB0 HK0 HB D1 D2 hHeld
  go_wp2
  go_ret
  exact ⟨ret_bool (by simp), _, HB2.out, HK2.out⟩

set_option maxRecDepth 100000 in
set_option maxHeartbeats 2000000 in
theorem acts_praise {w : World} {q g q' g' : Nat} {X : List Pr} (B : Both w q g q' g' X) (who n : Int) : Calls Try.prog 26 #[.pointer (some ⟨q, 0, none⟩), .pointer (some ⟨q', 0, none⟩), .agg #[.int .i64 4, .int .i64 who, .int .i64 n]] w (ActPost q g q' g' w) := by
  have b0 : Below w.heap.size w (w.alloc (.cells #[.int .i64 4, .int .i64 who, .int .i64 n] 48)) := bl_alloc (Below.refl _ _) _
  have D0 : (w.alloc (.cells #[.int .i64 4, .int .i64 who, .int .i64 n] 48)).heap[w.heap.size]? = some _ := kb_new rfl _
  have hg := B.p.ltg
  have hg' := B.r.ltg
  have HB0 := Lib.hid (B.below b0)
  have HB := Lib.hid (And.intro B.a (And.intro B.b B.c))
  clear B
  go_enter Try.func26, Try.ntmps26
  go_wp2_with fail
  generalize w.alloc (.cells #[.int .i64 4, .int .i64 who, .int .i64 n] 48) = w0 at *
  have HK0 := Lib.hid (Keep.of_below (S := Gs g g') b0)
  have HD := Lib.hid D0
  have hne : w.heap.size ≠ g := by omega
  have hne' : w.heap.size ≠ g' := by omega
  generalize hzz : w.heap.size = z at *
  clear b0 hg hg'
  refine wp_region_held_drew (S := (fun W : World => W.cell? ⟨z, 0, none⟩ = some (.int .i64 4) ∧ W.cell? ⟨z, 1, none⟩ = some (.int .i64 who) ∧ W.cell? ⟨z, 2, none⟩ = some (.int .i64 n))) (by kernel_rfl) ⟨kb_cell (kb_drew HD.out) 0, kb_cell (kb_drew HD.out) 1, kb_cell (kb_drew HD.out) 2⟩ (fun hHeld => ?_)
  refine wpAnyH_take (i := 0) (oi := { dst := some 78, op := _, type := _, pos := _, after := _, guard := _ }) (v := ?_) rfl (by kernel_rfl) (by kernel_rfl) (by kernel_rfl) (fun _ _ _ h => h) (Or.inl ⟨by rfl, ?_⟩) hHeld ?_
  rotate_left
  · (intro w hSw; (try dsimp only at hSw); go_simp); all_goals with_reducible rfl
  try simp only [Act.put, List.setIfInBounds_toArray, List.set_cons_zero, List.set_cons_succ]
  refine wpAnyH_take (i := 1) (oi := { dst := some 79, op := _, type := _, pos := _, after := _, guard := _ }) (v := ?_) rfl (by kernel_rfl) (by kernel_rfl) (by kernel_rfl) (fun _ _ _ h => h) (Or.inl ⟨by rfl, ?_⟩) hHeld ?_
  rotate_left
  · (intro w hSw; (try dsimp only at hSw); go_simp); all_goals with_reducible rfl
  try simp only [Act.put, List.setIfInBounds_toArray, List.set_cons_zero, List.set_cons_succ]
  refine wpAnyH_take (i := 2) (oi := { dst := some 80, op := _, type := _, pos := _, after := _, guard := _ }) (v := ?_) rfl (by kernel_rfl) (by kernel_rfl) (by kernel_rfl) (fun _ _ _ h => h) (Or.inl ⟨by rfl, ?_⟩) hHeld ?_
  rotate_left
  · (intro w hSw; (try dsimp only at hSw); go_simp); all_goals with_reducible rfl
  try simp only [Act.put, List.setIfInBounds_toArray, List.set_cons_zero, List.set_cons_succ]
  refine wpAnyH_take (i := 3) (oi := { dst := some 81, op := _, type := _, pos := _, after := _, guard := _ }) (v := ?_) rfl (by kernel_rfl) (by kernel_rfl) (by kernel_rfl) (fun _ _ _ h => h) (Or.inl ⟨by rfl, ?_⟩) hHeld ?_
  rotate_left
  · (intro w hSw; (try dsimp only at hSw); go_simp); all_goals with_reducible rfl
  try simp only [Act.put, List.setIfInBounds_toArray, List.set_cons_zero, List.set_cons_succ]
  refine wpAnyH_take (i := 4) (oi := { dst := some 82, op := _, type := _, pos := _, after := _, guard := _ }) (v := ?_) rfl (by kernel_rfl) (by kernel_rfl) (by kernel_rfl) (fun _ _ _ h => h) (Or.inl ⟨by rfl, ?_⟩) hHeld ?_
  rotate_left
  · (intro w hSw; (try dsimp only at hSw); go_simp); all_goals with_reducible rfl
  try simp only [Act.put, List.setIfInBounds_toArray, List.set_cons_zero, List.set_cons_succ]
  refine wpAnyH_take (i := 6) (oi := { dst := some 84, op := _, type := _, pos := _, after := _, guard := _ }) (v := ?_) rfl (by kernel_rfl) (by kernel_rfl) (by kernel_rfl) (fun _ _ _ h => h) (Or.inl ⟨by rfl, ?_⟩) hHeld ?_
  rotate_left
  · (intro w hSw; (try dsimp only at hSw); go_simp); all_goals with_reducible rfl
  try simp only [Act.put, List.setIfInBounds_toArray, List.set_cons_zero, List.set_cons_succ]
  refine wpAnyH_take (i := 7) (oi := { dst := some 85, op := _, type := _, pos := _, after := _, guard := _ }) (v := ?_) rfl (by kernel_rfl) (by kernel_rfl) (by kernel_rfl) (fun _ _ _ h => h) (Or.inl ⟨by rfl, ?_⟩) hHeld ?_
  rotate_left
  · (intro w hSw; (try dsimp only at hSw); go_simp); all_goals with_reducible rfl
  try simp only [Act.put, List.setIfInBounds_toArray, List.set_cons_zero, List.set_cons_succ]
  refine wpAnyH_take (i := 8) (oi := { dst := some 86, op := _, type := _, pos := _, after := _, guard := _ }) (v := ?_) rfl (by kernel_rfl) (by kernel_rfl) (by kernel_rfl) (fun _ _ _ h => h) (Or.inl ⟨by rfl, ?_⟩) hHeld ?_
  rotate_left
  · (intro w hSw; (try dsimp only at hSw); go_simp); all_goals with_reducible rfl
  try simp only [Act.put, List.setIfInBounds_toArray, List.set_cons_zero, List.set_cons_succ]
  refine wpAnyH_take (i := 9) (oi := { dst := some 87, op := _, type := _, pos := _, after := _, guard := _ }) (v := ?_) rfl (by kernel_rfl) (by kernel_rfl) (by kernel_rfl) (fun _ _ _ h => h) (Or.inl ⟨by rfl, ?_⟩) hHeld ?_
  rotate_left
  · (intro w hSw; (try dsimp only at hSw); go_simp); all_goals with_reducible rfl
  try simp only [Act.put, List.setIfInBounds_toArray, List.set_cons_zero, List.set_cons_succ]
  refine wpAnyH_take (i := 10) (oi := { dst := some 88, op := _, type := _, pos := _, after := _, guard := _ }) (v := ?_) rfl (by kernel_rfl) (by kernel_rfl) (by kernel_rfl) (fun _ _ _ h => h) (Or.inl ⟨by rfl, ?_⟩) hHeld ?_
  rotate_left
  · (intro w hSw; (try dsimp only at hSw); go_simp); all_goals with_reducible rfl
  try simp only [Act.put, List.setIfInBounds_toArray, List.set_cons_zero, List.set_cons_succ]
  refine wpAnyH_ready (rs := [5]) (by kernel_rfl) (by simp) (AllReadyH.cons (o := _) rfl (fun K hK => ?_) AllReadyH.nil)
  go_simp
  refine (qPraise_q (HB0.out.p.below (bl_drew (Below.refl _ _))) who n).mono ?_
  rintro e w1 ⟨rfl, P1, k1⟩
  have D1 := k1.kb (kb_drew HD.out) hne
  have R1 := (HB0.out.r.below (bl_drew (Below.refl _ _))).keep k1 HB.out.2.1 (fun e => HB.out.2.2 e.symm)
  have HH1 := Lib.hid (And.intro P1 (And.intro R1 k1))
  refine hK.out _ _ ⟨kb_cell D1 0, kb_cell D1 1, kb_cell D1 2⟩ (fun hHeld => ?_)
  clear hK K P1 k1 R1
  refine wpAnyH_ready (rs := [11]) (by kernel_rfl) (by simp) (AllReadyH.cons (o := _) rfl (fun K hK => ?_) AllReadyH.nil)
  go_simp
  refine (rPraise_q HH1.out.2.1 who n).mono ?_
  rintro e w2 ⟨rfl, R2, k2⟩
  have D2 := k2.kb D1 hne'
  have P2 := HH1.out.1.keep k2 HB.out.1 HB.out.2.2
  have HB2 := Lib.hid (Both.mk P2 R2 HB.out.1 HB.out.2.1 HB.out.2.2)
  have HK2 := Lib.hid (gs_then (gs_then HK0.out.drew (gs_l HH1.out.2.2)) (gs_r k2))
  refine hK.out _ _ ⟨kb_cell D2 0, kb_cell D2 1, kb_cell D2 2⟩ (fun hHeld => ?_)
  clear hK K P2 k2 R2
  generalize praiseE X who n = ee at *
  have he : (ee == ee) = true := by simp
  refine wpAnyH_take (i := 12) (oi := { dst := some 90, op := _, type := _, pos := _, after := _, guard := _ }) (v := ?_) rfl (by kernel_rfl) (by kernel_rfl) (by kernel_rfl) (fun _ _ _ h => h) (Or.inl ⟨by rfl, ?_⟩) hHeld ?_
  rotate_left
  · (intro w hSw; (try dsimp only at hSw); go_simp); all_goals with_reducible rfl
  try simp only [Act.put, List.setIfInBounds_toArray, List.set_cons_zero, List.set_cons_succ]
  refine wpAnyH_take (i := 13) (oi := { dst := some 6, op := _, type := _, pos := _, after := _, guard := _ }) (v := ?_) rfl (by kernel_rfl) (by kernel_rfl) (by kernel_rfl) (fun _ _ _ h => h) (Or.inl ⟨by rfl, ?_⟩) hHeld ?_
  rotate_left
  · (intro w hSw; (try dsimp only at hSw); go_simp); all_goals with_reducible rfl
  try simp only [Act.put, List.setIfInBounds_toArray, List.set_cons_zero, List.set_cons_succ]
  refine wpAnyH_done (by kernel_rfl) ?_ _
  clear HH1 HB0 HK0 HB D1 D2 hHeld
  go_wp2
  go_ret
  exact ⟨ret_bool (by simp), _, HB2.out, HK2.out⟩

set_option maxRecDepth 100000 in
set_option maxHeartbeats 2000000 in
theorem acts_next {w : World} {q g q' g' : Nat} {X : List Pr} (B : Both w q g q' g' X) (who n : Int) : Calls Try.prog 26 #[.pointer (some ⟨q, 0, none⟩), .pointer (some ⟨q', 0, none⟩), .agg #[.int .i64 1, .int .i64 who, .int .i64 n]] w (ActPost q g q' g' w) := by
  have b0 : Below w.heap.size w (w.alloc (.cells #[.int .i64 1, .int .i64 who, .int .i64 n] 48)) := bl_alloc (Below.refl _ _) _
  have D0 : (w.alloc (.cells #[.int .i64 1, .int .i64 who, .int .i64 n] 48)).heap[w.heap.size]? = some _ := kb_new rfl _
  have hg := B.p.ltg
  have hg' := B.r.ltg
  have HB0 := Lib.hid (B.below b0)
  have HB := Lib.hid (And.intro B.a (And.intro B.b B.c))
  clear B
  go_enter Try.func26, Try.ntmps26
  go_wp2_with fail
  generalize w.alloc (.cells #[.int .i64 1, .int .i64 who, .int .i64 n] 48) = w0 at *
  have HK0 := Lib.hid (Keep.of_below (S := Gs g g') b0)
  have HD := Lib.hid D0
  have hne : w.heap.size ≠ g := by omega
  have hne' : w.heap.size ≠ g' := by omega
  generalize hzz : w.heap.size = z at *
  clear b0 hg hg'
  refine (qNext_q HB0.out.p).mono ?_
  rintro e w1 ⟨rfl, P1, k1⟩
  have R1 := HB0.out.r.keep k1 HB.out.2.1 (fun e => HB.out.2.2 e.symm)
  have HH1 := Lib.hid (And.intro P1 (And.intro R1 k1))
  clear P1 k1 R1
  go_wp2_with fail
  refine (rNext_q HH1.out.2.1).mono ?_
  rintro e w2 ⟨rfl, R2, k2⟩
  have P2 := HH1.out.1.keep k2 HB.out.1 HB.out.2.2
  have HB2 := Lib.hid (Both.mk P2 R2 HB.out.1 HB.out.2.1 HB.out.2.2)
  have HK2 := Lib.hid (gs_then (gs_then HK0.out (gs_l HH1.out.2.2)) (gs_r k2))
  clear P2 k2 R2
  have he : (nextI X == nextI X) = true := by simp
  generalize nextI X = ee at *
  go_wp2
  go_ret
  exact ⟨ret_bool (by simp), _, HB2.out, HK2.out⟩

set_option maxRecDepth 100000 in
set_option maxHeartbeats 2000000 in
theorem acts_strike {w : World} {q g q' g' : Nat} {X : List Pr} (B : Both w q g q' g' X) (who n : Int) : Calls Try.prog 26 #[.pointer (some ⟨q, 0, none⟩), .pointer (some ⟨q', 0, none⟩), .agg #[.int .i64 3, .int .i64 who, .int .i64 n]] w (ActPost q g q' g' w) := by
  have b0 : Below w.heap.size w (w.alloc (.cells #[.int .i64 3, .int .i64 who, .int .i64 n] 48)) := bl_alloc (Below.refl _ _) _
  have D0 : (w.alloc (.cells #[.int .i64 3, .int .i64 who, .int .i64 n] 48)).heap[w.heap.size]? = some _ := kb_new rfl _
  have hg := B.p.ltg
  have hg' := B.r.ltg
  have HB0 := Lib.hid (B.below b0)
  have HB := Lib.hid (And.intro B.a (And.intro B.b B.c))
  clear B
  go_enter Try.func26, Try.ntmps26
  go_wp2_with fail
  generalize w.alloc (.cells #[.int .i64 3, .int .i64 who, .int .i64 n] 48) = w0 at *
  have HK0 := Lib.hid (Keep.of_below (S := Gs g g') b0)
  have HD := Lib.hid D0
  have hne : w.heap.size ≠ g := by omega
  have hne' : w.heap.size ≠ g' := by omega
  generalize hzz : w.heap.size = z at *
  clear b0 hg hg'
  refine (qStrike_q HB0.out.p who).mono ?_
  rintro e w1 ⟨rfl, P1, k1⟩
  have R1 := HB0.out.r.keep k1 HB.out.2.1 (fun e => HB.out.2.2 e.symm)
  have HH1 := Lib.hid (And.intro P1 (And.intro R1 k1))
  have D1 := k1.kb HD.out hne
  have m1 := (kb_cell D1 1).trans rfl
  clear P1 k1 R1
  go_wp2_with fail
  refine (rStrike_q HH1.out.2.1 who).mono ?_
  rintro e w2 ⟨rfl, R2, k2⟩
  have P2 := HH1.out.1.keep k2 HB.out.1 HB.out.2.2
  have HB2 := Lib.hid (Both.mk P2 R2 HB.out.1 HB.out.2.1 HB.out.2.2)
  have HK2 := Lib.hid (gs_then (gs_then HK0.out (gs_l HH1.out.2.2)) (gs_r k2))
  clear P2 k2 R2
  have he : (strikeI X who == strikeI X who) = true := by simp
  have hf : (strikeE X who == strikeE X who) = true := by simp
  generalize strikeI X who = e1 at *
  generalize strikeE X who = e2 at *
  go_wp2
  go_ret
  exact ⟨ret_bool (by simp), _, HB2.out, HK2.out⟩

set_option maxRecDepth 100000 in
set_option maxHeartbeats 2000000 in
theorem acts_fill {w : World} {q g q' g' : Nat} {X : List Pr} (B : Both w q g q' g' X) (who n : Int) : Calls Try.prog 26 #[.pointer (some ⟨q, 0, none⟩), .pointer (some ⟨q', 0, none⟩), .agg #[.int .i64 2, .int .i64 who, .int .i64 n]] w (ActPost q g q' g' w) := by
  have b0 : Below w.heap.size w (w.alloc (.cells #[.int .i64 2, .int .i64 who, .int .i64 n] 48)) := bl_alloc (Below.refl _ _) _
  have D0 : (w.alloc (.cells #[.int .i64 2, .int .i64 who, .int .i64 n] 48)).heap[w.heap.size]? = some _ := kb_new rfl _
  have hg := B.p.ltg
  have hg' := B.r.ltg
  have HB0 := Lib.hid (B.below b0)
  have HB := Lib.hid (And.intro B.a (And.intro B.b B.c))
  clear B
  obtain ⟨j, hj⟩ := fills_end n X
  have HJ := Lib.hid hj
  have hz : w.heap.size < (w.alloc (.cells #[.int .i64 2, .int .i64 who, .int .i64 n] 48)).heap.size := by simp
  have HL := Lib.hid (show (fillI n X j).length ≤ 1000 by have h := fill_sum n X j; have := ofs_len X 1; have := HB0.out.p.hi; omega)
  clear hj
  go_enter Try.func26, Try.ntmps26
  go_wp2_with fail
  generalize w.alloc (.cells #[.int .i64 2, .int .i64 who, .int .i64 n] 48) = w0 at *
  have HK0 := Lib.hid (Keep.of_below (S := Gs g g') b0)
  have HD := Lib.hid D0
  have hne : w.heap.size ≠ g := by omega
  have hne' : w.heap.size ≠ g' := by omega
  generalize hzz : w.heap.size = z at *
  clear b0 hg hg'
  refine (qFill_q HB0.out.p n j HJ.out).mono ?_
  rintro e w1 ⟨v1, rfl, o1, P1, k1⟩
  have R1 := HB0.out.r.keep k1 HB.out.2.1 (fun e => HB.out.2.2 e.symm)
  have O1 := Lib.hid o1
  have HH1 := Lib.hid (And.intro P1 (And.intro R1 k1))
  have D1 := k1.kb HD.out hne
  have m1 := (kb_cell D1 2).trans rfl
  clear P1 k1 R1 o1
  go_wp2_with fail
  refine (rFill_q HH1.out.2.1 n j HJ.out).mono ?_
  rintro e w2 ⟨v2, rfl, o2, R2, k2⟩
  have P2 := HH1.out.1.keep k2 HB.out.1 HB.out.2.2
  have hgl := HB0.out.r.ltg
  have hgp := HB0.out.p.ltg
  have hql := HB0.out.r.ltq
  have hqp := HB0.out.p.ltq
  have O1' := Lib.hid (k2.row O1.out (fun b hb e => by have := (O1.out.lt b hb).1; omega))
  have HB2 := Lib.hid (Both.mk P2 R2 HB.out.1 HB.out.2.1 HB.out.2.2)
  have HK2 := Lib.hid (gs_then (gs_then HK0.out (gs_l HH1.out.2.2)) (gs_r k2))
  have O2 := Lib.hid o2
  clear P2 k2 R2 o2
  go_wp2_with fail
  refine (SameInts_any (xs := fillI n X j) (ys := fillI n X j) (rowOf_own O1'.out (Below.refl _ _)) (rowOf_own O2.out (Below.refl _ _)) (by have := HL.out; omega) (by have := HL.out; omega)).mono ?_
  rintro e w3 ⟨rfl, b3⟩
  rw [show (fillI n X j == fillI n X j) = true from beq_self_eq_true _]
  have O3 := Lib.hid (own_bl O1'.out b3)
  have HB3 := Lib.hid (HB2.out.below b3)
  have HK3 := Lib.hid (HK2.out.then_below b3)
  go_wp2_with fail
  refine (OverInts_any O3.out HL.out).mono ?_
  rintro e w4 ⟨rfl, k4⟩
  have hv : ∀ b, v1.ownBlock = some b → w0.heap.size ≤ b := fun b hb => (O3.out.lt b hb).1
  have HB4 := Lib.hid (Both.mk (HB3.out.p.keep k4 (fun h => by have := hv _ h; omega) (fun h => by have := hv _ h; omega)) (HB3.out.r.keep k4 (fun h => by have := hv _ h; omega) (fun h => by have := hv _ h; omega)) HB.out.1 HB.out.2.1 HB.out.2.2)
  have HK4 := Lib.hid (HK3.out.trans k4 (fun b hb h => by have := hv _ h; omega))
  clear k4 hv b3
  go_wp2
  go_ret
  exact ⟨rfl, _, HB4.out, HK4.out⟩

set_option maxRecDepth 100000 in
set_option maxHeartbeats 2000000 in
theorem acts_else {w : World} {q g q' g' : Nat} {X : List Pr} (B : Both w q g q' g' X) (k : Int) (h0 : k ≠ 0) (h1 : k ≠ 1) (h2 : k ≠ 2) (h3 : k ≠ 3) (h4 : k ≠ 4) (who n : Int) : Calls Try.prog 26 #[.pointer (some ⟨q, 0, none⟩), .pointer (some ⟨q', 0, none⟩), .agg #[.int .i64 k, .int .i64 who, .int .i64 n]] w (ActPost q g q' g' w) := by
  have b0 : Below w.heap.size w (w.alloc (.cells #[.int .i64 k, .int .i64 who, .int .i64 n] 48)) := bl_alloc (Below.refl _ _) _
  have D0 : (w.alloc (.cells #[.int .i64 k, .int .i64 who, .int .i64 n] 48)).heap[w.heap.size]? = some _ := kb_new rfl _
  have hg := B.p.ltg
  have hg' := B.r.ltg
  have HB0 := Lib.hid (B.below b0)
  have HB := Lib.hid (And.intro B.a (And.intro B.b B.c))
  clear B
  have e0 : (k == 0) = false := by simp [h0]
  have e1 : (k == 1) = false := by simp [h1]
  have e2 : (k == 2) = false := by simp [h2]
  have e3 : (k == 3) = false := by simp [h3]
  have e4 : (k == 4) = false := by simp [h4]
  go_enter Try.func26, Try.ntmps26
  go_wp2
  go_ret
  exact ⟨rfl, _, HB0.out, Keep.of_below b0⟩

theorem acts_any {w : World} {q g q' g' : Nat} {X : List Pr} (B : Both w q g q' g' X) (k who n : Int) : Calls Try.prog 26 #[.pointer (some ⟨q, 0, none⟩), .pointer (some ⟨q', 0, none⟩), .agg #[.int .i64 k, .int .i64 who, .int .i64 n]] w (ActPost q g q' g' w) := by
  by_cases h0 : k = 0
  · subst h0; exact acts_move B who n
  by_cases h1 : k = 1
  · subst h1; exact acts_next B who n
  by_cases h2 : k = 2
  · subst h2; exact acts_fill B who n
  by_cases h3 : k = 3
  · subst h3; exact acts_strike B who n
  by_cases h4 : k = 4
  · subst h4; exact acts_praise B who n
  exact acts_else B k h0 h1 h2 h3 h4 who n
end Go.Proofs.Ytlnhofpjeinadaa
