/- awake. -/
import Derived.Test.YtmfajippoielhaaDoorBl11
import Derived.Test.YtmfajippoielhaaDoorBl12
import Derived.Test.YtmfajippoielhaaDoorBl13
import Derived.Test.YtmfajippoielhaaDoorBBytesEq
import Derived.Lib.SlBytesConst
namespace Go.Proofs.YtmfajippoielhaaDoor
open Go.RowKit Go.Proofs.YtmfajippoielhaaDoor.Bl BigFrame
set_option linter.unusedSimpArgs false
set_option linter.unusedVariables false
attribute [local go_sem] cell_alloc_some frozen_alloc_some

theorem lit_none : (⟨#[54, 57, 50, 49, 55, 97, 51, 48, 55, 57, 57, 48, 56, 48, 57, 52, 101, 49, 49, 49, 50, 49, 100, 48, 52, 50, 51, 53, 52, 97, 55, 99, 49, 102, 53, 53, 98, 54, 52, 56, 50, 99, 97, 49, 97, 53, 49, 101, 49, 98, 50, 53, 48, 100, 102, 100, 49, 101, 100, 48, 101, 101, 102, 57]⟩ : ByteArray) = strB noneT := by kernel_rfl
theorem lit_abc : (⟨#[53, 48, 56, 99, 53, 101, 56, 99, 51, 50, 55, 99, 49, 52, 101, 50, 101, 49, 97, 55, 50, 98, 97, 51, 52, 101, 101, 98, 52, 53, 50, 102, 51, 55, 52, 53, 56, 98, 50, 48, 57, 101, 100, 54, 51, 97, 50, 57, 52, 100, 57, 57, 57, 98, 52, 99, 56, 54, 54, 55, 53, 57, 56, 50]⟩ : ByteArray) = strB abcT := by kernel_rfl
/-- The bytes of a, b, c. -/
def abcB : List UInt8 := [97, 98, 99]
theorem lit_row {w : World} {g : Nat} {fr : Nat × Nat} (h : w.heap[g]? = some (.cells #[.int .u8 97, .int .u8 98, .int .u8 99] 5 fr)) : BytesOf w (.slice (some ⟨g, 0, none⟩) 3 3) abcB := RowOf.lit (cap := 3) h rfl
set_option maxRecDepth 100000 in
set_option maxHeartbeats 400000 in
theorem awake_yes (w : World) : Calls Tryd.prog 9 #[] w fun e w' => e = .returned (.bool true) ∧ Below w.heap.size w w' := by
  go_enter Tryd.func9, Tryd.ntmps9
  go_wp2_with fail
  rw [lit_abc]
  refine (Read_any abcT _).mono ?_
  rintro e w1 ⟨rfl, b1⟩
  rw [read_abc]
  have B1 := Lib.hid b1
  have hal : (u8s (sumB [97, 98, 99])).length = 32 := by rw [u8s_len, sumB_len]
  have HA := Lib.hid (sum_abc)
  have HL := Lib.hid (sumB_len [97, 98, 99])
  clear b1
  go_wp2_with (first
    | (refine wpList_stnew_h (op := ⟨none, .store 26 _ _, _, _, _, _⟩) (cs := u8s (sumB [97, 98, 99])) rfl _ _ rfl rfl rfl rfl hal (u8s_one _) ?_))
  go_upto_region 2 with fail
  refine wp_world fun w2' hw => ?_
  have H2' : Hid (Hs w2' w1.heap.size (sumB [97, 98, 99]) ∧ Below w.heap.size w w2') := by rw [hw]; exact Lib.hid ⟨Cs.new rfl _, bl_alloc B1.out _⟩
  have H2 := Lib.hid (And.intro H2'.out.1.drew (bl_drew H2'.out.2))
  clear hw hal B1 H2'
  generalize w1.heap.size = g at *
  have HS := Lib.hid (show sumB abcB = sumB [97, 98, 99] from rfl)
  generalize sumB [97, 98, 99] = ha at *
  refine wp_region_held_drew (S := (fun W : World => W.rangeAt g 0 (u8s ha))) (by kernel_rfl) H2.out.1.range (fun hHeld => ?_)
  generalize w2'.drew = w2 at *
  refine wpAnyH_ready (rs := [0]) (by kernel_rfl) (by simp) (AllReadyH.cons (o := _) rfl (fun K hK => ?_) AllReadyH.nil)
  go_simp
  refine (SumB_any (b := []) (RowOf.nil _ 0) (by simp)).mono ?_
  rintro e w3 ⟨rfl, b3⟩
  have H3 := Lib.hid (And.intro (H2.out.1.below b3) (bl_then H2.out.2 b3))
  clear b3 H2
  refine hK.out _ _ H3.out.1.range (fun hHeld => ?_)
  clear hK K
  refine wpAnyH_ready (rs := [1]) (by kernel_rfl) (by simp) (AllReadyH.cons (o := _) rfl (fun K hK => ?_) AllReadyH.nil)
  go_simp
  refine (Text_any (sumB_len [])).mono ?_
  rintro e w4 ⟨rfl, b4⟩
  rw [sum_none, ← lit_none]
  have H4 := Lib.hid (And.intro (H3.out.1.below b4) (bl_then H3.out.2 b4))
  clear b4 H3
  refine hK.out _ _ H4.out.1.range (fun hHeld => ?_)
  clear hK K
  refine wpAnyH_take (i := 2) (oi := { dst := some 9, op := _, type := _, pos := _, after := _, guard := _ }) (v := ?_) rfl (by kernel_rfl) (by kernel_rfl) (by kernel_rfl) (fun _ _ _ h => h) (Or.inl ⟨by rfl, ?_⟩) hHeld ?_
  rotate_left
  · (intro w hSw; (try dsimp only at hSw); go_simp); all_goals with_reducible rfl
  try simp only [Act.put, List.setIfInBounds_toArray, List.set_cons_zero, List.set_cons_succ]
  refine wpAnyH_take (i := 3) (oi := { dst := some 10, op := _, type := _, pos := _, after := _, guard := _ }) (v := ?_) rfl (by kernel_rfl) (by kernel_rfl) (by kernel_rfl) (fun _ _ _ h => h) (Or.inl ⟨by rfl, ?_⟩) hHeld ?_
  rotate_left
  · (intro w hSw; (try dsimp only at hSw); go_simp); all_goals with_reducible rfl
  try simp only [Act.put, List.setIfInBounds_toArray, List.set_cons_zero, List.set_cons_succ]
  refine wpAnyH_ready (rs := [4]) (by kernel_rfl) (by simp) (AllReadyH.cons (o := _) rfl (fun K hK => ?_) AllReadyH.nil)
  go_simp
  refine hK.out _ _ (H4.out.1.below (bl_alloc (Below.refl _ _) _)).range (fun hHeld => ?_)
  clear hK K
  have kc := Lib.run_convert_bytes_const (P := Tryd.prog) w4 22 5 #[.int .u8 97, .int .u8 98, .int .u8 99] 3 3 Tryd.underlying22 Tryd.underlying5
  refine wpAnyH_ready (rs := [5]) (by kernel_rfl) (by simp) (AllReadyH.cons (o := _) rfl (fun K hK => ?_) AllReadyH.nil)
  go_simp
  clear kc
  have H5 : Hid (Hs (w4.alloc (.cells #[.int .u8 97, .int .u8 98, .int .u8 99] 5 (3, 4))) g ha ∧ Below w.heap.size w (w4.alloc (.cells #[.int .u8 97, .int .u8 98, .int .u8 99] 5 (3, 4)))) := Lib.hid ⟨H4.out.1.below (bl_alloc (Below.refl _ _) _), bl_alloc H4.out.2 _⟩
  have hrow := lit_row (w := w4.alloc (.cells #[.int .u8 97, .int .u8 98, .int .u8 99] 5 (3, 4))) (g := w4.heap.size) (kb_new rfl _)
  have HRow := Lib.hid hrow
  clear hrow H4
  refine hK.out _ _ H5.out.1.range (fun hHeld => ?_)
  clear hK K
  generalize w4.alloc (.cells #[.int .u8 97, .int .u8 98, .int .u8 99] 5 (3, 4)) = w5 at *
  refine wpAnyH_ready (rs := [6]) (by kernel_rfl) (by simp) (AllReadyH.cons (o := _) rfl (fun K hK => ?_) AllReadyH.nil)
  go_simp
  refine (SumB_any HRow.out (by decide)).mono ?_
  rintro e w6 ⟨rfl, b6⟩
  rw [HS.out]
  clear HRow
  have H6 := Lib.hid (And.intro (H5.out.1.below b6) (bl_then H5.out.2 b6))
  clear b6 H5
  refine hK.out _ _ H6.out.1.range (fun hHeld => ?_)
  clear hK K
  refine wpAnyH_ready (rs := [7]) (by kernel_rfl) (by simp) (AllReadyH.cons (o := _) rfl (fun K hK => ?_) AllReadyH.nil)
  go_simp
  refine (Text_any HL.out).mono ?_
  rintro e w7 ⟨rfl, b7⟩
  rw [HA.out, ← lit_abc]
  have H7 := Lib.hid (And.intro (H6.out.1.below b7) (bl_then H6.out.2 b7))
  clear b7 H6
  refine hK.out _ _ H7.out.1.range (fun hHeld => ?_)
  clear hK K
  refine wpAnyH_take (i := 8) (oi := { dst := some 15, op := _, type := _, pos := _, after := _, guard := _ }) (v := ?_) rfl (by kernel_rfl) (by kernel_rfl) (by kernel_rfl) (fun _ _ _ h => h) (Or.inl ⟨by rfl, ?_⟩) hHeld ?_
  rotate_left
  · (intro w hSw; (try dsimp only at hSw); go_simp); all_goals with_reducible rfl
  try simp only [Act.put, List.setIfInBounds_toArray, List.set_cons_zero, List.set_cons_succ]
  refine wpAnyH_take (i := 9) (oi := { dst := some 16, op := _, type := _, pos := _, after := _, guard := _ }) (v := ?_) rfl (by kernel_rfl) (by kernel_rfl) (by kernel_rfl) (fun _ _ _ h => h) (Or.inl ⟨by rfl, ?_⟩) hHeld ?_
  rotate_left
  · (intro w hSw; (try dsimp only at hSw); go_simp); all_goals with_reducible rfl
  try simp only [Act.put, List.setIfInBounds_toArray, List.set_cons_zero, List.set_cons_succ]
  refine wpAnyH_take (i := 10) (oi := { dst := some 17, op := _, type := _, pos := _, after := _, guard := _ }) (v := ?_) rfl (by kernel_rfl) (by kernel_rfl) (by kernel_rfl) (fun _ _ _ h => h) (Or.inl ⟨by rfl, ?_⟩) hHeld ?_
  rotate_left
  · (intro w hSw; (try dsimp only at hSw); go_simp); all_goals with_reducible rfl
  try simp only [Act.put, List.setIfInBounds_toArray, List.set_cons_zero, List.set_cons_succ]
  refine wpAnyH_take (i := 11) (oi := { dst := some 18, op := _, type := _, pos := _, after := _, guard := _ }) (v := _) rfl (by kernel_rfl) (by kernel_rfl) (by kernel_rfl) (fun _ _ _ h => h) (yieldsIf_load_mid (by rfl) 26 _ rfl g 0 rfl (u8s ha) _ (fun _ h => h) Tryd.underlying26 rfl (size_h.trans (by rw [u8s_len, HL.out]))) hHeld ?_
  try simp only [Act.put, List.setIfInBounds_toArray, List.set_cons_zero, List.set_cons_succ]
  refine wpAnyH_ready (rs := [12]) (by kernel_rfl) (by simp) (AllReadyH.cons (o := _) rfl (fun K hK => ?_) AllReadyH.nil)
  go_simp
  refine hK.out _ _ (H7.out.1.below (bl_alloc (Below.refl _ _) _)).range (fun hHeld => ?_)
  clear hK K
  have kc := Lib.run_convert_bytes_const (P := Tryd.prog) w7 22 5 #[.int .u8 97, .int .u8 98, .int .u8 99] 3 3 Tryd.underlying22 Tryd.underlying5
  refine wpAnyH_ready (rs := [13]) (by kernel_rfl) (by simp) (AllReadyH.cons (o := _) rfl (fun K hK => ?_) AllReadyH.nil)
  go_simp
  clear kc
  have H8 : Hid (Hs (w7.alloc (.cells #[.int .u8 97, .int .u8 98, .int .u8 99] 5 (3, 4))) g ha ∧ Below w.heap.size w (w7.alloc (.cells #[.int .u8 97, .int .u8 98, .int .u8 99] 5 (3, 4)))) := Lib.hid ⟨H7.out.1.below (bl_alloc (Below.refl _ _) _), bl_alloc H7.out.2 _⟩
  have hrow := lit_row (w := w7.alloc (.cells #[.int .u8 97, .int .u8 98, .int .u8 99] 5 (3, 4))) (g := w7.heap.size) (kb_new rfl _)
  have HRow := Lib.hid hrow
  clear hrow H7
  refine hK.out _ _ H8.out.1.range (fun hHeld => ?_)
  clear hK K
  generalize w7.alloc (.cells #[.int .u8 97, .int .u8 98, .int .u8 99] 5 (3, 4)) = w8 at *
  refine wpAnyH_ready (rs := [14]) (by kernel_rfl) (by simp) (AllReadyH.cons (o := _) rfl (fun K hK => ?_) AllReadyH.nil)
  go_simp
  refine (SumB_any HRow.out (by decide)).mono ?_
  rintro e w9 ⟨rfl, b9⟩
  rw [HS.out]
  clear HRow
  have H9 := Lib.hid (And.intro (H8.out.1.below b9) (bl_then H8.out.2 b9))
  clear b9 H8
  refine hK.out _ _ H9.out.1.range (fun hHeld => ?_)
  clear hK K
  have heq : ∀ W : World, (binOp .eql 26 (.agg (u8s ha).toArray) (.agg (u8s ha).toArray)).run Tryd.prog W = .ok (.bool true) W := fun W => by
    rw [run_eql_bytes Tryd.underlying26 ha ha HL.out HL.out W]; simp
  refine wpAnyH_take (i := 15) (oi := { dst := some 22, op := _, type := _, pos := _, after := _, guard := _ }) (v := ?_) rfl (by kernel_rfl) (by kernel_rfl) (by kernel_rfl) (fun _ _ _ h => h) (Or.inl ⟨by rfl, ?_⟩) hHeld ?_
  rotate_left
  · (intro w hSw; (try dsimp only at hSw); go_simp); all_goals with_reducible rfl
  try simp only [Act.put, List.setIfInBounds_toArray, List.set_cons_zero, List.set_cons_succ]
  refine wpAnyH_take (i := 16) (oi := { dst := some 23, op := _, type := _, pos := _, after := _, guard := _ }) (v := ?_) rfl (by kernel_rfl) (by kernel_rfl) (by kernel_rfl) (fun _ _ _ h => h) (Or.inl ⟨by rfl, ?_⟩) hHeld ?_
  rotate_left
  · (intro w hSw; (try dsimp only at hSw); go_simp); all_goals with_reducible rfl
  try simp only [Act.put, List.setIfInBounds_toArray, List.set_cons_zero, List.set_cons_succ]
  refine wpAnyH_take (i := 17) (oi := { dst := some 24, op := _, type := _, pos := _, after := _, guard := _ }) (v := ?_) rfl (by kernel_rfl) (by kernel_rfl) (by kernel_rfl) (fun _ _ _ h => h) (Or.inl ⟨by rfl, ?_⟩) hHeld ?_
  rotate_left
  · (intro w hSw; (try dsimp only at hSw); go_simp); all_goals with_reducible rfl
  try simp only [Act.put, List.setIfInBounds_toArray, List.set_cons_zero, List.set_cons_succ]
  refine wpAnyH_take (i := 18) (oi := { dst := some 25, op := _, type := _, pos := _, after := _, guard := _ }) (v := ?_) rfl (by kernel_rfl) (by kernel_rfl) (by kernel_rfl) (fun _ _ _ h => h) (Or.inl ⟨by rfl, ?_⟩) hHeld ?_
  rotate_left
  · (intro w hSw; (try dsimp only at hSw); go_simp); all_goals with_reducible rfl
  try simp only [Act.put, List.setIfInBounds_toArray, List.set_cons_zero, List.set_cons_succ]
  refine wpAnyH_take (i := 19) (oi := { dst := some 26, op := _, type := _, pos := _, after := _, guard := _ }) (v := ?_) rfl (by kernel_rfl) (by kernel_rfl) (by kernel_rfl) (fun _ _ _ h => h) (Or.inl ⟨by rfl, ?_⟩) hHeld ?_
  rotate_left
  · (intro w hSw; (try dsimp only at hSw); go_simp); all_goals with_reducible rfl
  try simp only [Act.put, List.setIfInBounds_toArray, List.set_cons_zero, List.set_cons_succ]
  refine wpAnyH_take (i := 20) (oi := { dst := some 27, op := _, type := _, pos := _, after := _, guard := _ }) (v := ?_) rfl (by kernel_rfl) (by kernel_rfl) (by kernel_rfl) (fun _ _ _ h => h) (Or.inl ⟨by rfl, ?_⟩) hHeld ?_
  rotate_left
  · (intro w hSw; (try dsimp only at hSw); go_simp); all_goals with_reducible rfl
  try simp only [Act.put, List.setIfInBounds_toArray, List.set_cons_zero, List.set_cons_succ]
  refine wpAnyH_take (i := 21) (oi := { dst := some 0, op := _, type := _, pos := _, after := _, guard := _ }) (v := ?_) rfl (by kernel_rfl) (by kernel_rfl) (by kernel_rfl) (fun _ _ _ h => h) (Or.inl ⟨by rfl, ?_⟩) hHeld ?_
  rotate_left
  · (intro w hSw; (try dsimp only at hSw); go_simp); all_goals with_reducible rfl
  try simp only [Act.put, List.setIfInBounds_toArray, List.set_cons_zero, List.set_cons_succ]
  refine wpAnyH_done (by kernel_rfl) ?_ _
  go_wp2_with fail
  go_ret
  exact ⟨rfl, H9.out.2⟩
end Go.Proofs.YtmfajippoielhaaDoor
