/- PaceKnown: the chapter's examples. -/
import Derived.Test.YtgjampkdnpdblaaDoorPaceD9
namespace Go.Proofs.YtgjampkdnpdblaaDoor
open Go.RowKit Go.Proofs.YtgjampkdnpdblaaDoor.Pc BigFrame
set_option linter.unusedSimpArgs false
set_option linter.unusedVariables false

theorem form_t (n : Nat) (h : badF n = true) (w : World) : Calls Tryd.prog 23 #[.int .u64 n] w fun e w' => e = .returned (.bool true) ∧ w = w' := by
  have HO := Lib.hid (show ∀ W : World, Calls Tryd.prog 10 #[.int .u64 n] W fun e w' => e = .returned (.tuple #[.float .f64 0, .int .i64 5]) ∧ W = w' from fun W => by
    have := Of_any n W
    unfold ofV ofE at this
    rw [h] at this
    exact this)
  clear h
  go_enter Tryd.func23, Tryd.ntmps23
  go_wp2_with (go_at_call 10; (with_reducible refine (HO.out _).mono ?_); rintro e w1 ⟨rfl, rfl⟩)
  go_ret
  exact ⟨rfl, rfl⟩
theorem refused_t (s : ByteArray) (h : okR s.data.toList = false) (w : World) : Calls Tryd.prog 24 #[.string s] w fun e w' => e = .returned (.bool true) ∧ Below w.heap.size w w' := by
  have HO := Lib.hid (show ∀ W : World, Calls Tryd.prog 12 #[.string s] W fun e w' => e = .returned (.tuple #[.float .f64 0, .int .i64 5]) ∧ Below W.heap.size W w' from fun W => by
    have := Read_any s W
    unfold readV readE at this
    rw [h] at this
    exact this)
  clear h
  go_enter Tryd.func24, Tryd.ntmps24
  go_wp2_with (go_at_call 12; (with_reducible refine (HO.out _).mono ?_); rintro e w1 ⟨rfl, hb1⟩; have hz1 := hb1.size)
  go_ret
  exact ⟨rfl, hb1⟩
theorem Read_t (s : ByteArray) (v : Nat) (er : Int) (h : readV s.data.toList = v ∧ readE s.data.toList = er) (w : World) : Calls Tryd.prog 12 #[.string s] w fun e w' => e = .returned (.tuple #[.float .f64 v, .int .i64 er]) ∧ Below w.heap.size w w' := by
  have := Read_any s w
  rw [h.1, h.2] at this
  exact this

theorem k_r1 (w : World) : Calls Tryd.prog 12 #[.string ⟨#[51, 102, 102, 48, 48, 48, 48, 48, 48, 48, 48, 48, 48, 48, 48, 48]⟩] w fun e w' => e = .returned (.tuple #[.float .f64 4607182418800017408, .int .i64 0]) ∧ Below w.heap.size w w' := Read_t _ _ _ (by decide +kernel) w
theorem k_c3 (w : World) : Calls Tryd.prog 22 #[.float .f64 9221120237041090561, .float .f64 9221120237041090561] w fun e w' => e = .returned (.int .i64 0) ∧ Below w.heap.size w w' := Compare_t _ _ _ (by decide) (by decide) (by decide +kernel) w
theorem k_c4 (w : World) : Calls Tryd.prog 22 #[.float .f64 4607182418800017408, .float .f64 4611686018427387904] w fun e w' => e = .returned (.int .i64 (-1)) ∧ Below w.heap.size w w' := Compare_t _ _ _ (by decide) (by decide) (by decide +kernel) w
theorem k_c5 (w : World) : Calls Tryd.prog 22 #[.float .f64 18442240474082181120, .float .f64 13830554455654793216] w fun e w' => e = .returned (.int .i64 (-1)) ∧ Below w.heap.size w w' := Compare_t _ _ _ (by decide) (by decide) (by decide +kernel) w
theorem k_b2 (w : World) : Calls Tryd.prog 14 #[.float .f64 9221120237041090561] w fun e w' => e = .returned (.int .u64 9221120237041090560) ∧ w = w' := Bits_t _ _ (by decide +kernel) w
theorem k_b3 (w : World) : Calls Tryd.prog 14 #[.float .f64 0] w fun e w' => e = .returned (.int .u64 0) ∧ w = w' := Bits_t _ _ (by decide +kernel) w
theorem k_f1 (w : World) : Calls Tryd.prog 23 #[.int .u64 9221120237041090561] w fun e w' => e = .returned (.bool true) ∧ w = w' := form_t 9221120237041090561 (by decide +kernel) w
theorem k_f2 (w : World) : Calls Tryd.prog 23 #[.int .u64 18444492273895866368] w fun e w' => e = .returned (.bool true) ∧ w = w' := form_t 18444492273895866368 (by decide +kernel) w
theorem k_n1 (w : World) : Calls Tryd.prog 24 #[.string ⟨#[51, 70, 70, 48, 48, 48, 48, 48, 48, 48, 48, 48, 48, 48, 48, 48]⟩] w fun e w' => e = .returned (.bool true) ∧ Below w.heap.size w w' := refused_t _ (by decide +kernel) w
theorem k_n2 (w : World) : Calls Tryd.prog 24 #[.string ⟨#[]⟩] w fun e w' => e = .returned (.bool true) ∧ Below w.heap.size w w' := refused_t _ (by decide +kernel) w
theorem k_s2 (w : World) : Calls Tryd.prog 25 #[.float .f64 9221120237041090561, .float .f64 9223372036854775808] w fun e w' => e = .returned (.float .f64 9223372036854775808) ∧ Below w.heap.size w w' := Smooth_t _ _ _ (by decide) (by decide +kernel) (by decide +kernel) w
theorem k_s3 (w : World) : Calls Tryd.prog 25 #[.float .f64 9223372036854775808, .float .f64 9223372036854775808] w fun e w' => e = .returned (.float .f64 0) ∧ Below w.heap.size w w' := Smooth_t _ _ _ (by decide) (by decide +kernel) (by decide +kernel) w
theorem k_s4 (w : World) : Calls Tryd.prog 25 #[.float .f64 0, .float .f64 9218868437227405312] w fun e w' => e = .returned (.float .f64 9218868437227405312) ∧ Below w.heap.size w w' := Smooth_t _ _ _ (by decide) (by decide +kernel) (by decide +kernel) w
theorem nan_like {r v : Nat} (h : canon r = canon v) (hv : nanB v = true) : nanB r = true := by rw [nan_of_canon h]; exact hv
theorem cmp_nan {r : Nat} (h : nanB r = true) (hr : r < 18446744073709551616) (w : World) : Calls Tryd.prog 22 #[.float .f64 r, .float .f64 9221120237041090561] w fun e w' => e = .returned (.int .i64 0) ∧ Below w.heap.size w w' :=
  Compare_t _ _ _ hr (by decide) (cmp_nn h (by decide +kernel)) w
theorem num_like {r v x : Nat} (h : canon r = canon v) (hx : canon v = x) (hn : nanB x = false) : r = x := by
  have h1 := nan_of_canon (h.trans (canon_canon v).symm)
  rw [hx, hn] at h1
  rw [canon_num h1, hx] at h
  exact h
theorem cells_lit {w : World} {b : Nat} {cs : Array Value} {t : TypeId} {fr : Nat × Nat} {xs : List Nat} (h : w.heap[b]? = some (.cells cs t fr)) (hc : cs.toList = xs.map fun x => .float .f64 x) : ∀ k, k < xs.length → w.cell? ⟨b, 0 + k, none⟩ = some (.float .f64 (xs.getD k 0)) := by
  intro k hk
  rw [Nat.zero_add, kb_cell h, ← Array.getElem?_toList, hc, List.getElem?_map, List.getD, List.getElem?_eq_getElem hk]
  rfl

set_option maxRecDepth 100000 in
set_option maxHeartbeats 8000000 in
theorem PaceKnown_any (w : World) : Calls Tryd.prog 4 #[] w fun e w' => e = .returned (.bool true) ∧ Below w.heap.size w w' := by
  have o1 : (FloatKind.f64.format.order 4607182418800017408 4607182418800017408 == some .eq) = true := by decide +kernel
  have o2 : (FloatKind.f64.format.order 9218868437227405312 9218868437227405312 == some .eq) = true := by decide +kernel
  have o3 : (FloatKind.f64.format.order 4621256167635550208 4621256167635550208 == some .eq) = true := by decide +kernel
  have hneg : ∀ W : World, (Op.unary .neg (.float .f64 9218868437227405312)).run Tryd.prog W = .ok (.float .f64 18442240474082181120) W := fun _ => by kernel_rfl
  go_enter Tryd.func4, Tryd.ntmps4
  go_wp2_with (first | (go_at_call 21; (with_reducible refine (NaN_any _).mono ?_); rintro e w1 ⟨rfl, rfl⟩) | (go_at_call 20; (with_reducible refine (Inf_any _).mono ?_); rintro e w1 ⟨rfl, rfl⟩) | (go_at_call 19; (with_reducible refine (Minus_any _).mono ?_); rintro e w1 ⟨rfl, rfl⟩) | (go_at_call 12; (with_reducible refine (k_r1 _).mono ?_); rintro e w1 ⟨rfl, hb1⟩; have hz1 := hb1.size) | (go_at_call 22; (with_reducible refine (k_c3 _).mono ?_); rintro e w1 ⟨rfl, hb1⟩; have hz1 := hb1.size) | (go_at_call 22; (with_reducible refine (k_c4 _).mono ?_); rintro e w1 ⟨rfl, hb1⟩; have hz1 := hb1.size) | (go_at_call 22; (with_reducible refine (k_c5 _).mono ?_); rintro e w1 ⟨rfl, hb1⟩; have hz1 := hb1.size) | (go_at_call 14; (with_reducible refine (k_b1 _).mono ?_); rintro e w1 ⟨rfl, rfl⟩) | (go_at_call 14; (with_reducible refine (k_b2 _).mono ?_); rintro e w1 ⟨rfl, rfl⟩) | (go_at_call 14; (with_reducible refine (k_b3 _).mono ?_); rintro e w1 ⟨rfl, rfl⟩) | (go_at_call 23; (with_reducible refine (k_f1 _).mono ?_); rintro e w1 ⟨rfl, rfl⟩) | (go_at_call 23; (with_reducible refine (k_f2 _).mono ?_); rintro e w1 ⟨rfl, rfl⟩) | (go_at_call 24; (with_reducible refine (k_n1 _).mono ?_); rintro e w1 ⟨rfl, hb1⟩; have hz1 := hb1.size) | (go_at_call 24; (with_reducible refine (k_n2 _).mono ?_); rintro e w1 ⟨rfl, hb1⟩; have hz1 := hb1.size) | (go_at_call 25; (with_reducible refine (k_s2 _).mono ?_); rintro e w1 ⟨rfl, hb1⟩; have hz1 := hb1.size) | (go_at_call 25; (with_reducible refine (k_s3 _).mono ?_); rintro e w1 ⟨rfl, hb1⟩; have hz1 := hb1.size) | (go_at_call 25; (with_reducible refine (k_s4 _).mono ?_); rintro e w1 ⟨rfl, hb1⟩; have hz1 := hb1.size))
  have b0 : Below w.heap.size w w1 := by (repeat (with_reducible (first | exact Below.refl _ _ | assumption | refine bl_alloc ?_ _ | refine bl_drew ?_ | refine bl_drewN ?_ _ | (refine bl_set ?_ ?_ _; (focus (first | (simp; done) | (simp; omega) | omega))) | refine bl_then ?_ (by assumption))))
  refine (Smooth_any 9218868437227405312 9218868437227405312 w1 (by decide)).mono ?_
  rintro e w2 ⟨r, rfl, hr, hrl, b2⟩
  have HC := Lib.hid (fun W => cmp_nan (nan_like hr (by decide +kernel)) hrl W)
  have b02 := bl_then b0 b2
  clear hr hrl b0 b2
  go_wp2_with (first | (go_at_call 22; (with_reducible refine (HC.out _).mono ?_); rintro e w1 ⟨rfl, hb1⟩; have hz1 := hb1.size) | (go_at_call 25; (with_reducible refine (k_s4 _).mono ?_); rintro e w1 ⟨rfl, hb1⟩; have hz1 := hb1.size))
  have b03 : Below w.heap.size w w1 := by (repeat (with_reducible (first | exact Below.refl _ _ | assumption | refine bl_alloc ?_ _ | refine bl_drew ?_ | refine bl_drewN ?_ _ | (refine bl_set ?_ ?_ _; (focus (first | (simp; done) | (simp; omega) | omega))) | refine bl_then ?_ (by assumption))))
  clear b02 HC
  refine (Mean_some w1.heap.size 0 2 [4620693217682128896, 4625196817309499392] _ (by decide) (by simp) (by decide) (cells_lit (kb_new rfl _) rfl)).mono ?_
  rintro e w3 ⟨r3, rfl, hr3, -, b3⟩
  obtain rfl := num_like hr3 (x := 4621256167635550208) (by decide +kernel) (by decide +kernel)
  have b04 : Below w.heap.size w w3 := bl_then (bl_alloc b03 _) b3
  clear hr3 b03 b3
  go_wp2_with fail
  refine (Mean_none w3).mono ?_
  rintro e w4 ⟨r4, rfl, hr4, hl4, b4⟩
  have HC := Lib.hid (fun W => cmp_nan (nan_like hr4 (by decide +kernel)) hl4 W)
  have b05 := bl_then b04 b4
  clear hr4 hl4 b04 b4
  go_wp2_with (first | (go_at_call 22; (with_reducible refine (HC.out _).mono ?_); rintro e w1 ⟨rfl, hb1⟩; have hz1 := hb1.size) | (go_at_call 8; (with_reducible refine (awake_any _).mono ?_); rintro e w1 ⟨rfl, hb1⟩; have hz1 := hb1.size))
  have b06 : Below w.heap.size w w1 := by (repeat (with_reducible (first | exact Below.refl _ _ | assumption | refine bl_alloc ?_ _ | refine bl_drew ?_ | refine bl_drewN ?_ _ | (refine bl_set ?_ ?_ _; (focus (first | (simp; done) | (simp; omega) | omega))) | refine bl_then ?_ (by assumption))))
  clear b05 HC
  refine (Least_some w1.heap.size 0 3 [4607182418800017408, 9223372036854775808, 0] _ (by decide) (by simp) (by decide) (cells_lit (kb_new rfl _) rfl)).mono ?_
  rintro e w5 ⟨rfl, b5⟩
  rw [show lst [4607182418800017408, 9223372036854775808, 0] ([4607182418800017408, 9223372036854775808, 0] : List Nat).length = 1 by decide +kernel]
  have b07 : Below w.heap.size w w5 := bl_then (bl_alloc b06 _) b5
  clear b06 b5
  go_wp2_with fail
  refine (Least_some w5.heap.size 0 2 [9221120237041090561, 9221120237041090561] _ (by decide) (by simp) (by decide) (cells_lit (kb_new rfl _) rfl)).mono ?_
  rintro e w6 ⟨rfl, b6⟩
  rw [show lst [9221120237041090561, 9221120237041090561] ([9221120237041090561, 9221120237041090561] : List Nat).length = 0 by decide +kernel]
  have b08 : Below w.heap.size w w6 := bl_then (bl_alloc b07 _) b6
  clear b07 b6
  go_wp2_with (go_at_call 27; (with_reducible refine (Least_none _).mono ?_); rintro e w1 ⟨rfl, hb1⟩; have hz1 := hb1.size)
  go_ret
  exact ⟨rfl, bl_then b08 hb1⟩
end Go.Proofs.YtgjampkdnpdblaaDoor
