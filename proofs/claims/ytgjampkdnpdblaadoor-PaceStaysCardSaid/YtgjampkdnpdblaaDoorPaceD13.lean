/- PaceStays: the walk. -/
import Derived.Test.YtgjampkdnpdblaaDoorPaceD12
import Derived.Test.YtgjampkdnpdblaaDoorStayP3
import Derived.Laws.BitsAllLaws
namespace Go.Proofs.YtgjampkdnpdblaaDoor
open Go.RowKit Go.Proofs.YtgjampkdnpdblaaDoor.Pc BigFrame
set_option linter.unusedSimpArgs false
set_option linter.unusedVariables false

/-- Is a pace infinite? As the machine asks it. -/
def infB (p : Nat) : Bool := FloatKind.f64.format.order (p % 9223372036854775808) 9218868437227405311 == some .gt
theorem infB_fin {p : Nat} (h : nanB p = false) (k : infB p = false) : finF p := by
  have := rung_le h
  rcases Nat.lt_or_eq_of_le this with h1 | h1
  · exact h1
  · unfold infB at k
    rw [h1, show (FloatKind.f64.format.order 9218868437227405312 9218868437227405311 == some .gt) = true by decide +kernel] at k
    cases k
theorem and_not {p : Nat} (h : p < 18446744073709551616) : bits BinOp.andNot IntKind.u64 (p : Int) 9223372036854775808 = ((p % 9223372036854775808 : Nat) : Int) := by
  have := u64_andNot_nat p 9223372036854775808 h (by decide)
  rw [show (18446744073709551615 - 9223372036854775808 : Nat) = 2 ^ 63 - 1 from by decide, Nat.and_two_pow_sub_one_eq_mod] at this
  exact this
set_option maxHeartbeats 400000 in
theorem Abs_any (p : Nat) (w : World) (h : p < 18446744073709551616) : Calls Tryd.prog 37 #[.float .f64 p] w fun e w' => e = .returned (.float .f64 (p % 9223372036854775808)) ∧ w = w' := by
  have hr := run_bits p
  have hf := run_from ((p % 9223372036854775808 : Nat) : Int)
  rw [Int.toNat_natCast] at hf
  have ha := and_not h
  generalize p % 9223372036854775808 = q at *
  go_enter Tryd.func37, Tryd.ntmps37
  go_wp2
  go_ret
  exact ⟨rfl, rfl⟩
set_option maxHeartbeats 400000 in
theorem IsInf0_any (p : Nat) (w : World) (h : p < 18446744073709551616) : Calls Tryd.prog 28 #[.float .f64 p, .int .i64 0] w fun e w' => e = .returned (.bool (infB p)) ∧ w = w' := by
  have hb := Lib.hid (show (FloatKind.f64.format.order (p % 9223372036854775808) 9218868437227405311 == some .gt) = infB p from rfl)
  go_enter Tryd.func28, Tryd.ntmps28
  go_wp2_with (go_at_call 37; (with_reducible refine (Abs_any _ _ h).mono ?_); rintro e w1 ⟨rfl, rfl⟩)
  go_ret
  exact ⟨ret_bool hb.out, rfl⟩
theorem rnd_num {S : Int} {z : Nat} (h : Rnd S z) : nanB z = false := by
  obtain ⟨neg, R, rfl, -⟩ := h
  rcases Nat.lt_or_ge R 9218868437227405312 with hR | hR
  · rw [Nat.min_eq_left (by omega)]
    exact fin_nan (by unfold finF; rw [(word_is neg hR).1]; exact hR)
  · rw [Nat.min_eq_right hR]
    cases neg <;> decide +kernel
theorem smooth_nan (y : Nat) (hy : y < 18446744073709551616) (w : World) : Calls Tryd.prog 25 #[.float .f64 9221120237041090561, .float .f64 y] w (PacePost y w) := by
  have h : smoothF 9221120237041090561 y = y := by
    unfold smoothF
    rw [show nanB 9221120237041090561 = true by decide +kernel]; rfl
  exact h ▸ Smooth_any 9221120237041090561 y w hy
theorem ordI_ge {a b : Int} (h : b ≤ a) : (some (ordI a b) == some Ordering.gt || some (ordI a b) == some Ordering.eq) = true := by
  unfold ordI
  rw [if_neg (by omega)]
  split <;> rfl
theorem ordI_le {a b : Int} (h : a ≤ b) : (some (ordI a b) == some Ordering.lt || some (ordI a b) == some Ordering.eq) = true := by
  unfold ordI
  split
  · rfl
  · rw [if_neg (by omega)]; rfl
theorem order_val {a b : Nat} (ha : finF a) (hb : finF b) : FloatKind.f64.format.order a b = some (ordI (val a) (val b)) := order_sv (fin_nan ha) (fin_nan hb)
theorem min_val {x y : Nat} (hx : finF x) (hy : finF y) : ∃ m, (∀ (ts : Array TypeId) (t : TypeId) (W : World), (Builtin.min_ ts t #[.float .f64 x, .float .f64 y]).run Tryd.prog W = .ok (.float .f64 m) W) ∧ finF m ∧ val m ≤ val x ∧ val m ≤ val y ∧ (m = x ∨ m = y) := by
  have ho := order_val hx hy
  have run : ∀ m, (match FloatKind.f64.format.order x y with | some .lt => m = x | some .gt => m = y | some .eq => m = (if (FloatKind.f64.decode x).neg then x else y) | none => False) → ∀ (ts : Array TypeId) (t : TypeId) (W : World), (Builtin.min_ ts t #[.float .f64 x, .float .f64 y]).run Tryd.prog W = .ok (.float .f64 m) W := by
    intro m hm ts t W
    simp only [Builtin.min_, List.foldlM, Builtin.min2]
    cases e : FloatKind.f64.format.order x y with
    | none => rw [e] at hm; exact hm.elim
    | some o => cases o <;> (rw [e] at hm; simp only at hm; subst hm; rfl)
  rw [ho] at run
  unfold ordI at run
  by_cases h1 : val x < val y
  · rw [if_pos h1] at run
    exact ⟨x, run x rfl, hx, by omega, by omega, .inl rfl⟩
  · rw [if_neg h1] at run
    by_cases h2 : val y < val x
    · rw [if_pos h2] at run
      exact ⟨y, run y rfl, hy, by omega, by omega, .inr rfl⟩
    · rw [if_neg h2] at run
      refine ⟨_, run _ rfl, ?_⟩
      split
      · exact ⟨hx, by omega, by omega, .inl rfl⟩
      · exact ⟨hy, by omega, by omega, .inr rfl⟩
theorem max_val {x y : Nat} (hx : finF x) (hy : finF y) : ∃ m, (∀ (ts : Array TypeId) (t : TypeId) (W : World), (Builtin.max_ ts t #[.float .f64 x, .float .f64 y]).run Tryd.prog W = .ok (.float .f64 m) W) ∧ finF m ∧ val x ≤ val m ∧ val y ≤ val m ∧ (m = x ∨ m = y) := by
  have ho := order_val hx hy
  have run : ∀ m, (match FloatKind.f64.format.order x y with | some .lt => m = y | some .gt => m = x | some .eq => m = (if (FloatKind.f64.decode x).neg then y else x) | none => False) → ∀ (ts : Array TypeId) (t : TypeId) (W : World), (Builtin.max_ ts t #[.float .f64 x, .float .f64 y]).run Tryd.prog W = .ok (.float .f64 m) W := by
    intro m hm ts t W
    simp only [Builtin.max_, List.foldlM, Builtin.max2]
    cases e : FloatKind.f64.format.order x y with
    | none => rw [e] at hm; exact hm.elim
    | some o => cases o <;> (rw [e] at hm; simp only at hm; subst hm; rfl)
  rw [ho] at run
  unfold ordI at run
  by_cases h1 : val x < val y
  · rw [if_pos h1] at run
    exact ⟨y, run y rfl, hy, by omega, by omega, .inr rfl⟩
  · rw [if_neg h1] at run
    by_cases h2 : val y < val x
    · rw [if_pos h2] at run
      exact ⟨x, run x rfl, hx, by omega, by omega, .inl rfl⟩
    · rw [if_neg h2] at run
      refine ⟨_, run _ rfl, ?_⟩
      split
      · exact ⟨hy, by omega, by omega, .inr rfl⟩
      · exact ⟨hx, by omega, by omega, .inl rfl⟩

set_option maxRecDepth 100000 in
set_option maxHeartbeats 4000000 in
theorem stays_ix (x y : Nat) (w : World) (hx : x < 18446744073709551616) (hy : y < 18446744073709551616) (h : infB x = true) :
    Calls Tryd.prog 7 #[.int .u64 x, .int .u64 y] w fun e w' => e = .returned (.bool true) ∧ Below w.heap.size w w' := by
  have HO := Lib.hid (show ∀ (n : Nat) (W : World), Calls Tryd.prog 9 #[.int .u64 (n : Int)] W fun e w' => e = .returned (.float .f64 n) ∧ W = w' from fun n W => of_any (n : Int) W)
  have HIX := Lib.hid (fun W => IsInf0_any x W hx)
  have HIY := Lib.hid (fun W => IsInf0_any y W hy)
  have HSN := Lib.hid (fun W => smooth_nan y hy W)
  have HX := Lib.hid hx
  have HY := Lib.hid hy
  clear hx hy
  rw [h] at HIX
  clear h
  go_enter Tryd.func7, Tryd.ntmps7
  go_wp2_with fail
  refine (PaceKnown_any w).mono ?_
  rintro e w1 ⟨rfl, b1⟩
  go_wp2_with (first | (go_at_call 9; (with_reducible refine (HO.out _ _).mono ?_); rintro e w1 ⟨rfl, rfl⟩) | (go_at_call 21; (with_reducible refine (NaN_any _).mono ?_); rintro e w1 ⟨rfl, rfl⟩))
  refine (HSN.out _).mono ?_
  rintro e w2 ⟨r0, rfl, hr0, hl0, b2⟩
  have HC0 := Lib.hid (fun W => Compare_t r0 y 0 hl0 HY.out (cmp_eq' hl0 HY.out ((key_canon hl0 HY.out).2 hr0)) W)
  have b02 := bl_then b1 b2
  clear hr0 hl0 b1 b2
  go_wp2_with fail
  refine (HC0.out _).mono ?_
  rintro e w3 ⟨rfl, b3⟩
  have b03 := bl_then b02 b3
  clear b02 b3 HC0
  go_wp2_with (first | (go_at_call 28; (with_reducible refine (HIX.out _).mono ?_); rintro e w1 ⟨rfl, rfl⟩) | (go_at_call 28; (with_reducible refine (HIY.out _).mono ?_); rintro e w1 ⟨rfl, rfl⟩))
  go_ret
  exact ⟨rfl, b03⟩

set_option maxRecDepth 100000 in
set_option maxHeartbeats 4000000 in
theorem stays_iy (x y : Nat) (w : World) (hx : x < 18446744073709551616) (hy : y < 18446744073709551616) (h1 : infB x = false) (h : infB y = true) :
    Calls Tryd.prog 7 #[.int .u64 x, .int .u64 y] w fun e w' => e = .returned (.bool true) ∧ Below w.heap.size w w' := by
  have HO := Lib.hid (show ∀ (n : Nat) (W : World), Calls Tryd.prog 9 #[.int .u64 (n : Int)] W fun e w' => e = .returned (.float .f64 n) ∧ W = w' from fun n W => of_any (n : Int) W)
  have HIX := Lib.hid (fun W => IsInf0_any x W hx)
  have HIY := Lib.hid (fun W => IsInf0_any y W hy)
  have HSN := Lib.hid (fun W => smooth_nan y hy W)
  have HX := Lib.hid hx
  have HY := Lib.hid hy
  clear hx hy
  rw [h1] at HIX
  rw [h] at HIY
  clear h h1
  go_enter Tryd.func7, Tryd.ntmps7
  go_wp2_with fail
  refine (PaceKnown_any w).mono ?_
  rintro e w1 ⟨rfl, b1⟩
  go_wp2_with (first | (go_at_call 9; (with_reducible refine (HO.out _ _).mono ?_); rintro e w1 ⟨rfl, rfl⟩) | (go_at_call 21; (with_reducible refine (NaN_any _).mono ?_); rintro e w1 ⟨rfl, rfl⟩))
  refine (HSN.out _).mono ?_
  rintro e w2 ⟨r0, rfl, hr0, hl0, b2⟩
  have HC0 := Lib.hid (fun W => Compare_t r0 y 0 hl0 HY.out (cmp_eq' hl0 HY.out ((key_canon hl0 HY.out).2 hr0)) W)
  have b02 := bl_then b1 b2
  clear hr0 hl0 b1 b2
  go_wp2_with fail
  refine (HC0.out _).mono ?_
  rintro e w3 ⟨rfl, b3⟩
  have b03 := bl_then b02 b3
  clear b02 b3 HC0
  go_wp2_with (first | (go_at_call 28; (with_reducible refine (HIX.out _).mono ?_); rintro e w1 ⟨rfl, rfl⟩) | (go_at_call 28; (with_reducible refine (HIY.out _).mono ?_); rintro e w1 ⟨rfl, rfl⟩))
  go_ret
  exact ⟨rfl, b03⟩

set_option maxRecDepth 100000 in
set_option maxHeartbeats 4000000 in
theorem stays_nx (x y : Nat) (w : World) (hx : x < 18446744073709551616) (hy : y < 18446744073709551616) (h1 : infB x = false) (h2 : infB y = false) (h : nanB x = true) :
    Calls Tryd.prog 7 #[.int .u64 x, .int .u64 y] w fun e w' => e = .returned (.bool true) ∧ Below w.heap.size w w' := by
  have HO := Lib.hid (show ∀ (n : Nat) (W : World), Calls Tryd.prog 9 #[.int .u64 (n : Int)] W fun e w' => e = .returned (.float .f64 n) ∧ W = w' from fun n W => of_any (n : Int) W)
  have HIX := Lib.hid (fun W => IsInf0_any x W hx)
  have HIY := Lib.hid (fun W => IsInf0_any y W hy)
  have HSN := Lib.hid (fun W => smooth_nan y hy W)
  have HX := Lib.hid hx
  have HY := Lib.hid hy
  clear hx hy
  rw [h1] at HIX
  rw [h2] at HIY
  have q : (FloatKind.f64.format.order x x != some .eq) = true := h
  clear h h1 h2
  go_enter Tryd.func7, Tryd.ntmps7
  go_wp2_with fail
  refine (PaceKnown_any w).mono ?_
  rintro e w1 ⟨rfl, b1⟩
  go_wp2_with (first | (go_at_call 9; (with_reducible refine (HO.out _ _).mono ?_); rintro e w1 ⟨rfl, rfl⟩) | (go_at_call 21; (with_reducible refine (NaN_any _).mono ?_); rintro e w1 ⟨rfl, rfl⟩))
  refine (HSN.out _).mono ?_
  rintro e w2 ⟨r0, rfl, hr0, hl0, b2⟩
  have HC0 := Lib.hid (fun W => Compare_t r0 y 0 hl0 HY.out (cmp_eq' hl0 HY.out ((key_canon hl0 HY.out).2 hr0)) W)
  have b02 := bl_then b1 b2
  clear hr0 hl0 b1 b2
  go_wp2_with fail
  refine (HC0.out _).mono ?_
  rintro e w3 ⟨rfl, b3⟩
  have b03 := bl_then b02 b3
  clear b02 b3 HC0
  go_wp2_with (first | (go_at_call 28; (with_reducible refine (HIX.out _).mono ?_); rintro e w1 ⟨rfl, rfl⟩) | (go_at_call 28; (with_reducible refine (HIY.out _).mono ?_); rintro e w1 ⟨rfl, rfl⟩))
  go_ret
  exact ⟨rfl, b03⟩

set_option maxRecDepth 100000 in
set_option maxHeartbeats 4000000 in
theorem stays_ny (x y : Nat) (w : World) (hx : x < 18446744073709551616) (hy : y < 18446744073709551616) (h1 : infB x = false) (h2 : infB y = false) (h3 : nanB x = false) (h : nanB y = true) :
    Calls Tryd.prog 7 #[.int .u64 x, .int .u64 y] w fun e w' => e = .returned (.bool true) ∧ Below w.heap.size w w' := by
  have HO := Lib.hid (show ∀ (n : Nat) (W : World), Calls Tryd.prog 9 #[.int .u64 (n : Int)] W fun e w' => e = .returned (.float .f64 n) ∧ W = w' from fun n W => of_any (n : Int) W)
  have HIX := Lib.hid (fun W => IsInf0_any x W hx)
  have HIY := Lib.hid (fun W => IsInf0_any y W hy)
  have HSN := Lib.hid (fun W => smooth_nan y hy W)
  have HX := Lib.hid hx
  have HY := Lib.hid hy
  clear hx hy
  rw [h1] at HIX
  rw [h2] at HIY
  have q1 : (FloatKind.f64.format.order x x != some .eq) = false := h3
  have q : (FloatKind.f64.format.order y y != some .eq) = true := h
  clear h h1 h2 h3
  go_enter Tryd.func7, Tryd.ntmps7
  go_wp2_with fail
  refine (PaceKnown_any w).mono ?_
  rintro e w1 ⟨rfl, b1⟩
  go_wp2_with (first | (go_at_call 9; (with_reducible refine (HO.out _ _).mono ?_); rintro e w1 ⟨rfl, rfl⟩) | (go_at_call 21; (with_reducible refine (NaN_any _).mono ?_); rintro e w1 ⟨rfl, rfl⟩))
  refine (HSN.out _).mono ?_
  rintro e w2 ⟨r0, rfl, hr0, hl0, b2⟩
  have HC0 := Lib.hid (fun W => Compare_t r0 y 0 hl0 HY.out (cmp_eq' hl0 HY.out ((key_canon hl0 HY.out).2 hr0)) W)
  have b02 := bl_then b1 b2
  clear hr0 hl0 b1 b2
  go_wp2_with fail
  refine (HC0.out _).mono ?_
  rintro e w3 ⟨rfl, b3⟩
  have b03 := bl_then b02 b3
  clear b02 b3 HC0
  go_wp2_with (first | (go_at_call 28; (with_reducible refine (HIX.out _).mono ?_); rintro e w1 ⟨rfl, rfl⟩) | (go_at_call 28; (with_reducible refine (HIY.out _).mono ?_); rintro e w1 ⟨rfl, rfl⟩))
  go_ret
  exact ⟨rfl, b03⟩

set_option maxRecDepth 100000 in
set_option maxHeartbeats 4000000 in
theorem stays_fin (x y : Nat) (w : World) (hx : x < 18446744073709551616) (hy : y < 18446744073709551616) (h1 : infB x = false) (h2 : infB y = false) (h3 : nanB x = false) (h4 : nanB y = false) :
    Calls Tryd.prog 7 #[.int .u64 x, .int .u64 y] w fun e w' => e = .returned (.bool true) ∧ Below w.heap.size w w' := by
  have HO := Lib.hid (show ∀ (n : Nat) (W : World), Calls Tryd.prog 9 #[.int .u64 (n : Int)] W fun e w' => e = .returned (.float .f64 n) ∧ W = w' from fun n W => of_any (n : Int) W)
  have HIX := Lib.hid (fun W => IsInf0_any x W hx)
  have HIY := Lib.hid (fun W => IsInf0_any y W hy)
  have HSN := Lib.hid (fun W => smooth_nan y hy W)
  have HX := Lib.hid hx
  have HY := Lib.hid hy
  clear hx hy
  rw [h1] at HIX
  rw [h2] at HIY
  have q1 : (FloatKind.f64.format.order x x != some .eq) = false := h3
  have q2 : (FloatKind.f64.format.order y y != some .eq) = false := h4
  have hfx := infB_fin h3 h1
  have hfy := infB_fin h4 h2
  obtain ⟨d, hd, hdr⟩ := sub_rnd hfy hfx
  have hdn : nanB d = false := rnd_num hdr
  have hfs : fsub y x = d := by unfold fsub; rw [hd]; rfl
  have HS := Lib.hid (fun W => run_fsub (P := Tryd.prog) 24 y x W)
  have HDD := Lib.hid (And.intro hd (And.intro hdn (And.intro hfs (And.intro hfx hfy))))
  clear h1 h2 h3 h4 hd hdr hdn hfs hfx hfy
  go_enter Tryd.func7, Tryd.ntmps7
  go_wp2_with fail
  refine (PaceKnown_any w).mono ?_
  rintro e w1 ⟨rfl, b1⟩
  go_wp2_with (first | (go_at_call 9; (with_reducible refine (HO.out _ _).mono ?_); rintro e w1 ⟨rfl, rfl⟩) | (go_at_call 21; (with_reducible refine (NaN_any _).mono ?_); rintro e w1 ⟨rfl, rfl⟩))
  refine (HSN.out _).mono ?_
  rintro e w2 ⟨r0, rfl, hr0, hl0, b2⟩
  have HC0 := Lib.hid (fun W => Compare_t r0 y 0 hl0 HY.out (cmp_eq' hl0 HY.out ((key_canon hl0 HY.out).2 hr0)) W)
  have b02 := bl_then b1 b2
  clear hr0 hl0 b1 b2
  go_wp2_with fail
  refine (HC0.out _).mono ?_
  rintro e w3 ⟨rfl, b3⟩
  have b03 := bl_then b02 b3
  clear b02 b3 HC0
  go_wp2_with (first | (go_at_call 28; (with_reducible refine (HIX.out _).mono ?_); rintro e w1 ⟨rfl, rfl⟩) | (go_at_call 28; (with_reducible refine (HIY.out _).mono ?_); rintro e w1 ⟨rfl, rfl⟩))
  obtain ⟨r1, w4, hr1, c1, l1, b4⟩ := HS.out w3
  rw [hr1]
  clear hr1
  have hr : r1 = d := by
    rw [HDD.out.2.2.1] at c1
    exact num_like c1 (canon_num HDD.out.2.1) HDD.out.2.1
  subst hr
  have b04 := bl_then b03 b4
  have HID := Lib.hid (fun W => IsInf0_any r1 W l1)
  clear c1 l1 b4 b03
  cases hi : infB r1
  · rw [hi] at HID
    have hfd := infB_fin HDD.out.2.1 hi
    obtain ⟨z, hz, fz, lz, hbt⟩ := smooth_stays HDD.out.2.2.2.1 HDD.out.2.2.2.2 HDD.out.1 hfd
    have hfx := HDD.out.2.2.2.1
    have hfy := HDD.out.2.2.2.2
    obtain ⟨dx, hdx, fdx⟩ := sub_self_fin hfx
    obtain ⟨zx, hzx, fzx, lzx, hbx⟩ := smooth_stays hfx hfx hdx fdx
    obtain ⟨mn, rmn, fmn, mn1, mn2, mnx⟩ := min_val hfx hfy
    obtain ⟨mx, rmx, fmx, mx1, mx2, mxx⟩ := max_val hfx hfy
    have g1 : (FloatKind.f64.format.order z mn == some .gt || FloatKind.f64.format.order z mn == some .eq) = true := by
      rw [order_val fz fmn]
      exact ordI_ge ((hbt mn).2 ⟨mn1, mn2⟩)
    have g2 : (FloatKind.f64.format.order z mx == some .lt || FloatKind.f64.format.order z mx == some .eq) = true := by
      rw [order_val fz fmx]
      exact ordI_le ((hbt mx).1 ⟨mx1, mx2⟩)
    have g3 : (FloatKind.f64.format.order zx x == some .eq) = true := by
      rw [order_val fzx hfx]
      have a1 := (hbx x).1 ⟨Int.le_refl _, Int.le_refl _⟩
      have a2 := (hbx x).2 ⟨Int.le_refl _, Int.le_refl _⟩
      unfold ordI
      rw [if_neg (by omega), if_neg (by omega)]; rfl
    have HZ := Lib.hid (show ∀ W : World, Calls Tryd.prog 25 #[.float .f64 x, .float .f64 y] W fun e w' => e = .returned (.float .f64 z) ∧ Below W.heap.size W w' from fun W => Smooth_t x y z HY.out (by rw [hz]; exact canon_num (fin_nan fz)) (fin_nan fz) W)
    have HZX := Lib.hid (show ∀ W : World, Calls Tryd.prog 25 #[.float .f64 x, .float .f64 x] W fun e w' => e = .returned (.float .f64 zx) ∧ Below W.heap.size W w' from fun W => Smooth_t x x zx HX.out (by rw [hzx]; exact canon_num (fin_nan fzx)) (fin_nan fzx) W)
    clear hi hfd hz fz lz hbt hfx hfy hdx fdx hzx fzx lzx hbx fmn mn1 mn2 mnx fmx mx1 mx2 mxx HDD HS q1 q2
    go_wp2_with (go_at_call 28; (with_reducible refine (HID.out _).mono ?_); rintro e w1 ⟨rfl, rfl⟩)
    refine (HZ.out _).mono ?_
    rintro e w5 ⟨rfl, b5⟩
    have b05 := bl_then b04 b5
    go_wp2_with fail
    refine (HZX.out _).mono ?_
    rintro e w6 ⟨rfl, b6⟩
    go_wp2
    go_ret
    exact ⟨rfl, bl_then b05 b6⟩
  · rw [hi] at HID
    clear hi
    go_wp2_with (go_at_call 28; (with_reducible refine (HID.out _).mono ?_); rintro e w1 ⟨rfl, rfl⟩)
    go_ret
    exact ⟨rfl, b04⟩
theorem PaceStays_walk (a b : Int) (w : World) (a0 : 0 ≤ a) (b0 : 0 ≤ b) (ha : a.toNat < 18446744073709551616) (hb : b.toNat < 18446744073709551616) :
    Calls Tryd.prog 7 #[.int .u64 a, .int .u64 b] w fun e w' => e = .returned (.bool true) ∧ Below w.heap.size w w' := by
  obtain ⟨x, rfl⟩ : ∃ n : Nat, a = n := ⟨a.toNat, by omega⟩
  obtain ⟨y, rfl⟩ : ∃ n : Nat, b = n := ⟨b.toNat, by omega⟩
  rw [Int.toNat_natCast] at ha hb
  cases h1 : infB x
  · cases h2 : infB y
    · cases h3 : nanB x
      · cases h4 : nanB y
        · exact stays_fin x y w ha hb h1 h2 h3 h4
        · exact stays_ny x y w ha hb h1 h2 h3 h4
      · exact stays_nx x y w ha hb h1 h2 h3
    · exact stays_iy x y w ha hb h1 h2
  · exact stays_ix x y w ha hb h1
end Go.Proofs.YtgjampkdnpdblaaDoor
