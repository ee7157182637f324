/- Words in memory; turning, mixing, of both sides. Printed by wip/mkbl1.py. -/
import Derived.Test.YtmfajippoielhaaDoorBBytes
import Derived.Test.YtmfajippoielhaaDoorBlP
import Derived.Laws.BitsAllLaws
import Derived.BigQuiet
import Derived.Deep.Cut
namespace Go.Proofs.YtmfajippoielhaaDoor
open Go.RowKit Go.Proofs.YtmfajippoielhaaDoor.Bl
set_option linter.unusedSimpArgs false
set_option linter.unusedVariables false
attribute [local go_sem] cell_alloc_some frozen_alloc_some

abbrev wv (x : W) : Value := .int .u32 (x.toNat : Int)
def wvs (l : List W) : List Value := l.map wv
theorem wvs_len (l : List W) : (wvs l).length = l.length := by simp [wvs]
theorem wvs_at {l : List W} {i : Nat} (h : i < l.length) : (wvs l)[i]? = some (wv (wAt l i)) := by
  simp [wvs, wAt, List.getD_eq_getElem?_getD, h]
theorem wvs_set (l : List W) (i : Nat) (x : W) : (wvs l).toArray.setIfInBounds i (wv x) = (wvs (l.set i x)).toArray := by
  simp [wvs, List.map_set]
theorem wvs_one (l : List W) : ∀ u ∈ wvs l, u.oneCell' = true := by
  intro u hu
  obtain ⟨c, _, rfl⟩ := List.mem_map.1 hu
  rfl
theorem w_lt (x : W) : x.toNat < 4294967296 := x.toNat_lt
theorem w_add (x y : W) : (((x.toNat : Int) + (y.toNat : Int)) % (4294967296 : Int) : Int) = ((x + y).toNat : Int) := by
  rw [UInt32.toNat_add]; omega
theorem w_xor (x y : W) : bits .xor .u32 (x.toNat : Int) (y.toNat : Int) = ((x ^^^ y).toNat : Int) := by
  rw [u32_xor_nat _ _ (w_lt x) (w_lt y), UInt32.toNat_xor]
theorem w_or (x y : W) : bits .or .u32 (x.toNat : Int) (y.toNat : Int) = ((x ||| y).toNat : Int) := by
  rw [u32_or_nat _ _ (w_lt x) (w_lt y), UInt32.toNat_or]
theorem or_comm_w (x y : W) : x ||| y = y ||| x := by
  apply UInt32.toNat_inj.1
  rw [UInt32.toNat_or, UInt32.toNat_or, Nat.or_comm]
theorem w_shl16 (x : W) : (((x.toNat : Int) * (65536 : Int)) % (4294967296 : Int) : Int) = ((x <<< 16).toNat : Int) := by
  have h : (x <<< (16 : W)).toNat = x.toNat * 65536 % 4294967296 := by
    rw [UInt32.toNat_shiftLeft, Nat.shiftLeft_eq]; rfl
  rw [h]; omega
theorem w_shr16 (x : W) : ((x.toNat : Int) / (65536 : Int) : Int) = ((x >>> 16).toNat : Int) := by
  have h : (x >>> (16 : W)).toNat = x.toNat / 65536 := by
    rw [UInt32.toNat_shiftRight, Nat.shiftRight_eq_div_pow]; rfl
  rw [h]; omega
theorem and31_16 : bits .and .u64 18446744073709551600 31 = 16 := by decide +kernel
theorem wpList_and16 {ops : Array Oper} {rest : List Oper} {op : Oper} {a : Act} {w : World} {Q : Exit → Act → World → Prop} (hgd : op.guard = none) (x y : Operand) (ho : op.op = .binOp .and 55 x y 55) (hx : a.eval x = .int .u64 18446744073709551600) (hy : a.eval y = .int .u64 31)
    (hk : wpList Tryd.prog ops Q rest (a.put op.dst (.int .u64 16)) w) : wpList Tryd.prog ops Q (op :: rest) a w :=
  wpList_plain hgd fun K hK => by
    have hr : (binOp .and 55 (.int .u64 18446744073709551600) (.int .u64 31)).run Tryd.prog w = .ok (.int .u64 16) w := by rw [binOp_and, intBits_and, and31_16]; rfl
    unfold Oper.wp execOp
    simp only [ho, hx, hy, Sem.run_bind, hr, Result.andThen_ok]
    exact hK _ _ hk
theorem rot16 (x : W) (w : World) : Calls Tryd.prog 57 #[wv x, .int .i64 (-16)] w fun e w' => e = .returned (wv (r16 x)) ∧ w = w' := by
  go_enter Tryd.func57, Tryd.ntmps57
  go_wp2_with (refine wpList_and16 rfl _ _ rfl rfl rfl ?_)
  rw [w_shl16, w_shr16, w_or]
  go_ret
  exact ⟨rfl, rfl⟩
theorem turn16 (x : W) (w : World) : Calls Tryd.prog 53 #[wv x, .int .u64 16] w fun e w' => e = .returned (wv (r16 x)) ∧ w = w' := by
  go_enter Tryd.func53, Tryd.ntmps53
  go_wp2
  rw [w_shl16, w_shr16, w_or]
  go_ret
  exact ⟨by rw [or_comm_w]; rfl, rfl⟩
theorem w_shl20 (x : W) : (((x.toNat : Int) * (1048576 : Int)) % (4294967296 : Int) : Int) = ((x <<< 20).toNat : Int) := by
  have h : (x <<< (20 : W)).toNat = x.toNat * 1048576 % 4294967296 := by
    rw [UInt32.toNat_shiftLeft, Nat.shiftLeft_eq]; rfl
  rw [h]; omega
theorem w_shr12 (x : W) : ((x.toNat : Int) / (4096 : Int) : Int) = ((x >>> 12).toNat : Int) := by
  have h : (x >>> (12 : W)).toNat = x.toNat / 4096 := by
    rw [UInt32.toNat_shiftRight, Nat.shiftRight_eq_div_pow]; rfl
  rw [h]; omega
theorem and31_12 : bits .and .u64 18446744073709551604 31 = 20 := by decide +kernel
theorem wpList_and12 {ops : Array Oper} {rest : List Oper} {op : Oper} {a : Act} {w : World} {Q : Exit → Act → World → Prop} (hgd : op.guard = none) (x y : Operand) (ho : op.op = .binOp .and 55 x y 55) (hx : a.eval x = .int .u64 18446744073709551604) (hy : a.eval y = .int .u64 31)
    (hk : wpList Tryd.prog ops Q rest (a.put op.dst (.int .u64 20)) w) : wpList Tryd.prog ops Q (op :: rest) a w :=
  wpList_plain hgd fun K hK => by
    have hr : (binOp .and 55 (.int .u64 18446744073709551604) (.int .u64 31)).run Tryd.prog w = .ok (.int .u64 20) w := by rw [binOp_and, intBits_and, and31_12]; rfl
    unfold Oper.wp execOp
    simp only [ho, hx, hy, Sem.run_bind, hr, Result.andThen_ok]
    exact hK _ _ hk
theorem rot12 (x : W) (w : World) : Calls Tryd.prog 57 #[wv x, .int .i64 (-12)] w fun e w' => e = .returned (wv (r12 x)) ∧ w = w' := by
  go_enter Tryd.func57, Tryd.ntmps57
  go_wp2_with (refine wpList_and12 rfl _ _ rfl rfl rfl ?_)
  rw [w_shl20, w_shr12, w_or]
  go_ret
  exact ⟨rfl, rfl⟩
theorem turn12 (x : W) (w : World) : Calls Tryd.prog 53 #[wv x, .int .u64 12] w fun e w' => e = .returned (wv (r12 x)) ∧ w = w' := by
  go_enter Tryd.func53, Tryd.ntmps53
  go_wp2
  rw [w_shl20, w_shr12, w_or]
  go_ret
  exact ⟨by rw [or_comm_w]; rfl, rfl⟩
theorem w_shl24 (x : W) : (((x.toNat : Int) * (16777216 : Int)) % (4294967296 : Int) : Int) = ((x <<< 24).toNat : Int) := by
  have h : (x <<< (24 : W)).toNat = x.toNat * 16777216 % 4294967296 := by
    rw [UInt32.toNat_shiftLeft, Nat.shiftLeft_eq]; rfl
  rw [h]; omega
theorem w_shr8 (x : W) : ((x.toNat : Int) / (256 : Int) : Int) = ((x >>> 8).toNat : Int) := by
  have h : (x >>> (8 : W)).toNat = x.toNat / 256 := by
    rw [UInt32.toNat_shiftRight, Nat.shiftRight_eq_div_pow]; rfl
  rw [h]; omega
theorem and31_8 : bits .and .u64 18446744073709551608 31 = 24 := by decide +kernel
theorem wpList_and8 {ops : Array Oper} {rest : List Oper} {op : Oper} {a : Act} {w : World} {Q : Exit → Act → World → Prop} (hgd : op.guard = none) (x y : Operand) (ho : op.op = .binOp .and 55 x y 55) (hx : a.eval x = .int .u64 18446744073709551608) (hy : a.eval y = .int .u64 31)
    (hk : wpList Tryd.prog ops Q rest (a.put op.dst (.int .u64 24)) w) : wpList Tryd.prog ops Q (op :: rest) a w :=
  wpList_plain hgd fun K hK => by
    have hr : (binOp .and 55 (.int .u64 18446744073709551608) (.int .u64 31)).run Tryd.prog w = .ok (.int .u64 24) w := by rw [binOp_and, intBits_and, and31_8]; rfl
    unfold Oper.wp execOp
    simp only [ho, hx, hy, Sem.run_bind, hr, Result.andThen_ok]
    exact hK _ _ hk
theorem rot8 (x : W) (w : World) : Calls Tryd.prog 57 #[wv x, .int .i64 (-8)] w fun e w' => e = .returned (wv (r8 x)) ∧ w = w' := by
  go_enter Tryd.func57, Tryd.ntmps57
  go_wp2_with (refine wpList_and8 rfl _ _ rfl rfl rfl ?_)
  rw [w_shl24, w_shr8, w_or]
  go_ret
  exact ⟨rfl, rfl⟩
theorem turn8 (x : W) (w : World) : Calls Tryd.prog 53 #[wv x, .int .u64 8] w fun e w' => e = .returned (wv (r8 x)) ∧ w = w' := by
  go_enter Tryd.func53, Tryd.ntmps53
  go_wp2
  rw [w_shl24, w_shr8, w_or]
  go_ret
  exact ⟨by rw [or_comm_w]; rfl, rfl⟩
theorem w_shl25 (x : W) : (((x.toNat : Int) * (33554432 : Int)) % (4294967296 : Int) : Int) = ((x <<< 25).toNat : Int) := by
  have h : (x <<< (25 : W)).toNat = x.toNat * 33554432 % 4294967296 := by
    rw [UInt32.toNat_shiftLeft, Nat.shiftLeft_eq]; rfl
  rw [h]; omega
theorem w_shr7 (x : W) : ((x.toNat : Int) / (128 : Int) : Int) = ((x >>> 7).toNat : Int) := by
  have h : (x >>> (7 : W)).toNat = x.toNat / 128 := by
    rw [UInt32.toNat_shiftRight, Nat.shiftRight_eq_div_pow]; rfl
  rw [h]; omega
theorem and31_7 : bits .and .u64 18446744073709551609 31 = 25 := by decide +kernel
theorem wpList_and7 {ops : Array Oper} {rest : List Oper} {op : Oper} {a : Act} {w : World} {Q : Exit → Act → World → Prop} (hgd : op.guard = none) (x y : Operand) (ho : op.op = .binOp .and 55 x y 55) (hx : a.eval x = .int .u64 18446744073709551609) (hy : a.eval y = .int .u64 31)
    (hk : wpList Tryd.prog ops Q rest (a.put op.dst (.int .u64 25)) w) : wpList Tryd.prog ops Q (op :: rest) a w :=
  wpList_plain hgd fun K hK => by
    have hr : (binOp .and 55 (.int .u64 18446744073709551609) (.int .u64 31)).run Tryd.prog w = .ok (.int .u64 25) w := by rw [binOp_and, intBits_and, and31_7]; rfl
    unfold Oper.wp execOp
    simp only [ho, hx, hy, Sem.run_bind, hr, Result.andThen_ok]
    exact hK _ _ hk
theorem rot7 (x : W) (w : World) : Calls Tryd.prog 57 #[wv x, .int .i64 (-7)] w fun e w' => e = .returned (wv (r7 x)) ∧ w = w' := by
  go_enter Tryd.func57, Tryd.ntmps57
  go_wp2_with (refine wpList_and7 rfl _ _ rfl rfl rfl ?_)
  rw [w_shl25, w_shr7, w_or]
  go_ret
  exact ⟨rfl, rfl⟩
theorem turn7 (x : W) (w : World) : Calls Tryd.prog 53 #[wv x, .int .u64 7] w fun e w' => e = .returned (wv (r7 x)) ∧ w = w' := by
  go_enter Tryd.func53, Tryd.ntmps53
  go_wp2
  rw [w_shl25, w_shr7, w_or]
  go_ret
  exact ⟨by rw [or_comm_w]; rfl, rfl⟩
end Go.Proofs.YtmfajippoielhaaDoor
