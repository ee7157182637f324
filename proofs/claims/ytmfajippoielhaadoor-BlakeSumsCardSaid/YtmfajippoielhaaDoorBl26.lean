/- BlakeSums' walk. -/
import Derived.Test.YtmfajippoielhaaDoorBl25
import Derived.Test.YtmfajippoielhaaDoorBBytes3
namespace Go.Proofs.YtmfajippoielhaaDoor
open Go.RowKit Go.Proofs.YtmfajippoielhaaDoor.Bl BigFrame
set_option linter.unusedSimpArgs false
set_option linter.unusedVariables false
attribute [local go_sem] cell_alloc_some frozen_alloc_some

theorem Lent.below {w w' : World} {B g : Nat} {v : Value} {l : List UInt8} (h : Lent w B g v l) (k : Below w.heap.size w w') : Lent w' B g v l := h.keep (Keep.of_below (S := fun _ => False) k) (fun e => e)
set_option maxRecDepth 100000 in
set_option maxHeartbeats 1000000 in
theorem BlakeSums_walk {w : World} {x : Value} {b : List UInt8} (hx : BytesOf w x b) :
    Calls Tryd.prog 3 #[x] w fun e w' => e = .returned (.bool true) ∧ Below w.heap.size w w' := by
  obtain ⟨A, cap, hv⟩ := RowOf.form hx
  subst hv
  have HX := Lib.hid hx
  clear hx
  go_enter Tryd.func3, Tryd.ntmps3
  by_cases hb : b.length ≤ 1000
  · have hb' : ¬ 1000 < b.length := by omega
    have HB := Lib.hid hb
    clear hb
    go_wp2_with fail
    refine (LentBytes_any HX.out (by have := HB.out; omega)).mono ?_
    rintro e w1 ⟨g, v1, rfl, l1, hg, b1⟩
    have H1 := Lib.hid (And.intro l1 (And.intro (HX.out.below b1) b1))
    obtain ⟨cp, hv1, _⟩ := l1
    subst hv1
    clear b1 hg
    go_wp2_with fail
    refine (SumB_any H1.out.1.bytes (by have := HB.out; omega)).mono ?_
    rintro e w2 ⟨rfl, b2⟩
    have H2 := Lib.hid (And.intro (H1.out.1.below b2) (And.intro (H1.out.2.1.below b2) (bl_then H1.out.2.2 b2)))
    clear b2 H1
    go_wp2_with fail
    refine (rSum_any H2.out.2.1 (by have := HB.out; omega)).mono ?_
    rintro e w3 ⟨rfl, b3⟩
    have H3 := Lib.hid (And.intro (H2.out.1.below b3) (And.intro (H2.out.2.1.below b3) (bl_then H2.out.2.2 b3)))
    clear b3 H2
    have hsl := sumB_len b
    have heq : ∀ W : World, (binOp .eql 26 (.agg (u8s (sumB b)).toArray) (.agg (u8s (sumB b)).toArray)).run Tryd.prog W = .ok (.bool true) W := fun W => by
      rw [run_eql_bytes Tryd.underlying26 (sumB b) (sumB b) hsl hsl W]; simp
    generalize sumB b = hs at *
    go_wp2_with fail
    refine (KeptBytes_yes H3.out.1 H3.out.2.1 (by have := HB.out; omega)).mono ?_
    rintro e w4 ⟨rfl, b4⟩
    have B4 := Lib.hid (bl_then H3.out.2.2 b4)
    clear b4 H3
    go_wp2_with fail
    refine (awake_yes _).mono ?_
    rintro e w5 ⟨rfl, b5⟩
    go_wp2_with fail
    go_ret
    exact ⟨rfl, bl_then B4.out b5⟩
  · have hb' : 1000 < b.length := by omega
    clear hb
    go_wp2_with fail
    refine (awake_yes _).mono ?_
    rintro e w2 ⟨rfl, b2⟩
    go_wp2_with fail
    go_ret
    exact ⟨rfl, b2⟩
end Go.Proofs.YtmfajippoielhaaDoor
