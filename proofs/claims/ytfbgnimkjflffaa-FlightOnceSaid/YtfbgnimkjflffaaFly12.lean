/- FlightKnown: the law's own functions asks, first, awake, and itself. -/
import Derived.Test.YtfbgnimkjflffaaFly11
import Derived.Test.YtfbgnimkjflffaaSame
namespace Go.Proofs.Ytfbgnimkjflffaa
open Go.RowKit Go.Maps
attribute [local go_sem] cell_alloc_some frozen_alloc_some

/-- A flight, its slice left open. -/
def FlE (w : World) (B p m : Nat) (n : Int) (L : List Rq) : Prop := ∃ s, Fl w B p m n s L
theorem FlE.below {w w' : World} {B p m n L} (h : FlE w B p m n L) (k : Below w.heap.size w w') : FlE w' B p m n L := by obtain ⟨s, F⟩ := h; exact ⟨s, F.below k⟩
theorem Fl.frame {w w' : World} {B p m n s L} (F : Fl w B p m n s L) (k : Keep (FlS p m s) w w') : Below B w w' := k.below (by have := F.ltp; have := F.lp; omega) fun b hb => (F.ltS hb).1
theorem bl_from {B : Nat} {a w w' : World} (h : Below a.heap.size a w) (k : Below B w w') (hB : a.heap.size ≤ B) : Below a.heap.size a w' := h.trans (k.mono hB)

set_option maxHeartbeats 1000000 in
theorem asks_yes (B p m : Nat) (n t h a id err : Int) (fresh : Bool) (L L' : List Rq) (w : World) (F : FlE w B p m n L) (hL : L.length ≤ 1000) (hR : askR n L t h a = ⟨id, fresh, err, L'⟩) :
    Calls Try.prog 8 #[.pointer (some ⟨p, 0, none⟩), .int .i64 t, .int .i64 h, .int .i64 a, .int .i64 id, .bool fresh, .int .i64 err] w fun e w' => e = .returned (.bool true) ∧ FlE w' B p m n L' ∧ Below B w w' := by
  obtain ⟨s, F⟩ := F
  have HA := fAsk_any B p m n t h a s L w F hL
  rw [hR] at HA
  have HA' := Lib.hid HA
  have HF := Lib.hid F
  clear HA hR F
  go_enter Try.func8, Try.ntmps8
  go_wp2_with fail
  refine (HA'.out).mono ?_
  rintro e w1 ⟨rfl, s', F', hk, _⟩
  have HF' := Lib.hid F'
  have HK := Lib.hid hk
  clear F' hk
  go_wp2_with fail
  go_ret
  exact ⟨rfl, ⟨s', HF'.out⟩, HF.out.frame HK.out⟩

def L1 : List Rq := [⟨1, 0, 5, 1, true⟩]
def L2 : List Rq := [⟨1, 0, 5, 1, true⟩, ⟨2, 1, 5, 1, true⟩]
def L3 : List Rq := [⟨1, 0, 5, 1, true⟩, ⟨2, 1, 5, 1, true⟩, ⟨3, 0, 6, 2, true⟩]

set_option maxHeartbeats 1000000 in
theorem first_any (w : World) :
    Calls Try.prog 5 #[] w fun e w' => e = .returned (.pointer (some ⟨w.heap.size + 1, 0, none⟩)) ∧ FlE w' w.heap.size (w.heap.size + 1) w.heap.size 2 L3 ∧ Below w.heap.size w w' := by
  go_enter Try.func5, Try.ntmps5
  go_wp2_with fail
  refine (fNew_fl 2 _ (by omega) (by omega)).mono ?_
  rintro e w1 ⟨rfl, F, b1⟩
  have F1 := Lib.hid (⟨_, F⟩ : FlE w1 w.heap.size (w.heap.size + 1) w.heap.size 2 [])
  clear F
  go_wp2_with fail
  refine (asks_yes _ _ _ 2 0 5 1 1 0 true [] L1 _ F1.out (by decide) (by rfl)).mono ?_
  rintro e w2 ⟨rfl, F, k2⟩
  have F2 := Lib.hid F
  have b2 := bl_from b1 k2 (Nat.le_refl _)
  clear F k2
  go_wp2_with fail
  refine (asks_yes _ _ _ 2 1 5 1 2 0 true L1 L2 _ F2.out (by decide) (by rfl)).mono ?_
  rintro e w3 ⟨rfl, F, k3⟩
  have F3 := Lib.hid F
  have b3 := bl_from b2 k3 (Nat.le_refl _)
  clear F k3
  go_wp2_with fail
  refine (asks_yes _ _ _ 2 0 5 2 1 0 false L2 L2 _ F3.out (by decide) (by rfl)).mono ?_
  rintro e w4 ⟨rfl, F, k4⟩
  have F4 := Lib.hid F
  have b4 := bl_from b3 k4 (Nat.le_refl _)
  clear F k4
  go_wp2_with fail
  refine (asks_yes _ _ _ 2 0 6 2 3 0 true L2 L3 _ F4.out (by decide) (by rfl)).mono ?_
  rintro e w5 ⟨rfl, F, k5⟩
  have F5 := Lib.hid F
  have b5 := bl_from b4 k5 (Nat.le_refl _)
  clear F k5
  go_wp2_with fail
  go_ret
  exact ⟨rfl, F5.out, b5⟩

/-- The calls of a flight that leave it as it is, in the form that a chain wants. -/
theorem fOpen_E {w : World} {B p m : Nat} {n : Int} {L : List Rq} (who : Int) (xs : List Int) (F : FlE w B p m n L) (hL : L.length ≤ 1000) (hx : ids (L.filter (askWaits who)) = intVs xs) :
    Calls Try.prog 20 #[.pointer (some ⟨p, 0, none⟩), .int .i64 who] w fun e w' => ∃ v, e = .returned v ∧ RowOf w' v xs.length (intVs xs) ∧ Below w.heap.size w w' := by
  obtain ⟨s, F⟩ := F
  refine (fOpen_any B p m n who s L w F hL).mono fun e w' ⟨v, he, ho, hb⟩ => ⟨v, he, ?_, hb⟩
  have h := RowOf.of_own ho
  have hl : (L.filter (askWaits who)).length = xs.length := by have := congrArg List.length hx; simpa [ids, intVs] using this
  rw [hx, hl] at h
  exact h
theorem fCount_E {w : World} {B p m : Nat} {n : Int} {L : List Rq} (who : Int) (k : Int) (F : FlE w B p m n L) (hL : L.length ≤ 1000) (hx : ((L.filter (askHas who)).length : Int) = k) :
    Calls Try.prog 21 #[.pointer (some ⟨p, 0, none⟩), .int .i64 who] w fun e w' => e = .returned (.int .i64 k) ∧ Below w.heap.size w w' := by
  obtain ⟨s, F⟩ := F
  rw [← hx]
  exact fCount_any B p m n who s L w F hL
theorem fClose_E {w : World} {B p m : Nat} {n : Int} {L : List Rq} (id err : Int) (L' : List Rq) (F : FlE w B p m n L) (hL : L.length ≤ 1000) (hx : closeR L id = (err, L')) :
    Calls Try.prog 6 #[.pointer (some ⟨p, 0, none⟩), .int .i64 id] w fun e w' => e = .returned (.int .i64 err) ∧ FlE w' B p m n L' ∧ Below B w w' := by
  obtain ⟨s, F⟩ := F
  refine (fClose_any B p m n id s L w F hL).mono fun e w' ⟨he, F', hk⟩ => ?_
  rw [hx] at he F'
  exact ⟨he, ⟨s, F'⟩, F.frame hk⟩
theorem fIs_E {w : World} {B p m : Nat} {n : Int} {L : List Rq} (id to k : Int) (F : FlE w B p m n L) (hL : L.length ≤ 1000) (hx : isR L id to = k) :
    Calls Try.prog 7 #[.pointer (some ⟨p, 0, none⟩), .int .i64 id, .int .i64 to] w fun e w' => e = .returned (.int .i64 k) ∧ w = w' := by
  obtain ⟨s, F⟩ := F
  rw [← hx]
  exact fIs_any B p m n id to s L w F hL
theorem fGet_E {w : World} {B p m : Nat} {n : Int} {L : List Rq} (id : Int) (r : Rq) (b : Bool) (F : FlE w B p m n L) (hL : L.length ≤ 1000) (hx : getR L id = (r, b)) :
    Calls Try.prog 9 #[.pointer (some ⟨p, 0, none⟩), .int .i64 id] w fun e w' => e = .returned (.tuple #[r.val, .bool b]) ∧ Below w.heap.size w w' := by
  obtain ⟨s, F⟩ := F
  refine (fGet_any B p m n id s L w F hL).mono fun e w' h => ?_
  rw [hx] at h
  exact h

def L4 : List Rq := [⟨1, 0, 5, 1, false⟩, ⟨2, 1, 5, 1, true⟩, ⟨3, 0, 6, 2, true⟩]

set_option maxHeartbeats 1000000 in
theorem awake_any (w : World) :
    Calls Try.prog 11 #[] w fun e w' => e = .returned (.bool true) ∧ Below w.heap.size w w' := by
  go_enter Try.func11, Try.ntmps11
  go_wp2_with fail
  refine (first_any _).mono ?_
  rintro e w1 ⟨rfl, F, b1⟩
  have F1 := Lib.hid F
  clear F
  go_wp2_with fail
  refine (fOpen_E 0 [1, 3] F1.out (by decide) (by rfl)).mono ?_
  rintro e w2 ⟨v2, rfl, R2, k2⟩
  have F2 := Lib.hid (F1.out.below k2)
  have b2 := bl_then b1 k2
  have RR := R2.below (bl_alloc (Below.refl _ w2) (.cells #[.int .i64 1, .int .i64 3] 3))
  have HR := Lib.hid RR
  clear R2 RR k2
  go_wp2_with fail
  refine (SameInts_any (xs := [1, 3]) (ys := [1, 3]) HR.out (RowOf.lit (kb_new rfl _) rfl) (by decide) (by decide)).mono ?_
  rintro e w3 ⟨rfl, k3⟩
  have F3 := Lib.hid ((F2.out.below (bl_alloc (Below.refl _ w2) _)).below k3)
  have b3 := bl_then (bl_alloc b2 _) k3
  clear k3
  go_wp2_with fail
  refine (fOpen_E (-1) [1, 2, 3] F3.out (by decide) (by rfl)).mono ?_
  rintro e w4 ⟨v4, rfl, R4, k4⟩
  have F4 := Lib.hid (F3.out.below k4)
  have b4 := bl_then b3 k4
  have RR := R4.below (bl_alloc (Below.refl _ w4) (.cells #[.int .i64 1, .int .i64 2, .int .i64 3] 3))
  have HR4 := Lib.hid RR
  clear R4 RR k4
  go_wp2_with fail
  refine (SameInts_any (xs := [1, 2, 3]) (ys := [1, 2, 3]) HR4.out (RowOf.lit (kb_new rfl _) rfl) (by decide) (by decide)).mono ?_
  rintro e w5 ⟨rfl, k5⟩
  have F5 := Lib.hid ((F4.out.below (bl_alloc (Below.refl _ w4) _)).below k5)
  have b5 := bl_then (bl_alloc b4 _) k5
  clear k5
  go_wp2_with fail
  refine (fCount_E 0 2 F5.out (by decide) (by rfl)).mono ?_
  rintro e w6 ⟨rfl, k6⟩
  have F6 := Lib.hid (F5.out.below k6)
  have b6 := bl_then b5 k6
  clear k6
  go_wp2_with fail
  refine (fClose_E 1 0 L4 F6.out (by decide) (by rfl)).mono ?_
  rintro e w7 ⟨rfl, F, k7⟩
  have F7 := Lib.hid F
  have b7 := bl_from b6 k7 (Nat.le_refl _)
  clear F k7
  go_wp2_with fail
  refine (fIs_E 1 0 2 F7.out (by decide) (by rfl)).mono ?_
  rintro e w8 ⟨rfl, rfl⟩
  go_wp2_with fail
  refine (fIs_E 2 1 1 F7.out (by decide) (by rfl)).mono ?_
  rintro e w8 ⟨rfl, rfl⟩
  go_wp2_with fail
  go_ret
  exact ⟨rfl, b7⟩
end Go.Proofs.Ytfbgnimkjflffaa
