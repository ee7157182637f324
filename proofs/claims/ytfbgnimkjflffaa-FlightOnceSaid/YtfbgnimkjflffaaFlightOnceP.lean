/- For every input 'landfalllaw19.FlightOnce' returns true, and every argument reads behind the call as it read before. No condition. -/
import Derived.Test.YtfbgnimkjflffaaRows
import Derived.Test.YtfbgnimkjflffaaFly18
import Derived.WalkKit
import Derived.ProofKit
import Derived.OpenShut
import Derived.ShutString
import Derived.ChangeOld
import Derived.Below
import Derived.Lib.SmallJoins
import Derived.Test.YtfbgnimkjflffaaOpen
namespace Go.Proofs.Ytfbgnimkjflffaa.FlightOnceP
open Go.ChangeShapes Go.WideShapes Go.ChangeAt Go.RowKit Go.Joins
open Go.ChangeMaps (open_string shut_string)

theorem own : ownKnob Try.prog.godebug = none := by kernel_rfl
theorem laidOut : laidOutB Try.prog = true := by kernel_rfl

set_option maxRecDepth 100000 in
theorem lifted (os : Os) (started : os.Started) (H : Type) (enc : TypeId × Value → H) :
    ReturnsInHanded {} Try.checked os 4 .any (Rows.flightOnceSpec.pre6 enc Try.prog Try.f4 Rows.flightOnceRow.domain false) (Rows.flightOnceSpec.post enc Try.prog Try.f4 false true false false) := by
  refine returnsInHanded_of_change (C := Try.checked) own started (by kernel_rfl) Try.func4
    (ChangeSpec.witness6 (enc := enc) (C := Try.checked) false ⟨#[], #[.int .i64 0, .slice none 0 0], []⟩ 8 (by kernel_rfl) (by kernel_rfl) (by kernel_rfl) (by kernel_rfl)) ?_
  intro W base args ds gs before hval0 hW hcnd _
  have hval : ∀ (j : Nat) t v, Try.f4.params[j]? = some t → args[j]? = some v → Value.okWide Try.prog W .any base t v := hval0
  have hW' := hW
  obtain ⟨p, q, hA0, hV, rfl, hfz, hnd⟩ := hW
  have hA : DataW.TrodAll enc Try.prog W 0 (fun _ => true) true Try.f4.params.toList args.toList ds p := hA0
  rw [Try.params4] at hA hval
  obtain ⟨v0, vs0, d0, ds0, p0, q0, hargs, rfl, rfl, h0, r0⟩ := trodAll_cons hA
  obtain ⟨v1, vs1, d1, ds1, p1, q1, rfl, rfl, rfl, h1, r1⟩ := trodAll_cons r0
  obtain ⟨rfl, rfl, rfl⟩ := trodAll_nil r1
  obtain rfl : args = #[v0, v1] := by cases args; simp_all
  obtain ⟨rfl, rfl⟩ := trodVars_none hV
  have k0 := h0
  have lt0 : ∀ x ∈ p0, x.block < W.heap.size := by obtain ⟨m, hm⟩ := k0; exact DataW.trod_lt m _ _ _ hm
  have k1 := h1
  have lt1 : ∀ x ∈ p1, x.block < W.heap.size := by obtain ⟨m, hm⟩ := k1; exact DataW.trod_lt m _ _ _ hm
  obtain ⟨a0, rfl, rfl, rfl, w0⟩ := open_int Try.underlying3 (hval 0 3 v0 rfl rfl) h0
  obtain ⟨A1, len1, cap1, rfl⟩ := okWide_slice Try.underlying35 (hval 1 35 v1 rfl rfl)
  obtain ⟨fuel1, hf1⟩ := h1
  clear hA0 hval0
  have fin : Calls Try.prog 4 #[.int .i64 a0, .slice A1 len1 cap1] W fun e w' => e = .returned (.bool true) ∧ Below W.heap.size W w' := by
    by_cases hlong : 60 < len1
    · exact FlightOnce_long a0 A1 len1 cap1 W hlong
    by_cases hl0 : len1 = 0
    · subst hl0
      exact FlightOnce_none a0 A1 cap1 W
    rcases open_int_structs Try.underlying35 Try.underlying38 (by kernel_rfl) (by kernel_rfl) (by decide)
      (fun j f hj => by
        match j, hj with
        | 0, hj => cases hj; exact Try.underlying3
        | 1, hj => cases hj; exact Try.underlying3
        | 2, hj => cases hj; exact Try.underlying3
        | 3, hj => cases hj; exact Try.underlying3
        | 4, hj => cases hj; exact Try.underlying3) hf1 with hcs | ⟨a, len', cap', hcs, hm, hc⟩
    · simp [Value.cells] at hcs
      omega
    · simp [Value.cells] at hcs
      obtain ⟨rfl, rfl, rfl⟩ := hcs
      obtain ⟨b, off, spot⟩ := a
      obtain ⟨z0, hz0, _⟩ := hc 0 0 (by omega) (by decide)
      have hspot : spot = none := by simpa [Addr.add] using World.cell?_spot hz0
      subst hspot
      have hbW : b < W.heap.size := lt1 _ (hm (by omega))
      have hcell : ∀ i j, i < len1 → j < 5 → ∃ z : Int, W.cell? ⟨b, off + i * 5 + j, none⟩ = some (.int .i64 z) := fun i j hi hj => by
        obtain ⟨z, hz, _⟩ := hc i j hi hj
        refine ⟨z, ?_⟩
        rw [add_plain] at hz
        rw [Nat.add_assoc]
        exact hz
      obtain ⟨g, hg⟩ : ∃ g : Nat → Nat → Int, ∀ i j, i < len1 → j < 5 → W.cell? ⟨b, off + i * 5 + j, none⟩ = some (.int .i64 (g i j)) :=
        ⟨fun i j => if h : i < len1 ∧ j < 5 then (hcell i j h.1 h.2).choose else 0, fun i j hi hj => by
          simp only [dif_pos (And.intro hi hj)]
          exact (hcell i j hi hj).choose_spec⟩
      have hll : ((List.range len1).map fun i => (⟨g i 0, g i 1, g i 2, g i 3, g i 4⟩ : Ac)).length = len1 := by simp
      have R := FlightOnce_some a0 b off cap1 ((List.range len1).map fun i => ⟨g i 0, g i 1, g i 2, g i 3, g i 4⟩) W (by rw [hll]; omega) hbW (fun k a ha => by
        rw [List.getElem?_map] at ha
        have hk : k < len1 := by
          by_cases hk : k < len1
          · exact hk
          · rw [List.getElem?_eq_none (by simp; omega)] at ha; cases ha
        rw [List.getElem?_range hk] at ha
        simp at ha
        subst ha
        exact ⟨hg k 0 hk (by omega), hg k 1 hk (by omega), hg k 2 hk (by omega), hg k 3 hk (by omega), hg k 4 hk (by omega)⟩)
      rwa [hll] at R
  refine (fin).mono fun e W' ⟨he, bel⟩ => ?_
  subst he
  exact ⟨_, rfl, _, _, _, [], _, [], hW', trodAll_mk1 (shut_bool Try.underlying4 _), (trodAll_cons_mk (Below.trod laidOut (by kernel_rfl) (of_decide_eq_true (by kernel_rfl)) k0 bel lt0) (trodAll_cons_mk (Below.trod laidOut (by kernel_rfl) (of_decide_eq_true (by kernel_rfl)) k1 bel lt1) trodAll_mk0)), rfl, bel.frame _, fun h => by cases h⟩

theorem over : Rows.flightOnceRow.holds Try.pinned (OpenSpec.ofChange Rows.flightOnceSpec) :=
  OpenClaim.holds_of_wide 4 Try.f4 rfl rfl rfl rfl rfl rfl rfl ⟨rfl, rfl, rfl, rfl, rfl⟩ rfl rfl rfl rfl rfl (by kernel_rfl) Try.func4 (by kernel_rfl)
    (of_decide_eq_true (by kernel_rfl)) (by unfold Func.isWrapper; first | (rw [if_pos (by decide +kernel)]; kernel_rfl) | (rw [if_neg (by decide +kernel)]; exact ⟨rfl, rfl⟩))
    (fun os started H enc _ => lifted os started H enc)

theorem proved : Rows.FlightOnceSaid := over
end Go.Proofs.Ytfbgnimkjflffaa.FlightOnceP
#print axioms Go.Proofs.Ytfbgnimkjflffaa.FlightOnceP.proved
