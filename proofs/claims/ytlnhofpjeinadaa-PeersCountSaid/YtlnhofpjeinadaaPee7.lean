/- The walks of package peers: which role may follow which one. -/
import Derived.Test.YtlnhofpjeinadaaPee6
import Derived.Test.YtlnhofpjeinadaaMid
namespace Go.Proofs.Ytlnhofpjeinadaa
set_option linter.unusedSimpArgs false
set_option linter.unusedVariables false
open Go.RowKit Go.Proofs.Ytlnhofpjeinadaa.Pc Go.Shelf BigFrame

/-- The table as far as it is told: rows before f whole, row f before t. -/
def mayC (f t : Nat) (a b : Nat) : Bool := (decide (a < f) || (decide (a = f) && decide (b < t))) && mayI a b
/-- What may tells. -/
def mayV : Array Value := (Array.range 49).map fun i => .bool (mayI ((i / 7 : Nat) : Int) ((i % 7 : Nat) : Int))
def mayR (cs : Array Value) (f t : Nat) : Prop := cs.size = 49 ∧ ∀ a b, a < 7 → b < 7 → cs[a * 7 + b]? = some (.bool (mayC f t a b))
theorem mayR_next {cs : Array Value} {f t : Nat} (h : mayR cs f t) (hf : f < 7) (ht : t < 7) (hft : f < t) : mayR (cs.setIfInBounds (f * 7 + t) (.bool (!decide (f = 4 ∧ t = 5)))) f (t + 1) := by
  refine ⟨by simp [h.1], fun a b ha hb => ?_⟩
  rw [Array.getElem?_setIfInBounds]
  by_cases e : f * 7 + t = a * 7 + b
  · have h1 : a = f := by omega
    have h2 : b = t := by omega
    subst h1; subst h2
    rw [if_pos rfl, if_pos (by rw [h.1]; omega)]
    congr 2
    unfold mayC mayI
    have : (decide ((a : Int) < (b : Int))) = true := decide_eq_true (by omega)
    rw [this]
    by_cases e1 : a = 4 <;> by_cases e2 : b = 5 <;> simp [e1, e2] <;> omega
  · rw [if_neg e, h.2 a b ha hb]
    congr 2
    unfold mayC
    by_cases e1 : a = f
    · subst e1
      have : (b < t + 1) ↔ (b < t) := by omega
      simp [this]
    · simp [e1]
theorem mayR_skip {cs : Array Value} {f t : Nat} (h : mayR cs f t) (hft : t ≤ f) : mayR cs f (f + 1) := by
  refine ⟨h.1, fun a b ha hb => ?_⟩
  rw [h.2 a b ha hb]
  congr 2
  unfold mayC mayI
  by_cases e1 : a = f
  · subst e1
    by_cases e2 : b < a + 1
    · have : ¬ a < b := by omega
      simp [this]
    · have : ¬ b < t := by omega
      simp [e2, this]
  · simp [e1]
theorem mayR_row {cs : Array Value} {f : Nat} (h : mayR cs f 7) : mayR cs (f + 1) 0 := by
  refine ⟨h.1, fun a b ha hb => ?_⟩
  rw [h.2 a b ha hb]
  congr 2
  unfold mayC
  by_cases e1 : a = f
  · subst e1; simp [hb]
  · by_cases e2 : a < f
    · have : a < f + 1 := by omega
      simp [e2, this]
    · have : ¬ a < f + 1 := by omega
      simp [e1, e2, this]
theorem mayR_all {cs : Array Value} (h : mayR cs 7 0) : cs = mayV := by
  apply Array.ext_getElem?
  intro i
  by_cases hi : i < 49
  · have := h.2 (i / 7) (i % 7) (by omega) (by omega)
    rw [show i / 7 * 7 + i % 7 = i by omega] at this
    rw [this]
    unfold mayV mayC
    have h7 : i / 7 < 7 := by omega
    simp [hi, h7]
  · rw [Array.getElem?_eq_none (by rw [h.1]; omega), Array.getElem?_eq_none (by simp [mayV]; omega)]

theorem mayV_size : mayV.size = 49 := by simp [mayV]
theorem size_may : (Try.prog.info? 68).map (·.size) = some 49 := by kernel_rfl
theorem may_one : mayV.all (·.oneCell') = true := by kernel_rfl
set_option maxRecDepth 100000 in
set_option maxHeartbeats 4000000 in
theorem may_any (w : World) : Calls Try.prog 34 #[] w fun e w' => e = .returned (.agg mayV) ∧ Below w.heap.size w w' := by
  go_enter Try.func34, Try.ntmps34
  go_wp2_with fail
  go_loopw [1, 2, 3, 4, 5, 6, 7, 8, 9, 10, 11, 12, 13, 14, 15, 16, 17, 18, 19, 20, 21, 22] (fun _ _ s3 _ _ _ _ _ _ _ _ _ _ _ _ _ _ _ _ _ _ _ wr => ∃ f : Nat, f ≤ 7 ∧ s3 = .int .i64 f ∧ Below w.heap.size w wr ∧ ∃ cs, wr.heap[w.heap.size]? = some (.cells cs 68) ∧ Hid (mayR cs f 0)) (fun _ _ s3 _ _ _ _ _ _ _ _ _ _ _ _ _ _ _ _ _ _ _ _ => 7 - (intOf s3).toNat)
  case atStart =>
    refine ⟨0, by omega, rfl, by (repeat (with_reducible (first | exact Below.refl _ _ | assumption | refine bl_alloc ?_ _ | refine bl_drew ?_ | refine bl_drewN ?_ _ | (refine bl_set ?_ ?_ _; (focus (first | (simp; done) | (simp; omega) | omega))) | refine bl_then ?_ (by assumption)))), _, kb_new rfl _, ⟨rfl, fun a b ha hb => ?_⟩⟩
    have hz : (#[.bool false, .bool false, .bool false, .bool false, .bool false, .bool false, .bool false, .bool false, .bool false, .bool false, .bool false, .bool false, .bool false, .bool false, .bool false, .bool false, .bool false, .bool false, .bool false, .bool false, .bool false, .bool false, .bool false, .bool false, .bool false, .bool false, .bool false, .bool false, .bool false, .bool false, .bool false, .bool false, .bool false, .bool false, .bool false, .bool false, .bool false, .bool false, .bool false, .bool false, .bool false, .bool false, .bool false, .bool false, .bool false, .bool false, .bool false, .bool false, .bool false] : Array Value) = Array.replicate 49 (.bool false) := by kernel_rfl
    have : mayC 0 0 a b = false := by simp [mayC]
    rw [this]
    rw [hz, Array.getElem?_replicate, if_pos (by omega)]
  case round =>
    obtain ⟨f, hf, rfl, hnx, cs, D, hR⟩ := hrel
    by_cases hlt : f < 7
    · go_wp2_with fail
      go_loopw [2, 8, 9, 10, 11, 12, 13, 14, 15, 16, 17, 18, 19, 20, 21] (fun s2 _ _ _ _ _ _ _ _ _ _ _ _ _ _ wr => ∃ t : Nat, f + 1 ≤ t ∧ t ≤ 7 ∧ s2 = .int .i64 t ∧ Below w.heap.size w wr ∧ ∃ cs, wr.heap[w.heap.size]? = some (.cells cs 68) ∧ Hid (mayR cs f t)) (fun s2 _ _ _ _ _ _ _ _ _ _ _ _ _ _ _ => 7 - (intOf s2).toNat)
      case atStart => exact ⟨f + 1, by omega, by omega, by go_num, hnx, cs, D, mayR_skip hR.out (by omega)⟩
      case round =>
        obtain ⟨t, ht1, ht2, rfl, hnx, cs, D, hR⟩ := hrel
        by_cases hlt2 : t < 7
        · have hc := (kb_cell D (f * 7 + t)).trans (hR.out.2 f t hlt hlt2)
          have z := kb_frozen D
          have hN := Lib.hid (mayR_next hR.out hlt hlt2 (by omega))
          generalize mayC f t f t = b0 at hc
          by_cases h4 : f = 4
          · subst h4
            by_cases h5 : t = 5
            · subst h5
              go_wp2_with fail
              go_roundw
              case rel => exact ⟨6, by omega, by omega, by go_num, by (repeat (with_reducible (first | exact Below.refl _ _ | assumption | refine bl_alloc ?_ _ | refine bl_drew ?_ | refine bl_drewN ?_ _ | (refine bl_set ?_ ?_ _; (focus (first | (simp; done) | (simp; omega) | omega))) | refine bl_then ?_ (by assumption)))), _, kb_set D _, hN.out⟩
              case measure => simp [intOf]
            · have hd : (((t : Nat) : Int) != 5) = true := by simp; omega
              have hb : (!decide ((4 : Nat) = 4 ∧ t = 5)) = true := by simp [h5]
              rw [hb] at hN
              clear hb
              go_wp2_with fail
              go_roundw
              case rel => exact ⟨t + 1, by omega, by omega, by go_num, by (repeat (with_reducible (first | exact Below.refl _ _ | assumption | refine bl_alloc ?_ _ | refine bl_drew ?_ | refine bl_drewN ?_ _ | (refine bl_set ?_ ?_ _; (focus (first | (simp; done) | (simp; omega) | omega))) | refine bl_then ?_ (by assumption)))), _, kb_set D _, hN.out⟩
              case measure => simp [intOf]; omega
          · have hd : (((f : Nat) : Int) != 4) = true := by simp; omega
            have hb : (!decide (f = 4 ∧ t = 5)) = true := by simp [h4]
            rw [hb] at hN
            clear hb
            go_wp2_with fail
            go_roundw
            case rel => exact ⟨t + 1, by omega, by omega, by go_num, by (repeat (with_reducible (first | exact Below.refl _ _ | assumption | refine bl_alloc ?_ _ | refine bl_drew ?_ | refine bl_drewN ?_ _ | (refine bl_set ?_ ?_ _; (focus (first | (simp; done) | (simp; omega) | omega))) | refine bl_then ?_ (by assumption)))), _, kb_set D _, hN.out⟩
            case measure => simp [intOf]; omega
        · obtain rfl : t = 7 := by omega
          go_wp2_with fail
          go_roundw
          case rel => exact ⟨f + 1, by omega, by go_num, hnx, cs, D, mayR_row hR.out⟩
          case measure => simp [intOf]; omega
    · obtain rfl : f = 7 := by omega
      obtain rfl := mayR_all hR.out
      clear hR
      have hD := Lib.hid D
      have hS := Lib.hid mayV_size
      clear D
      go_wp2_with (first
        | (with_reducible refine wpList_load_mid rfl 68 _ rfl w.heap.size 0 rfl mayV.toList _ (range_of_kb (by rw [Array.toArray_toList]; exact hD.out)) Try.underlying68 rfl (size_may.trans (congrArg some (by rw [Array.length_toList]; exact hS.out.symm))) ?_)
        | (with_reducible refine wpList_store_mid rfl 68 _ _ rfl w.heap.size 0 mayV rfl rfl (there_kb hD.out rfl) (size_may.trans (congrArg some hS.out.symm)) may_one ?_))
      exact bodyPost_ret (results_cell_row rfl _ _ w.heap.size 68 _ (0, 0) _ rfl (setCells_kb mayV.toList hD.out (by rw [Array.length_toList])) Try.underlying68 rfl (size_may.trans (congrArg some (by rw [Array.toArray_toList]; exact hS.out.symm)))) rfl ⟨rfl, bl_cells _ (Nat.le_refl _) _ hnx⟩
end Go.Proofs.Ytlnhofpjeinadaa
