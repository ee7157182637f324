/- FlightOnce: goes. -/
import Derived.Test.YtfbgnimkjflffaaFly13
namespace Go.Proofs.Ytfbgnimkjflffaa
open Go.RowKit Go.Maps
attribute [local go_sem] cell_alloc_some frozen_alloc_some

/-- A slice value that reads as a list of requests. -/
def Reqs (w : World) (v : Value) (L : List Rq) : Prop :=
  ∃ A cap, v = .slice A L.length cap ∧ (0 < L.length → ∃ b, A = some ⟨b, 0, none⟩ ∧ b < w.heap.size ∧ ∀ (i j : Nat) r, j < 5 → L[i]? = some r → w.cell? ⟨b, i * 5 + j, none⟩ = r.cells[j]?)
theorem Reqs.below {w w' : World} {v : Value} {L : List Rq} (h : Reqs w v L) (hb : Below w.heap.size w w') : Reqs w' v L := by
  obtain ⟨A, cap, e, h⟩ := h
  refine ⟨A, cap, e, fun hn => ?_⟩
  obtain ⟨b, e, hlt, hc⟩ := h hn
  exact ⟨b, e, Nat.lt_of_lt_of_le hlt hb.size, fun i j r hj hr => (hb.cell (by exact hlt)).trans (hc i j r hj hr)⟩
theorem Reqs.of_own {w : World} {B : Nat} {v : Value} {L : List Rq} (h : w.ownsRow B 29 5 v L.length (rqs L)) : Reqs w v L := by
  rcases h.2 with ⟨rfl, h0⟩ | ⟨g, cap, cur, rfl, _, hh, _, _, _, ht⟩
  · exact ⟨none, 0, by rw [h0], fun h => by omega⟩
  · refine ⟨_, _, rfl, fun _ => ⟨g, rfl, kb_lt hh, fun i j r hj hr => ?_⟩⟩
    have e := rqs_at L i j r hr hj
    have hi : i < L.length := (List.getElem?_eq_some_iff.1 hr).1
    have hlt : i * 5 + j < L.length * 5 := by omega
    rw [← ht, List.getElem?_take, if_pos hlt] at e
    rw [kb_cell hh, ← Array.getElem?_toList, e]

theorem neq_rq (id to h a : Int) (o : Bool) (W : World) : (binOp .neq 29 (.agg #[.int .i64 id, .int .i64 to, .int .i64 h, .int .i64 a, .bool o]) (.agg #[.int .i64 id, .int .i64 to, .int .i64 h, .int .i64 a, .bool o])).run Try.prog W = .ok (.bool false) W := by
  rw [run_neq_struct, show (10000 : Nat) = 9998 + 1 + 1 from rfl, run_equalIn_agg W 9999 _ _ _ (by kernel_rfl) (by kernel_rfl)]
  have hf : Try.prog.fieldsOf 29 = (match Try.prog.underlying 29 with | some (.struct fs) => fs | _ => #[]) := rfl
  rw [hf, Try.underlying29]
  have ui := Try.underlying3
  have ub := Try.underlying4
  simp [Op.eqFields, go_sem, ui, ub]

/-- Requests, but that some are closed, are as they were. -/
def Goes (L M : List Rq) : Prop := L.length ≤ M.length ∧ ∀ (i : Nat) r, L[i]? = some r → ∃ o, M[i]? = some { r with op := o } ∧ (o = true → r.op = true)

set_option maxHeartbeats 1000000 in
theorem goes_yes (L M : List Rq) (u v : Value) (w : World) (hu : Reqs w u L) (hv : Reqs w v M) (hL : L.length ≤ 1000) (hM : M.length ≤ 1000) (hg : Goes L M) :
    Calls Try.prog 15 #[u, v] w fun e w' => e = .returned (.bool true) ∧ Below w.heap.size w w' := by
  obtain ⟨A, c1, rfl, ha⟩ := hu
  obtain ⟨A', c2, rfl, hb⟩ := hv
  have HA := Lib.hid ha
  have HB := Lib.hid hb
  have HG := Lib.hid hg
  clear ha hb hg
  go_enter Try.func15, Try.ntmps15
  go_wp2
  go_loopw [5, 6, 7, 8, 9, 10, 11, 12, 13, 14, 15, 16, 17, 18, 19, 20, 21, 22, 23, 24, 25, 26, 27, 28, 29, 30, 31, 32, 33, 34, 35, 36, 37, 38] (fun s5 _ _ _ _ _ _ _ _ _ _ _ _ _ _ _ _ _ _ _ _ _ _ _ _ _ _ _ _ _ _ _ _ _ wr => ∃ k : Nat, k ≤ L.length ∧ s5 = .int .i64 k ∧ Below w.heap.size w wr) (fun s5 _ _ _ _ _ _ _ _ _ _ _ _ _ _ _ _ _ _ _ _ _ _ _ _ _ _ _ _ _ _ _ _ _ _ => L.length - (intOf s5).toNat)
  case atStart => exact ⟨0, by omega, rfl, Below.refl _ _⟩
  case round =>
    obtain ⟨k, hk, rfl, hb⟩ := hrel
    by_cases hlt : k < L.length
    · have hg := HG.out
      have hlM : k < M.length := by have := hg.1; omega
      obtain ⟨b1, rfl, l1, q1⟩ := HA.out (by omega)
      obtain ⟨b2, rfl, l2, q2⟩ := HB.out (by omega)
      obtain ⟨r, hr⟩ : ∃ r, L[k]? = some r := ⟨_, List.getElem?_eq_getElem hlt⟩
      obtain ⟨o, hm, ho⟩ := hg.2 k r hr
      have p0 := (hb.cell (p := ⟨b1, k * 5, none⟩) (by exact l1)).trans (q1 k 0 r (by omega) hr)
      have p1 := (hb.cell (p := ⟨b1, k * 5 + 1, none⟩) (by exact l1)).trans (q1 k 1 r (by omega) hr)
      have p2 := (hb.cell (p := ⟨b1, k * 5 + 2, none⟩) (by exact l1)).trans (q1 k 2 r (by omega) hr)
      have p3 := (hb.cell (p := ⟨b1, k * 5 + 3, none⟩) (by exact l1)).trans (q1 k 3 r (by omega) hr)
      have p4 := (hb.cell (p := ⟨b1, k * 5 + 4, none⟩) (by exact l1)).trans (q1 k 4 r (by omega) hr)
      have n0 := (hb.cell (p := ⟨b2, k * 5, none⟩) (by exact l2)).trans (q2 k 0 _ (by omega) hm)
      have n1 := (hb.cell (p := ⟨b2, k * 5 + 1, none⟩) (by exact l2)).trans (q2 k 1 _ (by omega) hm)
      have n2 := (hb.cell (p := ⟨b2, k * 5 + 2, none⟩) (by exact l2)).trans (q2 k 2 _ (by omega) hm)
      have n3 := (hb.cell (p := ⟨b2, k * 5 + 3, none⟩) (by exact l2)).trans (q2 k 3 _ (by omega) hm)
      have n4 := (hb.cell (p := ⟨b2, k * 5 + 4, none⟩) (by exact l2)).trans (q2 k 4 _ (by omega) hm)
      simp only [Rq.cells, List.getElem?_cons_zero, List.getElem?_cons_succ] at p0 p1 p2 p3 p4 n0 n1 n2 n3 n4
      have hws : w.heap.size ≤ wr.heap.size := hb.size
      have m1 : b1 ≠ wr.heap.size := by omega
      have m2 : b2 ≠ wr.heap.size := by omega
      have hilM : ((k : Nat) : Int) < (M.length : Int) := by omega
      have hilL : ((k : Nat) : Int) < (L.length : Int) := by omega
      have hneq := fun W => neq_rq r.id r.to r.h r.at_ r.op W
      clear q1 q2 hg hm hr
      obtain ⟨id, to, h, a, op⟩ := r
      simp only at ho p0 p1 p2 p3 p4 n0 n1 n2 n3 n4 hneq
      have hoo : (o && !op) = false := by cases o <;> simp_all
      cases o
      · clear ho hoo
        go_wp2
        go_quiet (fail)
        go_wp2
        go_roundw
        case rel => exact ⟨k + 1, by omega, by go_num, by (repeat (with_reducible (first | exact Below.refl _ _ | assumption | refine bl_alloc ?_ _ | refine bl_drew ?_ | refine bl_drewN ?_ _ | (refine bl_set ?_ ?_ _; (focus (first | (simp; done) | (simp; omega) | omega))) | refine bl_then ?_ (by assumption))))⟩
        case measure => simp [intOf]; omega
      · obtain rfl := ho rfl
        clear ho hoo
        go_wp2
        go_quiet (fail)
        go_wp2
        go_roundw
        case rel => exact ⟨k + 1, by omega, by go_num, by (repeat (with_reducible (first | exact Below.refl _ _ | assumption | refine bl_alloc ?_ _ | refine bl_drew ?_ | refine bl_drewN ?_ _ | (refine bl_set ?_ ?_ _; (focus (first | (simp; done) | (simp; omega) | omega))) | refine bl_then ?_ (by assumption))))⟩
        case measure => simp [intOf]; omega
    · obtain rfl : k = L.length := by omega
      go_wp2
      go_ret
      exact ⟨rfl, hb⟩
end Go.Proofs.Ytfbgnimkjflffaa
