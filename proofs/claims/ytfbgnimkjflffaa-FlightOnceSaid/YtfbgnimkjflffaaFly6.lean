/- The walks of package flight: Get, Close. -/
import Derived.Test.YtfbgnimkjflffaaFly5
import Derived.RegionTactic
import Derived.StillTailTactics
import Derived.Outline
namespace Go.Proofs.Ytfbgnimkjflffaa
open Go.RowKit Go.Maps

theorem fl_alloc {w : World} {p m : Nat} {n : Int} {s : Value} (h : FlAt w p m n s) (o : Obj) : FlAt (w.alloc o) p m n s := kb_alloc h o
/-- The block of a flight's requests. -/
theorem Fl.cur {w : World} {B p m : Nat} {n : Int} {s : Value} {L : List Rq} (F : Fl w B p m n s L) {i : Nat} (hi : i < L.length) :
    ∃ g cap cur, s = .slice (some ⟨g, 0, none⟩) L.length cap ∧ w.heap[g]? = some (.cells cur 29 (0, 0)) ∧ B ≤ g ∧ ∀ j r, j < 5 → L[i]? = some r → cur[i * 5 + j]? = r.cells[j]? := by
  rcases F.row.2 with ⟨_, h0⟩ | ⟨g, cap, cur, hv, hB, hh, hc, hm, hsz, ht⟩
  · omega
  · refine ⟨g, cap, cur, hv, hh, hB, fun j r hj hr => ?_⟩
    have e := rqs_at L i j r hr hj
    have hlt : i * 5 + j < L.length * 5 := by omega
    rw [← ht, List.getElem?_take, if_pos hlt] at e
    simpa using e

set_option maxHeartbeats 400000 in
theorem fGet_none (p m : Nat) (n id : Int) (a0 : Option Addr) (len cap : Nat) (w : World) (h : FlAt w p m n (.slice a0 len cap)) (hid : id < 1 ∨ (len : Int) < id) :
    Calls Try.prog 9 #[.pointer (some ⟨p, 0, none⟩), .int .i64 id] w fun e w' => e = .returned (.tuple #[.agg #[.int .i64 0, .int .i64 0, .int .i64 0, .int .i64 0, .bool false], .bool false]) ∧ Below w.heap.size w w' := by
  go_enter Try.func9, Try.ntmps9
  go_wp2_with (go_at_call 18; (with_reducible refine (fat_no p m n _ _ _ _ _ (fl_alloc h _) hid).mono ?_); rintro e w1 ⟨rfl, rfl⟩)
  exact bodyPost_ret (v := .tuple #[.agg #[.int .i64 0, .int .i64 0, .int .i64 0, .int .i64 0, .bool false], .bool false]) (by simp [results, Try.results9, go_sem, *]) rfl ⟨rfl, by (repeat (with_reducible (first | exact Below.refl _ _ | assumption | refine bl_alloc ?_ _ | refine bl_drew ?_ | refine bl_drewN ?_ _ | (refine bl_set ?_ ?_ _; (focus (first | (simp; done) | (simp; omega) | omega))) | refine bl_then ?_ (by assumption))))⟩

set_option maxHeartbeats 1000000 in
theorem fGet_some (B p m : Nat) (n : Int) (s : Value) (L : List Rq) (w : World) (F : Fl w B p m n s L) (i : Nat) (r : Rq) (hr : L[i]? = some r) (hL : L.length ≤ 1000) :
    Calls Try.prog 9 #[.pointer (some ⟨p, 0, none⟩), .int .i64 ((i : Int) + 1)] w fun e w' => e = .returned (.tuple #[r.val, .bool true]) ∧ Below w.heap.size w w' := by
  have hi : i < L.length := (List.getElem?_eq_some_iff.1 hr).1
  obtain ⟨g, cap, cur, rfl, hh, _, hc⟩ := F.cur hi
  have hf := F.st
  have e0 : cur[i * 5]? = some (.int .i64 r.id) := hc 0 r (by omega) hr
  have e1 : cur[i * 5 + 1]? = some (.int .i64 r.to) := hc 1 r (by omega) hr
  have e2 : cur[i * 5 + 2]? = some (.int .i64 r.h) := hc 2 r (by omega) hr
  have e3 : cur[i * 5 + 3]? = some (.int .i64 r.at_) := hc 3 r (by omega) hr
  have e4 : cur[i * 5 + 4]? = some (.bool r.op) := hc 4 r (by omega) hr
  unfold Rq.val
  obtain ⟨id, to, h, a, o⟩ := r
  simp only at e0 e1 e2 e3 e4
  clear hc hr F
  have hl : L.length ≤ 70368744177664 := by omega
  have HB := kb_alloc hh (.cells #[.int .i64 0, .int .i64 0, .int .i64 0, .int .i64 0, .bool false] 29)
  have cg := kb_cell HB
  have c0 := (cg (i * 5)).trans e0
  have c1 := (cg (i * 5 + 1)).trans e1
  have c2 := (cg (i * 5 + 2)).trans e2
  have c3 := (cg (i * 5 + 3)).trans e3
  have c4 := (cg (i * 5 + 4)).trans e4
  clear cg e0 e1 e2 e3 e4
  go_enter Try.func9, Try.ntmps9
  go_wp2_with (go_at_call 18; (with_reducible refine (fat_yes p m n i g _ cap _ (fl_alloc hf _) hi hl).mono ?_); rintro e w1 ⟨rfl, rfl⟩)
  exact bodyPost_ret (v := .tuple #[.agg #[.int .i64 id, .int .i64 to, .int .i64 h, .int .i64 a, .bool o], .bool true]) (by simp [results, Try.results9, go_sem, *]) rfl ⟨rfl, by (repeat (with_reducible (first | exact Below.refl _ _ | assumption | refine bl_alloc ?_ _ | refine bl_drew ?_ | refine bl_drewN ?_ _ | (refine bl_set ?_ ?_ _; (focus (first | (simp; done) | (simp; omega) | omega))) | refine bl_then ?_ (by assumption))))⟩

set_option maxHeartbeats 400000 in
theorem fClose_none (p m : Nat) (n id : Int) (a0 : Option Addr) (len cap : Nat) (w : World) (h : FlAt w p m n (.slice a0 len cap)) (hid : id < 1 ∨ (len : Int) < id) :
    Calls Try.prog 6 #[.pointer (some ⟨p, 0, none⟩), .int .i64 id] w fun e w' => e = .returned (.int .i64 10) ∧ w = w' := by
  go_enter Try.func6, Try.ntmps6
  go_wp2_with (first | (go_at_call 18; (with_reducible refine (fat_no p m n _ _ _ _ _ h hid).mono ?_); rintro e w1 ⟨rfl, rfl⟩) | (go_at_call 17; (with_reducible refine (fnone_no p m n _ _ h).mono ?_); rintro e w1 ⟨rfl, rfl⟩))
  go_ret
  exact ⟨rfl, rfl⟩

set_option maxHeartbeats 1000000 in
theorem fClose_late (B p m : Nat) (n : Int) (s : Value) (L : List Rq) (w : World) (F : Fl w B p m n s L) (i : Nat) (r : Rq) (hr : L[i]? = some r) (hL : L.length ≤ 1000) (ho : r.op = false) :
    Calls Try.prog 6 #[.pointer (some ⟨p, 0, none⟩), .int .i64 ((i : Int) + 1)] w fun e w' => e = .returned (.int .i64 11) ∧ w = w' := by
  have hi : i < L.length := (List.getElem?_eq_some_iff.1 hr).1
  obtain ⟨g, cap, cur, rfl, hh, _, hc⟩ := F.cur hi
  have hf := F.st
  have e4 : cur[i * 5 + 4]? = some (.bool r.op) := hc 4 r (by omega) hr
  rw [ho] at e4
  have c4 := (kb_cell hh (i * 5 + 4)).trans e4
  have hl : L.length ≤ 70368744177664 := by omega
  clear hc hr F ho e4
  go_enter Try.func6, Try.ntmps6
  go_wp2_with (first | (go_at_call 18; (with_reducible refine (fat_yes p m n i g _ cap _ hf hi hl).mono ?_); rintro e w1 ⟨rfl, rfl⟩) | (go_at_call 17; (with_reducible refine (fnone_no p m n _ _ hf).mono ?_); rintro e w1 ⟨rfl, rfl⟩))
  go_ret
  exact ⟨rfl, rfl⟩

theorem fl_close {w W w2 : World} {B p m g cap i k : Nat} {n : Int} {L : List Rq} {r : Rq} {D : DataW Unit} (F : Fl w B p m n (.slice (some ⟨g, 0, none⟩) L.length cap) L) (hr : L[i]? = some r) (ho : r.op = true) (r1 : R64 r.to) (r2 : R64 r.h)
    (hk : k ≤ L.length) (hS : Says D L) (hfW : FlAt W p m n (.slice (some ⟨g, 0, none⟩) L.length cap))
    (hmW : W.ownsMap Try.prog 51 (plainElem Try.prog 3) m k D)
    (hrow : W.ownsRow B 29 5 (.slice (some ⟨g, 0, none⟩) L.length cap) L.length ((rqs L).set (i * 5 + 4) (.bool false)))
    (kW : Keep (FlS p m (.slice (some ⟨g, 0, none⟩) L.length cap)) w W) (hmg : m ≠ g)
    (hown2 : w2.ownsMap Try.prog 51 (plainElem Try.prog 3) m k (D.del (kl r.to r.h))) (hg2 : W.drew.grownBy w2 (some m)) :
    Fl w2 B p m n (.slice (some ⟨g, 0, none⟩) L.length cap) (L.set i { r with op := false }) ∧ Keep (FlS p m (.slice (some ⟨g, 0, none⟩) L.length cap)) w w2 := by
  have hpm : p ≠ m := by
    rintro rfl
    obtain ⟨es, clock, h1, _⟩ := hmW
    rw [show W.heap[p]? = _ from hfW] at h1
    cases h1
  have k2 : Keep (fun b => some m = some b) W w2 := Keep.grown (Keep.refl _ W).drew hg2 fun b _ hb => hb
  have hp2 : FlAt w2 p m n (.slice (some ⟨g, 0, none⟩) L.length cap) := k2.kb hfW (fun e => hpm (by injection e with e; exact e.symm))
  rw [rqs_close L i r hr] at hrow
  have hrow2 := k2.row hrow (fun b hb e => hmg (by simp [Value.ownBlock] at hb; injection e with e; omega))
  refine ⟨⟨hp2, ?_, ⟨_, k, hown2, ?_, says_del hS F.fine hr ho r1 r2⟩, fine_close F.fine hr, F.lp, F.lm, F.lo, F.hi⟩, ?_⟩
  · rw [List.length_set]; exact hrow2
  · rw [List.length_set]; exact hk
  · exact kW.trans k2 fun b _ hb => .inr (.inl (by injection hb with hb; exact hb.symm))

set_option maxHeartbeats 1000000 in
theorem fClose_yes (B p m : Nat) (n : Int) (s : Value) (L : List Rq) (w : World) (F : Fl w B p m n s L) (i : Nat) (r : Rq) (hr : L[i]? = some r) (hL : L.length ≤ 1000) (ho : r.op = true) :
    Calls Try.prog 6 #[.pointer (some ⟨p, 0, none⟩), .int .i64 ((i : Int) + 1)] w fun e w' => e = .returned (.int .i64 0) ∧
      Fl w' B p m n s (L.set i { r with op := false }) ∧ Keep (FlS p m s) w w' := by
  have hi : i < L.length := (List.getElem?_eq_some_iff.1 hr).1
  have HF := Lib.hid F
  have HR := Lib.hid hr
  obtain ⟨f1, f2, f3, f4, f5, _⟩ := F.fine.1 i r hr
  have hlo := F.lo
  have hhi := F.hi
  have r1 : R64 r.to := by unfold R64; omega
  have r2 : R64 r.h := by unfold R64; omega
  obtain ⟨D, k, hown, hk, hS⟩ := F.map
  have hrow := F.row
  obtain ⟨g, cap, cur, rfl, hh, _, hc⟩ := F.cur hi
  have hf := F.st
  have hsp := own_ne hrow hf (by decide)
  have hsm := own_ne_map hrow hown
  have HS := Lib.hid hS
  have e1 : cur[i * 5 + 1]? = some (.int .i64 r.to) := hc 1 r (by omega) hr
  have e2 : cur[i * 5 + 2]? = some (.int .i64 r.h) := hc 2 r (by omega) hr
  have e4 : cur[i * 5 + 4]? = some (.bool r.op) := hc 4 r (by omega) hr
  rw [ho] at e4
  have HO := Lib.hid ho
  have c1 := (kb_cell hh (i * 5 + 1)).trans e1
  have c2 := (kb_cell hh (i * 5 + 2)).trans e2
  have c4 := (kb_cell hh (i * 5 + 4)).trans e4
  have z4 := kb_frozen hh
  have c := kb_cell hf
  have hl : L.length ≤ 70368744177664 := by omega
  clear hc hr F ho e4 e1 e2 f1 f2 f3 f4 f5 hlo hhi hS
  have hK := kl_of r1 r2
  obtain ⟨id, to, h, a, o⟩ := r
  simp only at c1 c2 hK
  have hpg : p ≠ g := fun e => hsp (by simp [Value.ownBlock, e])
  have hmg : m ≠ g := fun e => hsm (by simp [Value.ownBlock, e])
  go_enter Try.func6, Try.ntmps6
  go_wp2_with (first | (go_at_call 18; (with_reducible refine (fat_yes p m n i g _ cap _ hf hi hl).mono ?_); rintro e w1 ⟨rfl, rfl⟩) | (go_at_call 17; (with_reducible refine (fnone_no p m n _ _ hf).mono ?_); rintro e w1 ⟨rfl, rfl⟩))
  have hfW : FlAt (w.setCell ⟨g, i * 5 + 4, none⟩ (.bool false)) p m n _ := kb_far hf (p := ⟨g, i * 5 + 4, none⟩) hpg (.bool false)
  have hsz : (w.setCell ⟨g, i * 5 + 4, none⟩ (.bool false)).heap.size = w.heap.size := by simp
  have hownW : (w.setCell ⟨g, i * 5 + 4, none⟩ (.bool false)).ownsMap Try.prog 51 (plainElem Try.prog 3) m k D := map_kb hown (Below.heap_setCell w ⟨g, i * 5 + 4, none⟩ (.bool false) m hmg)
  have hrowW := Lib.hid (hrow.stored (i * 5 + 4) (.bool false))
  have c1W : (w.setCell ⟨g, i * 5 + 4, none⟩ (.bool false)).cell? ⟨g, i * 5 + 1, none⟩ = some (.int .i64 to) := by simpa [go_sem] using c1
  have c2W : (w.setCell ⟨g, i * 5 + 4, none⟩ (.bool false)).cell? ⟨g, i * 5 + 2, none⟩ = some (.int .i64 h) := by simpa [go_sem] using c2
  have kW : Keep (FlS p m (.slice (some ⟨g, 0, none⟩) L.length cap)) w (w.setCell ⟨g, i * 5 + 4, none⟩ (.bool false)) := (Keep.refl _ w).set (fun _ => .inr (.inr rfl)) _
  clear c c1 c2 c4 z4
  generalize w.setCell ⟨g, i * 5 + 4, none⟩ (.bool false) = W at *
  have c := kb_cell hfW
  go_still_tail 13, (by kernel_rfl)
  change wpList _ _ _ _ _ W.drew
  go_wp2_with (at_delete; refine wpList_delete_own _ rfl _ _ 47 51 rfl 3 spotLaw Try.underlying47 _ m k D rfl hownW.drew _ (kl to h) rfl hK ?_; intro w2 hown2 hturn2)
  go_ret
  exact ⟨rfl, fl_close HF.out HR.out HO.out r1 r2 hk HS.out hfW hownW hrowW.out.1 kW hmg hown2 hturn2.grown⟩
end Go.Proofs.Ytfbgnimkjflffaa
