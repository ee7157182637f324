/- The state: New, none, take, Len. -/
import Derived.Test.YtmfajippoielhaaDoorBBytes4
import Derived.Test.YtmfajippoielhaaDoorBl5
namespace Go.Proofs.YtmfajippoielhaaDoor
open Go.RowKit Go.Proofs.YtmfajippoielhaaDoor.Bl
set_option linter.unusedSimpArgs false
set_option linter.unusedVariables false
attribute [local go_sem] cell_alloc_some frozen_alloc_some

/-- A state's variables: its block, its counter's, its words, its bytes' slice. -/
structure Stt (w : World) (p c : Nat) (h : List UInt32) (n : Nat) (v : Value) : Prop where
  st : Cs w p 36 ([.pointer (some ⟨c, 0, none⟩)] ++ (wvs h ++ [v]))
  ct : Cs w c 59 [.int .i64 (n : Int)]
  hl : h.length = 8
theorem Stt.below {w w' : World} {p c : Nat} {h : List UInt32} {n : Nat} {v : Value} (H : Stt w p c h n v) (k : Below w.heap.size w w') : Stt w' p c h n v := ⟨H.st.below k, H.ct.below k, H.hl⟩
theorem Stt.keep {w w' : World} {p c : Nat} {h : List UInt32} {n : Nat} {v : Value} {S : Nat → Prop} (H : Stt w p c h n v) (k : Keep S w w') (hp : ¬ S p) (hc : ¬ S c) : Stt w' p c h n v := ⟨H.st.keep k hp, H.ct.keep k hc, H.hl⟩
theorem Stt.ne {w : World} {p c : Nat} {h : List UInt32} {n : Nat} {v : Value} (H : Stt w p c h n v) : p ≠ c := by
  intro e
  have h1 : w.heap[p]? = _ := H.st
  have h2 : w.heap[c]? = _ := H.ct
  rw [← e, h1] at h2
  injection h2 with h2
  injection h2 with _ h2
  exact absurd h2 (by decide)
theorem Stt.c0 {w : World} {p c : Nat} {h : List UInt32} {n : Nat} {v : Value} (H : Stt w p c h n v) : w.cell? ⟨p, 0, none⟩ = some (.pointer (some ⟨c, 0, none⟩)) := (H.st.at 0).trans rfl
theorem Stt.c9 {w : World} {p c : Nat} {h : List UInt32} {n : Nat} {v : Value} (H : Stt w p c h n v) : w.cell? ⟨p, 9, none⟩ = some v := by
  rw [H.st.at 9, List.getElem?_append_right (by simp), List.getElem?_append_right (by rw [wvs_len, H.hl]; simp), wvs_len, H.hl]; rfl
theorem Stt.cn {w : World} {p c : Nat} {h : List UInt32} {n : Nat} {v : Value} (H : Stt w p c h n v) : w.cell? ⟨c, 0, none⟩ = some (.int .i64 (n : Int)) := (H.ct.at 0).trans rfl
theorem Stt.fz {w : World} {p c : Nat} {h : List UInt32} {n : Nat} {v : Value} (H : Stt w p c h n v) (i : Nat) : w.frozen? ⟨p, i, none⟩ = false := H.st.fz i
theorem Stt.fc {w : World} {p c : Nat} {h : List UInt32} {n : Nat} {v : Value} (H : Stt w p c h n v) (i : Nat) : w.frozen? ⟨c, i, none⟩ = false := H.ct.fz i
theorem set_last {x u v : Value} {h : List UInt32} (hl : h.length = 8) : ([x] ++ (wvs h ++ [v])).set 9 u = [x] ++ (wvs h ++ [u]) := by
  rw [List.set_append_right _ _ (by simp), List.set_append_right _ _ (by rw [wvs_len, hl]; simp), wvs_len, hl]; rfl
theorem Stt.putv {w : World} {p c : Nat} {h : List UInt32} {n : Nat} {v : Value} (H : Stt w p c h n v) (u : Value) : Stt (w.setCell ⟨p, 9, none⟩ u) p c h n u := by
  refine ⟨?_, H.ct.keep ((Keep.refl (fun b => b = p) w).set (p := ⟨p, 9, none⟩) (fun _ => rfl) u) (fun e => H.ne e.symm), H.hl⟩
  have := H.st.put 9 u
  rw [set_last H.hl] at this
  exact this

theorem take_any {w : World} {p c : Nat} {h : List UInt32} {n : Nat} {v : Value} (m : Nat) (H : Stt w p c h n v) (hn : n + m < 4611686018427387904) :
    Calls Tryd.prog 33 #[.pointer (some ⟨c, 0, none⟩), .int .i64 (m : Int)] w fun e w' => e = .returned (.tuple #[]) ∧ Stt w' p c h (n + m) v ∧ Keep (fun b => b = c) w w' := by
  have c0 := H.cn
  have z0 := H.fc 0
  have HH := Lib.hid H
  clear H
  go_enter Tryd.func33, Tryd.ntmps33
  go_wp2_with fail
  go_end0
  have k : Keep (fun b => b = c) w (w.setCell ⟨c, 0, none⟩ (.int .i64 ((n : Int) + (m : Int)))) := (Keep.refl (fun b => b = c) w).set (p := ⟨c, 0, none⟩) (fun _ => rfl) _
  refine ⟨rfl, ⟨HH.out.st.keep k HH.out.ne, ?_, HH.out.hl⟩, k⟩
  have := HH.out.ct.put 0 (.int .i64 ((n : Int) + (m : Int)))
  simpa using this
theorem clen_any {w : World} {p c : Nat} {h : List UInt32} {n : Nat} {v : Value} (H : Stt w p c h n v) :
    Calls Tryd.prog 34 #[.pointer (some ⟨c, 0, none⟩)] w fun e w' => e = .returned (.int .i64 (n : Int)) ∧ w = w' := by
  have c0 := H.cn
  go_enter Tryd.func34, Tryd.ntmps34
  go_wp2_with fail
  go_ret
  exact ⟨rfl, rfl⟩
theorem none_no {w : World} {p c : Nat} {h : List UInt32} {n : Nat} {v : Value} (H : Stt w p c h n v) :
    Calls Tryd.prog 30 #[.pointer (some ⟨p, 0, none⟩)] w fun e w' => e = .returned (.bool false) ∧ w = w' := by
  have c0 := H.c0
  go_enter Tryd.func30, Tryd.ntmps30
  go_wp2_with fail
  go_ret
  exact ⟨rfl, rfl⟩
theorem none_nil (w : World) :
    Calls Tryd.prog 30 #[.pointer none] w fun e w' => e = .returned (.bool true) ∧ w = w' := by
  go_enter Tryd.func30, Tryd.ntmps30
  go_wp2_with fail
  go_ret
  exact ⟨rfl, rfl⟩
theorem none_un {w : World} {p : Nat} (H : w.cell? ⟨p, 0, none⟩ = some (.pointer none)) :
    Calls Tryd.prog 30 #[.pointer (some ⟨p, 0, none⟩)] w fun e w' => e = .returned (.bool true) ∧ w = w' := by
  go_enter Tryd.func30, Tryd.ntmps30
  go_wp2_with fail
  go_ret
  exact ⟨rfl, rfl⟩
/-- A state is nobody's. -/
def Nobody (w : World) (s : Value) : Prop := s = .pointer none ∨ ∃ p, s = .pointer (some ⟨p, 0, none⟩) ∧ w.cell? ⟨p, 0, none⟩ = some (.pointer none)
theorem none_yes {w : World} {s : Value} (H : Nobody w s) : Calls Tryd.prog 30 #[s] w fun e w' => e = .returned (.bool true) ∧ w = w' := by
  rcases H with rfl | ⟨p, rfl, hp⟩
  · exact none_nil w
  · exact none_un hp
theorem WriteNo_any {w : World} {s : Value} (H : Nobody w s) (b : Value) : Calls Tryd.prog 15 #[s, b] w fun e w' => e = .returned (.int .i64 1) ∧ Below w.heap.size w w' := by
  have HH := Lib.hid H
  clear H
  go_enter Tryd.func15, Tryd.ntmps15
  go_wp2_with fail
  refine (none_yes HH.out).mono ?_
  rintro e w1 ⟨rfl, rfl⟩
  go_wp2_with fail
  go_ret
  exact ⟨rfl, by (repeat (with_reducible (first | exact Below.refl _ _ | assumption | refine bl_alloc ?_ _ | refine bl_drew ?_ | refine bl_drewN ?_ _ | (refine bl_set ?_ ?_ _; (focus (first | (simp; done) | (simp; omega) | omega))) | refine bl_then ?_ (by assumption))))⟩
theorem LenNo_any {w : World} {s : Value} (H : Nobody w s) : Calls Tryd.prog 16 #[s] w fun e w' => e = .returned (.int .i64 0) ∧ Below w.heap.size w w' := by
  have HH := Lib.hid H
  clear H
  go_enter Tryd.func16, Tryd.ntmps16
  go_wp2_with fail
  refine (none_yes HH.out).mono ?_
  rintro e w1 ⟨rfl, rfl⟩
  go_wp2_with fail
  go_ret
  exact ⟨rfl, by (repeat (with_reducible (first | exact Below.refl _ _ | assumption | refine bl_alloc ?_ _ | refine bl_drew ?_ | refine bl_drewN ?_ _ | (refine bl_set ?_ ?_ _; (focus (first | (simp; done) | (simp; omega) | omega))) | refine bl_then ?_ (by assumption))))⟩
set_option maxRecDepth 100000 in
theorem New_any (w : World) : Calls Tryd.prog 23 #[] w fun e w' => ∃ p c, e = .returned (.pointer (some ⟨p, 0, none⟩)) ∧ Stt w' p c h0 0 (.slice none 0 0) ∧ w.heap.size ≤ p ∧ w.heap.size ≤ c ∧ Below w.heap.size w w' := by
  go_enter Tryd.func23, Tryd.ntmps23
  go_wp2_with fail
  refine (begin_any _).mono ?_
  rintro e w1 ⟨rfl, b1⟩
  have HB := Lib.hid b1
  clear b1
  rw [iv_lit]
  go_wp2_with fail
  go_ret
  have hb := HB.out.size
  refine ⟨w1.heap.size + 1 + 1, w1.heap.size + 1, rfl, ⟨?_, ?_, h0_len⟩, by omega, by omega, ?_⟩
  · exact kb_new (by simp) _
  · exact kb_alloc (kb_new (by simp) _) _
  · exact bl_alloc (bl_alloc (bl_alloc HB.out _) _) _
end Go.Proofs.YtmfajippoielhaaDoor
