/- The law package of merits: some of the chapter's examples. -/
import Derived.Test.YtockdfhejbbbeaaSco6
import Derived.Test.YtockdfhejbbbeaaSco7
import Derived.Deep.RegionHeld3
import Derived.Outline
namespace Go.Proofs.Ytockdfhejbbbeaa
open Go.RowKit Go.Proofs.Ytockdfhejbbbeaa.Pc Go.Proofs.Ytockdfhejbbbeaa.Sy BigFrame
attribute [local go_sem] run_store_float
set_option linter.unusedSimpArgs false
set_option linter.unusedVariables false

theorem MRow.lit {w : World} {b cap : Nat} {cs : Array Value} {t : TypeId} {fr : Nat × Nat} {ms : List Mr} {n : Nat} (h : w.heap[b]? = some (.cells cs t fr)) (hc : cs = (mcs ms).toArray) (hn : n = ms.length) : MRow w (.slice (some ⟨b, 0, none⟩) n cap) ms := by
  subst hc hn
  refine ⟨_, cap, rfl, fun _ => ⟨b, 0, rfl, kb_lt h, fun i m hm => ?_⟩⟩
  obtain ⟨h1, h2⟩ := mcs_at ms i m hm
  rw [Nat.zero_add, kb_cell h, kb_cell h, List.getElem?_toArray, List.getElem?_toArray]
  exact ⟨h1, h2⟩
theorem RPost.exact {n : Int} {v : Nat} {er : Int} {w w' : World} {e : Ending} {v' : Nat} (h : RPost n v er w e w') (hv : canon v = v') (hn : nanB v' = false) : e = .returned (.tuple #[.agg #[.int .i64 n, .float .f64 v'], .int .i64 er]) ∧ Below w.heap.size w w' := by
  obtain ⟨r, he, hc, _, hb⟩ := h
  have h1 := nan_of_canon (hc.trans (canon_canon v).symm)
  rw [hv, hn] at h1
  rw [canon_num h1, hv] at hc
  subst hc
  exact ⟨he, hb⟩
theorem Good_t (s : Int) (p : Nat) (t : Int) (n : Int) (v : Nat) (w : World) (h1 : goodS s t = n) (h2 : canon (goodP s p t) = v) (h3 : goodE s t = 0) (h4 : nanB v = false) :
    Calls Try.prog 10 #[.agg #[.int .i64 s, .float .f64 p], .int .i64 t] w fun e w' => e = .returned (.tuple #[.agg #[.int .i64 n, .float .f64 v], .int .i64 0]) ∧ Below w.heap.size w w' :=
  (Good_any s p t w).mono fun e w' h => by
    rw [h1, h3] at h
    exact h.exact h2 h4
theorem Bad_t (s : Int) (p : Nat) (n : Int) (v : Nat) (w : World) (h1 : badS s = n) (h2 : canon (badP s p) = v) (h3 : badE s = 0) (h4 : nanB v = false) :
    Calls Try.prog 12 #[.agg #[.int .i64 s, .float .f64 p]] w fun e w' => e = .returned (.tuple #[.agg #[.int .i64 n, .float .f64 v], .int .i64 0]) ∧ Below w.heap.size w w' :=
  (Bad_any s p w).mono fun e w' h => by
    rw [h1, h3] at h
    exact h.exact h2 h4
theorem Best_t {v : Value} {ms : List Mr} {w : World} {r : Int} (hM : MRow w v ms) (hF : Fit ms) (hl : ms.length ≤ 30) (hr : bestR ms r) :
    Calls Try.prog 19 #[v] w fun e w' => e = .returned (.int .i64 r) ∧ Below w.heap.size w w' :=
  (Best_any v ms w hM hF hl).mono fun e w' ⟨q, he, hq, hb⟩ => by rw [best_unique hF hq hr] at he; exact ⟨he, hb⟩

theorem k_g1 (w : World) : Calls Try.prog 10 #[.agg #[.int .i64 0, .float .f64 9221120237041090561], .int .i64 8] w fun e w' => e = .returned (.tuple #[.agg #[.int .i64 1, .float .f64 4620693217682128896], .int .i64 0]) ∧ Below w.heap.size w w' := Good_t _ _ _ _ _ w (by decide +kernel) (by decide +kernel) (by decide +kernel) (by decide +kernel)
theorem k_g2 (w : World) : Calls Try.prog 10 #[.agg #[.int .i64 1, .float .f64 4620693217682128896], .int .i64 16] w fun e w' => e = .returned (.tuple #[.agg #[.int .i64 2, .float .f64 4621256167635550208], .int .i64 0]) ∧ Below w.heap.size w w' := Good_t _ _ _ _ _ w (by decide +kernel) (by decide +kernel) (by decide +kernel) (by decide +kernel)
theorem k_b1 (w : World) : Calls Try.prog 12 #[.agg #[.int .i64 2, .float .f64 4621256167635550208]] w fun e w' => e = .returned (.tuple #[.agg #[.int .i64 (-3), .float .f64 9218868437227405312], .int .i64 0]) ∧ Below w.heap.size w w' := Bad_t _ _ _ _ w (by decide +kernel) (by decide +kernel) (by decide +kernel) (by decide +kernel)
def ms3 : List Mr := [⟨0, 4621256167635550208⟩, ⟨1, 4621256167635550208⟩, ⟨1, 4620693217682128896⟩]
theorem ms3_fit : Fit ms3 := by
  intro m hm
  simp [ms3] at hm
  rcases hm with rfl | rfl | rfl <;> decide
theorem ms3_best : bestR ms3 2 := .inr ⟨2, by decide, rfl, by decide +kernel⟩
theorem bet_self (s : Int) (p : Nat) (hp : p < 18446744073709551616) : betM s p s p = false := by
  unfold betM
  exact decide_eq_false (by rw [cmpM_lt hp hp]; omega)

set_option maxRecDepth 100000 in
set_option maxHeartbeats 2000000 in
theorem awake_any (w : World) : Calls Try.prog 17 #[] w fun e w' => e = .returned (.bool true) ∧ Below w.heap.size w w' := by
  go_enter Try.func17, Try.ntmps17
  go_wp2_with (go_at_call 27; (with_reducible refine (NaN_any _).mono ?_); rintro e w1 ⟨rfl, rfl⟩)
  refine (k_g1 _).mono ?_
  rintro e w1 ⟨rfl, b1⟩
  go_wp2_with fail
  refine (k_g2 _).mono ?_
  rintro e w2 ⟨rfl, b2⟩
  have A1 := kb_below b2 (kb_new (w := w1) rfl (.cells #[.int .i64 1, .float .f64 4620693217682128896] 25))
  go_wp2_with fail
  refine (k_b1 _).mono ?_
  rintro e w3 ⟨rfl, b3⟩
  have A2 := kb_below b3 (kb_alloc A1 (.cells #[.int .i64 2, .float .f64 4621256167635550208] 25))
  have C2 := kb_below b3 (kb_new (w := w2) rfl (.cells #[.int .i64 2, .float .f64 4621256167635550208] 25))
  go_wp2_with fail
  obtain ⟨w4, hw4⟩ : ∃ w4 : World, w4 = w3.alloc (.cells #[.int .i64 (-3), .float .f64 9218868437227405312] 25) := ⟨_, rfl⟩
  have A3 : w4.heap[w1.heap.size]? = some (.cells #[.int .i64 1, .float .f64 4620693217682128896] 25) := by rw [hw4]; exact kb_alloc A2 _
  have C3 : w4.heap[w2.heap.size]? = some (.cells #[.int .i64 2, .float .f64 4621256167635550208] 25) := by rw [hw4]; exact kb_alloc C2 _
  have D3 : w4.heap[w3.heap.size]? = some (.cells #[.int .i64 (-3), .float .f64 9218868437227405312] 25) := by rw [hw4]; exact kb_new rfl _
  have B4 : Below w.heap.size w w4 := by rw [hw4]; (repeat (with_reducible (first | exact Below.refl _ _ | assumption | refine bl_alloc ?_ _ | refine bl_drew ?_ | refine bl_drewN ?_ _ | (refine bl_set ?_ ?_ _; (focus (first | (simp; done) | (simp; omega) | omega))) | refine bl_then ?_ (by assumption))))
  rw [← hw4]
  clear hw4 A1 A2 C2 b1 b2 b3
  go_wp2_with fail
  refine wp_region_held_drew (S := (fun W : World => W.cell? ⟨w1.heap.size, 0, none⟩ = some (.int .i64 1) ∧ W.cell? ⟨w1.heap.size, 1, none⟩ = some (.float .f64 4620693217682128896) ∧ W.cell? ⟨w2.heap.size, 0, none⟩ = some (.int .i64 2) ∧ W.cell? ⟨w2.heap.size, 1, none⟩ = some (.float .f64 4621256167635550208) ∧ W.cell? ⟨w3.heap.size, 0, none⟩ = some (.int .i64 (-3)) ∧ W.cell? ⟨w3.heap.size, 1, none⟩ = some (.float .f64 9218868437227405312))) (by kernel_rfl) ⟨kb_cell (kb_drew A3) 0, kb_cell (kb_drew A3) 1, kb_cell (kb_drew C3) 0, kb_cell (kb_drew C3) 1, kb_cell (kb_drew D3) 0, kb_cell (kb_drew D3) 1⟩ (fun hHeld => ?_)
  refine wpAnyH_take (i := 0) (oi := { dst := some 23, op := _, type := _, pos := _, after := _, guard := _ }) (v := ?_) rfl (by kernel_rfl) (by kernel_rfl) (by kernel_rfl) (fun _ _ _ h => h) (Or.inl ⟨by rfl, ?_⟩) hHeld ?_
  rotate_left
  · (intro w hSw; (try dsimp only at hSw); go_simp); all_goals with_reducible rfl
  try simp only [Act.put, List.setIfInBounds_toArray, List.set_cons_zero, List.set_cons_succ]
  refine wpAnyH_take (i := 1) (oi := { dst := some 24, op := _, type := _, pos := _, after := _, guard := _ }) (v := ?_) rfl (by kernel_rfl) (by kernel_rfl) (by kernel_rfl) (fun _ _ _ h => h) (Or.inl ⟨by rfl, ?_⟩) hHeld ?_
  rotate_left
  · (intro w hSw; (try dsimp only at hSw); go_simp); all_goals with_reducible rfl
  try simp only [Act.put, List.setIfInBounds_toArray, List.set_cons_zero, List.set_cons_succ]
  refine wpAnyH_ready (rs := [2]) (by kernel_rfl) (by simp) (AllReadyH.cons (o := _) rfl (fun K hK => ?_) AllReadyH.nil)
  go_simp
  refine (is_t 1 4620693217682128896 4620693217682128896 _ rfl).mono ?_
  rintro e w5 ⟨rfl, b5⟩
  have A5 := kb_below b5 (kb_drew A3)
  have C5 := kb_below b5 (kb_drew C3)
  have D5 := kb_below b5 (kb_drew D3)
  refine hK.out _ _ ⟨kb_cell A5 0, kb_cell A5 1, kb_cell C5 0, kb_cell C5 1, kb_cell D5 0, kb_cell D5 1⟩ (fun hHeld => ?_)
  clear hK K
  refine wpAnyH_take (i := 3) (oi := { dst := some 26, op := _, type := _, pos := _, after := _, guard := _ }) (v := ?_) rfl (by kernel_rfl) (by kernel_rfl) (by kernel_rfl) (fun _ _ _ h => h) (Or.inl ⟨by rfl, ?_⟩) hHeld ?_
  rotate_left
  · (intro w hSw; (try dsimp only at hSw); go_simp); all_goals with_reducible rfl
  try simp only [Act.put, List.setIfInBounds_toArray, List.set_cons_zero, List.set_cons_succ]
  refine wpAnyH_take (i := 4) (oi := { dst := some 27, op := _, type := _, pos := _, after := _, guard := _ }) (v := ?_) rfl (by kernel_rfl) (by kernel_rfl) (by kernel_rfl) (fun _ _ _ h => h) (Or.inl ⟨by rfl, ?_⟩) hHeld ?_
  rotate_left
  · (intro w hSw; (try dsimp only at hSw); go_simp); all_goals with_reducible rfl
  try simp only [Act.put, List.setIfInBounds_toArray, List.set_cons_zero, List.set_cons_succ]
  refine wpAnyH_take (i := 5) (oi := { dst := some 28, op := _, type := _, pos := _, after := _, guard := _ }) (v := ?_) rfl (by kernel_rfl) (by kernel_rfl) (by kernel_rfl) (fun _ _ _ h => h) (Or.inl ⟨by rfl, ?_⟩) hHeld ?_
  rotate_left
  · (intro w hSw; (try dsimp only at hSw); go_simp); all_goals with_reducible rfl
  try simp only [Act.put, List.setIfInBounds_toArray, List.set_cons_zero, List.set_cons_succ]
  refine wpAnyH_ready (rs := [6]) (by kernel_rfl) (by simp) (AllReadyH.cons (o := _) rfl (fun K hK => ?_) AllReadyH.nil)
  go_simp
  refine (is_t 2 4621256167635550208 4621256167635550208 _ rfl).mono ?_
  rintro e w6 ⟨rfl, b6⟩
  have A6 := kb_below b6 A5
  have C6 := kb_below b6 C5
  have D6 := kb_below b6 D5
  refine hK.out _ _ ⟨kb_cell A6 0, kb_cell A6 1, kb_cell C6 0, kb_cell C6 1, kb_cell D6 0, kb_cell D6 1⟩ (fun hHeld => ?_)
  clear hK K
  refine wpAnyH_take (i := 7) (oi := { dst := some 30, op := _, type := _, pos := _, after := _, guard := _ }) (v := ?_) rfl (by kernel_rfl) (by kernel_rfl) (by kernel_rfl) (fun _ _ _ h => h) (Or.inl ⟨by rfl, ?_⟩) hHeld ?_
  rotate_left
  · (intro w hSw; (try dsimp only at hSw); go_simp); all_goals with_reducible rfl
  try simp only [Act.put, List.setIfInBounds_toArray, List.set_cons_zero, List.set_cons_succ]
  refine wpAnyH_take (i := 8) (oi := { dst := some 31, op := _, type := _, pos := _, after := _, guard := _ }) (v := ?_) rfl (by kernel_rfl) (by kernel_rfl) (by kernel_rfl) (fun _ _ _ h => h) (Or.inl ⟨by rfl, ?_⟩) hHeld ?_
  rotate_left
  · (intro w hSw; (try dsimp only at hSw); go_simp); all_goals with_reducible rfl
  try simp only [Act.put, List.setIfInBounds_toArray, List.set_cons_zero, List.set_cons_succ]
  refine wpAnyH_take (i := 9) (oi := { dst := some 32, op := _, type := _, pos := _, after := _, guard := _ }) (v := ?_) rfl (by kernel_rfl) (by kernel_rfl) (by kernel_rfl) (fun _ _ _ h => h) (Or.inl ⟨by rfl, ?_⟩) hHeld ?_
  rotate_left
  · (intro w hSw; (try dsimp only at hSw); go_simp); all_goals with_reducible rfl
  try simp only [Act.put, List.setIfInBounds_toArray, List.set_cons_zero, List.set_cons_succ]
  refine wpAnyH_take (i := 10) (oi := { dst := some 33, op := _, type := _, pos := _, after := _, guard := _ }) (v := ?_) rfl (by kernel_rfl) (by kernel_rfl) (by kernel_rfl) (fun _ _ _ h => h) (Or.inl ⟨by rfl, ?_⟩) hHeld ?_
  rotate_left
  · (intro w hSw; (try dsimp only at hSw); go_simp); all_goals with_reducible rfl
  try simp only [Act.put, List.setIfInBounds_toArray, List.set_cons_zero, List.set_cons_succ]
  refine wpAnyH_ready (rs := [11]) (by kernel_rfl) (by simp) (AllReadyH.cons (o := _) rfl (fun K hK => ?_) AllReadyH.nil)
  go_simp
  refine (Inf_any _).mono ?_
  rintro e w6' ⟨rfl, rfl⟩
  refine hK.out _ _ ⟨kb_cell A6 0, kb_cell A6 1, kb_cell C6 0, kb_cell C6 1, kb_cell D6 0, kb_cell D6 1⟩ (fun hHeld => ?_)
  clear hK K
  refine wpAnyH_ready (rs := [12]) (by kernel_rfl) (by simp) (AllReadyH.cons (o := _) rfl (fun K hK => ?_) AllReadyH.nil)
  go_simp
  refine (is_t (-3) 9218868437227405312 9218868437227405312 _ rfl).mono ?_
  rintro e w7 ⟨rfl, b7⟩
  have A7 := kb_below b7 A6
  have C7 := kb_below b7 C6
  have D7 := kb_below b7 D6
  refine hK.out _ _ ⟨kb_cell A7 0, kb_cell A7 1, kb_cell C7 0, kb_cell C7 1, kb_cell D7 0, kb_cell D7 1⟩ (fun hHeld => ?_)
  clear hK K
  refine wpAnyH_take (i := 13) (oi := { dst := some 36, op := _, type := _, pos := _, after := _, guard := _ }) (v := ?_) rfl (by kernel_rfl) (by kernel_rfl) (by kernel_rfl) (fun _ _ _ h => h) (Or.inl ⟨by rfl, ?_⟩) hHeld ?_
  rotate_left
  · (intro w hSw; (try dsimp only at hSw); go_simp); all_goals with_reducible rfl
  try simp only [Act.put, List.setIfInBounds_toArray, List.set_cons_zero, List.set_cons_succ]
  refine wpAnyH_take (i := 14) (oi := { dst := some 37, op := _, type := _, pos := _, after := _, guard := _ }) (v := ?_) rfl (by kernel_rfl) (by kernel_rfl) (by kernel_rfl) (fun _ _ _ h => h) (Or.inl ⟨by rfl, ?_⟩) hHeld ?_
  rotate_left
  · (intro w hSw; (try dsimp only at hSw); go_simp); all_goals with_reducible rfl
  try simp only [Act.put, List.setIfInBounds_toArray, List.set_cons_zero, List.set_cons_succ]
  refine wpAnyH_take (i := 15) (oi := { dst := some 38, op := _, type := _, pos := _, after := _, guard := _ }) (v := ?_) rfl (by kernel_rfl) (by kernel_rfl) (by kernel_rfl) (fun _ _ _ h => h) (Or.inl ⟨by rfl, ?_⟩) hHeld ?_
  rotate_left
  · (intro w hSw; (try dsimp only at hSw); go_simp); all_goals with_reducible rfl
  try simp only [Act.put, List.setIfInBounds_toArray, List.set_cons_zero, List.set_cons_succ]
  refine wpAnyH_take (i := 16) (oi := { dst := some 39, op := _, type := _, pos := _, after := _, guard := _ }) (v := ?_) rfl (by kernel_rfl) (by kernel_rfl) (by kernel_rfl) (fun _ _ _ h => h) (Or.inl ⟨by rfl, ?_⟩) hHeld ?_
  rotate_left
  · (intro w hSw; (try dsimp only at hSw); go_simp); all_goals with_reducible rfl
  try simp only [Act.put, List.setIfInBounds_toArray, List.set_cons_zero, List.set_cons_succ]
  refine wpAnyH_take (i := 17) (oi := { dst := some 40, op := _, type := _, pos := _, after := _, guard := _ }) (v := ?_) rfl (by kernel_rfl) (by kernel_rfl) (by kernel_rfl) (fun _ _ _ h => h) (Or.inl ⟨by rfl, ?_⟩) hHeld ?_
  rotate_left
  · (intro w hSw; (try dsimp only at hSw); go_simp); all_goals with_reducible rfl
  try simp only [Act.put, List.setIfInBounds_toArray, List.set_cons_zero, List.set_cons_succ]
  refine wpAnyH_ready (rs := [18]) (by kernel_rfl) (by simp) (AllReadyH.cons (o := _) rfl (fun K hK => ?_) AllReadyH.nil)
  go_simp
  have L8 := kb_new (w := w7) rfl (.cells #[.int .i64 0, .float .f64 4621256167635550208, .int .i64 1, .float .f64 4621256167635550208, .int .i64 1, .float .f64 4620693217682128896] 25)
  have A8 := kb_alloc A7 (.cells #[.int .i64 0, .float .f64 4621256167635550208, .int .i64 1, .float .f64 4621256167635550208, .int .i64 1, .float .f64 4620693217682128896] 25)
  have C8 := kb_alloc C7 (.cells #[.int .i64 0, .float .f64 4621256167635550208, .int .i64 1, .float .f64 4621256167635550208, .int .i64 1, .float .f64 4620693217682128896] 25)
  have D8 := kb_alloc D7 (.cells #[.int .i64 0, .float .f64 4621256167635550208, .int .i64 1, .float .f64 4621256167635550208, .int .i64 1, .float .f64 4620693217682128896] 25)
  refine hK.out _ _ ⟨kb_cell A8 0, kb_cell A8 1, kb_cell C8 0, kb_cell C8 1, kb_cell D8 0, kb_cell D8 1⟩ (fun hHeld => ?_)
  clear hK K
  refine wpAnyH_ready (rs := [19]) (by kernel_rfl) (by simp) (AllReadyH.cons (o := _) rfl (fun K hK => ?_) AllReadyH.nil)
  go_simp
  refine (Best_t (MRow.lit (ms := ms3) L8 rfl rfl) ms3_fit (by decide) ms3_best).mono ?_
  rintro e w9 ⟨rfl, b9⟩
  have A9 := kb_below b9 A8
  have C9 := kb_below b9 C8
  have D9 := kb_below b9 D8
  refine hK.out _ _ ⟨kb_cell A9 0, kb_cell A9 1, kb_cell C9 0, kb_cell C9 1, kb_cell D9 0, kb_cell D9 1⟩ (fun hHeld => ?_)
  clear hK K
  refine wpAnyH_take (i := 20) (oi := { dst := some 43, op := _, type := _, pos := _, after := _, guard := _ }) (v := ?_) rfl (by kernel_rfl) (by kernel_rfl) (by kernel_rfl) (fun _ _ _ h => h) (Or.inl ⟨by rfl, ?_⟩) hHeld ?_
  rotate_left
  · (intro w hSw; (try dsimp only at hSw); go_simp); all_goals with_reducible rfl
  try simp only [Act.put, List.setIfInBounds_toArray, List.set_cons_zero, List.set_cons_succ]
  refine wpAnyH_take (i := 21) (oi := { dst := some 44, op := _, type := _, pos := _, after := _, guard := _ }) (v := ?_) rfl (by kernel_rfl) (by kernel_rfl) (by kernel_rfl) (fun _ _ _ h => h) (Or.inl ⟨by rfl, ?_⟩) hHeld ?_
  rotate_left
  · (intro w hSw; (try dsimp only at hSw); go_simp); all_goals with_reducible rfl
  try simp only [Act.put, List.setIfInBounds_toArray, List.set_cons_zero, List.set_cons_succ]
  refine wpAnyH_take (i := 22) (oi := { dst := some 45, op := _, type := _, pos := _, after := _, guard := _ }) (v := ?_) rfl (by kernel_rfl) (by kernel_rfl) (by kernel_rfl) (fun _ _ _ h => h) (Or.inl ⟨by rfl, ?_⟩) hHeld ?_
  rotate_left
  · (intro w hSw; (try dsimp only at hSw); go_simp); all_goals with_reducible rfl
  try simp only [Act.put, List.setIfInBounds_toArray, List.set_cons_zero, List.set_cons_succ]
  refine wpAnyH_take (i := 23) (oi := { dst := some 46, op := _, type := _, pos := _, after := _, guard := _ }) (v := ?_) rfl (by kernel_rfl) (by kernel_rfl) (by kernel_rfl) (fun _ _ _ h => h) (Or.inl ⟨by rfl, ?_⟩) hHeld ?_
  rotate_left
  · (intro w hSw; (try dsimp only at hSw); go_simp); all_goals with_reducible rfl
  try simp only [Act.put, List.setIfInBounds_toArray, List.set_cons_zero, List.set_cons_succ]
  refine wpAnyH_take (i := 24) (oi := { dst := some 47, op := _, type := _, pos := _, after := _, guard := _ }) (v := ?_) rfl (by kernel_rfl) (by kernel_rfl) (by kernel_rfl) (fun _ _ _ h => h) (Or.inl ⟨by rfl, ?_⟩) hHeld ?_
  rotate_left
  · (intro w hSw; (try dsimp only at hSw); go_simp); all_goals with_reducible rfl
  try simp only [Act.put, List.setIfInBounds_toArray, List.set_cons_zero, List.set_cons_succ]
  refine wpAnyH_ready (rs := [25]) (by kernel_rfl) (by simp) (AllReadyH.cons (o := _) rfl (fun K hK => ?_) AllReadyH.nil)
  go_simp
  refine (Better_any 1 4620693217682128896 1 4620693217682128896 _ (by decide) (by decide)).mono ?_
  rintro e w10 ⟨rfl, b10⟩
  rw [bet_self _ _ (by decide)]
  have A10 := kb_below b10 A9
  have C10 := kb_below b10 C9
  have D10 := kb_below b10 D9
  refine hK.out _ _ ⟨kb_cell A10 0, kb_cell A10 1, kb_cell C10 0, kb_cell C10 1, kb_cell D10 0, kb_cell D10 1⟩ (fun hHeld => ?_)
  clear hK K
  refine wpAnyH_take (i := 26) (oi := { dst := some 49, op := _, type := _, pos := _, after := _, guard := _ }) (v := ?_) rfl (by kernel_rfl) (by kernel_rfl) (by kernel_rfl) (fun _ _ _ h => h) (Or.inl ⟨by rfl, ?_⟩) hHeld ?_
  rotate_left
  · (intro w hSw; (try dsimp only at hSw); go_simp); all_goals with_reducible rfl
  try simp only [Act.put, List.setIfInBounds_toArray, List.set_cons_zero, List.set_cons_succ]
  refine wpAnyH_take (i := 27) (oi := { dst := some 50, op := _, type := _, pos := _, after := _, guard := _ }) (v := ?_) rfl (by kernel_rfl) (by kernel_rfl) (by kernel_rfl) (fun _ _ _ h => h) (Or.inl ⟨by rfl, ?_⟩) hHeld ?_
  rotate_left
  · (intro w hSw; (try dsimp only at hSw); go_simp); all_goals with_reducible rfl
  try simp only [Act.put, List.setIfInBounds_toArray, List.set_cons_zero, List.set_cons_succ]
  refine wpAnyH_take (i := 28) (oi := { dst := some 0, op := _, type := _, pos := _, after := _, guard := _ }) (v := ?_) rfl (by kernel_rfl) (by kernel_rfl) (by kernel_rfl) (fun _ _ _ h => h) (Or.inl ⟨by rfl, ?_⟩) hHeld ?_
  rotate_left
  · (intro w hSw; (try dsimp only at hSw); go_simp); all_goals with_reducible rfl
  try simp only [Act.put, List.setIfInBounds_toArray, List.set_cons_zero, List.set_cons_succ]
  refine wpAnyH_done (by kernel_rfl) ?_ _
  go_wp2
  go_ret
  exact ⟨rfl, by (repeat (with_reducible (first | exact Below.refl _ _ | assumption | refine bl_alloc ?_ _ | refine bl_drew ?_ | refine bl_drewN ?_ _ | (refine bl_set ?_ ?_ _; (focus (first | (simp; done) | (simp; omega) | omega))) | refine bl_then ?_ (by assumption))))⟩
end Go.Proofs.Ytockdfhejbbbeaa
