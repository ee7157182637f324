/- The state's Len and Sum; the sum of bytes. -/
import Derived.Test.YtmfajippoielhaaDoorBl9
namespace Go.Proofs.YtmfajippoielhaaDoor
open Go.RowKit Go.Proofs.YtmfajippoielhaaDoor.Bl
set_option linter.unusedSimpArgs false
set_option linter.unusedVariables false
attribute [local go_sem] cell_alloc_some frozen_alloc_some

set_option maxRecDepth 100000 in
theorem Len_any {w : World} {p c : Nat} {s : S} {v : Value} (H : St w p c s v) (hn : s.n + s.l.length ≤ 200000) :
    Calls Tryd.prog 16 #[.pointer (some ⟨p, 0, none⟩)] w fun e w' => e = .returned (.int .i64 ((s.n + s.l.length : Nat) : Int)) ∧ Below w.heap.size w w' := by
  have HS := Lib.hid H
  obtain ⟨A0, cap0, hv, _, _⟩ := H.ob.form
  clear H
  subst hv
  go_enter Tryd.func16, Tryd.ntmps16
  go_wp2_with fail
  refine (none_no HS.out.st).mono ?_
  rintro e w1 ⟨rfl, rfl⟩
  go_upto_region 3 with fail
  have hd := HS.out.st
  refine wp_region_held_drew (S := (fun W : World => W.cell? ⟨p, 9, none⟩ = some (.slice A0 s.l.length cap0) ∧ W.cell? ⟨p, 0, none⟩ = some (.pointer (some ⟨c, 0, none⟩)))) (by kernel_rfl) ⟨hd.c9, hd.c0⟩ (fun hHeld => ?_)
  refine wpAnyH_take (i := 0) (oi := { dst := some 5, op := _, type := _, pos := _, after := _, guard := _ }) (v := ?_) rfl (by kernel_rfl) (by kernel_rfl) (by kernel_rfl) (fun _ _ _ h => h) (Or.inl ⟨by rfl, ?_⟩) hHeld ?_
  rotate_left
  · (intro w hSw; (try dsimp only at hSw); go_simp); all_goals with_reducible rfl
  try simp only [Act.put, List.setIfInBounds_toArray, List.set_cons_zero, List.set_cons_succ]
  refine wpAnyH_take (i := 1) (oi := { dst := some 6, op := _, type := _, pos := _, after := _, guard := _ }) (v := ?_) rfl (by kernel_rfl) (by kernel_rfl) (by kernel_rfl) (fun _ _ _ h => h) (Or.inl ⟨by rfl, ?_⟩) hHeld ?_
  rotate_left
  · (intro w hSw; (try dsimp only at hSw); go_simp); all_goals with_reducible rfl
  try simp only [Act.put, List.setIfInBounds_toArray, List.set_cons_zero, List.set_cons_succ]
  refine wpAnyH_take (i := 2) (oi := { dst := some 7, op := _, type := _, pos := _, after := _, guard := _ }) (v := ?_) rfl (by kernel_rfl) (by kernel_rfl) (by kernel_rfl) (fun _ _ _ h => h) (Or.inl ⟨by rfl, ?_⟩) hHeld ?_
  rotate_left
  · (intro w hSw; (try dsimp only at hSw); go_simp); all_goals with_reducible rfl
  try simp only [Act.put, List.setIfInBounds_toArray, List.set_cons_zero, List.set_cons_succ]
  refine wpAnyH_take (i := 3) (oi := { dst := some 8, op := _, type := _, pos := _, after := _, guard := _ }) (v := ?_) rfl (by kernel_rfl) (by kernel_rfl) (by kernel_rfl) (fun _ _ _ h => h) (Or.inl ⟨by rfl, ?_⟩) hHeld ?_
  rotate_left
  · (intro w hSw; (try dsimp only at hSw); go_simp); all_goals with_reducible rfl
  try simp only [Act.put, List.setIfInBounds_toArray, List.set_cons_zero, List.set_cons_succ]
  refine wpAnyH_take (i := 5) (oi := { dst := some 10, op := _, type := _, pos := _, after := _, guard := _ }) (v := ?_) rfl (by kernel_rfl) (by kernel_rfl) (by kernel_rfl) (fun _ _ _ h => h) (Or.inl ⟨by rfl, ?_⟩) hHeld ?_
  rotate_left
  · (intro w hSw; (try dsimp only at hSw); go_simp); all_goals with_reducible rfl
  try simp only [Act.put, List.setIfInBounds_toArray, List.set_cons_zero, List.set_cons_succ]
  refine wpAnyH_take (i := 6) (oi := { dst := some 11, op := _, type := _, pos := _, after := _, guard := _ }) (v := ?_) rfl (by kernel_rfl) (by kernel_rfl) (by kernel_rfl) (fun _ _ _ h => h) (Or.inl ⟨by rfl, ?_⟩) hHeld ?_
  rotate_left
  · (intro w hSw; (try dsimp only at hSw); go_simp); all_goals with_reducible rfl
  try simp only [Act.put, List.setIfInBounds_toArray, List.set_cons_zero, List.set_cons_succ]
  refine wpAnyH_take (i := 7) (oi := { dst := some 12, op := _, type := _, pos := _, after := _, guard := _ }) (v := ?_) rfl (by kernel_rfl) (by kernel_rfl) (by kernel_rfl) (fun _ _ _ h => h) (Or.inl ⟨by rfl, ?_⟩) hHeld ?_
  rotate_left
  · (intro w hSw; (try dsimp only at hSw); go_simp); all_goals with_reducible rfl
  try simp only [Act.put, List.setIfInBounds_toArray, List.set_cons_zero, List.set_cons_succ]
  refine wpAnyH_take (i := 8) (oi := { dst := some 13, op := _, type := _, pos := _, after := _, guard := _ }) (v := ?_) rfl (by kernel_rfl) (by kernel_rfl) (by kernel_rfl) (fun _ _ _ h => h) (Or.inl ⟨by rfl, ?_⟩) hHeld ?_
  rotate_left
  · (intro w hSw; (try dsimp only at hSw); go_simp); all_goals with_reducible rfl
  try simp only [Act.put, List.setIfInBounds_toArray, List.set_cons_zero, List.set_cons_succ]
  refine wpAnyH_take (i := 9) (oi := { dst := some 14, op := _, type := _, pos := _, after := _, guard := _ }) (v := ?_) rfl (by kernel_rfl) (by kernel_rfl) (by kernel_rfl) (fun _ _ _ h => h) (Or.inl ⟨by rfl, ?_⟩) hHeld ?_
  rotate_left
  · (intro w hSw; (try dsimp only at hSw); go_simp); all_goals with_reducible rfl
  try simp only [Act.put, List.setIfInBounds_toArray, List.set_cons_zero, List.set_cons_succ]
  refine wpAnyH_ready (rs := [4]) (by kernel_rfl) (by simp) (AllReadyH.cons (o := _) rfl (fun K hK => ?_) AllReadyH.nil)
  go_simp
  have hd2 : Stt w.drew p c s.h s.n (.slice A0 s.l.length cap0) := HS.out.st.below (bl_drew (Below.refl _ _))
  refine (clen_any hd2).mono ?_
  rintro e w2 ⟨rfl, rfl⟩
  refine hK.out _ _ ⟨hd2.c9, hd2.c0⟩ (fun hHeld => ?_)
  have hw : IntKind.i64.wrap ((s.n : Int) + (s.l.length : Int)) = ((s.n + s.l.length : Nat) : Int) := by rw [IntKind.wrap_i64]; omega
  refine wpAnyH_take (i := 10) (oi := { dst := some 15, op := _, type := _, pos := _, after := _, guard := _ }) (v := ?_) rfl (by kernel_rfl) (by kernel_rfl) (by kernel_rfl) (fun _ _ _ h => h) (Or.inl ⟨by rfl, ?_⟩) hHeld ?_
  rotate_left
  · (intro w hSw; (try dsimp only at hSw); go_simp); all_goals with_reducible rfl
  try simp only [Act.put, List.setIfInBounds_toArray, List.set_cons_zero, List.set_cons_succ]
  refine wpAnyH_take (i := 11) (oi := { dst := some 2, op := _, type := _, pos := _, after := _, guard := _ }) (v := ?_) rfl (by kernel_rfl) (by kernel_rfl) (by kernel_rfl) (fun _ _ _ h => h) (Or.inl ⟨by rfl, ?_⟩) hHeld ?_
  rotate_left
  · (intro w hSw; (try dsimp only at hSw); go_simp); all_goals with_reducible rfl
  try simp only [Act.put, List.setIfInBounds_toArray, List.set_cons_zero, List.set_cons_succ]
  refine wpAnyH_done (by kernel_rfl) ?_ _
  go_wp2_with fail
  go_ret
  refine ⟨rfl, by (repeat (with_reducible (first | exact Below.refl _ _ | assumption | refine bl_alloc ?_ _ | refine bl_drew ?_ | refine bl_drewN ?_ _ | (refine bl_set ?_ ?_ _; (focus (first | (simp; done) | (simp; omega) | omega))) | refine bl_then ?_ (by assumption))))⟩

/-- Two results, of which the first one is a hash. -/
theorem results_h2 {fn : Func} {p q : Tmp} (h : fn.results = #[.cell p 26, .tmp q]) (tmps : Array Value) (w : World) (g : Nat) {cs : List Value} {u : Value} (hl : cs.length = 32)
    (hp : tmps.getD p undef = .pointer (some ⟨g, 0, none⟩)) (hg : Cs w g 26 cs) (hu : tmps.getD q undef = u) :
    (results fn tmps).run Tryd.prog w = .ok (.tuple #[.agg cs.toArray, u]) w := by
  have hp' : tmps[p]?.getD undef = .pointer (some ⟨g, 0, none⟩) := by simpa using hp
  have hu' : tmps[q]?.getD undef = u := by simpa using hu
  have hi : (Tryd.prog.info? 26).map (·.size) = some cs.toArray.size := size_h.trans (by simp [hl])
  simp [results, h, hp', hu', asAddr, run_loadVar_row w g _ 26 _ _ _ hg Tryd.underlying26 rfl hi]

/-- A hash so far. -/
def hsN (h : List W) (i : Nat) : List UInt8 := (List.range 32).map fun j => if j < i then hashAt h j else 0
theorem hsN_len (h : List W) (i : Nat) : (hsN h i).length = 32 := by simp [hsN]
theorem hsN_zero (h : List W) : hsN h 0 = zeros 32 := by
  apply List.ext_getElem?
  intro j
  by_cases hj : j < 32
  · unfold hsN zeros
    rw [List.getElem?_map, List.getElem?_range hj, List.getElem?_replicate, if_pos hj]; simp
  · rw [List.getElem?_eq_none (by rw [hsN_len]; omega), List.getElem?_eq_none (by rw [zeros_len]; omega)]
theorem hsN_end (h : List W) : hsN h 32 = hashB h := by
  unfold hsN hashB
  refine List.map_congr_left fun j hj => ?_
  rw [if_pos (List.mem_range.1 hj)]
theorem hsN_next (h : List W) {i : Nat} (hi : i < 32) : (hsN h i).set i (hashAt h i) = hsN h (i + 1) := by
  apply List.ext_getElem?
  intro j
  rw [List.getElem?_set]
  by_cases hj : j < 32
  · by_cases e : i = j
    · subst e; simp [hsN, hi]
    · rw [if_neg e]
      simp only [hsN, List.getElem?_map, List.getElem?_range hj, Option.map_some]
      by_cases e2 : j < i
      · rw [if_pos e2, if_pos (by omega)]
      · rw [if_neg e2, if_neg (by omega)]
  · have e : i ≠ j := by omega
    rw [if_neg e, List.getElem?_eq_none (by rw [hsN_len]; omega), List.getElem?_eq_none (by rw [hsN_len]; omega)]
theorem u8s_set (l : List UInt8) (i : Nat) (c : UInt8) : (u8s l).set i (u8v c) = u8s (l.set i c) := by simp [u8s, List.map_set]
theorem u8s_zeros (n : Nat) : u8s (zeros n) = List.replicate n (.int .u8 0) := by simp [u8s, zeros, u8v]
/-- A hash's variable. -/
abbrev Hs (w : World) (b : Nat) (l : List UInt8) : Prop := Cs w b 26 (u8s l)
theorem Hs.put {w : World} {b : Nat} {l : List UInt8} (h : Hs w b l) (i : Nat) (c : UInt8) : Hs (w.setCell ⟨b, i, none⟩ (u8v c)) b (l.set i c) := by
  have := Cs.put h i (u8v c)
  rwa [u8s_set] at this
theorem byte_val (x : W) (k : Nat) : IntKind.u8.wrap ((x.toNat : Int) / ((2 ^ (8 * k) : Nat) : Int)) = ((UInt8.ofNat (x.toNat / 2 ^ (8 * k))).toNat : Int) := by
  rw [show ((x.toNat : Int) / ((2 ^ (8 * k) : Nat) : Int)) = ((x.toNat / 2 ^ (8 * k) : Nat) : Int) from (Int.natCast_ediv ..).symm]
  generalize x.toNat / 2 ^ (8 * k) = n
  rw [IntKind.wrap_u8]
  simp
theorem built_0 : Tryd.prog.built 26 [] = some (u8s (zeros 32)).toArray := by kernel_rfl
theorem wpList_build_0 {ops : Array Oper} {rest : List Oper} {op : Oper} {s : Act} {w : World} {Q : Exit → Act → World → Prop} (hgd : op.guard = none) (ho : op.op = .build 26 #[])
    (hk : wpList Tryd.prog ops Q rest (s.put op.dst (.agg (u8s (zeros 32)).toArray)) w) : wpList Tryd.prog ops Q (op :: rest) s w :=
  wpList_plain hgd fun K hK => by
    have hr := run_build (P := Tryd.prog) w 26 #[] _ built_0
    unfold Oper.wp execOp
    simp only [ho, List.map_toArray, List.map_nil, Sem.run_bind, hr, Result.andThen_ok]
    exact hK _ _ hk
theorem hash_new (w : World) (c : Array Value) (hc : c = (u8s (zeros 32)).toArray) : Hs (w.alloc (.cells c 26)) w.heap.size (zeros 32) := by
  subst hc; exact kb_new rfl _
structure Ix32 (i q k : Nat) : Prop where
  f0 : Int.tdiv (i : Int) 4 = (q : Int)
  f1 : Int.tmod (i : Int) 4 = (k : Int)
  f2 : IntKind.i64.wrap (q : Int) = (q : Int)
  f3 : IntKind.i64.wrap (k : Int) = (k : Int)
  f4 : (q : Int) < 8
  f5 : (i : Int) < 32
  hq : i / 4 = q
  hk : i % 4 = k
theorem ix32 {i : Nat} (h : i < 32) : ∃ q k : Nat, Ix32 i q k := by
  refine ⟨i / 4, i % 4, ?_, ?_, ?_, ?_, by omega, by omega, rfl, rfl⟩
  · rw [Int.tdiv_eq_ediv_of_nonneg (by omega)]; omega
  · rw [Int.tmod_eq_emod_of_nonneg (by omega)]; omega
  · rw [IntKind.wrap_i64]; omega
  · rw [IntKind.wrap_i64]; omega

set_option maxRecDepth 100000 in
set_option maxHeartbeats 4000000 in
theorem Sum_any {w : World} {p c : Nat} {s : S} {v : Value} (H : St w p c s v) (h64 : s.l.length ≤ 64) (hn : s.n ≤ 100000) :
    Calls Tryd.prog 14 #[.pointer (some ⟨p, 0, none⟩)] w fun e w' => e = .returned (.tuple #[.agg (u8s (sumS s)).toArray, .int .i64 0]) ∧ Below w.heap.size w w' := by
  have HS := Lib.hid H
  obtain ⟨A0, cap0, hv, _, _⟩ := H.ob.form
  clear H
  subst hv
  go_enter Tryd.func14, Tryd.ntmps14
  go_upto_region 1 with fail
  refine wp_world fun w1 hw => ?_
  have b1 : Below w.heap.size w w1 := by rw [hw]; exact bl_alloc (Below.refl _ _) _
  have C1 : Hs w1 w.heap.size (zeros 32) := by rw [hw]; exact hash_new _ _ rfl
  have s1 : w1.heap.size = w.heap.size + 1 := by rw [hw]; simp
  clear hw
  have H1 := Lib.hid (And.intro (HS.out.below b1) (And.intro C1 (And.intro b1 s1)))
  clear b1 C1 s1
  go_wp2_with fail
  refine (none_no H1.out.1.st).mono ?_
  rintro e w2 ⟨rfl, rfl⟩
  have hrg : w1.rangeAt p 1 (wvs s.h) := Cs.mid (A := [.pointer (some ⟨c, 0, none⟩)]) (B := wvs s.h) (D := [.slice A0 s.l.length cap0]) H1.out.1.st.st
  have hhl : (wvs s.h).length = 8 := by rw [wvs_len]; exact H1.out.1.st.hl
  go_wp2_with (first
    | (refine wpList_load_w (op := ⟨some 13, _, _, _, _, _⟩) _ rfl rfl p 1 rfl hrg hhl ?_)
    | (refine wpList_stnew_w (op := ⟨none, .store 34 _ _, _, _, _, _⟩) (cs := wvs s.h) rfl _ _ rfl rfl rfl rfl hhl (wvs_one _) ?_))
  go_upto_region 4 with fail
  refine wp_world fun w3 hw => ?_
  have H3 : Hid (St w3 p c s (.slice A0 s.l.length cap0) ∧ Hs w3 w.heap.size (zeros 32) ∧ Cs w3 (w.heap.size + 1) 34 (wvs s.h ++ []) ∧ Below w.heap.size w w3) := by
    rw [hw, List.append_nil]
    refine Lib.hid ⟨H1.out.1.below (bl_alloc (Below.refl _ _) _), kb_alloc H1.out.2.1 _, by rw [← H1.out.2.2.2]; exact kb_new rfl _, bl_alloc H1.out.2.2.1 _⟩
  have s3 : w3.heap.size = w.heap.size + 2 := by rw [hw]; simp [H1.out.2.2.2]
  have e4 := H1.out.2.2.2
  clear hw hrg hhl H1
  rw [e4]
  clear e4
  have d9 : w3.drew.cell? ⟨p, 9, none⟩ = some (.slice A0 s.l.length cap0) := H3.out.1.st.c9
  have hz : IntKind.i64.wrap (64 - (s.l.length : Int)) = ((64 - s.l.length : Nat) : Int) := by rw [IntKind.wrap_i64]; omega
  refine wp_region_held_drew (S := (fun W : World => W.cell? ⟨p, 9, none⟩ = some (.slice A0 s.l.length cap0))) (by kernel_rfl) d9 (fun hHeld => ?_)
  refine wpAnyH_take (i := 0) (oi := { dst := some 14, op := _, type := _, pos := _, after := _, guard := _ }) (v := ?_) rfl (by kernel_rfl) (by kernel_rfl) (by kernel_rfl) (fun _ _ _ h => h) (Or.inl ⟨by rfl, ?_⟩) hHeld ?_
  rotate_left
  · (intro w hSw; (try dsimp only at hSw); go_simp); all_goals with_reducible rfl
  try simp only [Act.put, List.setIfInBounds_toArray, List.set_cons_zero, List.set_cons_succ]
  refine wpAnyH_take (i := 1) (oi := { dst := some 15, op := _, type := _, pos := _, after := _, guard := _ }) (v := ?_) rfl (by kernel_rfl) (by kernel_rfl) (by kernel_rfl) (fun _ _ _ h => h) (Or.inl ⟨by rfl, ?_⟩) hHeld ?_
  rotate_left
  · (intro w hSw; (try dsimp only at hSw); go_simp); all_goals with_reducible rfl
  try simp only [Act.put, List.setIfInBounds_toArray, List.set_cons_zero, List.set_cons_succ]
  refine wpAnyH_take (i := 2) (oi := { dst := some 16, op := _, type := _, pos := _, after := _, guard := _ }) (v := ?_) rfl (by kernel_rfl) (by kernel_rfl) (by kernel_rfl) (fun _ _ _ h => h) (Or.inl ⟨by rfl, ?_⟩) hHeld ?_
  rotate_left
  · (intro w hSw; (try dsimp only at hSw); go_simp); all_goals with_reducible rfl
  try simp only [Act.put, List.setIfInBounds_toArray, List.set_cons_zero, List.set_cons_succ]
  refine wpAnyH_take (i := 3) (oi := { dst := some 17, op := _, type := _, pos := _, after := _, guard := _ }) (v := ?_) rfl (by kernel_rfl) (by kernel_rfl) (by kernel_rfl) (fun _ _ _ h => h) (Or.inl ⟨by rfl, ?_⟩) hHeld ?_
  rotate_left
  · (intro w hSw; (try dsimp only at hSw); go_simp); all_goals with_reducible rfl
  try simp only [Act.put, List.setIfInBounds_toArray, List.set_cons_zero, List.set_cons_succ]
  refine wpAnyH_take (i := 5) (oi := { dst := some 19, op := _, type := _, pos := _, after := _, guard := _ }) (v := ?_) rfl (by kernel_rfl) (by kernel_rfl) (by kernel_rfl) (fun _ _ _ h => h) (Or.inl ⟨by rfl, ?_⟩) hHeld ?_
  rotate_left
  · (intro w hSw; (try dsimp only at hSw); go_simp); all_goals with_reducible rfl
  try simp only [Act.put, List.setIfInBounds_toArray, List.set_cons_zero, List.set_cons_succ]
  refine wpAnyH_take (i := 6) (oi := { dst := some 20, op := _, type := _, pos := _, after := _, guard := _ }) (v := ?_) rfl (by kernel_rfl) (by kernel_rfl) (by kernel_rfl) (fun _ _ _ h => h) (Or.inl ⟨by rfl, ?_⟩) hHeld ?_
  rotate_left
  · (intro w hSw; (try dsimp only at hSw); go_simp); all_goals with_reducible rfl
  try simp only [Act.put, List.setIfInBounds_toArray, List.set_cons_zero, List.set_cons_succ]
  refine wpAnyH_take (i := 7) (oi := { dst := some 21, op := _, type := _, pos := _, after := _, guard := _ }) (v := ?_) rfl (by kernel_rfl) (by kernel_rfl) (by kernel_rfl) (fun _ _ _ h => h) (Or.inl ⟨by rfl, ?_⟩) hHeld ?_
  rotate_left
  · (intro w hSw; (try dsimp only at hSw); go_simp); all_goals with_reducible rfl
  try simp only [Act.put, List.setIfInBounds_toArray, List.set_cons_zero, List.set_cons_succ]
  refine wpAnyH_take (i := 8) (oi := { dst := some 22, op := _, type := _, pos := _, after := _, guard := _ }) (v := ?_) rfl (by kernel_rfl) (by kernel_rfl) (by kernel_rfl) (fun _ _ _ h => h) (Or.inl ⟨by rfl, ?_⟩) hHeld ?_
  rotate_left
  · (intro w hSw; (try dsimp only at hSw); go_simp); all_goals with_reducible rfl
  try simp only [Act.put, List.setIfInBounds_toArray, List.set_cons_zero, List.set_cons_succ]
  refine wpAnyH_take (i := 9) (oi := { dst := some 23, op := _, type := _, pos := _, after := _, guard := _ }) (v := ?_) rfl (by kernel_rfl) (by kernel_rfl) (by kernel_rfl) (fun _ _ _ h => h) (Or.inl ⟨by rfl, ?_⟩) hHeld ?_
  rotate_left
  · (intro w hSw; (try dsimp only at hSw); go_simp); all_goals with_reducible rfl
  try simp only [Act.put, List.setIfInBounds_toArray, List.set_cons_zero, List.set_cons_succ]
  refine wpAnyH_take (i := 10) (oi := { dst := some 24, op := _, type := _, pos := _, after := _, guard := _ }) (v := ?_) rfl (by kernel_rfl) (by kernel_rfl) (by kernel_rfl) (fun _ _ _ h => h) (Or.inl ⟨by rfl, ?_⟩) hHeld ?_
  rotate_left
  · (intro w hSw; (try dsimp only at hSw); go_simp); all_goals with_reducible rfl
  try simp only [Act.put, List.setIfInBounds_toArray, List.set_cons_zero, List.set_cons_succ]
  refine wpAnyH_ready (rs := [4]) (by kernel_rfl) (by simp) (AllReadyH.cons (o := _) rfl (fun K hK => ?_) AllReadyH.nil)
  go_simp
  have b3 : BytesOf w3.drew (.slice A0 s.l.length cap0) s.l := H3.out.1.ob.bytes.drew
  refine (Clone_any b3 (by omega)).mono ?_
  rintro e w4 ⟨v4, rfl, o4, b4⟩
  have O4 := Lib.hid (And.intro (Ob.of_own o4) (And.intro b4 (fun k hk => (o4.lt k hk).1)))
  have e9 := (b4.cell (p := ⟨p, 9, none⟩) (by have := kb_lt H3.out.1.st.st; simpa using this)).trans d9
  clear o4 b4 b3
  refine hK.out _ _ e9 (fun hHeld => ?_)
  clear hK K
  refine wpAnyH_ready (rs := [11]) (by kernel_rfl) (by simp) (AllReadyH.cons (o := _) rfl (fun K hK => ?_) AllReadyH.nil)
  refine step_append_obz rfl _ _ rfl (64 - s.l.length) rfl rfl O4.out.1 (by omega) ?_
  intro v5 w5 o5 k5 h5
  have B4 : Below w3.heap.size w3 w4 := bl_then (bl_drew (Below.refl _ _)) O4.out.2.1
  have B5 : Below w3.heap.size w3 w5 := ((Keep.of_below (S := fun _ => False) B4).trans k5 (fun b hb e => by have := O4.out.2.2 b e; simp at this; omega)).below (Nat.le_refl _) (fun b e => e.elim)
  have hlen : (s.l ++ zeros (64 - s.l.length)).length = 64 := by rw [List.length_append, zeros_len]; omega
  obtain ⟨A5, cap5, hv5, hc5, hA5⟩ := o5.form
  rw [hlen] at hv5 hc5
  obtain ⟨g5, off5, hA5⟩ := hA5 (by omega)
  subst hA5
  subst hv5
  have H5 : Hid (St w5 p c s (.slice A0 s.l.length cap0) ∧ Hs w5 w.heap.size (zeros 32) ∧ Cs w5 (w.heap.size + 1) 34 (wvs s.h ++ []) ∧ Below w.heap.size w w5 ∧ BytesOf w5 (.slice (some ⟨g5, off5, none⟩) 64 cap5) (s.l ++ zeros (64 - s.l.length))) :=
    Lib.hid ⟨H3.out.1.below B5, H3.out.2.1.below B5, H3.out.2.2.1.below B5, bl_then H3.out.2.2.2 B5, o5.bytes⟩
  refine hK.out _ _ H5.out.1.st.c9 (fun hHeld => ?_)
  clear hK K o5 k5 h5 B4 B5 O4 H3 d9 hz
  refine wpAnyH_take (i := 12) (oi := { dst := some 5, op := _, type := _, pos := _, after := _, guard := _ }) (v := ?_) rfl (by kernel_rfl) (by kernel_rfl) (by kernel_rfl) (fun _ _ _ h => h) (Or.inl ⟨by rfl, ?_⟩) hHeld ?_
  rotate_left
  · (intro w hSw; (try dsimp only at hSw); go_simp); all_goals with_reducible rfl
  try simp only [Act.put, List.setIfInBounds_toArray, List.set_cons_zero, List.set_cons_succ]
  refine wpAnyH_done (by kernel_rfl) ?_ _
  clear hHeld e9
  go_wp2_with fail
  refine (Len_any H5.out.1 (by omega)).mono ?_
  rintro e w6 ⟨rfl, b6⟩
  go_wp2_with fail
  refine (block_any (pre := []) (post := []) (h := s.h) (bs := s.l ++ zeros (64 - s.l.length)) (s.n + s.l.length) true (H5.out.2.2.1.below b6) H5.out.1.st.hl hlen hc5 (by omega) (H5.out.2.2.2.2.below b6)).mono ?_
  rintro e w7 ⟨rfl, c7, k7⟩
  have H7 : Hid (Hs w7 w.heap.size (hsN (lastH s) 0) ∧ Ws w7 (w.heap.size + 1) 34 (lastH s) ∧ Below w.heap.size w w7) := by
    rw [hsN_zero]
    refine Lib.hid ⟨(H5.out.2.1.below b6).keep k7 (by omega), by rw [List.nil_append, List.append_nil] at c7; exact c7, ?_⟩
    exact ((Keep.of_below (S := fun _ => False) (bl_then H5.out.2.2.2.1 b6)).trans k7 (fun b hb e => by omega)).below (Nat.le_refl _) (fun b e => e.elim)
  have hll : (lastH s).length = 8 := blockP_len ..
  have HR := Lib.hid (show sumS s = hsN (lastH s) 32 by rw [hsN_end]; rfl)
  clear c7 k7 b6 H5
  generalize lastH s = hh at *
  go_wp2_with fail
  go_loopw [6, 30, 31, 32, 33, 34, 35, 36, 37, 38, 39, 40, 41, 42, 43, 44] (fun _ s30 _ _ _ _ _ _ _ _ _ _ _ _ _ _ wr => ∃ i : Nat, i ≤ 32 ∧ s30 = .int .i64 i ∧ Hid (Hs wr w.heap.size (hsN hh i) ∧ Ws wr (w.heap.size + 1) 34 hh ∧ Below w.heap.size w wr)) (fun _ s30 _ _ _ _ _ _ _ _ _ _ _ _ _ _ _ => 32 - (intOf s30).toNat)
  case atStart => exact ⟨0, by omega, rfl, H7⟩
  case round =>
    clear H7
    obtain ⟨i, hi, rfl, HI⟩ := hrel
    by_cases hi' : i < 32
    · obtain ⟨q, k, hx⟩ := ix32 hi'
      have HX := Lib.hid hx
      obtain ⟨f0, f1, f2, f3, f4, f5, hq, hk⟩ := hx
      have c0 := HI.out.2.1.at (i := q) (by omega)
      have z0 := kb_frozen HI.out.1 i
      have e0 := (Cs.at HI.out.1 i).trans (u8s_get (hsN hh i) i (by rw [hsN_len]; exact hi'))
      generalize (hsN hh i)[i]'(by rw [hsN_len]; exact hi') = y at e0
      have d0 := (Hs.put HI.out.1 i (hashAt hh i))
      rw [hsN_next hh hi'] at d0
      have hv : u8v (hashAt hh i) = .int .u8 (IntKind.u8.wrap (((wAt hh q).toNat : Int) / ((2 ^ (8 * k) : Nat) : Int))) := by
        rw [byte_val]; unfold hashAt u8v; rw [hq, hk]
      have k8 := (Keep.refl (fun b => b = w.heap.size) wr).set (p := ⟨w.heap.size, i, none⟩) (fun _ => rfl) (u8v (hashAt hh i))
      have HN := Lib.hid (And.intro d0 (And.intro (HI.out.2.1.keep k8 (by omega)) (bl_set (p := ⟨w.heap.size, i, none⟩) (by simp) HI.out.2.2 (u8v (hashAt hh i)))))
      rw [hv] at HN
      have hk4 : k < 4 := by omega
      clear d0 hv k8 hq hk
      generalize wAt hh q = x at *
      obtain rfl | rfl | rfl | rfl : k = 0 ∨ k = 1 ∨ k = 2 ∨ k = 3 := by omega
      · rw [show ((2 ^ (8 * 0) : Nat) : Int) = (1 : Int) from rfl, Int.ediv_one, IntKind.wrap_u8] at HN
        go_wp2_with fail
        go_roundw
        case rel => exact ⟨i + 1, by omega, by go_num, HN⟩
        case measure => simp [intOf]; omega
      · rw [show ((2 ^ (8 * 1) : Nat) : Int) = (256 : Int) from rfl, IntKind.wrap_u8] at HN
        go_wp2_with fail
        go_roundw
        case rel => exact ⟨i + 1, by omega, by go_num, HN⟩
        case measure => simp [intOf]; omega
      · rw [show ((2 ^ (8 * 2) : Nat) : Int) = (65536 : Int) from rfl, IntKind.wrap_u8] at HN
        go_wp2_with fail
        go_roundw
        case rel => exact ⟨i + 1, by omega, by go_num, HN⟩
        case measure => simp [intOf]; omega
      · rw [show ((2 ^ (8 * 3) : Nat) : Int) = (16777216 : Int) from rfl, IntKind.wrap_u8] at HN
        go_wp2_with fail
        go_roundw
        case rel => exact ⟨i + 1, by omega, by go_num, HN⟩
        case measure => simp [intOf]; omega
    · obtain rfl : i = 32 := by omega
      go_wp2_with (first
        | (refine wpList_load_h (op := ⟨some 45, _, _, _, _, _⟩) _ rfl rfl w.heap.size 0 rfl (Cs.range HI.out.1) (by rw [u8s_len, hsN_len]) ?_)
        | (refine wpList_store_h (op := ⟨none, .store 26 _ _, _, _, _, _⟩) (cs := u8s (hsN hh 32)) rfl _ _ rfl w.heap.size rfl rfl HI.out.1 (by rw [u8s_len, hsN_len]) (by rw [u8s_len, hsN_len]) (u8s_one _) ?_; intro w9 c9 k9))
      refine bodyPost_ret (results_h2 rfl _ _ w.heap.size (cs := u8s (hsN hh 32)) (by rw [u8s_len, hsN_len]) rfl c9 rfl) rfl ⟨by rw [← HR.out]; rfl, ?_⟩
      exact ((Keep.of_below (S := fun _ => False) HI.out.2.2).trans k9 (fun b hb e => by omega)).below (Nat.le_refl _) (fun b e => e.elim)

theorem SumNo_any {w : World} {s : Value} (H : Nobody w s) : Calls Tryd.prog 14 #[s] w fun e w' => e = .returned (.tuple #[.agg (u8s (zeros 32)).toArray, .int .i64 1]) ∧ Below w.heap.size w w' := by
  have HH := Lib.hid H
  clear H
  go_enter Tryd.func14, Tryd.ntmps14
  go_upto_region 1 with fail
  refine wp_world fun w1 hw => ?_
  have b1 : Below w.heap.size w w1 := by rw [hw]; exact bl_alloc (Below.refl _ _) _
  have C1 : Hs w1 w.heap.size (zeros 32) := by rw [hw]; exact hash_new _ _ rfl
  clear hw
  have H1 := Lib.hid (And.intro C1 b1)
  have HN : Hid (Nobody w1 s) := by
    rcases HH.out with h | ⟨p, h, hp⟩
    · exact Lib.hid (.inl h)
    · exact Lib.hid (.inr ⟨p, h, (b1.cell (p := ⟨p, 0, none⟩) (World.block_lt_of_cell? w _ hp)).trans hp⟩)
  clear b1 C1 HH
  go_wp2_with fail
  refine (none_yes HN.out).mono ?_
  rintro e w2 ⟨rfl, rfl⟩
  go_wp2_with (first
    | (refine wpList_build_0 (op := ⟨some 9, _, _, _, _, _⟩) rfl rfl ?_)
    | (refine wpList_store_h (op := ⟨none, .store 26 _ _, _, _, _, _⟩) (cs := u8s (zeros 32)) rfl _ _ rfl w.heap.size rfl rfl H1.out.1 (by rw [u8s_len, zeros_len]) (by rw [u8s_len, zeros_len]) (u8s_one _) ?_; intro w9 c9 k9))
  refine bodyPost_ret (results_h2 rfl _ _ w.heap.size (cs := u8s (zeros 32)) (by rw [u8s_len, zeros_len]) rfl c9 rfl) rfl ⟨rfl, ?_⟩
  exact ((Keep.of_below (S := fun _ => False) H1.out.2).trans k9 (fun b hb e => by omega)).below (Nat.le_refl _) (fun b e => e.elim)

set_option maxRecDepth 100000 in
theorem SumB_any {w : World} {x : Value} {b : List UInt8} (hx : BytesOf w x b) (hn : b.length ≤ 100000) :
    Calls Tryd.prog 11 #[x] w fun e w' => e = .returned (.agg (u8s (sumB b)).toArray) ∧ Below w.heap.size w w' := by
  have HX := Lib.hid hx
  clear hx
  go_enter Tryd.func11, Tryd.ntmps11
  go_upto_region 1 with fail
  refine wp_world fun w1 hw => ?_
  have b1 : Below w.heap.size w w1 := by rw [hw]; exact bl_alloc (Below.refl _ _) _
  have C1 : Hs w1 w.heap.size (zeros 32) := by rw [hw]; exact hash_new _ _ rfl
  have s1 : w1.heap.size = w.heap.size + 1 := by rw [hw]; simp
  clear hw
  have H1 := Lib.hid (And.intro (HX.out.below b1) (And.intro C1 (And.intro b1 s1)))
  clear b1 C1 s1 HX
  go_wp2_with fail
  refine (New_any w1).mono ?_
  rintro e w2 ⟨p, c, rfl, t2, hp, hc, b2⟩
  have s2 : Hid (St w2 p c ⟨h0, 0, []⟩ (.slice none 0 0)) := Lib.hid ⟨t2, Ob.nil _, fun k hk => by simp [Value.ownBlock] at hk⟩
  have H2 := Lib.hid (And.intro (H1.out.1.below b2) (And.intro (H1.out.2.1.below b2) (And.intro (bl_then H1.out.2.2.1 b2) (show w.heap.size < p ∧ w.heap.size < c by have := H1.out.2.2.2; omega))))
  clear t2 b2 H1 hp hc
  go_wp2_with fail
  refine (Write_any s2.out H2.out.1 (by show 0 + [].length + b.length ≤ 100000; simp; exact hn)).mono ?_
  rintro e w3 ⟨rfl, v3, W3⟩
  have H3 : Hid (St w3 p c (stOf b) v3 ∧ Hs w3 w.heap.size (zeros 32) ∧ Below w.heap.size w w3) := by
    have hpc := H2.out.2.2.2
    refine Lib.hid ⟨W3.st, H2.out.2.1.keep W3.k (fun e => ?_), ?_⟩
    · rcases e with e | e | e
      · omega
      · omega
      · simp [Value.ownBlock] at e
    · refine ((Keep.of_below (S := fun _ => False) H2.out.2.2.1).trans W3.k (fun b hb e => ?_)).below (Nat.le_refl _) (fun b e => e.elim)
      rcases e with e | e | e
      · omega
      · omega
      · simp [Value.ownBlock] at e
  clear W3 s2 H2
  obtain ⟨q1, q2, q3⟩ := eat_props ⟨h0, 0, b⟩
  go_wp2_with fail
  refine (Sum_any H3.out.1 q1 (by have : (stOf b).n + (stOf b).l.length = 0 + b.length := q2; omega)).mono ?_
  rintro e w4 ⟨rfl, b4⟩
  have H4 := Lib.hid (And.intro (H3.out.2.1.below b4) (bl_then H3.out.2.2 b4))
  have hs4 : w.heap.size < w4.heap.size := kb_lt H4.out.1
  have HS : Hid (sumS (stOf b) = sumB b) := Lib.hid rfl
  rw [HS.out]
  clear H3 b4 q1 q2 q3
  have hsl := sumB_len b
  generalize hE : sumB b = l at *
  have hE := Lib.hid hE
  have hul : (u8s l).length = 32 := by rw [u8s_len, hsl]
  have C4 : Hs (w4.alloc (.cells (u8s l).toArray 26)) w4.heap.size l := Cs.new rfl _
  have D4 : Hs (w4.alloc (.cells (u8s l).toArray 26)) w.heap.size (zeros 32) := kb_alloc H4.out.1 _
  have hz32 : (u8s (zeros 32)).length = 32 := by rw [u8s_len, zeros_len]
  have HB := Lib.hid (bl_alloc H4.out.2 (.cells (u8s l).toArray 26))
  have HC := Lib.hid (And.intro C4 D4)
  have hrg := C4.range
  clear C4 D4 H4
  go_wp2_with (first
    | (refine wpList_stnew_h (op := ⟨none, .store 26 _ _, _, _, _, _⟩) (cs := u8s l) rfl _ _ rfl rfl rfl rfl hul (u8s_one _) ?_)
    | (refine wpList_load_h (op := ⟨some 15, _, _, _, _, _⟩) _ rfl rfl w4.heap.size 0 rfl hrg hul ?_)
    | (refine wpList_store_h (op := ⟨none, .store 26 _ _, _, _, _, _⟩) (cs := u8s l) rfl _ _ rfl w.heap.size rfl rfl HC.out.2 hz32 hul (u8s_one _) ?_; intro w9 c9 k9))
  refine bodyPost_ret (results_h rfl _ _ w.heap.size (cs := u8s l) hul rfl c9) rfl ⟨by rw [hE.out], ?_⟩
  exact ((Keep.of_below (S := fun _ => False) HB.out).trans k9 (fun b hb e => by omega)).below (Nat.le_refl _) (fun b e => e.elim)
end Go.Proofs.YtmfajippoielhaaDoor
