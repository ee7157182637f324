/- The state's methods: Write, Len. -/
import Derived.Test.YtmfajippoielhaaDoorBl8
namespace Go.Proofs.YtmfajippoielhaaDoor
open Go.RowKit Go.Proofs.YtmfajippoielhaaDoor.Bl
set_option linter.unusedSimpArgs false
set_option linter.unusedVariables false
attribute [local go_sem] cell_alloc_some frozen_alloc_some

/-- What a write leaves. -/
structure Wo (w w' : World) (p c : Nat) (s : S) (v v' : Value) : Prop where
  st : St w' p c s v'
  k : Keep (fun k => k = p ∨ k = c ∨ v.ownBlock = some k) w w'
  own : ∀ k, v'.ownBlock = some k → v.ownBlock = some k ∨ w.heap.size ≤ k
theorem Wo.lt {w w' : World} {p c : Nat} {s : S} {v v' : Value} (H : Wo w w' p c s v v') : ∀ k, v'.ownBlock = some k → k < w'.heap.size := H.st.ob.lt

set_option maxRecDepth 100000 in
set_option maxHeartbeats 1000000 in
theorem Write_any {w : World} {p c : Nat} {s : S} {v x : Value} {b : List UInt8} (H : St w p c s v) (hx : BytesOf w x b) (hn : s.n + s.l.length + b.length ≤ 100000) :
    Calls Tryd.prog 15 #[.pointer (some ⟨p, 0, none⟩), x] w fun e w' => e = .returned (.int .i64 0) ∧ ∃ v', Wo w w' p c (eat ⟨s.h, s.n, s.l ++ b⟩) v v' := by
  have HS := Lib.hid H
  have HX := Lib.hid hx
  obtain ⟨A0, cap0, hv, _, _⟩ := H.ob.form
  clear H hx
  subst hv
  go_enter Tryd.func15, Tryd.ntmps15
  go_wp2_with fail
  refine (none_no HS.out.st).mono ?_
  rintro e w1 ⟨rfl, rfl⟩
  have d9 := HS.out.st.c9
  have z9 := HS.out.st.fz 9
  go_wp2_with (refine wpList_append_ob rfl _ _ rfl rfl rfl HS.out.ob HX.out (by omega) ?_)
  intro v1 w2 hO hk hown
  clear d9 z9
  obtain ⟨A1, cap1, hv1, _, _⟩ := hO.form
  subst hv1
  have hne : ∀ k, (Value.slice A0 s.l.length cap0).ownBlock = some k → k ≠ p ∧ k ≠ c := HS.out.ne
  have hp : ¬ (Value.slice A0 s.l.length cap0).ownBlock = some p := fun e => (hne p e).1 rfl
  have hc : ¬ (Value.slice A0 s.l.length cap0).ownBlock = some c := fun e => (hne c e).2 rfl
  have hpl : p < w.heap.size := kb_lt HS.out.st.st
  have hcl : c < w.heap.size := kb_lt HS.out.st.ct
  have H2 := HS.out.st.keep hk hp hc
  have e9 := H2.c9
  have z9 := H2.fz 9
  have hne1 : ∀ k, (Value.slice A1 (s.l ++ b).length cap1).ownBlock = some k → k ≠ p ∧ k ≠ c := fun k hk => by
    rcases hown k hk with h | h
    · exact hne k h
    · omega
  have HW : Hid (Wo w (w2.setCell ⟨p, 9, none⟩ (.slice A1 (s.l ++ b).length cap1)) p c ⟨s.h, s.n, s.l ++ b⟩ (.slice A0 s.l.length cap0) (.slice A1 (s.l ++ b).length cap1)) := Lib.hid ⟨⟨H2.putv _, hO.keep ((Keep.refl (fun k => k = p) _).set (p := ⟨p, 9, none⟩) (fun _ => rfl) _) (fun b hb e => (hne1 b hb).1 e), hne1⟩, (hk.mono (fun _ _ h => .inr (.inr h))).set (p := ⟨p, 9, none⟩) (fun _ => .inl rfl) _, hown⟩
  clear hO hk hown H2 hne hp hc hne1
  generalize hL : s.l ++ b = L at *
  have hLl : Hid (L.length = s.l.length + b.length) := Lib.hid (by rw [← hL, List.length_append])
  have hLL := Lib.hid hL
  clear hL
  go_wp2_with fail
  go_loopw [16, 17, 18, 19, 20, 21, 22, 23, 24, 25, 26, 27, 28, 29, 30, 31, 32, 33, 34, 35, 36, 37, 38, 39, 40, 41, 42, 43, 44, 45, 46, 47, 48, 49, 50] (fun _ _ _ _ _ _ _ _ _ _ _ _ _ _ _ _ _ _ _ _ _ _ _ _ _ _ _ _ _ _ _ _ _ _ _ wr => ∃ (h : List UInt32) (n : Nat) (l : List UInt8) (A : Option Addr) (cap : Nat), Hid (Wo w wr p c ⟨h, n, l⟩ (.slice A0 s.l.length cap0) (.slice A l.length cap)) ∧ Hid (eat ⟨h, n, l⟩ = eat ⟨s.h, s.n, L⟩) ∧ Hid (n + l.length = s.n + L.length)) (fun _ _ _ _ _ _ _ _ _ _ _ _ _ _ _ _ _ _ _ _ _ _ _ _ _ _ _ _ _ _ _ _ _ _ _ wr => restLen wr p)
  case atStart => exact ⟨_, _, _, _, _, HW, Lib.hid rfl, Lib.hid rfl⟩
  case round =>
    clear HW e9 z9
    obtain ⟨h, n, l, A, cap, HW, HE, hN⟩ := hrel
    have e9 := HW.out.st.st.c9
    by_cases hl : 64 < l.length
    · have HR := Lib.hid HW.out.st.rest
      have e0 := HW.out.st.st.c0
      obtain ⟨A', cap', hv', hcap, hA⟩ := HW.out.st.ob.form
      injection hv' with q1 q2 q3
      subst q1 q3
      clear q2
      have hcap : l.length ≤ cap := hcap
      obtain ⟨g, off, hA⟩ := hA (by omega)
      subst hA
      have hle : (l.length : Int) ≤ (cap : Int) := by omega
      have hc1 : (64 : Int) ≤ (cap : Int) := by omega
      have hc2 : (64 : Int) ≤ (l.length : Int) := by omega
      have hc3 : ¬ (cap : Int) = 64 := by omega
      have T : Stt wr p c h n (.slice (some ⟨g, off, none⟩) l.length cap) := HW.out.st.st
      have HT := Lib.hid T
      clear T
      go_wp2_with fail
      refine (take_any 64 HT.out (by have := hN.out; have := hLl.out; omega)).mono ?_
      rintro e w3 ⟨rfl, t3, k3⟩
      have hcb : ∀ b, (Value.slice (some ⟨g, off, none⟩) l.length cap).ownBlock = some b → b ≠ p ∧ b ≠ c := HW.out.st.ne
      have O3 : Ob w3 (.slice (some ⟨g, off, none⟩) l.length cap) l := HW.out.st.ob.keep k3 (fun b hb e => (hcb b hb).2 e)
      have HO := Lib.hid (And.intro O3 (And.intro t3 k3))
      have c0 := t3.c0
      have c9 := t3.c9
      have cn := t3.cn
      clear e0 e9 t3 k3 O3 hcb
      go_upto_region 6 with fail
      refine wp_region_held_drew (S := (fun W : World => W.cell? ⟨p, 9, none⟩ = some (.slice (some ⟨g, off, none⟩) l.length cap) ∧ W.cell? ⟨p, 0, none⟩ = some (.pointer (some ⟨c, 0, none⟩)) ∧ W.cell? ⟨c, 0, none⟩ = some (.int .i64 ((n + 64 : Nat) : Int)))) (by kernel_rfl) ⟨c9, c0, cn⟩ (fun hHeld => ?_)
      refine wpAnyH_take (i := 0) (oi := { dst := some 27, op := _, type := _, pos := _, after := _, guard := _ }) (v := ?_) rfl (by kernel_rfl) (by kernel_rfl) (by kernel_rfl) (fun _ _ _ h => h) (Or.inl ⟨by rfl, ?_⟩) hHeld ?_
      rotate_left
      · (intro w hSw; (try dsimp only at hSw); go_simp); all_goals with_reducible rfl
      try simp only [Act.put, List.setIfInBounds_toArray, List.set_cons_zero, List.set_cons_succ]
      refine wpAnyH_take (i := 1) (oi := { dst := some 28, op := _, type := _, pos := _, after := _, guard := _ }) (v := ?_) rfl (by kernel_rfl) (by kernel_rfl) (by kernel_rfl) (fun _ _ _ h => h) (Or.inl ⟨by rfl, ?_⟩) hHeld ?_
      rotate_left
      · (intro w hSw; (try dsimp only at hSw); go_simp); all_goals with_reducible rfl
      try simp only [Act.put, List.setIfInBounds_toArray, List.set_cons_zero, List.set_cons_succ]
      refine wpAnyH_take (i := 2) (oi := { dst := some 29, op := _, type := _, pos := _, after := _, guard := _ }) (v := ?_) rfl (by kernel_rfl) (by kernel_rfl) (by kernel_rfl) (fun _ _ _ h => h) (Or.inl ⟨by rfl, ?_⟩) hHeld ?_
      rotate_left
      · (intro w hSw; (try dsimp only at hSw); go_simp); all_goals with_reducible rfl
      try simp only [Act.put, List.setIfInBounds_toArray, List.set_cons_zero, List.set_cons_succ]
      refine wpAnyH_take (i := 3) (oi := { dst := some 30, op := _, type := _, pos := _, after := _, guard := _ }) (v := ?_) rfl (by kernel_rfl) (by kernel_rfl) (by kernel_rfl) (fun _ _ _ h => h) (Or.inl ⟨by rfl, ?_⟩) hHeld ?_
      rotate_left
      · (intro w hSw; (try dsimp only at hSw); go_simp); all_goals with_reducible rfl
      try simp only [Act.put, List.setIfInBounds_toArray, List.set_cons_zero, List.set_cons_succ]
      refine wpAnyH_take (i := 4) (oi := { dst := some 31, op := _, type := _, pos := _, after := _, guard := _ }) (v := ?_) rfl (by kernel_rfl) (by kernel_rfl) (by kernel_rfl) (fun _ _ _ h => h) (Or.inl ⟨by rfl, ?_⟩) hHeld ?_
      rotate_left
      · (intro w hSw; (try dsimp only at hSw); go_simp); all_goals with_reducible rfl
      try simp only [Act.put, List.setIfInBounds_toArray, List.set_cons_zero, List.set_cons_succ]
      refine wpAnyH_take (i := 5) (oi := { dst := some 32, op := _, type := _, pos := _, after := _, guard := _ }) (v := ?_) rfl (by kernel_rfl) (by kernel_rfl) (by kernel_rfl) (fun _ _ _ h => h) (Or.inl ⟨by rfl, ?_⟩) hHeld ?_
      rotate_left
      · (intro w hSw; (try dsimp only at hSw); go_simp); all_goals with_reducible rfl
      try simp only [Act.put, List.setIfInBounds_toArray, List.set_cons_zero, List.set_cons_succ]
      refine wpAnyH_take (i := 6) (oi := { dst := some 33, op := _, type := _, pos := _, after := _, guard := _ }) (v := ?_) rfl (by kernel_rfl) (by kernel_rfl) (by kernel_rfl) (fun _ _ _ h => h) (Or.inl ⟨by rfl, ?_⟩) hHeld ?_
      rotate_left
      · (intro w hSw; (try dsimp only at hSw); go_simp); all_goals with_reducible rfl
      try simp only [Act.put, List.setIfInBounds_toArray, List.set_cons_zero, List.set_cons_succ]
      refine wpAnyH_take (i := 7) (oi := { dst := some 34, op := _, type := _, pos := _, after := _, guard := _ }) (v := ?_) rfl (by kernel_rfl) (by kernel_rfl) (by kernel_rfl) (fun _ _ _ h => h) (Or.inl ⟨by rfl, ?_⟩) hHeld ?_
      rotate_left
      · (intro w hSw; (try dsimp only at hSw); go_simp); all_goals with_reducible rfl
      try simp only [Act.put, List.setIfInBounds_toArray, List.set_cons_zero, List.set_cons_succ]
      refine wpAnyH_take (i := 8) (oi := { dst := some 35, op := _, type := _, pos := _, after := _, guard := _ }) (v := ?_) rfl (by kernel_rfl) (by kernel_rfl) (by kernel_rfl) (fun _ _ _ h => h) (Or.inl ⟨by rfl, ?_⟩) hHeld ?_
      rotate_left
      · (intro w hSw; (try dsimp only at hSw); go_simp); all_goals with_reducible rfl
      try simp only [Act.put, List.setIfInBounds_toArray, List.set_cons_zero, List.set_cons_succ]
      refine wpAnyH_take (i := 9) (oi := { dst := some 36, op := _, type := _, pos := _, after := _, guard := _ }) (v := ?_) rfl (by kernel_rfl) (by kernel_rfl) (by kernel_rfl) (fun _ _ _ h => h) (Or.inl ⟨by rfl, ?_⟩) hHeld ?_
      rotate_left
      · (intro w hSw; (try dsimp only at hSw); go_simp); all_goals with_reducible rfl
      try simp only [Act.put, List.setIfInBounds_toArray, List.set_cons_zero, List.set_cons_succ]
      refine wpAnyH_take (i := 10) (oi := { dst := some 37, op := _, type := _, pos := _, after := _, guard := _ }) (v := ?_) rfl (by kernel_rfl) (by kernel_rfl) (by kernel_rfl) (fun _ _ _ h => h) (Or.inl ⟨by rfl, ?_⟩) hHeld ?_
      rotate_left
      · (intro w hSw; (try dsimp only at hSw); go_simp); all_goals with_reducible rfl
      try simp only [Act.put, List.setIfInBounds_toArray, List.set_cons_zero, List.set_cons_succ]
      refine wpAnyH_take (i := 11) (oi := { dst := some 38, op := _, type := _, pos := _, after := _, guard := _ }) (v := ?_) rfl (by kernel_rfl) (by kernel_rfl) (by kernel_rfl) (fun _ _ _ h => h) (Or.inl ⟨by rfl, ?_⟩) hHeld ?_
      rotate_left
      · (intro w hSw; (try dsimp only at hSw); go_simp); all_goals with_reducible rfl
      try simp only [Act.put, List.setIfInBounds_toArray, List.set_cons_zero, List.set_cons_succ]
      refine wpAnyH_take (i := 12) (oi := { dst := some 39, op := _, type := _, pos := _, after := _, guard := _ }) (v := ?_) rfl (by kernel_rfl) (by kernel_rfl) (by kernel_rfl) (fun _ _ _ h => h) (Or.inl ⟨by rfl, ?_⟩) hHeld ?_
      rotate_left
      · (intro w hSw; (try dsimp only at hSw); go_simp); all_goals with_reducible rfl
      try simp only [Act.put, List.setIfInBounds_toArray, List.set_cons_zero, List.set_cons_succ]
      refine wpAnyH_take (i := 13) (oi := { dst := some 40, op := _, type := _, pos := _, after := _, guard := _ }) (v := ?_) rfl (by kernel_rfl) (by kernel_rfl) (by kernel_rfl) (fun _ _ _ h => h) (Or.inl ⟨by rfl, ?_⟩) hHeld ?_
      rotate_left
      · (intro w hSw; (try dsimp only at hSw); go_simp); all_goals with_reducible rfl
      try simp only [Act.put, List.setIfInBounds_toArray, List.set_cons_zero, List.set_cons_succ]
      refine wpAnyH_take (i := 14) (oi := { dst := some 41, op := _, type := _, pos := _, after := _, guard := _ }) (v := ?_) rfl (by kernel_rfl) (by kernel_rfl) (by kernel_rfl) (fun _ _ _ h => h) (Or.inl ⟨by rfl, ?_⟩) hHeld ?_
      rotate_left
      · (intro w hSw; (try dsimp only at hSw); go_simp); all_goals with_reducible rfl
      try simp only [Act.put, List.setIfInBounds_toArray, List.set_cons_zero, List.set_cons_succ]
      refine wpAnyH_ready (rs := [15]) (by kernel_rfl) (by simp) (AllReadyH.cons (o := _) rfl (fun K hK => ?_) AllReadyH.nil)
      go_simp
      show Calls _ _ #[_, _, .int .i64 ((n + 64 : Nat) : Int), _] _ _
      refine (block_any (w := w3.drew) (pre := [.pointer (some ⟨c, 0, none⟩)]) (post := [.slice (some ⟨g, off, none⟩) l.length cap]) (h := h) (bs := l.take 64) (n + 64) false HO.out.2.1.st HO.out.2.1.hl (by rw [List.length_take]; omega) (by omega) (by have := hN.out; have := hLl.out; omega) (HO.out.1.take (by omega)).bytes).mono ?_
      rintro e w4 ⟨rfl, t4, k4⟩
      have hpc : ¬ c = p := fun e => HO.out.2.1.ne e.symm
      have ct3 : Cs w3.drew c 59 [.int .i64 ((n + 64 : Nat) : Int)] := HO.out.2.1.ct.drew
      have ct4 := Cs.keep (S := fun b => b = p) ct3 k4 hpc
      have T4 : Stt w4 p c (blockP h (l.take 64) (n + 64) false) (n + 64) (.slice (some ⟨g, off, none⟩) l.length cap) := ⟨t4, ct4, blockP_len ..⟩
      have hgp : ∀ b, (Value.slice (some ⟨g, off, none⟩) l.length cap).ownBlock = some b → b ≠ p ∧ b ≠ c := HW.out.st.ne
      have hgp := hgp g rfl
      have K4 : Keep (fun k => k = p ∨ k = c ∨ (Value.slice A0 s.l.length cap0).ownBlock = some k) w w4 := (HW.out.k.trans (HO.out.2.2.drew) (fun _ _ e => .inr (.inl e))).trans k4 (fun _ _ e => .inl e)
      have O4 : Ob w4 (.slice (some ⟨g, off, none⟩) l.length cap) l := (HO.out.1.below (bl_drew (Below.refl _ _))).keep k4 (fun b hb e => by injection hb with hb; exact hgp.1 (hb.trans e))
      have HN : Hid (Wo w (w4.setCell ⟨p, 9, none⟩ (.slice (some ⟨g, off + 64, none⟩) (l.length - 64) (cap - 64))) p c ⟨blockP h (l.take 64) (n + 64) false, n + 64, l.drop 64⟩ (.slice A0 s.l.length cap0) (.slice (some ⟨g, off + 64, none⟩) (l.drop 64).length (cap - 64))) := by
        rw [List.length_drop]
        refine Lib.hid ⟨⟨T4.putv _, (O4.drop (by omega)).keep ((Keep.refl (fun k => k = p) _).set (p := ⟨p, 9, none⟩) (fun _ => rfl) _) (fun b hb e => by injection hb with hb; exact hgp.1 (hb.trans e)), fun k hk => by injection hk with hk; rw [← hk]; exact hgp⟩, K4.set (p := ⟨p, 9, none⟩) (fun _ => .inl rfl) _, fun k hk => HW.out.own k hk⟩
      have d9 := T4.c9
      have z9 := T4.fz 9
      refine hK.out _ _ ⟨T4.c9, T4.c0, T4.cn⟩ (fun hHeld => ?_)
      refine wpAnyH_done (by kernel_rfl) ?_ _
      clear hHeld hK K c0 c9 cn t4 ct3 ct4 T4 hgp K4 O4 k4 HO HT HW
      go_wp2_with fail
      go_roundw
      case rel => exact ⟨_, _, _, _, _, HN, Lib.hid (by rw [← HE.out]; exact (eat_big (s := ⟨h, n, l⟩) hl).symm), Lib.hid (by have := hN.out; rw [List.length_drop]; omega)⟩
      case measure => rw [HR.out, HN.out.st.rest]; show (l.drop 64).length < l.length; rw [List.length_drop]; omega
    · go_wp2_with fail
      go_ret
      refine ⟨rfl, .slice A l.length cap, ?_⟩
      rw [hLL.out, ← HE.out, eat_small (by show l.length ≤ 64; omega)]
      exact HW.out
end Go.Proofs.YtmfajippoielhaaDoor
