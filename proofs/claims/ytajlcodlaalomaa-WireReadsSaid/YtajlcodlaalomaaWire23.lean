/- The walk of WireWrites. -/
import Derived.Test.YtajlcodlaalomaaWire22
namespace Go.Proofs.Ytajlcodlaalomaa
open Go.RowKit Go.Proofs.Ytajlcodlaalomaa.Wi Go.Proofs.Ytajlcodlaalomaa.Pc
attribute [local go_sem] cell_alloc_some frozen_alloc_some
set_option linter.unusedSimpArgs false
set_option linter.unusedVariables false

set_option maxRecDepth 100000 in
set_option maxHeartbeats 4000000 in
theorem WireWrites_any {w : World} {A : Option Addr} {cap : Nat} {l : List Th} (lim : Int) (h : ThRow w A l) :
    Calls Try.prog 3 #[.int .i64 lim, .slice A l.length cap] w fun e w' => e = .returned (.bool true) ∧ Below w.heap.size w w' := by
  have HH := Lib.hid h
  clear h
  go_enter Try.func3, Try.ntmps3
  go_wp2_with fail
  refine (long_any HH.out).mono ?_
  rintro e w1 ⟨r, rfl, rfl, hr⟩
  have HR := Lib.hid hr
  clear hr
  cases r
  · by_cases hlim : lim < 0 ∨ 1048576 < lim
    · go_wp2_with fail
      refine (NewWriter_no lim _ hlim).mono ?_
      rintro e w1 ⟨rfl, rfl⟩
      go_wp2_with fail
      refine (rNewWriter_no lim _ hlim).mono ?_
      rintro e w1 ⟨rfl, rfl⟩
      go_wp2_with fail
      go_loopw [9, 10, 11, 12, 13, 14, 38, 39, 40, 41, 42, 43, 44, 45, 46, 47, 48, 49, 50, 51, 52, 53, 54, 55, 56, 57, 58, 59, 60, 61, 62, 63, 64, 65, 66, 67, 68, 69, 70, 71, 72, 73, 74, 75, 76, 77, 78, 79, 80, 81, 82, 83, 84, 85, 86, 87, 88, 89, 90, 91, 92, 93, 94, 95, 96, 97, 98, 99, 100, 101, 102, 103] (fun _ _ _ _ _ _ _ _ _ _ _ _ _ _ _ _ _ _ _ _ _ _ _ _ _ _ _ _ _ _ _ _ _ _ _ _ _ _ _ _ _ _ _ _ _ _ _ _ _ _ _ _ _ _ _ _ _ _ _ _ _ _ _ _ _ _ _ _ _ _ _ _ wr => w = wr) (fun _ _ _ _ _ _ _ _ _ _ _ _ _ _ _ _ _ _ _ _ _ _ _ _ _ _ _ _ _ _ _ _ _ _ _ _ _ _ _ _ _ _ _ _ _ _ _ _ _ _ _ _ _ _ _ _ _ _ _ _ _ _ _ _ _ _ _ _ _ _ _ _ _ => 0)
      case atStart => rfl
      case round =>
        subst hrel
        go_wp2_with fail
        refine (awake_yes _).mono ?_
        rintro e w1 ⟨rfl, b1⟩
        go_wp2_with fail
        go_ret
        exact ⟨rfl, b1⟩
    · go_wp2_with fail
      refine (NewWriter_yes lim _ (by omega) (by omega)).mono ?_
      rintro e w1 ⟨rfl, F1, b1⟩
      have hF1 := Lib.hid F1
      clear F1
      go_wp2_with fail
      refine (rNewWriter_yes lim _ (by omega) (by omega)).mono ?_
      rintro e w2 ⟨rfl, G1, b2⟩
      have hG1 := Lib.hid G1
      have b12 := bl_then b1 b2
      clear G1
      go_wp2_with fail
      have hst : ∃ s s', Wr w2 w.heap.size w.heap.size lim [] 0 s ∧ RWr w2 w.heap.size w1.heap.size lim [] 0 s' ∧ ∀ b, WrS w.heap.size s b → ¬ WrS w1.heap.size s' b := 
        ⟨_, _, hF1.out.below b2, ⟨hG1.out.st, World.ownsRow_nil _ _ _ _, b1.size, hG1.out.len, hG1.out.l0, hG1.out.l1⟩, fun b h1 h2 => by
          have := hF1.out.ltp
          have := b1.size
          rcases h1 with h1 | h1 <;> rcases h2 with h2 | h2 <;> first | omega | (simp [Value.ownBlock] at h1; done) | (simp [Value.ownBlock] at h2; done)
          done⟩
      have HST := Lib.hid hst
      clear hst
      go_loopw [9, 10, 11, 12, 13, 14, 38, 39, 40, 41, 42, 43, 44, 45, 46, 47, 48, 49, 50, 51, 52, 53, 54, 55, 56, 57, 58, 59, 60, 61, 62, 63, 64, 65, 66, 67, 68, 69, 70, 71, 72, 73, 74, 75, 76, 77, 78, 79, 80, 81, 82, 83, 84, 85, 86, 87, 88, 89, 90, 91, 92, 93, 94, 95, 96, 97, 98, 99, 100, 101, 102, 103] (fun s9 _ _ _ _ _ _ _ _ _ _ _ _ _ _ _ _ _ _ _ _ _ _ _ _ _ _ _ _ _ _ _ _ _ _ _ _ _ _ _ _ _ _ _ _ _ _ _ _ _ _ _ _ _ _ _ _ _ _ _ _ _ _ _ _ _ _ _ _ _ _ _ wr => ∃ (k : Nat) (bs : List UInt8) (e : Int) (s s' : Value), k ≤ l.length ∧ s9 = .int .i64 k ∧ Wr wr w.heap.size w.heap.size lim bs e s ∧ RWr wr w.heap.size w1.heap.size lim bs e s' ∧ (∀ b, WrS w.heap.size s b → ¬ WrS w1.heap.size s' b) ∧ Below w.heap.size w wr) (fun s9 _ _ _ _ _ _ _ _ _ _ _ _ _ _ _ _ _ _ _ _ _ _ _ _ _ _ _ _ _ _ _ _ _ _ _ _ _ _ _ _ _ _ _ _ _ _ _ _ _ _ _ _ _ _ _ _ _ _ _ _ _ _ _ _ _ _ _ _ _ _ _ _ => l.length - (intOf s9).toNat)
      case atStart =>
        obtain ⟨s, s', h1, h2, h3⟩ := HST.out
        exact ⟨0, [], 0, s, s', by omega, rfl, h1, h2, h3, b12⟩
      case round =>
        obtain ⟨k, bs, e, s, s', hk, rfl, F, G, hD, hb⟩ := hrel
        have HF := Lib.hid F
        have HG := Lib.hid G
        have HDj := Lib.hid hD
        clear F G hD
        by_cases hlt : k < l.length
        · obtain ⟨b, off, rfl, hbw, hc⟩ := HH.out.2 (by omega)
          obtain ⟨x, hx⟩ : ∃ x, l[k]? = some x := ⟨_, List.getElem?_eq_getElem hlt⟩
          have hxm : x ∈ l := List.mem_of_getElem? hx
          have hxb := (HR.out trivial).2 x hxm
          have hxo := HH.out.1 x hxm
          have HLT := Lib.hid hlt
          have hl30 := (HR.out trivial).1
          obtain ⟨u, hr0, hu0⟩ := hc k x hx
          have hr := range_below hr0 hbw hb
          have hu := hu0.below hb
          have HR0 := Lib.hid hr0
          have HU0 := Lib.hid hu0
          have HRr := Lib.hid hr
          have hil : ((k : Nat) : Int) < (l.length : Int) := by omega
          have hfine := hxo.fine (by omega)
          have hsz := Th.cells_len hfine u
          have hszA : (x.cells u).toArray.size = 41 := by simpa using hsz
          have c2 := hr 2 u (Th.c2 x u)
          have hone : u.oneCell' = true := by obtain ⟨A', c', rfl⟩ := hu.form; rfl
          have h1A := Th.one x u hone
          have HU := Lib.hid hu
          clear hc hr hx hxm hr0 hu0
          have hi41 : (Try.prog.info? 39).map (·.size) = some 41 := by kernel_rfl
          have HI := Lib.hid hi41
          clear hi41
          go_wp2_with (first
            | (with_reducible refine wpList_load_mid rfl 39 _ rfl b (off + k * 41) rfl (x.cells u) _ HRr.out Try.underlying39 rfl (HI.out.trans (congrArg some hsz.symm)) ?_)
            | (with_reducible refine wpList_store_new rfl 39 _ _ rfl (x.cells u).toArray rfl rfl (Eq.trans (b := 41) (by kernel_rfl) hszA.symm) (HI.out.trans (congrArg some hszA.symm)) h1A ?_))
          refine (LentBytes_any (hu.below (bl_alloc (Below.refl _ _) _)) (by omega)).mono ?_
          rintro e1 w3 ⟨g, v', rfl, hL, hg, hb3⟩
          obtain ⟨cap', hv'⟩ : ∃ cap', v' = .slice (some ⟨g, 0, none⟩) x.b.length cap' := by obtain ⟨c, e, _⟩ := hL; exact ⟨c, e⟩
          have D3 := kb_below hb3 (kb_new rfl _)
          have d3 := (kb_cell D3 2).trans (arr_get (Th.c2 x u))
          have z3 := kb_frozen D3 2
          have HD3 := Lib.hid D3
          have HL := Lib.hid hL
          subst hv'
          rw [World.size_alloc] at hg
          have hb3' : Below wr.heap.size wr w3 := bl_then (bl_alloc (Below.refl _ _) _) hb3
          have HB3 := Lib.hid hb3'
          clear hL D3 hb3 hb3' hu
          go_wp2_with fail
          have hN : wr.heap.size < w3.heap.size := kb_lt HD3.out
          have h4b : Below wr.heap.size wr (w3.setCell ⟨wr.heap.size, 2, none⟩ (.slice (some ⟨g, 0, none⟩) x.b.length cap')) := bl_set (Nat.le_refl _) HB3.out _
          have D4 := kb_set (i := 2) HD3.out (.slice (some ⟨g, 0, none⟩) x.b.length cap')
          rw [Th.put2] at D4
          have k34 : Keep (fun b => b = wr.heap.size) w3 (w3.setCell ⟨wr.heap.size, 2, none⟩ (.slice (some ⟨g, 0, none⟩) x.b.length cap')) := (Keep.refl (fun b => b = wr.heap.size) w3).set (p := ⟨wr.heap.size, 2, none⟩) (fun _ => rfl) _
          have L4 := HL.out.keep k34 (by omega)
          have hgl : g < w3.heap.size := by obtain ⟨_, _, ho⟩ := HL.out; exact (ho.lt g rfl).2
          have hs34 : w3.heap.size ≤ (w3.setCell ⟨wr.heap.size, 2, none⟩ (.slice (some ⟨g, 0, none⟩) x.b.length cap')).heap.size := by simp
          generalize (w3.setCell ⟨wr.heap.size, 2, none⟩ (.slice (some ⟨g, 0, none⟩) x.b.length cap')) = w4 at *
          have h4s : wr.heap.size < w4.heap.size := kb_lt D4
          have b4 := bl_then hb h4b
          have r4 := range_of_kb D4
          have d4 := r4 2 _ (Th.c2 x _)
          rw [Nat.zero_add] at d4
          have q4 := range_below HR0.out hbw b4
          have e4 := q4 2 u (Th.c2 x u)
          have hsz' := Th.cells_len hfine (.slice (some ⟨g, 0, none⟩) x.b.length cap')
          have F4 := Lib.hid ((HF.out.below h4b).below (bl_drew (Below.refl _ _)))
          have G4 := Lib.hid ((HG.out.below h4b).below (bl_drew (Below.refl _ _)))
          have HL4 := Lib.hid (L4.keep (S := fun _ => False) (Keep.of_below (bl_drew (Below.refl _ _))) (fun h => h) : Lent w4.drew _ g _ x.b)
          have HD4 := Lib.hid (kb_drew D4)
          have HB4 := Lib.hid (bl_drew b4)
          have hd4 : w4.drew.heap.size = w4.heap.size := rfl
          clear L4 k34 h4b D4 d3 z3 hN b4
          refine wp_region_held_drew (S := (fun W : World => W.rangeAt wr.heap.size 0 (x.cells (.slice (some ⟨g, 0, none⟩) x.b.length cap')) ∧ W.cell? ⟨wr.heap.size, 2, none⟩ = some (.slice (some ⟨g, 0, none⟩) x.b.length cap') ∧ W.rangeAt b (off + k * 41) (x.cells u) ∧ W.cell? ⟨b, off + k * 41 + 2, none⟩ = some u)) (by kernel_rfl) ⟨r4, d4, q4, e4⟩ (fun hHeld => ?_)
          refine wpAnyH_take (i := 0) (oi := { dst := some 59, op := _, type := _, pos := _, after := _, guard := _ }) (v := ?_) rfl (by kernel_rfl) (by kernel_rfl) (by kernel_rfl) (fun _ _ _ h => h) (Or.inl ⟨by rfl, ?_⟩) hHeld ?_
          rotate_left
          · (intro w hSw; (try dsimp only at hSw); go_simp); all_goals with_reducible rfl
          try simp only [Act.put, List.setIfInBounds_toArray, List.set_cons_zero, List.set_cons_succ]
          refine wpAnyH_take (i := 1) (oi := { dst := some 60, op := _, type := _, pos := _, after := _, guard := _ }) (v := _) rfl (by kernel_rfl) (by kernel_rfl) (by kernel_rfl) (fun _ _ _ h => h) (yieldsIf_load_mid (by rfl) 39 _ rfl wr.heap.size 0 rfl (x.cells (.slice (some ⟨g, 0, none⟩) x.b.length cap')) _ (fun _ h => h.1) Try.underlying39 rfl (HI.out.trans (congrArg some hsz'.symm))) hHeld ?_
          try simp only [Act.put, List.setIfInBounds_toArray, List.set_cons_zero, List.set_cons_succ]
          refine wpAnyH_take (i := 3) (oi := { dst := some 62, op := _, type := _, pos := _, after := _, guard := _ }) (v := ?_) rfl (by kernel_rfl) (by kernel_rfl) (by kernel_rfl) (fun _ _ _ h => h) (Or.inl ⟨by rfl, ?_⟩) hHeld ?_
          rotate_left
          · (intro w hSw; (try dsimp only at hSw); go_simp); all_goals with_reducible rfl
          try simp only [Act.put, List.setIfInBounds_toArray, List.set_cons_zero, List.set_cons_succ]
          refine wpAnyH_take (i := 4) (oi := { dst := some 63, op := _, type := _, pos := _, after := _, guard := _ }) (v := ?_) rfl (by kernel_rfl) (by kernel_rfl) (by kernel_rfl) (fun _ _ _ h => h) (Or.inl ⟨by rfl, ?_⟩) hHeld ?_
          rotate_left
          · (intro w hSw; (try dsimp only at hSw); go_simp); all_goals with_reducible rfl
          try simp only [Act.put, List.setIfInBounds_toArray, List.set_cons_zero, List.set_cons_succ]
          refine wpAnyH_take (i := 5) (oi := { dst := some 64, op := _, type := _, pos := _, after := _, guard := _ }) (v := ?_) rfl (by kernel_rfl) (by kernel_rfl) (by kernel_rfl) (fun _ _ _ h => h) (Or.inl ⟨by rfl, ?_⟩) hHeld ?_
          rotate_left
          · (intro w hSw; (try dsimp only at hSw); go_simp); all_goals with_reducible rfl
          try simp only [Act.put, List.setIfInBounds_toArray, List.set_cons_zero, List.set_cons_succ]
          refine wpAnyH_take (i := 6) (oi := { dst := some 65, op := _, type := _, pos := _, after := _, guard := _ }) (v := ?_) rfl (by kernel_rfl) (by kernel_rfl) (by kernel_rfl) (fun _ _ _ h => h) (Or.inl ⟨by rfl, ?_⟩) hHeld ?_
          rotate_left
          · (intro w hSw; (try dsimp only at hSw); go_simp); all_goals with_reducible rfl
          try simp only [Act.put, List.setIfInBounds_toArray, List.set_cons_zero, List.set_cons_succ]
          refine wpAnyH_take (i := 7) (oi := { dst := some 66, op := _, type := _, pos := _, after := _, guard := _ }) (v := _) rfl (by kernel_rfl) (by kernel_rfl) (by kernel_rfl) (fun _ _ _ h => h) (yieldsIf_load_mid (by rfl) 39 _ rfl b (off + k * 41) rfl (x.cells u) _ (fun _ h => h.2.2.1) Try.underlying39 rfl (HI.out.trans (congrArg some hsz.symm))) hHeld ?_
          try simp only [Act.put, List.setIfInBounds_toArray, List.set_cons_zero, List.set_cons_succ]
          refine wpAnyH_ready (rs := [2]) (by kernel_rfl) (by simp) (AllReadyH.cons (o := _) rfl (fun K hK => ?_) AllReadyH.nil)
          go_simp
          refine (puts_any hfine HL4.out.bytes F4.out).mono ?_
          rintro e5 w5 ⟨rfl, s1, F5, k5, n5⟩
          have hlo : ∀ b', WrS w.heap.size s b' → w.heap.size ≤ b' ∧ b' < wr.heap.size := fun b' hb' => HF.out.ltS hb'
          have hlo' : ∀ b', WrS w1.heap.size s' b' → w.heap.size ≤ b' ∧ b' < wr.heap.size := fun b' hb' => HG.out.ltS hb'
          have hww : w.heap.size ≤ w4.drew.heap.size := HB4.out.size
          have B5 := HB4.out.trans (k5.below hww fun b' h => (hlo b' h).1)
          have D5 := k5.kb HD4.out (fun h => by have := (hlo _ h).2; omega)
          have G5 := G4.out.keep k5 (fun b' h1 h2 => HDj.out b' h2 h1)
          have L5 := HL4.out.keep k5 (fun h => by have := (hlo _ h).2; omega)
          have s5 : w4.heap.size ≤ w5.heap.size := k5.size
          have r5 := range_below HR0.out hbw B5
          refine hK.out _ _ ⟨range_of_kb D5, (kb_cell D5 2).trans (arr_get (Th.c2 x _)), r5, r5 2 u (Th.c2 x u)⟩ (fun hHeld => ?_)
          have HD5 := Lib.hid D5
          have HL5 := Lib.hid L5
          have HF5 := Lib.hid F5
          have HG5 := Lib.hid G5
          have HB5 := Lib.hid B5
          have HN5 := Lib.hid n5
          clear hK F5 G5 L5 D5 k5 n5 B5 r5 r4 d4 q4 e4
          try simp only [Act.put, List.setIfInBounds_toArray, List.set_cons_zero, List.set_cons_succ]
          refine wpAnyH_ready (rs := [8]) (by kernel_rfl) (by simp) (AllReadyH.cons (o := _) rfl (fun K hK => ?_) AllReadyH.nil)
          go_simp
          refine (ours_any hfine (HU0.out.below HB5.out) HG5.out).mono ?_
          rintro e6 w6 ⟨rfl, s2, G6, k6, n6⟩
          have hww5 : w.heap.size ≤ w5.heap.size := HB5.out.size
          have B6 := HB5.out.trans (k6.below hww5 fun b' h => (hlo' b' h).1)
          have D6 := k6.kb HD5.out (fun h => by have := (hlo' _ h).2; omega)
          have dj5 : ∀ b', WrS w.heap.size s1 b' → ¬ WrS w1.heap.size s' b' := fun b' h1 h2 => by
            rcases h1 with h1 | h1
            · exact HDj.out b' (.inl h1) h2
            · rcases HN5.out b' h1 with h | h
              · exact HDj.out b' (.inr h) h2
              · have := (hlo' b' h2).2; omega
          have F6 := HF5.out.keep k6 (fun b' h1 h2 => dj5 b' h1 h2)
          have L6 := HL5.out.keep k6 (fun h => by have := (hlo' _ h).2; omega)
          have s6 : w5.heap.size ≤ w6.heap.size := k6.size
          have r6 := range_below HR0.out hbw B6
          have dj6 : ∀ b', WrS w.heap.size s1 b' → ¬ WrS w1.heap.size s2 b' := fun b' h1 h2 => by
            rcases h2 with h2 | h2
            · exact dj5 b' h1 (.inl h2)
            · rcases n6 b' h2 with h | h
              · exact dj5 b' h1 (.inr h)
              · have := (HF5.out.ltS h1).2; omega
          have hg6 : ¬ WrS w.heap.size s1 g ∧ ¬ WrS w1.heap.size s2 g := by
            refine ⟨fun h => ?_, fun h => ?_⟩
            · rcases h with h | h
              · have := (hlo _ (.inl h)).2; omega
              · rcases HN5.out g h with h | h
                · have := (hlo _ (.inr h)).2; omega
                · omega
            · rcases h with h | h
              · have := (hlo' _ (.inl h)).2; omega
              · rcases n6 g h with h | h
                · have := (hlo' _ (.inr h)).2; omega
                · omega
          refine hK.out _ _ ⟨range_of_kb D6, (kb_cell D6 2).trans (arr_get (Th.c2 x _)), r6, r6 2 u (Th.c2 x u)⟩ (fun hHeld => ?_)
          have HD6 := Lib.hid D6
          have HL6 := Lib.hid L6
          have HF6 := Lib.hid F6
          have HG6 := Lib.hid G6
          have HB6 := Lib.hid B6
          have HJ6 := Lib.hid dj6
          have Hg6 := Lib.hid hg6
          clear hK F6 G6 L6 D6 k6 n6 B6 r6 dj5 dj6 hg6
          try simp only [Act.put, List.setIfInBounds_toArray, List.set_cons_zero, List.set_cons_succ]
          generalize ansT lim bs e x = rr at *
          refine wpAnyH_take (i := 9) (oi := { dst := some 68, op := _, type := _, pos := _, after := _, guard := _ }) (v := ?_) rfl (by kernel_rfl) (by kernel_rfl) (by kernel_rfl) (fun _ _ _ h => h) (Or.inl ⟨by rfl, ?_⟩) hHeld ?_
          rotate_left
          · (intro w hSw; (try dsimp only at hSw); go_simp); all_goals with_reducible rfl
          try simp only [Act.put, List.setIfInBounds_toArray, List.set_cons_zero, List.set_cons_succ]
          refine wpAnyH_take (i := 10) (oi := { dst := some 69, op := _, type := _, pos := _, after := _, guard := _ }) (v := ?_) rfl (by kernel_rfl) (by kernel_rfl) (by kernel_rfl) (fun _ _ _ h => h) (Or.inl ⟨by rfl, ?_⟩) hHeld ?_
          rotate_left
          · (intro w hSw; (try dsimp only at hSw); go_simp); all_goals with_reducible rfl
          try simp only [Act.put, List.setIfInBounds_toArray, List.set_cons_zero, List.set_cons_succ]
          refine wpAnyH_take (i := 11) (oi := { dst := some 70, op := _, type := _, pos := _, after := _, guard := _ }) (v := ?_) rfl (by kernel_rfl) (by kernel_rfl) (by kernel_rfl) (fun _ _ _ h => h) (Or.inl ⟨by rfl, ?_⟩) hHeld ?_
          rotate_left
          · (intro w hSw; (try dsimp only at hSw); go_simp); all_goals with_reducible rfl
          try simp only [Act.put, List.setIfInBounds_toArray, List.set_cons_zero, List.set_cons_succ]
          refine wpAnyH_take (i := 12) (oi := { dst := some 71, op := _, type := _, pos := _, after := _, guard := _ }) (v := ?_) rfl (by kernel_rfl) (by kernel_rfl) (by kernel_rfl) (fun _ _ _ h => h) (Or.inl ⟨by rfl, ?_⟩) hHeld ?_
          rotate_left
          · (intro w hSw; (try dsimp only at hSw); go_simp); all_goals with_reducible rfl
          try simp only [Act.put, List.setIfInBounds_toArray, List.set_cons_zero, List.set_cons_succ]
          refine wpAnyH_take (i := 13) (oi := { dst := some 72, op := _, type := _, pos := _, after := _, guard := _ }) (v := ?_) rfl (by kernel_rfl) (by kernel_rfl) (by kernel_rfl) (fun _ _ _ h => h) (Or.inl ⟨by rfl, ?_⟩) hHeld ?_
          rotate_left
          · (intro w hSw; (try dsimp only at hSw); go_simp); all_goals with_reducible rfl
          try simp only [Act.put, List.setIfInBounds_toArray, List.set_cons_zero, List.set_cons_succ]
          refine wpAnyH_take (i := 14) (oi := { dst := some 73, op := _, type := _, pos := _, after := _, guard := _ }) (v := ?_) rfl (by kernel_rfl) (by kernel_rfl) (by kernel_rfl) (fun _ _ _ h => h) (Or.inl ⟨by rfl, ?_⟩) hHeld ?_
          rotate_left
          · (intro w hSw; (try dsimp only at hSw); go_simp); all_goals with_reducible rfl
          try simp only [Act.put, List.setIfInBounds_toArray, List.set_cons_zero, List.set_cons_succ]
          refine wpAnyH_take (i := 15) (oi := { dst := some 74, op := _, type := _, pos := _, after := _, guard := _ }) (v := ?_) rfl (by kernel_rfl) (by kernel_rfl) (by kernel_rfl) (fun _ _ _ h => h) (Or.inl ⟨by rfl, ?_⟩) hHeld ?_
          rotate_left
          · (intro w hSw; (try dsimp only at hSw); go_simp); all_goals with_reducible rfl
          try simp only [Act.put, List.setIfInBounds_toArray, List.set_cons_zero, List.set_cons_succ]
          refine wpAnyH_take (i := 16) (oi := { dst := some 75, op := _, type := _, pos := _, after := _, guard := _ }) (v := ?_) rfl (by kernel_rfl) (by kernel_rfl) (by kernel_rfl) (fun _ _ _ h => h) (Or.inl ⟨by rfl, ?_⟩) hHeld ?_
          rotate_left
          · (intro w hSw; (try dsimp only at hSw); go_simp); all_goals with_reducible rfl
          try simp only [Act.put, List.setIfInBounds_toArray, List.set_cons_zero, List.set_cons_succ]
          refine wpAnyH_take (i := 17) (oi := { dst := some 76, op := _, type := _, pos := _, after := _, guard := _ }) (v := ?_) rfl (by kernel_rfl) (by kernel_rfl) (by kernel_rfl) (fun _ _ _ h => h) (Or.inl ⟨by rfl, ?_⟩) hHeld ?_
          rotate_left
          · (intro w hSw; (try dsimp only at hSw); go_simp); all_goals with_reducible rfl
          try simp only [Act.put, List.setIfInBounds_toArray, List.set_cons_zero, List.set_cons_succ]
          refine wpAnyH_ready (rs := [18]) (by kernel_rfl) (by simp) (AllReadyH.cons (o := _) rfl (fun K hK => ?_) AllReadyH.nil)
          go_simp
          refine (KeptBytes_yes HL6.out (HU0.out.below HB6.out) (by omega)).mono ?_
          rintro e7 w7 ⟨rfl, b7⟩
          have B7 := bl_then HB6.out b7
          have r7 := range_below HR0.out hbw B7
          have D7 := kb_below b7 HD6.out
          refine hK.out _ _ ⟨range_of_kb D7, (kb_cell D7 2).trans (arr_get (Th.c2 x _)), r7, r7 2 u (Th.c2 x u)⟩ (fun hHeld => ?_)
          try simp only [Act.put, List.setIfInBounds_toArray, List.set_cons_zero, List.set_cons_succ]
          refine wpAnyH_take (i := 19) (oi := { dst := some 78, op := _, type := _, pos := _, after := _, guard := _ }) (v := ?_) rfl (by kernel_rfl) (by kernel_rfl) (by kernel_rfl) (fun _ _ _ h => h) (Or.inl ⟨by rfl, ?_⟩) hHeld ?_
          rotate_left
          · (intro w hSw; (try dsimp only at hSw); go_simp); all_goals with_reducible rfl
          try simp only [Act.put, List.setIfInBounds_toArray, List.set_cons_zero, List.set_cons_succ]
          refine wpAnyH_take (i := 20) (oi := { dst := some 79, op := _, type := _, pos := _, after := _, guard := _ }) (v := ?_) rfl (by kernel_rfl) (by kernel_rfl) (by kernel_rfl) (fun _ _ _ h => h) (Or.inl ⟨by rfl, ?_⟩) hHeld ?_
          rotate_left
          · (intro w hSw; (try dsimp only at hSw); go_simp); all_goals with_reducible rfl
          try simp only [Act.put, List.setIfInBounds_toArray, List.set_cons_zero, List.set_cons_succ]
          refine wpAnyH_done (by kernel_rfl) ?_ _
          have HF7 := Lib.hid (HF6.out.below b7)
          have HG7 := Lib.hid (HG6.out.below b7)
          have HL7 := Lib.hid (HL6.out.keep (S := fun _ => False) (Keep.of_below b7) (fun h => h))
          have HB7 := Lib.hid B7
          have d7 := (kb_cell D7 2).trans (arr_get (Th.c2 x _))
          have s7 : w6.heap.size ≤ w7.heap.size := b7.size
          clear hK r7 D7 B7 b7
          go_wp2_with fail
          refine (OverBytes_lent HL7.out (by omega)).mono ?_
          rintro e8 w8 ⟨⟨ux, rfl⟩, k8⟩
          have HF8 := Lib.hid (HF7.out.keep k8 (fun b' h1 h2 => Hg6.out.1 (h2 ▸ h1)))
          have HG8 := Lib.hid (HG7.out.keep k8 (fun b' h1 h2 => Hg6.out.2 (h2 ▸ h1)))
          have HB8 := Lib.hid (HB7.out.trans (k8.below HB7.out.size fun b' h => by have := hb.size; omega))
          clear k8
          generalize putT lim bs e x = R at *
          obtain ⟨bs', e'⟩ := R
          go_wp2_with fail
          refine (wDone_any HF8.out).mono ?_
          rintro e9 w9 ⟨v9, rfl, N9⟩
          have hlen := HF8.out.len
          obtain ⟨A9, c9, hv9⟩ := owns_slice0 N9.1
          subst hv9
          have HN9 := Lib.hid N9
          have HG9 := Lib.hid (HG8.out.below N9.2)
          have HF9 := Lib.hid (HF8.out.below N9.2)
          have HB9 := Lib.hid (bl_then HB8.out N9.2)
          clear N9
          go_wp2_with fail
          refine (rwDone_any HG9.out).mono ?_
          rintro e10 w10 ⟨v10, rfl, N10⟩
          obtain ⟨A10, c10, hv10⟩ := owns_slice0 N10.1
          subst hv10
          have HN10 := Lib.hid N10
          have HG10 := Lib.hid (HG9.out.below N10.2)
          have HF10 := Lib.hid (HF9.out.below N10.2)
          have HB10 := Lib.hid (bl_then HB9.out N10.2)
          have HO10 := Lib.hid ((Keep.of_below (S := fun _ => False) N10.2).row HN9.out.1 (fun _ _ x => x))
          clear N10
          go_wp2_with fail
          refine (SameBytes_any (RowOf.of_own HO10.out) HN10.out.bytes).mono ?_
          rintro e11 w11 ⟨rfl, rfl⟩
          rw [show (doneL e' bs' == doneL e' bs') = true by simp]
          go_wp2_with fail
          refine (OverBytes_own HO10.out (by have := doneL_len (e := e') hlen; omega)).mono ?_
          rintro e12 w12 ⟨⟨ux12, rfl⟩, k12⟩
          have hO9 : ∀ b', (Value.slice A9 (doneL e' bs').length c9).ownBlock = some b' → w8.heap.size ≤ b' := fun b' h => (HN9.out.1.lt b' h).1
          have F12 := HF10.out.keep k12 (fun b' h1 h2 => by have := hO9 b' h2; have := (HF8.out.ltS h1).2; omega)
          have G12 := HG10.out.keep k12 (fun b' h1 h2 => by have := hO9 b' h2; have := (HG8.out.ltS h1).2; omega)
          have B12 := HB10.out.trans (k12.below HB10.out.size fun b' h => by have := hO9 b' h; have := HB8.out.size; omega)
          have HF12 := Lib.hid F12
          have HG12 := Lib.hid G12
          have HB12 := Lib.hid B12
          clear F12 G12 B12 k12
          go_wp2_with fail
          go_roundw
          case rel => exact ⟨k + 1, bs', e', s1, s2, by have := HLT.out; omega, by go_num, HF12.out, HG12.out, HJ6.out, HB12.out⟩
          case measure => have := HLT.out; simp [intOf]; omega
        · obtain rfl : k = l.length := by omega
          go_wp2_with fail
          refine (awake_yes _).mono ?_
          rintro e w1 ⟨rfl, b1⟩
          go_wp2_with fail
          go_ret
          exact ⟨rfl, bl_then hb b1⟩
  · go_wp2_with fail
    refine (awake_yes _).mono ?_
    rintro e w1 ⟨rfl, b1⟩
    go_wp2_with fail
    go_ret
    exact ⟨rfl, b1⟩
end Go.Proofs.Ytajlcodlaalomaa
