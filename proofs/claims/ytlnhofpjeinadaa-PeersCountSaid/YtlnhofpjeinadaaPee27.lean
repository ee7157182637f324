/- PeersCount: the walk. -/
import Derived.Test.YtlnhofpjeinadaaPee26
namespace Go.Proofs.Ytlnhofpjeinadaa
open Go.RowKit Go.Proofs.Ytlnhofpjeinadaa.Pc BigFrame
attribute [local go_sem] run_store_float
set_option linter.unusedSimpArgs false
set_option linter.unusedVariables false

set_option maxRecDepth 100000 in
set_option maxHeartbeats 1000000 in
theorem PeersCount_long (A0 A1 A2 : Option Addr) (n0 n1 n2 cap0 cap1 cap2 : Nat) (w : World) (h : 16 < n0 ∨ (n0 ≤ 16 ∧ 60 < n2)) :
    Calls Try.prog 4 #[.slice A0 n0 cap0, .slice A1 n1 cap1, .slice A2 n2 cap2] w fun e w' => e = .returned (.bool true) ∧ Below w.heap.size w w' := by
  rcases h with h | ⟨h, h'⟩
  all_goals
    go_enter Try.func4, Try.ntmps4
    go_wp2_with (go_at_call 3; (with_reducible refine (PeersKnown_any _).mono ?_); rintro e w1 ⟨rfl, hb1⟩; have hz1 := hb1.size)
    go_ret
    exact ⟨rfl, hb1⟩

set_option maxRecDepth 100000 in
set_option maxHeartbeats 16000000 in
theorem PeersCount_short (A0 A1 A2 : Option Addr) (cap0 cap1 cap2 : Nat) (zs us : List Int) (l : List Ac) (w : World) (h0 : zs.length ≤ 16) (h2 : l.length ≤ 60) (hZ : KRow .i64 w A0 zs) (hU : KRow .u64 w A1 us) (hA : ARow w A2 l) (hu : ∀ u ∈ us, u.toNat < 18446744073709551616) :
    Calls Try.prog 4 #[.slice A0 zs.length cap0, .slice A1 us.length cap1, .slice A2 l.length cap2] w fun e w' => e = .returned (.bool true) ∧ Below w.heap.size w w' := by
  have HM := Lib.hid (fun W (b : Below w.heap.size w W) => merits_any A0 A1 cap0 cap1 zs us W (hZ.below b) (hU.below b) (by omega))
  have HF := Lib.hid (mlist_fit (zs := zs) hu)
  have HLn := Lib.hid (show (mlist zs us).length ≤ 1000 by rw [mlist_len]; omega)
  have HA := Lib.hid hA
  generalize mlist zs us = ms at *
  obtain ⟨n0, hn0⟩ : ∃ n0, zs.length = n0 := ⟨_, rfl⟩
  obtain ⟨n1, hn1⟩ : ∃ n1, us.length = n1 := ⟨_, rfl⟩
  obtain ⟨n2, hn2⟩ : ∃ n2, l.length = n2 := ⟨_, rfl⟩
  have HN2 := Lib.hid hn2
  rw [hn0] at h0 HM ⊢
  rw [hn1] at HM ⊢
  rw [hn2] at h2 ⊢
  clear hZ hU hA hu hn0 hn1 hn2
  go_enter Try.func4, Try.ntmps4
  go_wp2_with fail
  refine (PeersKnown_any w).mono ?_
  rintro e w0 ⟨rfl, b0⟩
  go_wp2_with fail
  refine (HM.out _ b0).mono ?_
  rintro e w1 ⟨v1, rfl, o1, b1⟩
  have M1 := Lib.hid (MRow.of_own o1)
  have O1 := Lib.hid o1
  have b01 := bl_then b0 b1
  clear o1
  go_wp2_with fail
  refine (New_any M1.out HF.out HLn.out 3).mono ?_
  intro e w2 hN
  cases hok : okN ms 3
  · obtain ⟨rfl, b2⟩ := new_er hok hN
    have b02 := bl_then b01 b2
    clear hN
    go_wp2
    go_ret
    exact ⟨rfl, b02⟩
  · unfold NewPost at hN
    rw [if_pos hok] at hN
    obtain ⟨q, g, k1, rfl, hf1, F1, hq, hg, b2⟩ := hN
    have hok2 : okW ms.length 3 = true ∧ okMs ms = true := by simpa [okN] using hok
    have hlen : 1 ≤ ms.length ∧ ms.length ≤ 16 := by
      have := hok2.1
      simp [okW] at this
      omega
    obtain ⟨bm, capm, rfl, MA, hmB⟩ := MAt.of_own O1.out (by omega)
    have hXl : (fillL 3 (nextL (newL ms)) k1).length = ms.length := by
      have := (cnt_new (wit := 3) (k := k1) hok2.2).l1
      exact this.symm
    have HCN := Lib.hid (cnt_new (wit := 3) (k := k1) hok2.2)
    have lm1 := MA.lt
    have MA2 := MA.below b2
    have b02 := bl_then b01 b2
    obtain ⟨n, hn⟩ : ∃ n, ms.length = n := ⟨_, rfl⟩
    rw [hn] at HCN hXl hlen ⊢
    obtain ⟨hn1, hn16⟩ := hlen
    have hn0 : ((n : Int) == 0) = false := by simp; omega
    have hmk := fun W => make_ints n (by omega) W
    have hgl := F1.ltg
    have hql := F1.ltq
    have lm2 := MA2.lt
    have hw1 := b01.size
    have hw0 := b0.size
    have HC : Hid (Cn (w2.alloc (.cells (Array.replicate n (.int .i64 0)) 3)) q g bm w2.heap.size n (fillL 3 (nextL (newL ms)) k1) ms (List.replicate n 0) ((0 : Nat) : Int)) :=
      ⟨QX.of (F1.below (bl_alloc (Below.refl _ _) _)), MA2.below (bl_alloc (Below.refl _ _) _), SAt.made w2 n, HCN.out, hXl⟩
    have bb : Below w.heap.size w (w2.alloc (.cells (Array.replicate n (.int .i64 0)) 3)) := bl_alloc b02 _
    have hgm : ¬ bm = g := by omega
    have hgs : ¬ w2.heap.size = g := by omega
    have hms : ¬ bm = w2.heap.size := by omega
    have hqm : ¬ q = bm := by omega
    have hqs : ¬ q = w2.heap.size := by omega
    have hgw : w.heap.size ≤ g := by omega
    have hmw : w.heap.size ≤ bm := by omega
    have hsw : w.heap.size ≤ w2.heap.size := by have := b2.size; omega
    have hms' : w.heap.size ≤ w2.heap.size := hsw
    generalize fillL 3 (nextL (newL ms)) k1 = X at *
    clear hf1 F1 hok hok2 MA MA2 HCN hXl hq hg O1 M1 HM HF HLn b0 b1 b2 b01 b02 hmB lm1 lm2 hw1 hw0 hgl hql hn
    go_wp2_with fail
    generalize w2.alloc (.cells (Array.replicate n (.int .i64 0)) 3) = w3 at *
    generalize w2.heap.size = bs at *
    clear hmk
    go_loopw [12, 13, 14, 15, 16, 17, 18, 19, 20, 21, 22, 23, 24, 58, 59, 60, 61, 62, 63, 64, 65, 66, 67, 68, 69, 70, 71, 72, 73, 74, 75, 76, 77, 78, 79, 80, 81, 82, 83, 84, 85, 86, 87, 88, 89, 90, 91, 92, 93, 94, 95, 96, 97, 98, 99, 100, 101, 102, 103, 104, 105, 106, 107, 108, 109, 110, 111, 112, 113, 114, 115, 116, 117, 118, 119, 120, 121, 122, 123, 124, 125, 126, 127, 128, 129, 130, 131, 132, 133, 134, 135, 136, 137, 138, 139, 140, 141, 142, 143, 144, 145, 146, 147, 148, 149, 150, 151, 152, 153, 154, 155, 156, 157, 158, 159, 160, 161, 162, 163, 164, 165, 166] (fun s12 _ _ _ _ _ _ _ _ _ _ _ _ _ _ _ _ _ _ _ _ _ _ _ _ _ _ _ _ _ _ _ _ _ _ _ _ _ _ _ _ _ _ _ _ _ _ _ _ _ _ _ _ _ _ _ _ _ _ _ _ _ _ _ _ _ _ _ _ _ _ _ _ _ _ _ _ _ _ _ _ _ _ _ _ _ _ _ _ _ _ _ _ _ _ _ _ _ _ _ _ _ _ _ _ _ _ _ _ _ _ _ _ _ _ _ _ _ _ _ _ _ wr => ∃ (k : Nat) (X : List Pr) (ms : List Mr) (st : List Int), k ≤ n2 ∧ s12 = .int .i64 k ∧ Hid (Cn wr q g bm bs n X ms st (k : Int)) ∧ Below w.heap.size w wr) (fun s12 _ _ _ _ _ _ _ _ _ _ _ _ _ _ _ _ _ _ _ _ _ _ _ _ _ _ _ _ _ _ _ _ _ _ _ _ _ _ _ _ _ _ _ _ _ _ _ _ _ _ _ _ _ _ _ _ _ _ _ _ _ _ _ _ _ _ _ _ _ _ _ _ _ _ _ _ _ _ _ _ _ _ _ _ _ _ _ _ _ _ _ _ _ _ _ _ _ _ _ _ _ _ _ _ _ _ _ _ _ _ _ _ _ _ _ _ _ _ _ _ _ _ => n2 - (intOf s12).toNat)
    case atStart => exact ⟨0, X, ms, _, by omega, rfl, HC.out, bb⟩
    case round =>
      clear HC bb X ms
      obtain ⟨k, X, ms, st, hk, rfl, hC, hnx⟩ := hrel
      by_cases hlt : k < n2
      · obtain ⟨b, off, rfl, hbl, hc⟩ := HA.out (by have := HN2.out; omega)
        obtain ⟨a, ha⟩ : ∃ a, l[k]? = some a := ⟨_, List.getElem?_eq_getElem (by have := HN2.out; omega)⟩
        obtain ⟨c0, c1, c2⟩ := hc k a ha
        obtain ⟨kd, who, t⟩ := a
        dsimp only at c0 c1 c2
        have c0 := (hnx.cell (by exact hbl)).trans c0
        have c1 := (hnx.cell (by exact hbl)).trans c1
        have c2 := (hnx.cell (by exact hbl)).trans c2
        have hlt' : (k : Int) < (n2 : Int) := by omega
        have hbw : b < wr.heap.size := Nat.lt_of_lt_of_le hbl hnx.size
        clear hc ha
        go_wp2_with fail
        refine (Pick_any who n _ (by omega)).mono ?_
        rintro e w1 ⟨rfl, rfl⟩
        obtain ⟨p1, p2⟩ := pick_bd (x := who) (n := n) (by omega)
        obtain ⟨j, hj⟩ : ∃ j : Nat, pickN who n = j := ⟨(pickN who n).toNat, by omega⟩
        rw [hj]
        have hjn : j < n := by omega
        have hjn' : (j : Int) < (n : Int) := by omega
        have hgl := hC.out.p.ltg
        have DD : (wr.alloc (.cells #[.int .i64 kd, .int .i64 who, .int .i64 t] 48)).heap[wr.heap.size]? = some _ := kb_new rfl _
        have HC0 := Lib.hid (hC.out.below (bl_alloc (Below.refl _ _) (.cells #[.int .i64 kd, .int .i64 who, .int .i64 t] 48)))
        have b00 := Lib.hid (bl_alloc hnx (.cells #[.int .i64 kd, .int .i64 who, .int .i64 t] 48))
        have hgA : wr.heap.size ≠ g := by omega
        clear hj p1 p2 c0 c1 c2 hC hnx hgl hbw hbl
        generalize wr.alloc (.cells #[.int .i64 kd, .int .i64 who, .int .i64 t] 48) = w0 at *
        generalize wr.heap.size = zA at *
        obtain ⟨x, hx⟩ : ∃ x, X[j]? = some x := ⟨_, List.getElem?_eq_getElem (by have := HC0.out.l; omega)⟩
        obtain ⟨m, hm, e1, e2, hst, x0, x1, hoks⟩ := HC0.out.c.at_ j x hx
        have HX := Lib.hid hx
        have HE := Lib.hid (And.intro e1 e2)
        have HM := Lib.hid hm
        have HST := Lib.hid hst
        have HOK := Lib.hid hoks
        have k0 := (kb_cell DD 0).trans rfl
        have k2 := (kb_cell DD 2).trans rfl
        have hk60 : k < 60 := by omega
        clear hx hm e1 e2 hst hoks
        by_cases hkd : kd = 3
        · subst hkd
          obtain ⟨s1, s2, s3, s4⟩ := strike_of HX.out (by omega) (by omega)
          have hwr : IntKind.i64.wrap (x.strikes + 1) = x.strikes + 1 := IntWalk.i64_in _ (by omega)
          have hne0 : (x.strikes + 1 != x.strikes + 1) = false := by simp
          have hbE : badE m.s = 0 := by unfold badE; rw [← HE.out.1, HOK.out]; rfl
          have HS3 := Lib.hid (And.intro s3 s4)
          have HB := Lib.hid hbE
          go_wp2_with fail
          refine (qStrike_q HC0.out.p j).mono ?_
          rintro e w1 ⟨rfl, P1, k1⟩
          rw [s1, s2]
          rw [s3] at P1
          clear s1 s2 s3 s4 hbE
          have M1 := HC0.out.m.keep k1 hgm
          have S1 := HC0.out.s.keep k1 hgs
          obtain ⟨c0, c1⟩ := M1.cell HM.out
          have c2 := S1.cell HST.out
          have z2 := S1.frozen
          have HP1 := Lib.hid P1
          have HM1 := Lib.hid M1
          have HS1 := Lib.hid S1
          have b01 := Lib.hid (step_bl b00.out hgw k1)
          clear P1 k1 M1 S1
          go_wp2_with fail
          refine (Bad_any m.s m.p _).mono ?_
          rintro e w3 ⟨r, rfl, hr, hrl, b3⟩
          rw [HB.out]
          have kS : Keep (fun b => b = bs) w1 (w1.setCell ⟨bs, j, none⟩ (.int .i64 (x.strikes + 1))) := keep_set (Below.refl _ _)
          have P3 := (HP1.out.keep kS hqs (fun h => hgs h.symm)).below b3
          have M3 := (HM1.out.keep kS hms).below b3
          have S3 := (HS1.out.set HST.out (x.strikes + 1)).below b3
          have b03 := Lib.hid (bl_then (step_bl b01.out hsw kS) b3)
          obtain ⟨d0, d1⟩ := M3.cell HM.out
          have d2 := S3.cell (List.getElem?_set_self (List.getElem?_eq_some_iff.1 HST.out).1)
          have lm := M3.lt
          have ls := S3.lt
          have zm := M3.frozen
          have HP3 := Lib.hid P3
          have HM3 := Lib.hid M3
          have HS3' := Lib.hid S3
          have HR := Lib.hid (And.intro hr hrl)
          clear kS P3 M3 S3 c0 c1 c2 z2 HP1 HM1 HS1 b01 hr hrl b3
          go_wp2_with fail
          have HC9 : Hid (Cn (((w3.setCell ⟨bm, j * 2, none⟩ (.int .i64 (badS m.s))).setCell ⟨bm, j * 2 + 1, none⟩ (.float .f64 r)).alloc (.cells #[.int .i64 (badS m.s), .float .f64 r] 33)) q g bm bs n (X.set j (struck x)) (ms.set j ⟨badS m.s, r⟩) (st.set j (x.strikes + 1)) ((k + 1 : Nat) : Int)) := Lib.hid (by
            have kA := keep_set2 w3 bm (j * 2) (j * 2 + 1) (.int .i64 (badS m.s)) (.float .f64 r)
            refine Cn.below ⟨HP3.out.keep kA hqm (fun h => hgm h.symm), HM3.out.set HM.out _ _, HS3'.out.keep kA (fun h => hms h.symm), ?_, by rw [List.length_set]; exact HC0.out.l⟩ (bl_alloc (Below.refl _ _) _)
            have := HC0.out.c.turn (d := ((k + 1 : Nat) : Int)) (by omega) HX.out (y := struck x) (m := ⟨badS m.s, r⟩) (by show badS x.s = badS m.s; rw [HE.out.1]) (by show canon (badP x.s x.p) = canon r; rw [HR.out.1, HE.out.1]; exact badP_canon HE.out.2) (by rw [HS3.out.2]; omega) (by rw [HS3.out.2]; omega) (by show okS (badS x.s) = true; exact okS_bad HOK.out)
            rw [HS3.out.2] at this
            exact this)
          have b09 : Below w.heap.size w (((w3.setCell ⟨bm, j * 2, none⟩ (.int .i64 (badS m.s))).setCell ⟨bm, j * 2 + 1, none⟩ (.float .f64 r)).alloc (.cells #[.int .i64 (badS m.s), .float .f64 r] 33)) := bl_alloc (bl_set hmw (bl_set hmw b03.out _) _) _
          generalize ((w3.setCell ⟨bm, j * 2, none⟩ (.int .i64 (badS m.s))).setCell ⟨bm, j * 2 + 1, none⟩ (.float .f64 r)).alloc (.cells #[.int .i64 (badS m.s), .float .f64 r] 33) = w9 at *
          generalize X.set j (struck x) = X9 at *
          generalize ms.set j ⟨badS m.s, r⟩ = ms9 at *
          generalize st.set j (x.strikes + 1) = st9 at *
          clear d0 d1 d2 lm ls zm HP3 HM3 HS3' HS3 HR b03 HB HC0 b00 HX HE HM HST HOK DD

          go_loopw [22, 23, 24, 134, 135, 136, 137, 138, 139, 140, 141, 142, 143, 144, 145, 146, 147, 148, 149, 150, 151, 152, 153, 154, 155, 156, 157, 158, 159, 160, 161, 162, 163, 164, 165, 166] (fun s22 _ _ _ _ _ _ _ _ _ _ _ _ _ _ _ _ _ _ _ _ _ _ _ _ _ _ _ _ _ _ _ _ _ _ _ wr => ∃ i : Nat, i ≤ n ∧ s22 = .int .i64 i ∧ Below w9.heap.size w9 wr) (fun s22 _ _ _ _ _ _ _ _ _ _ _ _ _ _ _ _ _ _ _ _ _ _ _ _ _ _ _ _ _ _ _ _ _ _ _ _ => n - (intOf s22).toNat)
          case atStart => exact ⟨0, by omega, rfl, Below.refl _ _⟩
          case round =>
            obtain ⟨i, hi, rfl, hnb⟩ := hrel
            by_cases hin : i < n
            · have hin' : (i : Int) < (n : Int) := by omega
              have HCI := Lib.hid (HC9.out.below hnb)
              obtain ⟨x, hx⟩ : ∃ x, X9[i]? = some x := ⟨_, List.getElem?_eq_getElem (by have := HCI.out.l; omega)⟩
              obtain ⟨m, hm, e1, e2, hst, -, -, -⟩ := HCI.out.c.at_ i x hx
              obtain ⟨f1, f2, f3, -⟩ := merA_of hx
              have HX := Lib.hid (And.intro f1 (And.intro f2 f3))
              have HE := Lib.hid (And.intro e1 e2)
              have HM := Lib.hid hm
              have HST := Lib.hid hst
              obtain ⟨c0, c1⟩ := HCI.out.m.cell hm
              have c2 := HCI.out.s.cell hst
              clear hx hm e1 e2 hst f1 f2 f3
              go_wp2_with fail
              refine (qMerit_q HCI.out.p i).mono ?_
              rintro e w1 ⟨v, rfl, ⟨p, rfl, hp⟩, b1⟩
              rw [HX.out.1] at hp
              rw [HX.out.1, HX.out.2.1, HE.out.1]
              have HPC := Lib.hid (hp.trans HE.out.2)
              have HCJ := Lib.hid (HCI.out.below (bl_alloc b1 (.cells #[.int .i64 m.s, .float .f64 p] 33)))
              have DD : (w1.alloc (.cells #[.int .i64 m.s, .float .f64 p] 33)).heap[w1.heap.size]? = some _ := kb_new rfl _
              have hnb2 := bl_alloc (bl_then hnb b1) (.cells #[.int .i64 m.s, .float .f64 p] 33)
              clear hp b1 hnb HCI c0 c1 c2
              go_wp2_with fail
              generalize w1.alloc (.cells #[.int .i64 m.s, .float .f64 p] 33) = w2 at *
              generalize w1.heap.size = zD at *
              have HCK := Lib.hid (HCJ.out.below (bl_drew (Below.refl _ _)))
              have HDD := Lib.hid (kb_drew DD)
              have hnb3 := Lib.hid (bl_drew hnb2)
              clear DD hnb2 HCJ
              refine wp_region_held_drew (S := (fun W : World => (W.cell? ⟨zD, 0, none⟩ = some (.int .i64 m.s) ∧ W.cell? ⟨zD, 1, none⟩ = some (.float .f64 p)) ∧ (W.cell? ⟨bm, i * 2, none⟩ = some (.int .i64 m.s) ∧ W.cell? ⟨bm, i * 2 + 1, none⟩ = some (.float .f64 m.p)) ∧ W.cell? ⟨bs, i, none⟩ = some (.int .i64 x.strikes))) (by kernel_rfl) ⟨⟨kb_cell HDD.out 0, kb_cell HDD.out 1⟩, HCK.out.m.cell HM.out, HCK.out.s.cell HST.out⟩ (fun hHeld => ?_)
              refine wpAnyH_take (i := 0) (oi := { dst := some 146, op := _, type := _, pos := _, after := _, guard := _ }) (v := ?_) rfl (by kernel_rfl) (by kernel_rfl) (by kernel_rfl) (fun _ _ _ h => h) (Or.inl ⟨by rfl, ?_⟩) hHeld ?_
              rotate_left
              · (intro w hSw; (try dsimp only at hSw); go_simp); all_goals with_reducible rfl
              try simp only [Act.put, List.setIfInBounds_toArray, List.set_cons_zero, List.set_cons_succ]
              refine wpAnyH_take (i := 1) (oi := { dst := some 147, op := _, type := _, pos := _, after := _, guard := _ }) (v := ?_) rfl (by kernel_rfl) (by kernel_rfl) (by kernel_rfl) (fun _ _ _ h => h) (Or.inl ⟨by rfl, ?_⟩) hHeld ?_
              rotate_left
              · (intro w hSw; (try dsimp only at hSw); go_simp); all_goals with_reducible rfl
              try simp only [Act.put, List.setIfInBounds_toArray, List.set_cons_zero, List.set_cons_succ]
              refine wpAnyH_take (i := 2) (oi := { dst := some 148, op := _, type := _, pos := _, after := _, guard := _ }) (v := ?_) rfl (by kernel_rfl) (by kernel_rfl) (by kernel_rfl) (fun _ _ _ h => h) (Or.inl ⟨by rfl, ?_⟩) hHeld ?_
              rotate_left
              · (intro w hSw; (try dsimp only at hSw); go_simp); all_goals with_reducible rfl
              try simp only [Act.put, List.setIfInBounds_toArray, List.set_cons_zero, List.set_cons_succ]
              refine wpAnyH_take (i := 3) (oi := { dst := some 149, op := _, type := _, pos := _, after := _, guard := _ }) (v := ?_) rfl (by kernel_rfl) (by kernel_rfl) (by kernel_rfl) (fun _ _ _ h => h) (Or.inl ⟨by rfl, ?_⟩) hHeld ?_
              rotate_left
              · (intro w hSw; (try dsimp only at hSw); go_simp); all_goals with_reducible rfl
              try simp only [Act.put, List.setIfInBounds_toArray, List.set_cons_zero, List.set_cons_succ]
              refine wpAnyH_take (i := 4) (oi := { dst := some 150, op := _, type := _, pos := _, after := _, guard := _ }) (v := ?_) rfl (by kernel_rfl) (by kernel_rfl) (by kernel_rfl) (fun _ _ _ h => h) (Or.inl ⟨by rfl, ?_⟩) hHeld ?_
              rotate_left
              · (intro w hSw; (try dsimp only at hSw); go_simp); all_goals with_reducible rfl
              try simp only [Act.put, List.setIfInBounds_toArray, List.set_cons_zero, List.set_cons_succ]
              refine wpAnyH_take (i := 5) (oi := { dst := some 151, op := _, type := _, pos := _, after := _, guard := _ }) (v := ?_) rfl (by kernel_rfl) (by kernel_rfl) (by kernel_rfl) (fun _ _ _ h => h) (Or.inl ⟨by rfl, ?_⟩) hHeld ?_
              rotate_left
              · (intro w hSw; (try dsimp only at hSw); go_simp); all_goals with_reducible rfl
              try simp only [Act.put, List.setIfInBounds_toArray, List.set_cons_zero, List.set_cons_succ]
              refine wpAnyH_take (i := 6) (oi := { dst := some 152, op := _, type := _, pos := _, after := _, guard := _ }) (v := ?_) rfl (by kernel_rfl) (by kernel_rfl) (by kernel_rfl) (fun _ _ _ h => h) (Or.inl ⟨by rfl, ?_⟩) hHeld ?_
              rotate_left
              · (intro w hSw; (try dsimp only at hSw); go_simp); all_goals with_reducible rfl
              try simp only [Act.put, List.setIfInBounds_toArray, List.set_cons_zero, List.set_cons_succ]
              refine wpAnyH_take (i := 7) (oi := { dst := some 153, op := _, type := _, pos := _, after := _, guard := _ }) (v := ?_) rfl (by kernel_rfl) (by kernel_rfl) (by kernel_rfl) (fun _ _ _ h => h) (Or.inl ⟨by rfl, ?_⟩) hHeld ?_
              rotate_left
              · (intro w hSw; (try dsimp only at hSw); go_simp); all_goals with_reducible rfl
              try simp only [Act.put, List.setIfInBounds_toArray, List.set_cons_zero, List.set_cons_succ]
              refine wpAnyH_ready (rs := [8]) (by kernel_rfl) (by simp) (AllReadyH.cons (o := _) rfl (fun K hK => ?_) AllReadyH.nil)
              go_simp
              refine (SameMerit_t m.s p m.p _ HPC.out).mono ?_
              rintro e w3 ⟨rfl, b3⟩
              have HCL := Lib.hid (HCK.out.below b3)
              have HDE := Lib.hid (kb_below b3 HDD.out)
              have hnb4 := bl_then hnb3.out b3
              refine hK.out _ _ ⟨⟨kb_cell HDE.out 0, kb_cell HDE.out 1⟩, HCL.out.m.cell HM.out, HCL.out.s.cell HST.out⟩ (fun hHeld => ?_)
              clear hK K b3 HCK HDD hnb3
              have hz : (x.strikes != x.strikes) = false := by simp
              refine wpAnyH_take (i := 9) (oi := { dst := some 155, op := _, type := _, pos := _, after := _, guard := _ }) (v := ?_) rfl (by kernel_rfl) (by kernel_rfl) (by kernel_rfl) (fun _ _ _ h => h) (Or.inl ⟨by rfl, ?_⟩) hHeld ?_
              rotate_left
              · (intro w hSw; (try dsimp only at hSw); go_simp); all_goals with_reducible rfl
              try simp only [Act.put, List.setIfInBounds_toArray, List.set_cons_zero, List.set_cons_succ]
              refine wpAnyH_take (i := 10) (oi := { dst := some 156, op := _, type := _, pos := _, after := _, guard := _ }) (v := ?_) rfl (by kernel_rfl) (by kernel_rfl) (by kernel_rfl) (fun _ _ _ h => h) (Or.inl ⟨by rfl, ?_⟩) hHeld ?_
              rotate_left
              · (intro w hSw; (try dsimp only at hSw); go_simp); all_goals with_reducible rfl
              try simp only [Act.put, List.setIfInBounds_toArray, List.set_cons_zero, List.set_cons_succ]
              refine wpAnyH_take (i := 11) (oi := { dst := some 157, op := _, type := _, pos := _, after := _, guard := _ }) (v := ?_) rfl (by kernel_rfl) (by kernel_rfl) (by kernel_rfl) (fun _ _ _ h => h) (Or.inl ⟨by rfl, ?_⟩) hHeld ?_
              rotate_left
              · (intro w hSw; (try dsimp only at hSw); go_simp); all_goals with_reducible rfl
              try simp only [Act.put, List.setIfInBounds_toArray, List.set_cons_zero, List.set_cons_succ]
              refine wpAnyH_take (i := 12) (oi := { dst := some 158, op := _, type := _, pos := _, after := _, guard := _ }) (v := ?_) rfl (by kernel_rfl) (by kernel_rfl) (by kernel_rfl) (fun _ _ _ h => h) (Or.inl ⟨by rfl, ?_⟩) hHeld ?_
              rotate_left
              · (intro w hSw; (try dsimp only at hSw); go_simp); all_goals with_reducible rfl
              try simp only [Act.put, List.setIfInBounds_toArray, List.set_cons_zero, List.set_cons_succ]
              refine wpAnyH_take (i := 13) (oi := { dst := some 159, op := _, type := _, pos := _, after := _, guard := _ }) (v := ?_) rfl (by kernel_rfl) (by kernel_rfl) (by kernel_rfl) (fun _ _ _ h => h) (Or.inl ⟨by rfl, ?_⟩) hHeld ?_
              rotate_left
              · (intro w hSw; (try dsimp only at hSw); go_simp); all_goals with_reducible rfl
              try simp only [Act.put, List.setIfInBounds_toArray, List.set_cons_zero, List.set_cons_succ]
              refine wpAnyH_take (i := 15) (oi := { dst := some 161, op := _, type := _, pos := _, after := _, guard := _ }) (v := ?_) rfl (by kernel_rfl) (by kernel_rfl) (by kernel_rfl) (fun _ _ _ h => h) (Or.inl ⟨by rfl, ?_⟩) hHeld ?_
              rotate_left
              · (intro w hSw; (try dsimp only at hSw); go_simp); all_goals with_reducible rfl
              try simp only [Act.put, List.setIfInBounds_toArray, List.set_cons_zero, List.set_cons_succ]
              refine wpAnyH_take (i := 16) (oi := { dst := some 162, op := _, type := _, pos := _, after := _, guard := _ }) (v := ?_) rfl (by kernel_rfl) (by kernel_rfl) (by kernel_rfl) (fun _ _ _ h => h) (Or.inl ⟨by rfl, ?_⟩) hHeld ?_
              rotate_left
              · (intro w hSw; (try dsimp only at hSw); go_simp); all_goals with_reducible rfl
              try simp only [Act.put, List.setIfInBounds_toArray, List.set_cons_zero, List.set_cons_succ]
              refine wpAnyH_take (i := 17) (oi := { dst := some 163, op := _, type := _, pos := _, after := _, guard := _ }) (v := ?_) rfl (by kernel_rfl) (by kernel_rfl) (by kernel_rfl) (fun _ _ _ h => h) (Or.inl ⟨by rfl, ?_⟩) hHeld ?_
              rotate_left
              · (intro w hSw; (try dsimp only at hSw); go_simp); all_goals with_reducible rfl
              try simp only [Act.put, List.setIfInBounds_toArray, List.set_cons_zero, List.set_cons_succ]
              refine wpAnyH_take (i := 18) (oi := { dst := some 164, op := _, type := _, pos := _, after := _, guard := _ }) (v := ?_) rfl (by kernel_rfl) (by kernel_rfl) (by kernel_rfl) (fun _ _ _ h => h) (Or.inl ⟨by rfl, ?_⟩) hHeld ?_
              rotate_left
              · (intro w hSw; (try dsimp only at hSw); go_simp); all_goals with_reducible rfl
              try simp only [Act.put, List.setIfInBounds_toArray, List.set_cons_zero, List.set_cons_succ]
              refine wpAnyH_ready (rs := [14]) (by kernel_rfl) (by simp) (AllReadyH.cons (o := _) rfl (fun K hK => ?_) AllReadyH.nil)
              go_simp
              refine (qStrikes_q HCL.out.p i).mono ?_
              rintro e w4 ⟨rfl, rfl⟩
              rw [HX.out.2.2]
              refine hK.out _ _ hHeld (fun hHeld => ?_)
              clear hK K
              refine wpAnyH_take (i := 19) (oi := { dst := some 165, op := _, type := _, pos := _, after := _, guard := _ }) (v := ?_) rfl (by kernel_rfl) (by kernel_rfl) (by kernel_rfl) (fun _ _ _ h => h) (Or.inl ⟨by rfl, ?_⟩) hHeld ?_
              rotate_left
              · (intro w hSw; (try dsimp only at hSw); go_simp); all_goals with_reducible rfl
              try simp only [Act.put, List.setIfInBounds_toArray, List.set_cons_zero, List.set_cons_succ]
              refine wpAnyH_take (i := 20) (oi := { dst := some 166, op := _, type := _, pos := _, after := _, guard := _ }) (v := ?_) rfl (by kernel_rfl) (by kernel_rfl) (by kernel_rfl) (fun _ _ _ h => h) (Or.inl ⟨by rfl, ?_⟩) hHeld ?_
              rotate_left
              · (intro w hSw; (try dsimp only at hSw); go_simp); all_goals with_reducible rfl
              try simp only [Act.put, List.setIfInBounds_toArray, List.set_cons_zero, List.set_cons_succ]
              refine wpAnyH_done (by kernel_rfl) ?_ _
              clear HCL HDE HPC HX HE HM HST hHeld hz
              go_wp2
              go_roundw
              case rel => exact ⟨i + 1, by omega, by go_num, hnb4⟩
              case measure => simp [intOf]; omega
            · obtain rfl : i = n := by omega
              go_wp2
              go_roundw
              case rel => exact ⟨k + 1, X9, ms9, st9, by omega, by go_num, HC9.out.below hnb, bl_then b09 hnb⟩
              case measure => simp [intOf]; omega
        · have hkd' : (kd == 3) = false := by simp [hkd]
          clear hkd
          cases hG : okG m.s t
          · have hgE : goodE m.s t = 3 := goodE_no hG
            have hgE' : goodE x.s t = 3 := by rw [HE.out.1]; exact hgE
            have HPR := Lib.hid (praise_of HX.out t)
            have HG := Lib.hid (And.intro hG hgE)
            clear hG hgE
            go_wp2_with fail
            refine (qPraise_q HC0.out.p j t).mono ?_
            rintro e w1 ⟨rfl, P1, k1⟩
            rw [HPR.out.1, hgE']
            have P1' : PQ w1 q g X := by
              rw [HPR.out.2, HE.out.1, HG.out.1] at P1
              simpa using P1
            have HP1 := Lib.hid P1'
            have M1 := HC0.out.m.keep k1 hgm
            have S1 := HC0.out.s.keep k1 hgs
            have D1 := k1.kb DD hgA
            have b01 := Lib.hid (step_bl b00.out hgw k1)
            have HM1 := Lib.hid M1
            have HS1 := Lib.hid S1
            have HD1 := Lib.hid D1
            have hgs0 := k1.size
            have hMl := M1.lt
            have hSl := S1.lt
            have hDl := kb_lt D1
            have hPg := P1'.ltg
            have hPq := P1'.ltq
            clear P1 P1' k1 M1 S1 D1 hgE' k0 k2
            go_wp2_with fail
            have bD := Lib.hid (bl_drew (Below.refl w1.heap.size w1))
            refine wp_region_held_drew (S := (fun W : World => W.cell? ⟨zA, 2, none⟩ = some (.int .i64 t) ∧ W.cell? ⟨bm, j * 2, none⟩ = some (.int .i64 m.s) ∧ W.cell? ⟨bm, j * 2 + 1, none⟩ = some (.float .f64 m.p))) (by kernel_rfl) ⟨kb_cell (kb_drew HD1.out) 2, (HM1.out.below bD.out).cell HM.out⟩ (fun hHeld => ?_)
            refine wpAnyH_take (i := 0) (oi := { dst := some 116, op := _, type := _, pos := _, after := _, guard := _ }) (v := ?_) rfl (by kernel_rfl) (by kernel_rfl) (by kernel_rfl) (fun _ _ _ h => h) (Or.inl ⟨by rfl, ?_⟩) hHeld ?_
            rotate_left
            · (intro w hSw; (try dsimp only at hSw); go_simp); all_goals with_reducible rfl
            try simp only [Act.put, List.setIfInBounds_toArray, List.set_cons_zero, List.set_cons_succ]
            refine wpAnyH_take (i := 1) (oi := { dst := some 117, op := _, type := _, pos := _, after := _, guard := _ }) (v := ?_) rfl (by kernel_rfl) (by kernel_rfl) (by kernel_rfl) (fun _ _ _ h => h) (Or.inl ⟨by rfl, ?_⟩) hHeld ?_
            rotate_left
            · (intro w hSw; (try dsimp only at hSw); go_simp); all_goals with_reducible rfl
            try simp only [Act.put, List.setIfInBounds_toArray, List.set_cons_zero, List.set_cons_succ]
            refine wpAnyH_take (i := 2) (oi := { dst := some 118, op := _, type := _, pos := _, after := _, guard := _ }) (v := ?_) rfl (by kernel_rfl) (by kernel_rfl) (by kernel_rfl) (fun _ _ _ h => h) (Or.inl ⟨by rfl, ?_⟩) hHeld ?_
            rotate_left
            · (intro w hSw; (try dsimp only at hSw); go_simp); all_goals with_reducible rfl
            try simp only [Act.put, List.setIfInBounds_toArray, List.set_cons_zero, List.set_cons_succ]
            refine wpAnyH_take (i := 3) (oi := { dst := some 119, op := _, type := _, pos := _, after := _, guard := _ }) (v := ?_) rfl (by kernel_rfl) (by kernel_rfl) (by kernel_rfl) (fun _ _ _ h => h) (Or.inl ⟨by rfl, ?_⟩) hHeld ?_
            rotate_left
            · (intro w hSw; (try dsimp only at hSw); go_simp); all_goals with_reducible rfl
            try simp only [Act.put, List.setIfInBounds_toArray, List.set_cons_zero, List.set_cons_succ]
            refine wpAnyH_take (i := 4) (oi := { dst := some 120, op := _, type := _, pos := _, after := _, guard := _ }) (v := ?_) rfl (by kernel_rfl) (by kernel_rfl) (by kernel_rfl) (fun _ _ _ h => h) (Or.inl ⟨by rfl, ?_⟩) hHeld ?_
            rotate_left
            · (intro w hSw; (try dsimp only at hSw); go_simp); all_goals with_reducible rfl
            try simp only [Act.put, List.setIfInBounds_toArray, List.set_cons_zero, List.set_cons_succ]
            refine wpAnyH_take (i := 5) (oi := { dst := some 121, op := _, type := _, pos := _, after := _, guard := _ }) (v := ?_) rfl (by kernel_rfl) (by kernel_rfl) (by kernel_rfl) (fun _ _ _ h => h) (Or.inl ⟨by rfl, ?_⟩) hHeld ?_
            rotate_left
            · (intro w hSw; (try dsimp only at hSw); go_simp); all_goals with_reducible rfl
            try simp only [Act.put, List.setIfInBounds_toArray, List.set_cons_zero, List.set_cons_succ]
            refine wpAnyH_ready (rs := [6, 10]) (by kernel_rfl) (by simp) (AllReadyH.cons (o := _) rfl (fun K hK => ?_) (AllReadyH.cons (o := _) rfl (fun K hK => ?_) AllReadyH.nil))
            · go_simp
              refine (Good_any m.s m.p t _).mono ?_
              rintro e w2 ⟨r, rfl, hr, hrl, b2⟩
              rw [HG.out.2]
              have HR := Lib.hid (And.intro hr hrl)
              have b12 := Lib.hid (bl_then bD.out b2)
              refine hK.out _ _ ⟨(b12.out.cell (by exact hDl)).trans (kb_cell HD1.out 2), (HM1.out.below b12.out).cell HM.out⟩ (fun hHeld => ?_)
              clear hK K hr hrl b2
              refine wpAnyH_take (i := 7) (oi := { dst := some 115, op := _, type := _, pos := _, after := _, guard := _ }) (v := ?_) rfl (by kernel_rfl) (by kernel_rfl) (by kernel_rfl) (fun _ _ _ h => h) (Or.inl ⟨by rfl, ?_⟩) hHeld ?_
              rotate_left
              · (intro w hSw; (try dsimp only at hSw); go_simp); all_goals with_reducible rfl
              try simp only [Act.put, List.setIfInBounds_toArray, List.set_cons_zero, List.set_cons_succ]
              refine wpAnyH_take (i := 8) (oi := { dst := some 123, op := _, type := _, pos := _, after := _, guard := _ }) (v := ?_) rfl (by kernel_rfl) (by kernel_rfl) (by kernel_rfl) (fun _ _ _ h => h) (Or.inl ⟨by rfl, ?_⟩) hHeld ?_
              rotate_left
              · (intro w hSw; (try dsimp only at hSw); go_simp); all_goals with_reducible rfl
              try simp only [Act.put, List.setIfInBounds_toArray, List.set_cons_zero, List.set_cons_succ]
              refine wpAnyH_take (i := 9) (oi := { dst := some 124, op := _, type := _, pos := _, after := _, guard := _ }) (v := ?_) rfl (by kernel_rfl) (by kernel_rfl) (by kernel_rfl) (fun _ _ _ h => h) (Or.inl ⟨by rfl, ?_⟩) hHeld ?_
              rotate_left
              · (intro w hSw; (try dsimp only at hSw); go_simp); all_goals with_reducible rfl
              try simp only [Act.put, List.setIfInBounds_toArray, List.set_cons_zero, List.set_cons_succ]
              refine wpAnyH_ready (rs := [10]) (by kernel_rfl) (by simp) (AllReadyH.cons (o := _) rfl (fun K hK => ?_) AllReadyH.nil)
              go_simp
              have b13 := Lib.hid (bl_alloc b12.out (.cells #[.int .i64 0, .float .f64 0] 33))
              have N3 : (w2.alloc (.cells #[.int .i64 0, .float .f64 0] 33)).heap[w2.heap.size]? = some _ := kb_new rfl _
              have hzl : w1.heap.size ≤ w2.heap.size := by have := b12.out.size; exact this
              refine hK.out _ _ ⟨(b13.out.cell (by exact hDl)).trans (kb_cell HD1.out 2), (HM1.out.below b13.out).cell HM.out⟩ (fun hHeld => ?_)
              clear hK K
              generalize w2.alloc (.cells #[.int .i64 0, .float .f64 0] 33) = w3 at *
              generalize w2.heap.size = zG at *
              have n0 := (kb_cell N3 0).trans rfl
              have n1 := (kb_cell N3 1).trans rfl
              have nz := kb_frozen N3
              refine wpAnyH_ready (rs := [11]) (by kernel_rfl) (by simp) (AllReadyH.cons (o := _) rfl (fun K hK => ?_) AllReadyH.nil)
              go_simp

              have hzb : zG ≠ bm := by omega
              have hzs : zG ≠ bs := by omega
              have hzg : zG ≠ g := by omega
              have hzq : zG ≠ q := by omega
              have hza : zG ≠ zA := by omega
              have kG := keep_set2 w3 zG 0 1 (.int .i64 (goodS m.s t)) (.float .f64 r)
              have N4 := kb_set (i := 1) (kb_set (i := 0) N3 (.int .i64 (goodS m.s t))) (.float .f64 r)
              have P4 := (HP1.out.below b13.out).keep kG (fun h => hzq h.symm) (fun h => hzg h.symm)
              have M4 := (HM1.out.below b13.out).keep kG (fun h => hzb h.symm)
              have S4 := (HS1.out.below b13.out).keep kG (fun h => hzs h.symm)
              have D4 := kG.kb (kb_below b13.out HD1.out) (fun h => hza h.symm)
              have b04 := (b01.out.trans (b13.out.mono (by have := b01.out.size; exact this))).trans (kG.below (B := w.heap.size) (by have := b01.out.size; have := b13.out.size; omega) (fun b e => by have := b01.out.size; omega))
              refine hK.out _ _ ⟨kb_cell D4 2, M4.cell HM.out⟩ (fun hHeld => ?_)
              clear hK K
              refine wpAnyH_take (i := 12) (oi := { dst := some 21, op := _, type := _, pos := _, after := _, guard := _ }) (v := ?_) rfl (by kernel_rfl) (by kernel_rfl) (by kernel_rfl) (fun _ _ _ h => h) (Or.inl ⟨by rfl, ?_⟩) hHeld ?_
              rotate_left
              · (intro w hSw; (try dsimp only at hSw); go_simp); all_goals with_reducible rfl
              try simp only [Act.put, List.setIfInBounds_toArray, List.set_cons_zero, List.set_cons_succ]
              refine wpAnyH_done (by kernel_rfl) ?_ _
              generalize ((w3.setCell ⟨zG, 0, none⟩ (.int .i64 (goodS m.s t))).setCell ⟨zG, 1, none⟩ (.float .f64 r)) = w4 at *
              clear hHeld kG n0 n1 nz N3 D4 HP1 HM1 HS1 HD1 b13 b12 bD b01

              have HC9 : Hid (Cn w4 q g bm bs n X ms st ((k + 1 : Nat) : Int)) := ⟨P4, M4, S4, HC0.out.c.mono (by omega), HC0.out.l⟩
              have b09 := b04
              clear P4 M4 S4 b04 HC0 N4 hzl hzb hzs hzg hzq hza HG HR HPR
              go_wp2_with fail
              generalize w4 = w9 at *
              generalize X = X9 at *
              generalize ms = ms9 at *
              generalize st = st9 at *
              clear b00 HX HE HM HST HOK DD hMl hSl hDl hPg hPq hgs0

              go_loopw [22, 23, 24, 134, 135, 136, 137, 138, 139, 140, 141, 142, 143, 144, 145, 146, 147, 148, 149, 150, 151, 152, 153, 154, 155, 156, 157, 158, 159, 160, 161, 162, 163, 164, 165, 166] (fun s22 _ _ _ _ _ _ _ _ _ _ _ _ _ _ _ _ _ _ _ _ _ _ _ _ _ _ _ _ _ _ _ _ _ _ _ wr => ∃ i : Nat, i ≤ n ∧ s22 = .int .i64 i ∧ Below w9.heap.size w9 wr) (fun s22 _ _ _ _ _ _ _ _ _ _ _ _ _ _ _ _ _ _ _ _ _ _ _ _ _ _ _ _ _ _ _ _ _ _ _ _ => n - (intOf s22).toNat)
              case atStart => exact ⟨0, by omega, rfl, Below.refl _ _⟩
              case round =>
                obtain ⟨i, hi, rfl, hnb⟩ := hrel
                by_cases hin : i < n
                · have hin' : (i : Int) < (n : Int) := by omega
                  have HCI := Lib.hid (HC9.out.below hnb)
                  obtain ⟨x, hx⟩ : ∃ x, X9[i]? = some x := ⟨_, List.getElem?_eq_getElem (by have := HCI.out.l; omega)⟩
                  obtain ⟨m, hm, e1, e2, hst, -, -, -⟩ := HCI.out.c.at_ i x hx
                  obtain ⟨f1, f2, f3, -⟩ := merA_of hx
                  have HX := Lib.hid (And.intro f1 (And.intro f2 f3))
                  have HE := Lib.hid (And.intro e1 e2)
                  have HM := Lib.hid hm
                  have HST := Lib.hid hst
                  obtain ⟨c0, c1⟩ := HCI.out.m.cell hm
                  have c2 := HCI.out.s.cell hst
                  clear hx hm e1 e2 hst f1 f2 f3
                  go_wp2_with fail
                  refine (qMerit_q HCI.out.p i).mono ?_
                  rintro e w1 ⟨v, rfl, ⟨p, rfl, hp⟩, b1⟩
                  rw [HX.out.1] at hp
                  rw [HX.out.1, HX.out.2.1, HE.out.1]
                  have HPC := Lib.hid (hp.trans HE.out.2)
                  have HCJ := Lib.hid (HCI.out.below (bl_alloc b1 (.cells #[.int .i64 m.s, .float .f64 p] 33)))
                  have DD : (w1.alloc (.cells #[.int .i64 m.s, .float .f64 p] 33)).heap[w1.heap.size]? = some _ := kb_new rfl _
                  have hnb2 := bl_alloc (bl_then hnb b1) (.cells #[.int .i64 m.s, .float .f64 p] 33)
                  clear hp b1 hnb HCI c0 c1 c2
                  go_wp2_with fail
                  generalize w1.alloc (.cells #[.int .i64 m.s, .float .f64 p] 33) = w2 at *
                  generalize w1.heap.size = zD at *
                  have HCK := Lib.hid (HCJ.out.below (bl_drew (Below.refl _ _)))
                  have HDD := Lib.hid (kb_drew DD)
                  have hnb3 := Lib.hid (bl_drew hnb2)
                  clear DD hnb2 HCJ
                  refine wp_region_held_drew (S := (fun W : World => (W.cell? ⟨zD, 0, none⟩ = some (.int .i64 m.s) ∧ W.cell? ⟨zD, 1, none⟩ = some (.float .f64 p)) ∧ (W.cell? ⟨bm, i * 2, none⟩ = some (.int .i64 m.s) ∧ W.cell? ⟨bm, i * 2 + 1, none⟩ = some (.float .f64 m.p)) ∧ W.cell? ⟨bs, i, none⟩ = some (.int .i64 x.strikes))) (by kernel_rfl) ⟨⟨kb_cell HDD.out 0, kb_cell HDD.out 1⟩, HCK.out.m.cell HM.out, HCK.out.s.cell HST.out⟩ (fun hHeld => ?_)
                  refine wpAnyH_take (i := 0) (oi := { dst := some 146, op := _, type := _, pos := _, after := _, guard := _ }) (v := ?_) rfl (by kernel_rfl) (by kernel_rfl) (by kernel_rfl) (fun _ _ _ h => h) (Or.inl ⟨by rfl, ?_⟩) hHeld ?_
                  rotate_left
                  · (intro w hSw; (try dsimp only at hSw); go_simp); all_goals with_reducible rfl
                  try simp only [Act.put, List.setIfInBounds_toArray, List.set_cons_zero, List.set_cons_succ]
                  refine wpAnyH_take (i := 1) (oi := { dst := some 147, op := _, type := _, pos := _, after := _, guard := _ }) (v := ?_) rfl (by kernel_rfl) (by kernel_rfl) (by kernel_rfl) (fun _ _ _ h => h) (Or.inl ⟨by rfl, ?_⟩) hHeld ?_
                  rotate_left
                  · (intro w hSw; (try dsimp only at hSw); go_simp); all_goals with_reducible rfl
                  try simp only [Act.put, List.setIfInBounds_toArray, List.set_cons_zero, List.set_cons_succ]
                  refine wpAnyH_take (i := 2) (oi := { dst := some 148, op := _, type := _, pos := _, after := _, guard := _ }) (v := ?_) rfl (by kernel_rfl) (by kernel_rfl) (by kernel_rfl) (fun _ _ _ h => h) (Or.inl ⟨by rfl, ?_⟩) hHeld ?_
                  rotate_left
                  · (intro w hSw; (try dsimp only at hSw); go_simp); all_goals with_reducible rfl
                  try simp only [Act.put, List.setIfInBounds_toArray, List.set_cons_zero, List.set_cons_succ]
                  refine wpAnyH_take (i := 3) (oi := { dst := some 149, op := _, type := _, pos := _, after := _, guard := _ }) (v := ?_) rfl (by kernel_rfl) (by kernel_rfl) (by kernel_rfl) (fun _ _ _ h => h) (Or.inl ⟨by rfl, ?_⟩) hHeld ?_
                  rotate_left
                  · (intro w hSw; (try dsimp only at hSw); go_simp); all_goals with_reducible rfl
                  try simp only [Act.put, List.setIfInBounds_toArray, List.set_cons_zero, List.set_cons_succ]
                  refine wpAnyH_take (i := 4) (oi := { dst := some 150, op := _, type := _, pos := _, after := _, guard := _ }) (v := ?_) rfl (by kernel_rfl) (by kernel_rfl) (by kernel_rfl) (fun _ _ _ h => h) (Or.inl ⟨by rfl, ?_⟩) hHeld ?_
                  rotate_left
                  · (intro w hSw; (try dsimp only at hSw); go_simp); all_goals with_reducible rfl
                  try simp only [Act.put, List.setIfInBounds_toArray, List.set_cons_zero, List.set_cons_succ]
                  refine wpAnyH_take (i := 5) (oi := { dst := some 151, op := _, type := _, pos := _, after := _, guard := _ }) (v := ?_) rfl (by kernel_rfl) (by kernel_rfl) (by kernel_rfl) (fun _ _ _ h => h) (Or.inl ⟨by rfl, ?_⟩) hHeld ?_
                  rotate_left
                  · (intro w hSw; (try dsimp only at hSw); go_simp); all_goals with_reducible rfl
                  try simp only [Act.put, List.setIfInBounds_toArray, List.set_cons_zero, List.set_cons_succ]
                  refine wpAnyH_take (i := 6) (oi := { dst := some 152, op := _, type := _, pos := _, after := _, guard := _ }) (v := ?_) rfl (by kernel_rfl) (by kernel_rfl) (by kernel_rfl) (fun _ _ _ h => h) (Or.inl ⟨by rfl, ?_⟩) hHeld ?_
                  rotate_left
                  · (intro w hSw; (try dsimp only at hSw); go_simp); all_goals with_reducible rfl
                  try simp only [Act.put, List.setIfInBounds_toArray, List.set_cons_zero, List.set_cons_succ]
                  refine wpAnyH_take (i := 7) (oi := { dst := some 153, op := _, type := _, pos := _, after := _, guard := _ }) (v := ?_) rfl (by kernel_rfl) (by kernel_rfl) (by kernel_rfl) (fun _ _ _ h => h) (Or.inl ⟨by rfl, ?_⟩) hHeld ?_
                  rotate_left
                  · (intro w hSw; (try dsimp only at hSw); go_simp); all_goals with_reducible rfl
                  try simp only [Act.put, List.setIfInBounds_toArray, List.set_cons_zero, List.set_cons_succ]
                  refine wpAnyH_ready (rs := [8]) (by kernel_rfl) (by simp) (AllReadyH.cons (o := _) rfl (fun K hK => ?_) AllReadyH.nil)
                  go_simp
                  refine (SameMerit_t m.s p m.p _ HPC.out).mono ?_
                  rintro e w3 ⟨rfl, b3⟩
                  have HCL := Lib.hid (HCK.out.below b3)
                  have HDE := Lib.hid (kb_below b3 HDD.out)
                  have hnb4 := bl_then hnb3.out b3
                  refine hK.out _ _ ⟨⟨kb_cell HDE.out 0, kb_cell HDE.out 1⟩, HCL.out.m.cell HM.out, HCL.out.s.cell HST.out⟩ (fun hHeld => ?_)
                  clear hK K b3 HCK HDD hnb3
                  have hz : (x.strikes != x.strikes) = false := by simp
                  refine wpAnyH_take (i := 9) (oi := { dst := some 155, op := _, type := _, pos := _, after := _, guard := _ }) (v := ?_) rfl (by kernel_rfl) (by kernel_rfl) (by kernel_rfl) (fun _ _ _ h => h) (Or.inl ⟨by rfl, ?_⟩) hHeld ?_
                  rotate_left
                  · (intro w hSw; (try dsimp only at hSw); go_simp); all_goals with_reducible rfl
                  try simp only [Act.put, List.setIfInBounds_toArray, List.set_cons_zero, List.set_cons_succ]
                  refine wpAnyH_take (i := 10) (oi := { dst := some 156, op := _, type := _, pos := _, after := _, guard := _ }) (v := ?_) rfl (by kernel_rfl) (by kernel_rfl) (by kernel_rfl) (fun _ _ _ h => h) (Or.inl ⟨by rfl, ?_⟩) hHeld ?_
                  rotate_left
                  · (intro w hSw; (try dsimp only at hSw); go_simp); all_goals with_reducible rfl
                  try simp only [Act.put, List.setIfInBounds_toArray, List.set_cons_zero, List.set_cons_succ]
                  refine wpAnyH_take (i := 11) (oi := { dst := some 157, op := _, type := _, pos := _, after := _, guard := _ }) (v := ?_) rfl (by kernel_rfl) (by kernel_rfl) (by kernel_rfl) (fun _ _ _ h => h) (Or.inl ⟨by rfl, ?_⟩) hHeld ?_
                  rotate_left
                  · (intro w hSw; (try dsimp only at hSw); go_simp); all_goals with_reducible rfl
                  try simp only [Act.put, List.setIfInBounds_toArray, List.set_cons_zero, List.set_cons_succ]
                  refine wpAnyH_take (i := 12) (oi := { dst := some 158, op := _, type := _, pos := _, after := _, guard := _ }) (v := ?_) rfl (by kernel_rfl) (by kernel_rfl) (by kernel_rfl) (fun _ _ _ h => h) (Or.inl ⟨by rfl, ?_⟩) hHeld ?_
                  rotate_left
                  · (intro w hSw; (try dsimp only at hSw); go_simp); all_goals with_reducible rfl
                  try simp only [Act.put, List.setIfInBounds_toArray, List.set_cons_zero, List.set_cons_succ]
                  refine wpAnyH_take (i := 13) (oi := { dst := some 159, op := _, type := _, pos := _, after := _, guard := _ }) (v := ?_) rfl (by kernel_rfl) (by kernel_rfl) (by kernel_rfl) (fun _ _ _ h => h) (Or.inl ⟨by rfl, ?_⟩) hHeld ?_
                  rotate_left
                  · (intro w hSw; (try dsimp only at hSw); go_simp); all_goals with_reducible rfl
                  try simp only [Act.put, List.setIfInBounds_toArray, List.set_cons_zero, List.set_cons_succ]
                  refine wpAnyH_take (i := 15) (oi := { dst := some 161, op := _, type := _, pos := _, after := _, guard := _ }) (v := ?_) rfl (by kernel_rfl) (by kernel_rfl) (by kernel_rfl) (fun _ _ _ h => h) (Or.inl ⟨by rfl, ?_⟩) hHeld ?_
                  rotate_left
                  · (intro w hSw; (try dsimp only at hSw); go_simp); all_goals with_reducible rfl
                  try simp only [Act.put, List.setIfInBounds_toArray, List.set_cons_zero, List.set_cons_succ]
                  refine wpAnyH_take (i := 16) (oi := { dst := some 162, op := _, type := _, pos := _, after := _, guard := _ }) (v := ?_) rfl (by kernel_rfl) (by kernel_rfl) (by kernel_rfl) (fun _ _ _ h => h) (Or.inl ⟨by rfl, ?_⟩) hHeld ?_
                  rotate_left
                  · (intro w hSw; (try dsimp only at hSw); go_simp); all_goals with_reducible rfl
                  try simp only [Act.put, List.setIfInBounds_toArray, List.set_cons_zero, List.set_cons_succ]
                  refine wpAnyH_take (i := 17) (oi := { dst := some 163, op := _, type := _, pos := _, after := _, guard := _ }) (v := ?_) rfl (by kernel_rfl) (by kernel_rfl) (by kernel_rfl) (fun _ _ _ h => h) (Or.inl ⟨by rfl, ?_⟩) hHeld ?_
                  rotate_left
                  · (intro w hSw; (try dsimp only at hSw); go_simp); all_goals with_reducible rfl
                  try simp only [Act.put, List.setIfInBounds_toArray, List.set_cons_zero, List.set_cons_succ]
                  refine wpAnyH_take (i := 18) (oi := { dst := some 164, op := _, type := _, pos := _, after := _, guard := _ }) (v := ?_) rfl (by kernel_rfl) (by kernel_rfl) (by kernel_rfl) (fun _ _ _ h => h) (Or.inl ⟨by rfl, ?_⟩) hHeld ?_
                  rotate_left
                  · (intro w hSw; (try dsimp only at hSw); go_simp); all_goals with_reducible rfl
                  try simp only [Act.put, List.setIfInBounds_toArray, List.set_cons_zero, List.set_cons_succ]
                  refine wpAnyH_ready (rs := [14]) (by kernel_rfl) (by simp) (AllReadyH.cons (o := _) rfl (fun K hK => ?_) AllReadyH.nil)
                  go_simp
                  refine (qStrikes_q HCL.out.p i).mono ?_
                  rintro e w4 ⟨rfl, rfl⟩
                  rw [HX.out.2.2]
                  refine hK.out _ _ hHeld (fun hHeld => ?_)
                  clear hK K
                  refine wpAnyH_take (i := 19) (oi := { dst := some 165, op := _, type := _, pos := _, after := _, guard := _ }) (v := ?_) rfl (by kernel_rfl) (by kernel_rfl) (by kernel_rfl) (fun _ _ _ h => h) (Or.inl ⟨by rfl, ?_⟩) hHeld ?_
                  rotate_left
                  · (intro w hSw; (try dsimp only at hSw); go_simp); all_goals with_reducible rfl
                  try simp only [Act.put, List.setIfInBounds_toArray, List.set_cons_zero, List.set_cons_succ]
                  refine wpAnyH_take (i := 20) (oi := { dst := some 166, op := _, type := _, pos := _, after := _, guard := _ }) (v := ?_) rfl (by kernel_rfl) (by kernel_rfl) (by kernel_rfl) (fun _ _ _ h => h) (Or.inl ⟨by rfl, ?_⟩) hHeld ?_
                  rotate_left
                  · (intro w hSw; (try dsimp only at hSw); go_simp); all_goals with_reducible rfl
                  try simp only [Act.put, List.setIfInBounds_toArray, List.set_cons_zero, List.set_cons_succ]
                  refine wpAnyH_done (by kernel_rfl) ?_ _
                  clear HCL HDE HPC HX HE HM HST hHeld hz
                  go_wp2
                  go_roundw
                  case rel => exact ⟨i + 1, by omega, by go_num, hnb4⟩
                  case measure => simp [intOf]; omega
                · obtain rfl : i = n := by omega
                  go_wp2
                  go_roundw
                  case rel => exact ⟨k + 1, X9, ms9, st9, by omega, by go_num, HC9.out.below hnb, bl_then b09 hnb⟩
                  case measure => simp [intOf]; omega
            · go_simp
              have b12 := Lib.hid (bl_alloc bD.out (.cells #[.int .i64 0, .float .f64 0] 33))
              have N2 : (w1.drew.alloc (.cells #[.int .i64 0, .float .f64 0] 33)).heap[w1.heap.size]? = some _ := kb_new rfl _
              refine hK.out _ _ ⟨(b12.out.cell (by exact hDl)).trans (kb_cell HD1.out 2), (HM1.out.below b12.out).cell HM.out⟩ (fun hHeld => ?_)
              clear hK K
              refine wpAnyH_ready (rs := [6]) (by kernel_rfl) (by simp) (AllReadyH.cons (o := _) rfl (fun K hK => ?_) AllReadyH.nil)
              go_simp
              refine (Good_any m.s m.p t _).mono ?_
              rintro e w3 ⟨r, rfl, hr, hrl, b2⟩
              rw [HG.out.2]
              have HR := Lib.hid (And.intro hr hrl)
              have b13 := Lib.hid (bl_then b12.out b2)
              have N3 := kb_below b2 N2
              refine hK.out _ _ ⟨(b13.out.cell (by exact hDl)).trans (kb_cell HD1.out 2), (HM1.out.below b13.out).cell HM.out⟩ (fun hHeld => ?_)
              clear hK K hr hrl b2 N2
              refine wpAnyH_take (i := 7) (oi := { dst := some 115, op := _, type := _, pos := _, after := _, guard := _ }) (v := ?_) rfl (by kernel_rfl) (by kernel_rfl) (by kernel_rfl) (fun _ _ _ h => h) (Or.inl ⟨by rfl, ?_⟩) hHeld ?_
              rotate_left
              · (intro w hSw; (try dsimp only at hSw); go_simp); all_goals with_reducible rfl
              try simp only [Act.put, List.setIfInBounds_toArray, List.set_cons_zero, List.set_cons_succ]
              refine wpAnyH_take (i := 8) (oi := { dst := some 123, op := _, type := _, pos := _, after := _, guard := _ }) (v := ?_) rfl (by kernel_rfl) (by kernel_rfl) (by kernel_rfl) (fun _ _ _ h => h) (Or.inl ⟨by rfl, ?_⟩) hHeld ?_
              rotate_left
              · (intro w hSw; (try dsimp only at hSw); go_simp); all_goals with_reducible rfl
              try simp only [Act.put, List.setIfInBounds_toArray, List.set_cons_zero, List.set_cons_succ]
              refine wpAnyH_take (i := 9) (oi := { dst := some 124, op := _, type := _, pos := _, after := _, guard := _ }) (v := ?_) rfl (by kernel_rfl) (by kernel_rfl) (by kernel_rfl) (fun _ _ _ h => h) (Or.inl ⟨by rfl, ?_⟩) hHeld ?_
              rotate_left
              · (intro w hSw; (try dsimp only at hSw); go_simp); all_goals with_reducible rfl
              try simp only [Act.put, List.setIfInBounds_toArray, List.set_cons_zero, List.set_cons_succ]
              obtain ⟨zG, hzG⟩ : ∃ z, w1.heap.size = z := ⟨_, rfl⟩
              have hzl : w1.heap.size ≤ zG := by omega
              rw [hzG] at N3 ⊢
              have n0 := (kb_cell N3 0).trans rfl
              have n1 := (kb_cell N3 1).trans rfl
              have nz := kb_frozen N3
              refine wpAnyH_ready (rs := [11]) (by kernel_rfl) (by simp) (AllReadyH.cons (o := _) rfl (fun K hK => ?_) AllReadyH.nil)
              go_simp

              have hzb : zG ≠ bm := by omega
              have hzs : zG ≠ bs := by omega
              have hzg : zG ≠ g := by omega
              have hzq : zG ≠ q := by omega
              have hza : zG ≠ zA := by omega
              have kG := keep_set2 w3 zG 0 1 (.int .i64 (goodS m.s t)) (.float .f64 r)
              have N4 := kb_set (i := 1) (kb_set (i := 0) N3 (.int .i64 (goodS m.s t))) (.float .f64 r)
              have P4 := (HP1.out.below b13.out).keep kG (fun h => hzq h.symm) (fun h => hzg h.symm)
              have M4 := (HM1.out.below b13.out).keep kG (fun h => hzb h.symm)
              have S4 := (HS1.out.below b13.out).keep kG (fun h => hzs h.symm)
              have D4 := kG.kb (kb_below b13.out HD1.out) (fun h => hza h.symm)
              have b04 := (b01.out.trans (b13.out.mono (by have := b01.out.size; exact this))).trans (kG.below (B := w.heap.size) (by have := b01.out.size; have := b13.out.size; omega) (fun b e => by have := b01.out.size; omega))
              refine hK.out _ _ ⟨kb_cell D4 2, M4.cell HM.out⟩ (fun hHeld => ?_)
              clear hK K
              refine wpAnyH_take (i := 12) (oi := { dst := some 21, op := _, type := _, pos := _, after := _, guard := _ }) (v := ?_) rfl (by kernel_rfl) (by kernel_rfl) (by kernel_rfl) (fun _ _ _ h => h) (Or.inl ⟨by rfl, ?_⟩) hHeld ?_
              rotate_left
              · (intro w hSw; (try dsimp only at hSw); go_simp); all_goals with_reducible rfl
              try simp only [Act.put, List.setIfInBounds_toArray, List.set_cons_zero, List.set_cons_succ]
              refine wpAnyH_done (by kernel_rfl) ?_ _
              generalize ((w3.setCell ⟨zG, 0, none⟩ (.int .i64 (goodS m.s t))).setCell ⟨zG, 1, none⟩ (.float .f64 r)) = w4 at *
              clear hHeld kG n0 n1 nz N3 D4 HP1 HM1 HS1 HD1 b13 b12 bD b01

              have HC9 : Hid (Cn w4 q g bm bs n X ms st ((k + 1 : Nat) : Int)) := ⟨P4, M4, S4, HC0.out.c.mono (by omega), HC0.out.l⟩
              have b09 := b04
              clear P4 M4 S4 b04 HC0 N4 hzl hzb hzs hzg hzq hza HG HR HPR
              go_wp2_with fail
              generalize w4 = w9 at *
              generalize X = X9 at *
              generalize ms = ms9 at *
              generalize st = st9 at *
              clear b00 HX HE HM HST HOK DD hMl hSl hDl hPg hPq hgs0

              go_loopw [22, 23, 24, 134, 135, 136, 137, 138, 139, 140, 141, 142, 143, 144, 145, 146, 147, 148, 149, 150, 151, 152, 153, 154, 155, 156, 157, 158, 159, 160, 161, 162, 163, 164, 165, 166] (fun s22 _ _ _ _ _ _ _ _ _ _ _ _ _ _ _ _ _ _ _ _ _ _ _ _ _ _ _ _ _ _ _ _ _ _ _ wr => ∃ i : Nat, i ≤ n ∧ s22 = .int .i64 i ∧ Below w9.heap.size w9 wr) (fun s22 _ _ _ _ _ _ _ _ _ _ _ _ _ _ _ _ _ _ _ _ _ _ _ _ _ _ _ _ _ _ _ _ _ _ _ _ => n - (intOf s22).toNat)
              case atStart => exact ⟨0, by omega, rfl, Below.refl _ _⟩
              case round =>
                obtain ⟨i, hi, rfl, hnb⟩ := hrel
                by_cases hin : i < n
                · have hin' : (i : Int) < (n : Int) := by omega
                  have HCI := Lib.hid (HC9.out.below hnb)
                  obtain ⟨x, hx⟩ : ∃ x, X9[i]? = some x := ⟨_, List.getElem?_eq_getElem (by have := HCI.out.l; omega)⟩
                  obtain ⟨m, hm, e1, e2, hst, -, -, -⟩ := HCI.out.c.at_ i x hx
                  obtain ⟨f1, f2, f3, -⟩ := merA_of hx
                  have HX := Lib.hid (And.intro f1 (And.intro f2 f3))
                  have HE := Lib.hid (And.intro e1 e2)
                  have HM := Lib.hid hm
                  have HST := Lib.hid hst
                  obtain ⟨c0, c1⟩ := HCI.out.m.cell hm
                  have c2 := HCI.out.s.cell hst
                  clear hx hm e1 e2 hst f1 f2 f3
                  go_wp2_with fail
                  refine (qMerit_q HCI.out.p i).mono ?_
                  rintro e w1 ⟨v, rfl, ⟨p, rfl, hp⟩, b1⟩
                  rw [HX.out.1] at hp
                  rw [HX.out.1, HX.out.2.1, HE.out.1]
                  have HPC := Lib.hid (hp.trans HE.out.2)
                  have HCJ := Lib.hid (HCI.out.below (bl_alloc b1 (.cells #[.int .i64 m.s, .float .f64 p] 33)))
                  have DD : (w1.alloc (.cells #[.int .i64 m.s, .float .f64 p] 33)).heap[w1.heap.size]? = some _ := kb_new rfl _
                  have hnb2 := bl_alloc (bl_then hnb b1) (.cells #[.int .i64 m.s, .float .f64 p] 33)
                  clear hp b1 hnb HCI c0 c1 c2
                  go_wp2_with fail
                  generalize w1.alloc (.cells #[.int .i64 m.s, .float .f64 p] 33) = w2 at *
                  generalize w1.heap.size = zD at *
                  have HCK := Lib.hid (HCJ.out.below (bl_drew (Below.refl _ _)))
                  have HDD := Lib.hid (kb_drew DD)
                  have hnb3 := Lib.hid (bl_drew hnb2)
                  clear DD hnb2 HCJ
                  refine wp_region_held_drew (S := (fun W : World => (W.cell? ⟨zD, 0, none⟩ = some (.int .i64 m.s) ∧ W.cell? ⟨zD, 1, none⟩ = some (.float .f64 p)) ∧ (W.cell? ⟨bm, i * 2, none⟩ = some (.int .i64 m.s) ∧ W.cell? ⟨bm, i * 2 + 1, none⟩ = some (.float .f64 m.p)) ∧ W.cell? ⟨bs, i, none⟩ = some (.int .i64 x.strikes))) (by kernel_rfl) ⟨⟨kb_cell HDD.out 0, kb_cell HDD.out 1⟩, HCK.out.m.cell HM.out, HCK.out.s.cell HST.out⟩ (fun hHeld => ?_)
                  refine wpAnyH_take (i := 0) (oi := { dst := some 146, op := _, type := _, pos := _, after := _, guard := _ }) (v := ?_) rfl (by kernel_rfl) (by kernel_rfl) (by kernel_rfl) (fun _ _ _ h => h) (Or.inl ⟨by rfl, ?_⟩) hHeld ?_
                  rotate_left
                  · (intro w hSw; (try dsimp only at hSw); go_simp); all_goals with_reducible rfl
                  try simp only [Act.put, List.setIfInBounds_toArray, List.set_cons_zero, List.set_cons_succ]
                  refine wpAnyH_take (i := 1) (oi := { dst := some 147, op := _, type := _, pos := _, after := _, guard := _ }) (v := ?_) rfl (by kernel_rfl) (by kernel_rfl) (by kernel_rfl) (fun _ _ _ h => h) (Or.inl ⟨by rfl, ?_⟩) hHeld ?_
                  rotate_left
                  · (intro w hSw; (try dsimp only at hSw); go_simp); all_goals with_reducible rfl
                  try simp only [Act.put, List.setIfInBounds_toArray, List.set_cons_zero, List.set_cons_succ]
                  refine wpAnyH_take (i := 2) (oi := { dst := some 148, op := _, type := _, pos := _, after := _, guard := _ }) (v := ?_) rfl (by kernel_rfl) (by kernel_rfl) (by kernel_rfl) (fun _ _ _ h => h) (Or.inl ⟨by rfl, ?_⟩) hHeld ?_
                  rotate_left
                  · (intro w hSw; (try dsimp only at hSw); go_simp); all_goals with_reducible rfl
                  try simp only [Act.put, List.setIfInBounds_toArray, List.set_cons_zero, List.set_cons_succ]
                  refine wpAnyH_take (i := 3) (oi := { dst := some 149, op := _, type := _, pos := _, after := _, guard := _ }) (v := ?_) rfl (by kernel_rfl) (by kernel_rfl) (by kernel_rfl) (fun _ _ _ h => h) (Or.inl ⟨by rfl, ?_⟩) hHeld ?_
                  rotate_left
                  · (intro w hSw; (try dsimp only at hSw); go_simp); all_goals with_reducible rfl
                  try simp only [Act.put, List.setIfInBounds_toArray, List.set_cons_zero, List.set_cons_succ]
                  refine wpAnyH_take (i := 4) (oi := { dst := some 150, op := _, type := _, pos := _, after := _, guard := _ }) (v := ?_) rfl (by kernel_rfl) (by kernel_rfl) (by kernel_rfl) (fun _ _ _ h => h) (Or.inl ⟨by rfl, ?_⟩) hHeld ?_
                  rotate_left
                  · (intro w hSw; (try dsimp only at hSw); go_simp); all_goals with_reducible rfl
                  try simp only [Act.put, List.setIfInBounds_toArray, List.set_cons_zero, List.set_cons_succ]
                  refine wpAnyH_take (i := 5) (oi := { dst := some 151, op := _, type := _, pos := _, after := _, guard := _ }) (v := ?_) rfl (by kernel_rfl) (by kernel_rfl) (by kernel_rfl) (fun _ _ _ h => h) (Or.inl ⟨by rfl, ?_⟩) hHeld ?_
                  rotate_left
                  · (intro w hSw; (try dsimp only at hSw); go_simp); all_goals with_reducible rfl
                  try simp only [Act.put, List.setIfInBounds_toArray, List.set_cons_zero, List.set_cons_succ]
                  refine wpAnyH_take (i := 6) (oi := { dst := some 152, op := _, type := _, pos := _, after := _, guard := _ }) (v := ?_) rfl (by kernel_rfl) (by kernel_rfl) (by kernel_rfl) (fun _ _ _ h => h) (Or.inl ⟨by rfl, ?_⟩) hHeld ?_
                  rotate_left
                  · (intro w hSw; (try dsimp only at hSw); go_simp); all_goals with_reducible rfl
                  try simp only [Act.put, List.setIfInBounds_toArray, List.set_cons_zero, List.set_cons_succ]
                  refine wpAnyH_take (i := 7) (oi := { dst := some 153, op := _, type := _, pos := _, after := _, guard := _ }) (v := ?_) rfl (by kernel_rfl) (by kernel_rfl) (by kernel_rfl) (fun _ _ _ h => h) (Or.inl ⟨by rfl, ?_⟩) hHeld ?_
                  rotate_left
                  · (intro w hSw; (try dsimp only at hSw); go_simp); all_goals with_reducible rfl
                  try simp only [Act.put, List.setIfInBounds_toArray, List.set_cons_zero, List.set_cons_succ]
                  refine wpAnyH_ready (rs := [8]) (by kernel_rfl) (by simp) (AllReadyH.cons (o := _) rfl (fun K hK => ?_) AllReadyH.nil)
                  go_simp
                  refine (SameMerit_t m.s p m.p _ HPC.out).mono ?_
                  rintro e w3 ⟨rfl, b3⟩
                  have HCL := Lib.hid (HCK.out.below b3)
                  have HDE := Lib.hid (kb_below b3 HDD.out)
                  have hnb4 := bl_then hnb3.out b3
                  refine hK.out _ _ ⟨⟨kb_cell HDE.out 0, kb_cell HDE.out 1⟩, HCL.out.m.cell HM.out, HCL.out.s.cell HST.out⟩ (fun hHeld => ?_)
                  clear hK K b3 HCK HDD hnb3
                  have hz : (x.strikes != x.strikes) = false := by simp
                  refine wpAnyH_take (i := 9) (oi := { dst := some 155, op := _, type := _, pos := _, after := _, guard := _ }) (v := ?_) rfl (by kernel_rfl) (by kernel_rfl) (by kernel_rfl) (fun _ _ _ h => h) (Or.inl ⟨by rfl, ?_⟩) hHeld ?_
                  rotate_left
                  · (intro w hSw; (try dsimp only at hSw); go_simp); all_goals with_reducible rfl
                  try simp only [Act.put, List.setIfInBounds_toArray, List.set_cons_zero, List.set_cons_succ]
                  refine wpAnyH_take (i := 10) (oi := { dst := some 156, op := _, type := _, pos := _, after := _, guard := _ }) (v := ?_) rfl (by kernel_rfl) (by kernel_rfl) (by kernel_rfl) (fun _ _ _ h => h) (Or.inl ⟨by rfl, ?_⟩) hHeld ?_
                  rotate_left
                  · (intro w hSw; (try dsimp only at hSw); go_simp); all_goals with_reducible rfl
                  try simp only [Act.put, List.setIfInBounds_toArray, List.set_cons_zero, List.set_cons_succ]
                  refine wpAnyH_take (i := 11) (oi := { dst := some 157, op := _, type := _, pos := _, after := _, guard := _ }) (v := ?_) rfl (by kernel_rfl) (by kernel_rfl) (by kernel_rfl) (fun _ _ _ h => h) (Or.inl ⟨by rfl, ?_⟩) hHeld ?_
                  rotate_left
                  · (intro w hSw; (try dsimp only at hSw); go_simp); all_goals with_reducible rfl
                  try simp only [Act.put, List.setIfInBounds_toArray, List.set_cons_zero, List.set_cons_succ]
                  refine wpAnyH_take (i := 12) (oi := { dst := some 158, op := _, type := _, pos := _, after := _, guard := _ }) (v := ?_) rfl (by kernel_rfl) (by kernel_rfl) (by kernel_rfl) (fun _ _ _ h => h) (Or.inl ⟨by rfl, ?_⟩) hHeld ?_
                  rotate_left
                  · (intro w hSw; (try dsimp only at hSw); go_simp); all_goals with_reducible rfl
                  try simp only [Act.put, List.setIfInBounds_toArray, List.set_cons_zero, List.set_cons_succ]
                  refine wpAnyH_take (i := 13) (oi := { dst := some 159, op := _, type := _, pos := _, after := _, guard := _ }) (v := ?_) rfl (by kernel_rfl) (by kernel_rfl) (by kernel_rfl) (fun _ _ _ h => h) (Or.inl ⟨by rfl, ?_⟩) hHeld ?_
                  rotate_left
                  · (intro w hSw; (try dsimp only at hSw); go_simp); all_goals with_reducible rfl
                  try simp only [Act.put, List.setIfInBounds_toArray, List.set_cons_zero, List.set_cons_succ]
                  refine wpAnyH_take (i := 15) (oi := { dst := some 161, op := _, type := _, pos := _, after := _, guard := _ }) (v := ?_) rfl (by kernel_rfl) (by kernel_rfl) (by kernel_rfl) (fun _ _ _ h => h) (Or.inl ⟨by rfl, ?_⟩) hHeld ?_
                  rotate_left
                  · (intro w hSw; (try dsimp only at hSw); go_simp); all_goals with_reducible rfl
                  try simp only [Act.put, List.setIfInBounds_toArray, List.set_cons_zero, List.set_cons_succ]
                  refine wpAnyH_take (i := 16) (oi := { dst := some 162, op := _, type := _, pos := _, after := _, guard := _ }) (v := ?_) rfl (by kernel_rfl) (by kernel_rfl) (by kernel_rfl) (fun _ _ _ h => h) (Or.inl ⟨by rfl, ?_⟩) hHeld ?_
                  rotate_left
                  · (intro w hSw; (try dsimp only at hSw); go_simp); all_goals with_reducible rfl
                  try simp only [Act.put, List.setIfInBounds_toArray, List.set_cons_zero, List.set_cons_succ]
                  refine wpAnyH_take (i := 17) (oi := { dst := some 163, op := _, type := _, pos := _, after := _, guard := _ }) (v := ?_) rfl (by kernel_rfl) (by kernel_rfl) (by kernel_rfl) (fun _ _ _ h => h) (Or.inl ⟨by rfl, ?_⟩) hHeld ?_
                  rotate_left
                  · (intro w hSw; (try dsimp only at hSw); go_simp); all_goals with_reducible rfl
                  try simp only [Act.put, List.setIfInBounds_toArray, List.set_cons_zero, List.set_cons_succ]
                  refine wpAnyH_take (i := 18) (oi := { dst := some 164, op := _, type := _, pos := _, after := _, guard := _ }) (v := ?_) rfl (by kernel_rfl) (by kernel_rfl) (by kernel_rfl) (fun _ _ _ h => h) (Or.inl ⟨by rfl, ?_⟩) hHeld ?_
                  rotate_left
                  · (intro w hSw; (try dsimp only at hSw); go_simp); all_goals with_reducible rfl
                  try simp only [Act.put, List.setIfInBounds_toArray, List.set_cons_zero, List.set_cons_succ]
                  refine wpAnyH_ready (rs := [14]) (by kernel_rfl) (by simp) (AllReadyH.cons (o := _) rfl (fun K hK => ?_) AllReadyH.nil)
                  go_simp
                  refine (qStrikes_q HCL.out.p i).mono ?_
                  rintro e w4 ⟨rfl, rfl⟩
                  rw [HX.out.2.2]
                  refine hK.out _ _ hHeld (fun hHeld => ?_)
                  clear hK K
                  refine wpAnyH_take (i := 19) (oi := { dst := some 165, op := _, type := _, pos := _, after := _, guard := _ }) (v := ?_) rfl (by kernel_rfl) (by kernel_rfl) (by kernel_rfl) (fun _ _ _ h => h) (Or.inl ⟨by rfl, ?_⟩) hHeld ?_
                  rotate_left
                  · (intro w hSw; (try dsimp only at hSw); go_simp); all_goals with_reducible rfl
                  try simp only [Act.put, List.setIfInBounds_toArray, List.set_cons_zero, List.set_cons_succ]
                  refine wpAnyH_take (i := 20) (oi := { dst := some 166, op := _, type := _, pos := _, after := _, guard := _ }) (v := ?_) rfl (by kernel_rfl) (by kernel_rfl) (by kernel_rfl) (fun _ _ _ h => h) (Or.inl ⟨by rfl, ?_⟩) hHeld ?_
                  rotate_left
                  · (intro w hSw; (try dsimp only at hSw); go_simp); all_goals with_reducible rfl
                  try simp only [Act.put, List.setIfInBounds_toArray, List.set_cons_zero, List.set_cons_succ]
                  refine wpAnyH_done (by kernel_rfl) ?_ _
                  clear HCL HDE HPC HX HE HM HST hHeld hz
                  go_wp2
                  go_roundw
                  case rel => exact ⟨i + 1, by omega, by go_num, hnb4⟩
                  case measure => simp [intOf]; omega
                · obtain rfl : i = n := by omega
                  go_wp2
                  go_roundw
                  case rel => exact ⟨k + 1, X9, ms9, st9, by omega, by go_num, HC9.out.below hnb, bl_then b09 hnb⟩
                  case measure => simp [intOf]; omega
          · have hgE : goodE m.s t = 0 := goodE_yes hG
            have hgE' : goodE x.s t = 0 := by rw [HE.out.1]; exact hgE
            have HPR := Lib.hid (praise_of HX.out t)
            have HG := Lib.hid (And.intro hG hgE)
            clear hG hgE
            go_wp2_with fail
            refine (qPraise_q HC0.out.p j t).mono ?_
            rintro e w1 ⟨rfl, P1, k1⟩
            rw [HPR.out.1, hgE']
            have P1' : PQ w1 q g (X.set j (praised t x)) := by
              rw [HPR.out.2, HE.out.1, HG.out.1] at P1
              simpa using P1
            have HP1 := Lib.hid P1'
            have M1 := HC0.out.m.keep k1 hgm
            have S1 := HC0.out.s.keep k1 hgs
            have D1 := k1.kb DD hgA
            have b01 := Lib.hid (step_bl b00.out hgw k1)
            have HM1 := Lib.hid M1
            have HS1 := Lib.hid S1
            have HD1 := Lib.hid D1
            have hgs0 := k1.size
            have hMl := M1.lt
            have hSl := S1.lt
            have hDl := kb_lt D1
            have hPg := P1'.ltg
            have hPq := P1'.ltq
            clear P1 P1' k1 M1 S1 D1 hgE' k0 k2
            go_wp2_with fail
            have bD := Lib.hid (bl_drew (Below.refl w1.heap.size w1))
            refine wp_region_held_drew (S := (fun W : World => W.cell? ⟨zA, 2, none⟩ = some (.int .i64 t) ∧ W.cell? ⟨bm, j * 2, none⟩ = some (.int .i64 m.s) ∧ W.cell? ⟨bm, j * 2 + 1, none⟩ = some (.float .f64 m.p))) (by kernel_rfl) ⟨kb_cell (kb_drew HD1.out) 2, (HM1.out.below bD.out).cell HM.out⟩ (fun hHeld => ?_)
            refine wpAnyH_take (i := 0) (oi := { dst := some 116, op := _, type := _, pos := _, after := _, guard := _ }) (v := ?_) rfl (by kernel_rfl) (by kernel_rfl) (by kernel_rfl) (fun _ _ _ h => h) (Or.inl ⟨by rfl, ?_⟩) hHeld ?_
            rotate_left
            · (intro w hSw; (try dsimp only at hSw); go_simp); all_goals with_reducible rfl
            try simp only [Act.put, List.setIfInBounds_toArray, List.set_cons_zero, List.set_cons_succ]
            refine wpAnyH_take (i := 1) (oi := { dst := some 117, op := _, type := _, pos := _, after := _, guard := _ }) (v := ?_) rfl (by kernel_rfl) (by kernel_rfl) (by kernel_rfl) (fun _ _ _ h => h) (Or.inl ⟨by rfl, ?_⟩) hHeld ?_
            rotate_left
            · (intro w hSw; (try dsimp only at hSw); go_simp); all_goals with_reducible rfl
            try simp only [Act.put, List.setIfInBounds_toArray, List.set_cons_zero, List.set_cons_succ]
            refine wpAnyH_take (i := 2) (oi := { dst := some 118, op := _, type := _, pos := _, after := _, guard := _ }) (v := ?_) rfl (by kernel_rfl) (by kernel_rfl) (by kernel_rfl) (fun _ _ _ h => h) (Or.inl ⟨by rfl, ?_⟩) hHeld ?_
            rotate_left
            · (intro w hSw; (try dsimp only at hSw); go_simp); all_goals with_reducible rfl
            try simp only [Act.put, List.setIfInBounds_toArray, List.set_cons_zero, List.set_cons_succ]
            refine wpAnyH_take (i := 3) (oi := { dst := some 119, op := _, type := _, pos := _, after := _, guard := _ }) (v := ?_) rfl (by kernel_rfl) (by kernel_rfl) (by kernel_rfl) (fun _ _ _ h => h) (Or.inl ⟨by rfl, ?_⟩) hHeld ?_
            rotate_left
            · (intro w hSw; (try dsimp only at hSw); go_simp); all_goals with_reducible rfl
            try simp only [Act.put, List.setIfInBounds_toArray, List.set_cons_zero, List.set_cons_succ]
            refine wpAnyH_take (i := 4) (oi := { dst := some 120, op := _, type := _, pos := _, after := _, guard := _ }) (v := ?_) rfl (by kernel_rfl) (by kernel_rfl) (by kernel_rfl) (fun _ _ _ h => h) (Or.inl ⟨by rfl, ?_⟩) hHeld ?_
            rotate_left
            · (intro w hSw; (try dsimp only at hSw); go_simp); all_goals with_reducible rfl
            try simp only [Act.put, List.setIfInBounds_toArray, List.set_cons_zero, List.set_cons_succ]
            refine wpAnyH_take (i := 5) (oi := { dst := some 121, op := _, type := _, pos := _, after := _, guard := _ }) (v := ?_) rfl (by kernel_rfl) (by kernel_rfl) (by kernel_rfl) (fun _ _ _ h => h) (Or.inl ⟨by rfl, ?_⟩) hHeld ?_
            rotate_left
            · (intro w hSw; (try dsimp only at hSw); go_simp); all_goals with_reducible rfl
            try simp only [Act.put, List.setIfInBounds_toArray, List.set_cons_zero, List.set_cons_succ]
            refine wpAnyH_ready (rs := [6, 10]) (by kernel_rfl) (by simp) (AllReadyH.cons (o := _) rfl (fun K hK => ?_) (AllReadyH.cons (o := _) rfl (fun K hK => ?_) AllReadyH.nil))
            · go_simp
              refine (Good_any m.s m.p t _).mono ?_
              rintro e w2 ⟨r, rfl, hr, hrl, b2⟩
              rw [HG.out.2]
              have HR := Lib.hid (And.intro hr hrl)
              have b12 := Lib.hid (bl_then bD.out b2)
              refine hK.out _ _ ⟨(b12.out.cell (by exact hDl)).trans (kb_cell HD1.out 2), (HM1.out.below b12.out).cell HM.out⟩ (fun hHeld => ?_)
              clear hK K hr hrl b2
              refine wpAnyH_take (i := 7) (oi := { dst := some 115, op := _, type := _, pos := _, after := _, guard := _ }) (v := ?_) rfl (by kernel_rfl) (by kernel_rfl) (by kernel_rfl) (fun _ _ _ h => h) (Or.inl ⟨by rfl, ?_⟩) hHeld ?_
              rotate_left
              · (intro w hSw; (try dsimp only at hSw); go_simp); all_goals with_reducible rfl
              try simp only [Act.put, List.setIfInBounds_toArray, List.set_cons_zero, List.set_cons_succ]
              refine wpAnyH_take (i := 8) (oi := { dst := some 123, op := _, type := _, pos := _, after := _, guard := _ }) (v := ?_) rfl (by kernel_rfl) (by kernel_rfl) (by kernel_rfl) (fun _ _ _ h => h) (Or.inl ⟨by rfl, ?_⟩) hHeld ?_
              rotate_left
              · (intro w hSw; (try dsimp only at hSw); go_simp); all_goals with_reducible rfl
              try simp only [Act.put, List.setIfInBounds_toArray, List.set_cons_zero, List.set_cons_succ]
              refine wpAnyH_take (i := 9) (oi := { dst := some 124, op := _, type := _, pos := _, after := _, guard := _ }) (v := ?_) rfl (by kernel_rfl) (by kernel_rfl) (by kernel_rfl) (fun _ _ _ h => h) (Or.inl ⟨by rfl, ?_⟩) hHeld ?_
              rotate_left
              · (intro w hSw; (try dsimp only at hSw); go_simp); all_goals with_reducible rfl
              try simp only [Act.put, List.setIfInBounds_toArray, List.set_cons_zero, List.set_cons_succ]
              refine wpAnyH_ready (rs := [10]) (by kernel_rfl) (by simp) (AllReadyH.cons (o := _) rfl (fun K hK => ?_) AllReadyH.nil)
              go_simp
              have b13 := Lib.hid (bl_alloc b12.out (.cells #[.int .i64 0, .float .f64 0] 33))
              have N3 : (w2.alloc (.cells #[.int .i64 0, .float .f64 0] 33)).heap[w2.heap.size]? = some _ := kb_new rfl _
              have hzl : w1.heap.size ≤ w2.heap.size := by have := b12.out.size; exact this
              refine hK.out _ _ ⟨(b13.out.cell (by exact hDl)).trans (kb_cell HD1.out 2), (HM1.out.below b13.out).cell HM.out⟩ (fun hHeld => ?_)
              clear hK K
              generalize w2.alloc (.cells #[.int .i64 0, .float .f64 0] 33) = w3 at *
              generalize w2.heap.size = zG at *
              have n0 := (kb_cell N3 0).trans rfl
              have n1 := (kb_cell N3 1).trans rfl
              have nz := kb_frozen N3
              refine wpAnyH_ready (rs := [11]) (by kernel_rfl) (by simp) (AllReadyH.cons (o := _) rfl (fun K hK => ?_) AllReadyH.nil)
              go_simp

              have hzb : zG ≠ bm := by omega
              have hzs : zG ≠ bs := by omega
              have hzg : zG ≠ g := by omega
              have hzq : zG ≠ q := by omega
              have hza : zG ≠ zA := by omega
              have kG := keep_set2 w3 zG 0 1 (.int .i64 (goodS m.s t)) (.float .f64 r)
              have N4 := kb_set (i := 1) (kb_set (i := 0) N3 (.int .i64 (goodS m.s t))) (.float .f64 r)
              have P4 := (HP1.out.below b13.out).keep kG (fun h => hzq h.symm) (fun h => hzg h.symm)
              have M4 := (HM1.out.below b13.out).keep kG (fun h => hzb h.symm)
              have S4 := (HS1.out.below b13.out).keep kG (fun h => hzs h.symm)
              have D4 := kG.kb (kb_below b13.out HD1.out) (fun h => hza h.symm)
              have b04 := (b01.out.trans (b13.out.mono (by have := b01.out.size; exact this))).trans (kG.below (B := w.heap.size) (by have := b01.out.size; have := b13.out.size; omega) (fun b e => by have := b01.out.size; omega))
              refine hK.out _ _ ⟨kb_cell D4 2, M4.cell HM.out⟩ (fun hHeld => ?_)
              clear hK K
              refine wpAnyH_take (i := 12) (oi := { dst := some 21, op := _, type := _, pos := _, after := _, guard := _ }) (v := ?_) rfl (by kernel_rfl) (by kernel_rfl) (by kernel_rfl) (fun _ _ _ h => h) (Or.inl ⟨by rfl, ?_⟩) hHeld ?_
              rotate_left
              · (intro w hSw; (try dsimp only at hSw); go_simp); all_goals with_reducible rfl
              try simp only [Act.put, List.setIfInBounds_toArray, List.set_cons_zero, List.set_cons_succ]
              refine wpAnyH_done (by kernel_rfl) ?_ _
              generalize ((w3.setCell ⟨zG, 0, none⟩ (.int .i64 (goodS m.s t))).setCell ⟨zG, 1, none⟩ (.float .f64 r)) = w4 at *
              clear hHeld kG n0 n1 nz N3 D4 HP1 HM1 HS1 HD1 b13 b12 bD b01

              have hl9 := HC0.out.l
              have HM4 := Lib.hid M4
              obtain ⟨d0, d1⟩ := M4.cell HM.out
              have zm := M4.frozen
              have g0 := (kb_cell N4 0).trans rfl
              have g1 := (kb_cell N4 1).trans rfl
              have HC9 : Hid (Cn ((w4.setCell ⟨bm, j * 2, none⟩ (.int .i64 (goodS m.s t))).setCell ⟨bm, j * 2 + 1, none⟩ (.float .f64 r)) q g bm bs n (X.set j (praised t x)) (ms.set j ⟨goodS m.s t, r⟩) st ((k + 1 : Nat) : Int)) := Lib.hid (by
                have kA := keep_set2 w4 bm (j * 2) (j * 2 + 1) (.int .i64 (goodS m.s t)) (.float .f64 r)
                refine ⟨P4.keep kA hqm (fun h => hgm h.symm), M4.set HM.out _ _, S4.keep kA (fun h => hms h.symm), ?_, by rw [List.length_set]; exact HC0.out.l⟩
                have := HC0.out.c.turn (d := ((k + 1 : Nat) : Int)) (by omega) HX.out (y := praised t x) (m := ⟨goodS m.s t, r⟩) (by show goodS x.s t = goodS m.s t; rw [HE.out.1]) (by show canon (goodP x.s x.p t) = canon r; rw [HR.out.1, HE.out.1]; exact goodP_canon HE.out.2) (by exact x0) (by show x.strikes ≤ _; omega) (by show okS (goodS x.s t) = true; rw [HE.out.1]; exact okS_good' HG.out.1)
                rw [show (praised t x).strikes = x.strikes from rfl, set_same HST.out] at this
                exact this)
              have b09 : Below w.heap.size w ((w4.setCell ⟨bm, j * 2, none⟩ (.int .i64 (goodS m.s t))).setCell ⟨bm, j * 2 + 1, none⟩ (.float .f64 r)) := bl_set hmw (bl_set hmw b04 _) _
              clear P4 M4 S4 b04 HC0 N4 HM4 HG HR HPR
              go_wp2_with fail
              generalize ((w4.setCell ⟨bm, j * 2, none⟩ (.int .i64 (goodS m.s t))).setCell ⟨bm, j * 2 + 1, none⟩ (.float .f64 r)) = w9 at *
              generalize X.set j (praised t x) = X9 at *
              generalize ms.set j ⟨goodS m.s t, r⟩ = ms9 at *
              generalize st = st9 at *
              clear d0 d1 zm g0 g1 hl9 b00 HX HE HM HST HOK DD hMl hSl hDl hPg hPq hgs0 hzl hzb hzs hzg hzq hza

              go_loopw [22, 23, 24, 134, 135, 136, 137, 138, 139, 140, 141, 142, 143, 144, 145, 146, 147, 148, 149, 150, 151, 152, 153, 154, 155, 156, 157, 158, 159, 160, 161, 162, 163, 164, 165, 166] (fun s22 _ _ _ _ _ _ _ _ _ _ _ _ _ _ _ _ _ _ _ _ _ _ _ _ _ _ _ _ _ _ _ _ _ _ _ wr => ∃ i : Nat, i ≤ n ∧ s22 = .int .i64 i ∧ Below w9.heap.size w9 wr) (fun s22 _ _ _ _ _ _ _ _ _ _ _ _ _ _ _ _ _ _ _ _ _ _ _ _ _ _ _ _ _ _ _ _ _ _ _ _ => n - (intOf s22).toNat)
              case atStart => exact ⟨0, by omega, rfl, Below.refl _ _⟩
              case round =>
                obtain ⟨i, hi, rfl, hnb⟩ := hrel
                by_cases hin : i < n
                · have hin' : (i : Int) < (n : Int) := by omega
                  have HCI := Lib.hid (HC9.out.below hnb)
                  obtain ⟨x, hx⟩ : ∃ x, X9[i]? = some x := ⟨_, List.getElem?_eq_getElem (by have := HCI.out.l; omega)⟩
                  obtain ⟨m, hm, e1, e2, hst, -, -, -⟩ := HCI.out.c.at_ i x hx
                  obtain ⟨f1, f2, f3, -⟩ := merA_of hx
                  have HX := Lib.hid (And.intro f1 (And.intro f2 f3))
                  have HE := Lib.hid (And.intro e1 e2)
                  have HM := Lib.hid hm
                  have HST := Lib.hid hst
                  obtain ⟨c0, c1⟩ := HCI.out.m.cell hm
                  have c2 := HCI.out.s.cell hst
                  clear hx hm e1 e2 hst f1 f2 f3
                  go_wp2_with fail
                  refine (qMerit_q HCI.out.p i).mono ?_
                  rintro e w1 ⟨v, rfl, ⟨p, rfl, hp⟩, b1⟩
                  rw [HX.out.1] at hp
                  rw [HX.out.1, HX.out.2.1, HE.out.1]
                  have HPC := Lib.hid (hp.trans HE.out.2)
                  have HCJ := Lib.hid (HCI.out.below (bl_alloc b1 (.cells #[.int .i64 m.s, .float .f64 p] 33)))
                  have DD : (w1.alloc (.cells #[.int .i64 m.s, .float .f64 p] 33)).heap[w1.heap.size]? = some _ := kb_new rfl _
                  have hnb2 := bl_alloc (bl_then hnb b1) (.cells #[.int .i64 m.s, .float .f64 p] 33)
                  clear hp b1 hnb HCI c0 c1 c2
                  go_wp2_with fail
                  generalize w1.alloc (.cells #[.int .i64 m.s, .float .f64 p] 33) = w2 at *
                  generalize w1.heap.size = zD at *
                  have HCK := Lib.hid (HCJ.out.below (bl_drew (Below.refl _ _)))
                  have HDD := Lib.hid (kb_drew DD)
                  have hnb3 := Lib.hid (bl_drew hnb2)
                  clear DD hnb2 HCJ
                  refine wp_region_held_drew (S := (fun W : World => (W.cell? ⟨zD, 0, none⟩ = some (.int .i64 m.s) ∧ W.cell? ⟨zD, 1, none⟩ = some (.float .f64 p)) ∧ (W.cell? ⟨bm, i * 2, none⟩ = some (.int .i64 m.s) ∧ W.cell? ⟨bm, i * 2 + 1, none⟩ = some (.float .f64 m.p)) ∧ W.cell? ⟨bs, i, none⟩ = some (.int .i64 x.strikes))) (by kernel_rfl) ⟨⟨kb_cell HDD.out 0, kb_cell HDD.out 1⟩, HCK.out.m.cell HM.out, HCK.out.s.cell HST.out⟩ (fun hHeld => ?_)
                  refine wpAnyH_take (i := 0) (oi := { dst := some 146, op := _, type := _, pos := _, after := _, guard := _ }) (v := ?_) rfl (by kernel_rfl) (by kernel_rfl) (by kernel_rfl) (fun _ _ _ h => h) (Or.inl ⟨by rfl, ?_⟩) hHeld ?_
                  rotate_left
                  · (intro w hSw; (try dsimp only at hSw); go_simp); all_goals with_reducible rfl
                  try simp only [Act.put, List.setIfInBounds_toArray, List.set_cons_zero, List.set_cons_succ]
                  refine wpAnyH_take (i := 1) (oi := { dst := some 147, op := _, type := _, pos := _, after := _, guard := _ }) (v := ?_) rfl (by kernel_rfl) (by kernel_rfl) (by kernel_rfl) (fun _ _ _ h => h) (Or.inl ⟨by rfl, ?_⟩) hHeld ?_
                  rotate_left
                  · (intro w hSw; (try dsimp only at hSw); go_simp); all_goals with_reducible rfl
                  try simp only [Act.put, List.setIfInBounds_toArray, List.set_cons_zero, List.set_cons_succ]
                  refine wpAnyH_take (i := 2) (oi := { dst := some 148, op := _, type := _, pos := _, after := _, guard := _ }) (v := ?_) rfl (by kernel_rfl) (by kernel_rfl) (by kernel_rfl) (fun _ _ _ h => h) (Or.inl ⟨by rfl, ?_⟩) hHeld ?_
                  rotate_left
                  · (intro w hSw; (try dsimp only at hSw); go_simp); all_goals with_reducible rfl
                  try simp only [Act.put, List.setIfInBounds_toArray, List.set_cons_zero, List.set_cons_succ]
                  refine wpAnyH_take (i := 3) (oi := { dst := some 149, op := _, type := _, pos := _, after := _, guard := _ }) (v := ?_) rfl (by kernel_rfl) (by kernel_rfl) (by kernel_rfl) (fun _ _ _ h => h) (Or.inl ⟨by rfl, ?_⟩) hHeld ?_
                  rotate_left
                  · (intro w hSw; (try dsimp only at hSw); go_simp); all_goals with_reducible rfl
                  try simp only [Act.put, List.setIfInBounds_toArray, List.set_cons_zero, List.set_cons_succ]
                  refine wpAnyH_take (i := 4) (oi := { dst := some 150, op := _, type := _, pos := _, after := _, guard := _ }) (v := ?_) rfl (by kernel_rfl) (by kernel_rfl) (by kernel_rfl) (fun _ _ _ h => h) (Or.inl ⟨by rfl, ?_⟩) hHeld ?_
                  rotate_left
                  · (intro w hSw; (try dsimp only at hSw); go_simp); all_goals with_reducible rfl
                  try simp only [Act.put, List.setIfInBounds_toArray, List.set_cons_zero, List.set_cons_succ]
                  refine wpAnyH_take (i := 5) (oi := { dst := some 151, op := _, type := _, pos := _, after := _, guard := _ }) (v := ?_) rfl (by kernel_rfl) (by kernel_rfl) (by kernel_rfl) (fun _ _ _ h => h) (Or.inl ⟨by rfl, ?_⟩) hHeld ?_
                  rotate_left
                  · (intro w hSw; (try dsimp only at hSw); go_simp); all_goals with_reducible rfl
                  try simp only [Act.put, List.setIfInBounds_toArray, List.set_cons_zero, List.set_cons_succ]
                  refine wpAnyH_take (i := 6) (oi := { dst := some 152, op := _, type := _, pos := _, after := _, guard := _ }) (v := ?_) rfl (by kernel_rfl) (by kernel_rfl) (by kernel_rfl) (fun _ _ _ h => h) (Or.inl ⟨by rfl, ?_⟩) hHeld ?_
                  rotate_left
                  · (intro w hSw; (try dsimp only at hSw); go_simp); all_goals with_reducible rfl
                  try simp only [Act.put, List.setIfInBounds_toArray, List.set_cons_zero, List.set_cons_succ]
                  refine wpAnyH_take (i := 7) (oi := { dst := some 153, op := _, type := _, pos := _, after := _, guard := _ }) (v := ?_) rfl (by kernel_rfl) (by kernel_rfl) (by kernel_rfl) (fun _ _ _ h => h) (Or.inl ⟨by rfl, ?_⟩) hHeld ?_
                  rotate_left
                  · (intro w hSw; (try dsimp only at hSw); go_simp); all_goals with_reducible rfl
                  try simp only [Act.put, List.setIfInBounds_toArray, List.set_cons_zero, List.set_cons_succ]
                  refine wpAnyH_ready (rs := [8]) (by kernel_rfl) (by simp) (AllReadyH.cons (o := _) rfl (fun K hK => ?_) AllReadyH.nil)
                  go_simp
                  refine (SameMerit_t m.s p m.p _ HPC.out).mono ?_
                  rintro e w3 ⟨rfl, b3⟩
                  have HCL := Lib.hid (HCK.out.below b3)
                  have HDE := Lib.hid (kb_below b3 HDD.out)
                  have hnb4 := bl_then hnb3.out b3
                  refine hK.out _ _ ⟨⟨kb_cell HDE.out 0, kb_cell HDE.out 1⟩, HCL.out.m.cell HM.out, HCL.out.s.cell HST.out⟩ (fun hHeld => ?_)
                  clear hK K b3 HCK HDD hnb3
                  have hz : (x.strikes != x.strikes) = false := by simp
                  refine wpAnyH_take (i := 9) (oi := { dst := some 155, op := _, type := _, pos := _, after := _, guard := _ }) (v := ?_) rfl (by kernel_rfl) (by kernel_rfl) (by kernel_rfl) (fun _ _ _ h => h) (Or.inl ⟨by rfl, ?_⟩) hHeld ?_
                  rotate_left
                  · (intro w hSw; (try dsimp only at hSw); go_simp); all_goals with_reducible rfl
                  try simp only [Act.put, List.setIfInBounds_toArray, List.set_cons_zero, List.set_cons_succ]
                  refine wpAnyH_take (i := 10) (oi := { dst := some 156, op := _, type := _, pos := _, after := _, guard := _ }) (v := ?_) rfl (by kernel_rfl) (by kernel_rfl) (by kernel_rfl) (fun _ _ _ h => h) (Or.inl ⟨by rfl, ?_⟩) hHeld ?_
                  rotate_left
                  · (intro w hSw; (try dsimp only at hSw); go_simp); all_goals with_reducible rfl
                  try simp only [Act.put, List.setIfInBounds_toArray, List.set_cons_zero, List.set_cons_succ]
                  refine wpAnyH_take (i := 11) (oi := { dst := some 157, op := _, type := _, pos := _, after := _, guard := _ }) (v := ?_) rfl (by kernel_rfl) (by kernel_rfl) (by kernel_rfl) (fun _ _ _ h => h) (Or.inl ⟨by rfl, ?_⟩) hHeld ?_
                  rotate_left
                  · (intro w hSw; (try dsimp only at hSw); go_simp); all_goals with_reducible rfl
                  try simp only [Act.put, List.setIfInBounds_toArray, List.set_cons_zero, List.set_cons_succ]
                  refine wpAnyH_take (i := 12) (oi := { dst := some 158, op := _, type := _, pos := _, after := _, guard := _ }) (v := ?_) rfl (by kernel_rfl) (by kernel_rfl) (by kernel_rfl) (fun _ _ _ h => h) (Or.inl ⟨by rfl, ?_⟩) hHeld ?_
                  rotate_left
                  · (intro w hSw; (try dsimp only at hSw); go_simp); all_goals with_reducible rfl
                  try simp only [Act.put, List.setIfInBounds_toArray, List.set_cons_zero, List.set_cons_succ]
                  refine wpAnyH_take (i := 13) (oi := { dst := some 159, op := _, type := _, pos := _, after := _, guard := _ }) (v := ?_) rfl (by kernel_rfl) (by kernel_rfl) (by kernel_rfl) (fun _ _ _ h => h) (Or.inl ⟨by rfl, ?_⟩) hHeld ?_
                  rotate_left
                  · (intro w hSw; (try dsimp only at hSw); go_simp); all_goals with_reducible rfl
                  try simp only [Act.put, List.setIfInBounds_toArray, List.set_cons_zero, List.set_cons_succ]
                  refine wpAnyH_take (i := 15) (oi := { dst := some 161, op := _, type := _, pos := _, after := _, guard := _ }) (v := ?_) rfl (by kernel_rfl) (by kernel_rfl) (by kernel_rfl) (fun _ _ _ h => h) (Or.inl ⟨by rfl, ?_⟩) hHeld ?_
                  rotate_left
                  · (intro w hSw; (try dsimp only at hSw); go_simp); all_goals with_reducible rfl
                  try simp only [Act.put, List.setIfInBounds_toArray, List.set_cons_zero, List.set_cons_succ]
                  refine wpAnyH_take (i := 16) (oi := { dst := some 162, op := _, type := _, pos := _, after := _, guard := _ }) (v := ?_) rfl (by kernel_rfl) (by kernel_rfl) (by kernel_rfl) (fun _ _ _ h => h) (Or.inl ⟨by rfl, ?_⟩) hHeld ?_
                  rotate_left
                  · (intro w hSw; (try dsimp only at hSw); go_simp); all_goals with_reducible rfl
                  try simp only [Act.put, List.setIfInBounds_toArray, List.set_cons_zero, List.set_cons_succ]
                  refine wpAnyH_take (i := 17) (oi := { dst := some 163, op := _, type := _, pos := _, after := _, guard := _ }) (v := ?_) rfl (by kernel_rfl) (by kernel_rfl) (by kernel_rfl) (fun _ _ _ h => h) (Or.inl ⟨by rfl, ?_⟩) hHeld ?_
                  rotate_left
                  · (intro w hSw; (try dsimp only at hSw); go_simp); all_goals with_reducible rfl
                  try simp only [Act.put, List.setIfInBounds_toArray, List.set_cons_zero, List.set_cons_succ]
                  refine wpAnyH_take (i := 18) (oi := { dst := some 164, op := _, type := _, pos := _, after := _, guard := _ }) (v := ?_) rfl (by kernel_rfl) (by kernel_rfl) (by kernel_rfl) (fun _ _ _ h => h) (Or.inl ⟨by rfl, ?_⟩) hHeld ?_
                  rotate_left
                  · (intro w hSw; (try dsimp only at hSw); go_simp); all_goals with_reducible rfl
                  try simp only [Act.put, List.setIfInBounds_toArray, List.set_cons_zero, List.set_cons_succ]
                  refine wpAnyH_ready (rs := [14]) (by kernel_rfl) (by simp) (AllReadyH.cons (o := _) rfl (fun K hK => ?_) AllReadyH.nil)
                  go_simp
                  refine (qStrikes_q HCL.out.p i).mono ?_
                  rintro e w4 ⟨rfl, rfl⟩
                  rw [HX.out.2.2]
                  refine hK.out _ _ hHeld (fun hHeld => ?_)
                  clear hK K
                  refine wpAnyH_take (i := 19) (oi := { dst := some 165, op := _, type := _, pos := _, after := _, guard := _ }) (v := ?_) rfl (by kernel_rfl) (by kernel_rfl) (by kernel_rfl) (fun _ _ _ h => h) (Or.inl ⟨by rfl, ?_⟩) hHeld ?_
                  rotate_left
                  · (intro w hSw; (try dsimp only at hSw); go_simp); all_goals with_reducible rfl
                  try simp only [Act.put, List.setIfInBounds_toArray, List.set_cons_zero, List.set_cons_succ]
                  refine wpAnyH_take (i := 20) (oi := { dst := some 166, op := _, type := _, pos := _, after := _, guard := _ }) (v := ?_) rfl (by kernel_rfl) (by kernel_rfl) (by kernel_rfl) (fun _ _ _ h => h) (Or.inl ⟨by rfl, ?_⟩) hHeld ?_
                  rotate_left
                  · (intro w hSw; (try dsimp only at hSw); go_simp); all_goals with_reducible rfl
                  try simp only [Act.put, List.setIfInBounds_toArray, List.set_cons_zero, List.set_cons_succ]
                  refine wpAnyH_done (by kernel_rfl) ?_ _
                  clear HCL HDE HPC HX HE HM HST hHeld hz
                  go_wp2
                  go_roundw
                  case rel => exact ⟨i + 1, by omega, by go_num, hnb4⟩
                  case measure => simp [intOf]; omega
                · obtain rfl : i = n := by omega
                  go_wp2
                  go_roundw
                  case rel => exact ⟨k + 1, X9, ms9, st9, by omega, by go_num, HC9.out.below hnb, bl_then b09 hnb⟩
                  case measure => simp [intOf]; omega
            · go_simp
              have b12 := Lib.hid (bl_alloc bD.out (.cells #[.int .i64 0, .float .f64 0] 33))
              have N2 : (w1.drew.alloc (.cells #[.int .i64 0, .float .f64 0] 33)).heap[w1.heap.size]? = some _ := kb_new rfl _
              refine hK.out _ _ ⟨(b12.out.cell (by exact hDl)).trans (kb_cell HD1.out 2), (HM1.out.below b12.out).cell HM.out⟩ (fun hHeld => ?_)
              clear hK K
              refine wpAnyH_ready (rs := [6]) (by kernel_rfl) (by simp) (AllReadyH.cons (o := _) rfl (fun K hK => ?_) AllReadyH.nil)
              go_simp
              refine (Good_any m.s m.p t _).mono ?_
              rintro e w3 ⟨r, rfl, hr, hrl, b2⟩
              rw [HG.out.2]
              have HR := Lib.hid (And.intro hr hrl)
              have b13 := Lib.hid (bl_then b12.out b2)
              have N3 := kb_below b2 N2
              refine hK.out _ _ ⟨(b13.out.cell (by exact hDl)).trans (kb_cell HD1.out 2), (HM1.out.below b13.out).cell HM.out⟩ (fun hHeld => ?_)
              clear hK K hr hrl b2 N2
              refine wpAnyH_take (i := 7) (oi := { dst := some 115, op := _, type := _, pos := _, after := _, guard := _ }) (v := ?_) rfl (by kernel_rfl) (by kernel_rfl) (by kernel_rfl) (fun _ _ _ h => h) (Or.inl ⟨by rfl, ?_⟩) hHeld ?_
              rotate_left
              · (intro w hSw; (try dsimp only at hSw); go_simp); all_goals with_reducible rfl
              try simp only [Act.put, List.setIfInBounds_toArray, List.set_cons_zero, List.set_cons_succ]
              refine wpAnyH_take (i := 8) (oi := { dst := some 123, op := _, type := _, pos := _, after := _, guard := _ }) (v := ?_) rfl (by kernel_rfl) (by kernel_rfl) (by kernel_rfl) (fun _ _ _ h => h) (Or.inl ⟨by rfl, ?_⟩) hHeld ?_
              rotate_left
              · (intro w hSw; (try dsimp only at hSw); go_simp); all_goals with_reducible rfl
              try simp only [Act.put, List.setIfInBounds_toArray, List.set_cons_zero, List.set_cons_succ]
              refine wpAnyH_take (i := 9) (oi := { dst := some 124, op := _, type := _, pos := _, after := _, guard := _ }) (v := ?_) rfl (by kernel_rfl) (by kernel_rfl) (by kernel_rfl) (fun _ _ _ h => h) (Or.inl ⟨by rfl, ?_⟩) hHeld ?_
              rotate_left
              · (intro w hSw; (try dsimp only at hSw); go_simp); all_goals with_reducible rfl
              try simp only [Act.put, List.setIfInBounds_toArray, List.set_cons_zero, List.set_cons_succ]
              obtain ⟨zG, hzG⟩ : ∃ z, w1.heap.size = z := ⟨_, rfl⟩
              have hzl : w1.heap.size ≤ zG := by omega
              rw [hzG] at N3 ⊢
              have n0 := (kb_cell N3 0).trans rfl
              have n1 := (kb_cell N3 1).trans rfl
              have nz := kb_frozen N3
              refine wpAnyH_ready (rs := [11]) (by kernel_rfl) (by simp) (AllReadyH.cons (o := _) rfl (fun K hK => ?_) AllReadyH.nil)
              go_simp

              have hzb : zG ≠ bm := by omega
              have hzs : zG ≠ bs := by omega
              have hzg : zG ≠ g := by omega
              have hzq : zG ≠ q := by omega
              have hza : zG ≠ zA := by omega
              have kG := keep_set2 w3 zG 0 1 (.int .i64 (goodS m.s t)) (.float .f64 r)
              have N4 := kb_set (i := 1) (kb_set (i := 0) N3 (.int .i64 (goodS m.s t))) (.float .f64 r)
              have P4 := (HP1.out.below b13.out).keep kG (fun h => hzq h.symm) (fun h => hzg h.symm)
              have M4 := (HM1.out.below b13.out).keep kG (fun h => hzb h.symm)
              have S4 := (HS1.out.below b13.out).keep kG (fun h => hzs h.symm)
              have D4 := kG.kb (kb_below b13.out HD1.out) (fun h => hza h.symm)
              have b04 := (b01.out.trans (b13.out.mono (by have := b01.out.size; exact this))).trans (kG.below (B := w.heap.size) (by have := b01.out.size; have := b13.out.size; omega) (fun b e => by have := b01.out.size; omega))
              refine hK.out _ _ ⟨kb_cell D4 2, M4.cell HM.out⟩ (fun hHeld => ?_)
              clear hK K
              refine wpAnyH_take (i := 12) (oi := { dst := some 21, op := _, type := _, pos := _, after := _, guard := _ }) (v := ?_) rfl (by kernel_rfl) (by kernel_rfl) (by kernel_rfl) (fun _ _ _ h => h) (Or.inl ⟨by rfl, ?_⟩) hHeld ?_
              rotate_left
              · (intro w hSw; (try dsimp only at hSw); go_simp); all_goals with_reducible rfl
              try simp only [Act.put, List.setIfInBounds_toArray, List.set_cons_zero, List.set_cons_succ]
              refine wpAnyH_done (by kernel_rfl) ?_ _
              generalize ((w3.setCell ⟨zG, 0, none⟩ (.int .i64 (goodS m.s t))).setCell ⟨zG, 1, none⟩ (.float .f64 r)) = w4 at *
              clear hHeld kG n0 n1 nz N3 D4 HP1 HM1 HS1 HD1 b13 b12 bD b01

              have hl9 := HC0.out.l
              have HM4 := Lib.hid M4
              obtain ⟨d0, d1⟩ := M4.cell HM.out
              have zm := M4.frozen
              have g0 := (kb_cell N4 0).trans rfl
              have g1 := (kb_cell N4 1).trans rfl
              have HC9 : Hid (Cn ((w4.setCell ⟨bm, j * 2, none⟩ (.int .i64 (goodS m.s t))).setCell ⟨bm, j * 2 + 1, none⟩ (.float .f64 r)) q g bm bs n (X.set j (praised t x)) (ms.set j ⟨goodS m.s t, r⟩) st ((k + 1 : Nat) : Int)) := Lib.hid (by
                have kA := keep_set2 w4 bm (j * 2) (j * 2 + 1) (.int .i64 (goodS m.s t)) (.float .f64 r)
                refine ⟨P4.keep kA hqm (fun h => hgm h.symm), M4.set HM.out _ _, S4.keep kA (fun h => hms h.symm), ?_, by rw [List.length_set]; exact HC0.out.l⟩
                have := HC0.out.c.turn (d := ((k + 1 : Nat) : Int)) (by omega) HX.out (y := praised t x) (m := ⟨goodS m.s t, r⟩) (by show goodS x.s t = goodS m.s t; rw [HE.out.1]) (by show canon (goodP x.s x.p t) = canon r; rw [HR.out.1, HE.out.1]; exact goodP_canon HE.out.2) (by exact x0) (by show x.strikes ≤ _; omega) (by show okS (goodS x.s t) = true; rw [HE.out.1]; exact okS_good' HG.out.1)
                rw [show (praised t x).strikes = x.strikes from rfl, set_same HST.out] at this
                exact this)
              have b09 : Below w.heap.size w ((w4.setCell ⟨bm, j * 2, none⟩ (.int .i64 (goodS m.s t))).setCell ⟨bm, j * 2 + 1, none⟩ (.float .f64 r)) := bl_set hmw (bl_set hmw b04 _) _
              clear P4 M4 S4 b04 HC0 N4 HM4 HG HR HPR
              go_wp2_with fail
              generalize ((w4.setCell ⟨bm, j * 2, none⟩ (.int .i64 (goodS m.s t))).setCell ⟨bm, j * 2 + 1, none⟩ (.float .f64 r)) = w9 at *
              generalize X.set j (praised t x) = X9 at *
              generalize ms.set j ⟨goodS m.s t, r⟩ = ms9 at *
              generalize st = st9 at *
              clear d0 d1 zm g0 g1 hl9 b00 HX HE HM HST HOK DD hMl hSl hDl hPg hPq hgs0 hzl hzb hzs hzg hzq hza

              go_loopw [22, 23, 24, 134, 135, 136, 137, 138, 139, 140, 141, 142, 143, 144, 145, 146, 147, 148, 149, 150, 151, 152, 153, 154, 155, 156, 157, 158, 159, 160, 161, 162, 163, 164, 165, 166] (fun s22 _ _ _ _ _ _ _ _ _ _ _ _ _ _ _ _ _ _ _ _ _ _ _ _ _ _ _ _ _ _ _ _ _ _ _ wr => ∃ i : Nat, i ≤ n ∧ s22 = .int .i64 i ∧ Below w9.heap.size w9 wr) (fun s22 _ _ _ _ _ _ _ _ _ _ _ _ _ _ _ _ _ _ _ _ _ _ _ _ _ _ _ _ _ _ _ _ _ _ _ _ => n - (intOf s22).toNat)
              case atStart => exact ⟨0, by omega, rfl, Below.refl _ _⟩
              case round =>
                obtain ⟨i, hi, rfl, hnb⟩ := hrel
                by_cases hin : i < n
                · have hin' : (i : Int) < (n : Int) := by omega
                  have HCI := Lib.hid (HC9.out.below hnb)
                  obtain ⟨x, hx⟩ : ∃ x, X9[i]? = some x := ⟨_, List.getElem?_eq_getElem (by have := HCI.out.l; omega)⟩
                  obtain ⟨m, hm, e1, e2, hst, -, -, -⟩ := HCI.out.c.at_ i x hx
                  obtain ⟨f1, f2, f3, -⟩ := merA_of hx
                  have HX := Lib.hid (And.intro f1 (And.intro f2 f3))
                  have HE := Lib.hid (And.intro e1 e2)
                  have HM := Lib.hid hm
                  have HST := Lib.hid hst
                  obtain ⟨c0, c1⟩ := HCI.out.m.cell hm
                  have c2 := HCI.out.s.cell hst
                  clear hx hm e1 e2 hst f1 f2 f3
                  go_wp2_with fail
                  refine (qMerit_q HCI.out.p i).mono ?_
                  rintro e w1 ⟨v, rfl, ⟨p, rfl, hp⟩, b1⟩
                  rw [HX.out.1] at hp
                  rw [HX.out.1, HX.out.2.1, HE.out.1]
                  have HPC := Lib.hid (hp.trans HE.out.2)
                  have HCJ := Lib.hid (HCI.out.below (bl_alloc b1 (.cells #[.int .i64 m.s, .float .f64 p] 33)))
                  have DD : (w1.alloc (.cells #[.int .i64 m.s, .float .f64 p] 33)).heap[w1.heap.size]? = some _ := kb_new rfl _
                  have hnb2 := bl_alloc (bl_then hnb b1) (.cells #[.int .i64 m.s, .float .f64 p] 33)
                  clear hp b1 hnb HCI c0 c1 c2
                  go_wp2_with fail
                  generalize w1.alloc (.cells #[.int .i64 m.s, .float .f64 p] 33) = w2 at *
                  generalize w1.heap.size = zD at *
                  have HCK := Lib.hid (HCJ.out.below (bl_drew (Below.refl _ _)))
                  have HDD := Lib.hid (kb_drew DD)
                  have hnb3 := Lib.hid (bl_drew hnb2)
                  clear DD hnb2 HCJ
                  refine wp_region_held_drew (S := (fun W : World => (W.cell? ⟨zD, 0, none⟩ = some (.int .i64 m.s) ∧ W.cell? ⟨zD, 1, none⟩ = some (.float .f64 p)) ∧ (W.cell? ⟨bm, i * 2, none⟩ = some (.int .i64 m.s) ∧ W.cell? ⟨bm, i * 2 + 1, none⟩ = some (.float .f64 m.p)) ∧ W.cell? ⟨bs, i, none⟩ = some (.int .i64 x.strikes))) (by kernel_rfl) ⟨⟨kb_cell HDD.out 0, kb_cell HDD.out 1⟩, HCK.out.m.cell HM.out, HCK.out.s.cell HST.out⟩ (fun hHeld => ?_)
                  refine wpAnyH_take (i := 0) (oi := { dst := some 146, op := _, type := _, pos := _, after := _, guard := _ }) (v := ?_) rfl (by kernel_rfl) (by kernel_rfl) (by kernel_rfl) (fun _ _ _ h => h) (Or.inl ⟨by rfl, ?_⟩) hHeld ?_
                  rotate_left
                  · (intro w hSw; (try dsimp only at hSw); go_simp); all_goals with_reducible rfl
                  try simp only [Act.put, List.setIfInBounds_toArray, List.set_cons_zero, List.set_cons_succ]
                  refine wpAnyH_take (i := 1) (oi := { dst := some 147, op := _, type := _, pos := _, after := _, guard := _ }) (v := ?_) rfl (by kernel_rfl) (by kernel_rfl) (by kernel_rfl) (fun _ _ _ h => h) (Or.inl ⟨by rfl, ?_⟩) hHeld ?_
                  rotate_left
                  · (intro w hSw; (try dsimp only at hSw); go_simp); all_goals with_reducible rfl
                  try simp only [Act.put, List.setIfInBounds_toArray, List.set_cons_zero, List.set_cons_succ]
                  refine wpAnyH_take (i := 2) (oi := { dst := some 148, op := _, type := _, pos := _, after := _, guard := _ }) (v := ?_) rfl (by kernel_rfl) (by kernel_rfl) (by kernel_rfl) (fun _ _ _ h => h) (Or.inl ⟨by rfl, ?_⟩) hHeld ?_
                  rotate_left
                  · (intro w hSw; (try dsimp only at hSw); go_simp); all_goals with_reducible rfl
                  try simp only [Act.put, List.setIfInBounds_toArray, List.set_cons_zero, List.set_cons_succ]
                  refine wpAnyH_take (i := 3) (oi := { dst := some 149, op := _, type := _, pos := _, after := _, guard := _ }) (v := ?_) rfl (by kernel_rfl) (by kernel_rfl) (by kernel_rfl) (fun _ _ _ h => h) (Or.inl ⟨by rfl, ?_⟩) hHeld ?_
                  rotate_left
                  · (intro w hSw; (try dsimp only at hSw); go_simp); all_goals with_reducible rfl
                  try simp only [Act.put, List.setIfInBounds_toArray, List.set_cons_zero, List.set_cons_succ]
                  refine wpAnyH_take (i := 4) (oi := { dst := some 150, op := _, type := _, pos := _, after := _, guard := _ }) (v := ?_) rfl (by kernel_rfl) (by kernel_rfl) (by kernel_rfl) (fun _ _ _ h => h) (Or.inl ⟨by rfl, ?_⟩) hHeld ?_
                  rotate_left
                  · (intro w hSw; (try dsimp only at hSw); go_simp); all_goals with_reducible rfl
                  try simp only [Act.put, List.setIfInBounds_toArray, List.set_cons_zero, List.set_cons_succ]
                  refine wpAnyH_take (i := 5) (oi := { dst := some 151, op := _, type := _, pos := _, after := _, guard := _ }) (v := ?_) rfl (by kernel_rfl) (by kernel_rfl) (by kernel_rfl) (fun _ _ _ h => h) (Or.inl ⟨by rfl, ?_⟩) hHeld ?_
                  rotate_left
                  · (intro w hSw; (try dsimp only at hSw); go_simp); all_goals with_reducible rfl
                  try simp only [Act.put, List.setIfInBounds_toArray, List.set_cons_zero, List.set_cons_succ]
                  refine wpAnyH_take (i := 6) (oi := { dst := some 152, op := _, type := _, pos := _, after := _, guard := _ }) (v := ?_) rfl (by kernel_rfl) (by kernel_rfl) (by kernel_rfl) (fun _ _ _ h => h) (Or.inl ⟨by rfl, ?_⟩) hHeld ?_
                  rotate_left
                  · (intro w hSw; (try dsimp only at hSw); go_simp); all_goals with_reducible rfl
                  try simp only [Act.put, List.setIfInBounds_toArray, List.set_cons_zero, List.set_cons_succ]
                  refine wpAnyH_take (i := 7) (oi := { dst := some 153, op := _, type := _, pos := _, after := _, guard := _ }) (v := ?_) rfl (by kernel_rfl) (by kernel_rfl) (by kernel_rfl) (fun _ _ _ h => h) (Or.inl ⟨by rfl, ?_⟩) hHeld ?_
                  rotate_left
                  · (intro w hSw; (try dsimp only at hSw); go_simp); all_goals with_reducible rfl
                  try simp only [Act.put, List.setIfInBounds_toArray, List.set_cons_zero, List.set_cons_succ]
                  refine wpAnyH_ready (rs := [8]) (by kernel_rfl) (by simp) (AllReadyH.cons (o := _) rfl (fun K hK => ?_) AllReadyH.nil)
                  go_simp
                  refine (SameMerit_t m.s p m.p _ HPC.out).mono ?_
                  rintro e w3 ⟨rfl, b3⟩
                  have HCL := Lib.hid (HCK.out.below b3)
                  have HDE := Lib.hid (kb_below b3 HDD.out)
                  have hnb4 := bl_then hnb3.out b3
                  refine hK.out _ _ ⟨⟨kb_cell HDE.out 0, kb_cell HDE.out 1⟩, HCL.out.m.cell HM.out, HCL.out.s.cell HST.out⟩ (fun hHeld => ?_)
                  clear hK K b3 HCK HDD hnb3
                  have hz : (x.strikes != x.strikes) = false := by simp
                  refine wpAnyH_take (i := 9) (oi := { dst := some 155, op := _, type := _, pos := _, after := _, guard := _ }) (v := ?_) rfl (by kernel_rfl) (by kernel_rfl) (by kernel_rfl) (fun _ _ _ h => h) (Or.inl ⟨by rfl, ?_⟩) hHeld ?_
                  rotate_left
                  · (intro w hSw; (try dsimp only at hSw); go_simp); all_goals with_reducible rfl
                  try simp only [Act.put, List.setIfInBounds_toArray, List.set_cons_zero, List.set_cons_succ]
                  refine wpAnyH_take (i := 10) (oi := { dst := some 156, op := _, type := _, pos := _, after := _, guard := _ }) (v := ?_) rfl (by kernel_rfl) (by kernel_rfl) (by kernel_rfl) (fun _ _ _ h => h) (Or.inl ⟨by rfl, ?_⟩) hHeld ?_
                  rotate_left
                  · (intro w hSw; (try dsimp only at hSw); go_simp); all_goals with_reducible rfl
                  try simp only [Act.put, List.setIfInBounds_toArray, List.set_cons_zero, List.set_cons_succ]
                  refine wpAnyH_take (i := 11) (oi := { dst := some 157, op := _, type := _, pos := _, after := _, guard := _ }) (v := ?_) rfl (by kernel_rfl) (by kernel_rfl) (by kernel_rfl) (fun _ _ _ h => h) (Or.inl ⟨by rfl, ?_⟩) hHeld ?_
                  rotate_left
                  · (intro w hSw; (try dsimp only at hSw); go_simp); all_goals with_reducible rfl
                  try simp only [Act.put, List.setIfInBounds_toArray, List.set_cons_zero, List.set_cons_succ]
                  refine wpAnyH_take (i := 12) (oi := { dst := some 158, op := _, type := _, pos := _, after := _, guard := _ }) (v := ?_) rfl (by kernel_rfl) (by kernel_rfl) (by kernel_rfl) (fun _ _ _ h => h) (Or.inl ⟨by rfl, ?_⟩) hHeld ?_
                  rotate_left
                  · (intro w hSw; (try dsimp only at hSw); go_simp); all_goals with_reducible rfl
                  try simp only [Act.put, List.setIfInBounds_toArray, List.set_cons_zero, List.set_cons_succ]
                  refine wpAnyH_take (i := 13) (oi := { dst := some 159, op := _, type := _, pos := _, after := _, guard := _ }) (v := ?_) rfl (by kernel_rfl) (by kernel_rfl) (by kernel_rfl) (fun _ _ _ h => h) (Or.inl ⟨by rfl, ?_⟩) hHeld ?_
                  rotate_left
                  · (intro w hSw; (try dsimp only at hSw); go_simp); all_goals with_reducible rfl
                  try simp only [Act.put, List.setIfInBounds_toArray, List.set_cons_zero, List.set_cons_succ]
                  refine wpAnyH_take (i := 15) (oi := { dst := some 161, op := _, type := _, pos := _, after := _, guard := _ }) (v := ?_) rfl (by kernel_rfl) (by kernel_rfl) (by kernel_rfl) (fun _ _ _ h => h) (Or.inl ⟨by rfl, ?_⟩) hHeld ?_
                  rotate_left
                  · (intro w hSw; (try dsimp only at hSw); go_simp); all_goals with_reducible rfl
                  try simp only [Act.put, List.setIfInBounds_toArray, List.set_cons_zero, List.set_cons_succ]
                  refine wpAnyH_take (i := 16) (oi := { dst := some 162, op := _, type := _, pos := _, after := _, guard := _ }) (v := ?_) rfl (by kernel_rfl) (by kernel_rfl) (by kernel_rfl) (fun _ _ _ h => h) (Or.inl ⟨by rfl, ?_⟩) hHeld ?_
                  rotate_left
                  · (intro w hSw; (try dsimp only at hSw); go_simp); all_goals with_reducible rfl
                  try simp only [Act.put, List.setIfInBounds_toArray, List.set_cons_zero, List.set_cons_succ]
                  refine wpAnyH_take (i := 17) (oi := { dst := some 163, op := _, type := _, pos := _, after := _, guard := _ }) (v := ?_) rfl (by kernel_rfl) (by kernel_rfl) (by kernel_rfl) (fun _ _ _ h => h) (Or.inl ⟨by rfl, ?_⟩) hHeld ?_
                  rotate_left
                  · (intro w hSw; (try dsimp only at hSw); go_simp); all_goals with_reducible rfl
                  try simp only [Act.put, List.setIfInBounds_toArray, List.set_cons_zero, List.set_cons_succ]
                  refine wpAnyH_take (i := 18) (oi := { dst := some 164, op := _, type := _, pos := _, after := _, guard := _ }) (v := ?_) rfl (by kernel_rfl) (by kernel_rfl) (by kernel_rfl) (fun _ _ _ h => h) (Or.inl ⟨by rfl, ?_⟩) hHeld ?_
                  rotate_left
                  · (intro w hSw; (try dsimp only at hSw); go_simp); all_goals with_reducible rfl
                  try simp only [Act.put, List.setIfInBounds_toArray, List.set_cons_zero, List.set_cons_succ]
                  refine wpAnyH_ready (rs := [14]) (by kernel_rfl) (by simp) (AllReadyH.cons (o := _) rfl (fun K hK => ?_) AllReadyH.nil)
                  go_simp
                  refine (qStrikes_q HCL.out.p i).mono ?_
                  rintro e w4 ⟨rfl, rfl⟩
                  rw [HX.out.2.2]
                  refine hK.out _ _ hHeld (fun hHeld => ?_)
                  clear hK K
                  refine wpAnyH_take (i := 19) (oi := { dst := some 165, op := _, type := _, pos := _, after := _, guard := _ }) (v := ?_) rfl (by kernel_rfl) (by kernel_rfl) (by kernel_rfl) (fun _ _ _ h => h) (Or.inl ⟨by rfl, ?_⟩) hHeld ?_
                  rotate_left
                  · (intro w hSw; (try dsimp only at hSw); go_simp); all_goals with_reducible rfl
                  try simp only [Act.put, List.setIfInBounds_toArray, List.set_cons_zero, List.set_cons_succ]
                  refine wpAnyH_take (i := 20) (oi := { dst := some 166, op := _, type := _, pos := _, after := _, guard := _ }) (v := ?_) rfl (by kernel_rfl) (by kernel_rfl) (by kernel_rfl) (fun _ _ _ h => h) (Or.inl ⟨by rfl, ?_⟩) hHeld ?_
                  rotate_left
                  · (intro w hSw; (try dsimp only at hSw); go_simp); all_goals with_reducible rfl
                  try simp only [Act.put, List.setIfInBounds_toArray, List.set_cons_zero, List.set_cons_succ]
                  refine wpAnyH_done (by kernel_rfl) ?_ _
                  clear HCL HDE HPC HX HE HM HST hHeld hz
                  go_wp2
                  go_roundw
                  case rel => exact ⟨i + 1, by omega, by go_num, hnb4⟩
                  case measure => simp [intOf]; omega
                · obtain rfl : i = n := by omega
                  go_wp2
                  go_roundw
                  case rel => exact ⟨k + 1, X9, ms9, st9, by omega, by go_num, HC9.out.below hnb, bl_then b09 hnb⟩
                  case measure => simp [intOf]; omega
      · obtain rfl : k = n2 := by omega
        go_wp2
        go_ret
        exact ⟨rfl, hnx⟩
theorem PeersCount_walk (A0 A1 A2 : Option Addr) (cap0 cap1 cap2 : Nat) (zs us : List Int) (l : List Ac) (w : World) (hZ : KRow .i64 w A0 zs) (hU : KRow .u64 w A1 us) (hA : ARow w A2 l) (hu : ∀ u ∈ us, u.toNat < 18446744073709551616) :
    Calls Try.prog 4 #[.slice A0 zs.length cap0, .slice A1 us.length cap1, .slice A2 l.length cap2] w fun e w' => e = .returned (.bool true) ∧ Below w.heap.size w w' := by
  by_cases h0 : 16 < zs.length
  · exact PeersCount_long _ _ _ _ _ _ _ _ _ _ (.inl h0)
  by_cases h2 : 60 < l.length
  · exact PeersCount_long _ _ _ _ _ _ _ _ _ _ (.inr ⟨by omega, h2⟩)
  exact PeersCount_short A0 A1 A2 cap0 cap1 cap2 zs us l w (by omega) (by omega) hZ hU hA hu
end Go.Proofs.Ytlnhofpjeinadaa
