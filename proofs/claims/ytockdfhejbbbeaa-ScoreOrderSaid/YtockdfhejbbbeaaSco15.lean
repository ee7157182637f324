/- The reference's Rank. -/
import Derived.Test.YtockdfhejbbbeaaSco7
import Derived.Outline
import Derived.Deep.CutBlock
import Derived.Deep.DeepCutAuto
namespace Go.Proofs.Ytockdfhejbbbeaa
open Go.RowKit Go.Proofs.Ytockdfhejbbbeaa.Pc Go.Proofs.Ytockdfhejbbbeaa.Sy BigFrame
attribute [local go_sem] run_store_float
set_option linter.unusedSimpArgs false
set_option linter.unusedVariables false

theorem rank_lay {ms : List Mr} (hF : Fit ms) {S : List Nat} {i c : Nat} (hp : S.Perm (List.range i)) (hs : Srt (ltM ms) S) (hc : c ≤ S.length) (c1 : 0 < c → ltM ms i (S.getD (c - 1) 0) = false) (c2 : c < S.length → ltM ms i (S.getD c 0) = true) :
    (S.take c ++ i :: S.drop c).Perm (List.range (i + 1)) ∧ Srt (ltM ms) (S.take c ++ i :: S.drop c) := by
  refine ⟨?_, srt_lay (ltM_strict hF) hs hc (fun z hz e => by have := List.mem_range.1 (hp.subset hz); omega) c1 c2⟩
  rw [List.range_succ]
  exact (perm_lay S i c).trans (hp.append_right _)

theorem own_bel {w w' : World} {B e size n : Nat} {v : Value} {xs : List Value} (h : w.ownsRow B e size v n xs) (hb : Below w.heap.size w w') : w'.ownsRow B e size v n xs :=
  ⟨h.1, h.2.imp id fun ⟨g, cap, cur, hv, hB, hh, r⟩ => ⟨g, cap, cur, hv, hB, (hb.block g (kb_lt hh)).trans hh, r⟩⟩
theorem own_take {w : World} {B e n cap : Nat} {A : Option Addr} {xs : List Value} (h : w.ownsRow B e 1 (.slice A n cap) n xs) {c : Nat} (hc : c ≤ n) : w.ownsRow B e 1 (.slice A c cap) c (xs.take c) := by
  have hl := h.1
  refine ⟨by rw [List.length_take]; omega, ?_⟩
  rcases h.2 with ⟨hv, h0⟩ | ⟨g, cap', cur, hv, hB, hh, h1, h2, h3, h4⟩
  · simp only [Value.slice.injEq] at hv
    obtain ⟨rfl, rfl, rfl⟩ := hv
    have : c = 0 := by omega
    subst this
    exact .inl ⟨rfl, rfl⟩
  · simp only [Value.slice.injEq] at hv
    obtain ⟨rfl, _, rfl⟩ := hv
    refine .inr ⟨g, cap, cur, rfl, hB, hh, by omega, h2, h3, ?_⟩
    rw [← h4, List.take_take]
    congr 1
    omega
theorem lit_own {a b j : Nat} {n c : Nat} (h : a ≤ b) (hj : (Value.slice (some ⟨b, 0, none⟩) n c).ownBlock = some j) : a ≤ j := by
  have : b = j := by simpa [Value.ownBlock] using hj
  omega
theorem own_cap {w : World} {B e n cap : Nat} {A : Option Addr} {xs : List Value} (h : w.ownsRow B e 1 (.slice A n cap) n xs) : n ≤ cap := by
  rcases h.2 with ⟨hv, h0⟩ | ⟨g, cap', cur, hv, hB, hh, h1, h2, h3, h4⟩
  · omega
  · simp only [Value.slice.injEq] at hv
    obtain ⟨_, _, rfl⟩ := hv
    exact h1
theorem row_none {w : World} {A : Option Addr} {n cap : Nat} {xs : List Value} (hn : n = 0) (hx : xs.length = 0) : RowOf w (.slice A n cap) n xs := ⟨_, _, rfl, by omega, fun h => by omega⟩
theorem own_blk (A : Option Addr) (n m c d : Nat) : (Value.slice A n c).ownBlock = (Value.slice A m d).ownBlock := by
  rcases A with _ | ⟨b, o, sp⟩
  · rfl
  · rfl
theorem last_lay {S : List Nat} {c : Nat} (h : S.length = c) : (ivs S).take c ++ [.int .i64 (c : Int)] = ivs (S.take c ++ c :: S.drop c) := by
  subst h
  rw [List.drop_length, List.take_length]
  rw [show (ivs S).take S.length = ivs S by rw [← ivs_len S, List.take_length]]
  simp [ivs]
theorem own_eq {w : World} {B e size n n' : Nat} {v : Value} {xs xs' : List Value} (h : w.ownsRow B e size v n xs) (hn : n = n') (hx : xs = xs') : w.ownsRow B e size v n' xs' := by subst hn hx; exact h
theorem ivs_one (S : List Nat) : ∀ u ∈ ivs S, u.oneCell' = true := by
  intro u hu
  obtain ⟨x, _, rfl⟩ := List.mem_map.1 hu
  rfl
theorem row_drop {w : World} {n cap cap' : Nat} {A : Option Addr} {xs : List Value} (h : RowOf w (.slice A n cap) n xs) {c : Nat} (hc : c ≤ n) : RowOf w (.slice (Option.map (fun x => x.add c) A) (n - c) cap') (n - c) (xs.drop c) := by
  obtain ⟨A', cap0, e, hl, h⟩ := h
  simp only [Value.slice.injEq] at e
  obtain ⟨rfl, _, _⟩ := e
  refine ⟨_, _, rfl, by rw [List.length_drop]; omega, fun h0 => ?_⟩
  obtain ⟨b, off, rfl, hlt, hcell⟩ := h (by omega)
  refine ⟨b, off + c, by rw [Option.map_some, addr_add], hlt, fun j u hu => ?_⟩
  rw [List.getElem?_drop] at hu
  rw [Nat.add_assoc]
  exact hcell _ _ hu

set_option maxRecDepth 100000 in
set_option maxHeartbeats 8000000 in
theorem rRank_any (v : Value) (ms : List Mr) (w : World) (hM : MRow w v ms) (hF : Fit ms) (hl : ms.length ≤ 30) :
    Calls Try.prog 23 #[v] w (RankOut ms w) := by
  obtain ⟨i0, hInf, hz0, hz1, hz2⟩ := info_parts infoI
  obtain ⟨A, cap, rfl, hc⟩ := hM
  have HC := Lib.hid hc
  have HF := Lib.hid hF
  obtain ⟨n, hn⟩ : ∃ n, ms.length = n := ⟨_, rfl⟩
  have HN := Lib.hid hn
  rw [hn] at hl ⊢
  clear hc hF hn
  go_enter Try.func23, Try.ntmps23
  go_wp2
  go_loopw [3, 4, 5, 6, 7, 8, 9, 10, 11, 12, 13, 14, 15, 16, 17, 18, 19, 20, 21, 22, 23, 24, 25, 26, 27, 28, 29, 30, 31, 32, 33, 34, 35, 36, 37, 38, 39, 40, 41, 42, 43, 44, 45, 46] (fun s3 s4 _ _ _ _ _ _ _ _ _ _ _ _ _ _ _ _ _ _ _ _ _ _ _ _ _ _ _ _ _ _ _ _ _ _ _ _ _ _ _ _ _ _ wr => ∃ (i : Nat) (S : List Nat), i ≤ n ∧ s4 = .int .i64 i ∧ Hid (S.Perm (List.range i) ∧ Srt (ltM ms) S) ∧ Hid (wr.ownsRow w.heap.size 3 1 s3 i (ivs S)) ∧ Below w.heap.size w wr) (fun _ s4 _ _ _ _ _ _ _ _ _ _ _ _ _ _ _ _ _ _ _ _ _ _ _ _ _ _ _ _ _ _ _ _ _ _ _ _ _ _ _ _ _ _ _ => n - (intOf s4).toNat)
  case atStart => exact ⟨0, [], by omega, rfl, ⟨List.Perm.refl _, List.Pairwise.nil⟩, World.ownsRow_nil _ _ _ _, Below.refl _ _⟩
  case round =>
    obtain ⟨i, S, hi, rfl, HS, hown, hnx⟩ := hrel
    by_cases hlt : i < n
    · have hSl : Hid (S.length = i) := Lib.hid (by rw [HS.out.1.length_eq, List.length_range])
      obtain ⟨A3, cap3, hv3⟩ := owns_slice0 hown.out
      subst hv3
      obtain ⟨b, off, rfl, hb, hcc⟩ := HC.out (by have := HN.out; omega)
      obtain ⟨c1, c2⟩ := hcc i _ (mrAt_some (by have := HN.out; omega))
      have a1 := (hnx.cell (by exact hb)).trans c1
      have a2 := (hnx.cell (by exact hb)).trans c2
      have HA := Lib.hid (And.intro a1 a2)
      have HCC := Lib.hid hcc
      obtain ⟨wo, hwo⟩ : ∃ wo : World, wo = wr := ⟨_, rfl⟩
      have HO := Lib.hid hown.out
      rw [← hwo] at HO HA hnx
      clear c1 c2 hcc HC a1 a2 hown
      go_upto_block 2 with fail
      go_cut [5] from 13 to 33 (fun s5 wx => ∃ c : Nat, c ≤ i ∧ s5 = .int .i64 c ∧ Hid ((0 < c → ltM ms i (S.getD (c - 1) 0) = false) ∧ (c < S.length → ltM ms i (S.getD c 0) = true)) ∧ Below wo.heap.size wo wx)
      case first =>
        go_wp2_with fail
        go_loopw [5, 15, 16, 17, 18, 19, 20, 21, 22, 23, 24, 25, 26, 27, 28, 29, 30, 31, 32, 33] (fun s5 _ _ _ _ _ _ _ _ _ _ _ _ _ _ _ _ _ _ _ wr => ∃ c : Nat, c ≤ i ∧ s5 = .int .i64 c ∧ Hid (c < i → ltM ms i (S.getD c 0) = true) ∧ Below wo.heap.size wo wr) (fun s5 _ _ _ _ _ _ _ _ _ _ _ _ _ _ _ _ _ _ _ _ => (intOf s5).toNat)
        case atStart => exact ⟨i, Nat.le_refl _, rfl, fun h => by omega, hwo ▸ Below.refl _ _⟩
        case round =>
          obtain ⟨c, hci, rfl, HLt, hn2⟩ := hrel
          by_cases h0 : c = 0
          · subst h0
            have hd : decide ((0 : Int) < ((0 : Nat) : Int)) = false := by simp
            go_wp2_with fail
            (refine wp_region_below (by kernel_rfl) (by kernel_rfl) ?_; (repeat (first | go_big_quiet_skip | (go_big_quiet_want; first | (go_big_quiet_op; go_big_quiet_on) | (apply Exists.intro; refine ⟨fun W hW => ?_, ?_⟩; (focus (unfold Oper.quietAt; go_simp; first | exact rfl | exact ⟨rfl, rfl⟩)); go_big_quiet_on; simp only [Act.put, List.setIfInBounds_toArray, List.set_cons_succ, List.set_cons_zero])))); refine wpQuiet_nil ?_; intro w1 hb1; have hz1 := hb1.size)
            go_wp2
            go_meet
            case rel => exact ⟨0, by omega, rfl, ⟨fun h => by omega, fun h => HLt.out (by have := hSl.out; omega)⟩, by (repeat (with_reducible (first | exact Below.refl _ _ | assumption | refine bl_alloc ?_ _ | refine bl_drew ?_ | refine bl_drewN ?_ _ | (refine bl_set ?_ ?_ _; (focus (first | (simp; done) | (simp; omega) | omega))) | refine bl_then ?_ (by assumption))))⟩
          · obtain ⟨d, rfl⟩ : ∃ d, c = d + 1 := ⟨c - 1, by omega⟩
            have hdi : d < i := by omega
            obtain ⟨A', cap', e', hl', hcl⟩ := RowOf.of_own HO.out
            simp only [Value.slice.injEq] at e'
            obtain ⟨rfl, _, rfl⟩ := e'
            obtain ⟨g, og, rfl, hgl, hcell⟩ := hcl (by omega)
            obtain ⟨j, hj⟩ : ∃ j, S.getD d 0 = j := ⟨_, rfl⟩
            have hdS : d < S.length := by have := hSl.out; omega
            have hji : j < i := hj ▸ List.mem_range.1 (HS.out.1.subset (getD_mem hdS))
            have g0 := (hn2.cell (by exact hgl)).trans (hcell d (.int .i64 (j : Int)) (by rw [ivs, List.getElem?_map, List.getElem?_eq_getElem hdS, ← getD_at hdS, hj]; rfl))
            have hsz := hn2.size
            have hgr : g < wr.heap.size := by omega
            have hbo : b < wo.heap.size := Nat.lt_of_lt_of_le hb hnx.size
            have hbr : b < wr.heap.size := by omega
            obtain ⟨e1, e2⟩ := HA.out
            obtain ⟨e3, e4⟩ := HCC.out j _ (mrAt_some (by have := HN.out; omega))
            have a1 := (hn2.cell (by exact hbo)).trans e1
            have a2 := (hn2.cell (by exact hbo)).trans e2
            have a3 := ((bl_then hnx hn2).cell (by exact hb)).trans e3
            have a4 := ((bl_then hnx hn2).cell (by exact hb)).trans e4
            have p1 := HF.out.at i
            have p2 := HF.out.at j
            have hcf : betM (mrAt ms i).s (mrAt ms i).p (mrAt ms j).s (mrAt ms j).p = ltM ms i j := ltM_up (ms := ms) hji
            have HBT := Lib.hid (fun W => rBetter_any (mrAt ms i).s (mrAt ms i).p (mrAt ms j).s (mrAt ms j).p W p1 p2)
            rw [hcf] at HBT
            generalize mrAt ms i = x at *
            generalize mrAt ms j = y at *
            have HJ := Lib.hid hj
            have hjn : (j : Int) < (n : Int) := by omega
            clear e1 e2 e3 e4 hcf p1 p2 hcell hcl hl' hj hdS h0
            rw [show ((d + 1 : Nat) : Int) = (d : Int) + 1 by omega]
            have r1 : IntKind.i64.wrap (d : Int) = (d : Int) := by rw [IntKind.wrap_i64]; omega
            have r2 : (0 : Int) < (d : Int) + 1 := by omega
            have r6 : (d : Int) < (i : Int) := by omega
            cases hlv : ltM ms i j
            · rw [hlv] at HBT
              go_wp2_with fail
              (refine wp_region_below (by kernel_rfl) (by kernel_rfl) ?_; (repeat (first | go_big_quiet_skip | (go_big_quiet_want; first | (go_big_quiet_op; go_big_quiet_on) | (apply Exists.intro; refine ⟨fun W hW => ?_, ?_⟩; (focus (have a1_r := (hW.cell (by exact hbr)).trans a1; have a2_r := (hW.cell (by exact hbr)).trans a2; have a3_r := (hW.cell (by exact hbr)).trans a3; have a4_r := (hW.cell (by exact hbr)).trans a4; have g0_r := (hW.cell (by exact hgr)).trans g0; unfold Oper.quietAt; go_simp; first | exact rfl | exact ⟨rfl, rfl⟩ | (go_at_call 26; exact q_call hW (HBT.out _)))); go_big_quiet_on; simp only [Act.put, List.setIfInBounds_toArray, List.set_cons_succ, List.set_cons_zero])))); refine wpQuiet_nil ?_; intro w1 hb1; have hz1 := hb1.size)
              go_wp2
              go_meet
              case rel => exact ⟨d + 1, by omega, by go_num, ⟨fun _ => by rw [Nat.add_sub_cancel, HJ.out]; exact hlv, fun h => HLt.out (by have := hSl.out; omega)⟩, by (repeat (with_reducible (first | exact Below.refl _ _ | assumption | refine bl_alloc ?_ _ | refine bl_drew ?_ | refine bl_drewN ?_ _ | (refine bl_set ?_ ?_ _; (focus (first | (simp; done) | (simp; omega) | omega))) | refine bl_then ?_ (by assumption))))⟩
            · rw [hlv] at HBT
              go_wp2_with fail
              (refine wp_region_below (by kernel_rfl) (by kernel_rfl) ?_; (repeat (first | go_big_quiet_skip | (go_big_quiet_want; first | (go_big_quiet_op; go_big_quiet_on) | (apply Exists.intro; refine ⟨fun W hW => ?_, ?_⟩; (focus (have a1_r := (hW.cell (by exact hbr)).trans a1; have a2_r := (hW.cell (by exact hbr)).trans a2; have a3_r := (hW.cell (by exact hbr)).trans a3; have a4_r := (hW.cell (by exact hbr)).trans a4; have g0_r := (hW.cell (by exact hgr)).trans g0; unfold Oper.quietAt; go_simp; first | exact rfl | exact ⟨rfl, rfl⟩ | (go_at_call 26; exact q_call hW (HBT.out _)))); go_big_quiet_on; simp only [Act.put, List.setIfInBounds_toArray, List.set_cons_succ, List.set_cons_zero])))); refine wpQuiet_nil ?_; intro w1 hb1; have hz1 := hb1.size)
              go_wp2
              go_roundw
              case rel => exact ⟨d, by omega, by go_num, fun _ => by rw [HJ.out]; exact hlv, by (repeat (with_reducible (first | exact Below.refl _ _ | assumption | refine bl_alloc ?_ _ | refine bl_drew ?_ | refine bl_drewN ?_ _ | (refine bl_set ?_ ?_ _; (focus (first | (simp; done) | (simp; omega) | omega))) | refine bl_then ?_ (by assumption))))⟩
              case measure => simp [intOf]
      case rest =>
        obtain ⟨c, hci, rfl, HCC2, hn2⟩ := hcut
        have OC := Lib.hid (own_bel HO.out hn2)
        have HOUT := Lib.hid (rank_lay HF.out HS.out.1 HS.out.2 (by have := hSl.out; omega) HCC2.out.1 HCC2.out.2)
        have hbase : w.heap.size ≤ wc.heap.size := Nat.le_trans hnx.size hn2.size
        have hA3 : ∀ q, (Value.slice A3 i cap3).ownBlock = some q → q < wc.heap.size := fun q hq => (OC.out.lt q hq).2
        have HA3 := Lib.hid hA3
        have HB := Lib.hid (bl_then hnx hn2)
        clear hA3 HCC2 HCC HA
        have hcap := own_cap OC.out
        by_cases hk : c < cap3
        · have hk' : ¬ c = cap3 := by omega
          have hk2 : (c : Int) < (cap3 : Int) := by omega
          go_wp2_with (at_builtin; refine wpList_append_row _ rfl (.tmp 34) (.tmp 37) 35 rfl w.heap.size 3 i0 (.int .i64 0) 8 Try.underlying35 hInf hz0 hz1 hz2 rfl _ 0 [] rfl (owns_lit0 (kb_new rfl _) hbase rfl) _ (i - c) ((ivs S).drop c) rfl ?cu ?c2 ?c3 ?c4 ?c5 ?_)
          case cu => exact row_drop ((RowOf.of_own OC.out).alloc _) hci
          case c2 => exact fun u hu => ivs_one S u (List.mem_of_mem_drop hu)
          case c3 => unfold maxLen; omega
          case c4 => omega
          case c5 => simp; omega
          intro v1 w1 hown1 hg1 _ hob1
          have O1 := (OC.out.alloc (.cells #[] 3)).kept hg1 (.inr (fun e => by have := HA3.out wc.heap.size e; omega))
          have hb1 : Below w.heap.size w w1 := ((bl_alloc HB.out _).grown hg1 (by simp; omega) (fun j hj => lit_own hbase hj))
          have hv1 : ∀ q, v1.ownBlock = some q → wc.heap.size ≤ q := by
            intro q hq
            rcases hob1 with e | e
            · rw [e] at hq
              have : wc.heap.size = q := by simpa [Value.ownBlock] using hq
              omega
            · rw [e] at hq
              simp at hq
              omega
          have OO1 := Lib.hid O1
          have OR1 := Lib.hid hown1
          have HV1 := Lib.hid hv1
          have HB1 := Lib.hid hb1
          clear O1 hown1 hg1 hob1 hv1 hb1 hnx hn2 hwo
          go_wp2_with (at_builtin; refine wpList_append_row _ rfl (.tmp 41) (.tmp 43) 35 rfl w.heap.size 3 i0 (.int .i64 0) 8 Try.underlying35 hInf hz0 hz1 hz2 rfl _ c ((ivs S).take c) rfl ((own_take OO1.out hci).alloc _) _ 1 [.int .i64 (i : Int)] rfl (RowOf.lit (kb_new rfl _) rfl) ?d2 ?d3 ?d4 ?d5 ?_)
          case d2 => intro u hu; rw [List.mem_singleton] at hu; subst hu; rfl
          case d3 => unfold maxLen; omega
          case d4 => omega
          case d5 => have := HB1.out.size; simp; omega
          intro v2 w2 hown2 hg2 _ hob2
          have R2 : RowOf w2 v1 (i - c) ((ivs S).drop c) := ((RowOf.of_own OR1.out).alloc _).keep (S := fun b => (Value.slice A3 c cap3).ownBlock = some b) ((Keep.refl _ _).grown hg2 (fun b _ hb => hb)) (fun q hq e => by
            have h1 := HV1.out q hq
            have h2 := HA3.out q ((own_blk _ _ _ _ _).trans e)
            omega)
          have hb2 : Below w.heap.size w w2 := (bl_alloc HB1.out _).grown hg2 (by have := HB1.out.size; simp; omega) (fun j hj => (OO1.out.lt j ((own_blk _ _ _ _ _).trans hj)).1)
          have OR2 := Lib.hid hown2
          have RR2 := Lib.hid R2
          have HB2 := Lib.hid hb2
          clear hown2 hg2 hob2 R2 hb2
          go_wp2_with (at_builtin; refine wpList_append_row _ rfl (.tmp 44) (.tmp 45) 35 rfl w.heap.size 3 i0 (.int .i64 0) 8 Try.underlying35 hInf hz0 hz1 hz2 rfl _ (c + 1) _ rfl OR2.out _ (i - c) _ rfl RR2.out ?e2 ?e3 ?e4 ?e5 ?_)
          case e2 => exact fun u hu => ivs_one S u (List.mem_of_mem_drop hu)
          case e3 => unfold maxLen; omega
          case e4 => omega
          case e5 => exact HB2.out.size
          intro v3 w3 hown3 hg3 _ _
          have OR3 := Lib.hid (own_eq hown3 (show c + 1 + (i - c) = i + 1 by omega) (show (ivs S).take c ++ .int .i64 (i : Int) :: (ivs S).drop c = ivs (S.take c ++ i :: S.drop c) by simp [ivs, List.map_take, List.map_drop]))
          have hb3 : Below w.heap.size w w3 := HB2.out.grown hg3 HB2.out.size (fun j hj => (OR2.out.lt j hj).1)
          clear hown3 hg3
          go_wp2
          go_roundw
          case rel => exact ⟨i + 1, S.take c ++ i :: S.drop c, by omega, by go_num, HOUT.out, OR3.out, hb3⟩
          case measure => simp [intOf]; omega
        · obtain rfl : c = i := by omega
          obtain rfl : c = cap3 := by omega
          go_wp2_with (at_builtin; refine wpList_append_row _ rfl (.tmp 34) (.tmp 37) 35 rfl w.heap.size 3 i0 (.int .i64 0) 8 Try.underlying35 hInf hz0 hz1 hz2 rfl _ 0 [] rfl (owns_lit0 (kb_new rfl _) hbase rfl) _ 0 [] rfl ?fcu ?fc2 ?fc3 ?fc4 ?fc5 ?_)
          case fcu => exact row_none rfl rfl
          case fc2 => exact fun u hu => by cases hu
          case fc3 => unfold maxLen; omega
          case fc4 => omega
          case fc5 => simp; omega
          intro v1 w1 hown1 hg1 _ hob1
          have O1 := (OC.out.alloc (.cells #[] 3)).kept hg1 (.inr (fun e => by have := HA3.out wc.heap.size e; omega))
          have hb1 : Below w.heap.size w w1 := ((bl_alloc HB.out _).grown hg1 (by simp; omega) (fun j hj => lit_own hbase hj))
          have hv1 : ∀ q, v1.ownBlock = some q → wc.heap.size ≤ q := by
            intro q hq
            rcases hob1 with e | e
            · rw [e] at hq
              have : wc.heap.size = q := by simpa [Value.ownBlock] using hq
              omega
            · rw [e] at hq
              simp at hq
              omega
          have OO1 := Lib.hid O1
          have OR1 := Lib.hid hown1
          have HV1 := Lib.hid hv1
          have HB1 := Lib.hid hb1
          clear O1 hown1 hg1 hob1 hv1 hb1 hnx hn2 hwo
          go_wp2_with (at_builtin; refine wpList_append_row _ rfl (.tmp 41) (.tmp 43) 35 rfl w.heap.size 3 i0 (.int .i64 0) 8 Try.underlying35 hInf hz0 hz1 hz2 rfl _ c ((ivs S).take c) rfl ((own_take OO1.out hci).alloc _) _ 1 [.int .i64 (c : Int)] rfl (RowOf.lit (kb_new rfl _) rfl) ?fd2 ?fd3 ?fd4 ?fd5 ?_)
          case fd2 => intro u hu; rw [List.mem_singleton] at hu; subst hu; rfl
          case fd3 => unfold maxLen; omega
          case fd4 => omega
          case fd5 => have := HB1.out.size; simp; omega
          intro v2 w2 hown2 hg2 _ hob2
          have R2 : RowOf w2 v1 0 [] := ((RowOf.of_own OR1.out).alloc _).keep (S := fun b => (Value.slice A3 c c).ownBlock = some b) ((Keep.refl _ _).grown hg2 (fun b _ hb => hb)) (fun q hq e => by
            have h1 := HV1.out q hq
            have h2 := HA3.out q ((own_blk _ _ _ _ _).trans e)
            omega)
          have hb2 : Below w.heap.size w w2 := (bl_alloc HB1.out _).grown hg2 (by have := HB1.out.size; simp; omega) (fun j hj => (OO1.out.lt j ((own_blk _ _ _ _ _).trans hj)).1)
          have OR2 := Lib.hid hown2
          have RR2 := Lib.hid R2
          have HB2 := Lib.hid hb2
          clear hown2 hg2 hob2 R2 hb2
          go_wp2_with (at_builtin; refine wpList_append_row _ rfl (.tmp 44) (.tmp 45) 35 rfl w.heap.size 3 i0 (.int .i64 0) 8 Try.underlying35 hInf hz0 hz1 hz2 rfl _ (c + 1) _ rfl OR2.out _ 0 _ rfl RR2.out ?fe2 ?fe3 ?fe4 ?fe5 ?_)
          case fe2 => exact fun u hu => by cases hu
          case fe3 => unfold maxLen; omega
          case fe4 => omega
          case fe5 => exact HB2.out.size
          intro v3 w3 hown3 hg3 _ _
          have OR3 := Lib.hid (own_eq hown3 (show c + 1 = c + 1 from rfl) (last_lay hSl.out))
          have hb3 : Below w.heap.size w w3 := HB2.out.grown hg3 HB2.out.size (fun j hj => (OR2.out.lt j hj).1)
          clear hown3 hg3
          go_wp2
          go_roundw
          case rel => exact ⟨c + 1, S.take c ++ c :: S.drop c, by omega, by go_num, HOUT.out, OR3.out, hb3⟩
          case measure => simp [intOf]; omega
    · obtain rfl : i = n := by omega
      have HR := Lib.hid (RowOf.of_own hown.out)
      have hl := HS.out.1.length_eq
      go_wp2
      go_ret
      exact ⟨_, S, rfl, by rw [HN.out]; exact HS.out.1, HS.out.2, by rw [HN.out]; exact HR.out, hnx⟩
end Go.Proofs.Ytockdfhejbbbeaa
