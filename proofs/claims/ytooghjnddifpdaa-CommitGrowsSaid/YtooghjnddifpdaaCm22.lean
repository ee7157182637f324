/- Keys and validators; commit.Who and the document's. -/
import Derived.Test.YtooghjnddifpdaaGRow
import Derived.Test.YtooghjnddifpdaaCm15
namespace Go.Proofs.Ytooghjnddifpdaa
open Go.RowKit Go.Proofs.Ytooghjnddifpdaa.Cm BigFrame
set_option linter.unusedSimpArgs false
set_option linter.unusedVariables false
attribute [local go_sem] cell_alloc_some frozen_alloc_some

/-- A key, a validator. -/
structure K4 where
  a : UInt8
  b : UInt8
  c : UInt8
  d : UInt8
deriving DecidableEq
structure Vd where
  k : K4
  n : Int
deriving DecidableEq
def kcs (k : K4) : List Value := [u8v k.a, u8v k.b, u8v k.c, u8v k.d]
def dcs (d : Vd) : List Value := [u8v d.k.a, u8v d.k.b, u8v d.k.c, u8v d.k.d, .int .i64 d.n]
theorem kcs_len (k : K4) : (kcs k).length = 4 := rfl
theorem dcs_len (d : Vd) : (dcs d).length = 5 := rfl
theorem kcs_one (k : K4) : ∀ u ∈ kcs k, u.oneCell' = true := by intro u hu; simp [kcs] at hu; rcases hu with rfl | rfl | rfl | rfl <;> rfl
theorem dcs_one (d : Vd) : ∀ u ∈ dcs d, u.oneCell' = true := by intro u hu; simp [dcs] at hu; rcases hu with rfl | rfl | rfl | rfl | rfl <;> rfl
theorem infoKey : (Try.prog.info? 52).map (fun i => (i.zero, i.size, i.bytes)) = some (some (.agg #[.int .u8 0, .int .u8 0, .int .u8 0, .int .u8 0]), 4, 4) := by kernel_rfl
theorem infoD : (Try.prog.info? 89).map (fun i => (i.zero, i.size, i.bytes)) = some (some (.agg #[.int .u8 0, .int .u8 0, .int .u8 0, .int .u8 0, .int .i64 0]), 5, 16) := by kernel_rfl
abbrev KRow := GRow kcs
abbrev DRow := GRow dcs
theorem lit_key (w : World) (k : K4) : KRow (w.alloc (.cells #[u8v k.a, u8v k.b, u8v k.c, u8v k.d] 52)) (.slice (some ⟨w.heap.size, 0, none⟩) 1 1) [k] := GRow.lit (l := [k]) (kb_new rfl _) rfl
/-- Who voted. -/
def whoK (ks : List Vd) : List Vt → Option (List K4)
  | [] => some []
  | v :: L => match ks[v.p.toNat]? with
    | none => none
    | some k => (whoK ks L).map (k.k :: ·)
def whoE (ks : List Vd) (c : C) : Nat := if chk c ≠ 0 then chk c else if (whoK ks c.vs).isSome = true then 0 else 3
def whoL (ks : List Vd) (c : C) : List K4 := if whoE ks c = 0 then (whoK ks c.vs).getD [] else []
theorem whoL_no {ks : List Vd} {c : C} (h : whoE ks c ≠ 0) : whoL ks c = [] := by unfold whoL; rw [if_neg h]
/-- Who voted, in new memory. -/
def WhoOut (ks : List Vd) (c : C) (w : World) (e : Ending) (w' : World) : Prop := ∃ v', e = .returned (.tuple #[v', .int .i64 (whoE ks c : Int)]) ∧ w'.ownsRow w.heap.size 52 4 v' (whoL ks c).length (gcs kcs (whoL ks c)) ∧ Below w.heap.size w w'
theorem WhoOut.none {ks : List Vd} {c : C} {w w' : World} {e : Ending} {m : Int} (hn : whoE ks c ≠ 0) (hm : m = (whoE ks c : Int)) (he : e = .returned (.tuple #[.slice none 0 0, .int .i64 m])) (hb : Below w.heap.size w w') : WhoOut ks c w e w' := by
  refine ⟨_, by rw [he, hm], ?_, hb⟩
  rw [whoL_no hn]
  exact World.ownsRow_nil _ _ _ _
/-- So many votes are gone through. -/
def WhoAt (ks : List Vd) (l : List Vt) (k : Nat) (L : List K4) : Prop := whoK ks l = (whoK ks (l.drop k)).map (L ++ ·) ∧ L.length = k
theorem WhoAt.zero (ks : List Vd) (l : List Vt) : WhoAt ks l 0 [] := ⟨by simp, rfl⟩
theorem WhoAt.bad {ks : List Vd} {l : List Vt} {k : Nat} {L : List K4} (h : WhoAt ks l k L) (hk : k < l.length) (hb : ks.length ≤ (vAt l k).p.toNat) : whoK ks l = none := by
  rw [h.1, drop_at hk]
  unfold whoK
  rw [List.getElem?_eq_none hb]; rfl
theorem WhoAt.next {ks : List Vd} {l : List Vt} {k : Nat} {L : List K4} {d : Vd} (h : WhoAt ks l k L) (hk : k < l.length) (hd : ks[(vAt l k).p.toNat]? = some d) : WhoAt ks l (k + 1) (L ++ [d.k]) := by
  refine ⟨?_, by simp [h.2]⟩
  rw [h.1, drop_at hk]
  conv => lhs; unfold whoK
  rw [hd]
  simp only [Option.map_map]
  congr 1
  funext x
  simp
theorem WhoAt.end {ks : List Vd} {l : List Vt} {L : List K4} (h : WhoAt ks l l.length L) : whoK ks l = some L := by
  rw [h.1]; simp [whoK]

set_option maxRecDepth 100000 in
set_option maxHeartbeats 4000000 in
theorem Who_any {w : World} {c : C} {v s : Value} {ks : List Vd} (hx : c.x.length = 32) (hv : VRow w v c.vs) (hs : DRow w s ks) (hl : c.vs.length ≤ 1000000) (hk : ks.length ≤ 1000000) :
    Calls Try.prog 20 #[.agg (ccs c v).toArray, s] w (WhoOut ks c w) := by
  have q33 := ccs_33 hx v
  have HX := Lib.hid hx
  have HV := Lib.hid hv
  have HS := Lib.hid hs
  obtain ⟨A, cap, hvv⟩ := hv.form
  subst hvv
  obtain ⟨B, cap2, hss⟩ := hs.form
  subst hss
  clear hx hv hs
  obtain ⟨n, hn⟩ : ∃ n, c.vs.length = n := ⟨_, rfl⟩
  have HN := Lib.hid hn
  rw [hn] at hl HV q33 ⊢
  clear hn
  obtain ⟨m, hm⟩ : ∃ m, ks.length = m := ⟨_, rfl⟩
  have HM := Lib.hid hm
  rw [hm] at hk HS ⊢
  clear hm
  go_enter Try.func20, Try.ntmps20
  go_upto_region 1 with fail
  refine wp_world fun wA hwA => ?_
  have D0 := Lib.hid (show wA.heap[w.heap.size]? = some (.cells (ccs c (.slice A n cap)).toArray 26 (0, 0)) by rw [hwA]; exact kb_new rfl _)
  have bA := Lib.hid (show Below w.heap.size w wA by rw [hwA]; exact bl_alloc (Below.refl _ _) _)
  clear hwA
  go_wp2_with (with_reducible refine wpList_load_cw _ rfl (by kernel_rfl) _ rfl D0.out HX.out ?_)
  refine (Check_any' HX.out (HV.out.below bA.out) (by rw [HN.out]; exact hl)).mono ?_
  rintro e w1 ⟨rfl, b1⟩
  have D1 := Lib.hid (kb_below b1 D0.out)
  have HB := Lib.hid (bl_then bA.out b1)
  clear b1
  by_cases hc : chk c = 0
  · have HC := Lib.hid hc
    have HR := Lib.hid (rs_of_chk hc)
    rw [hc]
    clear hc
    have c33 := (kb_cell D1.out 33).trans (by simpa using q33)
    go_wp2_with fail
    clear c33
    obtain ⟨i0, hi0, hz0, hz1, hz2⟩ := info_parts infoKey
    go_loopw [4, 8, 17, 18, 19, 20, 21, 22, 23, 24, 25, 26, 27, 28, 29, 30, 31, 32, 33, 34, 35] (fun s4 _ s17 _ _ _ _ _ _ _ _ _ _ _ _ _ _ _ _ _ _ wr => ∃ (k : Nat) (L : List K4), k ≤ n ∧ s17 = .int .i64 k ∧ Hid (wr.ownsRow w1.heap.size 52 4 s4 k (gcs kcs L)) ∧ Hid (WhoAt ks c.vs k L) ∧ Below w1.heap.size w1 wr) (fun _ _ s17 _ _ _ _ _ _ _ _ _ _ _ _ _ _ _ _ _ _ _ => n - (intOf s17).toNat)
    case atStart => exact ⟨0, [], by omega, rfl, Lib.hid (World.ownsRow_nil _ _ _ _), Lib.hid (WhoAt.zero _ _), Below.refl _ _⟩
    case round =>
      obtain ⟨k, L, hkn, rfl, hO, hW, hbel⟩ := hrel
      have HO := hO
      have HW := hW
      have HBe := Lib.hid hbel
      obtain ⟨A4, c4, rfl⟩ := owns_slice0 hO.out
      clear hO hW
      by_cases hlt : k < n
      · have HI := Lib.hid (show k < c.vs.length by rw [HN.out]; exact hlt)
        obtain ⟨b, off, cap', hA, hbl, d0', d1'⟩ := HV.out.at HI.out
        have bw := bl_then HB.out hbel
        have d0 := (bw.cell (p := ⟨b, off + k * 2, none⟩) hbl).trans d0'
        have d1 := (bw.cell (p := ⟨b, off + k * 2 + 1, none⟩) hbl).trans d1'
        obtain ⟨rfl, rfl⟩ : A = some ⟨b, off, none⟩ ∧ cap = cap' := by injection hA with h1 h2 h3; exact ⟨h1, h3⟩
        obtain ⟨p0, p1, _⟩ := HR.out.mem (List.mem_of_getElem? (vAt_some HI.out))
        clear hA d0' d1' hbel
        by_cases hp : (m : Int) ≤ (vAt c.vs k).p
        · have HE := Lib.hid (show whoE ks c = 3 by unfold whoE; rw [if_neg (by rw [HC.out]; simp), HW.out.bad HI.out (by rw [HM.out]; omega)]; rfl)
          go_wp2_with fail
          go_ret2
          exact WhoOut.none (by rw [HE.out]; decide) (by rw [HE.out]; rfl) rfl (bl_alloc (bl_then HB.out HBe.out) _)
        · have hp' : (vAt c.vs k).p < (m : Int) := by omega
          obtain ⟨dd, hdd⟩ : ∃ dd, ks[(vAt c.vs k).p.toNat]? = some dd := ⟨_, List.getElem?_eq_getElem (by rw [HM.out]; omega)⟩
          obtain ⟨b2, off2, cp2, hB, hb2, hcc⟩ := HS.out.at dcs_len hdd
          obtain ⟨rfl, rfl⟩ : B = some ⟨b2, off2, none⟩ ∧ cap2 = cp2 := by injection hB with h1 h2 h3; exact ⟨h1, h3⟩
          have f0 := (bw.cell (p := ⟨b2, off2 + (vAt c.vs k).p.toNat * 5, none⟩) hb2).trans (hcc 0 _ rfl)
          have f1 := (bw.cell (p := ⟨b2, off2 + (vAt c.vs k).p.toNat * 5 + 1, none⟩) hb2).trans (hcc 1 _ rfl)
          have f2 := (bw.cell (p := ⟨b2, off2 + (vAt c.vs k).p.toNat * 5 + 2, none⟩) hb2).trans (hcc 2 _ rfl)
          have f3 := (bw.cell (p := ⟨b2, off2 + (vAt c.vs k).p.toNat * 5 + 3, none⟩) hb2).trans (hcc 3 _ rfl)
          have HQ := Lib.hid (HW.out.next HI.out hdd)
          have X0 := Lib.hid (bl_alloc HBe.out (.cells #[.int .i64 (vAt c.vs k).p, .int .u64 (vAt c.vs k).g] 29))
          have ho := (HO.out.alloc (.cells #[.int .i64 (vAt c.vs k).p, .int .u64 (vAt c.vs k).g] 29))
          have ho2 := ho.alloc (.cells #[u8v dd.k.a, u8v dd.k.b, u8v dd.k.c, u8v dd.k.d] 52)
          have HO1 := Lib.hid ho
          have hlk := lit_key (wr.alloc (.cells #[.int .i64 (vAt c.vs k).p, .int .u64 (vAt c.vs k).g] 29)) dd.k
          rw [World.size_alloc] at hlk
          have HLK := Lib.hid hlk
          clear hlk
          clear hB hcc hdd bw ho
          go_wp2_with (at_builtin; refine wpList_append_g Try.underlying43 hi0 hz0 hz1 hz2 rfl (by decide) (by decide) kcs_len kcs_one _ rfl _ _ rfl w1.heap.size _ _ _ rfl ho2 _ [dd.k] rfl HLK.out ?c3 ?c4 ?_)
          case c3 => first | omega | (simp; omega)
          case c4 => have := HBe.out.size; first | omega | (simp; omega)
          intro v' w5 hown' hgrow _
          have R := Lib.hid (gapp_rel HO1.out X0.out hown' hgrow)
          obtain ⟨A6, c6, rfl⟩ := owns_slice0 hown'
          clear hown' hgrow ho2
          go_wp2_with fail
          go_roundw
          case rel => exact ⟨k + 1, _, by omega, by go_num, Lib.hid R.out.1, Lib.hid HQ.out, R.out.2⟩
          case measure => simp [intOf]; omega
      · obtain rfl : k = n := by omega
        have HE := Lib.hid (show whoE ks c = 0 ∧ whoL ks c = L by
          have h := HW.out
          rw [← HN.out] at h
          have he : whoE ks c = 0 := by unfold whoE; rw [if_neg (by rw [HC.out]; simp), h.end]; rfl
          refine ⟨he, ?_⟩
          unfold whoL; rw [if_pos he, h.end]; rfl)
        clear hbel
        go_wp2_with fail
        go_ret2
        refine ⟨.slice A4 k c4, by rw [HE.out.1]; rfl, ?_, bl_then HB.out HBe.out⟩
        rw [HE.out.2, HW.out.2]
        exact owns_mono HO.out HB.out.size
  · have HE := Lib.hid (show whoE ks c = chk c by unfold whoE; rw [if_pos hc])
    have HZ := Lib.hid (show whoE ks c ≠ 0 by rw [HE.out]; exact hc)
    have hn1 : ((chk c : Int) == 0) = false := by simpa using hc
    have hn' : ¬ ((chk c : Int) = 0) := by omega
    clear hc
    go_wp2_with fail
    go_ret2
    exact WhoOut.none HZ.out (by rw [HE.out]) rfl HB.out
end Go.Proofs.Ytooghjnddifpdaa
