/- The document's reader: Of, Pace. · The document's reader: Hash, Key. Printed by wip/rarrs.py. · reads: a thing is read alike. Printed by wip/alike.py. · The walk of WireReads. -/
import Derived.Test.YtajlcodlaalomaaWire38
section
namespace Go.Proofs.Ytajlcodlaalomaa
open Go.RowKit Go.Proofs.Ytajlcodlaalomaa.Wi Go.Proofs.Ytajlcodlaalomaa.Pc
attribute [local go_sem] cell_alloc_some frozen_alloc_some
set_option linter.unusedSimpArgs false
set_option linter.unusedVariables false

set_option maxHeartbeats 1000000 in
theorem rOf_any (n : Nat) (w : World) : Calls Try.prog 107 #[.int .u64 n] w fun e w' => e = .returned (.tuple (if nanB n = true ∧ n ≠ 9221120237041090560 then #[.float .f64 0, .int .i64 5] else #[.float .f64 n, .int .i64 0])) ∧ w = w' := by
  have hf := fun w => run_from (n : Int) w
  simp only [Int.toNat_natCast] at hf
  cases h : nanB n
  · have h' : (FloatKind.f64.format.order n n != some .eq) = false := h
    simp only [Bool.false_eq_true, false_and, if_false]
    clear h
    go_enter Try.func107, Try.ntmps107
    go_wp2
    go_ret2
    exact ⟨rfl, rfl⟩
  · have h' : (FloatKind.f64.format.order n n != some .eq) = true := h
    clear h
    by_cases h2 : n = 9221120237041090560
    · have hd : (((n : Nat) : Int) != 9221120237041090560) = false := by rw [h2]; rfl
      have H2 := Lib.hid h2
      rw [if_neg (by simp [h2])]
      clear h2
      go_enter Try.func107, Try.ntmps107
      go_wp2
      go_ret2
      exact ⟨rfl, rfl⟩
    · have hd : (((n : Nat) : Int) != 9221120237041090560) = true := by simp only [bne_iff_ne, ne_eq]; omega
      rw [if_pos ⟨rfl, h2⟩]
      clear h2
      go_enter Try.func107, Try.ntmps107
      go_wp2
      go_ret2
      exact ⟨rfl, rfl⟩

set_option maxHeartbeats 1000000 in
theorem rPace_ok {w : World} {B p : Nat} {s : Value} {xs : List UInt8} {a n a' : Nat} (F : RRd w B p s xs a 0 0) (h : takeP xs 8 a a bigL = .ok n a') (hn : ¬ (nanB n = true ∧ n ≠ 9221120237041090560)) :
    Calls Try.prog 78 #[.pointer (some ⟨p, 0, none⟩)] w (RDid w B p s xs (n, .at a') fun n _ u => u = .float .f64 n) := by
  have c := kb_cell F.st
  have hW := rWord_any' (st := .at a) F
  rw [step_ok h] at hW
  have hO := fun w => rOf_any n w
  simp only [if_neg hn] at hO
  have HW := Lib.hid hW
  have HO := Lib.hid hO
  clear F h hn hW hO
  go_enter Try.func78, Try.ntmps78
  go_wp2_with fail
  refine HW.out.mono ?_
  rintro e w2 ⟨v2, rfl, rfl, F2, k2⟩
  have c2 := kb_cell (RRd.st F2)
  have HF2 := Lib.hid F2
  have HK2 := Lib.hid k2
  clear F2 k2 c
  go_wp2_with fail
  refine (HO.out _).mono ?_
  rintro e w3 ⟨rfl, rfl⟩
  go_wp2_with fail
  go_ret
  exact ⟨_, rfl, rfl, HF2.out, HK2.out⟩
set_option maxHeartbeats 1000000 in
theorem rPace_form {w : World} {B p : Nat} {s : Value} {xs : List UInt8} {a n a' : Nat} (F : RRd w B p s xs a 0 0) (h : takeP xs 8 a a bigL = .ok n a') (hn : nanB n = true ∧ n ≠ 9221120237041090560) :
    Calls Try.prog 78 #[.pointer (some ⟨p, 0, none⟩)] w (RDid w B p s xs (0, .bad 5 a) fun n _ u => u = .float .f64 n) := by
  have c := kb_cell F.st
  have hW := rWord_any' (st := .at a) F
  rw [step_ok h] at hW
  have hO := fun w => rOf_any n w
  simp only [if_pos hn] at hO
  have HW := Lib.hid hW
  have HO := Lib.hid hO
  clear F h hn hW hO
  go_enter Try.func78, Try.ntmps78
  go_wp2_with fail
  refine HW.out.mono ?_
  rintro e w2 ⟨v2, rfl, rfl, F2, k2⟩
  have c2 := kb_cell (RRd.st F2)
  have HF2 := Lib.hid F2
  have HK2 := Lib.hid k2
  clear F2 k2 c
  go_wp2_with fail
  refine (HO.out _).mono ?_
  rintro e w3 ⟨rfl, rfl⟩
  go_wp2_with fail
  refine (rFails_at 5 a HF2.out).mono ?_
  rintro e w3 ⟨rfl, F3, k3⟩
  have HF3 := Lib.hid F3
  have HK3 := Lib.hid (HK2.out.trans k3 fun _ _ h => h)
  clear F3 k3
  go_wp2_with fail
  go_ret
  exact ⟨_, rfl, rfl, ⟨by omega, _, HF3.out⟩, HK3.out⟩
set_option maxHeartbeats 1000000 in
theorem rPace_no {w : World} {B p : Nat} {s : Value} {xs : List UInt8} {st : St} {e f : Nat} (F : RRdO w B p s xs st) (hn : step (fun a => takeP xs 8 a a bigL) 0 st = (0, .bad e f)) :
    Calls Try.prog 78 #[.pointer (some ⟨p, 0, none⟩)] w (RDid w B p s xs (0, .bad e f) fun n _ u => u = .float .f64 n) := by
  obtain ⟨a0, e0, f0, c⟩ := rAt F
  have hW := rWord_any' F
  rw [hn] at hW
  have HW := Lib.hid hW
  clear F hW hn
  go_enter Try.func78, Try.ntmps78
  go_wp2_with fail
  refine HW.out.mono ?_
  rintro e1 w1 ⟨u, rfl, rfl, F1, k1⟩
  obtain ⟨he, a1, F2⟩ : e ≠ 0 ∧ ∃ a, RRd w1 B p s xs a e f := by
    obtain ⟨h1, h2⟩ := F1
    exact ⟨by omega, h2⟩
  have c1 := kb_cell F2.st
  have hd : (((e : Nat) : Int) != 0) = true := by simp only [bne_iff_ne, ne_eq]; omega
  have HF1 := Lib.hid F1
  have HK1 := Lib.hid k1
  clear F1 k1 c F2 he
  go_wp2_with fail
  go_ret
  exact ⟨_, rfl, rfl, HF1.out, HK1.out⟩
theorem rPace_any' {w : World} {B p : Nat} {s : Value} {xs : List UInt8} {st : St} (F : RRdO w B p s xs st) :
    Calls Try.prog 78 #[.pointer (some ⟨p, 0, none⟩)] w (RDid w B p s xs (step (paceP xs) 0 st) fun n _ u => u = .float .f64 n) := by
  cases st with
  | bad er fr => exact rPace_no F rfl
  | «at» a =>
    cases h : takeP xs 8 a a bigL with
    | ok n a' =>
      by_cases hn : nanB n = true ∧ n ≠ 9221120237041090560
      · rw [step_bad (show paceP xs a = .bad 5 a by unfold paceP; rw [h]; exact if_pos hn)]; exact rPace_form F h hn
      · rw [step_ok (show paceP xs a = .ok n a' by unfold paceP; rw [h]; exact if_neg hn)]; exact rPace_ok F h hn
    | bad er fr =>
      rw [step_bad (show paceP xs a = .bad er fr by unfold paceP; rw [h])]
      exact rPace_no F (step_bad h)
end Go.Proofs.Ytajlcodlaalomaa
end
section
namespace Go.Proofs.Ytajlcodlaalomaa
open Go.RowKit Go.Proofs.Ytajlcodlaalomaa.Wi Go.Proofs.Ytajlcodlaalomaa.Pc
attribute [local go_sem] cell_alloc_some frozen_alloc_some
set_option linter.unusedSimpArgs false
set_option linter.unusedVariables false
theorem keep_cell {S : Nat → Prop} {w w' : World} {p : Addr} (h : Keep S w w') (hp : p.block < w.heap.size) (hn : ¬ S p.block) : w'.cell? p = w.cell? p := by
  unfold World.cell?
  rw [h.block p.block hp hn]
/-- The first i bytes of l, then zeros, up to n. -/
def fillS (n : Nat) (l : List UInt8) (i : Nat) : List UInt8 := l.take i ++ List.replicate (n - i) 0
theorem fillS_len {n i : Nat} {l : List UInt8} (hl : l.length = n) (hi : i ≤ n) : (fillS n l i).length = n := by simp [fillS]; omega
theorem fillS_zero (n : Nat) (l : List UInt8) : fillS n l 0 = List.replicate n 0 := by simp [fillS]
theorem fillS_all {n : Nat} {l : List UInt8} (hl : l.length = n) : fillS n l n = l := by simp [fillS, List.take_of_length_le (Nat.le_of_eq hl)]
theorem fillS_next {n i : Nat} {l : List UInt8} (hl : l.length = n) (hi : i < l.length) : (u8s (fillS n l i)).toArray.setIfInBounds i (.int .u8 (l[i].toNat : Int)) = (u8s (fillS n l (i + 1))).toArray := by
  have h1 : (u8s (fillS n l i)).toArray.setIfInBounds i (.int .u8 (l[i].toNat : Int)) = (u8s ((fillS n l i).set i l[i])).toArray := by
    simp [u8s, List.map_set, u8v]
  rw [h1]
  congr 2
  unfold fillS
  have e : n - i = (n - (i + 1)) + 1 := by omega
  rw [List.set_append_right _ _ (by rw [List.length_take]; omega), e, List.replicate_succ, List.length_take, Nat.min_eq_left (by omega), Nat.sub_self, List.set_cons_zero, List.take_succ_eq_append_getElem hi, List.append_assoc]
  rfl

set_option maxRecDepth 100000 in
set_option maxHeartbeats 2000000 in
theorem rHash_ok {w : World} {B p : Nat} {s : Value} {xs : List UInt8} {a : Nat} (F : RRd w B p s xs a 0 0) (h : a + 32 ≤ xs.length) :
    Calls Try.prog 74 #[.pointer (some ⟨p, 0, none⟩)] w (RDid w B p s xs ((xs.drop a).take 32, .at (a + 32)) fun l _ u => u = .agg (u8s l).toArray) := by
  obtain ⟨l, hl⟩ : ∃ l, (xs.drop a).take 32 = l := ⟨_, rfl⟩
  have hll : l.length = 32 := by rw [← hl, List.length_take, List.length_drop]; omega
  rw [hl]
  have HL := Lib.hid hl
  have b2 : Below w.heap.size w ((w.alloc (.cells #[.int .u8 0, .int .u8 0, .int .u8 0, .int .u8 0, .int .u8 0, .int .u8 0, .int .u8 0, .int .u8 0, .int .u8 0, .int .u8 0, .int .u8 0, .int .u8 0, .int .u8 0, .int .u8 0, .int .u8 0, .int .u8 0, .int .u8 0, .int .u8 0, .int .u8 0, .int .u8 0, .int .u8 0, .int .u8 0, .int .u8 0, .int .u8 0, .int .u8 0, .int .u8 0, .int .u8 0, .int .u8 0, .int .u8 0, .int .u8 0, .int .u8 0, .int .u8 0] 34)).alloc (.cells #[.int .u8 0, .int .u8 0, .int .u8 0, .int .u8 0, .int .u8 0, .int .u8 0, .int .u8 0, .int .u8 0, .int .u8 0, .int .u8 0, .int .u8 0, .int .u8 0, .int .u8 0, .int .u8 0, .int .u8 0, .int .u8 0, .int .u8 0, .int .u8 0, .int .u8 0, .int .u8 0, .int .u8 0, .int .u8 0, .int .u8 0, .int .u8 0, .int .u8 0, .int .u8 0, .int .u8 0, .int .u8 0, .int .u8 0, .int .u8 0, .int .u8 0, .int .u8 0] 34)) := by (repeat (with_reducible (first | exact Below.refl _ _ | assumption | refine bl_alloc ?_ _ | refine bl_drew ?_ | refine bl_drewN ?_ _ | (refine bl_set ?_ ?_ _; (focus (first | (simp; done) | (simp; omega) | omega))) | refine bl_then ?_ (by assumption))))
  have D0 := kb_alloc (kb_new (w := w) rfl (.cells #[.int .u8 0, .int .u8 0, .int .u8 0, .int .u8 0, .int .u8 0, .int .u8 0, .int .u8 0, .int .u8 0, .int .u8 0, .int .u8 0, .int .u8 0, .int .u8 0, .int .u8 0, .int .u8 0, .int .u8 0, .int .u8 0, .int .u8 0, .int .u8 0, .int .u8 0, .int .u8 0, .int .u8 0, .int .u8 0, .int .u8 0, .int .u8 0, .int .u8 0, .int .u8 0, .int .u8 0, .int .u8 0, .int .u8 0, .int .u8 0, .int .u8 0, .int .u8 0] 34)) (.cells #[.int .u8 0, .int .u8 0, .int .u8 0, .int .u8 0, .int .u8 0, .int .u8 0, .int .u8 0, .int .u8 0, .int .u8 0, .int .u8 0, .int .u8 0, .int .u8 0, .int .u8 0, .int .u8 0, .int .u8 0, .int .u8 0, .int .u8 0, .int .u8 0, .int .u8 0, .int .u8 0, .int .u8 0, .int .u8 0, .int .u8 0, .int .u8 0, .int .u8 0, .int .u8 0, .int .u8 0, .int .u8 0, .int .u8 0, .int .u8 0, .int .u8 0, .int .u8 0] 34)
  have D1 := kb_new (w := w.alloc (.cells #[.int .u8 0, .int .u8 0, .int .u8 0, .int .u8 0, .int .u8 0, .int .u8 0, .int .u8 0, .int .u8 0, .int .u8 0, .int .u8 0, .int .u8 0, .int .u8 0, .int .u8 0, .int .u8 0, .int .u8 0, .int .u8 0, .int .u8 0, .int .u8 0, .int .u8 0, .int .u8 0, .int .u8 0, .int .u8 0, .int .u8 0, .int .u8 0, .int .u8 0, .int .u8 0, .int .u8 0, .int .u8 0, .int .u8 0, .int .u8 0, .int .u8 0, .int .u8 0] 34)) (b := w.heap.size + 1) (by simp) (.cells #[.int .u8 0, .int .u8 0, .int .u8 0, .int .u8 0, .int .u8 0, .int .u8 0, .int .u8 0, .int .u8 0, .int .u8 0, .int .u8 0, .int .u8 0, .int .u8 0, .int .u8 0, .int .u8 0, .int .u8 0, .int .u8 0, .int .u8 0, .int .u8 0, .int .u8 0, .int .u8 0, .int .u8 0, .int .u8 0, .int .u8 0, .int .u8 0, .int .u8 0, .int .u8 0, .int .u8 0, .int .u8 0, .int .u8 0, .int .u8 0, .int .u8 0, .int .u8 0] 34)
  have F2 := F.below b2
  have hlt := kb_lt F.st
  have hrow : ∀ b, s.ownBlock = some b → b < w.heap.size := fun b h => (F.row.lt b h).2
  have hs2 : ((w.alloc (.cells #[.int .u8 0, .int .u8 0, .int .u8 0, .int .u8 0, .int .u8 0, .int .u8 0, .int .u8 0, .int .u8 0, .int .u8 0, .int .u8 0, .int .u8 0, .int .u8 0, .int .u8 0, .int .u8 0, .int .u8 0, .int .u8 0, .int .u8 0, .int .u8 0, .int .u8 0, .int .u8 0, .int .u8 0, .int .u8 0, .int .u8 0, .int .u8 0, .int .u8 0, .int .u8 0, .int .u8 0, .int .u8 0, .int .u8 0, .int .u8 0, .int .u8 0, .int .u8 0] 34)).alloc (.cells #[.int .u8 0, .int .u8 0, .int .u8 0, .int .u8 0, .int .u8 0, .int .u8 0, .int .u8 0, .int .u8 0, .int .u8 0, .int .u8 0, .int .u8 0, .int .u8 0, .int .u8 0, .int .u8 0, .int .u8 0, .int .u8 0, .int .u8 0, .int .u8 0, .int .u8 0, .int .u8 0, .int .u8 0, .int .u8 0, .int .u8 0, .int .u8 0, .int .u8 0, .int .u8 0, .int .u8 0, .int .u8 0, .int .u8 0, .int .u8 0, .int .u8 0, .int .u8 0] 34)).heap.size = w.heap.size + 2 := by simp
  have c := kb_cell F2.st
  have HF2 := Lib.hid F2
  have HD0 := Lib.hid D0
  have HD1 := Lib.hid D1
  have HB2 := Lib.hid b2
  clear F F2 hl D0 D1 b2
  go_enter Try.func74, Try.ntmps74
  go_wp2_with fail
  refine (rTake_ok 32 a HF2.out h).mono ?_
  rintro e w3 ⟨v3, rfl, hO3, F3, k3⟩
  rw [HL.out] at hO3
  obtain ⟨g3, cp3, hv3, hg3, hgl3, hcc3⟩ := own_cells hO3 (by omega)
  subst hv3
  have E0 := k3.kb HD0.out (by omega)
  have E1 := k3.kb HD1.out (by omega)
  have K3 := Keep.after HB2.out k3
  have HF3 := Lib.hid F3
  have HK3 := Lib.hid K3
  have HCC := Lib.hid hcc3
  have HE0 := Lib.hid E0
  have HE1 := Lib.hid E1
  have hg3' : w.heap.size + 2 ≤ g3 := by omega
  have hlt3 : w.heap.size + 2 ≤ w3.heap.size := by have := k3.size; omega
  clear F3 k3 K3 c hO3 hcc3 E0 E1 HD0 HD1 HF2 HB2 hs2 hg3
  go_wp2_with fail
  go_loopw [5, 12, 13, 14, 15, 16, 17, 18, 19, 20, 21, 22, 23] (fun s5 _ _ _ _ _ _ _ _ _ _ _ _ wr => ∃ i : Nat, i ≤ 32 ∧ s5 = .int .i64 i ∧ wr.heap[w.heap.size + 1]? = some (.cells (u8s (fillS 32 l i)).toArray 34 (0, 0)) ∧ Keep (fun b => b = w.heap.size + 1) w3 wr) (fun s5 _ _ _ _ _ _ _ _ _ _ _ _ _ => 32 - (intOf s5).toNat)
  case atStart => exact ⟨0, by omega, rfl, by rw [fillS_zero]; exact HE1.out, Keep.refl _ _⟩
  case round =>
    obtain ⟨i, hi, rfl, hD, hK⟩ := hrel
    by_cases hlt : i < 32
    · have hil : ((i : Nat) : Int) < 32 := by omega
      have hli : i < l.length := by omega
      have cc := (keep_cell hK (p := ⟨g3, i, none⟩) hgl3 (by show ¬ g3 = w.heap.size + 1; omega)).trans (HCC.out i _ (List.getElem?_eq_getElem hli))
      unfold u8v at cc
      have hlen := fillS_len hll hi
      have hj : i < (fillS 32 l i).length := by omega
      have cd := (kb_cell hD i).trans (show (u8s (fillS 32 l i)).toArray[i]? = some (.int .u8 ((fillS 32 l i)[i].toNat : Int)) by simp [u8s, u8v, hj])
      have zd := kb_frozen hD i
      have hN := kb_set (i := i) hD (.int .u8 (l[i].toNat : Int))
      rw [fillS_next hll hli] at hN
      have hK' := hK.set (p := ⟨w.heap.size + 1, i, none⟩) (fun _ => rfl) (.int .u8 (l[i].toNat : Int))
      have HN := Lib.hid hN
      have HK' := Lib.hid hK'
      generalize (fillS 32 l i)[i] = z0 at *
      generalize l[i] = z1 at *
      clear hN hK' hD hK hj hlen
      go_wp2_with fail
      go_roundw
      case rel => exact ⟨i + 1, by omega, by go_num, HN.out, HK'.out⟩
      case measure => simp [intOf]; omega
    · obtain rfl : i = 32 := by omega
      rw [fillS_all hll] at hD
      have hsz : (u8s l).length = 32 := by rw [u8s_len, hll]
      have hszA : (u8s l).toArray.size = 32 := by simpa using hsz
      have G0 := hK.kb HE0.out (by omega)
      have HR := Lib.hid (range_of_kb (cs := u8s l) hD)
      have HT := Lib.hid (there_kb G0 (show _ = (u8s l).toArray.size by rw [hszA]; rfl))
      have HG := Lib.hid (setCells_kb (u8s l) G0 (by rw [hsz]; rfl))
      have HKN := Lib.hid (keep_cells (u8s l) (g := w.heap.size) 0 (Keep.refl (fun b => b = w.heap.size) wr) (fun _ => rfl))
      have HKK := Lib.hid hK
      clear hlt hD hK G0
      go_wp2_with (first
        | (with_reducible refine wpList_load_mid rfl 34 _ rfl (w.heap.size + 1) 0 rfl (u8s l) _ HR.out Try.underlying34 rfl (sizeHash.trans (congrArg some hsz.symm)) ?_)
        | (with_reducible refine wpList_store_mid rfl 34 _ _ rfl w.heap.size 0 (u8s l).toArray rfl rfl HT.out (sizeHash.trans (congrArg some hszA.symm)) (u8s_all _) ?_))
      refine bodyPost_ret (results_cell_row rfl _ _ w.heap.size 34 _ (0, 0) _ rfl HG.out Try.underlying34 rfl (sizeHash.trans (congrArg some hszA.symm))) rfl ?_
      exact ⟨_, rfl, rfl, (HF3.out.keep HKK.out (by omega) (fun b h e => by have := hrow b h; omega)).keep HKN.out (by omega) (fun b h e => by have := hrow b h; omega), (HK3.out.trans HKK.out (fun b h e => by omega)).trans HKN.out (fun b h e => by omega)⟩

set_option maxRecDepth 100000 in
set_option maxHeartbeats 2000000 in
theorem rHash_no {w : World} {B p : Nat} {s : Value} {xs : List UInt8} {st : St} {e f : Nat} (F : RRdO w B p s xs st) (hn : ∀ f', (∀ a, st = .at a → f' = a) → step (fun a => takeP xs 32 a f' id) ([] : List UInt8) st = ([], .bad e f)) :
    Calls Try.prog 74 #[.pointer (some ⟨p, 0, none⟩)] w (RDid w B p s xs (List.replicate 32 0, .bad e f) fun l _ u => u = .agg (u8s l).toArray) := by
  have b2 : Below w.heap.size w ((w.alloc (.cells #[.int .u8 0, .int .u8 0, .int .u8 0, .int .u8 0, .int .u8 0, .int .u8 0, .int .u8 0, .int .u8 0, .int .u8 0, .int .u8 0, .int .u8 0, .int .u8 0, .int .u8 0, .int .u8 0, .int .u8 0, .int .u8 0, .int .u8 0, .int .u8 0, .int .u8 0, .int .u8 0, .int .u8 0, .int .u8 0, .int .u8 0, .int .u8 0, .int .u8 0, .int .u8 0, .int .u8 0, .int .u8 0, .int .u8 0, .int .u8 0, .int .u8 0, .int .u8 0] 34)).alloc (.cells #[.int .u8 0, .int .u8 0, .int .u8 0, .int .u8 0, .int .u8 0, .int .u8 0, .int .u8 0, .int .u8 0, .int .u8 0, .int .u8 0, .int .u8 0, .int .u8 0, .int .u8 0, .int .u8 0, .int .u8 0, .int .u8 0, .int .u8 0, .int .u8 0, .int .u8 0, .int .u8 0, .int .u8 0, .int .u8 0, .int .u8 0, .int .u8 0, .int .u8 0, .int .u8 0, .int .u8 0, .int .u8 0, .int .u8 0, .int .u8 0, .int .u8 0, .int .u8 0] 34)) := by (repeat (with_reducible (first | exact Below.refl _ _ | assumption | refine bl_alloc ?_ _ | refine bl_drew ?_ | refine bl_drewN ?_ _ | (refine bl_set ?_ ?_ _; (focus (first | (simp; done) | (simp; omega) | omega))) | refine bl_then ?_ (by assumption))))
  have D0 := kb_alloc (kb_new (w := w) rfl (.cells #[.int .u8 0, .int .u8 0, .int .u8 0, .int .u8 0, .int .u8 0, .int .u8 0, .int .u8 0, .int .u8 0, .int .u8 0, .int .u8 0, .int .u8 0, .int .u8 0, .int .u8 0, .int .u8 0, .int .u8 0, .int .u8 0, .int .u8 0, .int .u8 0, .int .u8 0, .int .u8 0, .int .u8 0, .int .u8 0, .int .u8 0, .int .u8 0, .int .u8 0, .int .u8 0, .int .u8 0, .int .u8 0, .int .u8 0, .int .u8 0, .int .u8 0, .int .u8 0] 34)) (.cells #[.int .u8 0, .int .u8 0, .int .u8 0, .int .u8 0, .int .u8 0, .int .u8 0, .int .u8 0, .int .u8 0, .int .u8 0, .int .u8 0, .int .u8 0, .int .u8 0, .int .u8 0, .int .u8 0, .int .u8 0, .int .u8 0, .int .u8 0, .int .u8 0, .int .u8 0, .int .u8 0, .int .u8 0, .int .u8 0, .int .u8 0, .int .u8 0, .int .u8 0, .int .u8 0, .int .u8 0, .int .u8 0, .int .u8 0, .int .u8 0, .int .u8 0, .int .u8 0] 34)
  have D1 := kb_new (w := w.alloc (.cells #[.int .u8 0, .int .u8 0, .int .u8 0, .int .u8 0, .int .u8 0, .int .u8 0, .int .u8 0, .int .u8 0, .int .u8 0, .int .u8 0, .int .u8 0, .int .u8 0, .int .u8 0, .int .u8 0, .int .u8 0, .int .u8 0, .int .u8 0, .int .u8 0, .int .u8 0, .int .u8 0, .int .u8 0, .int .u8 0, .int .u8 0, .int .u8 0, .int .u8 0, .int .u8 0, .int .u8 0, .int .u8 0, .int .u8 0, .int .u8 0, .int .u8 0, .int .u8 0] 34)) (b := w.heap.size + 1) (by simp) (.cells #[.int .u8 0, .int .u8 0, .int .u8 0, .int .u8 0, .int .u8 0, .int .u8 0, .int .u8 0, .int .u8 0, .int .u8 0, .int .u8 0, .int .u8 0, .int .u8 0, .int .u8 0, .int .u8 0, .int .u8 0, .int .u8 0, .int .u8 0, .int .u8 0, .int .u8 0, .int .u8 0, .int .u8 0, .int .u8 0, .int .u8 0, .int .u8 0, .int .u8 0, .int .u8 0, .int .u8 0, .int .u8 0, .int .u8 0, .int .u8 0, .int .u8 0, .int .u8 0] 34)
  have F2 := F.below b2
  have hlt := F.ltp
  have hrow : ∀ b, s.ownBlock = some b → b < w.heap.size := fun b h => (F.low b h).2
  obtain ⟨zl, hz, hzl⟩ : ∃ zl : List UInt8, List.replicate 32 0 = zl ∧ zl.length = 32 := ⟨_, rfl, by simp⟩
  have D1' : ((w.alloc (.cells #[.int .u8 0, .int .u8 0, .int .u8 0, .int .u8 0, .int .u8 0, .int .u8 0, .int .u8 0, .int .u8 0, .int .u8 0, .int .u8 0, .int .u8 0, .int .u8 0, .int .u8 0, .int .u8 0, .int .u8 0, .int .u8 0, .int .u8 0, .int .u8 0, .int .u8 0, .int .u8 0, .int .u8 0, .int .u8 0, .int .u8 0, .int .u8 0, .int .u8 0, .int .u8 0, .int .u8 0, .int .u8 0, .int .u8 0, .int .u8 0, .int .u8 0, .int .u8 0] 34)).alloc (.cells #[.int .u8 0, .int .u8 0, .int .u8 0, .int .u8 0, .int .u8 0, .int .u8 0, .int .u8 0, .int .u8 0, .int .u8 0, .int .u8 0, .int .u8 0, .int .u8 0, .int .u8 0, .int .u8 0, .int .u8 0, .int .u8 0, .int .u8 0, .int .u8 0, .int .u8 0, .int .u8 0, .int .u8 0, .int .u8 0, .int .u8 0, .int .u8 0, .int .u8 0, .int .u8 0, .int .u8 0, .int .u8 0, .int .u8 0, .int .u8 0, .int .u8 0, .int .u8 0] 34)).heap[w.heap.size + 1]? = some (.cells (u8s (List.replicate 32 0)).toArray 34 (0, 0)) := D1
  rw [hz] at D1' ⊢
  obtain ⟨a0, e0, f0, c, hat⟩ : ∃ (a0 : Nat) (e0 f0 : Int), (∀ i, ((w.alloc (.cells #[.int .u8 0, .int .u8 0, .int .u8 0, .int .u8 0, .int .u8 0, .int .u8 0, .int .u8 0, .int .u8 0, .int .u8 0, .int .u8 0, .int .u8 0, .int .u8 0, .int .u8 0, .int .u8 0, .int .u8 0, .int .u8 0, .int .u8 0, .int .u8 0, .int .u8 0, .int .u8 0, .int .u8 0, .int .u8 0, .int .u8 0, .int .u8 0, .int .u8 0, .int .u8 0, .int .u8 0, .int .u8 0, .int .u8 0, .int .u8 0, .int .u8 0, .int .u8 0] 34)).alloc (.cells #[.int .u8 0, .int .u8 0, .int .u8 0, .int .u8 0, .int .u8 0, .int .u8 0, .int .u8 0, .int .u8 0, .int .u8 0, .int .u8 0, .int .u8 0, .int .u8 0, .int .u8 0, .int .u8 0, .int .u8 0, .int .u8 0, .int .u8 0, .int .u8 0, .int .u8 0, .int .u8 0, .int .u8 0, .int .u8 0, .int .u8 0, .int .u8 0, .int .u8 0, .int .u8 0, .int .u8 0, .int .u8 0, .int .u8 0, .int .u8 0, .int .u8 0, .int .u8 0] 34)).cell? ⟨p, i, none⟩ = #[s, .int .i64 (a0 : Int), .int .i64 e0, .int .i64 f0][i]?) ∧ ∀ a, st = .at a → a0 = a := by
    cases st with
    | «at» a => exact ⟨a, 0, 0, kb_cell (RRd.st F2), fun b h => by injection h⟩
    | bad er fr => obtain ⟨_, a, hF⟩ := F2; exact ⟨a, er, fr, kb_cell hF.st, fun b h => by cases h⟩
  have hC := rTake_any 32 a0 (by omega) F2
  rw [hn a0 hat] at hC
  have hs2 : ((w.alloc (.cells #[.int .u8 0, .int .u8 0, .int .u8 0, .int .u8 0, .int .u8 0, .int .u8 0, .int .u8 0, .int .u8 0, .int .u8 0, .int .u8 0, .int .u8 0, .int .u8 0, .int .u8 0, .int .u8 0, .int .u8 0, .int .u8 0, .int .u8 0, .int .u8 0, .int .u8 0, .int .u8 0, .int .u8 0, .int .u8 0, .int .u8 0, .int .u8 0, .int .u8 0, .int .u8 0, .int .u8 0, .int .u8 0, .int .u8 0, .int .u8 0, .int .u8 0, .int .u8 0] 34)).alloc (.cells #[.int .u8 0, .int .u8 0, .int .u8 0, .int .u8 0, .int .u8 0, .int .u8 0, .int .u8 0, .int .u8 0, .int .u8 0, .int .u8 0, .int .u8 0, .int .u8 0, .int .u8 0, .int .u8 0, .int .u8 0, .int .u8 0, .int .u8 0, .int .u8 0, .int .u8 0, .int .u8 0, .int .u8 0, .int .u8 0, .int .u8 0, .int .u8 0, .int .u8 0, .int .u8 0, .int .u8 0, .int .u8 0, .int .u8 0, .int .u8 0, .int .u8 0, .int .u8 0] 34)).heap.size = w.heap.size + 2 := by simp
  have HC := Lib.hid hC
  have HD0 := Lib.hid D0
  have HD1 := Lib.hid D1'
  have HB2 := Lib.hid b2
  clear F F2 hC hn hat D0 D1 D1' b2 hz
  go_enter Try.func74, Try.ntmps74
  go_wp2_with fail
  refine HC.out.mono ?_
  rintro e1 w1 ⟨u, rfl, hO, F1, k1⟩
  obtain ⟨A, cp, rfl⟩ := owns_slice0 hO
  have hsz : (u8s zl).length = 32 := by rw [u8s_len, hzl]
  have hszA : (u8s zl).toArray.size = 32 := by simpa using hsz
  have G0 := k1.kb HD0.out (by omega)
  have HR := Lib.hid (range_of_kb (cs := u8s zl) (k1.kb HD1.out (by omega)))
  have HT := Lib.hid (there_kb G0 (show _ = (u8s zl).toArray.size by rw [hszA]; rfl))
  have HG := Lib.hid (setCells_kb (u8s zl) G0 (by rw [hsz]; rfl))
  have HKN := Lib.hid (keep_cells (u8s zl) (g := w.heap.size) 0 (Keep.refl (fun b => b = w.heap.size) w1) (fun _ => rfl))
  have HF1 := Lib.hid F1
  have HK1 := Lib.hid (Keep.after HB2.out k1)
  clear F1 k1 c hO G0 HD0 HD1 HB2 HC hs2
  go_wp2_with fail
  go_loopw [5, 12, 13, 14, 15, 16, 17, 18, 19, 20, 21, 22, 23] (fun s5 _ _ _ _ _ _ _ _ _ _ _ _ wr => s5 = .int .i64 0 ∧ wr = w1) (fun _ _ _ _ _ _ _ _ _ _ _ _ _ _ => 0)
  case atStart => exact ⟨rfl, rfl⟩
  case round =>
    obtain ⟨rfl, rfl⟩ := hrel
    go_wp2_with (first
        | (with_reducible refine wpList_load_mid rfl 34 _ rfl (w.heap.size + 1) 0 rfl (u8s zl) _ HR.out Try.underlying34 rfl (sizeHash.trans (congrArg some hsz.symm)) ?_)
        | (with_reducible refine wpList_store_mid rfl 34 _ _ rfl w.heap.size 0 (u8s zl).toArray rfl rfl HT.out (sizeHash.trans (congrArg some hszA.symm)) (u8s_all _) ?_))
    refine bodyPost_ret (results_cell_row rfl _ _ w.heap.size 34 _ (0, 0) _ rfl HG.out Try.underlying34 rfl (sizeHash.trans (congrArg some hszA.symm))) rfl ?_
    exact ⟨_, rfl, rfl, HF1.out.keep HKN.out (by omega) (fun b h e => by have := hrow b h; omega), HK1.out.trans HKN.out (fun b h e => by omega)⟩

theorem rHash_any' {w : World} {B p : Nat} {s : Value} {xs : List UInt8} {st : St} (F : RRdO w B p s xs st) :
    Calls Try.prog 74 #[.pointer (some ⟨p, 0, none⟩)] w (RDid w B p s xs (step (fun a => takeP xs 32 a a id) (List.replicate 32 0) st) fun l _ u => u = .agg (u8s l).toArray) := by
  cases st with
  | bad er fr => exact rHash_no F fun _ _ => rfl
  | «at» a =>
    by_cases h : a + 32 ≤ xs.length
    · have hs : takeP xs 32 a a id = .ok ((xs.drop a).take 32) (a + 32) := by unfold takeP; rw [if_pos h]; rfl
      rw [step_ok hs]; exact rHash_ok F h
    · have hs : takeP xs 32 a a id = .bad 6 a := by unfold takeP; rw [if_neg h]
      rw [step_bad hs]
      refine rHash_no F fun f' hf => ?_
      rw [hf a rfl, step_bad hs]

set_option maxRecDepth 100000 in
set_option maxHeartbeats 2000000 in
theorem rKey_ok {w : World} {B p : Nat} {s : Value} {xs : List UInt8} {a : Nat} (F : RRd w B p s xs a 0 0) (h : a + 4 ≤ xs.length) :
    Calls Try.prog 75 #[.pointer (some ⟨p, 0, none⟩)] w (RDid w B p s xs ((xs.drop a).take 4, .at (a + 4)) fun l _ u => u = .agg (u8s l).toArray) := by
  obtain ⟨l, hl⟩ : ∃ l, (xs.drop a).take 4 = l := ⟨_, rfl⟩
  have hll : l.length = 4 := by rw [← hl, List.length_take, List.length_drop]; omega
  rw [hl]
  have HL := Lib.hid hl
  have b2 : Below w.heap.size w ((w.alloc (.cells #[.int .u8 0, .int .u8 0, .int .u8 0, .int .u8 0] 36)).alloc (.cells #[.int .u8 0, .int .u8 0, .int .u8 0, .int .u8 0] 36)) := by (repeat (with_reducible (first | exact Below.refl _ _ | assumption | refine bl_alloc ?_ _ | refine bl_drew ?_ | refine bl_drewN ?_ _ | (refine bl_set ?_ ?_ _; (focus (first | (simp; done) | (simp; omega) | omega))) | refine bl_then ?_ (by assumption))))
  have D0 := kb_alloc (kb_new (w := w) rfl (.cells #[.int .u8 0, .int .u8 0, .int .u8 0, .int .u8 0] 36)) (.cells #[.int .u8 0, .int .u8 0, .int .u8 0, .int .u8 0] 36)
  have D1 := kb_new (w := w.alloc (.cells #[.int .u8 0, .int .u8 0, .int .u8 0, .int .u8 0] 36)) (b := w.heap.size + 1) (by simp) (.cells #[.int .u8 0, .int .u8 0, .int .u8 0, .int .u8 0] 36)
  have F2 := F.below b2
  have hlt := kb_lt F.st
  have hrow : ∀ b, s.ownBlock = some b → b < w.heap.size := fun b h => (F.row.lt b h).2
  have hs2 : ((w.alloc (.cells #[.int .u8 0, .int .u8 0, .int .u8 0, .int .u8 0] 36)).alloc (.cells #[.int .u8 0, .int .u8 0, .int .u8 0, .int .u8 0] 36)).heap.size = w.heap.size + 2 := by simp
  have c := kb_cell F2.st
  have HF2 := Lib.hid F2
  have HD0 := Lib.hid D0
  have HD1 := Lib.hid D1
  have HB2 := Lib.hid b2
  clear F F2 hl D0 D1 b2
  go_enter Try.func75, Try.ntmps75
  go_wp2_with fail
  refine (rTake_ok 4 a HF2.out h).mono ?_
  rintro e w3 ⟨v3, rfl, hO3, F3, k3⟩
  rw [HL.out] at hO3
  obtain ⟨g3, cp3, hv3, hg3, hgl3, hcc3⟩ := own_cells hO3 (by omega)
  subst hv3
  have E0 := k3.kb HD0.out (by omega)
  have E1 := k3.kb HD1.out (by omega)
  have K3 := Keep.after HB2.out k3
  have HF3 := Lib.hid F3
  have HK3 := Lib.hid K3
  have HCC := Lib.hid hcc3
  have HE0 := Lib.hid E0
  have HE1 := Lib.hid E1
  have hg3' : w.heap.size + 2 ≤ g3 := by omega
  have hlt3 : w.heap.size + 2 ≤ w3.heap.size := by have := k3.size; omega
  clear F3 k3 K3 c hO3 hcc3 E0 E1 HD0 HD1 HF2 HB2 hs2 hg3
  go_wp2_with fail
  go_loopw [5, 12, 13, 14, 15, 16, 17, 18, 19, 20, 21, 22, 23] (fun s5 _ _ _ _ _ _ _ _ _ _ _ _ wr => ∃ i : Nat, i ≤ 4 ∧ s5 = .int .i64 i ∧ wr.heap[w.heap.size + 1]? = some (.cells (u8s (fillS 4 l i)).toArray 36 (0, 0)) ∧ Keep (fun b => b = w.heap.size + 1) w3 wr) (fun s5 _ _ _ _ _ _ _ _ _ _ _ _ _ => 4 - (intOf s5).toNat)
  case atStart => exact ⟨0, by omega, rfl, by rw [fillS_zero]; exact HE1.out, Keep.refl _ _⟩
  case round =>
    obtain ⟨i, hi, rfl, hD, hK⟩ := hrel
    by_cases hlt : i < 4
    · have hil : ((i : Nat) : Int) < 4 := by omega
      have hli : i < l.length := by omega
      have cc := (keep_cell hK (p := ⟨g3, i, none⟩) hgl3 (by show ¬ g3 = w.heap.size + 1; omega)).trans (HCC.out i _ (List.getElem?_eq_getElem hli))
      unfold u8v at cc
      have hlen := fillS_len hll hi
      have hj : i < (fillS 4 l i).length := by omega
      have cd := (kb_cell hD i).trans (show (u8s (fillS 4 l i)).toArray[i]? = some (.int .u8 ((fillS 4 l i)[i].toNat : Int)) by simp [u8s, u8v, hj])
      have zd := kb_frozen hD i
      have hN := kb_set (i := i) hD (.int .u8 (l[i].toNat : Int))
      rw [fillS_next hll hli] at hN
      have hK' := hK.set (p := ⟨w.heap.size + 1, i, none⟩) (fun _ => rfl) (.int .u8 (l[i].toNat : Int))
      have HN := Lib.hid hN
      have HK' := Lib.hid hK'
      generalize (fillS 4 l i)[i] = z0 at *
      generalize l[i] = z1 at *
      clear hN hK' hD hK hj hlen
      go_wp2_with fail
      go_roundw
      case rel => exact ⟨i + 1, by omega, by go_num, HN.out, HK'.out⟩
      case measure => simp [intOf]; omega
    · obtain rfl : i = 4 := by omega
      rw [fillS_all hll] at hD
      have hsz : (u8s l).length = 4 := by rw [u8s_len, hll]
      have hszA : (u8s l).toArray.size = 4 := by simpa using hsz
      have G0 := hK.kb HE0.out (by omega)
      have HR := Lib.hid (range_of_kb (cs := u8s l) hD)
      have HT := Lib.hid (there_kb G0 (show _ = (u8s l).toArray.size by rw [hszA]; rfl))
      have HG := Lib.hid (setCells_kb (u8s l) G0 (by rw [hsz]; rfl))
      have HKN := Lib.hid (keep_cells (u8s l) (g := w.heap.size) 0 (Keep.refl (fun b => b = w.heap.size) wr) (fun _ => rfl))
      have HKK := Lib.hid hK
      clear hlt hD hK G0
      go_wp2_with (first
        | (with_reducible refine wpList_load_mid rfl 36 _ rfl (w.heap.size + 1) 0 rfl (u8s l) _ HR.out Try.underlying36 rfl (sizeKey.trans (congrArg some hsz.symm)) ?_)
        | (with_reducible refine wpList_store_mid rfl 36 _ _ rfl w.heap.size 0 (u8s l).toArray rfl rfl HT.out (sizeKey.trans (congrArg some hszA.symm)) (u8s_all _) ?_))
      refine bodyPost_ret (results_cell_row rfl _ _ w.heap.size 36 _ (0, 0) _ rfl HG.out Try.underlying36 rfl (sizeKey.trans (congrArg some hszA.symm))) rfl ?_
      exact ⟨_, rfl, rfl, (HF3.out.keep HKK.out (by omega) (fun b h e => by have := hrow b h; omega)).keep HKN.out (by omega) (fun b h e => by have := hrow b h; omega), (HK3.out.trans HKK.out (fun b h e => by omega)).trans HKN.out (fun b h e => by omega)⟩

set_option maxRecDepth 100000 in
set_option maxHeartbeats 2000000 in
theorem rKey_no {w : World} {B p : Nat} {s : Value} {xs : List UInt8} {st : St} {e f : Nat} (F : RRdO w B p s xs st) (hn : ∀ f', (∀ a, st = .at a → f' = a) → step (fun a => takeP xs 4 a f' id) ([] : List UInt8) st = ([], .bad e f)) :
    Calls Try.prog 75 #[.pointer (some ⟨p, 0, none⟩)] w (RDid w B p s xs (List.replicate 4 0, .bad e f) fun l _ u => u = .agg (u8s l).toArray) := by
  have b2 : Below w.heap.size w ((w.alloc (.cells #[.int .u8 0, .int .u8 0, .int .u8 0, .int .u8 0] 36)).alloc (.cells #[.int .u8 0, .int .u8 0, .int .u8 0, .int .u8 0] 36)) := by (repeat (with_reducible (first | exact Below.refl _ _ | assumption | refine bl_alloc ?_ _ | refine bl_drew ?_ | refine bl_drewN ?_ _ | (refine bl_set ?_ ?_ _; (focus (first | (simp; done) | (simp; omega) | omega))) | refine bl_then ?_ (by assumption))))
  have D0 := kb_alloc (kb_new (w := w) rfl (.cells #[.int .u8 0, .int .u8 0, .int .u8 0, .int .u8 0] 36)) (.cells #[.int .u8 0, .int .u8 0, .int .u8 0, .int .u8 0] 36)
  have D1 := kb_new (w := w.alloc (.cells #[.int .u8 0, .int .u8 0, .int .u8 0, .int .u8 0] 36)) (b := w.heap.size + 1) (by simp) (.cells #[.int .u8 0, .int .u8 0, .int .u8 0, .int .u8 0] 36)
  have F2 := F.below b2
  have hlt := F.ltp
  have hrow : ∀ b, s.ownBlock = some b → b < w.heap.size := fun b h => (F.low b h).2
  obtain ⟨zl, hz, hzl⟩ : ∃ zl : List UInt8, List.replicate 4 0 = zl ∧ zl.length = 4 := ⟨_, rfl, by simp⟩
  have D1' : ((w.alloc (.cells #[.int .u8 0, .int .u8 0, .int .u8 0, .int .u8 0] 36)).alloc (.cells #[.int .u8 0, .int .u8 0, .int .u8 0, .int .u8 0] 36)).heap[w.heap.size + 1]? = some (.cells (u8s (List.replicate 4 0)).toArray 36 (0, 0)) := D1
  rw [hz] at D1' ⊢
  obtain ⟨a0, e0, f0, c, hat⟩ : ∃ (a0 : Nat) (e0 f0 : Int), (∀ i, ((w.alloc (.cells #[.int .u8 0, .int .u8 0, .int .u8 0, .int .u8 0] 36)).alloc (.cells #[.int .u8 0, .int .u8 0, .int .u8 0, .int .u8 0] 36)).cell? ⟨p, i, none⟩ = #[s, .int .i64 (a0 : Int), .int .i64 e0, .int .i64 f0][i]?) ∧ ∀ a, st = .at a → a0 = a := by
    cases st with
    | «at» a => exact ⟨a, 0, 0, kb_cell (RRd.st F2), fun b h => by injection h⟩
    | bad er fr => obtain ⟨_, a, hF⟩ := F2; exact ⟨a, er, fr, kb_cell hF.st, fun b h => by cases h⟩
  have hC := rTake_any 4 a0 (by omega) F2
  rw [hn a0 hat] at hC
  have hs2 : ((w.alloc (.cells #[.int .u8 0, .int .u8 0, .int .u8 0, .int .u8 0] 36)).alloc (.cells #[.int .u8 0, .int .u8 0, .int .u8 0, .int .u8 0] 36)).heap.size = w.heap.size + 2 := by simp
  have HC := Lib.hid hC
  have HD0 := Lib.hid D0
  have HD1 := Lib.hid D1'
  have HB2 := Lib.hid b2
  clear F F2 hC hn hat D0 D1 D1' b2 hz
  go_enter Try.func75, Try.ntmps75
  go_wp2_with fail
  refine HC.out.mono ?_
  rintro e1 w1 ⟨u, rfl, hO, F1, k1⟩
  obtain ⟨A, cp, rfl⟩ := owns_slice0 hO
  have hsz : (u8s zl).length = 4 := by rw [u8s_len, hzl]
  have hszA : (u8s zl).toArray.size = 4 := by simpa using hsz
  have G0 := k1.kb HD0.out (by omega)
  have HR := Lib.hid (range_of_kb (cs := u8s zl) (k1.kb HD1.out (by omega)))
  have HT := Lib.hid (there_kb G0 (show _ = (u8s zl).toArray.size by rw [hszA]; rfl))
  have HG := Lib.hid (setCells_kb (u8s zl) G0 (by rw [hsz]; rfl))
  have HKN := Lib.hid (keep_cells (u8s zl) (g := w.heap.size) 0 (Keep.refl (fun b => b = w.heap.size) w1) (fun _ => rfl))
  have HF1 := Lib.hid F1
  have HK1 := Lib.hid (Keep.after HB2.out k1)
  clear F1 k1 c hO G0 HD0 HD1 HB2 HC hs2
  go_wp2_with fail
  go_loopw [5, 12, 13, 14, 15, 16, 17, 18, 19, 20, 21, 22, 23] (fun s5 _ _ _ _ _ _ _ _ _ _ _ _ wr => s5 = .int .i64 0 ∧ wr = w1) (fun _ _ _ _ _ _ _ _ _ _ _ _ _ _ => 0)
  case atStart => exact ⟨rfl, rfl⟩
  case round =>
    obtain ⟨rfl, rfl⟩ := hrel
    go_wp2_with (first
        | (with_reducible refine wpList_load_mid rfl 36 _ rfl (w.heap.size + 1) 0 rfl (u8s zl) _ HR.out Try.underlying36 rfl (sizeKey.trans (congrArg some hsz.symm)) ?_)
        | (with_reducible refine wpList_store_mid rfl 36 _ _ rfl w.heap.size 0 (u8s zl).toArray rfl rfl HT.out (sizeKey.trans (congrArg some hszA.symm)) (u8s_all _) ?_))
    refine bodyPost_ret (results_cell_row rfl _ _ w.heap.size 36 _ (0, 0) _ rfl HG.out Try.underlying36 rfl (sizeKey.trans (congrArg some hszA.symm))) rfl ?_
    exact ⟨_, rfl, rfl, HF1.out.keep HKN.out (by omega) (fun b h e => by have := hrow b h; omega), HK1.out.trans HKN.out (fun b h e => by omega)⟩

theorem rKey_any' {w : World} {B p : Nat} {s : Value} {xs : List UInt8} {st : St} (F : RRdO w B p s xs st) :
    Calls Try.prog 75 #[.pointer (some ⟨p, 0, none⟩)] w (RDid w B p s xs (step (fun a => takeP xs 4 a a id) (List.replicate 4 0) st) fun l _ u => u = .agg (u8s l).toArray) := by
  cases st with
  | bad er fr => exact rKey_no F fun _ _ => rfl
  | «at» a =>
    by_cases h : a + 4 ≤ xs.length
    · have hs : takeP xs 4 a a id = .ok ((xs.drop a).take 4) (a + 4) := by unfold takeP; rw [if_pos h]; rfl
      rw [step_ok hs]; exact rKey_ok F h
    · have hs : takeP xs 4 a a id = .bad 6 a := by unfold takeP; rw [if_neg h]
      rw [step_bad hs]
      refine rKey_no F fun f' hf => ?_
      rw [hf a rfl, step_bad hs]
end Go.Proofs.Ytajlcodlaalomaa
end
section
namespace Go.Proofs.Ytajlcodlaalomaa
open Go.RowKit Go.Proofs.Ytajlcodlaalomaa.Wi Go.Proofs.Ytajlcodlaalomaa.Pc
attribute [local go_sem] cell_alloc_some frozen_alloc_some
set_option linter.unusedSimpArgs false
set_option linter.unusedVariables false
/-- The state behind the reading of a thing's kind. -/
def readS (xs : List UInt8) (x : Th) (st : St) : St :=
  if x.kind = 0 then (step (numP xs) 0 st).2
  else if x.kind = 1 then (step (bytesP xs x.n) [] st).2
  else if x.kind = 2 then (step (bytesP xs x.n) [] st).2
  else if x.kind = 3 then (step (fun a => takeP xs 32 a a id) (List.replicate 32 0) st).2
  else if x.kind = 4 then (step (fun a => takeP xs 4 a a id) (List.replicate 4 0) st).2
  else if x.kind = 5 then (step (fun a => takeP xs 8 a a bigL) 0 st).2
  else if x.kind = 6 then (step (paceP xs) 0 st).2
  else if x.kind = 7 then (step (boolP xs) false st).2
  else st
/-- Two readers that lie apart. -/
structure Apart (s s2 : Value) (p p2 : Nat) : Prop where
  ne : p ≠ p2
  own : ∀ b, s.ownBlock = some b → ¬ b = p2
  own2 : ∀ b, s2.ownBlock = some b → ¬ b = p
theorem Keep.two {w w1 w2 : World} {p p2 : Nat} (h : Keep (fun b => b = p) w w1) (k : Keep (fun b => b = p2) w1 w2) : Keep (fun b => b = p ∨ b = p2) w w2 :=
  (h.mono fun b _ e => Or.inl e).trans k fun b _ e => Or.inr e
theorem bytes_len {xs : List UInt8} {m : Int} (st : St) : (step (bytesP xs m) [] st).1.length ≤ xs.length := by
  cases st with
  | bad e f => simp [step]
  | «at» a =>
    simp only [step]
    cases h : bytesP xs m a with
    | bad e f => simp
    | ok l a' =>
      unfold bytesP at h
      split at h
      · split at h
        · unfold takeP at h
          split at h
          · injection h with h1 h2
            rw [← h1, id, List.length_take, List.length_drop]; omega
          · injection h
        · injection h
      · injection h
theorem RdO.xlen {w : World} {B p : Nat} {s : Value} {xs : List UInt8} {st : St} (h : RdO w B p s xs st) : xs.length ≤ 2097152 := by
  cases st with
  | «at» a => exact Rd.len h
  | bad e f => obtain ⟨_, a, h⟩ := h; exact h.len
theorem keep_row {w w1 : World} {S : Nat → Prop} {base e size n : Nat} {v : Value} {xs : List Value} (ho : w.ownsRow base e size v n xs) (h : Keep S w w1) (hn : ∀ b, v.ownBlock = some b → ¬ S b) : w1.ownsRow base e size v n xs := h.row ho hn
theorem ret_true {b : Bool} (h : b = true) : Ending.returned (.bool b) = .returned (.bool true) := by rw [h]

set_option maxRecDepth 100000 in
set_option maxHeartbeats 2000000 in
theorem al0_any {w : World} {B B2 p p2 : Nat} {s s2 : Value} {xs : List UInt8} {st : St} {v : Value} {x : Th} (hx : x.Fine) (ha : Apart s s2 p p2) (F : RdO w B p s xs st) (G : RRdO w B2 p2 s2 xs st) (hk : x.kind = 0) :
    Calls Try.prog 30 #[.pointer (some ⟨p, 0, none⟩), .pointer (some ⟨p2, 0, none⟩), .agg (x.cells v).toArray] w fun e w' => e = .returned (.bool true) ∧ RdO w' B p s xs (readS xs x st) ∧ RRdO w' B2 p2 s2 xs (readS xs x st) ∧ Keep (fun b => b = p ∨ b = p2) w w' := by
  have hlt := F.ltp
  have hlt2 := G.ltp
  have b1 : Below w.heap.size w (w.alloc (.cells (x.cells v).toArray 39)) := bl_alloc (Below.refl _ _) _
  have F1 := F.below b1
  have G1 := G.below b1
  have D := kb_new (w := w) rfl (.cells (x.cells v).toArray 39)
  have C := kb_cell D
  have c0 := (C 0).trans (arr_get (Th.c0 x v))
  have c1 := (C 1).trans (arr_get (Th.c1 x v))
  have CG1 := Lib.hid (arr_get (Th.c1 x v))
  rw [hk] at c0
  rw [show readS xs x st = (step (numP xs) 0 st).2 by simp [readS, hk]]
  obtain ⟨q, hq⟩ : ∃ q, step (numP xs) 0 st = q := ⟨_, rfl⟩
  have HC := dNum_any F1
  rw [hq] at HC
  have HC := Lib.hid HC
  have HG1 := Lib.hid G1
  have HQ := Lib.hid hq
  rw [hq]
  have HD := Lib.hid D
  have HB1 := Lib.hid b1
  have HA := Lib.hid ha
  clear b1 F1 C D F G G1 ha hq
  generalize (x.cells v).toArray = T at *
  go_enter Try.func30, Try.ntmps30
  go_wp2_with fail
  refine HC.out.mono ?_
  rintro e w1 ⟨u, rfl, rfl, h2, h3⟩
  have HE := rNum_any (HG1.out.keep h3 (fun e => HA.out.ne e.symm) HA.out.own2)
  rw [HQ.out] at HE
  have HE := Lib.hid HE
  have H2 := Lib.hid h2
  have H3 := Lib.hid (Keep.after HB1.out h3)
  clear h2 h3
  go_wp2_with fail
  refine HE.out.mono ?_
  rintro e w2 ⟨u, rfl, rfl, h4, h5⟩
  have H4 := Lib.hid h4
  have H5 := Lib.hid h5
  clear h4 h5
  go_wp2_with fail
  go_ret
  exact ⟨ret_true (by simp), H2.out.keep H5.out HA.out.ne HA.out.own, H4.out, Keep.two H3.out H5.out⟩

set_option maxRecDepth 100000 in
set_option maxHeartbeats 2000000 in
theorem al1_any {w : World} {B B2 p p2 : Nat} {s s2 : Value} {xs : List UInt8} {st : St} {v : Value} {x : Th} (hx : x.Fine) (ha : Apart s s2 p p2) (F : RdO w B p s xs st) (G : RRdO w B2 p2 s2 xs st) (hk : x.kind = 1) :
    Calls Try.prog 30 #[.pointer (some ⟨p, 0, none⟩), .pointer (some ⟨p2, 0, none⟩), .agg (x.cells v).toArray] w fun e w' => e = .returned (.bool true) ∧ RdO w' B p s xs (readS xs x st) ∧ RRdO w' B2 p2 s2 xs (readS xs x st) ∧ Keep (fun b => b = p ∨ b = p2) w w' := by
  have hlt := F.ltp
  have hlt2 := G.ltp
  have b1 : Below w.heap.size w (w.alloc (.cells (x.cells v).toArray 39)) := bl_alloc (Below.refl _ _) _
  have F1 := (F.below b1).below (bl_drew (Below.refl _ _))
  have G1 := G.below b1
  have D := kb_new (w := w) rfl (.cells (x.cells v).toArray 39)
  have C := kb_cell D
  have c0 := (C 0).trans (arr_get (Th.c0 x v))
  have c1 := (C 1).trans (arr_get (Th.c1 x v))
  have CG1 := Lib.hid (arr_get (Th.c1 x v))
  rw [hk] at c0
  rw [show readS xs x st = (step (bytesP xs x.n) [] st).2 by simp [readS, hk]]
  obtain ⟨q, hq⟩ : ∃ q, step (bytesP xs x.n) [] st = q := ⟨_, rfl⟩
  have HC := dText_any x.n F1
  rw [hq] at HC
  have HC := Lib.hid HC
  have HG1 := Lib.hid G1
  have HQ := Lib.hid hq
  rw [hq]
  have HD := Lib.hid D
  have HB1 := Lib.hid b1
  have HA := Lib.hid ha
  clear b1 F1 C D F G G1 ha hq
  generalize (x.cells v).toArray = T at *
  go_enter Try.func30, Try.ntmps30
  go_wp2_with fail
  refine wp_region_held_drew (S := (fun W : World => W.cell? ⟨w.heap.size, 1, none⟩ = some (.int .i64 x.n))) (by kernel_rfl) (c1) (fun hHeld => ?_)
  refine wpAnyH_take (i := 0) (oi := { dst := some 20, op := _, type := _, pos := _, after := _, guard := _ }) (v := ?_) rfl (by kernel_rfl) (by kernel_rfl) (by kernel_rfl) (fun _ _ _ h => h) (Or.inl ⟨by rfl, ?_⟩) hHeld ?_
  rotate_left
  · (intro w hSw; (try dsimp only at hSw); go_simp); all_goals with_reducible rfl
  try simp only [Act.put, List.setIfInBounds_toArray, List.set_cons_zero, List.set_cons_succ]
  refine wpAnyH_take (i := 1) (oi := { dst := some 21, op := _, type := _, pos := _, after := _, guard := _ }) (v := ?_) rfl (by kernel_rfl) (by kernel_rfl) (by kernel_rfl) (fun _ _ _ h => h) (Or.inl ⟨by rfl, ?_⟩) hHeld ?_
  rotate_left
  · (intro w hSw; (try dsimp only at hSw); go_simp); all_goals with_reducible rfl
  try simp only [Act.put, List.setIfInBounds_toArray, List.set_cons_zero, List.set_cons_succ]
  refine wpAnyH_take (i := 2) (oi := { dst := some 22, op := _, type := _, pos := _, after := _, guard := _ }) (v := ?_) rfl (by kernel_rfl) (by kernel_rfl) (by kernel_rfl) (fun _ _ _ h => h) (Or.inl ⟨by rfl, ?_⟩) hHeld ?_
  rotate_left
  · (intro w hSw; (try dsimp only at hSw); go_simp); all_goals with_reducible rfl
  try simp only [Act.put, List.setIfInBounds_toArray, List.set_cons_zero, List.set_cons_succ]
  refine wpAnyH_take (i := 4) (oi := { dst := some 24, op := _, type := _, pos := _, after := _, guard := _ }) (v := ?_) rfl (by kernel_rfl) (by kernel_rfl) (by kernel_rfl) (fun _ _ _ h => h) (Or.inl ⟨by rfl, ?_⟩) hHeld ?_
  rotate_left
  · (intro w hSw; (try dsimp only at hSw); go_simp); all_goals with_reducible rfl
  try simp only [Act.put, List.setIfInBounds_toArray, List.set_cons_zero, List.set_cons_succ]
  refine wpAnyH_take (i := 5) (oi := { dst := some 25, op := _, type := _, pos := _, after := _, guard := _ }) (v := ?_) rfl (by kernel_rfl) (by kernel_rfl) (by kernel_rfl) (fun _ _ _ h => h) (Or.inl ⟨by rfl, ?_⟩) hHeld ?_
  rotate_left
  · (intro w hSw; (try dsimp only at hSw); go_simp); all_goals with_reducible rfl
  try simp only [Act.put, List.setIfInBounds_toArray, List.set_cons_zero, List.set_cons_succ]
  refine wpAnyH_take (i := 6) (oi := { dst := some 26, op := _, type := _, pos := _, after := _, guard := _ }) (v := ?_) rfl (by kernel_rfl) (by kernel_rfl) (by kernel_rfl) (fun _ _ _ h => h) (Or.inl ⟨by rfl, ?_⟩) hHeld ?_
  rotate_left
  · (intro w hSw; (try dsimp only at hSw); go_simp); all_goals with_reducible rfl
  try simp only [Act.put, List.setIfInBounds_toArray, List.set_cons_zero, List.set_cons_succ]
  refine wpAnyH_ready (rs := [3]) (by kernel_rfl) (by simp) (AllReadyH.cons (o := _) rfl (fun K hK => ?_) AllReadyH.nil)
  go_simp
  refine HC.out.mono ?_
  rintro e w1 ⟨u, rfl, rfl, h2, h3⟩
  have D1 := h3.kb (kb_drew HD.out) (by show ¬ w.heap.size = p; omega)
  have HE := rText_any x.n ((HG1.out.below (bl_drew (Below.refl _ _))).keep h3 (fun e => HA.out.ne e.symm) HA.out.own2)
  rw [HQ.out] at HE
  have HE := Lib.hid HE
  have H2 := Lib.hid h2
  have H3 := Lib.hid (Keep.after (bl_drew HB1.out) h3)
  refine hK.out _ _ ((kb_cell D1 1).trans CG1.out) (fun hHeld => ?_)
  clear h2 h3
  try simp only [Act.put, List.setIfInBounds_toArray, List.set_cons_zero, List.set_cons_succ]
  refine wpAnyH_ready (rs := [7]) (by kernel_rfl) (by simp) (AllReadyH.cons (o := _) rfl (fun K hK => ?_) AllReadyH.nil)
  go_simp
  refine HE.out.mono ?_
  rintro e w2 ⟨u, rfl, rfl, h4, h5⟩
  have D2 := h5.kb D1 (by show ¬ w.heap.size = p2; omega)
  have H4 := Lib.hid h4
  have H5 := Lib.hid h5
  refine hK.out _ _ ((kb_cell D2 1).trans CG1.out) (fun hHeld => ?_)
  clear h4 h5
  try simp only [Act.put, List.setIfInBounds_toArray, List.set_cons_zero, List.set_cons_succ]
  refine wpAnyH_take (i := 8) (oi := { dst := some 28, op := _, type := _, pos := _, after := _, guard := _ }) (v := ?_) rfl (by kernel_rfl) (by kernel_rfl) (by kernel_rfl) (fun _ _ _ h => h) (Or.inl ⟨by rfl, ?_⟩) hHeld ?_
  rotate_left
  · (intro w hSw; (try dsimp only at hSw); go_simp); all_goals with_reducible rfl
  try simp only [Act.put, List.setIfInBounds_toArray, List.set_cons_zero, List.set_cons_succ]
  refine wpAnyH_take (i := 9) (oi := { dst := some 6, op := _, type := _, pos := _, after := _, guard := _ }) (v := ?_) rfl (by kernel_rfl) (by kernel_rfl) (by kernel_rfl) (fun _ _ _ h => h) (Or.inl ⟨by rfl, ?_⟩) hHeld ?_
  rotate_left
  · (intro w hSw; (try dsimp only at hSw); go_simp); all_goals with_reducible rfl
  try simp only [Act.put, List.setIfInBounds_toArray, List.set_cons_zero, List.set_cons_succ]
  refine wpAnyH_done (by kernel_rfl) ?_ _
  clear hHeld hK
  go_wp2
  go_ret
  exact ⟨ret_true (by simp), H2.out.keep H5.out HA.out.ne HA.out.own, H4.out, Keep.two H3.out H5.out⟩

set_option maxRecDepth 100000 in
set_option maxHeartbeats 2000000 in
theorem al2_any {w : World} {B B2 p p2 : Nat} {s s2 : Value} {xs : List UInt8} {st : St} {v : Value} {x : Th} (hx : x.Fine) (ha : Apart s s2 p p2) (F : RdO w B p s xs st) (G : RRdO w B2 p2 s2 xs st) (hk : x.kind = 2) :
    Calls Try.prog 30 #[.pointer (some ⟨p, 0, none⟩), .pointer (some ⟨p2, 0, none⟩), .agg (x.cells v).toArray] w fun e w' => e = .returned (.bool true) ∧ RdO w' B p s xs (readS xs x st) ∧ RRdO w' B2 p2 s2 xs (readS xs x st) ∧ Keep (fun b => b = p ∨ b = p2) w w' := by
  have hlt := F.ltp
  have hlt2 := G.ltp
  have b1 : Below w.heap.size w (w.alloc (.cells (x.cells v).toArray 39)) := bl_alloc (Below.refl _ _) _
  have F1 := F.below b1
  have G1 := G.below b1
  have D := kb_new (w := w) rfl (.cells (x.cells v).toArray 39)
  have C := kb_cell D
  have c0 := (C 0).trans (arr_get (Th.c0 x v))
  have c1 := (C 1).trans (arr_get (Th.c1 x v))
  have CG1 := Lib.hid (arr_get (Th.c1 x v))
  rw [hk] at c0
  rw [show readS xs x st = (step (bytesP xs x.n) [] st).2 by simp [readS, hk]]
  obtain ⟨q, hq⟩ : ∃ q, step (bytesP xs x.n) [] st = q := ⟨_, rfl⟩
  have HC := dBytes_any x.n F1
  rw [hq] at HC
  have HC := Lib.hid HC
  have HG1 := Lib.hid G1
  have HQ := Lib.hid hq
  have hlow : ∀ b, s.ownBlock = some b → b < w.heap.size := fun b h => (F.low b h).2
  have hlow2 : ∀ b, s2.ownBlock = some b → b < w.heap.size := fun b h => (G.low b h).2
  have hql : q.1.length ≤ 2097152 := by rw [← hq]; exact Nat.le_trans (bytes_len st) F.xlen
  rw [hq]
  have HD := Lib.hid D
  have HB1 := Lib.hid b1
  have HA := Lib.hid ha
  clear b1 F1 C D F G G1 ha hq
  generalize (x.cells v).toArray = T at *
  go_enter Try.func30, Try.ntmps30
  go_wp2_with fail
  refine HC.out.mono ?_
  rintro e w1 ⟨u1, rfl, h1, h2, h3⟩
  have D1 := h3.kb HD.out (by show ¬ w.heap.size = p; omega)
  have c1 := (kb_cell D1 1).trans CG1.out
  have HE := rBytes_any x.n (HG1.out.keep h3 (fun e => HA.out.ne e.symm) HA.out.own2)
  rw [HQ.out] at HE
  have hsz : (w.alloc (.cells T 39)).heap.size = w.heap.size + 1 := by simp
  have hub : ∀ b, u1.ownBlock = some b → w.heap.size + 1 ≤ b := fun b h => by have := (h1.lt b h).1; omega
  have HE := Lib.hid HE
  have H1 := Lib.hid h1
  have H2 := Lib.hid h2
  have H3 := Lib.hid (Keep.after HB1.out h3)
  obtain ⟨A1, cp1, rfl⟩ := (RowOf.of_own h1).form
  clear h2 h3 h1 D1 hsz
  go_wp2_with fail
  refine HE.out.mono ?_
  rintro e w2 ⟨u2, rfl, h6, h4, h5⟩
  have r1 := keep_row H1.out h5 (fun b h e => by have := hub b h; omega)
  have H4 := Lib.hid h4
  have H5 := Lib.hid h5
  have HS := Lib.hid (SameBytes_any (RowOf.of_own r1) (RowOf.of_own h6))
  have HO := Lib.hid (OverBytes_own r1 (by omega))
  obtain ⟨A2, cp2, rfl⟩ := (RowOf.of_own h6).form
  clear h4 h5 h6 r1
  go_wp2_with fail
  refine HS.out.mono ?_
  rintro e w3 ⟨rfl, rfl⟩
  go_wp2_with fail
  refine HO.out.mono ?_
  rintro e w3 ⟨⟨u, rfl⟩, ho⟩
  have HOO := Lib.hid ho
  clear ho
  go_wp2_with fail
  go_ret
  exact ⟨ret_true (by simp), (H2.out.keep H5.out HA.out.ne HA.out.own).keep HOO.out (fun e => by have := hub _ e; omega) (fun b h e => by have := hub _ e; have := hlow b h; omega), H4.out.keep HOO.out (fun e => by have := hub _ e; omega) (fun b h e => by have := hub _ e; have := hlow2 b h; omega), (Keep.two H3.out H5.out).trans HOO.out (fun b h e => by have := hub _ e; omega)⟩

set_option maxRecDepth 100000 in
set_option maxHeartbeats 2000000 in
theorem al3_any {w : World} {B B2 p p2 : Nat} {s s2 : Value} {xs : List UInt8} {st : St} {v : Value} {x : Th} (hx : x.Fine) (ha : Apart s s2 p p2) (F : RdO w B p s xs st) (G : RRdO w B2 p2 s2 xs st) (hk : x.kind = 3) :
    Calls Try.prog 30 #[.pointer (some ⟨p, 0, none⟩), .pointer (some ⟨p2, 0, none⟩), .agg (x.cells v).toArray] w fun e w' => e = .returned (.bool true) ∧ RdO w' B p s xs (readS xs x st) ∧ RRdO w' B2 p2 s2 xs (readS xs x st) ∧ Keep (fun b => b = p ∨ b = p2) w w' := by
  have hlt := F.ltp
  have hlt2 := G.ltp
  have b1 : Below w.heap.size w (w.alloc (.cells (x.cells v).toArray 39)) := bl_alloc (Below.refl _ _) _
  have F1 := F.below b1
  have G1 := G.below b1
  have D := kb_new (w := w) rfl (.cells (x.cells v).toArray 39)
  have C := kb_cell D
  have c0 := (C 0).trans (arr_get (Th.c0 x v))
  have c1 := (C 1).trans (arr_get (Th.c1 x v))
  have CG1 := Lib.hid (arr_get (Th.c1 x v))
  rw [hk] at c0
  rw [show readS xs x st = (step (fun a => takeP xs 32 a a id) (List.replicate 32 0) st).2 by simp [readS, hk]]
  obtain ⟨q, hq⟩ : ∃ q, step (fun a => takeP xs 32 a a id) (List.replicate 32 0) st = q := ⟨_, rfl⟩
  have HC := dHash_any F1
  rw [hq] at HC
  have HC := Lib.hid HC
  have HG1 := Lib.hid G1
  have HQ := Lib.hid hq
  have hql : q.1.length = 32 := by rw [← hq]; exact step_len (by simp) st
  have heq := fun W => run_eql_bytes Try.underlying34 q.1 q.1 hql hql W
  rw [hq]
  have HD := Lib.hid D
  have HB1 := Lib.hid b1
  have HA := Lib.hid ha
  clear b1 F1 C D F G G1 ha hq
  generalize (x.cells v).toArray = T at *
  go_enter Try.func30, Try.ntmps30
  go_wp2_with fail
  refine HC.out.mono ?_
  rintro e w1 ⟨u, rfl, rfl, h2, h3⟩
  have HE := rHash_any' (HG1.out.keep h3 (fun e => HA.out.ne e.symm) HA.out.own2)
  rw [HQ.out] at HE
  have HE := Lib.hid HE
  have H2 := Lib.hid h2
  have H3 := Lib.hid (Keep.after HB1.out h3)
  clear h2 h3
  go_wp2_with fail
  refine HE.out.mono ?_
  rintro e w2 ⟨u, rfl, rfl, h4, h5⟩
  have H4 := Lib.hid h4
  have H5 := Lib.hid h5
  clear h4 h5
  go_wp2_with fail
  go_ret
  exact ⟨ret_true (by simp), H2.out.keep H5.out HA.out.ne HA.out.own, H4.out, Keep.two H3.out H5.out⟩

set_option maxRecDepth 100000 in
set_option maxHeartbeats 2000000 in
theorem al4_any {w : World} {B B2 p p2 : Nat} {s s2 : Value} {xs : List UInt8} {st : St} {v : Value} {x : Th} (hx : x.Fine) (ha : Apart s s2 p p2) (F : RdO w B p s xs st) (G : RRdO w B2 p2 s2 xs st) (hk : x.kind = 4) :
    Calls Try.prog 30 #[.pointer (some ⟨p, 0, none⟩), .pointer (some ⟨p2, 0, none⟩), .agg (x.cells v).toArray] w fun e w' => e = .returned (.bool true) ∧ RdO w' B p s xs (readS xs x st) ∧ RRdO w' B2 p2 s2 xs (readS xs x st) ∧ Keep (fun b => b = p ∨ b = p2) w w' := by
  have hlt := F.ltp
  have hlt2 := G.ltp
  have b1 : Below w.heap.size w (w.alloc (.cells (x.cells v).toArray 39)) := bl_alloc (Below.refl _ _) _
  have F1 := F.below b1
  have G1 := G.below b1
  have D := kb_new (w := w) rfl (.cells (x.cells v).toArray 39)
  have C := kb_cell D
  have c0 := (C 0).trans (arr_get (Th.c0 x v))
  have c1 := (C 1).trans (arr_get (Th.c1 x v))
  have CG1 := Lib.hid (arr_get (Th.c1 x v))
  rw [hk] at c0
  rw [show readS xs x st = (step (fun a => takeP xs 4 a a id) (List.replicate 4 0) st).2 by simp [readS, hk]]
  obtain ⟨q, hq⟩ : ∃ q, step (fun a => takeP xs 4 a a id) (List.replicate 4 0) st = q := ⟨_, rfl⟩
  have HC := dKey_any F1
  rw [hq] at HC
  have HC := Lib.hid HC
  have HG1 := Lib.hid G1
  have HQ := Lib.hid hq
  have hql : q.1.length = 4 := by rw [← hq]; exact step_len (by simp) st
  have heq := fun W => run_eql_bytes Try.underlying36 q.1 q.1 hql hql W
  rw [hq]
  have HD := Lib.hid D
  have HB1 := Lib.hid b1
  have HA := Lib.hid ha
  clear b1 F1 C D F G G1 ha hq
  generalize (x.cells v).toArray = T at *
  go_enter Try.func30, Try.ntmps30
  go_wp2_with fail
  refine HC.out.mono ?_
  rintro e w1 ⟨u, rfl, rfl, h2, h3⟩
  have HE := rKey_any' (HG1.out.keep h3 (fun e => HA.out.ne e.symm) HA.out.own2)
  rw [HQ.out] at HE
  have HE := Lib.hid HE
  have H2 := Lib.hid h2
  have H3 := Lib.hid (Keep.after HB1.out h3)
  clear h2 h3
  go_wp2_with fail
  refine HE.out.mono ?_
  rintro e w2 ⟨u, rfl, rfl, h4, h5⟩
  have H4 := Lib.hid h4
  have H5 := Lib.hid h5
  clear h4 h5
  go_wp2_with fail
  go_ret
  exact ⟨ret_true (by simp), H2.out.keep H5.out HA.out.ne HA.out.own, H4.out, Keep.two H3.out H5.out⟩

set_option maxRecDepth 100000 in
set_option maxHeartbeats 2000000 in
theorem al5_any {w : World} {B B2 p p2 : Nat} {s s2 : Value} {xs : List UInt8} {st : St} {v : Value} {x : Th} (hx : x.Fine) (ha : Apart s s2 p p2) (F : RdO w B p s xs st) (G : RRdO w B2 p2 s2 xs st) (hk : x.kind = 5) :
    Calls Try.prog 30 #[.pointer (some ⟨p, 0, none⟩), .pointer (some ⟨p2, 0, none⟩), .agg (x.cells v).toArray] w fun e w' => e = .returned (.bool true) ∧ RdO w' B p s xs (readS xs x st) ∧ RRdO w' B2 p2 s2 xs (readS xs x st) ∧ Keep (fun b => b = p ∨ b = p2) w w' := by
  have hlt := F.ltp
  have hlt2 := G.ltp
  have b1 : Below w.heap.size w (w.alloc (.cells (x.cells v).toArray 39)) := bl_alloc (Below.refl _ _) _
  have F1 := F.below b1
  have G1 := G.below b1
  have D := kb_new (w := w) rfl (.cells (x.cells v).toArray 39)
  have C := kb_cell D
  have c0 := (C 0).trans (arr_get (Th.c0 x v))
  have c1 := (C 1).trans (arr_get (Th.c1 x v))
  have CG1 := Lib.hid (arr_get (Th.c1 x v))
  rw [hk] at c0
  rw [show readS xs x st = (step (fun a => takeP xs 8 a a bigL) 0 st).2 by simp [readS, hk]]
  obtain ⟨q, hq⟩ : ∃ q, step (fun a => takeP xs 8 a a bigL) 0 st = q := ⟨_, rfl⟩
  have HC := dWord_any F1
  rw [hq] at HC
  have HC := Lib.hid HC
  have HG1 := Lib.hid G1
  have HQ := Lib.hid hq
  rw [hq]
  have HD := Lib.hid D
  have HB1 := Lib.hid b1
  have HA := Lib.hid ha
  clear b1 F1 C D F G G1 ha hq
  generalize (x.cells v).toArray = T at *
  go_enter Try.func30, Try.ntmps30
  go_wp2_with fail
  refine HC.out.mono ?_
  rintro e w1 ⟨u, rfl, rfl, h2, h3⟩
  have HE := rWord_any' (HG1.out.keep h3 (fun e => HA.out.ne e.symm) HA.out.own2)
  rw [HQ.out] at HE
  have HE := Lib.hid HE
  have H2 := Lib.hid h2
  have H3 := Lib.hid (Keep.after HB1.out h3)
  clear h2 h3
  go_wp2_with fail
  refine HE.out.mono ?_
  rintro e w2 ⟨u, rfl, rfl, h4, h5⟩
  have H4 := Lib.hid h4
  have H5 := Lib.hid h5
  clear h4 h5
  go_wp2_with fail
  go_ret
  exact ⟨ret_true (by simp), H2.out.keep H5.out HA.out.ne HA.out.own, H4.out, Keep.two H3.out H5.out⟩

set_option maxRecDepth 100000 in
set_option maxHeartbeats 2000000 in
theorem al6_any {w : World} {B B2 p p2 : Nat} {s s2 : Value} {xs : List UInt8} {st : St} {v : Value} {x : Th} (hx : x.Fine) (ha : Apart s s2 p p2) (F : RdO w B p s xs st) (G : RRdO w B2 p2 s2 xs st) (hk : x.kind = 6) :
    Calls Try.prog 30 #[.pointer (some ⟨p, 0, none⟩), .pointer (some ⟨p2, 0, none⟩), .agg (x.cells v).toArray] w fun e w' => e = .returned (.bool true) ∧ RdO w' B p s xs (readS xs x st) ∧ RRdO w' B2 p2 s2 xs (readS xs x st) ∧ Keep (fun b => b = p ∨ b = p2) w w' := by
  have hlt := F.ltp
  have hlt2 := G.ltp
  have b1 : Below w.heap.size w (w.alloc (.cells (x.cells v).toArray 39)) := bl_alloc (Below.refl _ _) _
  have F1 := F.below b1
  have G1 := G.below b1
  have D := kb_new (w := w) rfl (.cells (x.cells v).toArray 39)
  have C := kb_cell D
  have c0 := (C 0).trans (arr_get (Th.c0 x v))
  have c1 := (C 1).trans (arr_get (Th.c1 x v))
  have CG1 := Lib.hid (arr_get (Th.c1 x v))
  rw [hk] at c0
  rw [show readS xs x st = (step (paceP xs) 0 st).2 by simp [readS, hk]]
  obtain ⟨q, hq⟩ : ∃ q, step (paceP xs) 0 st = q := ⟨_, rfl⟩
  have HC := dPace_any F1
  rw [hq] at HC
  have HC := Lib.hid HC
  have HG1 := Lib.hid G1
  have HQ := Lib.hid hq
  rw [hq]
  have HD := Lib.hid D
  have HB1 := Lib.hid b1
  have HA := Lib.hid ha
  clear b1 F1 C D F G G1 ha hq
  generalize (x.cells v).toArray = T at *
  go_enter Try.func30, Try.ntmps30
  go_wp2_with fail
  refine HC.out.mono ?_
  rintro e w1 ⟨u, rfl, rfl, h2, h3⟩
  have HE := rPace_any' (HG1.out.keep h3 (fun e => HA.out.ne e.symm) HA.out.own2)
  rw [HQ.out] at HE
  have HE := Lib.hid HE
  have H2 := Lib.hid h2
  have H3 := Lib.hid (Keep.after HB1.out h3)
  clear h2 h3
  go_wp2_with fail
  refine (rBits_any q.1 _).mono ?_
  rintro e w'' ⟨rfl, rfl⟩
  go_wp2_with fail
  refine HE.out.mono ?_
  rintro e w2 ⟨u, rfl, rfl, h4, h5⟩
  have H4 := Lib.hid h4
  have H5 := Lib.hid h5
  clear h4 h5
  go_wp2_with fail
  refine (rBits_any q.1 _).mono ?_
  rintro e w'' ⟨rfl, rfl⟩
  go_wp2_with fail
  go_ret
  exact ⟨ret_true (by simp), H2.out.keep H5.out HA.out.ne HA.out.own, H4.out, Keep.two H3.out H5.out⟩

set_option maxRecDepth 100000 in
set_option maxHeartbeats 2000000 in
theorem al7_any {w : World} {B B2 p p2 : Nat} {s s2 : Value} {xs : List UInt8} {st : St} {v : Value} {x : Th} (hx : x.Fine) (ha : Apart s s2 p p2) (F : RdO w B p s xs st) (G : RRdO w B2 p2 s2 xs st) (hk : x.kind = 7) :
    Calls Try.prog 30 #[.pointer (some ⟨p, 0, none⟩), .pointer (some ⟨p2, 0, none⟩), .agg (x.cells v).toArray] w fun e w' => e = .returned (.bool true) ∧ RdO w' B p s xs (readS xs x st) ∧ RRdO w' B2 p2 s2 xs (readS xs x st) ∧ Keep (fun b => b = p ∨ b = p2) w w' := by
  have hlt := F.ltp
  have hlt2 := G.ltp
  have b1 : Below w.heap.size w (w.alloc (.cells (x.cells v).toArray 39)) := bl_alloc (Below.refl _ _) _
  have F1 := F.below b1
  have G1 := G.below b1
  have D := kb_new (w := w) rfl (.cells (x.cells v).toArray 39)
  have C := kb_cell D
  have c0 := (C 0).trans (arr_get (Th.c0 x v))
  have c1 := (C 1).trans (arr_get (Th.c1 x v))
  have CG1 := Lib.hid (arr_get (Th.c1 x v))
  rw [hk] at c0
  rw [show readS xs x st = (step (boolP xs) false st).2 by simp [readS, hk]]
  obtain ⟨q, hq⟩ : ∃ q, step (boolP xs) false st = q := ⟨_, rfl⟩
  have HC := dBool_any F1
  rw [hq] at HC
  have HC := Lib.hid HC
  have HG1 := Lib.hid G1
  have HQ := Lib.hid hq
  rw [hq]
  have HD := Lib.hid D
  have HB1 := Lib.hid b1
  have HA := Lib.hid ha
  clear b1 F1 C D F G G1 ha hq
  generalize (x.cells v).toArray = T at *
  go_enter Try.func30, Try.ntmps30
  go_wp2_with fail
  refine HC.out.mono ?_
  rintro e w1 ⟨u, rfl, rfl, h2, h3⟩
  have HE := rBool_any' (HG1.out.keep h3 (fun e => HA.out.ne e.symm) HA.out.own2)
  rw [HQ.out] at HE
  have HE := Lib.hid HE
  have H2 := Lib.hid h2
  have H3 := Lib.hid (Keep.after HB1.out h3)
  clear h2 h3
  go_wp2_with fail
  refine HE.out.mono ?_
  rintro e w2 ⟨u, rfl, rfl, h4, h5⟩
  have H4 := Lib.hid h4
  have H5 := Lib.hid h5
  clear h4 h5
  go_wp2_with fail
  go_ret
  exact ⟨ret_true (by simp), H2.out.keep H5.out HA.out.ne HA.out.own, H4.out, Keep.two H3.out H5.out⟩

set_option maxRecDepth 100000 in
set_option maxHeartbeats 2000000 in
theorem al8_any {w : World} {B B2 p p2 : Nat} {s s2 : Value} {xs : List UInt8} {st : St} {v : Value} {x : Th} (hx : x.Fine) (ha : Apart s s2 p p2) (F : RdO w B p s xs st) (G : RRdO w B2 p2 s2 xs st) (hk : ¬ (0 ≤ x.kind ∧ x.kind ≤ 7)) :
    Calls Try.prog 30 #[.pointer (some ⟨p, 0, none⟩), .pointer (some ⟨p2, 0, none⟩), .agg (x.cells v).toArray] w fun e w' => e = .returned (.bool true) ∧ RdO w' B p s xs (readS xs x st) ∧ RRdO w' B2 p2 s2 xs (readS xs x st) ∧ Keep (fun b => b = p ∨ b = p2) w w' := by
  have b1 : Below w.heap.size w (w.alloc (.cells (x.cells v).toArray 39)) := bl_alloc (Below.refl _ _) _
  have C := kb_cell (kb_new (w := w) rfl (.cells (x.cells v).toArray 39))
  have c0 := (C 0).trans (arr_get (Th.c0 x v))
  have hr : readS xs x st = st := by unfold readS; (repeat' rw [if_neg (by omega)])
  rw [hr]
  obtain ⟨n, hn⟩ : ∃ n, x.kind = n := ⟨_, rfl⟩
  rw [hn] at c0 hk
  have k0 : (n == 0) = false := by simp; omega
  have k1 : (n == 1) = false := by simp; omega
  have k2 : (n == 2) = false := by simp; omega
  have k3 : (n == 3) = false := by simp; omega
  have k4 : (n == 4) = false := by simp; omega
  have k5 : (n == 5) = false := by simp; omega
  have k6 : (n == 6) = false := by simp; omega
  have k7 : (n == 7) = false := by simp; omega
  have HF := Lib.hid F
  have HG := Lib.hid G
  have B1 := Lib.hid b1
  clear b1 F G C hk hn hr
  generalize (x.cells v).toArray = T at *
  go_enter Try.func30, Try.ntmps30
  go_wp2_with fail
  go_ret
  exact ⟨rfl, HF.out.below B1.out, HG.out.below B1.out, Keep.of_below B1.out⟩

theorem reads_any {w : World} {B B2 p p2 : Nat} {s s2 : Value} {xs : List UInt8} {st : St} {v : Value} {x : Th} (hx : x.Fine) (ha : Apart s s2 p p2) (F : RdO w B p s xs st) (G : RRdO w B2 p2 s2 xs st) :
    Calls Try.prog 30 #[.pointer (some ⟨p, 0, none⟩), .pointer (some ⟨p2, 0, none⟩), .agg (x.cells v).toArray] w fun e w' => e = .returned (.bool true) ∧ RdO w' B p s xs (readS xs x st) ∧ RRdO w' B2 p2 s2 xs (readS xs x st) ∧ Keep (fun b => b = p ∨ b = p2) w w' := by
  rcases kinds x with h | h | h | h | h | h | h | h | h
  · exact al0_any hx ha F G h
  · exact al1_any hx ha F G h
  · exact al2_any hx ha F G h
  · exact al3_any hx ha F G h
  · exact al4_any hx ha F G h
  · exact al5_any hx ha F G h
  · exact al6_any hx ha F G h
  · exact al7_any hx ha F G h
  · exact al8_any hx ha F G h
end Go.Proofs.Ytajlcodlaalomaa
end
section
namespace Go.Proofs.Ytajlcodlaalomaa
open Go.RowKit Go.Proofs.Ytajlcodlaalomaa.Wi Go.Proofs.Ytajlcodlaalomaa.Pc
attribute [local go_sem] cell_alloc_some frozen_alloc_some
set_option linter.unusedSimpArgs false
set_option linter.unusedVariables false
set_option maxRecDepth 100000 in
set_option maxHeartbeats 4000000 in
theorem WireReads_any {w : World} {A B : Option Addr} {cap cap2 : Nat} {xs : List UInt8} {l : List Th} (hv : BytesOf w (.slice A xs.length cap) xs) (hh : ThRow w B l) :
    Calls Try.prog 5 #[.slice A xs.length cap, .slice B l.length cap2] w fun e w' => e = .returned (.bool true) ∧ Below w.heap.size w w' := by
  have HV := Lib.hid hv
  have HH := Lib.hid hh
  clear hv hh
  by_cases h600 : 600 < xs.length
  · have hd : decide ((600 : Int) < (xs.length : Int)) = true := decide_eq_true (by omega)
    clear h600
    go_enter Try.func5, Try.ntmps5
    go_wp2_with fail
    refine (awake_yes _).mono ?_
    rintro e w1 ⟨rfl, b1⟩
    go_wp2_with fail
    go_ret
    exact ⟨rfl, b1⟩
  · have hd : decide ((600 : Int) < (xs.length : Int)) = false := decide_eq_false (by omega)
    have hl6 : xs.length ≤ 600 := by omega
    clear h600
    go_enter Try.func5, Try.ntmps5
    go_wp2_with fail
    refine (long_any (cap := cap2) HH.out).mono ?_
    rintro e w0 ⟨r, rfl, rfl, hr⟩
    have HR := Lib.hid hr
    clear hr
    cases r
    case true =>
      go_wp2_with fail
      refine (awake_yes _).mono ?_
      rintro e w1 ⟨rfl, b1⟩
      go_wp2_with fail
      go_ret
      exact ⟨rfl, b1⟩
    · go_wp2_with fail
      refine (LentBytes_any HV.out (by omega)).mono ?_
      rintro e1 w1 ⟨g, v1, rfl, hL, hg, b1⟩
      obtain ⟨cap1, rfl⟩ : ∃ c, v1 = .slice (some ⟨g, 0, none⟩) xs.length c := by obtain ⟨c, e, _⟩ := hL; exact ⟨c, e⟩
      have hgl : g < w1.heap.size := by obtain ⟨_, _, ho⟩ := hL; exact (ho.lt g rfl).2
      have HL := Lib.hid hL
      have HB1 := Lib.hid b1
      clear hL b1
      go_wp2_with fail
      refine (NewReader_any HL.out.bytes (by omega)).mono ?_
      rintro e w2 ⟨p, s, rfl, F2, b2⟩
      have HF2 := Lib.hid F2
      have HB2 := Lib.hid (bl_then HB1.out b2)
      have HL2 := Lib.hid (HL.out.keep (S := fun _ => False) (Keep.of_below b2) (fun h => h))
      have hs12 := b2.size
      clear F2 b2
      go_wp2_with fail
      refine (rNew_any (HV.out.below HB2.out) (by omega)).mono ?_
      rintro e w3 ⟨p2, s2, rfl, G3, b3⟩
      have HG3 := Lib.hid G3
      have HF3 := Lib.hid (HF2.out.below b3)
      have HB3 := Lib.hid (bl_then HB2.out b3)
      have HL3 := Lib.hid (HL2.out.keep (S := fun _ => False) (Keep.of_below b3) (fun h => h))
      have hap : Apart s s2 p p2 := ⟨by have := HF2.out.ltp; have := G3.lp; omega, fun b h e => by have := (HF2.out.low b h).2; have := G3.lp; omega, fun b h e => by have := (G3.low b h).1; have := HF2.out.ltp; omega⟩
      have HA := Lib.hid hap
      have hs23 := b3.size
      clear G3 b3 hap
      go_wp2_with fail
      refine (KeptBytes_yes HL3.out (HV.out.below HB3.out) (by omega)).mono ?_
      rintro e w4 ⟨rfl, b4⟩
      have HG4 := Lib.hid (HG3.out.below b4)
      have HF4 := Lib.hid (HF3.out.below b4)
      have HB4 := Lib.hid (bl_then HB3.out b4)
      have HL4 := Lib.hid (HL3.out.keep (S := fun _ => False) (Keep.of_below b4) (fun h => h))
      have hs34 := b4.size
      clear b4
      go_wp2_with fail
      refine (OverBytes_lent HL4.out (by omega)).mono ?_
      rintro e w5 ⟨⟨u5, rfl⟩, k5⟩
      have HF5 := Lib.hid (HF4.out.keep k5 (fun e => by have := HF4.out.lp; omega) (fun b h e => by have := (HF4.out.low b h).1; omega))
      have HG5 := Lib.hid (HG4.out.keep k5 (fun e => by have := HG4.out.lp; omega) (fun b h e => by have := (HG4.out.low b h).1; omega))
      have HB5 := Lib.hid (HB4.out.trans (k5.below HB4.out.size (fun b h => by omega)))
      clear k5
      go_wp2_with fail
      go_loopw [8, 33, 34, 35, 36, 37, 38, 39, 40, 41, 42, 43, 44, 45, 46, 47, 48, 49, 50, 51, 52, 53, 54, 55, 56, 57, 58, 59, 60] (fun s8 _ _ _ _ _ _ _ _ _ _ _ _ _ _ _ _ _ _ _ _ _ _ _ _ _ _ _ _ wr => ∃ (k : Nat) (st : St), k ≤ l.length ∧ s8 = .int .i64 k ∧ RdO wr w1.heap.size p s xs st ∧ RRdO wr w2.heap.size p2 s2 xs st ∧ Below w.heap.size w wr) (fun s8 _ _ _ _ _ _ _ _ _ _ _ _ _ _ _ _ _ _ _ _ _ _ _ _ _ _ _ _ _ => l.length - (intOf s8).toNat)
      case atStart => exact ⟨0, .at 0, by omega, rfl, HF5.out, HG5.out, HB5.out⟩
      case round =>
        obtain ⟨k, st, hk, rfl, F, G, hb⟩ := hrel
        have HF := Lib.hid F
        have HG := Lib.hid G
        have HB := Lib.hid hb
        clear F G
        by_cases hlt : k < l.length
        · obtain ⟨b, off, rfl, hbw, hc⟩ := HH.out.2 (by omega)
          obtain ⟨x, hx⟩ : ∃ x, l[k]? = some x := ⟨_, List.getElem?_eq_getElem hlt⟩
          have hxm : x ∈ l := List.mem_of_getElem? hx
          have hxb := (HR.out trivial).2 x hxm
          have hxo := HH.out.1 x hxm
          have HLT := Lib.hid hlt
          have hl30 := (HR.out trivial).1
          obtain ⟨u, hr0, hu0⟩ := hc k x hx
          have HRr := Lib.hid (range_below hr0 hbw hb)
          have hil : ((k : Nat) : Int) < (l.length : Int) := by omega
          have hfine := hxo.fine (by omega)
          have hsz := Th.cells_len hfine u
          have hi41 : (Try.prog.info? 39).map (·.size) = some 41 := by kernel_rfl
          have HI := Lib.hid hi41
          clear hc hx hxm hr0 hu0 hi41 hb
          go_wp2_with (with_reducible refine wpList_load_mid rfl 39 _ rfl b (off + k * 41) rfl (x.cells u) _ HRr.out Try.underlying39 rfl (HI.out.trans (congrArg some hsz.symm)) ?_)
          refine (reads_any hfine HA.out HF.out HG.out).mono ?_
          rintro e w6 ⟨rfl, F6, G6, K6⟩
          generalize readS xs x st = st6 at *
          have hlow : ∀ b, (b = p ∨ b = p2) → w.heap.size ≤ b := fun b h => by
            have h1 := HB1.out.size
            rcases h with rfl | rfl
            · have := HF.out.lp; omega
            · have := HG.out.lp; omega
          have HB6 := Lib.hid (HB.out.trans (K6.below HB.out.size hlow))
          have HF6 := Lib.hid F6
          have HG6 := Lib.hid G6
          clear F6 G6 K6 hlow
          go_wp2_with fail
          refine (dRest_any HF6.out).mono ?_
          rintro e w7 ⟨rfl, b7⟩
          have HF7 := Lib.hid (HF6.out.below b7)
          have HG7 := Lib.hid (HG6.out.below b7)
          have HB7 := Lib.hid (bl_then HB6.out b7)
          clear b7
          go_wp2_with fail
          refine (rRest_any HG7.out).mono ?_
          rintro e w8 ⟨rfl, b8⟩
          have HF8 := Lib.hid (HF7.out.below b8)
          have HG8 := Lib.hid (HG7.out.below b8)
          have HB8 := Lib.hid (bl_then HB7.out b8)
          clear b8
          go_wp2_with fail
          refine (dEnd_any HF8.out).mono ?_
          rintro e w9 ⟨rfl, b9⟩
          have HF9 := Lib.hid (HF8.out.below b9)
          have HG9 := Lib.hid (HG8.out.below b9)
          have HB9 := Lib.hid (bl_then HB8.out b9)
          clear b9
          go_wp2_with fail
          refine (rEnd_any HG9.out).mono ?_
          rintro e w10 ⟨rfl, b10⟩
          have HF10 := Lib.hid (HF9.out.below b10)
          have HG10 := Lib.hid (HG9.out.below b10)
          have HB10 := Lib.hid (bl_then HB9.out b10)
          clear b10
          generalize (endS xs st6).1 = e1 at *
          generalize (endS xs st6).2 = e2 at *
          go_wp2_with fail
          go_roundw
          case rel => exact ⟨k + 1, st6, by omega, by go_num, HF10.out, HG10.out, HB10.out⟩
          case measure => simp [intOf]; omega
        · obtain rfl : k = l.length := by omega
          clear hlt hb
          go_wp2_with fail
          refine (dRest_any HF.out).mono ?_
          rintro e w7 ⟨rfl, b7⟩
          have HF7 := Lib.hid (HF.out.below b7)
          have HG7 := Lib.hid (HG.out.below b7)
          have HB7 := Lib.hid (bl_then HB.out b7)
          clear b7
          go_wp2_with fail
          refine (rRest_any HG7.out).mono ?_
          rintro e w8 ⟨rfl, b8⟩
          have HF8 := Lib.hid (HF7.out.below b8)
          have HG8 := Lib.hid (HG7.out.below b8)
          have HB8 := Lib.hid (bl_then HB7.out b8)
          clear b8
          go_wp2_with fail
          refine (dEnd_any HF8.out).mono ?_
          rintro e w9 ⟨rfl, b9⟩
          have HG9 := Lib.hid (HG8.out.below b9)
          have HB9 := Lib.hid (bl_then HB8.out b9)
          clear b9
          go_wp2_with fail
          refine (rEnd_any HG9.out).mono ?_
          rintro e w10 ⟨rfl, b10⟩
          have HB10 := Lib.hid (bl_then HB9.out b10)
          clear b10
          generalize (endS xs st).1 = e1 at *
          generalize (endS xs st).2 = e2 at *
          go_wp2_with fail
          refine (awake_yes _).mono ?_
          rintro e w11 ⟨rfl, b11⟩
          go_wp2_with fail
          go_ret
          exact ⟨rfl, bl_then HB10.out b11⟩
end Go.Proofs.Ytajlcodlaalomaa
end
