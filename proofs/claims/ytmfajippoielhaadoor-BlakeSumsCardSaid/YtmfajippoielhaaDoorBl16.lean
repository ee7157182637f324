/- BlakeKnown. -/
import Derived.Test.YtmfajippoielhaaDoorBl15
namespace Go.Proofs.YtmfajippoielhaaDoor
open Go.RowKit Go.Proofs.YtmfajippoielhaaDoor.Bl BigFrame
set_option linter.unusedSimpArgs false
set_option linter.unusedVariables false
attribute [local go_sem] cell_alloc_some frozen_alloc_some

theorem strB_size (l : List UInt8) : (strB l).size = l.length := by show l.toArray.size = _; simp
theorem strB_append (a b : List UInt8) : strB a ++ strB b = strB (a ++ b) := by
  apply ByteArray.ext
  rw [ByteArray.data_append]
  simp [strB]
def textA : List UInt8 := List.replicate 64 65
set_option maxRecDepth 100000 in
theorem times_A (w : World) : Calls Tryd.prog 24 #[.string ⟨#[65]⟩, .int .i64 64] w fun e w' => e = .returned (.string (strB textA)) ∧ w = w' := by
  go_enter Tryd.func24, Tryd.ntmps24
  go_wp2_with fail
  go_loop [5, 6, 7, 8, 9, 10, 11, 12, 13, 14] (fun s5 s6 _ _ _ _ _ _ _ _ => ∃ i : Nat, i ≤ 64 ∧ s6 = .int .i64 i ∧ s5 = .string (strB (List.replicate i 65))) (fun _ s6 _ _ _ _ _ _ _ _ => 64 - (intOf s6).toNat)
  case atStart => exact ⟨0, by omega, rfl, rfl⟩
  case round =>
    obtain ⟨i, hi, rfl, rfl⟩ := hrel
    by_cases hi' : i < 64
    · have hsz : ¬ 9223372036854775807 < (strB (List.replicate i (65 : UInt8))).size + 1 := by rw [strB_size, List.length_replicate]; omega
      have hcat := Lib.hid (show strB (List.replicate i (65 : UInt8)) ++ ⟨#[65]⟩ = strB (List.replicate (i + 1) 65) by rw [show (⟨#[65]⟩ : ByteArray) = strB [65] from rfl, strB_append, ← List.replicate_succ'])
      have fi : (i : Int) < 64 := by omega
      go_wp2_with fail
      rw [hcat.out]
      go_round
      case rel => exact ⟨i + 1, by omega, by go_num, rfl⟩
      case measure => simp [intOf]; omega
    · obtain rfl : i = 64 := by omega
      rw [show List.replicate 64 (65 : UInt8) = textA from rfl]
      go_wp2_with fail
      go_ret
      exact ⟨rfl, rfl⟩

/-- Hashes of the examples. -/
def h1L : List UInt8 := 1 :: zeros 31
def h09 : List UInt8 := 0 :: 9 :: zeros 30
theorem built_1 : Tryd.prog.built 26 [(0, .int .u8 1)] = some (u8s h1L).toArray := by kernel_rfl
theorem built_09 : Tryd.prog.built 26 [(0, .int .u8 0), (1, .int .u8 9)] = some (u8s h09).toArray := by kernel_rfl
theorem wpList_build_1 {ops : Array Oper} {rest : List Oper} {op : Oper} {s : Act} {w : World} {Q : Exit → Act → World → Prop} (hw : Region.wanted op (yielded ops s.tmps) = true) (p : Operand) (ho : op.op = .build 26 #[(0, p)]) (hp : s.eval p = .int .u8 1)
    (hk : wpList Tryd.prog ops Q rest (s.put op.dst (.agg (u8s h1L).toArray)) w) : wpList Tryd.prog ops Q (op :: rest) s w :=
  BigFrame.wpList_want hw fun K hK => by
    have hr := run_build (P := Tryd.prog) w 26 #[(0, .int .u8 1)] _ built_1
    unfold Oper.wp execOp
    simp only [ho, List.map_toArray, List.map_cons, List.map_nil, hp, Sem.run_bind, hr, Result.andThen_ok]
    exact hK _ _ hk
theorem wpList_build_09 {ops : Array Oper} {rest : List Oper} {op : Oper} {s : Act} {w : World} {Q : Exit → Act → World → Prop} (hw : Region.wanted op (yielded ops s.tmps) = true) (p q : Operand) (ho : op.op = .build 26 #[(0, p), (1, q)]) (hp : s.eval p = .int .u8 0) (hq : s.eval q = .int .u8 9)
    (hk : wpList Tryd.prog ops Q rest (s.put op.dst (.agg (u8s h09).toArray)) w) : wpList Tryd.prog ops Q (op :: rest) s w :=
  BigFrame.wpList_want hw fun K hK => by
    have hr := run_build (P := Tryd.prog) w 26 #[(0, .int .u8 0), (1, .int .u8 9)] _ built_09
    unfold Oper.wp execOp
    simp only [ho, List.map_toArray, List.map_cons, List.map_nil, hp, hq, Sem.run_bind, hr, Result.andThen_ok]
    exact hK _ _ hk
theorem row_lit {w : World} {g : Nat} {fr : Nat × Nat} (l : List UInt8) (h : w.heap[g]? = some (.cells (u8s l).toArray 5 fr)) : BytesOf w (.slice (some ⟨g, 0, none⟩) l.length l.length) l := by
  have := RowOf.lit (n := l.length) (cap := l.length) h (by simp [u8s_len])
  simpa using this
theorem St.alloc {w : World} {p c : Nat} {s : S} {v : Value} (H : St w p c s v) (o : Obj) : St (w.alloc o) p c s v := H.below (bl_alloc (Below.refl _ _) o)
theorem New_st {w' : World} {p c : Nat} (t : Stt w' p c h0 0 (.slice none 0 0)) : St w' p c (stOf []) (.slice none 0 0) := ⟨t, Ob.nil _, fun k hk => by simp [Value.ownBlock] at hk⟩
theorem stOf_nil : stOf [] = ⟨h0, 0, []⟩ := rfl
theorem stOf_facts (bs : List UInt8) : (stOf bs).l.length ≤ 64 ∧ (stOf bs).n + (stOf bs).l.length = bs.length := by
  have := eat_props ⟨h0, 0, bs⟩
  exact ⟨this.1, by have := this.2.1; simpa [stOf] using this⟩
/-- A state that took some bytes takes others. -/
theorem Write_more {w : World} {p c : Nat} {xs b : List UInt8} {v x : Value} (H : St w p c (stOf xs) v) (hx : BytesOf w x b) (hn : xs.length + b.length ≤ 100000) :
    Calls Tryd.prog 15 #[.pointer (some ⟨p, 0, none⟩), x] w fun e w' => e = .returned (.int .i64 0) ∧ ∃ v', Wo w w' p c (stOf (xs ++ b)) v v' := by
  have h := Write_any H hx (by have := (stOf_facts xs).2; omega)
  rw [stOf_next] at h
  exact h
theorem Sum_more {w : World} {p c : Nat} {xs : List UInt8} {v : Value} (H : St w p c (stOf xs) v) (hn : xs.length ≤ 100000) :
    Calls Tryd.prog 14 #[.pointer (some ⟨p, 0, none⟩)] w fun e w' => e = .returned (.tuple #[.agg (u8s (sumB xs)).toArray, .int .i64 0]) ∧ Below w.heap.size w w' :=
  Sum_any H (stOf_facts xs).1 (by have := (stOf_facts xs).2; omega)
theorem Len_more {w : World} {p c : Nat} {xs : List UInt8} {v : Value} (H : St w p c (stOf xs) v) (hn : xs.length ≤ 100000) :
    Calls Tryd.prog 16 #[.pointer (some ⟨p, 0, none⟩)] w fun e w' => e = .returned (.int .i64 ((xs.length : Nat) : Int)) ∧ Below w.heap.size w w' := by
  have h := Len_any H (by have := (stOf_facts xs).2; omega)
  rw [(stOf_facts xs).2] at h
  exact h
theorem read_nil : readP [] = (zeros 32, 5) := by decide +kernel
theorem read_A : readP textA = (zeros 32, 5) := by decide +kernel
theorem cmp_known : cmpL h1L h09 = 1 := by decide +kernel
theorem Wo.below {w0 w w' : World} {p c : Nat} {s : S} {v v' : Value} (W : Wo w w' p c s v v') (B : Below w0.heap.size w0 w) (hp : w0.heap.size ≤ p) (hc : w0.heap.size ≤ c) (hv : ∀ k, v.ownBlock = some k → w0.heap.size ≤ k) : Below w0.heap.size w0 w' ∧ ∀ k, v'.ownBlock = some k → w0.heap.size ≤ k := by
  refine ⟨((Keep.of_below (S := fun _ => False) B).trans W.k (fun b hb e => ?_)).below (Nat.le_refl _) (fun b e => e.elim), fun k hk => ?_⟩
  · rcases e with e | e | e
    · omega
    · omega
    · have := hv b e; omega
  · rcases W.own k hk with h | h
    · exact hv k h
    · have := B.size; omega
set_option maxRecDepth 100000 in
set_option maxHeartbeats 1000000 in
theorem BlakeKnown_any (w : World) : Calls Tryd.prog 6 #[] w fun e w' => e = .returned (.bool true) ∧ Below w.heap.size w w' := by
  have kc := fun (w : World) (C : Array Value) (n c : Nat) => Lib.run_convert_bytes_const (P := Tryd.prog) w 22 5 C n c Tryd.underlying22 Tryd.underlying5
  go_enter Tryd.func6, Tryd.ntmps6
  go_wp2_with fail
  refine (New_any _).mono ?_
  rintro e w1 ⟨p, c, rfl, t1, hp, hc, b1⟩
  have H1 := Lib.hid (And.intro (New_st t1) (And.intro b1 (And.intro hp hc)))
  clear t1 b1 hp hc
  go_wp2_with fail
  refine (Write_more (H1.out.1.alloc _) (row_lit [97] (kb_new rfl _)) (by decide)).mono ?_
  rintro e w2 ⟨rfl, v2, W2⟩
  have B2 := W2.below (bl_alloc H1.out.2.1 _) H1.out.2.2.1 H1.out.2.2.2 (fun k hk => by simp [Value.ownBlock] at hk)
  have H2 := Lib.hid (And.intro (show St w2 p c (stOf [97]) v2 from W2.st) B2)
  clear W2 B2
  go_wp2_with fail
  refine (Write_more (H2.out.1.alloc _) (row_lit [98, 99] (kb_new rfl _)) (by decide)).mono ?_
  rintro e w3 ⟨rfl, v3, W3⟩
  have B3 := W3.below (bl_alloc H2.out.2.1 _) H1.out.2.2.1 H1.out.2.2.2 H2.out.2.2
  have H3 := Lib.hid (And.intro (show St w3 p c (stOf [97, 98, 99]) v3 from W3.st) B3.1)
  clear W3 B3 H2 H1
  go_wp2_with fail
  refine (Len_more H3.out.1 (by decide)).mono ?_
  rintro e w4 ⟨rfl, b4⟩
  have H4 := Lib.hid (And.intro (H3.out.1.below b4) (bl_then H3.out.2 b4))
  clear b4 H3
  rw [show (([97, 98, 99] : List UInt8).length : Nat) = 3 from rfl]
  go_wp2_with fail
  refine (Sum_more H4.out.1 (by decide)).mono ?_
  rintro e w5 ⟨rfl, b5⟩
  have B5 := Lib.hid (bl_then H4.out.2 b5)
  clear b5 H4
  have hal : (u8s (sumB [97, 98, 99])).length = 32 := by rw [u8s_len, sumB_len]
  have HA := Lib.hid (sum_abc)
  have HL := Lib.hid (sumB_len [97, 98, 99])
  generalize sumB [97, 98, 99] = ha at *
  have hz32 : (u8s (zeros 32)).length = 32 := by rw [u8s_len, zeros_len]
  go_wp2_with (first
    | (refine wpList_stnew_h (op := ⟨none, .store 26 (.tmp 2) _, _, _, _, _⟩) (cs := u8s ha) rfl _ _ rfl rfl rfl rfl hal (u8s_one _) ?_))
  rw [show (⟨#[]⟩ : ByteArray) = strB [] from rfl]
  refine (Read_any [] _).mono ?_
  rintro e w6 ⟨rfl, b6⟩
  rw [read_nil]
  have H6 := Lib.hid (And.intro ((show Hs (w5.alloc (.cells (u8s ha).toArray 26)) w5.heap.size ha from Cs.new rfl _).below b6) (bl_then (bl_alloc B5.out _) b6))
  clear b6 B5
  generalize w5.heap.size = g at *
  go_wp2_with (first
    | (refine wpList_stnew_h (op := ⟨none, .store 26 (.tmp 4) _, _, _, _, _⟩) (cs := u8s (zeros 32)) rfl _ _ rfl rfl rfl rfl hz32 (u8s_one _) ?_))
  refine (times_A _).mono ?_
  rintro e w7 ⟨rfl, hw7⟩
  subst hw7
  go_wp2_with fail
  refine (Read_any textA _).mono ?_
  rintro e w8 ⟨rfl, b8⟩
  rw [read_A]
  have H8 := Lib.hid (And.intro ((H6.out.1.below (bl_alloc (Below.refl _ _) _)).below b8) (bl_then (bl_alloc H6.out.2 _) b8))
  clear b8 H6
  go_wp2_with (first
    | (refine wpList_stnew_h (op := ⟨none, .store 26 (.tmp 6) _, _, _, _, _⟩) (cs := u8s (zeros 32)) rfl _ _ rfl rfl rfl rfl hz32 (u8s_one _) ?_))
  refine (awake_yes _).mono ?_
  rintro e w9 ⟨rfl, b9⟩
  have H9 := Lib.hid (And.intro ((H8.out.1.below (bl_alloc (Below.refl _ _) _)).below b9) (bl_then (bl_alloc H8.out.2 _) b9))
  clear b9 H8
  have hrg := H9.out.1.range
  go_wp2_with (first
    | (refine wpList_load_h (op := ⟨some 46, _, _, _, _, _⟩) _ rfl rfl g 0 rfl hrg hal ?_))
  refine (Text_any HL.out).mono ?_
  rintro e w10 ⟨rfl, b10⟩
  have B10 := Lib.hid (bl_then H9.out.2 b10)
  clear b10 H9 hrg
  rw [HA.out, ← lit_abc]
  go_wp2_with (first
    | (refine wpList_build_1 (op := ⟨some 63, _, _, _, _, _⟩) rfl _ rfl rfl ?_)
    | (refine wpList_build_09 (op := ⟨some 64, _, _, _, _, _⟩) rfl _ _ rfl rfl rfl ?_))
  refine (Compare_any (a := h1L) (b := h09) rfl rfl).mono ?_
  rintro e w11 ⟨rfl, b11⟩
  rw [cmp_known]
  go_wp2_with fail
  go_ret
  exact ⟨rfl, bl_then B10.out b11⟩
end Go.Proofs.YtmfajippoielhaaDoor
