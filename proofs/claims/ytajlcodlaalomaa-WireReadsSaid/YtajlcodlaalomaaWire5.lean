/- The walks of package wire: Hash, Key, Done, NewWriter. -/
import Derived.Test.YtajlcodlaalomaaWire4
namespace Go.Proofs.Ytajlcodlaalomaa
open Go.RowKit Go.Proofs.Ytajlcodlaalomaa.Wi Go.Proofs.Ytajlcodlaalomaa.Pc
attribute [local go_sem] cell_alloc_some frozen_alloc_some

theorem arr_bytes {w : World} {l : List UInt8} {t : TypeId} {n : Nat} (hn : l.length = n) : RowOf (w.alloc (.cells (u8s l).toArray t)) (.slice (some ⟨w.heap.size, 0, none⟩) n n) n (u8s l) := by
  have h : (w.alloc (.cells (u8s l).toArray t)).heap[w.heap.size]? = some _ := kb_new rfl _
  exact ⟨_, _, rfl, by rw [u8s_len]; exact hn, fun _ => ⟨_, 0, rfl, kb_lt h, fun j u hu => by rw [Nat.zero_add, kb_cell h, ← Array.getElem?_toList]; simpa using hu⟩⟩

set_option maxHeartbeats 1000000 in
theorem wHash_any {w : World} {B p : Nat} {lim e : Int} {bs : List UInt8} {s : Value} (l : List UInt8) (hl : l.length = 32) (F : Wr w B p lim bs e s) :
    Calls Try.prog 46 #[.pointer (some ⟨p, 0, none⟩), .agg (u8s l).toArray] w (Puts w B p lim e bs s true l) := by
  have HF := Lib.hid F
  have HB := Lib.hid (arr_bytes (w := w) (t := 34) hl)
  clear F
  go_enter Try.func46, Try.ntmps46
  go_wp2_with fail
  have hB : BytesOf (w.alloc (.cells (u8s l).toArray 34)) (.slice (some ⟨w.heap.size, 0, none⟩) 32 32) l := by rw [BytesOf, hl]; exact HB.out
  have hP := puts1 true HF.out (bl_alloc (Below.refl _ _) _) hB (by rw [hl]; omega)
  rw [World.size_alloc] at hP
  refine hP.mono ?_
  clear hP
  rintro e2 w2 hP
  obtain ⟨rfl, hW⟩ := hP
  go_wp2_with fail
  go_ret
  exact ⟨rfl, hW⟩

set_option maxHeartbeats 1000000 in
theorem wKey_any {w : World} {B p : Nat} {lim e : Int} {bs : List UInt8} {s : Value} (l : List UInt8) (hl : l.length = 4) (F : Wr w B p lim bs e s) :
    Calls Try.prog 47 #[.pointer (some ⟨p, 0, none⟩), .agg (u8s l).toArray] w (Puts w B p lim e bs s true l) := by
  have HF := Lib.hid F
  have HB := Lib.hid (arr_bytes (w := w) (t := 36) hl)
  clear F
  go_enter Try.func47, Try.ntmps47
  go_wp2_with fail
  have hB : BytesOf (w.alloc (.cells (u8s l).toArray 36)) (.slice (some ⟨w.heap.size, 0, none⟩) 4 4) l := by rw [BytesOf, hl]; exact HB.out
  have hP := puts1 true HF.out (bl_alloc (Below.refl _ _) _) hB (by rw [hl]; omega)
  rw [World.size_alloc] at hP
  refine hP.mono ?_
  clear hP
  rintro e2 w2 hP
  obtain ⟨rfl, hW⟩ := hP
  go_wp2_with fail
  go_ret
  exact ⟨rfl, hW⟩

set_option maxHeartbeats 1000000 in
theorem wDone_ok {w : World} {B p : Nat} {lim : Int} {bs : List UInt8} {s : Value} (F : Wr w B p lim bs 0 s) :
    Calls Try.prog 18 #[.pointer (some ⟨p, 0, none⟩)] w fun e1 w' => ∃ v, e1 = .returned (.tuple #[v, .int .i64 0]) ∧ NewBytes w w' v bs := by
  have D := F.st
  have c := kb_cell D
  have HF := Lib.hid F
  have hlen := F.len
  have HB := Lib.hid (RowOf.of_own F.row)
  obtain ⟨A, cap, rfl⟩ := owns_slice0 F.row
  clear F
  go_enter Try.func18, Try.ntmps18
  go_wp2_with fail
  refine (Clone_any HB.out (by omega)).mono ?_
  rintro e1 w1 ⟨v, rfl, hN⟩
  obtain ⟨A1, cap1, rfl⟩ := owns_slice0 hN.1
  have HN := Lib.hid hN
  clear hN
  go_wp2_with fail
  go_ret2
  exact ⟨_, rfl, HN.out⟩

set_option maxHeartbeats 1000000 in
theorem wDone_err {w : World} {B p : Nat} {lim e : Int} {bs : List UInt8} {s : Value} (F : Wr w B p lim bs e s) (he : e ≠ 0) :
    Calls Try.prog 18 #[.pointer (some ⟨p, 0, none⟩)] w fun e1 w' => e1 = .returned (.tuple #[.slice none 0 0, .int .i64 e]) ∧ Below w.heap.size w w' := by
  have D := F.st
  have c := kb_cell D
  have hne : (e != 0) = true := by simpa using he
  have hne' : (e == 0) = false := by simpa using he
  clear F he
  go_enter Try.func18, Try.ntmps18
  go_wp2
  go_quiet (fail)
  go_wp2
  go_ret2
  exact ⟨rfl, by (repeat (with_reducible (first | exact Below.refl _ _ | assumption | refine bl_alloc ?_ _ | refine bl_drew ?_ | refine bl_drewN ?_ _ | (refine bl_set ?_ ?_ _; (focus (first | (simp; done) | (simp; omega) | omega))) | refine bl_then ?_ (by assumption))))⟩

set_option maxHeartbeats 1000000 in
theorem NewWriter_no (n : Int) (w : World) (h : n < 0 ∨ 1048576 < n) :
    Calls Try.prog 11 #[.int .i64 n] w fun e w' => e = .returned (.tuple #[.pointer none, .int .i64 3]) ∧ w = w' := by
  rcases h with h | h
  · go_enter Try.func11, Try.ntmps11
    go_wp2
    go_ret2
    exact ⟨rfl, rfl⟩
  · have hn : ¬ n < 0 := by omega
    have hd : decide (1048576 < n) = true := decide_eq_true h
    go_enter Try.func11, Try.ntmps11
    go_wp2
    go_ret2
    exact ⟨rfl, rfl⟩

set_option maxHeartbeats 1000000 in
theorem NewWriter_yes (n : Int) (w : World) (h0 : 0 ≤ n) (h1 : n ≤ 1048576) :
    Calls Try.prog 11 #[.int .i64 n] w fun e w' => e = .returned (.tuple #[.pointer (some ⟨w.heap.size, 0, none⟩), .int .i64 0]) ∧ Wr w' w.heap.size w.heap.size n [] 0 (.slice none 0 0) ∧ Below w.heap.size w w' := by
  have hd : decide (1048576 < n) = false := decide_eq_false (by omega)
  go_enter Try.func11, Try.ntmps11
  go_wp2
  go_ret2
  exact ⟨rfl, ⟨kb_new rfl _, World.ownsRow_nil _ _ _ _, Nat.le_refl _, by simp, h0, h1⟩, by (repeat (with_reducible (first | exact Below.refl _ _ | assumption | refine bl_alloc ?_ _ | refine bl_drew ?_ | refine bl_drewN ?_ _ | (refine bl_set ?_ ?_ _; (focus (first | (simp; done) | (simp; omega) | omega))) | refine bl_then ?_ (by assumption))))⟩
end Go.Proofs.Ytajlcodlaalomaa
