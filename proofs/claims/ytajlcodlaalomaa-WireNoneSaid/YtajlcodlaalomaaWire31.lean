/- Writers and readers that are nil, or that nobody made. Printed by wip/nones.py. -/
import Derived.Test.YtajlcodlaalomaaWire29
namespace Go.Proofs.Ytajlcodlaalomaa
open Go.RowKit Go.Proofs.Ytajlcodlaalomaa.Wi Go.Proofs.Ytajlcodlaalomaa.Pc
attribute [local go_sem] cell_alloc_some frozen_alloc_some
set_option linter.unusedSimpArgs false
set_option linter.unusedVariables false

/-- A writer that nobody made. -/
def UnW (w : World) (q : Value) : Prop := q = .pointer none ∨ ∃ b, q = .pointer (some ⟨b, 0, none⟩) ∧ w.heap[b]? = some (.cells #[.int .i64 0, .slice none 0 0, .int .i64 0, .bool false] 64 (0, 0))
def UnR (w : World) (q : Value) : Prop := q = .pointer none ∨ ∃ b, q = .pointer (some ⟨b, 0, none⟩) ∧ w.heap[b]? = some (.cells #[.slice none 0 0, .int .i64 0, .int .i64 0, .int .i64 0, .bool false] 67 (0, 0))
theorem UnW.below {w w' : World} {q : Value} (h : UnW w q) (k : Below w.heap.size w w') : UnW w' q := h.imp id fun ⟨b, e, hb⟩ => ⟨b, e, kb_below k hb⟩
theorem UnR.below {w w' : World} {q : Value} (h : UnR w q) (k : Below w.heap.size w w') : UnR w' q := h.imp id fun ⟨b, e, hb⟩ => ⟨b, e, kb_below k hb⟩
theorem UnW.ptr {w : World} {q : Value} (h : UnW w q) : ∃ a, q = .pointer a := by rcases h with rfl | ⟨b, rfl, _⟩ <;> exact ⟨_, rfl⟩
theorem UnR.ptr {w : World} {q : Value} (h : UnR w q) : ∃ a, q = .pointer a := by rcases h with rfl | ⟨b, rfl, _⟩ <;> exact ⟨_, rfl⟩
abbrev Says (w : World) (v : Value) : Ending → World → Prop := fun e w' => e = .returned v ∧ Below w.heap.size w w'

theorem put_un {w : World} {q : Value} (h : UnW w q) (may : Bool) (v : Value) : Calls Try.prog 59 #[q, .bool may, v] w (Says w (.int .i64 1)) := by
  rcases h with rfl | ⟨b, rfl, hb⟩
  · go_enter Try.func59, Try.ntmps59
    go_wp2_with fail
    go_ret
    exact ⟨rfl, Below.refl _ _⟩
  · have c := kb_cell hb
    go_enter Try.func59, Try.ntmps59
    go_wp2_with fail
    go_ret
    exact ⟨rfl, Below.refl _ _⟩
theorem uDone {w : World} {q : Value} (h : UnW w q) : Calls Try.prog 18 #[q] w (Says w (.tuple #[.slice none 0 0, .int .i64 1])) := by
  rcases h with rfl | ⟨b, rfl, hb⟩
  · go_enter Try.func18, Try.ntmps18
    go_wp2_with fail
    go_ret2
    exact ⟨rfl, Below.refl _ _⟩
  · have c := kb_cell hb
    go_enter Try.func18, Try.ntmps18
    go_wp2_with fail
    go_ret2
    exact ⟨rfl, Below.refl _ _⟩
set_option maxHeartbeats 1000000 in
theorem uNum0 {w : World} {q : Value} (n : Int) (hn : n < 9223372036854775808) (h0 : 0 ≤ n) (h : UnW w q) : Calls Try.prog 22 #[q, .int .i64 n] w (Says w (.int .i64 1)) := by
  have HU := Lib.hid h
  obtain ⟨a, rfl⟩ := h.ptr
  obtain ⟨k, hk⟩ : ∃ k : Nat, max n 0 = (k : Int) := ⟨(max n 0).toNat, by omega⟩
  have HK := Lib.hid (show k < 9223372036854775808 by omega)
  clear h hn
  go_enter Try.func22, Try.ntmps22
  go_wp2_with fail
  refine (number_any k _ HK.out).mono ?_
  rintro e1 w1 ⟨v, rfl, hB, hb1⟩
  obtain ⟨A, c, rfl⟩ := hB.form
  go_wp2_with fail
  refine (put_un (HU.out.below (bl_alloc hb1 _)) _ _).mono ?_
  rintro e2 w2 ⟨rfl, hb2⟩
  go_wp2_with fail
  go_ret
  exact ⟨rfl, bl_then (bl_alloc hb1 _) hb2⟩
set_option maxHeartbeats 1000000 in
theorem uNum1 {w : World} {q : Value} (n : Int) (hn : n < 9223372036854775808) (h0 : n < 0) (h : UnW w q) : Calls Try.prog 22 #[q, .int .i64 n] w (Says w (.int .i64 1)) := by
  have HU := Lib.hid h
  obtain ⟨a, rfl⟩ := h.ptr
  obtain ⟨k, hk⟩ : ∃ k : Nat, max n 0 = (k : Int) := ⟨(max n 0).toNat, by omega⟩
  have HK := Lib.hid (show k < 9223372036854775808 by omega)
  clear h hn
  go_enter Try.func22, Try.ntmps22
  go_wp2_with fail
  refine (number_any k _ HK.out).mono ?_
  rintro e1 w1 ⟨v, rfl, hB, hb1⟩
  obtain ⟨A, c, rfl⟩ := hB.form
  go_wp2_with fail
  refine (put_un (HU.out.below (bl_alloc hb1 _)) _ _).mono ?_
  rintro e2 w2 ⟨rfl, hb2⟩
  go_wp2_with fail
  go_ret
  exact ⟨rfl, bl_then (bl_alloc hb1 _) hb2⟩
theorem uNum {w : World} {q : Value} (n : Int) (hn : n < 9223372036854775808) (h : UnW w q) : Calls Try.prog 22 #[q, .int .i64 n] w (Says w (.int .i64 1)) := by
  by_cases h0 : 0 ≤ n
  · exact uNum0 n hn h0 h
  · exact uNum1 n hn (by omega) h
set_option maxHeartbeats 1000000 in
theorem uBytes {w : World} {q : Value} {A : Option Addr} {l c : Nat} (hl : l ≤ 1000000) (h : UnW w q) : Calls Try.prog 45 #[q, .slice A l c] w (Says w (.int .i64 1)) := by
  have HU := Lib.hid h
  obtain ⟨a, rfl⟩ := h.ptr
  clear h
  go_enter Try.func45, Try.ntmps45
  go_wp2_with fail
  refine (number_any l _ (by omega)).mono ?_
  rintro e1 w1 ⟨v1, rfl, hB, hb1⟩
  obtain ⟨A1, c1, rfl⟩ := hB.form
  go_wp2_with fail
  refine (put_un (HU.out.below (bl_alloc hb1 _)) _ _).mono ?_
  rintro e2 w2 ⟨rfl, hb2⟩
  go_wp2_with fail
  go_ret
  exact ⟨rfl, bl_then (bl_alloc hb1 _) hb2⟩
set_option maxHeartbeats 1000000 in
theorem uHash {w : World} {q : Value} (l : List UInt8) (hl : l.length = 32) (h : UnW w q) : Calls Try.prog 46 #[q, .agg (u8s l).toArray] w (Says w (.int .i64 1)) := by
  have HU := Lib.hid h
  obtain ⟨a, rfl⟩ := h.ptr
  clear h
  go_enter Try.func46, Try.ntmps46
  go_wp2_with fail
  refine (put_un (HU.out.below (bl_alloc (bl_alloc (Below.refl _ _) _) _)) _ _).mono ?_
  rintro e2 w2 ⟨rfl, hb2⟩
  go_wp2_with fail
  go_ret
  exact ⟨rfl, bl_then (bl_alloc (bl_alloc (Below.refl _ _) _) _) hb2⟩
set_option maxHeartbeats 1000000 in
theorem uKey {w : World} {q : Value} (l : List UInt8) (hl : l.length = 4) (h : UnW w q) : Calls Try.prog 47 #[q, .agg (u8s l).toArray] w (Says w (.int .i64 1)) := by
  have HU := Lib.hid h
  obtain ⟨a, rfl⟩ := h.ptr
  clear h
  go_enter Try.func47, Try.ntmps47
  go_wp2_with fail
  refine (put_un (HU.out.below (bl_alloc (bl_alloc (Below.refl _ _) _) _)) _ _).mono ?_
  rintro e2 w2 ⟨rfl, hb2⟩
  go_wp2_with fail
  go_ret
  exact ⟨rfl, bl_then (bl_alloc (bl_alloc (Below.refl _ _) _) _) hb2⟩
set_option maxHeartbeats 1000000 in
theorem uBool {w : World} {q : Value} (b : Bool) (h : UnW w q) : Calls Try.prog 43 #[q, .bool b] w (Says w (.int .i64 1)) := by
  have HU := Lib.hid h
  obtain ⟨a, rfl⟩ := h.ptr
  clear h
  cases b <;>
  (
  go_enter Try.func43, Try.ntmps43
  go_wp2_with fail
  refine (put_un (HU.out.below (bl_alloc (bl_alloc (Below.refl _ _) _) _)) _ _).mono ?_
  rintro e2 w2 ⟨rfl, hb2⟩
  go_wp2_with fail
  go_ret
  exact ⟨rfl, bl_then (bl_alloc (bl_alloc (Below.refl _ _) _) _) hb2⟩)
set_option maxHeartbeats 1000000 in
theorem uText {w : World} {q : Value} (t : ByteArray) (hl : t.size ≤ 1000000) (h : UnW w q) : Calls Try.prog 41 #[q, .string t] w (Says w (.int .i64 1)) := by
  have HU := Lib.hid h
  obtain ⟨a, rfl⟩ := h.ptr
  have hc := fun W => Lib.run_convert_string_bytes (P := Try.prog) W 9 32 5 t Try.underlying9 Try.underlying32 Try.underlying5
  have b1 := (text_bytes w t).1
  have HB1 := Lib.hid b1
  clear h b1
  go_enter Try.func41, Try.ntmps41
  go_wp2_with fail
  refine (uBytes hl (HU.out.below HB1.out)).mono ?_
  rintro e2 w2 ⟨rfl, hb2⟩
  go_wp2_with fail
  go_ret
  exact ⟨rfl, bl_then HB1.out hb2⟩
set_option maxRecDepth 100000 in
set_option maxHeartbeats 1000000 in
theorem uWord {w : World} {q : Value} (n : Nat) (hn : n < 18446744073709551616) (h : UnW w q) : Calls Try.prog 42 #[q, .int .u64 n] w (Says w (.int .i64 1)) := by
  have HU := Lib.hid h
  obtain ⟨a, rfl⟩ := h.ptr
  have HH := Lib.hid hn
  clear h hn
  go_enter Try.func42, Try.ntmps42
  go_wp2_with fail
  refine (word_any n _ HH.out).mono ?_
  rintro e1 w1 ⟨rfl, hb1⟩
  obtain ⟨b7, b6, b5, b4, b3, b2, b1, b0, hx⟩ : ∃ b7 b6 b5 b4 b3 b2 b1 b0 : UInt8, wrdL n = [b7, b6, b5, b4, b3, b2, b1, b0] := ⟨_, _, _, _, _, _, _, _, rfl⟩
  rw [hx]
  simp only [u8s, List.map_cons, List.map_nil, u8v]
  go_wp2_with fail
  refine (put_un (HU.out.below (bl_alloc (bl_alloc hb1 _) _)) _ _).mono ?_
  rintro e2 w2 ⟨rfl, hb2⟩
  go_wp2_with fail
  go_ret
  exact ⟨rfl, bl_then (bl_alloc (bl_alloc hb1 _) _) hb2⟩
set_option maxHeartbeats 1000000 in
theorem uPace {w : World} {q : Value} (n : Nat) (hn : n < 18446744073709551616) (h : UnW w q) : Calls Try.prog 48 #[q, .float .f64 n] w (Says w (.int .i64 1)) := by
  have HU := Lib.hid h
  obtain ⟨a, rfl⟩ := h.ptr
  have HH := Lib.hid (canon_lt hn)
  clear h hn
  go_enter Try.func48, Try.ntmps48
  go_wp2_with fail
  refine (Bits_any n _).mono ?_
  rintro e1 w1 ⟨rfl, rfl⟩
  go_wp2_with fail
  refine (uWord (canon n) HH.out HU.out).mono ?_
  rintro e2 w2 ⟨rfl, hb2⟩
  go_wp2_with fail
  go_ret
  exact ⟨rfl, hb2⟩
theorem reads_int_un {w : World} {q : Value} (h : UnR w q) (fv : Value) : Calls Try.prog 61 #[q, fv] w (Says w (.int .i64 0)) := by
  rcases h with rfl | ⟨b, rfl, hb⟩
  · go_enter_defers Try.func61, Try.ntmps61
    go_wp2
    simp [bodyPostD, Leaves, settle, results, Try.results61, go_sem, Says]
    exact Below.refl _ _
  · have c := kb_cell hb
    go_enter_defers Try.func61, Try.ntmps61
    go_wp2
    simp [bodyPostD, Leaves, settle, results, Try.results61, go_sem, Says]
    exact Below.refl _ _
theorem reads_bool_un {w : World} {q : Value} (h : UnR w q) (fv : Value) : Calls Try.prog 63 #[q, fv] w (Says w (.bool false)) := by
  rcases h with rfl | ⟨b, rfl, hb⟩
  · go_enter_defers Try.func63, Try.ntmps63
    go_wp2
    simp [bodyPostD, Leaves, settle, results, Try.results63, go_sem, Says]
    exact Below.refl _ _
  · have c := kb_cell hb
    go_enter_defers Try.func63, Try.ntmps63
    go_wp2
    simp [bodyPostD, Leaves, settle, results, Try.results63, go_sem, Says]
    exact Below.refl _ _
theorem reads_f64_un {w : World} {q : Value} (h : UnR w q) (fv : Value) : Calls Try.prog 68 #[q, fv] w (Says w (.float .f64 0)) := by
  rcases h with rfl | ⟨b, rfl, hb⟩
  · go_enter_defers Try.func68, Try.ntmps68
    go_wp2
    simp [bodyPostD, Leaves, settle, results, Try.results68, go_sem, Says]
    exact Below.refl _ _
  · have c := kb_cell hb
    go_enter_defers Try.func68, Try.ntmps68
    go_wp2
    simp [bodyPostD, Leaves, settle, results, Try.results68, go_sem, Says]
    exact Below.refl _ _
theorem reads_u64_un {w : World} {q : Value} (h : UnR w q) (fv : Value) : Calls Try.prog 91 #[q, fv] w (Says w (.int .u64 0)) := by
  rcases h with rfl | ⟨b, rfl, hb⟩
  · go_enter_defers Try.func91, Try.ntmps91
    go_wp2
    simp [bodyPostD, Leaves, settle, results, Try.results91, go_sem, Says]
    exact Below.refl _ _
  · have c := kb_cell hb
    go_enter_defers Try.func91, Try.ntmps91
    go_wp2
    simp [bodyPostD, Leaves, settle, results, Try.results91, go_sem, Says]
    exact Below.refl _ _
theorem reads_bytes_un {w : World} {q : Value} (h : UnR w q) (fv : Value) : Calls Try.prog 80 #[q, fv] w (Says w (.slice none 0 0)) := by
  rcases h with rfl | ⟨b, rfl, hb⟩
  · go_enter_defers Try.func80, Try.ntmps80
    go_wp2
    simp [bodyPostD, Leaves, settle, results, Try.results80, go_sem, Says]
    exact Below.refl _ _
  · have c := kb_cell hb
    go_enter_defers Try.func80, Try.ntmps80
    go_wp2
    simp [bodyPostD, Leaves, settle, results, Try.results80, go_sem, Says]
    exact Below.refl _ _
set_option maxRecDepth 100000 in
set_option maxHeartbeats 1000000 in
theorem readsHash_un {w : World} {q : Value} (h : UnR w q) (fv : Value) : Calls Try.prog 83 #[q, fv] w (Says w (.agg (u8s (List.replicate 32 0)).toArray)) := by
  have bA : Below w.heap.size w (w.alloc (.cells #[.int .u8 0, .int .u8 0, .int .u8 0, .int .u8 0, .int .u8 0, .int .u8 0, .int .u8 0, .int .u8 0, .int .u8 0, .int .u8 0, .int .u8 0, .int .u8 0, .int .u8 0, .int .u8 0, .int .u8 0, .int .u8 0, .int .u8 0, .int .u8 0, .int .u8 0, .int .u8 0, .int .u8 0, .int .u8 0, .int .u8 0, .int .u8 0, .int .u8 0, .int .u8 0, .int .u8 0, .int .u8 0, .int .u8 0, .int .u8 0, .int .u8 0, .int .u8 0] 34)) := bl_alloc (Below.refl _ _) _
  have hA := kb_new (w := w) rfl (.cells #[.int .u8 0, .int .u8 0, .int .u8 0, .int .u8 0, .int .u8 0, .int .u8 0, .int .u8 0, .int .u8 0, .int .u8 0, .int .u8 0, .int .u8 0, .int .u8 0, .int .u8 0, .int .u8 0, .int .u8 0, .int .u8 0, .int .u8 0, .int .u8 0, .int .u8 0, .int .u8 0, .int .u8 0, .int .u8 0, .int .u8 0, .int .u8 0, .int .u8 0, .int .u8 0, .int .u8 0, .int .u8 0, .int .u8 0, .int .u8 0, .int .u8 0, .int .u8 0] 34)
  have hG : (w.alloc (.cells #[.int .u8 0, .int .u8 0, .int .u8 0, .int .u8 0, .int .u8 0, .int .u8 0, .int .u8 0, .int .u8 0, .int .u8 0, .int .u8 0, .int .u8 0, .int .u8 0, .int .u8 0, .int .u8 0, .int .u8 0, .int .u8 0, .int .u8 0, .int .u8 0, .int .u8 0, .int .u8 0, .int .u8 0, .int .u8 0, .int .u8 0, .int .u8 0, .int .u8 0, .int .u8 0, .int .u8 0, .int .u8 0, .int .u8 0, .int .u8 0, .int .u8 0, .int .u8 0] 34)).rangeAt w.heap.size 0 (u8s (List.replicate 32 0)) := range_of_kb (cs := u8s (List.replicate 32 0)) hA
  obtain ⟨zl, hz, hzl⟩ : ∃ zl : List UInt8, List.replicate 32 0 = zl ∧ zl.length = 32 := ⟨_, rfl, by simp⟩
  rw [hz] at hG ⊢
  have hszA : (u8s zl).toArray.size = 32 := by simpa [u8s_len] using hzl
  have hsz : (u8s zl).length = 32 := by simpa [u8s_len] using hzl
  have HG := Lib.hid hG
  have HT := Lib.hid (there_kb hA (show _ = (u8s zl).toArray.size by rw [hszA]; rfl))
  have HD := Lib.hid (setCells_kb (u8s zl) hA (by rw [hsz]; rfl))
  have HB := Lib.hid (bl_cells (g := w.heap.size) (u8s zl) (Nat.le_refl _) 0 bA)
  rcases h with rfl | ⟨b, rfl, hb⟩
  · clear bA hA hG hz
    go_enter_defers Try.func83, Try.ntmps83
    go_wp2_with (first
      | (with_reducible refine wpList_load_mid rfl 34 _ rfl w.heap.size 0 rfl (u8s zl) _ HG.out Try.underlying34 rfl (sizeHash.trans (congrArg some hsz.symm)) ?_)
      | (with_reducible refine wpList_store_mid rfl 34 _ _ rfl w.heap.size 0 (u8s zl).toArray rfl rfl HT.out (sizeHash.trans (congrArg some hszA.symm)) (u8s_all _) ?_))
    simp only [bodyPostD, Act.put, Leaves]
    exact ⟨_, results_cell_row rfl _ _ w.heap.size 34 _ (0, 0) _ rfl HD.out Try.underlying34 rfl (sizeHash.trans (congrArg some hszA.symm)), rfl, HB.out⟩
  · have c := kb_cell (kb_below bA hb)
    clear bA hA hG hz hb
    go_enter_defers Try.func83, Try.ntmps83
    go_wp2_with (first
      | (with_reducible refine wpList_load_mid rfl 34 _ rfl w.heap.size 0 rfl (u8s zl) _ HG.out Try.underlying34 rfl (sizeHash.trans (congrArg some hsz.symm)) ?_)
      | (with_reducible refine wpList_store_mid rfl 34 _ _ rfl w.heap.size 0 (u8s zl).toArray rfl rfl HT.out (sizeHash.trans (congrArg some hszA.symm)) (u8s_all _) ?_))
    simp only [bodyPostD, Act.put, Leaves]
    exact ⟨_, results_cell_row rfl _ _ w.heap.size 34 _ (0, 0) _ rfl HD.out Try.underlying34 rfl (sizeHash.trans (congrArg some hszA.symm)), rfl, HB.out⟩
set_option maxRecDepth 100000 in
set_option maxHeartbeats 1000000 in
theorem readsKey_un {w : World} {q : Value} (h : UnR w q) (fv : Value) : Calls Try.prog 87 #[q, fv] w (Says w (.agg (u8s (List.replicate 4 0)).toArray)) := by
  have bA : Below w.heap.size w (w.alloc (.cells #[.int .u8 0, .int .u8 0, .int .u8 0, .int .u8 0] 36)) := bl_alloc (Below.refl _ _) _
  have hA := kb_new (w := w) rfl (.cells #[.int .u8 0, .int .u8 0, .int .u8 0, .int .u8 0] 36)
  have hG : (w.alloc (.cells #[.int .u8 0, .int .u8 0, .int .u8 0, .int .u8 0] 36)).rangeAt w.heap.size 0 (u8s (List.replicate 4 0)) := range_of_kb (cs := u8s (List.replicate 4 0)) hA
  obtain ⟨zl, hz, hzl⟩ : ∃ zl : List UInt8, List.replicate 4 0 = zl ∧ zl.length = 4 := ⟨_, rfl, by simp⟩
  rw [hz] at hG ⊢
  have hszA : (u8s zl).toArray.size = 4 := by simpa [u8s_len] using hzl
  have hsz : (u8s zl).length = 4 := by simpa [u8s_len] using hzl
  have HG := Lib.hid hG
  have HT := Lib.hid (there_kb hA (show _ = (u8s zl).toArray.size by rw [hszA]; rfl))
  have HD := Lib.hid (setCells_kb (u8s zl) hA (by rw [hsz]; rfl))
  have HB := Lib.hid (bl_cells (g := w.heap.size) (u8s zl) (Nat.le_refl _) 0 bA)
  rcases h with rfl | ⟨b, rfl, hb⟩
  · clear bA hA hG hz
    go_enter_defers Try.func87, Try.ntmps87
    go_wp2_with (first
      | (with_reducible refine wpList_load_mid rfl 36 _ rfl w.heap.size 0 rfl (u8s zl) _ HG.out Try.underlying36 rfl (sizeKey.trans (congrArg some hsz.symm)) ?_)
      | (with_reducible refine wpList_store_mid rfl 36 _ _ rfl w.heap.size 0 (u8s zl).toArray rfl rfl HT.out (sizeKey.trans (congrArg some hszA.symm)) (u8s_all _) ?_))
    simp only [bodyPostD, Act.put, Leaves]
    exact ⟨_, results_cell_row rfl _ _ w.heap.size 36 _ (0, 0) _ rfl HD.out Try.underlying36 rfl (sizeKey.trans (congrArg some hszA.symm)), rfl, HB.out⟩
  · have c := kb_cell (kb_below bA hb)
    clear bA hA hG hz hb
    go_enter_defers Try.func87, Try.ntmps87
    go_wp2_with (first
      | (with_reducible refine wpList_load_mid rfl 36 _ rfl w.heap.size 0 rfl (u8s zl) _ HG.out Try.underlying36 rfl (sizeKey.trans (congrArg some hsz.symm)) ?_)
      | (with_reducible refine wpList_store_mid rfl 36 _ _ rfl w.heap.size 0 (u8s zl).toArray rfl rfl HT.out (sizeKey.trans (congrArg some hszA.symm)) (u8s_all _) ?_))
    simp only [bodyPostD, Act.put, Leaves]
    exact ⟨_, results_cell_row rfl _ _ w.heap.size 36 _ (0, 0) _ rfl HD.out Try.underlying36 rfl (sizeKey.trans (congrArg some hszA.symm)), rfl, HB.out⟩
set_option maxHeartbeats 1000000 in
theorem vNum {w : World} {q : Value} (h : UnR w q) : Calls Try.prog 23 #[q] w (Says w (.int .i64 0)) := by
  have hmf : ∀ (fn : Fn) (first cap : Array Value) (w : World), (Instr.makeFunc fn first cap).run Try.prog w = .ok (.func fn first cap) w := fun _ _ _ _ => rfl
  have HU := Lib.hid h
  obtain ⟨a, rfl⟩ := h.ptr
  clear h
  go_enter Try.func23, Try.ntmps23
  go_wp2_with fail
  refine (reads_int_un (HU.out.below (Below.refl _ _)) _).mono ?_
  rintro e w' ⟨rfl, hb⟩
  have HB := Lib.hid (bl_then (Below.refl _ _) hb)
  clear hb
  go_wp2_with fail
  go_ret
  exact ⟨rfl, HB.out⟩
set_option maxHeartbeats 1000000 in
theorem vWord {w : World} {q : Value} (h : UnR w q) : Calls Try.prog 37 #[q] w (Says w (.int .u64 0)) := by
  have hmf : ∀ (fn : Fn) (first cap : Array Value) (w : World), (Instr.makeFunc fn first cap).run Try.prog w = .ok (.func fn first cap) w := fun _ _ _ _ => rfl
  have HU := Lib.hid h
  obtain ⟨a, rfl⟩ := h.ptr
  clear h
  go_enter Try.func37, Try.ntmps37
  go_wp2_with fail
  refine (reads_u64_un (HU.out.below (bl_alloc (Below.refl _ _) _)) _).mono ?_
  rintro e w' ⟨rfl, hb⟩
  have HB := Lib.hid (bl_then (bl_alloc (Below.refl _ _) _) hb)
  clear hb
  go_wp2_with fail
  go_ret
  exact ⟨rfl, HB.out⟩
set_option maxHeartbeats 1000000 in
theorem vBool {w : World} {q : Value} (h : UnR w q) : Calls Try.prog 27 #[q] w (Says w (.bool false)) := by
  have hmf : ∀ (fn : Fn) (first cap : Array Value) (w : World), (Instr.makeFunc fn first cap).run Try.prog w = .ok (.func fn first cap) w := fun _ _ _ _ => rfl
  have HU := Lib.hid h
  obtain ⟨a, rfl⟩ := h.ptr
  clear h
  go_enter Try.func27, Try.ntmps27
  go_wp2_with fail
  refine (reads_bool_un (HU.out.below (bl_alloc (Below.refl _ _) _)) _).mono ?_
  rintro e w' ⟨rfl, hb⟩
  have HB := Lib.hid (bl_then (bl_alloc (Below.refl _ _) _) hb)
  clear hb
  go_wp2_with fail
  go_ret
  exact ⟨rfl, HB.out⟩
set_option maxHeartbeats 1000000 in
theorem vPace {w : World} {q : Value} (h : UnR w q) : Calls Try.prog 28 #[q] w (Says w (.float .f64 0)) := by
  have hmf : ∀ (fn : Fn) (first cap : Array Value) (w : World), (Instr.makeFunc fn first cap).run Try.prog w = .ok (.func fn first cap) w := fun _ _ _ _ => rfl
  have HU := Lib.hid h
  obtain ⟨a, rfl⟩ := h.ptr
  clear h
  go_enter Try.func28, Try.ntmps28
  go_wp2_with fail
  refine (reads_f64_un (HU.out.below (bl_alloc (Below.refl _ _) _)) _).mono ?_
  rintro e w' ⟨rfl, hb⟩
  have HB := Lib.hid (bl_then (bl_alloc (Below.refl _ _) _) hb)
  clear hb
  go_wp2_with fail
  go_ret
  exact ⟨rfl, HB.out⟩
set_option maxHeartbeats 1000000 in
theorem vBytes {w : World} {q : Value} (most : Int) (h : UnR w q) : Calls Try.prog 34 #[q, .int .i64 most] w (Says w (.slice none 0 0)) := by
  have hmf : ∀ (fn : Fn) (first cap : Array Value) (w : World), (Instr.makeFunc fn first cap).run Try.prog w = .ok (.func fn first cap) w := fun _ _ _ _ => rfl
  have HU := Lib.hid h
  obtain ⟨a, rfl⟩ := h.ptr
  clear h
  go_enter Try.func34, Try.ntmps34
  go_wp2_with fail
  refine (reads_bytes_un (HU.out.below (bl_alloc (bl_alloc (Below.refl _ _) _) _)) _).mono ?_
  rintro e w' ⟨rfl, hb⟩
  have HB := Lib.hid (bl_then (bl_alloc (bl_alloc (Below.refl _ _) _) _) hb)
  clear hb
  go_wp2_with fail
  go_ret
  exact ⟨rfl, HB.out⟩
theorem vText {w : World} {q : Value} (most : Int) (h : UnR w q) : Calls Try.prog 26 #[q, .int .i64 most] w (Says w (.string (strB []))) := by
  have hc : ∀ W, (convert 32 9 (.slice none 0 0)).run Try.prog W = .ok (.string (strB [])) W := fun W => run_conv (RowOf.nil W 0)
  have HC := Lib.hid (vBytes most h)
  obtain ⟨a, rfl⟩ := h.ptr
  clear h
  generalize strB [] = z at *
  go_enter Try.func26, Try.ntmps26
  go_wp2_with fail
  refine HC.out.mono ?_
  rintro e w' ⟨rfl, hb⟩
  go_wp2_with fail
  go_ret
  exact ⟨rfl, hb⟩
set_option maxRecDepth 100000 in
set_option maxHeartbeats 1000000 in
theorem vHash {w : World} {q : Value} (h : UnR w q) : Calls Try.prog 35 #[q] w (Says w (.agg (u8s (List.replicate 32 0)).toArray)) := by
  have hmf : ∀ (fn : Fn) (first cap : Array Value) (w : World), (Instr.makeFunc fn first cap).run Try.prog w = .ok (.func fn first cap) w := fun _ _ _ _ => rfl
  obtain ⟨a, rfl⟩ := h.ptr
  have hbl : Below w.heap.size w ((w.alloc (.cells #[.pointer a] 48)).alloc (.cells #[.int .u8 0, .int .u8 0, .int .u8 0, .int .u8 0, .int .u8 0, .int .u8 0, .int .u8 0, .int .u8 0, .int .u8 0, .int .u8 0, .int .u8 0, .int .u8 0, .int .u8 0, .int .u8 0, .int .u8 0, .int .u8 0, .int .u8 0, .int .u8 0, .int .u8 0, .int .u8 0, .int .u8 0, .int .u8 0, .int .u8 0, .int .u8 0, .int .u8 0, .int .u8 0, .int .u8 0, .int .u8 0, .int .u8 0, .int .u8 0, .int .u8 0, .int .u8 0] 34)) := by (repeat (with_reducible (first | exact Below.refl _ _ | assumption | refine bl_alloc ?_ _ | refine bl_drew ?_ | refine bl_drewN ?_ _ | (refine bl_set ?_ ?_ _; (focus (first | (simp; done) | (simp; omega) | omega))) | refine bl_then ?_ (by assumption))))
  have hD := kb_new (w := w.alloc (.cells #[.pointer a] 48)) (b := w.heap.size + 1) (by simp) (.cells #[.int .u8 0, .int .u8 0, .int .u8 0, .int .u8 0, .int .u8 0, .int .u8 0, .int .u8 0, .int .u8 0, .int .u8 0, .int .u8 0, .int .u8 0, .int .u8 0, .int .u8 0, .int .u8 0, .int .u8 0, .int .u8 0, .int .u8 0, .int .u8 0, .int .u8 0, .int .u8 0, .int .u8 0, .int .u8 0, .int .u8 0, .int .u8 0, .int .u8 0, .int .u8 0, .int .u8 0, .int .u8 0, .int .u8 0, .int .u8 0, .int .u8 0, .int .u8 0] 34)
  have HC := readsHash_un (h.below hbl) (.func (.func 84) #[] #[.pointer (some ⟨w.heap.size, 0, none⟩)])
  obtain ⟨zl, hz, hzl⟩ : ∃ zl : List UInt8, List.replicate 32 0 = zl ∧ zl.length = 32 := ⟨_, rfl, by simp⟩
  rw [hz] at HC ⊢
  have HC := Lib.hid HC
  have HBL := Lib.hid hbl
  have HD0 := Lib.hid hD
  have hszA : (u8s zl).toArray.size = 32 := by simpa [u8s_len] using hzl
  have hsz : (u8s zl).length = 32 := by simpa [u8s_len] using hzl
  clear h hbl hD hz
  go_enter Try.func35, Try.ntmps35
  go_wp2_with fail
  refine HC.out.mono ?_
  rintro e w' ⟨rfl, hb⟩
  have D := kb_below hb HD0.out
  have HT := Lib.hid (there_kb D (show _ = (u8s zl).toArray.size by rw [hszA]; rfl))
  have HD := Lib.hid (setCells_kb (u8s zl) D (by rw [hsz]; rfl))
  have HB2 := Lib.hid (bl_cells (g := w.heap.size + 1) (u8s zl) (by omega) 0 (bl_then HBL.out hb))
  clear D hb
  go_wp2_with (with_reducible refine wpList_store_mid rfl 34 _ _ rfl (w.heap.size + 1) 0 (u8s zl).toArray rfl rfl HT.out (sizeHash.trans (congrArg some hszA.symm)) (u8s_all _) ?_)
  refine bodyPost_ret (results_cell_row rfl _ _ (w.heap.size + 1) 34 _ (0, 0) _ rfl HD.out Try.underlying34 rfl (sizeHash.trans (congrArg some hszA.symm))) rfl ?_
  exact ⟨rfl, HB2.out⟩
set_option maxRecDepth 100000 in
set_option maxHeartbeats 1000000 in
theorem vKey {w : World} {q : Value} (h : UnR w q) : Calls Try.prog 36 #[q] w (Says w (.agg (u8s (List.replicate 4 0)).toArray)) := by
  have hmf : ∀ (fn : Fn) (first cap : Array Value) (w : World), (Instr.makeFunc fn first cap).run Try.prog w = .ok (.func fn first cap) w := fun _ _ _ _ => rfl
  obtain ⟨a, rfl⟩ := h.ptr
  have hbl : Below w.heap.size w ((w.alloc (.cells #[.pointer a] 48)).alloc (.cells #[.int .u8 0, .int .u8 0, .int .u8 0, .int .u8 0] 36)) := by (repeat (with_reducible (first | exact Below.refl _ _ | assumption | refine bl_alloc ?_ _ | refine bl_drew ?_ | refine bl_drewN ?_ _ | (refine bl_set ?_ ?_ _; (focus (first | (simp; done) | (simp; omega) | omega))) | refine bl_then ?_ (by assumption))))
  have hD := kb_new (w := w.alloc (.cells #[.pointer a] 48)) (b := w.heap.size + 1) (by simp) (.cells #[.int .u8 0, .int .u8 0, .int .u8 0, .int .u8 0] 36)
  have HC := readsKey_un (h.below hbl) (.func (.func 88) #[] #[.pointer (some ⟨w.heap.size, 0, none⟩)])
  obtain ⟨zl, hz, hzl⟩ : ∃ zl : List UInt8, List.replicate 4 0 = zl ∧ zl.length = 4 := ⟨_, rfl, by simp⟩
  rw [hz] at HC ⊢
  have HC := Lib.hid HC
  have HBL := Lib.hid hbl
  have HD0 := Lib.hid hD
  have hszA : (u8s zl).toArray.size = 4 := by simpa [u8s_len] using hzl
  have hsz : (u8s zl).length = 4 := by simpa [u8s_len] using hzl
  clear h hbl hD hz
  go_enter Try.func36, Try.ntmps36
  go_wp2_with fail
  refine HC.out.mono ?_
  rintro e w' ⟨rfl, hb⟩
  have D := kb_below hb HD0.out
  have HT := Lib.hid (there_kb D (show _ = (u8s zl).toArray.size by rw [hszA]; rfl))
  have HD := Lib.hid (setCells_kb (u8s zl) D (by rw [hsz]; rfl))
  have HB2 := Lib.hid (bl_cells (g := w.heap.size + 1) (u8s zl) (by omega) 0 (bl_then HBL.out hb))
  clear D hb
  go_wp2_with (with_reducible refine wpList_store_mid rfl 36 _ _ rfl (w.heap.size + 1) 0 (u8s zl).toArray rfl rfl HT.out (sizeKey.trans (congrArg some hszA.symm)) (u8s_all _) ?_)
  refine bodyPost_ret (results_cell_row rfl _ _ (w.heap.size + 1) 36 _ (0, 0) _ rfl HD.out Try.underlying36 rfl (sizeKey.trans (congrArg some hszA.symm))) rfl ?_
  exact ⟨rfl, HB2.out⟩
theorem vRest {w : World} {q : Value} (h : UnR w q) : Calls Try.prog 25 #[q] w (Says w (.int .i64 0)) := by
  rcases h with rfl | ⟨b, rfl, hb⟩
  · go_enter Try.func25, Try.ntmps25
    go_wp2
    go_ret
    exact ⟨rfl, Below.refl _ _⟩
  · have c := kb_cell hb
    go_enter Try.func25, Try.ntmps25
    go_wp2
    go_ret
    exact ⟨rfl, Below.refl _ _⟩
theorem vEnd {w : World} {q : Value} (h : UnR w q) : Calls Try.prog 32 #[q] w (Says w (.agg #[.int .i64 1, .int .i64 0])) := by
  rcases h with rfl | ⟨b, rfl, hb⟩
  · go_enter Try.func32, Try.ntmps32
    go_wp2
    exact bodyPost_ret (results_cell_row rfl _ _ w.heap.size 60 _ (0, 0) _ rfl (kb_new rfl _) Try.underlying60 rfl (by kernel_rfl)) rfl ⟨rfl, by (repeat (with_reducible (first | exact Below.refl _ _ | assumption | refine bl_alloc ?_ _ | refine bl_drew ?_ | refine bl_drewN ?_ _ | (refine bl_set ?_ ?_ _; (focus (first | (simp; done) | (simp; omega) | omega))) | refine bl_then ?_ (by assumption))))⟩
  · have c := kb_cell hb
    have hlt := kb_lt hb
    go_enter Try.func32, Try.ntmps32
    go_wp2
    exact bodyPost_ret (results_cell_row rfl _ _ w.heap.size 60 _ (0, 0) _ rfl (kb_new rfl _) Try.underlying60 rfl (by kernel_rfl)) rfl ⟨rfl, by (repeat (with_reducible (first | exact Below.refl _ _ | assumption | refine bl_alloc ?_ _ | refine bl_drew ?_ | refine bl_drewN ?_ _ | (refine bl_set ?_ ?_ _; (focus (first | (simp; done) | (simp; omega) | omega))) | refine bl_then ?_ (by assumption))))⟩
end Go.Proofs.Ytajlcodlaalomaa
