/- puts by a writer that nobody made; WireNone. Printed by wip/nones2.py. -/
import Derived.Test.YtajlcodlaalomaaWire31
namespace Go.Proofs.Ytajlcodlaalomaa
open Go.RowKit Go.Proofs.Ytajlcodlaalomaa.Wi Go.Proofs.Ytajlcodlaalomaa.Pc
attribute [local go_sem] cell_alloc_some frozen_alloc_some
set_option linter.unusedSimpArgs false
set_option linter.unusedVariables false

set_option maxRecDepth 100000 in
set_option maxHeartbeats 1000000 in
theorem putsU_0 {w : World} {q v : Value} {x : Th} (hx : x.Fine) (hv : BytesOf w v x.b) (h : UnW w q) (hk : x.kind = 0) :
    Calls Try.prog 14 #[q, .agg (x.cells v).toArray] w (Says w (.int .i64 1)) := by
  have b1 : Below w.heap.size w (w.alloc (.cells (x.cells v).toArray 39)) := bl_alloc (Below.refl _ _) _
  have HU1 := h.below b1
  have hV1 := hv.below b1
  have hsz := Th.cells_len hx v
  have hxh := hx.h
  have hxk := hx.k
  have C := kb_cell (kb_new (w := w) rfl (.cells (x.cells v).toArray 39))
  have c0 := (C 0).trans (arr_get (Th.c0 x v))
  have c1 := (C 1).trans (arr_get (Th.c1 x v))
  have c2 := (C 2).trans (arr_get (Th.c2 x v))
  have c39 := (C 39).trans (arr_get (Th.c39 hx v))
  have c40 := (C 40).trans (arr_get (Th.c40 hx v))
  obtain ⟨hrh, hrk⟩ := box_cells (w := w) hx v (t := 39)
  have hrH := Lib.hid hrh
  have hrK := Lib.hid hrk
  rw [hk] at c0
  obtain ⟨A, cp, rfl⟩ := hv.form
  have HC := Lib.hid (uNum x.n hx.n HU1)
  obtain ⟨a, rfl⟩ := h.ptr
  clear hrh hrk C hV1 HU1 hv h
  have B1 := Lib.hid b1
  clear b1
  have hsz' : (x.cells (.slice A x.b.length cp)).toArray.size = 41 := by simpa using hsz
  generalize (x.cells (.slice A x.b.length cp)).toArray = T at *
  skip
  · go_enter Try.func14, Try.ntmps14
    go_wp2_with fail
    refine HC.out.mono ?_
    rintro e2 w2 ⟨rfl, hW⟩
    go_wp2_with fail
    go_ret
    exact ⟨rfl, bl_then B1.out hW⟩

set_option maxRecDepth 100000 in
set_option maxHeartbeats 1000000 in
theorem putsU_1 {w : World} {q v : Value} {x : Th} (hx : x.Fine) (hv : BytesOf w v x.b) (h : UnW w q) (hk : x.kind = 1) :
    Calls Try.prog 14 #[q, .agg (x.cells v).toArray] w (Says w (.int .i64 1)) := by
  have b1 : Below w.heap.size w (w.alloc (.cells (x.cells v).toArray 39)) := bl_alloc (Below.refl _ _) _
  have HU1 := h.below b1
  have hV1 := hv.below b1
  have hsz := Th.cells_len hx v
  have hxh := hx.h
  have hxk := hx.k
  have C := kb_cell (kb_new (w := w) rfl (.cells (x.cells v).toArray 39))
  have c0 := (C 0).trans (arr_get (Th.c0 x v))
  have c1 := (C 1).trans (arr_get (Th.c1 x v))
  have c2 := (C 2).trans (arr_get (Th.c2 x v))
  have c39 := (C 39).trans (arr_get (Th.c39 hx v))
  have c40 := (C 40).trans (arr_get (Th.c40 hx v))
  obtain ⟨hrh, hrk⟩ := box_cells (w := w) hx v (t := 39)
  have hrH := Lib.hid hrh
  have hrK := Lib.hid hrk
  have hc := run_conv hV1
  rw [hk] at c0
  obtain ⟨A, cp, rfl⟩ := hv.form
  have HC := Lib.hid (uText (strB x.b) (by rw [strB_size]; exact hx.b) HU1)
  obtain ⟨a, rfl⟩ := h.ptr
  clear hrh hrk C hV1 HU1 hv h
  have B1 := Lib.hid b1
  clear b1
  have hsz' : (x.cells (.slice A x.b.length cp)).toArray.size = 41 := by simpa using hsz
  generalize (x.cells (.slice A x.b.length cp)).toArray = T at *
  skip
  · go_enter Try.func14, Try.ntmps14
    go_wp2_with fail
    refine HC.out.mono ?_
    rintro e2 w2 ⟨rfl, hW⟩
    go_wp2_with fail
    go_ret
    exact ⟨rfl, bl_then B1.out hW⟩

set_option maxRecDepth 100000 in
set_option maxHeartbeats 1000000 in
theorem putsU_2 {w : World} {q v : Value} {x : Th} (hx : x.Fine) (hv : BytesOf w v x.b) (h : UnW w q) (hk : x.kind = 2) :
    Calls Try.prog 14 #[q, .agg (x.cells v).toArray] w (Says w (.int .i64 1)) := by
  have b1 : Below w.heap.size w (w.alloc (.cells (x.cells v).toArray 39)) := bl_alloc (Below.refl _ _) _
  have HU1 := h.below b1
  have hV1 := hv.below b1
  have hsz := Th.cells_len hx v
  have hxh := hx.h
  have hxk := hx.k
  have C := kb_cell (kb_new (w := w) rfl (.cells (x.cells v).toArray 39))
  have c0 := (C 0).trans (arr_get (Th.c0 x v))
  have c1 := (C 1).trans (arr_get (Th.c1 x v))
  have c2 := (C 2).trans (arr_get (Th.c2 x v))
  have c39 := (C 39).trans (arr_get (Th.c39 hx v))
  have c40 := (C 40).trans (arr_get (Th.c40 hx v))
  obtain ⟨hrh, hrk⟩ := box_cells (w := w) hx v (t := 39)
  have hrH := Lib.hid hrh
  have hrK := Lib.hid hrk
  rw [hk] at c0
  obtain ⟨A, cp, rfl⟩ := hv.form
  have HC := Lib.hid (uBytes (A := A) (c := cp) hx.b HU1)
  obtain ⟨a, rfl⟩ := h.ptr
  clear hrh hrk C hV1 HU1 hv h
  have B1 := Lib.hid b1
  clear b1
  have hsz' : (x.cells (.slice A x.b.length cp)).toArray.size = 41 := by simpa using hsz
  generalize (x.cells (.slice A x.b.length cp)).toArray = T at *
  skip
  · go_enter Try.func14, Try.ntmps14
    go_wp2_with fail
    refine HC.out.mono ?_
    rintro e2 w2 ⟨rfl, hW⟩
    go_wp2_with fail
    go_ret
    exact ⟨rfl, bl_then B1.out hW⟩

set_option maxRecDepth 100000 in
set_option maxHeartbeats 1000000 in
theorem putsU_3 {w : World} {q v : Value} {x : Th} (hx : x.Fine) (hv : BytesOf w v x.b) (h : UnW w q) (hk : x.kind = 3) :
    Calls Try.prog 14 #[q, .agg (x.cells v).toArray] w (Says w (.int .i64 1)) := by
  have b1 : Below w.heap.size w (w.alloc (.cells (x.cells v).toArray 39)) := bl_alloc (Below.refl _ _) _
  have HU1 := h.below b1
  have hV1 := hv.below b1
  have hsz := Th.cells_len hx v
  have hxh := hx.h
  have hxk := hx.k
  have C := kb_cell (kb_new (w := w) rfl (.cells (x.cells v).toArray 39))
  have c0 := (C 0).trans (arr_get (Th.c0 x v))
  have c1 := (C 1).trans (arr_get (Th.c1 x v))
  have c2 := (C 2).trans (arr_get (Th.c2 x v))
  have c39 := (C 39).trans (arr_get (Th.c39 hx v))
  have c40 := (C 40).trans (arr_get (Th.c40 hx v))
  obtain ⟨hrh, hrk⟩ := box_cells (w := w) hx v (t := 39)
  have hrH := Lib.hid hrh
  have hrK := Lib.hid hrk
  rw [hk] at c0
  obtain ⟨A, cp, rfl⟩ := hv.form
  have HC := Lib.hid (uHash x.h hx.h HU1)
  obtain ⟨a, rfl⟩ := h.ptr
  clear hrh hrk C hV1 HU1 hv h
  have B1 := Lib.hid b1
  clear b1
  have hsz' : (x.cells (.slice A x.b.length cp)).toArray.size = 41 := by simpa using hsz
  generalize (x.cells (.slice A x.b.length cp)).toArray = T at *
  skip
  · go_enter Try.func14, Try.ntmps14
    go_wp2_with (with_reducible refine wpList_load_mid rfl 34 _ rfl w.heap.size 3 rfl (u8s x.h) _ hrH.out Try.underlying34 rfl (by rw [u8s_len, hxh]; exact infoH) ?_)
    refine HC.out.mono ?_
    rintro e2 w2 ⟨rfl, hW⟩
    go_wp2_with fail
    go_ret
    exact ⟨rfl, bl_then B1.out hW⟩

set_option maxRecDepth 100000 in
set_option maxHeartbeats 1000000 in
theorem putsU_4 {w : World} {q v : Value} {x : Th} (hx : x.Fine) (hv : BytesOf w v x.b) (h : UnW w q) (hk : x.kind = 4) :
    Calls Try.prog 14 #[q, .agg (x.cells v).toArray] w (Says w (.int .i64 1)) := by
  have b1 : Below w.heap.size w (w.alloc (.cells (x.cells v).toArray 39)) := bl_alloc (Below.refl _ _) _
  have HU1 := h.below b1
  have hV1 := hv.below b1
  have hsz := Th.cells_len hx v
  have hxh := hx.h
  have hxk := hx.k
  have C := kb_cell (kb_new (w := w) rfl (.cells (x.cells v).toArray 39))
  have c0 := (C 0).trans (arr_get (Th.c0 x v))
  have c1 := (C 1).trans (arr_get (Th.c1 x v))
  have c2 := (C 2).trans (arr_get (Th.c2 x v))
  have c39 := (C 39).trans (arr_get (Th.c39 hx v))
  have c40 := (C 40).trans (arr_get (Th.c40 hx v))
  obtain ⟨hrh, hrk⟩ := box_cells (w := w) hx v (t := 39)
  have hrH := Lib.hid hrh
  have hrK := Lib.hid hrk
  rw [hk] at c0
  obtain ⟨A, cp, rfl⟩ := hv.form
  have HC := Lib.hid (uKey x.k hx.k HU1)
  obtain ⟨a, rfl⟩ := h.ptr
  clear hrh hrk C hV1 HU1 hv h
  have B1 := Lib.hid b1
  clear b1
  have hsz' : (x.cells (.slice A x.b.length cp)).toArray.size = 41 := by simpa using hsz
  generalize (x.cells (.slice A x.b.length cp)).toArray = T at *
  skip
  · go_enter Try.func14, Try.ntmps14
    go_wp2_with (with_reducible refine wpList_load_mid rfl 36 _ rfl w.heap.size 35 rfl (u8s x.k) _ hrK.out Try.underlying36 rfl (by rw [u8s_len, hxk]; exact infoK) ?_)
    refine HC.out.mono ?_
    rintro e2 w2 ⟨rfl, hW⟩
    go_wp2_with fail
    go_ret
    exact ⟨rfl, bl_then B1.out hW⟩

set_option maxRecDepth 100000 in
set_option maxHeartbeats 1000000 in
theorem putsU_5 {w : World} {q v : Value} {x : Th} (hx : x.Fine) (hv : BytesOf w v x.b) (h : UnW w q) (hk : x.kind = 5) :
    Calls Try.prog 14 #[q, .agg (x.cells v).toArray] w (Says w (.int .i64 1)) := by
  have b1 : Below w.heap.size w (w.alloc (.cells (x.cells v).toArray 39)) := bl_alloc (Below.refl _ _) _
  have HU1 := h.below b1
  have hV1 := hv.below b1
  have hsz := Th.cells_len hx v
  have hxh := hx.h
  have hxk := hx.k
  have C := kb_cell (kb_new (w := w) rfl (.cells (x.cells v).toArray 39))
  have c0 := (C 0).trans (arr_get (Th.c0 x v))
  have c1 := (C 1).trans (arr_get (Th.c1 x v))
  have c2 := (C 2).trans (arr_get (Th.c2 x v))
  have c39 := (C 39).trans (arr_get (Th.c39 hx v))
  have c40 := (C 40).trans (arr_get (Th.c40 hx v))
  obtain ⟨hrh, hrk⟩ := box_cells (w := w) hx v (t := 39)
  have hrH := Lib.hid hrh
  have hrK := Lib.hid hrk
  rw [hk] at c0
  obtain ⟨A, cp, rfl⟩ := hv.form
  have HC := Lib.hid (uWord x.wd hx.wd HU1)
  obtain ⟨a, rfl⟩ := h.ptr
  clear hrh hrk C hV1 HU1 hv h
  have B1 := Lib.hid b1
  clear b1
  have hsz' : (x.cells (.slice A x.b.length cp)).toArray.size = 41 := by simpa using hsz
  generalize (x.cells (.slice A x.b.length cp)).toArray = T at *
  skip
  · go_enter Try.func14, Try.ntmps14
    go_wp2_with fail
    refine HC.out.mono ?_
    rintro e2 w2 ⟨rfl, hW⟩
    go_wp2_with fail
    go_ret
    exact ⟨rfl, bl_then B1.out hW⟩

set_option maxRecDepth 100000 in
set_option maxHeartbeats 1000000 in
theorem putsU_6 {w : World} {q v : Value} {x : Th} (hx : x.Fine) (hv : BytesOf w v x.b) (h : UnW w q) (hk : x.kind = 6) :
    Calls Try.prog 14 #[q, .agg (x.cells v).toArray] w (Says w (.int .i64 1)) := by
  have b1 : Below w.heap.size w (w.alloc (.cells (x.cells v).toArray 39)) := bl_alloc (Below.refl _ _) _
  have HU1 := h.below b1
  have hV1 := hv.below b1
  have hsz := Th.cells_len hx v
  have hxh := hx.h
  have hxk := hx.k
  have C := kb_cell (kb_new (w := w) rfl (.cells (x.cells v).toArray 39))
  have c0 := (C 0).trans (arr_get (Th.c0 x v))
  have c1 := (C 1).trans (arr_get (Th.c1 x v))
  have c2 := (C 2).trans (arr_get (Th.c2 x v))
  have c39 := (C 39).trans (arr_get (Th.c39 hx v))
  have c40 := (C 40).trans (arr_get (Th.c40 hx v))
  obtain ⟨hrh, hrk⟩ := box_cells (w := w) hx v (t := 39)
  have hrH := Lib.hid hrh
  have hrK := Lib.hid hrk
  have hr := fun W => run_from (x.wd : Int) W
  simp only [Int.toNat_natCast] at hr
  rw [hk] at c0
  obtain ⟨A, cp, rfl⟩ := hv.form
  have HC := Lib.hid (uPace x.wd hx.wd HU1)
  obtain ⟨a, rfl⟩ := h.ptr
  clear hrh hrk C hV1 HU1 hv h
  have B1 := Lib.hid b1
  clear b1
  have hsz' : (x.cells (.slice A x.b.length cp)).toArray.size = 41 := by simpa using hsz
  generalize (x.cells (.slice A x.b.length cp)).toArray = T at *
  skip
  · go_enter Try.func14, Try.ntmps14
    go_wp2_with fail
    refine HC.out.mono ?_
    rintro e2 w2 ⟨rfl, hW⟩
    go_wp2_with fail
    go_ret
    exact ⟨rfl, bl_then B1.out hW⟩

set_option maxRecDepth 100000 in
set_option maxHeartbeats 1000000 in
theorem putsU_7 {w : World} {q v : Value} {x : Th} (hx : x.Fine) (hv : BytesOf w v x.b) (h : UnW w q) (hk : x.kind = 7) :
    Calls Try.prog 14 #[q, .agg (x.cells v).toArray] w (Says w (.int .i64 1)) := by
  have b1 : Below w.heap.size w (w.alloc (.cells (x.cells v).toArray 39)) := bl_alloc (Below.refl _ _) _
  have HU1 := h.below b1
  have hV1 := hv.below b1
  have hsz := Th.cells_len hx v
  have hxh := hx.h
  have hxk := hx.k
  have C := kb_cell (kb_new (w := w) rfl (.cells (x.cells v).toArray 39))
  have c0 := (C 0).trans (arr_get (Th.c0 x v))
  have c1 := (C 1).trans (arr_get (Th.c1 x v))
  have c2 := (C 2).trans (arr_get (Th.c2 x v))
  have c39 := (C 39).trans (arr_get (Th.c39 hx v))
  have c40 := (C 40).trans (arr_get (Th.c40 hx v))
  obtain ⟨hrh, hrk⟩ := box_cells (w := w) hx v (t := 39)
  have hrH := Lib.hid hrh
  have hrK := Lib.hid hrk
  obtain ⟨bb, hbb⟩ : ∃ bb, x.is = bb := ⟨_, rfl⟩
  rw [hbb] at c40
  rw [hk] at c0
  obtain ⟨A, cp, rfl⟩ := hv.form
  have HC := Lib.hid (uBool bb HU1)
  obtain ⟨a, rfl⟩ := h.ptr
  clear hrh hrk C hV1 HU1 hv h
  have B1 := Lib.hid b1
  clear b1
  have hsz' : (x.cells (.slice A x.b.length cp)).toArray.size = 41 := by simpa using hsz
  generalize (x.cells (.slice A x.b.length cp)).toArray = T at *
  cases bb <;>
  · go_enter Try.func14, Try.ntmps14
    go_wp2_with fail
    refine HC.out.mono ?_
    rintro e2 w2 ⟨rfl, hW⟩
    go_wp2_with fail
    go_ret
    exact ⟨rfl, bl_then B1.out hW⟩

theorem putsU_any {w : World} {q v : Value} {x : Th} (hx : x.Fine) (hv : BytesOf w v x.b) (h : UnW w q) (hk : 0 ≤ x.kind ∧ x.kind ≤ 7) :
    Calls Try.prog 14 #[q, .agg (x.cells v).toArray] w (Says w (.int .i64 1)) := by
  rcases kinds x with k | k | k | k | k | k | k | k | k
  · exact putsU_0 hx hv h k
  · exact putsU_1 hx hv h k
  · exact putsU_2 hx hv h k
  · exact putsU_3 hx hv h k
  · exact putsU_4 hx hv h k
  · exact putsU_5 hx hv h k
  · exact putsU_6 hx hv h k
  · exact putsU_7 hx hv h k
  · exact absurd hk k

theorem neqH (W : World) (Z : Array Value) (hZ : (u8s (List.replicate 32 0)).toArray = Z) : (binOp .neq 34 (.agg Z) (.agg #[.int .u8 0, .int .u8 0, .int .u8 0, .int .u8 0, .int .u8 0, .int .u8 0, .int .u8 0, .int .u8 0, .int .u8 0, .int .u8 0, .int .u8 0, .int .u8 0, .int .u8 0, .int .u8 0, .int .u8 0, .int .u8 0, .int .u8 0, .int .u8 0, .int .u8 0, .int .u8 0, .int .u8 0, .int .u8 0, .int .u8 0, .int .u8 0, .int .u8 0, .int .u8 0, .int .u8 0, .int .u8 0, .int .u8 0, .int .u8 0, .int .u8 0, .int .u8 0])).run Try.prog W = .ok (.bool false) W := by
  rw [← hZ]
  exact run_neq_bytes Try.underlying34 (List.replicate 32 0) (List.replicate 32 0) (by simp) (by simp) W
theorem neqK (W : World) (Z : Array Value) (hZ : (u8s (List.replicate 4 0)).toArray = Z) : (binOp .neq 36 (.agg Z) (.agg #[.int .u8 0, .int .u8 0, .int .u8 0, .int .u8 0])).run Try.prog W = .ok (.bool false) W := by
  rw [← hZ]
  exact run_neq_bytes Try.underlying36 (List.replicate 4 0) (List.replicate 4 0) (by simp) (by simp) W

set_option maxRecDepth 100000 in
set_option maxHeartbeats 4000000 in
theorem WireNone_any {w : World} {v : Value} {x : Th} (hx : x.Ok) (hv : BytesOf w v x.b) :
    Calls Try.prog 6 #[.agg (x.cells v).toArray] w fun e w' => e = .returned (.bool true) ∧ Below w.heap.size w w' := by
  have b1 : Below w.heap.size w (w.alloc (.cells (x.cells v).toArray 39)) := bl_alloc (Below.refl _ _) _
  have HB1 := Lib.hid b1
  have HV1 := Lib.hid (hv.below b1)
  have HD1 := Lib.hid (kb_new (w := w) rfl (.cells (x.cells v).toArray 39))
  have C := kb_cell (kb_new (w := w) rfl (.cells (x.cells v).toArray 39))
  have c2 := (C 2).trans (arr_get (Th.c2 x v))
  obtain ⟨A, cp, rfl⟩ := hv.form
  obtain ⟨T, hT⟩ : ∃ T, (x.cells (.slice A x.b.length cp)).toArray = T := ⟨_, rfl⟩
  have HT := Lib.hid hT
  rw [hT] at HB1 HV1 HD1 c2 ⊢
  clear C b1 hT hv
  by_cases h300 : 300 < x.b.length
  · have hd : decide ((300 : Int) < (x.b.length : Int)) = true := decide_eq_true (by omega)
    clear h300
    go_enter Try.func6, Try.ntmps6
    go_wp2_with fail
    refine (awake_yes _).mono ?_
    rintro e w1 ⟨rfl, b2⟩
    go_wp2_with fail
    go_ret
    exact ⟨rfl, bl_then HB1.out b2⟩
  · have hd : decide ((300 : Int) < (x.b.length : Int)) = false := decide_eq_false (by omega)
    have hfine := Lib.hid (hx.fine (by omega))
    clear h300 hx
    go_enter Try.func6, Try.ntmps6
    go_wp2_with fail
    obtain ⟨W5, hW5⟩ : ∃ W5, (((((w.alloc (.cells T 39)).alloc (.cells #[.int .i64 0, .slice none 0 0, .int .i64 0, .bool false] 64)).alloc (.cells #[.pointer none, .pointer (some ⟨w.heap.size + 1, 0, none⟩)] 25)).alloc (.cells #[.slice none 0 0, .int .i64 0, .int .i64 0, .int .i64 0, .bool false] 67)).alloc (.cells #[.pointer none, .pointer (some ⟨w.heap.size + 1 + 1 + 1, 0, none⟩)] 48)) = W5 := ⟨_, rfl⟩
    have F0 : W5.heap[w.heap.size]? = some (.cells T 39 (0, 0)) := by rw [← hW5]; exact kb_alloc (kb_alloc (kb_alloc (kb_alloc (kb_new rfl _) _) _) _) _
    have F1 : W5.heap[w.heap.size + 1]? = some (.cells #[.int .i64 0, .slice none 0 0, .int .i64 0, .bool false] 64 (0, 0)) := by rw [← hW5]; exact kb_alloc (kb_alloc (kb_alloc (kb_new (by simp) _) _) _) _
    have F2 : W5.heap[w.heap.size + 1 + 1]? = some (.cells #[.pointer none, .pointer (some ⟨w.heap.size + 1, 0, none⟩)] 25 (0, 0)) := by rw [← hW5]; exact kb_alloc (kb_alloc (kb_new (by simp) _) _) _
    have F3 : W5.heap[w.heap.size + 1 + 1 + 1]? = some (.cells #[.slice none 0 0, .int .i64 0, .int .i64 0, .int .i64 0, .bool false] 67 (0, 0)) := by rw [← hW5]; exact kb_alloc (kb_new (by simp) _) _
    have F4 : W5.heap[w.heap.size + 1 + 1 + 1 + 1]? = some (.cells #[.pointer none, .pointer (some ⟨w.heap.size + 1 + 1 + 1, 0, none⟩)] 48 (0, 0)) := by rw [← hW5]; exact kb_new (by simp) _
    have B5 : Below w.heap.size w W5 := by rw [← hW5]; (repeat (with_reducible (first | exact Below.refl _ _ | assumption | refine bl_alloc ?_ _ | refine bl_drew ?_ | refine bl_drewN ?_ _ | (refine bl_set ?_ ?_ _; (focus (first | (simp; done) | (simp; omega) | omega))) | refine bl_then ?_ (by assumption))))
    have V5 : BytesOf W5 (.slice A x.b.length cp) x.b := HV1.out.below (by rw [← hW5]; exact bl_alloc (bl_alloc (bl_alloc (bl_alloc (Below.refl _ _) _) _) _) _)
    have HF0 := Lib.hid F0
    have HF1 := Lib.hid F1
    have HF2 := Lib.hid F2
    have HF3 := Lib.hid F3
    have HF4 := Lib.hid F4
    have HB5 := Lib.hid B5
    have HV5 := Lib.hid V5
    try rw [hW5]
    clear hW5 F0 F1 F2 F3 F4 B5 V5 c2
    have hi41 : (Try.prog.info? 39).map (·.size) = some 41 := by kernel_rfl
    have HI := Lib.hid hi41
    have hcl := Th.cells_len hfine.out (.slice A x.b.length cp)
    have hfl : ∀ W : World, (binOp .neq 54 (.float .f64 0) (.float .f64 0)).run Try.prog W = .ok (.bool false) W := fun W => by kernel_rfl
    have hstr : (strB []).toList = [] := by kernel_rfl
    clear hi41
    go_loopw [5, 6, 7, 8, 9, 21, 22, 23, 24, 25, 26, 27, 28, 29, 30, 31, 32, 33, 34, 35, 36, 37, 38, 39, 40, 41, 42, 43, 44, 45, 46, 47, 48, 49, 50, 51, 52, 53, 54, 55, 56, 57, 58, 59, 60, 61, 62, 63, 64, 65, 66, 67, 68, 69, 70, 71, 72, 73, 74, 75, 76, 77, 78, 79, 80, 81, 82, 83, 84, 85, 86, 87, 88, 89, 90, 91, 92, 93, 94, 95, 96, 97, 98, 99, 100, 101, 102, 103, 104, 105, 106, 107, 108, 109, 110, 111, 112, 113, 114, 115] (fun s5 _ _ _ _ _ _ _ _ _ _ _ _ _ _ _ _ _ _ _ _ _ _ _ _ _ _ _ _ _ _ _ _ _ _ _ _ _ _ _ _ _ _ _ _ _ _ _ _ _ _ _ _ _ _ _ _ _ _ _ _ _ _ _ _ _ _ _ _ _ _ _ _ _ _ _ _ _ _ _ _ _ _ _ _ _ _ _ _ _ _ _ _ _ _ _ _ _ _ _ wr => ∃ k : Nat, k ≤ 2 ∧ s5 = .int .i64 k ∧ Below W5.heap.size W5 wr) (fun s5 _ _ _ _ _ _ _ _ _ _ _ _ _ _ _ _ _ _ _ _ _ _ _ _ _ _ _ _ _ _ _ _ _ _ _ _ _ _ _ _ _ _ _ _ _ _ _ _ _ _ _ _ _ _ _ _ _ _ _ _ _ _ _ _ _ _ _ _ _ _ _ _ _ _ _ _ _ _ _ _ _ _ _ _ _ _ _ _ _ _ _ _ _ _ _ _ _ _ _ _ => 2 - (intOf s5).toNat)
    case atStart => exact ⟨0, by omega, rfl, Below.refl _ _⟩
    case round =>
      obtain ⟨k, hk, rfl, hb⟩ := hrel
      have HB := Lib.hid hb
      clear hb
      have hk3 : k = 0 ∨ k = 1 ∨ k = 2 := by omega
      rcases hk3 with rfl | rfl | rfl
      · have HQW := Lib.hid (show UnW wr (.pointer none) from .inl rfl)
        have HQR := Lib.hid (show UnR wr (.pointer none) from .inl rfl)
        have d2 := kb_cell (kb_below HB.out HF2.out) 0
        have d4 := kb_cell (kb_below HB.out HF4.out) 0
        simp at d2 d4
        go_wp2_with fail
        refine wp_region_held_drew (S := (fun W : World => W.cell? ⟨w.heap.size + 1 + 1, 0, none⟩ = some (.pointer none) ∧ W.cell? ⟨w.heap.size + 1 + 1 + 1 + 1, 0, none⟩ = some (.pointer none))) (by kernel_rfl) ⟨d2, d4⟩ (fun hHeld => ?_)
        refine wpAnyH_take (i := 0) (oi := { dst := some 25, op := _, type := _, pos := _, after := _, guard := _ }) (v := ?_) rfl (by kernel_rfl) (by kernel_rfl) (by kernel_rfl) (fun _ _ _ h => h) (Or.inl ⟨by rfl, ?_⟩) hHeld ?_
        rotate_left
        · (intro w hSw; (try dsimp only at hSw); go_simp); all_goals with_reducible rfl
        try simp only [Act.put, List.setIfInBounds_toArray, List.set_cons_zero, List.set_cons_succ]
        refine wpAnyH_take (i := 1) (oi := { dst := some 26, op := _, type := _, pos := _, after := _, guard := _ }) (v := ?_) rfl (by kernel_rfl) (by kernel_rfl) (by kernel_rfl) (fun _ _ _ h => h) (Or.inl ⟨by rfl, ?_⟩) hHeld ?_
        rotate_left
        · (intro w hSw; (try dsimp only at hSw); go_simp); all_goals with_reducible rfl
        try simp only [Act.put, List.setIfInBounds_toArray, List.set_cons_zero, List.set_cons_succ]
        refine wpAnyH_take (i := 2) (oi := { dst := some 27, op := _, type := _, pos := _, after := _, guard := _ }) (v := ?_) rfl (by kernel_rfl) (by kernel_rfl) (by kernel_rfl) (fun _ _ _ h => h) (Or.inl ⟨by rfl, ?_⟩) hHeld ?_
        rotate_left
        · (intro w hSw; (try dsimp only at hSw); go_simp); all_goals with_reducible rfl
        try simp only [Act.put, List.setIfInBounds_toArray, List.set_cons_zero, List.set_cons_succ]
        refine wpAnyH_take (i := 3) (oi := { dst := some 28, op := _, type := _, pos := _, after := _, guard := _ }) (v := ?_) rfl (by kernel_rfl) (by kernel_rfl) (by kernel_rfl) (fun _ _ _ h => h) (Or.inl ⟨by rfl, ?_⟩) hHeld ?_
        rotate_left
        · (intro w hSw; (try dsimp only at hSw); go_simp); all_goals with_reducible rfl
        try simp only [Act.put, List.setIfInBounds_toArray, List.set_cons_zero, List.set_cons_succ]
        refine wpAnyH_take (i := 4) (oi := { dst := some 29, op := _, type := _, pos := _, after := _, guard := _ }) (v := ?_) rfl (by kernel_rfl) (by kernel_rfl) (by kernel_rfl) (fun _ _ _ h => h) (Or.inl ⟨by rfl, ?_⟩) hHeld ?_
        rotate_left
        · (intro w hSw; (try dsimp only at hSw); go_simp); all_goals with_reducible rfl
        try simp only [Act.put, List.setIfInBounds_toArray, List.set_cons_zero, List.set_cons_succ]
        refine wpAnyH_take (i := 5) (oi := { dst := some 30, op := _, type := _, pos := _, after := _, guard := _ }) (v := ?_) rfl (by kernel_rfl) (by kernel_rfl) (by kernel_rfl) (fun _ _ _ h => h) (Or.inl ⟨by rfl, ?_⟩) hHeld ?_
        rotate_left
        · (intro w hSw; (try dsimp only at hSw); go_simp); all_goals with_reducible rfl
        try simp only [Act.put, List.setIfInBounds_toArray, List.set_cons_zero, List.set_cons_succ]
        refine wpAnyH_take (i := 6) (oi := { dst := some 31, op := _, type := _, pos := _, after := _, guard := _ }) (v := ?_) rfl (by kernel_rfl) (by kernel_rfl) (by kernel_rfl) (fun _ _ _ h => h) (Or.inl ⟨by rfl, ?_⟩) hHeld ?_
        rotate_left
        · (intro w hSw; (try dsimp only at hSw); go_simp); all_goals with_reducible rfl
        try simp only [Act.put, List.setIfInBounds_toArray, List.set_cons_zero, List.set_cons_succ]
        refine wpAnyH_take (i := 7) (oi := { dst := some 32, op := _, type := _, pos := _, after := _, guard := _ }) (v := ?_) rfl (by kernel_rfl) (by kernel_rfl) (by kernel_rfl) (fun _ _ _ h => h) (Or.inl ⟨by rfl, ?_⟩) hHeld ?_
        rotate_left
        · (intro w hSw; (try dsimp only at hSw); go_simp); all_goals with_reducible rfl
        try simp only [Act.put, List.setIfInBounds_toArray, List.set_cons_zero, List.set_cons_succ]
        refine wpAnyH_take (i := 8) (oi := { dst := some 6, op := _, type := _, pos := _, after := _, guard := _ }) (v := ?_) rfl (by kernel_rfl) (by kernel_rfl) (by kernel_rfl) (fun _ _ _ h => h) (Or.inl ⟨by rfl, ?_⟩) hHeld ?_
        rotate_left
        · (intro w hSw; (try dsimp only at hSw); go_simp); all_goals with_reducible rfl
        try simp only [Act.put, List.setIfInBounds_toArray, List.set_cons_zero, List.set_cons_succ]
        refine wpAnyH_take (i := 9) (oi := { dst := some 7, op := _, type := _, pos := _, after := _, guard := _ }) (v := ?_) rfl (by kernel_rfl) (by kernel_rfl) (by kernel_rfl) (fun _ _ _ h => h) (Or.inl ⟨by rfl, ?_⟩) hHeld ?_
        rotate_left
        · (intro w hSw; (try dsimp only at hSw); go_simp); all_goals with_reducible rfl
        try simp only [Act.put, List.setIfInBounds_toArray, List.set_cons_zero, List.set_cons_succ]
        refine wpAnyH_done (by kernel_rfl) ?_ _
        have bD : Below wr.heap.size wr wr.drew := bl_drew (Below.refl _ _)
        have HW1 := Lib.hid (HQW.out.below bD)
        have HR1 := Lib.hid (HQR.out.below bD)
        have HB1' := Lib.hid (bl_then HB.out bD)
        clear bD hHeld d2 d4
        go_wp2_with fail
        refine (uDone HW1.out).mono ?_
        rintro e w6 ⟨rfl, b6⟩
        have HW6 := Lib.hid (HW1.out.below b6)
        have HR6 := Lib.hid (HR1.out.below b6)
        have HB6 := Lib.hid (bl_then HB1'.out b6)
        clear b6
        have D6 := kb_below HB6.out HF0.out
        have e0 : w6.cell? ⟨w.heap.size, 0, none⟩ = some (.int .i64 x.kind) := by rw [kb_cell D6, ← HT.out]; rfl
        have e1 : w6.cell? ⟨w.heap.size, 1, none⟩ = some (.int .i64 x.n) := by rw [kb_cell D6, ← HT.out]; rfl
        have HE1 := Lib.hid e1
        have HRG := Lib.hid (show w6.rangeAt w.heap.size 0 (x.cells (.slice A x.b.length cp)) from range_of_kb (by rw [HT.out]; exact D6))
        have HV6 := Lib.hid (HV5.out.below HB6.out)
        clear D6
        by_cases hkn : 0 ≤ x.kind ∧ x.kind ≤ 7
        · have g1 : decide (0 ≤ x.kind) = true := decide_eq_true hkn.1
          have g2 : decide (x.kind ≤ 7) = true := decide_eq_true hkn.2
          have HKN := Lib.hid hkn
          clear hkn
          go_wp2_with (with_reducible refine wpList_load_want 39 _ rfl (by kernel_rfl) w.heap.size 0 rfl (x.cells (.slice A x.b.length cp)) _ HRG.out Try.underlying39 rfl (HI.out.trans (congrArg some hcl.symm)) ?_)
          refine (putsU_any hfine.out HV6.out HW6.out HKN.out).mono ?_
          rintro e w7 ⟨rfl, b7⟩
          have d1 := (b7.cell (p := ⟨w.heap.size, 1, none⟩) (by exact some_lt (by rw [e1]; rfl))).trans e1
          have HR7 := Lib.hid (HR6.out.below b7)
          have HB7 := Lib.hid (bl_then HB6.out b7)
          clear b7 e0 e1
          go_wp2_with fail
          refine (vNum HR7.out).mono ?_
          rintro e w8 ⟨rfl, b8⟩
          have d8 := (b8.cell (p := ⟨w.heap.size, 1, none⟩) (by exact some_lt (by rw [d1]; rfl))).trans d1
          have HR8 := Lib.hid (HR7.out.below b8)
          have HB8 := Lib.hid (bl_then HB7.out b8)
          clear b8
          go_wp2_with fail
          refine (vText x.n HR8.out).mono ?_
          rintro e w9 ⟨rfl, b9⟩
          have d9 := (b9.cell (p := ⟨w.heap.size, 1, none⟩) (by exact some_lt (by rw [d8]; rfl))).trans d8
          have HR9 := Lib.hid (HR8.out.below b9)
          have HB9 := Lib.hid (bl_then HB8.out b9)
          clear b9
          go_wp2_with fail
          refine (vBytes x.n HR9.out).mono ?_
          rintro e w10 ⟨rfl, b10⟩
          have HR10 := Lib.hid (HR9.out.below b10)
          have HB10 := Lib.hid (bl_then HB9.out b10)
          clear b10
          go_wp2_with fail
          refine (vHash HR10.out).mono ?_
          obtain ⟨ZH, hZH⟩ : ∃ Z, (u8s (List.replicate 32 0)).toArray = Z := ⟨_, rfl⟩
          have hnH := fun W => neqH W ZH hZH
          rw [hZH]
          clear hZH
          rintro e w11 ⟨rfl, b11⟩
          have HR11 := Lib.hid (HR10.out.below b11)
          have HB11 := Lib.hid (bl_then HB10.out b11)
          clear b11
          go_wp2_with fail
          refine (vKey HR11.out).mono ?_
          obtain ⟨ZK, hZK⟩ : ∃ Z, (u8s (List.replicate 4 0)).toArray = Z := ⟨_, rfl⟩
          have hnK := fun W => neqK W ZK hZK
          rw [hZK]
          clear hZK
          rintro e w12 ⟨rfl, b12⟩
          have HR12 := Lib.hid (HR11.out.below b12)
          have HB12 := Lib.hid (bl_then HB11.out b12)
          clear b12
          go_wp2_with fail
          refine (vWord HR12.out).mono ?_
          rintro e w13 ⟨rfl, b13⟩
          have HR13 := Lib.hid (HR12.out.below b13)
          have HB13 := Lib.hid (bl_then HB12.out b13)
          clear b13
          go_wp2_with fail
          refine (vPace HR13.out).mono ?_
          rintro e w14 ⟨rfl, b14⟩
          have HR14 := Lib.hid (HR13.out.below b14)
          have HB14 := Lib.hid (bl_then HB13.out b14)
          clear b14
          go_wp2_with fail
          refine (vBool HR14.out).mono ?_
          rintro e w15 ⟨rfl, b15⟩
          have HR15 := Lib.hid (HR14.out.below b15)
          have HB15 := Lib.hid (bl_then HB14.out b15)
          clear b15
          go_wp2_with fail
          refine (vRest HR15.out).mono ?_
          rintro e w16 ⟨rfl, b16⟩
          have HR16 := Lib.hid (HR15.out.below b16)
          have HB16 := Lib.hid (bl_then HB15.out b16)
          clear b16
          go_wp2_with fail
          refine (vEnd HR16.out).mono ?_
          rintro e w17 ⟨rfl, b17⟩
          have HB17 := Lib.hid (bl_then HB16.out b17)
          clear b17
          go_wp2_with fail
          go_roundw
          case rel => exact ⟨0 + 1, by omega, rfl, HB17.out⟩
          case measure => simp [intOf]
        · have g12 : decide (0 ≤ x.kind) = false ∨ (decide (0 ≤ x.kind) = true ∧ decide (x.kind ≤ 7) = false) := by
            by_cases h0 : 0 ≤ x.kind
            · exact .inr ⟨decide_eq_true h0, decide_eq_false (fun h => hkn ⟨h0, h⟩)⟩
            · exact .inl (decide_eq_false h0)
          clear hkn
          have HR7 := HR6
          have HB7 := HB6
          have d1 := e1
          generalize hw7 : w6 = w7 at *
          rcases g12 with g1 | ⟨g1, g2⟩
          · go_wp2_with fail
            refine (vNum HR7.out).mono ?_
            rintro e w8 ⟨rfl, b8⟩
            have d8 := (b8.cell (p := ⟨w.heap.size, 1, none⟩) (by exact some_lt (by rw [d1]; rfl))).trans d1
            have HR8 := Lib.hid (HR7.out.below b8)
            have HB8 := Lib.hid (bl_then HB7.out b8)
            clear b8
            go_wp2_with fail
            refine (vText x.n HR8.out).mono ?_
            rintro e w9 ⟨rfl, b9⟩
            have d9 := (b9.cell (p := ⟨w.heap.size, 1, none⟩) (by exact some_lt (by rw [d8]; rfl))).trans d8
            have HR9 := Lib.hid (HR8.out.below b9)
            have HB9 := Lib.hid (bl_then HB8.out b9)
            clear b9
            go_wp2_with fail
            refine (vBytes x.n HR9.out).mono ?_
            rintro e w10 ⟨rfl, b10⟩
            have HR10 := Lib.hid (HR9.out.below b10)
            have HB10 := Lib.hid (bl_then HB9.out b10)
            clear b10
            go_wp2_with fail
            refine (vHash HR10.out).mono ?_
            obtain ⟨ZH, hZH⟩ : ∃ Z, (u8s (List.replicate 32 0)).toArray = Z := ⟨_, rfl⟩
            have hnH := fun W => neqH W ZH hZH
            rw [hZH]
            clear hZH
            rintro e w11 ⟨rfl, b11⟩
            have HR11 := Lib.hid (HR10.out.below b11)
            have HB11 := Lib.hid (bl_then HB10.out b11)
            clear b11
            go_wp2_with fail
            refine (vKey HR11.out).mono ?_
            obtain ⟨ZK, hZK⟩ : ∃ Z, (u8s (List.replicate 4 0)).toArray = Z := ⟨_, rfl⟩
            have hnK := fun W => neqK W ZK hZK
            rw [hZK]
            clear hZK
            rintro e w12 ⟨rfl, b12⟩
            have HR12 := Lib.hid (HR11.out.below b12)
            have HB12 := Lib.hid (bl_then HB11.out b12)
            clear b12
            go_wp2_with fail
            refine (vWord HR12.out).mono ?_
            rintro e w13 ⟨rfl, b13⟩
            have HR13 := Lib.hid (HR12.out.below b13)
            have HB13 := Lib.hid (bl_then HB12.out b13)
            clear b13
            go_wp2_with fail
            refine (vPace HR13.out).mono ?_
            rintro e w14 ⟨rfl, b14⟩
            have HR14 := Lib.hid (HR13.out.below b14)
            have HB14 := Lib.hid (bl_then HB13.out b14)
            clear b14
            go_wp2_with fail
            refine (vBool HR14.out).mono ?_
            rintro e w15 ⟨rfl, b15⟩
            have HR15 := Lib.hid (HR14.out.below b15)
            have HB15 := Lib.hid (bl_then HB14.out b15)
            clear b15
            go_wp2_with fail
            refine (vRest HR15.out).mono ?_
            rintro e w16 ⟨rfl, b16⟩
            have HR16 := Lib.hid (HR15.out.below b16)
            have HB16 := Lib.hid (bl_then HB15.out b16)
            clear b16
            go_wp2_with fail
            refine (vEnd HR16.out).mono ?_
            rintro e w17 ⟨rfl, b17⟩
            have HB17 := Lib.hid (bl_then HB16.out b17)
            clear b17
            go_wp2_with fail
            go_roundw
            case rel => exact ⟨0 + 1, by omega, rfl, HB17.out⟩
            case measure => simp [intOf]
          · go_wp2_with fail
            refine (vNum HR7.out).mono ?_
            rintro e w8 ⟨rfl, b8⟩
            have d8 := (b8.cell (p := ⟨w.heap.size, 1, none⟩) (by exact some_lt (by rw [d1]; rfl))).trans d1
            have HR8 := Lib.hid (HR7.out.below b8)
            have HB8 := Lib.hid (bl_then HB7.out b8)
            clear b8
            go_wp2_with fail
            refine (vText x.n HR8.out).mono ?_
            rintro e w9 ⟨rfl, b9⟩
            have d9 := (b9.cell (p := ⟨w.heap.size, 1, none⟩) (by exact some_lt (by rw [d8]; rfl))).trans d8
            have HR9 := Lib.hid (HR8.out.below b9)
            have HB9 := Lib.hid (bl_then HB8.out b9)
            clear b9
            go_wp2_with fail
            refine (vBytes x.n HR9.out).mono ?_
            rintro e w10 ⟨rfl, b10⟩
            have HR10 := Lib.hid (HR9.out.below b10)
            have HB10 := Lib.hid (bl_then HB9.out b10)
            clear b10
            go_wp2_with fail
            refine (vHash HR10.out).mono ?_
            obtain ⟨ZH, hZH⟩ : ∃ Z, (u8s (List.replicate 32 0)).toArray = Z := ⟨_, rfl⟩
            have hnH := fun W => neqH W ZH hZH
            rw [hZH]
            clear hZH
            rintro e w11 ⟨rfl, b11⟩
            have HR11 := Lib.hid (HR10.out.below b11)
            have HB11 := Lib.hid (bl_then HB10.out b11)
            clear b11
            go_wp2_with fail
            refine (vKey HR11.out).mono ?_
            obtain ⟨ZK, hZK⟩ : ∃ Z, (u8s (List.replicate 4 0)).toArray = Z := ⟨_, rfl⟩
            have hnK := fun W => neqK W ZK hZK
            rw [hZK]
            clear hZK
            rintro e w12 ⟨rfl, b12⟩
            have HR12 := Lib.hid (HR11.out.below b12)
            have HB12 := Lib.hid (bl_then HB11.out b12)
            clear b12
            go_wp2_with fail
            refine (vWord HR12.out).mono ?_
            rintro e w13 ⟨rfl, b13⟩
            have HR13 := Lib.hid (HR12.out.below b13)
            have HB13 := Lib.hid (bl_then HB12.out b13)
            clear b13
            go_wp2_with fail
            refine (vPace HR13.out).mono ?_
            rintro e w14 ⟨rfl, b14⟩
            have HR14 := Lib.hid (HR13.out.below b14)
            have HB14 := Lib.hid (bl_then HB13.out b14)
            clear b14
            go_wp2_with fail
            refine (vBool HR14.out).mono ?_
            rintro e w15 ⟨rfl, b15⟩
            have HR15 := Lib.hid (HR14.out.below b15)
            have HB15 := Lib.hid (bl_then HB14.out b15)
            clear b15
            go_wp2_with fail
            refine (vRest HR15.out).mono ?_
            rintro e w16 ⟨rfl, b16⟩
            have HR16 := Lib.hid (HR15.out.below b16)
            have HB16 := Lib.hid (bl_then HB15.out b16)
            clear b16
            go_wp2_with fail
            refine (vEnd HR16.out).mono ?_
            rintro e w17 ⟨rfl, b17⟩
            have HB17 := Lib.hid (bl_then HB16.out b17)
            clear b17
            go_wp2_with fail
            go_roundw
            case rel => exact ⟨0 + 1, by omega, rfl, HB17.out⟩
            case measure => simp [intOf]
      · have HQW := Lib.hid (show UnW wr (.pointer (some ⟨w.heap.size + 1, 0, none⟩)) from .inr ⟨_, rfl, kb_below HB.out HF1.out⟩)
        have HQR := Lib.hid (show UnR wr (.pointer (some ⟨w.heap.size + 1 + 1 + 1, 0, none⟩)) from .inr ⟨_, rfl, kb_below HB.out HF3.out⟩)
        have d2 := kb_cell (kb_below HB.out HF2.out) 1
        have d4 := kb_cell (kb_below HB.out HF4.out) 1
        simp at d2 d4
        go_wp2_with fail
        refine wp_region_held_drew (S := (fun W : World => W.cell? ⟨w.heap.size + 1 + 1, 1, none⟩ = some (.pointer (some ⟨w.heap.size + 1, 0, none⟩)) ∧ W.cell? ⟨w.heap.size + 1 + 1 + 1 + 1, 1, none⟩ = some (.pointer (some ⟨w.heap.size + 1 + 1 + 1, 0, none⟩)))) (by kernel_rfl) ⟨d2, d4⟩ (fun hHeld => ?_)
        refine wpAnyH_take (i := 0) (oi := { dst := some 25, op := _, type := _, pos := _, after := _, guard := _ }) (v := ?_) rfl (by kernel_rfl) (by kernel_rfl) (by kernel_rfl) (fun _ _ _ h => h) (Or.inl ⟨by rfl, ?_⟩) hHeld ?_
        rotate_left
        · (intro w hSw; (try dsimp only at hSw); go_simp); all_goals with_reducible rfl
        try simp only [Act.put, List.setIfInBounds_toArray, List.set_cons_zero, List.set_cons_succ]
        refine wpAnyH_take (i := 1) (oi := { dst := some 26, op := _, type := _, pos := _, after := _, guard := _ }) (v := ?_) rfl (by kernel_rfl) (by kernel_rfl) (by kernel_rfl) (fun _ _ _ h => h) (Or.inl ⟨by rfl, ?_⟩) hHeld ?_
        rotate_left
        · (intro w hSw; (try dsimp only at hSw); go_simp); all_goals with_reducible rfl
        try simp only [Act.put, List.setIfInBounds_toArray, List.set_cons_zero, List.set_cons_succ]
        refine wpAnyH_take (i := 2) (oi := { dst := some 27, op := _, type := _, pos := _, after := _, guard := _ }) (v := ?_) rfl (by kernel_rfl) (by kernel_rfl) (by kernel_rfl) (fun _ _ _ h => h) (Or.inl ⟨by rfl, ?_⟩) hHeld ?_
        rotate_left
        · (intro w hSw; (try dsimp only at hSw); go_simp); all_goals with_reducible rfl
        try simp only [Act.put, List.setIfInBounds_toArray, List.set_cons_zero, List.set_cons_succ]
        refine wpAnyH_take (i := 3) (oi := { dst := some 28, op := _, type := _, pos := _, after := _, guard := _ }) (v := ?_) rfl (by kernel_rfl) (by kernel_rfl) (by kernel_rfl) (fun _ _ _ h => h) (Or.inl ⟨by rfl, ?_⟩) hHeld ?_
        rotate_left
        · (intro w hSw; (try dsimp only at hSw); go_simp); all_goals with_reducible rfl
        try simp only [Act.put, List.setIfInBounds_toArray, List.set_cons_zero, List.set_cons_succ]
        refine wpAnyH_take (i := 4) (oi := { dst := some 29, op := _, type := _, pos := _, after := _, guard := _ }) (v := ?_) rfl (by kernel_rfl) (by kernel_rfl) (by kernel_rfl) (fun _ _ _ h => h) (Or.inl ⟨by rfl, ?_⟩) hHeld ?_
        rotate_left
        · (intro w hSw; (try dsimp only at hSw); go_simp); all_goals with_reducible rfl
        try simp only [Act.put, List.setIfInBounds_toArray, List.set_cons_zero, List.set_cons_succ]
        refine wpAnyH_take (i := 5) (oi := { dst := some 30, op := _, type := _, pos := _, after := _, guard := _ }) (v := ?_) rfl (by kernel_rfl) (by kernel_rfl) (by kernel_rfl) (fun _ _ _ h => h) (Or.inl ⟨by rfl, ?_⟩) hHeld ?_
        rotate_left
        · (intro w hSw; (try dsimp only at hSw); go_simp); all_goals with_reducible rfl
        try simp only [Act.put, List.setIfInBounds_toArray, List.set_cons_zero, List.set_cons_succ]
        refine wpAnyH_take (i := 6) (oi := { dst := some 31, op := _, type := _, pos := _, after := _, guard := _ }) (v := ?_) rfl (by kernel_rfl) (by kernel_rfl) (by kernel_rfl) (fun _ _ _ h => h) (Or.inl ⟨by rfl, ?_⟩) hHeld ?_
        rotate_left
        · (intro w hSw; (try dsimp only at hSw); go_simp); all_goals with_reducible rfl
        try simp only [Act.put, List.setIfInBounds_toArray, List.set_cons_zero, List.set_cons_succ]
        refine wpAnyH_take (i := 7) (oi := { dst := some 32, op := _, type := _, pos := _, after := _, guard := _ }) (v := ?_) rfl (by kernel_rfl) (by kernel_rfl) (by kernel_rfl) (fun _ _ _ h => h) (Or.inl ⟨by rfl, ?_⟩) hHeld ?_
        rotate_left
        · (intro w hSw; (try dsimp only at hSw); go_simp); all_goals with_reducible rfl
        try simp only [Act.put, List.setIfInBounds_toArray, List.set_cons_zero, List.set_cons_succ]
        refine wpAnyH_take (i := 8) (oi := { dst := some 6, op := _, type := _, pos := _, after := _, guard := _ }) (v := ?_) rfl (by kernel_rfl) (by kernel_rfl) (by kernel_rfl) (fun _ _ _ h => h) (Or.inl ⟨by rfl, ?_⟩) hHeld ?_
        rotate_left
        · (intro w hSw; (try dsimp only at hSw); go_simp); all_goals with_reducible rfl
        try simp only [Act.put, List.setIfInBounds_toArray, List.set_cons_zero, List.set_cons_succ]
        refine wpAnyH_take (i := 9) (oi := { dst := some 7, op := _, type := _, pos := _, after := _, guard := _ }) (v := ?_) rfl (by kernel_rfl) (by kernel_rfl) (by kernel_rfl) (fun _ _ _ h => h) (Or.inl ⟨by rfl, ?_⟩) hHeld ?_
        rotate_left
        · (intro w hSw; (try dsimp only at hSw); go_simp); all_goals with_reducible rfl
        try simp only [Act.put, List.setIfInBounds_toArray, List.set_cons_zero, List.set_cons_succ]
        refine wpAnyH_done (by kernel_rfl) ?_ _
        have bD : Below wr.heap.size wr wr.drew := bl_drew (Below.refl _ _)
        have HW1 := Lib.hid (HQW.out.below bD)
        have HR1 := Lib.hid (HQR.out.below bD)
        have HB1' := Lib.hid (bl_then HB.out bD)
        clear bD hHeld d2 d4
        go_wp2_with fail
        refine (uDone HW1.out).mono ?_
        rintro e w6 ⟨rfl, b6⟩
        have HW6 := Lib.hid (HW1.out.below b6)
        have HR6 := Lib.hid (HR1.out.below b6)
        have HB6 := Lib.hid (bl_then HB1'.out b6)
        clear b6
        have D6 := kb_below HB6.out HF0.out
        have e0 : w6.cell? ⟨w.heap.size, 0, none⟩ = some (.int .i64 x.kind) := by rw [kb_cell D6, ← HT.out]; rfl
        have e1 : w6.cell? ⟨w.heap.size, 1, none⟩ = some (.int .i64 x.n) := by rw [kb_cell D6, ← HT.out]; rfl
        have HE1 := Lib.hid e1
        have HRG := Lib.hid (show w6.rangeAt w.heap.size 0 (x.cells (.slice A x.b.length cp)) from range_of_kb (by rw [HT.out]; exact D6))
        have HV6 := Lib.hid (HV5.out.below HB6.out)
        clear D6
        by_cases hkn : 0 ≤ x.kind ∧ x.kind ≤ 7
        · have g1 : decide (0 ≤ x.kind) = true := decide_eq_true hkn.1
          have g2 : decide (x.kind ≤ 7) = true := decide_eq_true hkn.2
          have HKN := Lib.hid hkn
          clear hkn
          go_wp2_with (with_reducible refine wpList_load_want 39 _ rfl (by kernel_rfl) w.heap.size 0 rfl (x.cells (.slice A x.b.length cp)) _ HRG.out Try.underlying39 rfl (HI.out.trans (congrArg some hcl.symm)) ?_)
          refine (putsU_any hfine.out HV6.out HW6.out HKN.out).mono ?_
          rintro e w7 ⟨rfl, b7⟩
          have d1 := (b7.cell (p := ⟨w.heap.size, 1, none⟩) (by exact some_lt (by rw [e1]; rfl))).trans e1
          have HR7 := Lib.hid (HR6.out.below b7)
          have HB7 := Lib.hid (bl_then HB6.out b7)
          clear b7 e0 e1
          go_wp2_with fail
          refine (vNum HR7.out).mono ?_
          rintro e w8 ⟨rfl, b8⟩
          have d8 := (b8.cell (p := ⟨w.heap.size, 1, none⟩) (by exact some_lt (by rw [d1]; rfl))).trans d1
          have HR8 := Lib.hid (HR7.out.below b8)
          have HB8 := Lib.hid (bl_then HB7.out b8)
          clear b8
          go_wp2_with fail
          refine (vText x.n HR8.out).mono ?_
          rintro e w9 ⟨rfl, b9⟩
          have d9 := (b9.cell (p := ⟨w.heap.size, 1, none⟩) (by exact some_lt (by rw [d8]; rfl))).trans d8
          have HR9 := Lib.hid (HR8.out.below b9)
          have HB9 := Lib.hid (bl_then HB8.out b9)
          clear b9
          go_wp2_with fail
          refine (vBytes x.n HR9.out).mono ?_
          rintro e w10 ⟨rfl, b10⟩
          have HR10 := Lib.hid (HR9.out.below b10)
          have HB10 := Lib.hid (bl_then HB9.out b10)
          clear b10
          go_wp2_with fail
          refine (vHash HR10.out).mono ?_
          obtain ⟨ZH, hZH⟩ : ∃ Z, (u8s (List.replicate 32 0)).toArray = Z := ⟨_, rfl⟩
          have hnH := fun W => neqH W ZH hZH
          rw [hZH]
          clear hZH
          rintro e w11 ⟨rfl, b11⟩
          have HR11 := Lib.hid (HR10.out.below b11)
          have HB11 := Lib.hid (bl_then HB10.out b11)
          clear b11
          go_wp2_with fail
          refine (vKey HR11.out).mono ?_
          obtain ⟨ZK, hZK⟩ : ∃ Z, (u8s (List.replicate 4 0)).toArray = Z := ⟨_, rfl⟩
          have hnK := fun W => neqK W ZK hZK
          rw [hZK]
          clear hZK
          rintro e w12 ⟨rfl, b12⟩
          have HR12 := Lib.hid (HR11.out.below b12)
          have HB12 := Lib.hid (bl_then HB11.out b12)
          clear b12
          go_wp2_with fail
          refine (vWord HR12.out).mono ?_
          rintro e w13 ⟨rfl, b13⟩
          have HR13 := Lib.hid (HR12.out.below b13)
          have HB13 := Lib.hid (bl_then HB12.out b13)
          clear b13
          go_wp2_with fail
          refine (vPace HR13.out).mono ?_
          rintro e w14 ⟨rfl, b14⟩
          have HR14 := Lib.hid (HR13.out.below b14)
          have HB14 := Lib.hid (bl_then HB13.out b14)
          clear b14
          go_wp2_with fail
          refine (vBool HR14.out).mono ?_
          rintro e w15 ⟨rfl, b15⟩
          have HR15 := Lib.hid (HR14.out.below b15)
          have HB15 := Lib.hid (bl_then HB14.out b15)
          clear b15
          go_wp2_with fail
          refine (vRest HR15.out).mono ?_
          rintro e w16 ⟨rfl, b16⟩
          have HR16 := Lib.hid (HR15.out.below b16)
          have HB16 := Lib.hid (bl_then HB15.out b16)
          clear b16
          go_wp2_with fail
          refine (vEnd HR16.out).mono ?_
          rintro e w17 ⟨rfl, b17⟩
          have HB17 := Lib.hid (bl_then HB16.out b17)
          clear b17
          go_wp2_with fail
          go_roundw
          case rel => exact ⟨1 + 1, by omega, rfl, HB17.out⟩
          case measure => simp [intOf]
        · have g12 : decide (0 ≤ x.kind) = false ∨ (decide (0 ≤ x.kind) = true ∧ decide (x.kind ≤ 7) = false) := by
            by_cases h0 : 0 ≤ x.kind
            · exact .inr ⟨decide_eq_true h0, decide_eq_false (fun h => hkn ⟨h0, h⟩)⟩
            · exact .inl (decide_eq_false h0)
          clear hkn
          have HR7 := HR6
          have HB7 := HB6
          have d1 := e1
          generalize hw7 : w6 = w7 at *
          rcases g12 with g1 | ⟨g1, g2⟩
          · go_wp2_with fail
            refine (vNum HR7.out).mono ?_
            rintro e w8 ⟨rfl, b8⟩
            have d8 := (b8.cell (p := ⟨w.heap.size, 1, none⟩) (by exact some_lt (by rw [d1]; rfl))).trans d1
            have HR8 := Lib.hid (HR7.out.below b8)
            have HB8 := Lib.hid (bl_then HB7.out b8)
            clear b8
            go_wp2_with fail
            refine (vText x.n HR8.out).mono ?_
            rintro e w9 ⟨rfl, b9⟩
            have d9 := (b9.cell (p := ⟨w.heap.size, 1, none⟩) (by exact some_lt (by rw [d8]; rfl))).trans d8
            have HR9 := Lib.hid (HR8.out.below b9)
            have HB9 := Lib.hid (bl_then HB8.out b9)
            clear b9
            go_wp2_with fail
            refine (vBytes x.n HR9.out).mono ?_
            rintro e w10 ⟨rfl, b10⟩
            have HR10 := Lib.hid (HR9.out.below b10)
            have HB10 := Lib.hid (bl_then HB9.out b10)
            clear b10
            go_wp2_with fail
            refine (vHash HR10.out).mono ?_
            obtain ⟨ZH, hZH⟩ : ∃ Z, (u8s (List.replicate 32 0)).toArray = Z := ⟨_, rfl⟩
            have hnH := fun W => neqH W ZH hZH
            rw [hZH]
            clear hZH
            rintro e w11 ⟨rfl, b11⟩
            have HR11 := Lib.hid (HR10.out.below b11)
            have HB11 := Lib.hid (bl_then HB10.out b11)
            clear b11
            go_wp2_with fail
            refine (vKey HR11.out).mono ?_
            obtain ⟨ZK, hZK⟩ : ∃ Z, (u8s (List.replicate 4 0)).toArray = Z := ⟨_, rfl⟩
            have hnK := fun W => neqK W ZK hZK
            rw [hZK]
            clear hZK
            rintro e w12 ⟨rfl, b12⟩
            have HR12 := Lib.hid (HR11.out.below b12)
            have HB12 := Lib.hid (bl_then HB11.out b12)
            clear b12
            go_wp2_with fail
            refine (vWord HR12.out).mono ?_
            rintro e w13 ⟨rfl, b13⟩
            have HR13 := Lib.hid (HR12.out.below b13)
            have HB13 := Lib.hid (bl_then HB12.out b13)
            clear b13
            go_wp2_with fail
            refine (vPace HR13.out).mono ?_
            rintro e w14 ⟨rfl, b14⟩
            have HR14 := Lib.hid (HR13.out.below b14)
            have HB14 := Lib.hid (bl_then HB13.out b14)
            clear b14
            go_wp2_with fail
            refine (vBool HR14.out).mono ?_
            rintro e w15 ⟨rfl, b15⟩
            have HR15 := Lib.hid (HR14.out.below b15)
            have HB15 := Lib.hid (bl_then HB14.out b15)
            clear b15
            go_wp2_with fail
            refine (vRest HR15.out).mono ?_
            rintro e w16 ⟨rfl, b16⟩
            have HR16 := Lib.hid (HR15.out.below b16)
            have HB16 := Lib.hid (bl_then HB15.out b16)
            clear b16
            go_wp2_with fail
            refine (vEnd HR16.out).mono ?_
            rintro e w17 ⟨rfl, b17⟩
            have HB17 := Lib.hid (bl_then HB16.out b17)
            clear b17
            go_wp2_with fail
            go_roundw
            case rel => exact ⟨1 + 1, by omega, rfl, HB17.out⟩
            case measure => simp [intOf]
          · go_wp2_with fail
            refine (vNum HR7.out).mono ?_
            rintro e w8 ⟨rfl, b8⟩
            have d8 := (b8.cell (p := ⟨w.heap.size, 1, none⟩) (by exact some_lt (by rw [d1]; rfl))).trans d1
            have HR8 := Lib.hid (HR7.out.below b8)
            have HB8 := Lib.hid (bl_then HB7.out b8)
            clear b8
            go_wp2_with fail
            refine (vText x.n HR8.out).mono ?_
            rintro e w9 ⟨rfl, b9⟩
            have d9 := (b9.cell (p := ⟨w.heap.size, 1, none⟩) (by exact some_lt (by rw [d8]; rfl))).trans d8
            have HR9 := Lib.hid (HR8.out.below b9)
            have HB9 := Lib.hid (bl_then HB8.out b9)
            clear b9
            go_wp2_with fail
            refine (vBytes x.n HR9.out).mono ?_
            rintro e w10 ⟨rfl, b10⟩
            have HR10 := Lib.hid (HR9.out.below b10)
            have HB10 := Lib.hid (bl_then HB9.out b10)
            clear b10
            go_wp2_with fail
            refine (vHash HR10.out).mono ?_
            obtain ⟨ZH, hZH⟩ : ∃ Z, (u8s (List.replicate 32 0)).toArray = Z := ⟨_, rfl⟩
            have hnH := fun W => neqH W ZH hZH
            rw [hZH]
            clear hZH
            rintro e w11 ⟨rfl, b11⟩
            have HR11 := Lib.hid (HR10.out.below b11)
            have HB11 := Lib.hid (bl_then HB10.out b11)
            clear b11
            go_wp2_with fail
            refine (vKey HR11.out).mono ?_
            obtain ⟨ZK, hZK⟩ : ∃ Z, (u8s (List.replicate 4 0)).toArray = Z := ⟨_, rfl⟩
            have hnK := fun W => neqK W ZK hZK
            rw [hZK]
            clear hZK
            rintro e w12 ⟨rfl, b12⟩
            have HR12 := Lib.hid (HR11.out.below b12)
            have HB12 := Lib.hid (bl_then HB11.out b12)
            clear b12
            go_wp2_with fail
            refine (vWord HR12.out).mono ?_
            rintro e w13 ⟨rfl, b13⟩
            have HR13 := Lib.hid (HR12.out.below b13)
            have HB13 := Lib.hid (bl_then HB12.out b13)
            clear b13
            go_wp2_with fail
            refine (vPace HR13.out).mono ?_
            rintro e w14 ⟨rfl, b14⟩
            have HR14 := Lib.hid (HR13.out.below b14)
            have HB14 := Lib.hid (bl_then HB13.out b14)
            clear b14
            go_wp2_with fail
            refine (vBool HR14.out).mono ?_
            rintro e w15 ⟨rfl, b15⟩
            have HR15 := Lib.hid (HR14.out.below b15)
            have HB15 := Lib.hid (bl_then HB14.out b15)
            clear b15
            go_wp2_with fail
            refine (vRest HR15.out).mono ?_
            rintro e w16 ⟨rfl, b16⟩
            have HR16 := Lib.hid (HR15.out.below b16)
            have HB16 := Lib.hid (bl_then HB15.out b16)
            clear b16
            go_wp2_with fail
            refine (vEnd HR16.out).mono ?_
            rintro e w17 ⟨rfl, b17⟩
            have HB17 := Lib.hid (bl_then HB16.out b17)
            clear b17
            go_wp2_with fail
            go_roundw
            case rel => exact ⟨1 + 1, by omega, rfl, HB17.out⟩
            case measure => simp [intOf]
      · go_wp2_with fail
        refine (awake_yes _).mono ?_
        rintro e w1 ⟨rfl, b2⟩
        go_wp2_with fail
        go_ret
        exact ⟨rfl, bl_then (bl_then HB5.out HB.out) b2⟩
end Go.Proofs.Ytajlcodlaalomaa
