/- A thing of the laws of chapter 4; puts, ours. Printed by wip/things.py. -/
import Derived.Test.YtajlcodlaalomaaWire20
import Derived.Deep.MidRow
namespace Go.Proofs.Ytajlcodlaalomaa
open Go.RowKit Go.Proofs.Ytajlcodlaalomaa.Wi Go.Proofs.Ytajlcodlaalomaa.Pc
attribute [local go_sem] cell_alloc_some frozen_alloc_some
set_option linter.unusedSimpArgs false
set_option linter.unusedVariables false

/-- A thing. -/
structure Th where
  kind : Int
  n : Int
  b : List UInt8
  h : List UInt8
  k : List UInt8
  wd : Nat
  is : Bool
structure Th.Fine (x : Th) : Prop where
  n : x.n < 9223372036854775808
  b : x.b.length ≤ 1000000
  h : x.h.length = 32
  k : x.k.length = 4
  wd : x.wd < 18446744073709551616
def Th.cells (x : Th) (v : Value) : List Value := .int .i64 x.kind :: .int .i64 x.n :: v :: (u8s x.h ++ (u8s x.k ++ [.int .u64 x.wd, .bool x.is]))
theorem Th.cells_len {x : Th} (hx : x.Fine) (v : Value) : (x.cells v).length = 41 := by simp [Th.cells, u8s_len, hx.h, hx.k]
theorem Th.c0 (x : Th) (v : Value) : (x.cells v)[0]? = some (.int .i64 x.kind) := rfl
theorem Th.c1 (x : Th) (v : Value) : (x.cells v)[1]? = some (.int .i64 x.n) := rfl
theorem Th.c2 (x : Th) (v : Value) : (x.cells v)[2]? = some v := rfl
theorem Th.ch {x : Th} (hx : x.Fine) (v : Value) (j : Nat) (u : Value) (h : (u8s x.h)[j]? = some u) : (x.cells v)[3 + j]? = some u := by
  have hj : j < 32 := by have := (List.getElem?_eq_some_iff.1 h).1; rw [u8s_len, hx.h] at this; exact this
  rw [show 3 + j = j + 3 by omega]
  show (u8s x.h ++ _)[j]? = _
  rw [List.getElem?_append_left (by rw [u8s_len, hx.h]; exact hj)]
  exact h
theorem Th.ck {x : Th} (hx : x.Fine) (v : Value) (j : Nat) (u : Value) (h : (u8s x.k)[j]? = some u) : (x.cells v)[35 + j]? = some u := by
  have hj : j < 4 := by have := (List.getElem?_eq_some_iff.1 h).1; rw [u8s_len, hx.k] at this; exact this
  rw [show 35 + j = (32 + j) + 3 by omega]
  show (u8s x.h ++ _)[32 + j]? = _
  rw [List.getElem?_append_right (by rw [u8s_len, hx.h]; omega), u8s_len, hx.h, show 32 + j - 32 = j by omega, List.getElem?_append_left (by rw [u8s_len, hx.k]; exact hj)]
  exact h
theorem Th.c39 {x : Th} (hx : x.Fine) (v : Value) : (x.cells v)[39]? = some (.int .u64 x.wd) := by
  show (u8s x.h ++ _)[36]? = _
  rw [List.getElem?_append_right (by rw [u8s_len, hx.h]; omega), u8s_len, hx.h, List.getElem?_append_right (by rw [u8s_len, hx.k]; omega), u8s_len, hx.k]
  rfl
theorem Th.c40 {x : Th} (hx : x.Fine) (v : Value) : (x.cells v)[40]? = some (.bool x.is) := by
  show (u8s x.h ++ _)[37]? = _
  rw [List.getElem?_append_right (by rw [u8s_len, hx.h]; omega), u8s_len, hx.h, List.getElem?_append_right (by rw [u8s_len, hx.k]; omega), u8s_len, hx.k]
  rfl
theorem strB_size (l : List UInt8) : (strB l).size = l.length := by simp [strB, ByteArray.size]
theorem strB_list (l : List UInt8) : (strB l).data.toList = l := rfl

/-- May it be written, and in which form? -/
def Th.may (x : Th) : Bool := if x.kind = 0 then decide (0 ≤ x.n) else true
def Th.form (x : Th) : List UInt8 :=
  if x.kind = 0 then numL x.n.toNat else if x.kind = 1 then numL x.b.length ++ x.b else if x.kind = 2 then numL x.b.length ++ x.b else if x.kind = 3 then x.h
  else if x.kind = 4 then x.k else if x.kind = 5 then wrdL x.wd else if x.kind = 6 then wrdL (canon x.wd) else [if x.is then 1 else 0]
/-- What a writer answers, and has, behind a thing. -/
def ansT (lim : Int) (bs : List UInt8) (e : Int) (x : Th) : Int := if 0 ≤ x.kind ∧ x.kind ≤ 7 then (putS lim bs e x.may x.form).e else 0
def putT (lim : Int) (bs : List UInt8) (e : Int) (x : Th) : PutR := if 0 ≤ x.kind ∧ x.kind ≤ 7 then putS lim bs e x.may x.form else ⟨bs, e⟩
theorem kinds (x : Th) : x.kind = 0 ∨ x.kind = 1 ∨ x.kind = 2 ∨ x.kind = 3 ∨ x.kind = 4 ∨ x.kind = 5 ∨ x.kind = 6 ∨ x.kind = 7 ∨ ¬ (0 ≤ x.kind ∧ x.kind ≤ 7) := by omega
theorem arr_get {l : List Value} {i : Nat} {u : Value} (h : l[i]? = some u) : l.toArray[i]? = some u := by simpa using h
theorem box_cells {w : World} {x : Th} (hx : x.Fine) (v : Value) {t : TypeId} : (w.alloc (.cells (x.cells v).toArray t)).rangeAt w.heap.size 3 (u8s x.h) ∧ (w.alloc (.cells (x.cells v).toArray t)).rangeAt w.heap.size 35 (u8s x.k) := by
  have c := kb_cell (kb_new (w := w) rfl (.cells (x.cells v).toArray t))
  exact ⟨fun j u h => (c _).trans (arr_get (Th.ch hx v j u h)), fun j u h => (c _).trans (arr_get (Th.ck hx v j u h))⟩
theorem infoH : (Try.prog.info? 34).map (·.size) = some 32 := by kernel_rfl
theorem infoK : (Try.prog.info? 36).map (·.size) = some 4 := by kernel_rfl

/-- What 'puts' answers. -/
def PutsT (w : World) (B p : Nat) (lim e : Int) (bs : List UInt8) (s : Value) (x : Th) (e1 : Ending) (w' : World) : Prop :=
  e1 = .returned (.int .i64 (ansT lim bs e x)) ∧ WrTo w w' B p lim s (putT lim bs e x).bs (putT lim bs e x).e

set_option maxRecDepth 100000 in
set_option maxHeartbeats 1000000 in
theorem puts_0 {w : World} {B p : Nat} {lim e : Int} {bs : List UInt8} {s v : Value} {x : Th} (hx : x.Fine) (hv : BytesOf w v x.b) (F : Wr w B p lim bs e s) (hk : x.kind = 0) :
    Calls Try.prog 14 #[.pointer (some ⟨p, 0, none⟩), .agg (x.cells v).toArray] w (Puts w B p lim e bs s (decide (0 ≤ x.n)) (numL x.n.toNat)) := by
  have b1 : Below w.heap.size w (w.alloc (.cells (x.cells v).toArray 39)) := bl_alloc (Below.refl _ _) _
  have F1 := F.below b1
  have hV1 := hv.below b1
  have hsz := Th.cells_len hx v
  have hxh := hx.h
  have hxk := hx.k
  have C := kb_cell (kb_new (w := w) rfl (.cells (x.cells v).toArray 39))
  have c0 := (C 0).trans (arr_get (Th.c0 x v))
  have c1 := (C 1).trans (arr_get (Th.c1 x v))
  have c2 := (C 2).trans (arr_get (Th.c2 x v))
  have c39 := (C 39).trans (arr_get (Th.c39 hx v))
  have c40 := (C 40).trans (arr_get (Th.c40 hx v))
  obtain ⟨hrh, hrk⟩ := box_cells (w := w) hx v (t := 39)
  have hrH := Lib.hid hrh
  have hrK := Lib.hid hrk
  rw [hk] at c0
  have HC := Lib.hid (wNum_any x.n hx.n F1)
  obtain ⟨A, cp, rfl⟩ := hv.form
  clear hrh hrk C hV1 F1 hv F
  have B1 := Lib.hid b1
  clear b1
  have hsz' : (x.cells (.slice A x.b.length cp)).toArray.size = 41 := by simpa using hsz
  generalize (x.cells (.slice A x.b.length cp)).toArray = T at *
  skip
  · go_enter Try.func14, Try.ntmps14
    go_wp2_with fail
    refine HC.out.mono ?_
    rintro e2 w2 hP
    skip
    obtain ⟨rfl, hW⟩ := hP
    go_wp2_with fail
    go_ret
    exact ⟨rfl, WrTo.after B1.out hW⟩

set_option maxRecDepth 100000 in
set_option maxHeartbeats 1000000 in
theorem puts_1 {w : World} {B p : Nat} {lim e : Int} {bs : List UInt8} {s v : Value} {x : Th} (hx : x.Fine) (hv : BytesOf w v x.b) (F : Wr w B p lim bs e s) (hk : x.kind = 1) :
    Calls Try.prog 14 #[.pointer (some ⟨p, 0, none⟩), .agg (x.cells v).toArray] w (Puts w B p lim e bs s true (numL x.b.length ++ x.b)) := by
  have b1 : Below w.heap.size w (w.alloc (.cells (x.cells v).toArray 39)) := bl_alloc (Below.refl _ _) _
  have F1 := F.below b1
  have hV1 := hv.below b1
  have hsz := Th.cells_len hx v
  have hxh := hx.h
  have hxk := hx.k
  have C := kb_cell (kb_new (w := w) rfl (.cells (x.cells v).toArray 39))
  have c0 := (C 0).trans (arr_get (Th.c0 x v))
  have c1 := (C 1).trans (arr_get (Th.c1 x v))
  have c2 := (C 2).trans (arr_get (Th.c2 x v))
  have c39 := (C 39).trans (arr_get (Th.c39 hx v))
  have c40 := (C 40).trans (arr_get (Th.c40 hx v))
  obtain ⟨hrh, hrk⟩ := box_cells (w := w) hx v (t := 39)
  have hrH := Lib.hid hrh
  have hrK := Lib.hid hrk
  have hc := run_conv hV1
  have hcc : (w.alloc (.cells (x.cells v).toArray 39)).cell? ⟨w.heap.size, 2, none⟩ = some v := c2
  rw [hk] at c0
  have HC := Lib.hid (wText_any (strB x.b) (by rw [strB_size]; exact hx.b) F1)
  obtain ⟨A, cp, rfl⟩ := hv.form
  clear hrh hrk C hV1 F1 hv F
  have B1 := Lib.hid b1
  clear b1
  have hsz' : (x.cells (.slice A x.b.length cp)).toArray.size = 41 := by simpa using hsz
  generalize (x.cells (.slice A x.b.length cp)).toArray = T at *
  skip
  · go_enter Try.func14, Try.ntmps14
    go_wp2_with fail
    refine HC.out.mono ?_
    rintro e2 w2 hP
    rw [strB_size, strB_list] at hP
    obtain ⟨rfl, hW⟩ := hP
    go_wp2_with fail
    go_ret
    exact ⟨rfl, WrTo.after B1.out hW⟩

set_option maxRecDepth 100000 in
set_option maxHeartbeats 1000000 in
theorem puts_2 {w : World} {B p : Nat} {lim e : Int} {bs : List UInt8} {s v : Value} {x : Th} (hx : x.Fine) (hv : BytesOf w v x.b) (F : Wr w B p lim bs e s) (hk : x.kind = 2) :
    Calls Try.prog 14 #[.pointer (some ⟨p, 0, none⟩), .agg (x.cells v).toArray] w (Puts w B p lim e bs s true (numL x.b.length ++ x.b)) := by
  have b1 : Below w.heap.size w (w.alloc (.cells (x.cells v).toArray 39)) := bl_alloc (Below.refl _ _) _
  have F1 := F.below b1
  have hV1 := hv.below b1
  have hsz := Th.cells_len hx v
  have hxh := hx.h
  have hxk := hx.k
  have C := kb_cell (kb_new (w := w) rfl (.cells (x.cells v).toArray 39))
  have c0 := (C 0).trans (arr_get (Th.c0 x v))
  have c1 := (C 1).trans (arr_get (Th.c1 x v))
  have c2 := (C 2).trans (arr_get (Th.c2 x v))
  have c39 := (C 39).trans (arr_get (Th.c39 hx v))
  have c40 := (C 40).trans (arr_get (Th.c40 hx v))
  obtain ⟨hrh, hrk⟩ := box_cells (w := w) hx v (t := 39)
  have hrH := Lib.hid hrh
  have hrK := Lib.hid hrk
  rw [hk] at c0
  have HC := Lib.hid (wBytes_any hV1 hx.b F1)
  obtain ⟨A, cp, rfl⟩ := hv.form
  clear hrh hrk C hV1 F1 hv F
  have B1 := Lib.hid b1
  clear b1
  have hsz' : (x.cells (.slice A x.b.length cp)).toArray.size = 41 := by simpa using hsz
  generalize (x.cells (.slice A x.b.length cp)).toArray = T at *
  skip
  · go_enter Try.func14, Try.ntmps14
    go_wp2_with fail
    refine HC.out.mono ?_
    rintro e2 w2 hP
    skip
    obtain ⟨rfl, hW⟩ := hP
    go_wp2_with fail
    go_ret
    exact ⟨rfl, WrTo.after B1.out hW⟩

set_option maxRecDepth 100000 in
set_option maxHeartbeats 1000000 in
theorem puts_3 {w : World} {B p : Nat} {lim e : Int} {bs : List UInt8} {s v : Value} {x : Th} (hx : x.Fine) (hv : BytesOf w v x.b) (F : Wr w B p lim bs e s) (hk : x.kind = 3) :
    Calls Try.prog 14 #[.pointer (some ⟨p, 0, none⟩), .agg (x.cells v).toArray] w (Puts w B p lim e bs s true x.h) := by
  have b1 : Below w.heap.size w (w.alloc (.cells (x.cells v).toArray 39)) := bl_alloc (Below.refl _ _) _
  have F1 := F.below b1
  have hV1 := hv.below b1
  have hsz := Th.cells_len hx v
  have hxh := hx.h
  have hxk := hx.k
  have C := kb_cell (kb_new (w := w) rfl (.cells (x.cells v).toArray 39))
  have c0 := (C 0).trans (arr_get (Th.c0 x v))
  have c1 := (C 1).trans (arr_get (Th.c1 x v))
  have c2 := (C 2).trans (arr_get (Th.c2 x v))
  have c39 := (C 39).trans (arr_get (Th.c39 hx v))
  have c40 := (C 40).trans (arr_get (Th.c40 hx v))
  obtain ⟨hrh, hrk⟩ := box_cells (w := w) hx v (t := 39)
  have hrH := Lib.hid hrh
  have hrK := Lib.hid hrk
  rw [hk] at c0
  have HC := Lib.hid (wHash_any x.h hx.h F1)
  obtain ⟨A, cp, rfl⟩ := hv.form
  clear hrh hrk C hV1 F1 hv F
  have B1 := Lib.hid b1
  clear b1
  have hsz' : (x.cells (.slice A x.b.length cp)).toArray.size = 41 := by simpa using hsz
  generalize (x.cells (.slice A x.b.length cp)).toArray = T at *
  skip
  · go_enter Try.func14, Try.ntmps14
    go_wp2_with (with_reducible refine wpList_load_mid rfl 34 _ rfl w.heap.size 3 rfl (u8s x.h) _ hrH.out Try.underlying34 rfl (by rw [u8s_len, hxh]; exact infoH) ?_)
    refine HC.out.mono ?_
    rintro e2 w2 hP
    skip
    obtain ⟨rfl, hW⟩ := hP
    go_wp2_with fail
    go_ret
    exact ⟨rfl, WrTo.after B1.out hW⟩

set_option maxRecDepth 100000 in
set_option maxHeartbeats 1000000 in
theorem puts_4 {w : World} {B p : Nat} {lim e : Int} {bs : List UInt8} {s v : Value} {x : Th} (hx : x.Fine) (hv : BytesOf w v x.b) (F : Wr w B p lim bs e s) (hk : x.kind = 4) :
    Calls Try.prog 14 #[.pointer (some ⟨p, 0, none⟩), .agg (x.cells v).toArray] w (Puts w B p lim e bs s true x.k) := by
  have b1 : Below w.heap.size w (w.alloc (.cells (x.cells v).toArray 39)) := bl_alloc (Below.refl _ _) _
  have F1 := F.below b1
  have hV1 := hv.below b1
  have hsz := Th.cells_len hx v
  have hxh := hx.h
  have hxk := hx.k
  have C := kb_cell (kb_new (w := w) rfl (.cells (x.cells v).toArray 39))
  have c0 := (C 0).trans (arr_get (Th.c0 x v))
  have c1 := (C 1).trans (arr_get (Th.c1 x v))
  have c2 := (C 2).trans (arr_get (Th.c2 x v))
  have c39 := (C 39).trans (arr_get (Th.c39 hx v))
  have c40 := (C 40).trans (arr_get (Th.c40 hx v))
  obtain ⟨hrh, hrk⟩ := box_cells (w := w) hx v (t := 39)
  have hrH := Lib.hid hrh
  have hrK := Lib.hid hrk
  rw [hk] at c0
  have HC := Lib.hid (wKey_any x.k hx.k F1)
  obtain ⟨A, cp, rfl⟩ := hv.form
  clear hrh hrk C hV1 F1 hv F
  have B1 := Lib.hid b1
  clear b1
  have hsz' : (x.cells (.slice A x.b.length cp)).toArray.size = 41 := by simpa using hsz
  generalize (x.cells (.slice A x.b.length cp)).toArray = T at *
  skip
  · go_enter Try.func14, Try.ntmps14
    go_wp2_with (with_reducible refine wpList_load_mid rfl 36 _ rfl w.heap.size 35 rfl (u8s x.k) _ hrK.out Try.underlying36 rfl (by rw [u8s_len, hxk]; exact infoK) ?_)
    refine HC.out.mono ?_
    rintro e2 w2 hP
    skip
    obtain ⟨rfl, hW⟩ := hP
    go_wp2_with fail
    go_ret
    exact ⟨rfl, WrTo.after B1.out hW⟩

set_option maxRecDepth 100000 in
set_option maxHeartbeats 1000000 in
theorem puts_5 {w : World} {B p : Nat} {lim e : Int} {bs : List UInt8} {s v : Value} {x : Th} (hx : x.Fine) (hv : BytesOf w v x.b) (F : Wr w B p lim bs e s) (hk : x.kind = 5) :
    Calls Try.prog 14 #[.pointer (some ⟨p, 0, none⟩), .agg (x.cells v).toArray] w (Puts w B p lim e bs s true (wrdL x.wd)) := by
  have b1 : Below w.heap.size w (w.alloc (.cells (x.cells v).toArray 39)) := bl_alloc (Below.refl _ _) _
  have F1 := F.below b1
  have hV1 := hv.below b1
  have hsz := Th.cells_len hx v
  have hxh := hx.h
  have hxk := hx.k
  have C := kb_cell (kb_new (w := w) rfl (.cells (x.cells v).toArray 39))
  have c0 := (C 0).trans (arr_get (Th.c0 x v))
  have c1 := (C 1).trans (arr_get (Th.c1 x v))
  have c2 := (C 2).trans (arr_get (Th.c2 x v))
  have c39 := (C 39).trans (arr_get (Th.c39 hx v))
  have c40 := (C 40).trans (arr_get (Th.c40 hx v))
  obtain ⟨hrh, hrk⟩ := box_cells (w := w) hx v (t := 39)
  have hrH := Lib.hid hrh
  have hrK := Lib.hid hrk
  rw [hk] at c0
  have HC := Lib.hid (wWord_any x.wd hx.wd F1)
  obtain ⟨A, cp, rfl⟩ := hv.form
  clear hrh hrk C hV1 F1 hv F
  have B1 := Lib.hid b1
  clear b1
  have hsz' : (x.cells (.slice A x.b.length cp)).toArray.size = 41 := by simpa using hsz
  generalize (x.cells (.slice A x.b.length cp)).toArray = T at *
  skip
  · go_enter Try.func14, Try.ntmps14
    go_wp2_with fail
    refine HC.out.mono ?_
    rintro e2 w2 hP
    skip
    obtain ⟨rfl, hW⟩ := hP
    go_wp2_with fail
    go_ret
    exact ⟨rfl, WrTo.after B1.out hW⟩

set_option maxRecDepth 100000 in
set_option maxHeartbeats 1000000 in
theorem puts_6 {w : World} {B p : Nat} {lim e : Int} {bs : List UInt8} {s v : Value} {x : Th} (hx : x.Fine) (hv : BytesOf w v x.b) (F : Wr w B p lim bs e s) (hk : x.kind = 6) :
    Calls Try.prog 14 #[.pointer (some ⟨p, 0, none⟩), .agg (x.cells v).toArray] w (Puts w B p lim e bs s true (wrdL (canon x.wd))) := by
  have b1 : Below w.heap.size w (w.alloc (.cells (x.cells v).toArray 39)) := bl_alloc (Below.refl _ _) _
  have F1 := F.below b1
  have hV1 := hv.below b1
  have hsz := Th.cells_len hx v
  have hxh := hx.h
  have hxk := hx.k
  have C := kb_cell (kb_new (w := w) rfl (.cells (x.cells v).toArray 39))
  have c0 := (C 0).trans (arr_get (Th.c0 x v))
  have c1 := (C 1).trans (arr_get (Th.c1 x v))
  have c2 := (C 2).trans (arr_get (Th.c2 x v))
  have c39 := (C 39).trans (arr_get (Th.c39 hx v))
  have c40 := (C 40).trans (arr_get (Th.c40 hx v))
  obtain ⟨hrh, hrk⟩ := box_cells (w := w) hx v (t := 39)
  have hrH := Lib.hid hrh
  have hrK := Lib.hid hrk
  have hr := fun W => run_from (x.wd : Int) W
  simp only [Int.toNat_natCast] at hr
  rw [hk] at c0
  have HC := Lib.hid (wPace_any x.wd hx.wd F1)
  obtain ⟨A, cp, rfl⟩ := hv.form
  clear hrh hrk C hV1 F1 hv F
  have B1 := Lib.hid b1
  clear b1
  have hsz' : (x.cells (.slice A x.b.length cp)).toArray.size = 41 := by simpa using hsz
  generalize (x.cells (.slice A x.b.length cp)).toArray = T at *
  skip
  · go_enter Try.func14, Try.ntmps14
    go_wp2_with fail
    refine HC.out.mono ?_
    rintro e2 w2 hP
    skip
    obtain ⟨rfl, hW⟩ := hP
    go_wp2_with fail
    go_ret
    exact ⟨rfl, WrTo.after B1.out hW⟩

set_option maxRecDepth 100000 in
set_option maxHeartbeats 1000000 in
theorem puts_7 {w : World} {B p : Nat} {lim e : Int} {bs : List UInt8} {s v : Value} {x : Th} (hx : x.Fine) (hv : BytesOf w v x.b) (F : Wr w B p lim bs e s) (hk : x.kind = 7) :
    Calls Try.prog 14 #[.pointer (some ⟨p, 0, none⟩), .agg (x.cells v).toArray] w (Puts w B p lim e bs s true [if x.is then 1 else 0]) := by
  have b1 : Below w.heap.size w (w.alloc (.cells (x.cells v).toArray 39)) := bl_alloc (Below.refl _ _) _
  have F1 := F.below b1
  have hV1 := hv.below b1
  have hsz := Th.cells_len hx v
  have hxh := hx.h
  have hxk := hx.k
  have C := kb_cell (kb_new (w := w) rfl (.cells (x.cells v).toArray 39))
  have c0 := (C 0).trans (arr_get (Th.c0 x v))
  have c1 := (C 1).trans (arr_get (Th.c1 x v))
  have c2 := (C 2).trans (arr_get (Th.c2 x v))
  have c39 := (C 39).trans (arr_get (Th.c39 hx v))
  have c40 := (C 40).trans (arr_get (Th.c40 hx v))
  obtain ⟨hrh, hrk⟩ := box_cells (w := w) hx v (t := 39)
  have hrH := Lib.hid hrh
  have hrK := Lib.hid hrk
  obtain ⟨bb, hbb⟩ : ∃ bb, x.is = bb := ⟨_, rfl⟩
  rw [hbb] at c40 ⊢
  clear hbb
  rw [hk] at c0
  have HC := Lib.hid (wBool_any bb F1)
  obtain ⟨A, cp, rfl⟩ := hv.form
  clear hrh hrk C hV1 F1 hv F
  have B1 := Lib.hid b1
  clear b1
  have hsz' : (x.cells (.slice A x.b.length cp)).toArray.size = 41 := by simpa using hsz
  generalize (x.cells (.slice A x.b.length cp)).toArray = T at *
  cases bb <;>
  · go_enter Try.func14, Try.ntmps14
    go_wp2_with fail
    refine HC.out.mono ?_
    rintro e2 w2 hP
    skip
    obtain ⟨rfl, hW⟩ := hP
    go_wp2_with fail
    go_ret
    exact ⟨rfl, WrTo.after B1.out hW⟩

set_option maxRecDepth 100000 in
set_option maxHeartbeats 1000000 in
theorem puts_none {w : World} {B p : Nat} {lim e : Int} {bs : List UInt8} {s v : Value} {x : Th} (hx : x.Fine) (F : Wr w B p lim bs e s) (hk : ¬ (0 ≤ x.kind ∧ x.kind ≤ 7)) :
    Calls Try.prog 14 #[.pointer (some ⟨p, 0, none⟩), .agg (x.cells v).toArray] w fun e1 w' => e1 = .returned (.int .i64 0) ∧ WrTo w w' B p lim s bs e := by
  have b1 : Below w.heap.size w (w.alloc (.cells (x.cells v).toArray 39)) := bl_alloc (Below.refl _ _) _
  have hsz := Th.cells_len hx v
  have C := kb_cell (kb_new (w := w) rfl (.cells (x.cells v).toArray 39))
  have c0 := (C 0).trans (arr_get (Th.c0 x v))
  obtain ⟨n, hn⟩ : ∃ n, x.kind = n := ⟨_, rfl⟩
  rw [hn] at c0 hk
  have k0 : (n == 0) = false := by simp; omega
  have k1 : (n == 1) = false := by simp; omega
  have k2 : (n == 2) = false := by simp; omega
  have k3 : (n == 3) = false := by simp; omega
  have k4 : (n == 4) = false := by simp; omega
  have k5 : (n == 5) = false := by simp; omega
  have k6 : (n == 6) = false := by simp; omega
  have k7 : (n == 7) = false := by simp; omega
  have HF := Lib.hid F
  have B1 := Lib.hid b1
  have hsz' : (x.cells v).toArray.size = 41 := by simpa using hsz
  clear b1 F C hk hn
  generalize (x.cells v).toArray = T at *
  go_enter Try.func14, Try.ntmps14
  go_wp2_with fail
  go_ret
  exact ⟨rfl, WrTo.same HF.out B1.out⟩

theorem puts_any {w : World} {B p : Nat} {lim e : Int} {bs : List UInt8} {s v : Value} {x : Th} (hx : x.Fine) (hv : BytesOf w v x.b) (F : Wr w B p lim bs e s) :
    Calls Try.prog 14 #[.pointer (some ⟨p, 0, none⟩), .agg (x.cells v).toArray] w (PutsT w B p lim e bs s x) := by
  unfold PutsT ansT putT Th.may Th.form
  rcases kinds x with h | h | h | h | h | h | h | h | h
  · refine (puts_0 hx hv F h).mono fun e1 w' hP => ?_
    unfold Puts at hP
    simpa [h] using hP
  · refine (puts_1 hx hv F h).mono fun e1 w' hP => ?_
    unfold Puts at hP
    simpa [h] using hP
  · refine (puts_2 hx hv F h).mono fun e1 w' hP => ?_
    unfold Puts at hP
    simpa [h] using hP
  · refine (puts_3 hx hv F h).mono fun e1 w' hP => ?_
    unfold Puts at hP
    simpa [h] using hP
  · refine (puts_4 hx hv F h).mono fun e1 w' hP => ?_
    unfold Puts at hP
    simpa [h] using hP
  · refine (puts_5 hx hv F h).mono fun e1 w' hP => ?_
    unfold Puts at hP
    simpa [h] using hP
  · refine (puts_6 hx hv F h).mono fun e1 w' hP => ?_
    unfold Puts at hP
    simpa [h] using hP
  · refine (puts_7 hx hv F h).mono fun e1 w' hP => ?_
    unfold Puts at hP
    simpa [h] using hP
  · simp only [if_neg h]
    exact puts_none hx F h

/-- What 'ours' answers. -/
def RPutsT (w : World) (B p : Nat) (lim e : Int) (bs : List UInt8) (s : Value) (x : Th) (e1 : Ending) (w' : World) : Prop :=
  e1 = .returned (.int .i64 (ansT lim bs e x)) ∧ RWrTo w w' B p lim s (putT lim bs e x).bs (putT lim bs e x).e

set_option maxRecDepth 100000 in
set_option maxHeartbeats 1000000 in
theorem ours_0 {w : World} {B p : Nat} {lim e : Int} {bs : List UInt8} {s v : Value} {x : Th} (hx : x.Fine) (hv : BytesOf w v x.b) (F : RWr w B p lim bs e s) (hk : x.kind = 0) :
    Calls Try.prog 15 #[.pointer (some ⟨p, 0, none⟩), .agg (x.cells v).toArray] w (RPuts w B p lim e bs s (decide (0 ≤ x.n)) (numL x.n.toNat)) := by
  have b1 : Below w.heap.size w (w.alloc (.cells (x.cells v).toArray 39)) := bl_alloc (Below.refl _ _) _
  have F1 := F.below b1
  have hV1 := hv.below b1
  have hsz := Th.cells_len hx v
  have hxh := hx.h
  have hxk := hx.k
  have C := kb_cell (kb_new (w := w) rfl (.cells (x.cells v).toArray 39))
  have c0 := (C 0).trans (arr_get (Th.c0 x v))
  have c1 := (C 1).trans (arr_get (Th.c1 x v))
  have c2 := (C 2).trans (arr_get (Th.c2 x v))
  have c39 := (C 39).trans (arr_get (Th.c39 hx v))
  have c40 := (C 40).trans (arr_get (Th.c40 hx v))
  obtain ⟨hrh, hrk⟩ := box_cells (w := w) hx v (t := 39)
  have hrH := Lib.hid hrh
  have hrK := Lib.hid hrk
  rw [hk] at c0
  have HC := Lib.hid (rwNum_any x.n hx.n F1)
  obtain ⟨A, cp, rfl⟩ := hv.form
  clear hrh hrk C hV1 F1 hv F
  have B1 := Lib.hid b1
  clear b1
  have hsz' : (x.cells (.slice A x.b.length cp)).toArray.size = 41 := by simpa using hsz
  generalize (x.cells (.slice A x.b.length cp)).toArray = T at *
  skip
  · go_enter Try.func15, Try.ntmps15
    go_wp2_with fail
    refine HC.out.mono ?_
    rintro e2 w2 hP
    skip
    obtain ⟨rfl, hW⟩ := hP
    go_wp2_with fail
    go_ret
    exact ⟨rfl, RWrTo.after B1.out hW⟩

set_option maxRecDepth 100000 in
set_option maxHeartbeats 1000000 in
theorem ours_1 {w : World} {B p : Nat} {lim e : Int} {bs : List UInt8} {s v : Value} {x : Th} (hx : x.Fine) (hv : BytesOf w v x.b) (F : RWr w B p lim bs e s) (hk : x.kind = 1) :
    Calls Try.prog 15 #[.pointer (some ⟨p, 0, none⟩), .agg (x.cells v).toArray] w (RPuts w B p lim e bs s true (numL x.b.length ++ x.b)) := by
  have b1 : Below w.heap.size w (w.alloc (.cells (x.cells v).toArray 39)) := bl_alloc (Below.refl _ _) _
  have F1 := F.below b1
  have hV1 := hv.below b1
  have hsz := Th.cells_len hx v
  have hxh := hx.h
  have hxk := hx.k
  have C := kb_cell (kb_new (w := w) rfl (.cells (x.cells v).toArray 39))
  have c0 := (C 0).trans (arr_get (Th.c0 x v))
  have c1 := (C 1).trans (arr_get (Th.c1 x v))
  have c2 := (C 2).trans (arr_get (Th.c2 x v))
  have c39 := (C 39).trans (arr_get (Th.c39 hx v))
  have c40 := (C 40).trans (arr_get (Th.c40 hx v))
  obtain ⟨hrh, hrk⟩ := box_cells (w := w) hx v (t := 39)
  have hrH := Lib.hid hrh
  have hrK := Lib.hid hrk
  have hc := run_conv hV1
  have hcc : (w.alloc (.cells (x.cells v).toArray 39)).cell? ⟨w.heap.size, 2, none⟩ = some v := c2
  rw [hk] at c0
  have HC := Lib.hid (rwText_any (strB x.b) (by rw [strB_size]; exact hx.b) F1)
  obtain ⟨A, cp, rfl⟩ := hv.form
  clear hrh hrk C hV1 F1 hv F
  have B1 := Lib.hid b1
  clear b1
  have hsz' : (x.cells (.slice A x.b.length cp)).toArray.size = 41 := by simpa using hsz
  generalize (x.cells (.slice A x.b.length cp)).toArray = T at *
  skip
  · go_enter Try.func15, Try.ntmps15
    go_wp2_with fail
    refine HC.out.mono ?_
    rintro e2 w2 hP
    rw [strB_size, strB_list] at hP
    obtain ⟨rfl, hW⟩ := hP
    go_wp2_with fail
    go_ret
    exact ⟨rfl, RWrTo.after B1.out hW⟩

set_option maxRecDepth 100000 in
set_option maxHeartbeats 1000000 in
theorem ours_2 {w : World} {B p : Nat} {lim e : Int} {bs : List UInt8} {s v : Value} {x : Th} (hx : x.Fine) (hv : BytesOf w v x.b) (F : RWr w B p lim bs e s) (hk : x.kind = 2) :
    Calls Try.prog 15 #[.pointer (some ⟨p, 0, none⟩), .agg (x.cells v).toArray] w (RPuts w B p lim e bs s true (numL x.b.length ++ x.b)) := by
  have b1 : Below w.heap.size w (w.alloc (.cells (x.cells v).toArray 39)) := bl_alloc (Below.refl _ _) _
  have F1 := F.below b1
  have hV1 := hv.below b1
  have hsz := Th.cells_len hx v
  have hxh := hx.h
  have hxk := hx.k
  have C := kb_cell (kb_new (w := w) rfl (.cells (x.cells v).toArray 39))
  have c0 := (C 0).trans (arr_get (Th.c0 x v))
  have c1 := (C 1).trans (arr_get (Th.c1 x v))
  have c2 := (C 2).trans (arr_get (Th.c2 x v))
  have c39 := (C 39).trans (arr_get (Th.c39 hx v))
  have c40 := (C 40).trans (arr_get (Th.c40 hx v))
  obtain ⟨hrh, hrk⟩ := box_cells (w := w) hx v (t := 39)
  have hrH := Lib.hid hrh
  have hrK := Lib.hid hrk
  rw [hk] at c0
  have HC := Lib.hid (rwBytes_any hV1 hx.b F1)
  obtain ⟨A, cp, rfl⟩ := hv.form
  clear hrh hrk C hV1 F1 hv F
  have B1 := Lib.hid b1
  clear b1
  have hsz' : (x.cells (.slice A x.b.length cp)).toArray.size = 41 := by simpa using hsz
  generalize (x.cells (.slice A x.b.length cp)).toArray = T at *
  skip
  · go_enter Try.func15, Try.ntmps15
    go_wp2_with fail
    refine HC.out.mono ?_
    rintro e2 w2 hP
    skip
    obtain ⟨rfl, hW⟩ := hP
    go_wp2_with fail
    go_ret
    exact ⟨rfl, RWrTo.after B1.out hW⟩

set_option maxRecDepth 100000 in
set_option maxHeartbeats 1000000 in
theorem ours_3 {w : World} {B p : Nat} {lim e : Int} {bs : List UInt8} {s v : Value} {x : Th} (hx : x.Fine) (hv : BytesOf w v x.b) (F : RWr w B p lim bs e s) (hk : x.kind = 3) :
    Calls Try.prog 15 #[.pointer (some ⟨p, 0, none⟩), .agg (x.cells v).toArray] w (RPuts w B p lim e bs s true x.h) := by
  have b1 : Below w.heap.size w (w.alloc (.cells (x.cells v).toArray 39)) := bl_alloc (Below.refl _ _) _
  have F1 := F.below b1
  have hV1 := hv.below b1
  have hsz := Th.cells_len hx v
  have hxh := hx.h
  have hxk := hx.k
  have C := kb_cell (kb_new (w := w) rfl (.cells (x.cells v).toArray 39))
  have c0 := (C 0).trans (arr_get (Th.c0 x v))
  have c1 := (C 1).trans (arr_get (Th.c1 x v))
  have c2 := (C 2).trans (arr_get (Th.c2 x v))
  have c39 := (C 39).trans (arr_get (Th.c39 hx v))
  have c40 := (C 40).trans (arr_get (Th.c40 hx v))
  obtain ⟨hrh, hrk⟩ := box_cells (w := w) hx v (t := 39)
  have hrH := Lib.hid hrh
  have hrK := Lib.hid hrk
  rw [hk] at c0
  have HC := Lib.hid (rwHash_any x.h hx.h F1)
  obtain ⟨A, cp, rfl⟩ := hv.form
  clear hrh hrk C hV1 F1 hv F
  have B1 := Lib.hid b1
  clear b1
  have hsz' : (x.cells (.slice A x.b.length cp)).toArray.size = 41 := by simpa using hsz
  generalize (x.cells (.slice A x.b.length cp)).toArray = T at *
  skip
  · go_enter Try.func15, Try.ntmps15
    go_wp2_with (with_reducible refine wpList_load_mid rfl 34 _ rfl w.heap.size 3 rfl (u8s x.h) _ hrH.out Try.underlying34 rfl (by rw [u8s_len, hxh]; exact infoH) ?_)
    refine HC.out.mono ?_
    rintro e2 w2 hP
    skip
    obtain ⟨rfl, hW⟩ := hP
    go_wp2_with fail
    go_ret
    exact ⟨rfl, RWrTo.after B1.out hW⟩

set_option maxRecDepth 100000 in
set_option maxHeartbeats 1000000 in
theorem ours_4 {w : World} {B p : Nat} {lim e : Int} {bs : List UInt8} {s v : Value} {x : Th} (hx : x.Fine) (hv : BytesOf w v x.b) (F : RWr w B p lim bs e s) (hk : x.kind = 4) :
    Calls Try.prog 15 #[.pointer (some ⟨p, 0, none⟩), .agg (x.cells v).toArray] w (RPuts w B p lim e bs s true x.k) := by
  have b1 : Below w.heap.size w (w.alloc (.cells (x.cells v).toArray 39)) := bl_alloc (Below.refl _ _) _
  have F1 := F.below b1
  have hV1 := hv.below b1
  have hsz := Th.cells_len hx v
  have hxh := hx.h
  have hxk := hx.k
  have C := kb_cell (kb_new (w := w) rfl (.cells (x.cells v).toArray 39))
  have c0 := (C 0).trans (arr_get (Th.c0 x v))
  have c1 := (C 1).trans (arr_get (Th.c1 x v))
  have c2 := (C 2).trans (arr_get (Th.c2 x v))
  have c39 := (C 39).trans (arr_get (Th.c39 hx v))
  have c40 := (C 40).trans (arr_get (Th.c40 hx v))
  obtain ⟨hrh, hrk⟩ := box_cells (w := w) hx v (t := 39)
  have hrH := Lib.hid hrh
  have hrK := Lib.hid hrk
  rw [hk] at c0
  have HC := Lib.hid (rwKey_any x.k hx.k F1)
  obtain ⟨A, cp, rfl⟩ := hv.form
  clear hrh hrk C hV1 F1 hv F
  have B1 := Lib.hid b1
  clear b1
  have hsz' : (x.cells (.slice A x.b.length cp)).toArray.size = 41 := by simpa using hsz
  generalize (x.cells (.slice A x.b.length cp)).toArray = T at *
  skip
  · go_enter Try.func15, Try.ntmps15
    go_wp2_with (with_reducible refine wpList_load_mid rfl 36 _ rfl w.heap.size 35 rfl (u8s x.k) _ hrK.out Try.underlying36 rfl (by rw [u8s_len, hxk]; exact infoK) ?_)
    refine HC.out.mono ?_
    rintro e2 w2 hP
    skip
    obtain ⟨rfl, hW⟩ := hP
    go_wp2_with fail
    go_ret
    exact ⟨rfl, RWrTo.after B1.out hW⟩

set_option maxRecDepth 100000 in
set_option maxHeartbeats 1000000 in
theorem ours_5 {w : World} {B p : Nat} {lim e : Int} {bs : List UInt8} {s v : Value} {x : Th} (hx : x.Fine) (hv : BytesOf w v x.b) (F : RWr w B p lim bs e s) (hk : x.kind = 5) :
    Calls Try.prog 15 #[.pointer (some ⟨p, 0, none⟩), .agg (x.cells v).toArray] w (RPuts w B p lim e bs s true (wrdL x.wd)) := by
  have b1 : Below w.heap.size w (w.alloc (.cells (x.cells v).toArray 39)) := bl_alloc (Below.refl _ _) _
  have F1 := F.below b1
  have hV1 := hv.below b1
  have hsz := Th.cells_len hx v
  have hxh := hx.h
  have hxk := hx.k
  have C := kb_cell (kb_new (w := w) rfl (.cells (x.cells v).toArray 39))
  have c0 := (C 0).trans (arr_get (Th.c0 x v))
  have c1 := (C 1).trans (arr_get (Th.c1 x v))
  have c2 := (C 2).trans (arr_get (Th.c2 x v))
  have c39 := (C 39).trans (arr_get (Th.c39 hx v))
  have c40 := (C 40).trans (arr_get (Th.c40 hx v))
  obtain ⟨hrh, hrk⟩ := box_cells (w := w) hx v (t := 39)
  have hrH := Lib.hid hrh
  have hrK := Lib.hid hrk
  rw [hk] at c0
  have HC := Lib.hid (rwWord_any x.wd hx.wd F1)
  obtain ⟨A, cp, rfl⟩ := hv.form
  clear hrh hrk C hV1 F1 hv F
  have B1 := Lib.hid b1
  clear b1
  have hsz' : (x.cells (.slice A x.b.length cp)).toArray.size = 41 := by simpa using hsz
  generalize (x.cells (.slice A x.b.length cp)).toArray = T at *
  skip
  · go_enter Try.func15, Try.ntmps15
    go_wp2_with fail
    refine HC.out.mono ?_
    rintro e2 w2 hP
    skip
    obtain ⟨rfl, hW⟩ := hP
    go_wp2_with fail
    go_ret
    exact ⟨rfl, RWrTo.after B1.out hW⟩

set_option maxRecDepth 100000 in
set_option maxHeartbeats 1000000 in
theorem ours_6 {w : World} {B p : Nat} {lim e : Int} {bs : List UInt8} {s v : Value} {x : Th} (hx : x.Fine) (hv : BytesOf w v x.b) (F : RWr w B p lim bs e s) (hk : x.kind = 6) :
    Calls Try.prog 15 #[.pointer (some ⟨p, 0, none⟩), .agg (x.cells v).toArray] w (RPuts w B p lim e bs s true (wrdL (canon x.wd))) := by
  have b1 : Below w.heap.size w (w.alloc (.cells (x.cells v).toArray 39)) := bl_alloc (Below.refl _ _) _
  have F1 := F.below b1
  have hV1 := hv.below b1
  have hsz := Th.cells_len hx v
  have hxh := hx.h
  have hxk := hx.k
  have C := kb_cell (kb_new (w := w) rfl (.cells (x.cells v).toArray 39))
  have c0 := (C 0).trans (arr_get (Th.c0 x v))
  have c1 := (C 1).trans (arr_get (Th.c1 x v))
  have c2 := (C 2).trans (arr_get (Th.c2 x v))
  have c39 := (C 39).trans (arr_get (Th.c39 hx v))
  have c40 := (C 40).trans (arr_get (Th.c40 hx v))
  obtain ⟨hrh, hrk⟩ := box_cells (w := w) hx v (t := 39)
  have hrH := Lib.hid hrh
  have hrK := Lib.hid hrk
  have hr := fun W => run_from (x.wd : Int) W
  simp only [Int.toNat_natCast] at hr
  rw [hk] at c0
  have HC := Lib.hid (rwPace_any x.wd hx.wd F1)
  obtain ⟨A, cp, rfl⟩ := hv.form
  clear hrh hrk C hV1 F1 hv F
  have B1 := Lib.hid b1
  clear b1
  have hsz' : (x.cells (.slice A x.b.length cp)).toArray.size = 41 := by simpa using hsz
  generalize (x.cells (.slice A x.b.length cp)).toArray = T at *
  skip
  · go_enter Try.func15, Try.ntmps15
    go_wp2_with fail
    refine HC.out.mono ?_
    rintro e2 w2 hP
    skip
    obtain ⟨rfl, hW⟩ := hP
    go_wp2_with fail
    go_ret
    exact ⟨rfl, RWrTo.after B1.out hW⟩

set_option maxRecDepth 100000 in
set_option maxHeartbeats 1000000 in
theorem ours_7 {w : World} {B p : Nat} {lim e : Int} {bs : List UInt8} {s v : Value} {x : Th} (hx : x.Fine) (hv : BytesOf w v x.b) (F : RWr w B p lim bs e s) (hk : x.kind = 7) :
    Calls Try.prog 15 #[.pointer (some ⟨p, 0, none⟩), .agg (x.cells v).toArray] w (RPuts w B p lim e bs s true [if x.is then 1 else 0]) := by
  have b1 : Below w.heap.size w (w.alloc (.cells (x.cells v).toArray 39)) := bl_alloc (Below.refl _ _) _
  have F1 := F.below b1
  have hV1 := hv.below b1
  have hsz := Th.cells_len hx v
  have hxh := hx.h
  have hxk := hx.k
  have C := kb_cell (kb_new (w := w) rfl (.cells (x.cells v).toArray 39))
  have c0 := (C 0).trans (arr_get (Th.c0 x v))
  have c1 := (C 1).trans (arr_get (Th.c1 x v))
  have c2 := (C 2).trans (arr_get (Th.c2 x v))
  have c39 := (C 39).trans (arr_get (Th.c39 hx v))
  have c40 := (C 40).trans (arr_get (Th.c40 hx v))
  obtain ⟨hrh, hrk⟩ := box_cells (w := w) hx v (t := 39)
  have hrH := Lib.hid hrh
  have hrK := Lib.hid hrk
  obtain ⟨bb, hbb⟩ : ∃ bb, x.is = bb := ⟨_, rfl⟩
  rw [hbb] at c40 ⊢
  clear hbb
  rw [hk] at c0
  have HC := Lib.hid (rwBool_any bb F1)
  obtain ⟨A, cp, rfl⟩ := hv.form
  clear hrh hrk C hV1 F1 hv F
  have B1 := Lib.hid b1
  clear b1
  have hsz' : (x.cells (.slice A x.b.length cp)).toArray.size = 41 := by simpa using hsz
  generalize (x.cells (.slice A x.b.length cp)).toArray = T at *
  cases bb <;>
  · go_enter Try.func15, Try.ntmps15
    go_wp2_with fail
    refine HC.out.mono ?_
    rintro e2 w2 hP
    skip
    obtain ⟨rfl, hW⟩ := hP
    go_wp2_with fail
    go_ret
    exact ⟨rfl, RWrTo.after B1.out hW⟩

set_option maxRecDepth 100000 in
set_option maxHeartbeats 1000000 in
theorem ours_none {w : World} {B p : Nat} {lim e : Int} {bs : List UInt8} {s v : Value} {x : Th} (hx : x.Fine) (F : RWr w B p lim bs e s) (hk : ¬ (0 ≤ x.kind ∧ x.kind ≤ 7)) :
    Calls Try.prog 15 #[.pointer (some ⟨p, 0, none⟩), .agg (x.cells v).toArray] w fun e1 w' => e1 = .returned (.int .i64 0) ∧ RWrTo w w' B p lim s bs e := by
  have b1 : Below w.heap.size w (w.alloc (.cells (x.cells v).toArray 39)) := bl_alloc (Below.refl _ _) _
  have hsz := Th.cells_len hx v
  have C := kb_cell (kb_new (w := w) rfl (.cells (x.cells v).toArray 39))
  have c0 := (C 0).trans (arr_get (Th.c0 x v))
  obtain ⟨n, hn⟩ : ∃ n, x.kind = n := ⟨_, rfl⟩
  rw [hn] at c0 hk
  have k0 : (n == 0) = false := by simp; omega
  have k1 : (n == 1) = false := by simp; omega
  have k2 : (n == 2) = false := by simp; omega
  have k3 : (n == 3) = false := by simp; omega
  have k4 : (n == 4) = false := by simp; omega
  have k5 : (n == 5) = false := by simp; omega
  have k6 : (n == 6) = false := by simp; omega
  have k7 : (n == 7) = false := by simp; omega
  have HF := Lib.hid F
  have B1 := Lib.hid b1
  have hsz' : (x.cells v).toArray.size = 41 := by simpa using hsz
  clear b1 F C hk hn
  generalize (x.cells v).toArray = T at *
  go_enter Try.func15, Try.ntmps15
  go_wp2_with fail
  go_ret
  exact ⟨rfl, RWrTo.same HF.out B1.out⟩

theorem ours_any {w : World} {B p : Nat} {lim e : Int} {bs : List UInt8} {s v : Value} {x : Th} (hx : x.Fine) (hv : BytesOf w v x.b) (F : RWr w B p lim bs e s) :
    Calls Try.prog 15 #[.pointer (some ⟨p, 0, none⟩), .agg (x.cells v).toArray] w (RPutsT w B p lim e bs s x) := by
  unfold RPutsT ansT putT Th.may Th.form
  rcases kinds x with h | h | h | h | h | h | h | h | h
  · refine (ours_0 hx hv F h).mono fun e1 w' hP => ?_
    unfold RPuts at hP
    simpa [h] using hP
  · refine (ours_1 hx hv F h).mono fun e1 w' hP => ?_
    unfold RPuts at hP
    simpa [h] using hP
  · refine (ours_2 hx hv F h).mono fun e1 w' hP => ?_
    unfold RPuts at hP
    simpa [h] using hP
  · refine (ours_3 hx hv F h).mono fun e1 w' hP => ?_
    unfold RPuts at hP
    simpa [h] using hP
  · refine (ours_4 hx hv F h).mono fun e1 w' hP => ?_
    unfold RPuts at hP
    simpa [h] using hP
  · refine (ours_5 hx hv F h).mono fun e1 w' hP => ?_
    unfold RPuts at hP
    simpa [h] using hP
  · refine (ours_6 hx hv F h).mono fun e1 w' hP => ?_
    unfold RPuts at hP
    simpa [h] using hP
  · refine (ours_7 hx hv F h).mono fun e1 w' hP => ?_
    unfold RPuts at hP
    simpa [h] using hP
  · simp only [if_neg h]
    exact ours_none hx F h

end Go.Proofs.Ytajlcodlaalomaa
