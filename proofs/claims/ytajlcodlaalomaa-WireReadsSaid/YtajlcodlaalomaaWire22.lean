/- Things that came in; long. -/
import Derived.Test.YtajlcodlaalomaaWire21
import Derived.Test.YtajlcodlaalomaaBytes3
import Derived.Test.YtajlcodlaalomaaMid
namespace Go.Proofs.Ytajlcodlaalomaa
open Go.RowKit Go.Proofs.Ytajlcodlaalomaa.Wi Go.Proofs.Ytajlcodlaalomaa.Pc
attribute [local go_sem] cell_alloc_some frozen_alloc_some
set_option linter.unusedSimpArgs false
set_option linter.unusedVariables false

theorem Th.one (x : Th) (v : Value) (hv : v.oneCell' = true) : (x.cells v).toArray.all (·.oneCell') = true := by
  rw [List.all_toArray, List.all_eq_true]
  intro u hu
  simp only [Th.cells, List.mem_cons, List.mem_append] at hu
  rcases hu with rfl | rfl | rfl | h | h | rfl | rfl | h
  · rfl
  · rfl
  · exact hv
  · exact u8s_one _ u h
  · exact u8s_one _ u h
  · rfl
  · rfl
  · cases h
theorem Th.put2 (x : Th) (u v : Value) : (x.cells u).toArray.setIfInBounds 2 v = (x.cells v).toArray := by
  rw [List.setIfInBounds_toArray]
  rfl
structure Th.Ok (x : Th) : Prop where
  n : x.n < 9223372036854775808
  h : x.h.length = 32
  k : x.k.length = 4
  wd : x.wd < 18446744073709551616
theorem Th.Ok.fine {x : Th} (h : x.Ok) (hb : x.b.length ≤ 1000000) : x.Fine := ⟨h.n, hb, h.h, h.k, h.wd⟩
/-- A thing in memory. -/
def ThAt (w : World) (b o : Nat) (x : Th) : Prop := ∃ u, w.rangeAt b o (x.cells u) ∧ BytesOf w u x.b
theorem ThAt.below {w w' : World} {b o : Nat} {x : Th} (h : ThAt w b o x) (hb : b < w.heap.size) (k : Below w.heap.size w w') : ThAt w' b o x := by
  obtain ⟨u, h1, h2⟩ := h
  exact ⟨u, fun j v hv => (k.cell (by exact hb)).trans (h1 j v hv), h2.below k⟩
/-- A slice of things. -/
def ThRow (w : World) (A : Option Addr) (l : List Th) : Prop := (∀ x ∈ l, x.Ok) ∧ (0 < l.length → ∃ b off, A = some ⟨b, off, none⟩ ∧ b < w.heap.size ∧ ∀ k x, l[k]? = some x → ThAt w b (off + k * 41) x)
theorem ThRow.below {w w' : World} {A : Option Addr} {l : List Th} (h : ThRow w A l) (k : Below w.heap.size w w') : ThRow w' A l :=
  ⟨h.1, fun h0 => by
    obtain ⟨b, off, e, hb, hc⟩ := h.2 h0
    exact ⟨b, off, e, Nat.lt_of_lt_of_le hb k.size, fun i x hx => (hc i x hx).below hb k⟩⟩

set_option maxRecDepth 100000 in
set_option maxHeartbeats 1000000 in
theorem long_any {w : World} {A : Option Addr} {cap : Nat} {l : List Th} (h : ThRow w A l) :
    Calls Try.prog 9 #[.slice A l.length cap] w fun e w' => ∃ r, e = .returned (.bool r) ∧ w = w' ∧ (r = false → l.length ≤ 30 ∧ ∀ x ∈ l, x.b.length ≤ 300) := by
  have HH := Lib.hid h
  clear h
  go_enter Try.func9, Try.ntmps9
  go_wp2
  go_loopw [3, 4, 5, 6, 7, 8, 9, 10, 11, 12, 13, 14, 15, 16, 17, 18, 19, 20] (fun s3 _ _ _ _ _ _ _ _ _ _ _ _ _ _ _ _ _ wr => ∃ k : Nat, k ≤ l.length ∧ k ≤ 31 ∧ s3 = .int .i64 k ∧ (∀ x ∈ l.take k, x.b.length ≤ 300) ∧ w = wr) (fun s3 _ _ _ _ _ _ _ _ _ _ _ _ _ _ _ _ _ _ => l.length - (intOf s3).toNat)
  case atStart => exact ⟨0, by omega, by omega, rfl, by simp, rfl⟩
  case round =>
    obtain ⟨k, hk, hk31, rfl, hall, rfl⟩ := hrel
    have HA := Lib.hid hall
    clear hall
    by_cases hlt : k < l.length
    · by_cases h31 : k < 31
      · obtain ⟨b, off, rfl, hb, hc⟩ := HH.out.2 (by omega)
        obtain ⟨x, hx⟩ : ∃ x, l[k]? = some x := ⟨_, List.getElem?_eq_getElem hlt⟩
        obtain ⟨u, hr, hu⟩ := hc k x hx
        have c2 := hr 2 u (Th.c2 x u)
        have HX := Lib.hid hx
        obtain ⟨A', c', rfl⟩ := hu.form
        have hil : ((k : Nat) : Int) < (l.length : Int) := by omega
        clear hc hr hu hx
        by_cases h300 : 300 < x.b.length
        · have hd : decide ((300 : Int) < (x.b.length : Int)) = true := decide_eq_true (by omega)
          clear h300
          go_wp2
          go_ret
          exact ⟨true, rfl, rfl, by simp⟩
        · have hd : decide ((300 : Int) < (x.b.length : Int)) = false := decide_eq_false (by omega)
          have H3 := Lib.hid h300
          clear h300
          go_wp2
          refine ⟨⟨k + 1, by omega, by omega, by go_num, ?_, trivial⟩, by simp [intOf]; omega⟩
          rw [List.take_add_one, HX.out]
          intro y hy
          simp only [Option.toList_some, List.mem_append, List.mem_singleton] at hy
          rcases hy with hy | rfl
          · exact HA.out y hy
          · have := H3.out; omega
      · have hd : decide ((30 : Int) < (l.length : Int)) = true := decide_eq_true (by omega)
        have hdk : decide ((k : Int) < 31) = false := decide_eq_false (by omega)
        have hdl : decide ((k : Int) < (l.length : Int)) = true := decide_eq_true (by omega)
        clear HA
        go_wp2
        go_ret
        exact ⟨true, rfl, rfl, by simp⟩
    · obtain rfl : k = l.length := by omega
      rw [List.take_length] at HA
      by_cases h30 : 30 < l.length
      · have hd : decide ((30 : Int) < (l.length : Int)) = true := decide_eq_true (by omega)
        clear h30
        go_wp2
        go_ret
        exact ⟨true, rfl, rfl, by simp⟩
      · have hd : decide ((30 : Int) < (l.length : Int)) = false := decide_eq_false (by omega)
        have H3 := Lib.hid h30
        clear h30
        go_wp2
        go_ret
        exact ⟨false, rfl, rfl, fun _ => ⟨by have := H3.out; omega, HA.out⟩⟩

/-- What Done tells. -/
def doneL (e : Int) (bs : List UInt8) : List UInt8 := if e = 0 then bs else []
theorem NewBytes.none {w w' : World} (h : Below w.heap.size w w') : NewBytes w w' (.slice none 0 0) [] := ⟨World.ownsRow_nil _ _ _ _, h⟩
theorem wDone_any {w : World} {B p : Nat} {lim e : Int} {bs : List UInt8} {s : Value} (F : Wr w B p lim bs e s) :
    Calls Try.prog 18 #[.pointer (some ⟨p, 0, none⟩)] w fun e1 w' => ∃ v, e1 = .returned (.tuple #[v, .int .i64 e]) ∧ NewBytes w w' v (doneL e bs) := by
  unfold doneL
  by_cases he : e = 0
  · subst he
    rw [if_pos rfl]
    exact wDone_ok F
  · rw [if_neg he]
    exact (wDone_err F he).mono fun e1 w' ⟨h1, h2⟩ => ⟨_, h1, NewBytes.none h2⟩
theorem rwDone_any {w : World} {B p : Nat} {lim e : Int} {bs : List UInt8} {s : Value} (F : RWr w B p lim bs e s) :
    Calls Try.prog 19 #[.pointer (some ⟨p, 0, none⟩)] w fun e1 w' => ∃ v, e1 = .returned (.tuple #[v, .int .i64 e]) ∧ NewBytes w w' v (doneL e bs) := by
  unfold doneL
  by_cases he : e = 0
  · subst he
    rw [if_pos rfl]
    exact rwDone_ok F
  · rw [if_neg he]
    exact (rwDone_err F he).mono fun e1 w' ⟨h1, h2⟩ => ⟨_, h1, NewBytes.none h2⟩
theorem doneL_len {e : Int} {bs : List UInt8} (h : bs.length ≤ 1048576) : (doneL e bs).length ≤ 1048576 := by
  unfold doneL; split
  · exact h
  · simp
theorem OverBytes_lent {w : World} {B g : Nat} {v : Value} {l : List UInt8} (h : Lent w B g v l) (hl : l.length ≤ 1000000) :
    Calls Try.prog 17 #[v] w fun e w' => (∃ u, e = .returned u) ∧ Keep (fun b => b = g) w w' := by
  obtain ⟨cap, rfl, ho⟩ := h
  have hh : ∃ cs, w.heap[g]? = some (.cells cs 5 (0, 0)) ∧ (cs.toList.take (l.length + 4) = u8s (l ++ [201, 202, 203, 204])) := by
    rcases ho.2 with ⟨h0, _⟩ | ⟨g', cap', cur, e, _, hh, _, _, _, ht⟩
    · cases h0
    · simp only [Value.slice.injEq, Option.some.injEq, Addr.mk.injEq] at e
      obtain ⟨⟨rfl, _⟩, _⟩ := e
      simp only [Nat.mul_one] at ht
      exact ⟨cur, hh, ht⟩
  obtain ⟨cs, hh, ht⟩ := hh
  refine OverBytes_some ⟨cap, cs, rfl, hh, fun j hj => ⟨l[j], ?_⟩⟩ (by omega)
  have e : (u8s (l ++ [201, 202, 203, 204]))[j]? = some (u8v l[j]) := by
    rw [u8s_append, List.getElem?_append_left (by rw [u8s_len]; exact hj)]
    exact u8s_get l j hj
  rw [← ht, List.getElem?_take, if_pos (by omega)] at e
  simpa using e
end Go.Proofs.Ytajlcodlaalomaa
