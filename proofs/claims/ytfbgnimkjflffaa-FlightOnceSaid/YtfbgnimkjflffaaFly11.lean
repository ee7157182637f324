/- Package flight: each method's contract in one, over plain functions of the requests. -/
import Derived.Test.YtfbgnimkjflffaaFly10
namespace Go.Proofs.Ytfbgnimkjflffaa
open Go.RowKit Go.Maps

/-- Which request is under way there. -/
def openIx (L : List Rq) (t h : Int) : Option Nat := L.findIdx? fun r => r.op && (r.to == t && r.h == h)
theorem openIx_some {L : List Rq} {t h : Int} {i : Nat} (e : openIx L t h = some i) : ∃ r, L[i]? = some r ∧ r.op = true ∧ r.to = t ∧ r.h = h := by
  unfold openIx at e
  rw [List.findIdx?_eq_some_iff_getElem] at e
  obtain ⟨hi, hp, _⟩ := e
  simp at hp
  exact ⟨L[i], List.getElem?_eq_getElem hi, hp.1, hp.2.1, hp.2.2⟩
theorem openIx_none {L : List Rq} {t h : Int} (e : openIx L t h = none) : ∀ (i : Nat) r, L[i]? = some r → r.op = true → r.to = t → r.h = h → False := by
  intro i r hr ho h1 h2
  unfold openIx at e
  rw [List.findIdx?_eq_none_iff] at e
  have := e r (List.mem_of_getElem? hr)
  simp [ho, h1, h2] at this

def inRb (n t h a : Int) : Bool := decide (0 ≤ t) && decide (t < n) && decide (1 ≤ h) && decide (h ≤ 1073741824) && decide (0 ≤ a) && decide (a ≤ 1099511627776)
theorem inRb_iff (n t h a : Int) : inRb n t h a = true ↔ inR n t h a := by simp [inRb, inR, and_assoc]

structure AskR where
  id : Int
  fresh : Bool
  err : Int
  L : List Rq
def askR (n : Int) (L : List Rq) (t h a : Int) : AskR :=
  if inRb n t h a then
    match openIx L t h with
    | some i => ⟨(i : Int) + 1, false, 0, L⟩
    | none => ⟨(L.length : Int) + 1, true, 0, L ++ [⟨(L.length : Int) + 1, t, h, a, true⟩]⟩
  else ⟨0, false, 3, L⟩

theorem fAsk_any (B p m : Nat) (n t h a : Int) (s : Value) (L : List Rq) (w : World) (F : Fl w B p m n s L) (hL : L.length ≤ 1000) :
    Calls Try.prog 13 #[.pointer (some ⟨p, 0, none⟩), .int .i64 t, .int .i64 h, .int .i64 a] w fun e w' => e = .returned (.tuple #[.int .i64 (askR n L t h a).id, .bool (askR n L t h a).fresh, .int .i64 (askR n L t h a).err]) ∧
      ∃ s', Fl w' B p m n s' (askR n L t h a).L ∧ Keep (FlS p m s) w w' ∧ (s'.ownBlock = s.ownBlock ∨ ∃ b, w.heap.size ≤ b ∧ s'.ownBlock = some b) := by
  by_cases hr : inR n t h a
  · have hb := (inRb_iff n t h a).2 hr
    cases ho : openIx L t h with
    | some i =>
      have e : askR n L t h a = ⟨(i : Int) + 1, false, 0, L⟩ := by unfold askR; rw [if_pos hb, ho]
      rw [e]
      obtain ⟨r, h1, h2, h3, h4⟩ := openIx_some ho
      exact (fAsk_open B p m n t h a s L w F hr i r h1 h2 h3 h4).mono fun e w' ⟨he, hw⟩ => ⟨he, s, hw ▸ F, hw ▸ Keep.refl _ _, .inl rfl⟩
    | none =>
      have e : askR n L t h a = ⟨(L.length : Int) + 1, true, 0, L ++ [⟨(L.length : Int) + 1, t, h, a, true⟩]⟩ := by unfold askR; rw [if_pos hb, ho]
      rw [e]
      exact fAsk_new B p m n t h a s L w F hr hL (openIx_none ho)
  · have hb : ¬ inRb n t h a = true := fun h' => hr ((inRb_iff n t h a).1 h')
    have e : askR n L t h a = ⟨0, false, 3, L⟩ := by unfold askR; rw [if_neg hb]
    rw [e]
    exact (fAsk_range p m n t h a s w F.st hr).mono fun e w' ⟨he, hw⟩ => ⟨he, s, hw ▸ F, hw ▸ Keep.refl _ _, .inl rfl⟩

/-- The request of a number. -/
def atR (L : List Rq) (id : Int) : Option Rq := if 1 ≤ id then L[(id - 1).toNat]? else none
theorem atR_some {L : List Rq} {id : Int} {r : Rq} (e : atR L id = some r) : ∃ i : Nat, L[i]? = some r ∧ id = (i : Int) + 1 := by
  unfold atR at e
  split at e
  · exact ⟨_, e, by omega⟩
  · cases e
theorem atR_none {L : List Rq} {id : Int} (e : atR L id = none) : id < 1 ∨ (L.length : Int) < id := by
  unfold atR at e
  split at e
  · rw [List.getElem?_eq_none_iff] at e; omega
  · omega

def closeR (L : List Rq) (id : Int) : Int × List Rq :=
  match atR L id with
  | none => (10, L)
  | some r => if r.op then (0, L.set (id - 1).toNat { r with op := false }) else (11, L)

theorem fClose_any (B p m : Nat) (n id : Int) (s : Value) (L : List Rq) (w : World) (F : Fl w B p m n s L) (hL : L.length ≤ 1000) :
    Calls Try.prog 6 #[.pointer (some ⟨p, 0, none⟩), .int .i64 id] w fun e w' => e = .returned (.int .i64 (closeR L id).1) ∧ Fl w' B p m n s (closeR L id).2 ∧ Keep (FlS p m s) w w' := by
  cases ha : atR L id with
  | none =>
    have e : closeR L id = (10, L) := by unfold closeR; rw [ha]
    rw [e]
    obtain ⟨A, cap, hs⟩ := owns_slice F.row
    subst hs
    exact (fClose_none p m n id A _ cap w F.st (atR_none ha)).mono fun e w' ⟨he, hw⟩ => ⟨he, hw ▸ F, hw ▸ Keep.refl _ _⟩
  | some r =>
    obtain ⟨i, hi, rfl⟩ := atR_some ha
    cases ho : r.op with
    | false =>
      have e : closeR L ((i : Int) + 1) = (11, L) := by unfold closeR; rw [ha]; simp [ho]
      rw [e]
      exact (fClose_late B p m n s L w F i r hi hL ho).mono fun e w' ⟨he, hw⟩ => ⟨he, hw ▸ F, hw ▸ Keep.refl _ _⟩
    | true =>
      have e : closeR L ((i : Int) + 1) = (0, L.set i { r with op := false }) := by unfold closeR; rw [ha]; simp [ho]
      rw [e]
      exact fClose_yes B p m n s L w F i r hi hL ho

def isR (L : List Rq) (id to : Int) : Int :=
  match atR L id with
  | none => 0
  | some r => if r.to = to then (if r.op then 1 else 2) else 0
theorem fIs_any (B p m : Nat) (n id to : Int) (s : Value) (L : List Rq) (w : World) (F : Fl w B p m n s L) (hL : L.length ≤ 1000) :
    Calls Try.prog 7 #[.pointer (some ⟨p, 0, none⟩), .int .i64 id, .int .i64 to] w fun e w' => e = .returned (.int .i64 (isR L id to)) ∧ w = w' := by
  unfold isR
  cases ha : atR L id with
  | none =>
    obtain ⟨A, cap, hs⟩ := owns_slice F.row
    subst hs
    exact fIs_none p m n id to A _ cap w F.st (atR_none ha)
  | some r =>
    obtain ⟨i, hi, rfl⟩ := atR_some ha
    have hl := (List.getElem?_eq_some_iff.1 hi).1
    obtain ⟨g, cap, cur, hs, hh, _, hc⟩ := F.cur hl
    subst hs
    exact fIs_some p m n to r.to r.op i g _ cap w F.st hl (by omega) ((kb_cell hh _).trans (hc 1 r (by omega) hi)) ((kb_cell hh _).trans (hc 4 r (by omega) hi))

def getR (L : List Rq) (id : Int) : Rq × Bool :=
  match atR L id with
  | none => (⟨0, 0, 0, 0, false⟩, false)
  | some r => (r, true)
theorem fGet_any (B p m : Nat) (n id : Int) (s : Value) (L : List Rq) (w : World) (F : Fl w B p m n s L) (hL : L.length ≤ 1000) :
    Calls Try.prog 9 #[.pointer (some ⟨p, 0, none⟩), .int .i64 id] w fun e w' => e = .returned (.tuple #[(getR L id).1.val, .bool (getR L id).2]) ∧ Below w.heap.size w w' := by
  unfold getR
  cases ha : atR L id with
  | none =>
    obtain ⟨A, cap, hs⟩ := owns_slice F.row
    subst hs
    exact fGet_none p m n id A _ cap w F.st (atR_none ha)
  | some r =>
    obtain ⟨i, hi, rfl⟩ := atR_some ha
    exact fGet_some B p m n s L w F i r hi hL

/-- A flight that is just made. -/
theorem fNew_fl (n : Int) (w : World) (h1 : 1 ≤ n) (h2 : n ≤ 16) :
    Calls Try.prog 10 #[.int .i64 n] w fun e w' => e = .returned (.tuple #[.pointer (some ⟨w.heap.size + 1, 0, none⟩), .int .i64 0]) ∧ Fl w' w.heap.size (w.heap.size + 1) w.heap.size n (.slice none 0 0) [] ∧ Below w.heap.size w w' := by
  refine (fNew_yes n w h1 h2).mono fun e w' ⟨he, hw⟩ => ⟨he, ?_, ?_⟩
  · subst hw
    exact ⟨kb_new (by simp) _, World.ownsRow_nil _ _ _ _, ⟨.map [], 0, (World.ownsMap_made w _ _ _).alloc _, Nat.le_refl _, says_nil⟩, ⟨fun i r hr => by simp at hr, fun i k r s hr => by simp at hr⟩, by omega, Nat.le_refl _, h1, h2⟩
  · subst hw; (repeat (with_reducible (first | exact Below.refl _ _ | assumption | refine bl_alloc ?_ _ | refine bl_drew ?_ | refine bl_drewN ?_ _ | (refine bl_set ?_ ?_ _; (focus (first | (simp; done) | (simp; omega) | omega))) | refine bl_then ?_ (by assumption))))
end Go.Proofs.Ytfbgnimkjflffaa
