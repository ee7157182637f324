/- The walks of package flight: a flight as a whole; Ask. -/
import Derived.Test.YtfbgnimkjflffaaFly2
import Derived.Test.YtfbgnimkjflffaaFlyM
import Derived.Test.YtfbgnimkjflffaaKeep
import Derived.OwnWalk
namespace Go.Proofs.Ytfbgnimkjflffaa
open Go.RowKit Go.Maps

theorem infoR : (Try.prog.info? 29).map (fun i => (i.zero, i.size, i.bytes)) = some (some (.agg #[.int .i64 0, .int .i64 0, .int .i64 0, .int .i64 0, .bool false]), 5, 40) := by kernel_rfl
theorem zeroI (w : World) : (zeroValue 3).run Try.prog w = .ok (.int .i64 0) w := by kernel_rfl

/-- A flight of n providers: the struct's block p, its map's block m, the requests' slice s, the requests L; all its blocks from B on. -/
structure Fl (w : World) (B p m : Nat) (n : Int) (s : Value) (L : List Rq) : Prop where
  st : FlAt w p m n s
  row : w.ownsRow B 29 5 s L.length (rqs L)
  map : ∃ (D : DataW Unit) (k : Nat), w.ownsMap Try.prog 51 (plainElem Try.prog 3) m k D ∧ k ≤ L.length ∧ Says D L
  fine : Fine n L
  lp : B ≤ p
  lm : B ≤ m
  lo : 1 ≤ n
  hi : n ≤ 16
/-- Its blocks. -/
def FlS (p m : Nat) (s : Value) (b : Nat) : Prop := b = p ∨ b = m ∨ s.ownBlock = some b

theorem Fl.ltp {w B p m n s L} (h : Fl w B p m n s L) : p < w.heap.size := kb_lt h.st
theorem Fl.ltm {w B p m n s L} (h : Fl w B p m n s L) : m < w.heap.size := by obtain ⟨D, k, h1, _⟩ := h.map; exact h1.lt
theorem Fl.ltS {w B p m n s L} (h : Fl w B p m n s L) {b : Nat} (hb : FlS p m s b) : B ≤ b ∧ b < w.heap.size := by
  rcases hb with rfl | rfl | hb
  · exact ⟨h.lp, h.ltp⟩
  · exact ⟨h.lm, h.ltm⟩
  · exact h.row.lt b hb
theorem Fl.keep {w w' : World} {B p m n s L} {S : Nat → Prop} (h : Fl w B p m n s L) (k : Keep S w w') (hn : ∀ b, FlS p m s b → ¬ S b) : Fl w' B p m n s L where
  st := k.kb h.st (hn p (.inl rfl))
  row := k.row h.row fun b hb => hn b (.inr (.inr hb))
  map := by obtain ⟨D, j, h1, r⟩ := h.map; exact ⟨D, j, map_kb h1 (k.block m h1.lt (hn m (.inr (.inl rfl)))), r⟩
  fine := h.fine
  lp := h.lp
  lm := h.lm
  lo := h.lo
  hi := h.hi
theorem Fl.below {w w' : World} {B p m n s L} (h : Fl w B p m n s L) (k : Below w.heap.size w w') : Fl w' B p m n s L := h.keep (S := fun _ => False) (Keep.of_below k) fun _ _ x => x

def inR (n t h a : Int) : Prop := 0 ≤ t ∧ t < n ∧ 1 ≤ h ∧ h ≤ 1073741824 ∧ 0 ≤ a ∧ a ≤ 1099511627776

set_option maxHeartbeats 1000000 in
theorem fAsk_range (p m : Nat) (n t h a : Int) (s : Value) (w : World) (hf : FlAt w p m n s) (hn : ¬ inR n t h a) :
    Calls Try.prog 13 #[.pointer (some ⟨p, 0, none⟩), .int .i64 t, .int .i64 h, .int .i64 a] w fun e w' => e = .returned (.tuple #[.int .i64 0, .bool false, .int .i64 3]) ∧ w = w' := by
  have c := kb_cell hf
  unfold inR at hn
  by_cases h1 : t < 0
  · clear hn
    go_enter Try.func13, Try.ntmps13
    go_wp2_with (go_at_call 17; (with_reducible refine (fnone_no p m n _ _ hf).mono ?_); rintro e w1 ⟨rfl, rfl⟩)
    go_ret3
    exact ⟨rfl, rfl⟩
  by_cases h2 : n ≤ t
  · clear hn
    go_enter Try.func13, Try.ntmps13
    go_wp2_with (go_at_call 17; (with_reducible refine (fnone_no p m n _ _ hf).mono ?_); rintro e w1 ⟨rfl, rfl⟩)
    go_ret3
    exact ⟨rfl, rfl⟩
  by_cases h3 : h < 1
  · clear hn
    go_enter Try.func13, Try.ntmps13
    go_wp2_with (go_at_call 17; (with_reducible refine (fnone_no p m n _ _ hf).mono ?_); rintro e w1 ⟨rfl, rfl⟩)
    go_ret3
    exact ⟨rfl, rfl⟩
  by_cases h4 : 1073741824 < h
  · clear hn
    go_enter Try.func13, Try.ntmps13
    go_wp2_with (go_at_call 17; (with_reducible refine (fnone_no p m n _ _ hf).mono ?_); rintro e w1 ⟨rfl, rfl⟩)
    go_ret3
    exact ⟨rfl, rfl⟩
  by_cases h5 : a < 0
  · clear hn
    go_enter Try.func13, Try.ntmps13
    go_wp2_with (go_at_call 17; (with_reducible refine (fnone_no p m n _ _ hf).mono ?_); rintro e w1 ⟨rfl, rfl⟩)
    go_ret3
    exact ⟨rfl, rfl⟩
  · have h6 : 1099511627776 < a := by omega
    clear hn
    go_enter Try.func13, Try.ntmps13
    go_wp2_with (go_at_call 17; (with_reducible refine (fnone_no p m n _ _ hf).mono ?_); rintro e w1 ⟨rfl, rfl⟩)
    go_ret3
    exact ⟨rfl, rfl⟩

theorem inR_64 {n t h a : Int} (hn : n ≤ 16) (hr : inR n t h a) : R64 t ∧ R64 h := by unfold inR at hr; unfold R64; omega

set_option maxHeartbeats 1000000 in
theorem fAsk_open (B p m : Nat) (n t h a : Int) (s : Value) (L : List Rq) (w : World) (F : Fl w B p m n s L) (hr : inR n t h a) (i : Nat) (r : Rq) (hi : L[i]? = some r) (ho : r.op = true) (et : r.to = t) (eh : r.h = h) :
    Calls Try.prog 13 #[.pointer (some ⟨p, 0, none⟩), .int .i64 t, .int .i64 h, .int .i64 a] w fun e w' => e = .returned (.tuple #[.int .i64 ((i : Int) + 1), .bool false, .int .i64 0]) ∧ w = w' := by
  obtain ⟨r1, r2⟩ := inR_64 F.hi hr
  have hf := F.st
  obtain ⟨D, k, hown, _, hS⟩ := F.map
  have hK := kl_of r1 r2
  have hfine := F.fine
  have hx : Maps.has D (kl t h) = true ∧ ∀ c : Int, D.atKey (kl t h) (.lit (.int .i64 0)) = .lit (.int .i64 c) → c = (i : Int) + 1 := by
    rcases hS.2 t h r1 r2 with ⟨k, q, h1, h2, h3, h4, h5, h6⟩ | ⟨h1, _⟩
    · have : k = i := hfine.2 k i q r h1 hi h2 ho (by omega) (by omega)
      subst this
      refine ⟨h5, fun c hc => ?_⟩
      rw [h6] at hc
      injection hc with hc
      injection hc with _ hc
      exact hc.symm
    · exact (h1 i r hi ho et eh).elim
  obtain ⟨hhas, hpin⟩ := hx
  clear hfine hS hi ho et eh F r1 r2
  have HP := Lib.hid hpin
  have HH := Lib.hid hhas
  clear hpin hhas
  have c := kb_cell hf
  obtain ⟨q1, q2, q3, q4, q5, q6⟩ := hr
  go_enter Try.func13, Try.ntmps13
  go_wp2_with (first | (go_at_call 17; (with_reducible refine (fnone_no p m n _ _ hf).mono ?_); rintro e w1 ⟨rfl, rfl⟩) | (at_lookup; refine wpList_lookup_own_ok_int _ rfl _ _ 47 rfl 51 3 .i64 spotLaw Try.underlying47 Try.underlying3 (zeroI _) m k D rfl hown _ _ rfl hK ?_; intro x hat _; (have e := HP.out x hat); subst e; rw [HH.out]; clear hat))
  go_ret3
  exact ⟨rfl, rfl⟩
end Go.Proofs.Ytfbgnimkjflffaa
