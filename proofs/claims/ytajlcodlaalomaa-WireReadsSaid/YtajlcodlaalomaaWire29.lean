/- again. -/
import Derived.Test.YtajlcodlaalomaaWire25
import Derived.Test.YtajlcodlaalomaaWire28
namespace Go.Proofs.Ytajlcodlaalomaa
open Go.RowKit Go.Proofs.Ytajlcodlaalomaa.Wi Go.Proofs.Ytajlcodlaalomaa.Pc
attribute [local go_sem] cell_alloc_some frozen_alloc_some
set_option linter.unusedSimpArgs false
set_option linter.unusedVariables false

def AgainP (w : World) (Br pr : Nat) (sr : Value) (Bw pw : Nat) (sw : Value) (xs : List UInt8) (e : Ending) (w' : World) : Prop :=
  ∃ (ok : Bool) (st : St), e = .returned (.bool ok) ∧ RdO w' Br pr sr xs st ∧ Keep (fun b => b = pr ∨ WrS pw sw b) w w' ∧
   (ok = true → ∃ a' sw', st = .at a' ∧ Wr w' Bw pw 1048576 (xs.take a') 0 sw' ∧ (∀ b, sw'.ownBlock = some b → sw.ownBlock = some b ∨ w.heap.size ≤ b)) ∧
   (ok = false → ∃ er f, er ≠ 0 ∧ st = .bad er f ∧ ∃ bs e sw', Wr w' Bw pw 1048576 bs e sw')
def thZ (k : Int) : Th := ⟨k, 0, [], List.replicate 32 0, List.replicate 4 0, 0, false⟩
theorem thZ_cells (k : Int) : #[Value.int IntKind.i64 k, Value.int IntKind.i64 0, Value.slice none 0 0, Value.int IntKind.u8 0, Value.int IntKind.u8 0, Value.int IntKind.u8 0, Value.int IntKind.u8 0, Value.int IntKind.u8 0, Value.int IntKind.u8 0, Value.int IntKind.u8 0, Value.int IntKind.u8 0, Value.int IntKind.u8 0, Value.int IntKind.u8 0, Value.int IntKind.u8 0, Value.int IntKind.u8 0, Value.int IntKind.u8 0, Value.int IntKind.u8 0, Value.int IntKind.u8 0, Value.int IntKind.u8 0, Value.int IntKind.u8 0, Value.int IntKind.u8 0, Value.int IntKind.u8 0, Value.int IntKind.u8 0, Value.int IntKind.u8 0, Value.int IntKind.u8 0, Value.int IntKind.u8 0, Value.int IntKind.u8 0, Value.int IntKind.u8 0, Value.int IntKind.u8 0, Value.int IntKind.u8 0, Value.int IntKind.u8 0, Value.int IntKind.u8 0, Value.int IntKind.u8 0, Value.int IntKind.u8 0, Value.int IntKind.u8 0, Value.int IntKind.u8 0, Value.int IntKind.u8 0, Value.int IntKind.u8 0, Value.int IntKind.u8 0, Value.int IntKind.u64 0, Value.bool false] = ((thZ k).cells (.slice none 0 0)).toArray := rfl

-- ARMS
/-- A whole struct is read by an operation whose guard says yes. -/
theorem wpList_load_want {P : Program} {ops : Array Oper} {rest : List Oper} {op : Oper} {a : Act} {w : World} {Q : Exit → Act → World → Prop} (ty : TypeId) (x : Operand) (ho : op.op = .load ty x) (hw : Region.wanted op (yielded ops a.tmps) = true)
    (b o : Nat) (hx : a.eval x = .pointer (some ⟨b, o, none⟩)) (cs : List Value) (d : TypeDesc) (hc : w.rangeAt b o cs) (hu : P.underlying ty = some d) (hd : d.isRow = true) (hi : (P.info? ty).map (·.size) = some cs.length)
    (h : wpList P ops Q rest (a.put op.dst (.agg cs.toArray)) w) : wpList P ops Q (op :: rest) a w :=
  BigFrame.wpList_want hw fun _ hK => wp_load_mid ty x ho b o hx cs d hc hu hd hi (hK _ _ h)
theorem Keep.cells {S : Nat → Prop} {w w1 : World} {b : Nat} {o : Obj} (h : Keep S w w1) (hb : w.heap[b]? = some o) (hn : ¬ S b) : w1.heap[b]? = some o := h.kb hb hn
theorem setMid (l : List UInt8) : ∀ (c : Array Value) (o : Nat), o + l.length ≤ c.size → ∀ j, (updC c o (u8s l))[j]? = if o ≤ j ∧ j < o + l.length then (u8s l)[j - o]? else c[j]? := fun c o h j => by
  have := updC_get (u8s l) c o (by rw [u8s_len]; exact h) j
  rwa [u8s_len] at this
theorem setH (k : Int) (q : List UInt8) (hq : q.length = 32) : updC ((thZ k).cells (.slice none 0 0)).toArray 3 (u8s q) = (({ thZ k with h := q } : Th).cells (.slice none 0 0)).toArray := by
  apply Array.ext_getElem?
  intro j
  rw [setMid _ _ _ (by simp [Th.cells, thZ, u8s_len, hq])]
  split
  · rename_i h
    have hj : j - 3 < 32 := by omega
    have e : (u8s q)[j - 3]? = some (u8v (q[j - 3]'(by omega))) := u8s_get q _ (by omega)
    rw [e]
    have := Th.ch (x := { thZ k with h := q }) ⟨by show (0 : Int) < _; omega, by simp [thZ], hq, by simp [thZ], by simp [thZ]⟩ (.slice none 0 0) (j - 3) _ e
    rw [show 3 + (j - 3) = j by omega] at this
    simpa using this.symm
  · rename_i h
    simp only [Th.cells, thZ, List.getElem?_toArray]
    match j with
    | 0 => rfl
    | 1 => rfl
    | 2 => rfl
    | j + 3 =>
      simp only [List.getElem?_cons_succ]
      rw [List.getElem?_append_right (l₁ := u8s (List.replicate 32 0)) (by rw [u8s_len, List.length_replicate]; omega), List.getElem?_append_right (l₁ := u8s q) (by rw [u8s_len, hq]; omega), u8s_len, u8s_len, hq, List.length_replicate]
theorem setK (k : Int) (q : List UInt8) (hq : q.length = 4) : updC ((thZ k).cells (.slice none 0 0)).toArray 35 (u8s q) = (({ thZ k with k := q } : Th).cells (.slice none 0 0)).toArray := by
  match q, hq with
  | [c0, c1, c2, c3], _ => rfl

set_option maxRecDepth 100000 in
set_option maxHeartbeats 1000000 in
theorem ag0_ok0 {w : World} {Br pr Bw pw : Nat} {sr sw : Value} {xs : List UInt8} {a : Nat} {q : Nat} {a' : Nat} (F : RdO w Br pr sr xs (.at a)) (G : Wr w Bw pw 1048576 (xs.take a) 0 sw) (hd : ∀ b, (b = pr ∨ sr.ownBlock = some b) → ¬ WrS pw sw b) (hlen : xs.length ≤ 600) (h : (numP xs) a = .ok q a') (he : a' = xs.length) :
    Calls Try.prog 40 #[.pointer (some ⟨pr, 0, none⟩), .pointer (some ⟨pw, 0, none⟩), .int .i64 0] w (AgainP w Br pr sr Bw pw sw xs) := by
  have HF := Lib.hid F
  have HG := Lib.hid G
  have Hd := Lib.hid hd
  have hlt := F.ltp
  have hltw := G.ltp
  have hi41 : (Try.prog.info? 39).map (·.size) = some 41 := by kernel_rfl
  have HI := Lib.hid hi41
  clear hi41
  obtain ⟨Z, hZ, hz41, hz1⟩ : ∃ Z, ((thZ 0).cells (.slice none 0 0)).toArray = Z ∧ 41 = Z.size ∧ Z.all (·.oneCell') = true := ⟨_, rfl, by simp [Th.cells, thZ, u8s_len], Th.one _ _ rfl⟩
  have HZ := Lib.hid ((thZ_cells 0).trans hZ)
  have HZ0 := Lib.hid hZ
  have HZ1 := Lib.hid hz1
  have HZ2 := Lib.hid hz41
  have bA : Below w.heap.size w (w.alloc (.cells Z 39)) := bl_alloc (Below.refl _ _) _
  have HBA := Lib.hid bA
  have HFA := Lib.hid (F.below bA)
  have HGA := Lib.hid (G.below bA)
  have HDA := Lib.hid (kb_new (w := w) rfl (.cells Z 39))
  have hsA : (w.alloc (.cells Z 39)).heap.size = w.heap.size + 1 := by simp
  have hlow : ∀ b, sr.ownBlock = some b → b < w.heap.size := fun b h => (F.low b h).2
  have hlowW : ∀ b, WrS pw sw b → b < w.heap.size := fun b h => (G.ltS h).2
  have HC := dNum_any HFA.out
  rw [step_ok h] at HC
  have HC := Lib.hid HC
  obtain ⟨x, hx⟩ : ∃ x : Th, x = { thZ 0 with n := (q : Int) } := ⟨_, rfl⟩
  have HX := Lib.hid hx
  have hIs := numP_one h
  have hfl := hIs.len
  have hfm : ({ thZ 0 with n := (q : Int) } : Th).form = numL q := rfl
  have hput := put_fit (lim := 1048576) (bs := xs.take a) (x := { thZ 0 with n := (q : Int) }) (fun _ => by simp [thZ]) (by simp [thZ]) (by rw [hfm]; have := hIs.2.1; omega)
  rw [hfm, hIs.next, ← hx] at hput
  have HP := Lib.hid hput
  have hle := hIs.2.1
  have hfine : ({ thZ 0 with n := (q : Int) } : Th).Fine := ⟨by show (q : Int) < _; have := numP_le h; omega, by simp [thZ], by simp [thZ], by simp [thZ], by simp [thZ]⟩
  rw [← hx] at hfine
  have HFI := Lib.hid hfine
  clear hput hIs hfm hfl hfine
  clear bA F G hd h hZ hz41 hz1 hx
  go_enter Try.func40, Try.ntmps40
  go_wp2_with (refine wpList_store_new rfl 39 _ _ rfl Z rfl (congrArg Value.agg HZ.out) (Eq.trans (b := 41) (by kernel_rfl) HZ2.out) (HI.out.trans (congrArg some HZ2.out)) HZ1.out ?_)
  refine HC.out.mono ?_
  rintro e w1 ⟨u, rfl, rfl, h2, h3⟩
  have D1 := h3.cells HDA.out (by omega)
  have hwz : w.heap.size < w1.heap.size := by have := h3.size; omega
  have D2 : (w1.setCell ⟨w.heap.size, 1, none⟩ (.int .i64 (q : Int))).heap[w.heap.size]? = some (.cells (x.cells (.slice none 0 0)).toArray 39 (0, 0)) := by
    rw [HX.out, kb_set D1, ← HZ0.out]
    rfl
  have k12 : Keep (fun b => b = w.heap.size) w1 (w1.setCell ⟨w.heap.size, 1, none⟩ (.int .i64 (q : Int))) := (Keep.refl (fun b => b = w.heap.size) w1).set (p := ⟨w.heap.size, 1, none⟩) (fun _ => rfl) _
  have d1 : w1.cell? ⟨w.heap.size, 1, none⟩ = some (.int .i64 0) := by rw [kb_cell D1, ← HZ0.out]; rfl
  have z1 := kb_frozen D1 1
  have h2' := h2
  have F2 := h2'.keep k12 (by omega) (fun b h e => by have := hlow b h; omega)
  have G1 := HGA.out.keep h3 (fun b h e => Hd.out b (.inl e) h)
  have G2 := (G1).keep k12 (fun b h e => by have := hlowW b h; omega)
  have K2 := ((Keep.after HBA.out h3)).trans k12 (fun b h e => by omega)
  have V2 : BytesOf (w1.setCell ⟨w.heap.size, 1, none⟩ (.int .i64 (q : Int))) (.slice none 0 0) [] := RowOf.nil _ 0
  have HF2 := Lib.hid F2
  have HG2 := Lib.hid G2
  have HK2 := Lib.hid K2
  have HD2 := Lib.hid D2
  have HV2 := Lib.hid V2
  clear F2 G1 G2 K2 D1 D2 h2 h2' h3 k12 V2
  go_wp2_with fail
  refine (dEnd_any HF2.out).mono ?_
  rintro e w3 ⟨rfl, b3⟩
  rw [show endS xs (.at a') = (0, 0) by simp [endS, he]]
  have HF3 := Lib.hid (fun o => HF2.out.below (bl_alloc b3 o))
  have HG3 := Lib.hid (fun o => HG2.out.below (bl_alloc b3 o))
  have HK3 := Lib.hid (fun o => HK2.out.then_below (bl_alloc b3 o))
  have HD3 := Lib.hid (fun o => kb_alloc (kb_below b3 HD2.out) o)
  have HV3 := Lib.hid (fun o => HV2.out.below (bl_alloc b3 o))
  clear b3
  have hxb : x.b = [] := by rw [HX.out] <;> rfl
  have HRG := Lib.hid (fun o => range_of_kb (HD3.out o))
  have hcl : (x.cells (.slice none 0 0)).length = 41 := Th.cells_len HFI.out _
  go_wp2_with (with_reducible refine wpList_load_want 39 _ rfl (by kernel_rfl) w.heap.size 0 rfl (x.cells (.slice none 0 0)) _ (HRG.out _) Try.underlying39 rfl (HI.out.trans (congrArg some hcl.symm)) ?_)
  refine Calls.mono (puts_any HFI.out ?hv (HG3.out (.cells #[.int .i64 0, .int .i64 0] 60))) ?_
  case hv => rw [hxb]; exact HV3.out (.cells #[.int .i64 0, .int .i64 0] 60)
  rintro e w6 ⟨rfl, s6, G6, k6, n6⟩
  rw [HP.out.1]
  rw [HP.out.2] at G6
  have HF6 := Lib.hid ((HF3.out (.cells #[.int .i64 0, .int .i64 0] 60)).keep k6 (fun h => Hd.out pr (.inl rfl) h) (fun b h e => Hd.out b (.inr h) e))
  have HK6 := Lib.hid (((HK3.out (.cells #[.int .i64 0, .int .i64 0] 60)).mono (T := fun b => b = pr ∨ WrS pw sw b) fun _ _ h => .inl h).trans k6 fun _ _ h => .inr h)
  have hsz6 := (HK3.out (.cells #[.int .i64 0, .int .i64 0] 60)).size
  have HG6 := Lib.hid G6
  have HN6 := Lib.hid n6
  clear G6 k6 n6
  go_wp2_with fail
  go_ret
  exact ⟨true, .at a', rfl, HF6.out, HK6.out, fun _ => ⟨a', s6, rfl, HG6.out, fun b hb => (HN6.out b hb).imp id fun h => Nat.le_trans hsz6 h⟩, fun h => by simp at h⟩

set_option maxRecDepth 100000 in
set_option maxHeartbeats 1000000 in
theorem ag0_ok4 {w : World} {Br pr Bw pw : Nat} {sr sw : Value} {xs : List UInt8} {a : Nat} {q : Nat} {a' : Nat} (F : RdO w Br pr sr xs (.at a)) (G : Wr w Bw pw 1048576 (xs.take a) 0 sw) (hd : ∀ b, (b = pr ∨ sr.ownBlock = some b) → ¬ WrS pw sw b) (hlen : xs.length ≤ 600) (h : (numP xs) a = .ok q a') (he : a' < xs.length) :
    Calls Try.prog 40 #[.pointer (some ⟨pr, 0, none⟩), .pointer (some ⟨pw, 0, none⟩), .int .i64 0] w (AgainP w Br pr sr Bw pw sw xs) := by
  have HF := Lib.hid F
  have HG := Lib.hid G
  have Hd := Lib.hid hd
  have hlt := F.ltp
  have hltw := G.ltp
  have hi41 : (Try.prog.info? 39).map (·.size) = some 41 := by kernel_rfl
  have HI := Lib.hid hi41
  clear hi41
  obtain ⟨Z, hZ, hz41, hz1⟩ : ∃ Z, ((thZ 0).cells (.slice none 0 0)).toArray = Z ∧ 41 = Z.size ∧ Z.all (·.oneCell') = true := ⟨_, rfl, by simp [Th.cells, thZ, u8s_len], Th.one _ _ rfl⟩
  have HZ := Lib.hid ((thZ_cells 0).trans hZ)
  have HZ0 := Lib.hid hZ
  have HZ1 := Lib.hid hz1
  have HZ2 := Lib.hid hz41
  have bA : Below w.heap.size w (w.alloc (.cells Z 39)) := bl_alloc (Below.refl _ _) _
  have HBA := Lib.hid bA
  have HFA := Lib.hid (F.below bA)
  have HGA := Lib.hid (G.below bA)
  have HDA := Lib.hid (kb_new (w := w) rfl (.cells Z 39))
  have hsA : (w.alloc (.cells Z 39)).heap.size = w.heap.size + 1 := by simp
  have hlow : ∀ b, sr.ownBlock = some b → b < w.heap.size := fun b h => (F.low b h).2
  have hlowW : ∀ b, WrS pw sw b → b < w.heap.size := fun b h => (G.ltS h).2
  have HC := dNum_any HFA.out
  rw [step_ok h] at HC
  have HC := Lib.hid HC
  obtain ⟨x, hx⟩ : ∃ x : Th, x = { thZ 0 with n := (q : Int) } := ⟨_, rfl⟩
  have HX := Lib.hid hx
  have hIs := numP_one h
  have hfl := hIs.len
  have hfm : ({ thZ 0 with n := (q : Int) } : Th).form = numL q := rfl
  have hput := put_fit (lim := 1048576) (bs := xs.take a) (x := { thZ 0 with n := (q : Int) }) (fun _ => by simp [thZ]) (by simp [thZ]) (by rw [hfm]; have := hIs.2.1; omega)
  rw [hfm, hIs.next, ← hx] at hput
  have HP := Lib.hid hput
  have hle := hIs.2.1
  have hfine : ({ thZ 0 with n := (q : Int) } : Th).Fine := ⟨by show (q : Int) < _; have := numP_le h; omega, by simp [thZ], by simp [thZ], by simp [thZ], by simp [thZ]⟩
  rw [← hx] at hfine
  have HFI := Lib.hid hfine
  clear hput hIs hfm hfl hfine
  clear bA F G hd h hZ hz41 hz1 hx
  have hgt : decide ((0 : Int) < ((xs.length - a' : Nat) : Int)) = true := decide_eq_true (by omega)
  have hgt' : decide (0 < xs.length - a') = true := decide_eq_true (by omega)
  go_enter Try.func40, Try.ntmps40
  go_wp2_with (refine wpList_store_new rfl 39 _ _ rfl Z rfl (congrArg Value.agg HZ.out) (Eq.trans (b := 41) (by kernel_rfl) HZ2.out) (HI.out.trans (congrArg some HZ2.out)) HZ1.out ?_)
  refine HC.out.mono ?_
  rintro e w1 ⟨u, rfl, rfl, h2, h3⟩
  have D1 := h3.cells HDA.out (by omega)
  have hwz : w.heap.size < w1.heap.size := by have := h3.size; omega
  have D2 : (w1.setCell ⟨w.heap.size, 1, none⟩ (.int .i64 (q : Int))).heap[w.heap.size]? = some (.cells (x.cells (.slice none 0 0)).toArray 39 (0, 0)) := by
    rw [HX.out, kb_set D1, ← HZ0.out]
    rfl
  have k12 : Keep (fun b => b = w.heap.size) w1 (w1.setCell ⟨w.heap.size, 1, none⟩ (.int .i64 (q : Int))) := (Keep.refl (fun b => b = w.heap.size) w1).set (p := ⟨w.heap.size, 1, none⟩) (fun _ => rfl) _
  have d1 : w1.cell? ⟨w.heap.size, 1, none⟩ = some (.int .i64 0) := by rw [kb_cell D1, ← HZ0.out]; rfl
  have z1 := kb_frozen D1 1
  have h2' := h2
  have F2 := h2'.keep k12 (by omega) (fun b h e => by have := hlow b h; omega)
  have G1 := HGA.out.keep h3 (fun b h e => Hd.out b (.inl e) h)
  have G2 := (G1).keep k12 (fun b h e => by have := hlowW b h; omega)
  have K2 := ((Keep.after HBA.out h3)).trans k12 (fun b h e => by omega)
  have V2 : BytesOf (w1.setCell ⟨w.heap.size, 1, none⟩ (.int .i64 (q : Int))) (.slice none 0 0) [] := RowOf.nil _ 0
  have HF2 := Lib.hid F2
  have HG2 := Lib.hid G2
  have HK2 := Lib.hid K2
  have HD2 := Lib.hid D2
  have HV2 := Lib.hid V2
  clear F2 G1 G2 K2 D1 D2 h2 h2' h3 k12 V2
  go_wp2_with fail
  refine (dEnd_any HF2.out).mono ?_
  rintro e w3 ⟨rfl, b3⟩
  rw [show endS xs (.at a') = (4, a') by simp [endS, he]]
  have HF3 := Lib.hid (fun o => HF2.out.below (bl_alloc b3 o))
  have HG3 := Lib.hid (fun o => HG2.out.below (bl_alloc b3 o))
  have HK3 := Lib.hid (fun o => HK2.out.then_below (bl_alloc b3 o))
  have HD3 := Lib.hid (fun o => kb_alloc (kb_below b3 HD2.out) o)
  have HV3 := Lib.hid (fun o => HV2.out.below (bl_alloc b3 o))
  clear b3
  go_wp2_with fail
  refine (dRest_any (HF3.out _)).mono ?_
  rintro e w4 ⟨rfl, b4⟩
  have HF4 := Lib.hid ((HF3.out _).below b4)
  have HG4 := Lib.hid ((HG3.out _).below b4)
  have HK4 := Lib.hid ((HK3.out _).then_below b4)
  have HD4 := Lib.hid (kb_below b4 (HD3.out _))
  have HV4 := Lib.hid ((HV3.out _).below b4)
  clear b4
  rw [show restS xs (.at a') = xs.length - a' from rfl]
  have hxb : x.b = [] := by rw [HX.out] <;> rfl
  have HRG := Lib.hid (range_of_kb HD4.out)
  have hcl : (x.cells (.slice none 0 0)).length = 41 := Th.cells_len HFI.out _
  go_wp2_with (with_reducible refine wpList_load_want 39 _ rfl (by kernel_rfl) w.heap.size 0 rfl (x.cells (.slice none 0 0)) _ HRG.out Try.underlying39 rfl (HI.out.trans (congrArg some hcl.symm)) ?_)
  refine Calls.mono (puts_any HFI.out ?hv (HG4.out)) ?_
  case hv => rw [hxb]; exact HV4.out
  rintro e w6 ⟨rfl, s6, G6, k6, n6⟩
  rw [HP.out.1]
  rw [HP.out.2] at G6
  have HF6 := Lib.hid ((HF4.out).keep k6 (fun h => Hd.out pr (.inl rfl) h) (fun b h e => Hd.out b (.inr h) e))
  have HK6 := Lib.hid (((HK4.out).mono (T := fun b => b = pr ∨ WrS pw sw b) fun _ _ h => .inl h).trans k6 fun _ _ h => .inr h)
  have hsz6 := (HK4.out).size
  have HG6 := Lib.hid G6
  have HN6 := Lib.hid n6
  clear G6 k6 n6
  go_wp2_with fail
  go_ret
  exact ⟨true, .at a', rfl, HF6.out, HK6.out, fun _ => ⟨a', s6, rfl, HG6.out, fun b hb => (HN6.out b hb).imp id fun h => Nat.le_trans hsz6 h⟩, fun h => by simp at h⟩

set_option maxRecDepth 100000 in
set_option maxHeartbeats 1000000 in
theorem ag0_bad4 {w : World} {Br pr Bw pw : Nat} {sr sw : Value} {xs : List UInt8} {a : Nat} {er f : Nat} (F : RdO w Br pr sr xs (.at a)) (G : Wr w Bw pw 1048576 (xs.take a) 0 sw) (hd : ∀ b, (b = pr ∨ sr.ownBlock = some b) → ¬ WrS pw sw b) (hlen : xs.length ≤ 600) (h : (numP xs) a = .bad er f) (he : er = 4) :
    Calls Try.prog 40 #[.pointer (some ⟨pr, 0, none⟩), .pointer (some ⟨pw, 0, none⟩), .int .i64 0] w (AgainP w Br pr sr Bw pw sw xs) := by
  have HF := Lib.hid F
  have HG := Lib.hid G
  have Hd := Lib.hid hd
  have hlt := F.ltp
  have hltw := G.ltp
  have hi41 : (Try.prog.info? 39).map (·.size) = some 41 := by kernel_rfl
  have HI := Lib.hid hi41
  clear hi41
  obtain ⟨Z, hZ, hz41, hz1⟩ : ∃ Z, ((thZ 0).cells (.slice none 0 0)).toArray = Z ∧ 41 = Z.size ∧ Z.all (·.oneCell') = true := ⟨_, rfl, by simp [Th.cells, thZ, u8s_len], Th.one _ _ rfl⟩
  have HZ := Lib.hid ((thZ_cells 0).trans hZ)
  have HZ0 := Lib.hid hZ
  have HZ1 := Lib.hid hz1
  have HZ2 := Lib.hid hz41
  have bA : Below w.heap.size w (w.alloc (.cells Z 39)) := bl_alloc (Below.refl _ _) _
  have HBA := Lib.hid bA
  have HFA := Lib.hid (F.below bA)
  have HGA := Lib.hid (G.below bA)
  have HDA := Lib.hid (kb_new (w := w) rfl (.cells Z 39))
  have hsA : (w.alloc (.cells Z 39)).heap.size = w.heap.size + 1 := by simp
  have hlow : ∀ b, sr.ownBlock = some b → b < w.heap.size := fun b h => (F.low b h).2
  have hlowW : ∀ b, WrS pw sw b → b < w.heap.size := fun b h => (G.ltS h).2
  have her := numP_bad h
  have HC := dNum_any HFA.out
  obtain ⟨q, hq⟩ : ∃ q : Nat, 0 = q := ⟨_, rfl⟩
  rw [step_bad h, show ((0 : Nat), St.bad er f) = (q, St.bad er f) by rw [hq]] at HC
  have HC := Lib.hid HC
  clear hq
  obtain ⟨x, hx⟩ : ∃ x : Th, x = { thZ 0 with n := (q : Int) } := ⟨_, rfl⟩
  have HX := Lib.hid hx
  clear bA F G hd h hZ hz41 hz1 hx
  subst he
  go_enter Try.func40, Try.ntmps40
  go_wp2_with (refine wpList_store_new rfl 39 _ _ rfl Z rfl (congrArg Value.agg HZ.out) (Eq.trans (b := 41) (by kernel_rfl) HZ2.out) (HI.out.trans (congrArg some HZ2.out)) HZ1.out ?_)
  refine HC.out.mono ?_
  rintro e w1 ⟨u, rfl, rfl, h2, h3⟩
  have D1 := h3.cells HDA.out (by omega)
  have hwz : w.heap.size < w1.heap.size := by have := h3.size; omega
  have D2 : (w1.setCell ⟨w.heap.size, 1, none⟩ (.int .i64 (q : Int))).heap[w.heap.size]? = some (.cells (x.cells (.slice none 0 0)).toArray 39 (0, 0)) := by
    rw [HX.out, kb_set D1, ← HZ0.out]
    rfl
  have k12 : Keep (fun b => b = w.heap.size) w1 (w1.setCell ⟨w.heap.size, 1, none⟩ (.int .i64 (q : Int))) := (Keep.refl (fun b => b = w.heap.size) w1).set (p := ⟨w.heap.size, 1, none⟩) (fun _ => rfl) _
  have d1 : w1.cell? ⟨w.heap.size, 1, none⟩ = some (.int .i64 0) := by rw [kb_cell D1, ← HZ0.out]; rfl
  have z1 := kb_frozen D1 1
  have h2' := h2
  have F2 := h2'.keep k12 (by omega) (fun b h e => by have := hlow b h; omega)
  have G1 := HGA.out.keep h3 (fun b h e => Hd.out b (.inl e) h)
  have G2 := (G1).keep k12 (fun b h e => by have := hlowW b h; omega)
  have K2 := ((Keep.after HBA.out h3)).trans k12 (fun b h e => by omega)
  have V2 : BytesOf (w1.setCell ⟨w.heap.size, 1, none⟩ (.int .i64 (q : Int))) (.slice none 0 0) [] := RowOf.nil _ 0
  have HF2 := Lib.hid F2
  have HG2 := Lib.hid G2
  have HK2 := Lib.hid K2
  have HD2 := Lib.hid D2
  have HV2 := Lib.hid V2
  clear F2 G1 G2 K2 D1 D2 h2 h2' h3 k12 V2
  go_wp2_with fail
  refine (dEnd_any HF2.out).mono ?_
  rintro e w3 ⟨rfl, b3⟩
  rw [show endS xs (.bad 4 f) = (4, f) from rfl]
  have HF3 := Lib.hid (fun o => HF2.out.below (bl_alloc b3 o))
  have HG3 := Lib.hid (fun o => HG2.out.below (bl_alloc b3 o))
  have HK3 := Lib.hid (fun o => HK2.out.then_below (bl_alloc b3 o))
  have HD3 := Lib.hid (fun o => kb_alloc (kb_below b3 HD2.out) o)
  have HV3 := Lib.hid (fun o => HV2.out.below (bl_alloc b3 o))
  clear b3
  go_wp2_with fail
  refine (dRest_any (HF3.out _)).mono ?_
  rintro e w4 ⟨rfl, b4⟩
  have HF4 := Lib.hid ((HF3.out _).below b4)
  have HG4 := Lib.hid ((HG3.out _).below b4)
  have HK4 := Lib.hid ((HK3.out _).then_below b4)
  have HD4 := Lib.hid (kb_below b4 (HD3.out _))
  have HV4 := Lib.hid ((HV3.out _).below b4)
  clear b4
  rw [show restS xs (.bad 4 f) = 0 from rfl]
  go_wp2_with fail
  go_ret
  exact ⟨false, .bad 4 f, rfl, HF4.out, (HK4.out).mono fun _ _ h => .inl h, fun h => by simp at h, fun _ => ⟨4, f, by omega, rfl, _, _, _, HG4.out⟩⟩

set_option maxRecDepth 100000 in
set_option maxHeartbeats 1000000 in
theorem ag0_bad {w : World} {Br pr Bw pw : Nat} {sr sw : Value} {xs : List UInt8} {a : Nat} {er f : Nat} (F : RdO w Br pr sr xs (.at a)) (G : Wr w Bw pw 1048576 (xs.take a) 0 sw) (hd : ∀ b, (b = pr ∨ sr.ownBlock = some b) → ¬ WrS pw sw b) (hlen : xs.length ≤ 600) (h : (numP xs) a = .bad er f) (he : er ≠ 4) :
    Calls Try.prog 40 #[.pointer (some ⟨pr, 0, none⟩), .pointer (some ⟨pw, 0, none⟩), .int .i64 0] w (AgainP w Br pr sr Bw pw sw xs) := by
  have HF := Lib.hid F
  have HG := Lib.hid G
  have Hd := Lib.hid hd
  have hlt := F.ltp
  have hltw := G.ltp
  have hi41 : (Try.prog.info? 39).map (·.size) = some 41 := by kernel_rfl
  have HI := Lib.hid hi41
  clear hi41
  obtain ⟨Z, hZ, hz41, hz1⟩ : ∃ Z, ((thZ 0).cells (.slice none 0 0)).toArray = Z ∧ 41 = Z.size ∧ Z.all (·.oneCell') = true := ⟨_, rfl, by simp [Th.cells, thZ, u8s_len], Th.one _ _ rfl⟩
  have HZ := Lib.hid ((thZ_cells 0).trans hZ)
  have HZ0 := Lib.hid hZ
  have HZ1 := Lib.hid hz1
  have HZ2 := Lib.hid hz41
  have bA : Below w.heap.size w (w.alloc (.cells Z 39)) := bl_alloc (Below.refl _ _) _
  have HBA := Lib.hid bA
  have HFA := Lib.hid (F.below bA)
  have HGA := Lib.hid (G.below bA)
  have HDA := Lib.hid (kb_new (w := w) rfl (.cells Z 39))
  have hsA : (w.alloc (.cells Z 39)).heap.size = w.heap.size + 1 := by simp
  have hlow : ∀ b, sr.ownBlock = some b → b < w.heap.size := fun b h => (F.low b h).2
  have hlowW : ∀ b, WrS pw sw b → b < w.heap.size := fun b h => (G.ltS h).2
  have her := numP_bad h
  have HC := dNum_any HFA.out
  obtain ⟨q, hq⟩ : ∃ q : Nat, 0 = q := ⟨_, rfl⟩
  rw [step_bad h, show ((0 : Nat), St.bad er f) = (q, St.bad er f) by rw [hq]] at HC
  have HC := Lib.hid HC
  clear hq
  obtain ⟨x, hx⟩ : ∃ x : Th, x = { thZ 0 with n := (q : Int) } := ⟨_, rfl⟩
  have HX := Lib.hid hx
  clear bA F G hd h hZ hz41 hz1 hx
  have he4 : ((er : Int) == 4) = false := by simp; omega
  have he4' : (er == 4) = false := by simpa using he
  have he0 : ((er : Int) == 0) = false := by simp; omega
  have he0' : (er == 0) = false := by simpa using her
  go_enter Try.func40, Try.ntmps40
  go_wp2_with (refine wpList_store_new rfl 39 _ _ rfl Z rfl (congrArg Value.agg HZ.out) (Eq.trans (b := 41) (by kernel_rfl) HZ2.out) (HI.out.trans (congrArg some HZ2.out)) HZ1.out ?_)
  refine HC.out.mono ?_
  rintro e w1 ⟨u, rfl, rfl, h2, h3⟩
  have D1 := h3.cells HDA.out (by omega)
  have hwz : w.heap.size < w1.heap.size := by have := h3.size; omega
  have D2 : (w1.setCell ⟨w.heap.size, 1, none⟩ (.int .i64 (q : Int))).heap[w.heap.size]? = some (.cells (x.cells (.slice none 0 0)).toArray 39 (0, 0)) := by
    rw [HX.out, kb_set D1, ← HZ0.out]
    rfl
  have k12 : Keep (fun b => b = w.heap.size) w1 (w1.setCell ⟨w.heap.size, 1, none⟩ (.int .i64 (q : Int))) := (Keep.refl (fun b => b = w.heap.size) w1).set (p := ⟨w.heap.size, 1, none⟩) (fun _ => rfl) _
  have d1 : w1.cell? ⟨w.heap.size, 1, none⟩ = some (.int .i64 0) := by rw [kb_cell D1, ← HZ0.out]; rfl
  have z1 := kb_frozen D1 1
  have h2' := h2
  have F2 := h2'.keep k12 (by omega) (fun b h e => by have := hlow b h; omega)
  have G1 := HGA.out.keep h3 (fun b h e => Hd.out b (.inl e) h)
  have G2 := (G1).keep k12 (fun b h e => by have := hlowW b h; omega)
  have K2 := ((Keep.after HBA.out h3)).trans k12 (fun b h e => by omega)
  have V2 : BytesOf (w1.setCell ⟨w.heap.size, 1, none⟩ (.int .i64 (q : Int))) (.slice none 0 0) [] := RowOf.nil _ 0
  have HF2 := Lib.hid F2
  have HG2 := Lib.hid G2
  have HK2 := Lib.hid K2
  have HD2 := Lib.hid D2
  have HV2 := Lib.hid V2
  clear F2 G1 G2 K2 D1 D2 h2 h2' h3 k12 V2
  go_wp2_with fail
  refine (dEnd_any HF2.out).mono ?_
  rintro e w3 ⟨rfl, b3⟩
  rw [show endS xs (.bad er f) = (er, f) from rfl]
  have HF3 := Lib.hid (fun o => HF2.out.below (bl_alloc b3 o))
  have HG3 := Lib.hid (fun o => HG2.out.below (bl_alloc b3 o))
  have HK3 := Lib.hid (fun o => HK2.out.then_below (bl_alloc b3 o))
  have HD3 := Lib.hid (fun o => kb_alloc (kb_below b3 HD2.out) o)
  have HV3 := Lib.hid (fun o => HV2.out.below (bl_alloc b3 o))
  clear b3
  go_wp2_with fail
  go_ret
  exact ⟨false, .bad er f, rfl, HF3.out _, (HK3.out _).mono fun _ _ h => .inl h, fun h => by simp at h, fun _ => ⟨er, f, by omega, rfl, _, _, _, HG3.out _⟩⟩

set_option maxRecDepth 100000 in
set_option maxHeartbeats 1000000 in
theorem ag1_ok0 {w : World} {Br pr Bw pw : Nat} {sr sw : Value} {xs : List UInt8} {a : Nat} {q : List UInt8} {a' : Nat} (F : RdO w Br pr sr xs (.at a)) (G : Wr w Bw pw 1048576 (xs.take a) 0 sw) (hd : ∀ b, (b = pr ∨ sr.ownBlock = some b) → ¬ WrS pw sw b) (hlen : xs.length ≤ 600) (h : (bytesP xs 1000) a = .ok q a') (he : a' = xs.length) :
    Calls Try.prog 40 #[.pointer (some ⟨pr, 0, none⟩), .pointer (some ⟨pw, 0, none⟩), .int .i64 1] w (AgainP w Br pr sr Bw pw sw xs) := by
  have HF := Lib.hid F
  have HG := Lib.hid G
  have Hd := Lib.hid hd
  have hlt := F.ltp
  have hltw := G.ltp
  have hi41 : (Try.prog.info? 39).map (·.size) = some 41 := by kernel_rfl
  have HI := Lib.hid hi41
  clear hi41
  obtain ⟨Z, hZ, hz41, hz1⟩ : ∃ Z, ((thZ 1).cells (.slice none 0 0)).toArray = Z ∧ 41 = Z.size ∧ Z.all (·.oneCell') = true := ⟨_, rfl, by simp [Th.cells, thZ, u8s_len], Th.one _ _ rfl⟩
  have HZ := Lib.hid ((thZ_cells 1).trans hZ)
  have HZ0 := Lib.hid hZ
  have HZ1 := Lib.hid hz1
  have HZ2 := Lib.hid hz41
  have bA : Below w.heap.size w (w.alloc (.cells Z 39)) := bl_alloc (Below.refl _ _) _
  have HBA := Lib.hid bA
  have HFA := Lib.hid (F.below bA)
  have HGA := Lib.hid (G.below bA)
  have HDA := Lib.hid (kb_new (w := w) rfl (.cells Z 39))
  have hsA : (w.alloc (.cells Z 39)).heap.size = w.heap.size + 1 := by simp
  have hlow : ∀ b, sr.ownBlock = some b → b < w.heap.size := fun b h => (F.low b h).2
  have hlowW : ∀ b, WrS pw sw b → b < w.heap.size := fun b h => (G.ltS h).2
  have HC := dText_any 1000 HFA.out
  rw [step_ok h] at HC
  have HC := Lib.hid HC
  obtain ⟨x, hx⟩ : ∃ x : Th, x = { thZ 1 with b := q } := ⟨_, rfl⟩
  have HX := Lib.hid hx
  have hIs := bytesP_one h
  have hfl := hIs.len
  have hfm : ({ thZ 1 with b := q } : Th).form = numL q.length ++ q := rfl
  have hput := put_fit (lim := 1048576) (bs := xs.take a) (x := { thZ 1 with b := q }) (fun _ => by simp [thZ]) (by simp [thZ]) (by rw [hfm]; have := hIs.2.1; omega)
  rw [hfm, hIs.next, ← hx] at hput
  have HP := Lib.hid hput
  have hle := hIs.2.1
  have hfine : ({ thZ 1 with b := q } : Th).Fine := ⟨by simp [thZ], by show q.length ≤ _; rw [List.length_append] at hfl; omega, by simp [thZ], by simp [thZ], by simp [thZ]⟩
  rw [← hx] at hfine
  have HFI := Lib.hid hfine
  clear hput hIs hfm hfl hfine
  have hcv := fun W => Lib.run_convert_string_bytes (P := Try.prog) W 9 32 5 (strB q) Try.underlying9 Try.underlying32 Try.underlying5
  have hszs := strB_size q
  simp only [hszs] at hcv
  clear bA F G hd h hZ hz41 hz1 hx
  go_enter Try.func40, Try.ntmps40
  go_wp2_with (refine wpList_store_new rfl 39 _ _ rfl Z rfl (congrArg Value.agg HZ.out) (Eq.trans (b := 41) (by kernel_rfl) HZ2.out) (HI.out.trans (congrArg some HZ2.out)) HZ1.out ?_)
  refine HC.out.mono ?_
  rintro e w1 ⟨u, rfl, rfl, h2, h3⟩
  have D1 := h3.cells HDA.out (by omega)
  have hwz : w.heap.size < w1.heap.size := by have := h3.size; omega
  obtain ⟨bT, hT⟩ := text_bytes w1 (strB q)
  rw [hszs] at hT
  have D1 := kb_below bT D1
  have D2 : ((Lib.bytesWorld w1 5 (strB q)).setCell ⟨w.heap.size, 2, none⟩ (.slice (some ⟨w1.heap.size, 0, none⟩) q.length (grownCap w1 q.length 0 5))).heap[w.heap.size]? = some (.cells (x.cells (.slice (some ⟨w1.heap.size, 0, none⟩) q.length (grownCap w1 q.length 0 5))).toArray 39 (0, 0)) := by
    rw [HX.out, kb_set D1, ← HZ0.out]
    rfl
  have k12 : Keep (fun b => b = w.heap.size) (Lib.bytesWorld w1 5 (strB q)) ((Lib.bytesWorld w1 5 (strB q)).setCell ⟨w.heap.size, 2, none⟩ (.slice (some ⟨w1.heap.size, 0, none⟩) q.length (grownCap w1 q.length 0 5))) := (Keep.refl (fun b => b = w.heap.size) (Lib.bytesWorld w1 5 (strB q))).set (p := ⟨w.heap.size, 2, none⟩) (fun _ => rfl) _
  have d1 : (Lib.bytesWorld w1 5 (strB q)).cell? ⟨w.heap.size, 2, none⟩ = some (.slice none 0 0) := by rw [kb_cell D1, ← HZ0.out]; rfl
  have z1 := kb_frozen D1 2
  have h2' := h2.below bT
  have F2 := h2'.keep k12 (by omega) (fun b h e => by have := hlow b h; omega)
  have G1 := HGA.out.keep h3 (fun b h e => Hd.out b (.inl e) h)
  have G2 := (G1.below bT).keep k12 (fun b h e => by have := hlowW b h; omega)
  have K2 := ((Keep.after HBA.out h3).then_below bT).trans k12 (fun b h e => by omega)
  have V2 : BytesOf ((Lib.bytesWorld w1 5 (strB q)).setCell ⟨w.heap.size, 2, none⟩ (.slice (some ⟨w1.heap.size, 0, none⟩) q.length (grownCap w1 q.length 0 5))) (.slice (some ⟨w1.heap.size, 0, none⟩) q.length (grownCap w1 q.length 0 5)) q := by
    rw [strB_list] at hT
    exact hT.keep k12 (fun b h e => by simp [Value.ownBlock] at h; omega)
  have HF2 := Lib.hid F2
  have HG2 := Lib.hid G2
  have HK2 := Lib.hid K2
  have HD2 := Lib.hid D2
  have HV2 := Lib.hid V2
  clear F2 G1 G2 K2 D1 D2 h2 h2' h3 k12 V2 hT bT
  go_wp2_with fail
  refine (dEnd_any HF2.out).mono ?_
  rintro e w3 ⟨rfl, b3⟩
  rw [show endS xs (.at a') = (0, 0) by simp [endS, he]]
  have HF3 := Lib.hid (fun o => HF2.out.below (bl_alloc b3 o))
  have HG3 := Lib.hid (fun o => HG2.out.below (bl_alloc b3 o))
  have HK3 := Lib.hid (fun o => HK2.out.then_below (bl_alloc b3 o))
  have HD3 := Lib.hid (fun o => kb_alloc (kb_below b3 HD2.out) o)
  have HV3 := Lib.hid (fun o => HV2.out.below (bl_alloc b3 o))
  clear b3
  have hxb : x.b = q := by rw [HX.out] <;> rfl
  have HRG := Lib.hid (fun o => range_of_kb (HD3.out o))
  have hcl : (x.cells (.slice (some ⟨w1.heap.size, 0, none⟩) q.length (grownCap w1 q.length 0 5))).length = 41 := Th.cells_len HFI.out _
  go_wp2_with (with_reducible refine wpList_load_want 39 _ rfl (by kernel_rfl) w.heap.size 0 rfl (x.cells (.slice (some ⟨w1.heap.size, 0, none⟩) q.length (grownCap w1 q.length 0 5))) _ (HRG.out _) Try.underlying39 rfl (HI.out.trans (congrArg some hcl.symm)) ?_)
  refine Calls.mono (puts_any HFI.out ?hv (HG3.out (.cells #[.int .i64 0, .int .i64 0] 60))) ?_
  case hv => rw [hxb]; exact HV3.out (.cells #[.int .i64 0, .int .i64 0] 60)
  rintro e w6 ⟨rfl, s6, G6, k6, n6⟩
  rw [HP.out.1]
  rw [HP.out.2] at G6
  have HF6 := Lib.hid ((HF3.out (.cells #[.int .i64 0, .int .i64 0] 60)).keep k6 (fun h => Hd.out pr (.inl rfl) h) (fun b h e => Hd.out b (.inr h) e))
  have HK6 := Lib.hid (((HK3.out (.cells #[.int .i64 0, .int .i64 0] 60)).mono (T := fun b => b = pr ∨ WrS pw sw b) fun _ _ h => .inl h).trans k6 fun _ _ h => .inr h)
  have hsz6 := (HK3.out (.cells #[.int .i64 0, .int .i64 0] 60)).size
  have HG6 := Lib.hid G6
  have HN6 := Lib.hid n6
  clear G6 k6 n6
  go_wp2_with fail
  go_ret
  exact ⟨true, .at a', rfl, HF6.out, HK6.out, fun _ => ⟨a', s6, rfl, HG6.out, fun b hb => (HN6.out b hb).imp id fun h => Nat.le_trans hsz6 h⟩, fun h => by simp at h⟩

set_option maxRecDepth 100000 in
set_option maxHeartbeats 1000000 in
theorem ag1_ok4 {w : World} {Br pr Bw pw : Nat} {sr sw : Value} {xs : List UInt8} {a : Nat} {q : List UInt8} {a' : Nat} (F : RdO w Br pr sr xs (.at a)) (G : Wr w Bw pw 1048576 (xs.take a) 0 sw) (hd : ∀ b, (b = pr ∨ sr.ownBlock = some b) → ¬ WrS pw sw b) (hlen : xs.length ≤ 600) (h : (bytesP xs 1000) a = .ok q a') (he : a' < xs.length) :
    Calls Try.prog 40 #[.pointer (some ⟨pr, 0, none⟩), .pointer (some ⟨pw, 0, none⟩), .int .i64 1] w (AgainP w Br pr sr Bw pw sw xs) := by
  have HF := Lib.hid F
  have HG := Lib.hid G
  have Hd := Lib.hid hd
  have hlt := F.ltp
  have hltw := G.ltp
  have hi41 : (Try.prog.info? 39).map (·.size) = some 41 := by kernel_rfl
  have HI := Lib.hid hi41
  clear hi41
  obtain ⟨Z, hZ, hz41, hz1⟩ : ∃ Z, ((thZ 1).cells (.slice none 0 0)).toArray = Z ∧ 41 = Z.size ∧ Z.all (·.oneCell') = true := ⟨_, rfl, by simp [Th.cells, thZ, u8s_len], Th.one _ _ rfl⟩
  have HZ := Lib.hid ((thZ_cells 1).trans hZ)
  have HZ0 := Lib.hid hZ
  have HZ1 := Lib.hid hz1
  have HZ2 := Lib.hid hz41
  have bA : Below w.heap.size w (w.alloc (.cells Z 39)) := bl_alloc (Below.refl _ _) _
  have HBA := Lib.hid bA
  have HFA := Lib.hid (F.below bA)
  have HGA := Lib.hid (G.below bA)
  have HDA := Lib.hid (kb_new (w := w) rfl (.cells Z 39))
  have hsA : (w.alloc (.cells Z 39)).heap.size = w.heap.size + 1 := by simp
  have hlow : ∀ b, sr.ownBlock = some b → b < w.heap.size := fun b h => (F.low b h).2
  have hlowW : ∀ b, WrS pw sw b → b < w.heap.size := fun b h => (G.ltS h).2
  have HC := dText_any 1000 HFA.out
  rw [step_ok h] at HC
  have HC := Lib.hid HC
  obtain ⟨x, hx⟩ : ∃ x : Th, x = { thZ 1 with b := q } := ⟨_, rfl⟩
  have HX := Lib.hid hx
  have hIs := bytesP_one h
  have hfl := hIs.len
  have hfm : ({ thZ 1 with b := q } : Th).form = numL q.length ++ q := rfl
  have hput := put_fit (lim := 1048576) (bs := xs.take a) (x := { thZ 1 with b := q }) (fun _ => by simp [thZ]) (by simp [thZ]) (by rw [hfm]; have := hIs.2.1; omega)
  rw [hfm, hIs.next, ← hx] at hput
  have HP := Lib.hid hput
  have hle := hIs.2.1
  have hfine : ({ thZ 1 with b := q } : Th).Fine := ⟨by simp [thZ], by show q.length ≤ _; rw [List.length_append] at hfl; omega, by simp [thZ], by simp [thZ], by simp [thZ]⟩
  rw [← hx] at hfine
  have HFI := Lib.hid hfine
  clear hput hIs hfm hfl hfine
  have hcv := fun W => Lib.run_convert_string_bytes (P := Try.prog) W 9 32 5 (strB q) Try.underlying9 Try.underlying32 Try.underlying5
  have hszs := strB_size q
  simp only [hszs] at hcv
  clear bA F G hd h hZ hz41 hz1 hx
  have hgt : decide ((0 : Int) < ((xs.length - a' : Nat) : Int)) = true := decide_eq_true (by omega)
  have hgt' : decide (0 < xs.length - a') = true := decide_eq_true (by omega)
  go_enter Try.func40, Try.ntmps40
  go_wp2_with (refine wpList_store_new rfl 39 _ _ rfl Z rfl (congrArg Value.agg HZ.out) (Eq.trans (b := 41) (by kernel_rfl) HZ2.out) (HI.out.trans (congrArg some HZ2.out)) HZ1.out ?_)
  refine HC.out.mono ?_
  rintro e w1 ⟨u, rfl, rfl, h2, h3⟩
  have D1 := h3.cells HDA.out (by omega)
  have hwz : w.heap.size < w1.heap.size := by have := h3.size; omega
  obtain ⟨bT, hT⟩ := text_bytes w1 (strB q)
  rw [hszs] at hT
  have D1 := kb_below bT D1
  have D2 : ((Lib.bytesWorld w1 5 (strB q)).setCell ⟨w.heap.size, 2, none⟩ (.slice (some ⟨w1.heap.size, 0, none⟩) q.length (grownCap w1 q.length 0 5))).heap[w.heap.size]? = some (.cells (x.cells (.slice (some ⟨w1.heap.size, 0, none⟩) q.length (grownCap w1 q.length 0 5))).toArray 39 (0, 0)) := by
    rw [HX.out, kb_set D1, ← HZ0.out]
    rfl
  have k12 : Keep (fun b => b = w.heap.size) (Lib.bytesWorld w1 5 (strB q)) ((Lib.bytesWorld w1 5 (strB q)).setCell ⟨w.heap.size, 2, none⟩ (.slice (some ⟨w1.heap.size, 0, none⟩) q.length (grownCap w1 q.length 0 5))) := (Keep.refl (fun b => b = w.heap.size) (Lib.bytesWorld w1 5 (strB q))).set (p := ⟨w.heap.size, 2, none⟩) (fun _ => rfl) _
  have d1 : (Lib.bytesWorld w1 5 (strB q)).cell? ⟨w.heap.size, 2, none⟩ = some (.slice none 0 0) := by rw [kb_cell D1, ← HZ0.out]; rfl
  have z1 := kb_frozen D1 2
  have h2' := h2.below bT
  have F2 := h2'.keep k12 (by omega) (fun b h e => by have := hlow b h; omega)
  have G1 := HGA.out.keep h3 (fun b h e => Hd.out b (.inl e) h)
  have G2 := (G1.below bT).keep k12 (fun b h e => by have := hlowW b h; omega)
  have K2 := ((Keep.after HBA.out h3).then_below bT).trans k12 (fun b h e => by omega)
  have V2 : BytesOf ((Lib.bytesWorld w1 5 (strB q)).setCell ⟨w.heap.size, 2, none⟩ (.slice (some ⟨w1.heap.size, 0, none⟩) q.length (grownCap w1 q.length 0 5))) (.slice (some ⟨w1.heap.size, 0, none⟩) q.length (grownCap w1 q.length 0 5)) q := by
    rw [strB_list] at hT
    exact hT.keep k12 (fun b h e => by simp [Value.ownBlock] at h; omega)
  have HF2 := Lib.hid F2
  have HG2 := Lib.hid G2
  have HK2 := Lib.hid K2
  have HD2 := Lib.hid D2
  have HV2 := Lib.hid V2
  clear F2 G1 G2 K2 D1 D2 h2 h2' h3 k12 V2 hT bT
  go_wp2_with fail
  refine (dEnd_any HF2.out).mono ?_
  rintro e w3 ⟨rfl, b3⟩
  rw [show endS xs (.at a') = (4, a') by simp [endS, he]]
  have HF3 := Lib.hid (fun o => HF2.out.below (bl_alloc b3 o))
  have HG3 := Lib.hid (fun o => HG2.out.below (bl_alloc b3 o))
  have HK3 := Lib.hid (fun o => HK2.out.then_below (bl_alloc b3 o))
  have HD3 := Lib.hid (fun o => kb_alloc (kb_below b3 HD2.out) o)
  have HV3 := Lib.hid (fun o => HV2.out.below (bl_alloc b3 o))
  clear b3
  go_wp2_with fail
  refine (dRest_any (HF3.out _)).mono ?_
  rintro e w4 ⟨rfl, b4⟩
  have HF4 := Lib.hid ((HF3.out _).below b4)
  have HG4 := Lib.hid ((HG3.out _).below b4)
  have HK4 := Lib.hid ((HK3.out _).then_below b4)
  have HD4 := Lib.hid (kb_below b4 (HD3.out _))
  have HV4 := Lib.hid ((HV3.out _).below b4)
  clear b4
  rw [show restS xs (.at a') = xs.length - a' from rfl]
  have hxb : x.b = q := by rw [HX.out] <;> rfl
  have HRG := Lib.hid (range_of_kb HD4.out)
  have hcl : (x.cells (.slice (some ⟨w1.heap.size, 0, none⟩) q.length (grownCap w1 q.length 0 5))).length = 41 := Th.cells_len HFI.out _
  go_wp2_with (with_reducible refine wpList_load_want 39 _ rfl (by kernel_rfl) w.heap.size 0 rfl (x.cells (.slice (some ⟨w1.heap.size, 0, none⟩) q.length (grownCap w1 q.length 0 5))) _ HRG.out Try.underlying39 rfl (HI.out.trans (congrArg some hcl.symm)) ?_)
  refine Calls.mono (puts_any HFI.out ?hv (HG4.out)) ?_
  case hv => rw [hxb]; exact HV4.out
  rintro e w6 ⟨rfl, s6, G6, k6, n6⟩
  rw [HP.out.1]
  rw [HP.out.2] at G6
  have HF6 := Lib.hid ((HF4.out).keep k6 (fun h => Hd.out pr (.inl rfl) h) (fun b h e => Hd.out b (.inr h) e))
  have HK6 := Lib.hid (((HK4.out).mono (T := fun b => b = pr ∨ WrS pw sw b) fun _ _ h => .inl h).trans k6 fun _ _ h => .inr h)
  have hsz6 := (HK4.out).size
  have HG6 := Lib.hid G6
  have HN6 := Lib.hid n6
  clear G6 k6 n6
  go_wp2_with fail
  go_ret
  exact ⟨true, .at a', rfl, HF6.out, HK6.out, fun _ => ⟨a', s6, rfl, HG6.out, fun b hb => (HN6.out b hb).imp id fun h => Nat.le_trans hsz6 h⟩, fun h => by simp at h⟩

set_option maxRecDepth 100000 in
set_option maxHeartbeats 1000000 in
theorem ag1_bad4 {w : World} {Br pr Bw pw : Nat} {sr sw : Value} {xs : List UInt8} {a : Nat} {er f : Nat} (F : RdO w Br pr sr xs (.at a)) (G : Wr w Bw pw 1048576 (xs.take a) 0 sw) (hd : ∀ b, (b = pr ∨ sr.ownBlock = some b) → ¬ WrS pw sw b) (hlen : xs.length ≤ 600) (h : (bytesP xs 1000) a = .bad er f) (he : er = 4) :
    Calls Try.prog 40 #[.pointer (some ⟨pr, 0, none⟩), .pointer (some ⟨pw, 0, none⟩), .int .i64 1] w (AgainP w Br pr sr Bw pw sw xs) := by
  have HF := Lib.hid F
  have HG := Lib.hid G
  have Hd := Lib.hid hd
  have hlt := F.ltp
  have hltw := G.ltp
  have hi41 : (Try.prog.info? 39).map (·.size) = some 41 := by kernel_rfl
  have HI := Lib.hid hi41
  clear hi41
  obtain ⟨Z, hZ, hz41, hz1⟩ : ∃ Z, ((thZ 1).cells (.slice none 0 0)).toArray = Z ∧ 41 = Z.size ∧ Z.all (·.oneCell') = true := ⟨_, rfl, by simp [Th.cells, thZ, u8s_len], Th.one _ _ rfl⟩
  have HZ := Lib.hid ((thZ_cells 1).trans hZ)
  have HZ0 := Lib.hid hZ
  have HZ1 := Lib.hid hz1
  have HZ2 := Lib.hid hz41
  have bA : Below w.heap.size w (w.alloc (.cells Z 39)) := bl_alloc (Below.refl _ _) _
  have HBA := Lib.hid bA
  have HFA := Lib.hid (F.below bA)
  have HGA := Lib.hid (G.below bA)
  have HDA := Lib.hid (kb_new (w := w) rfl (.cells Z 39))
  have hsA : (w.alloc (.cells Z 39)).heap.size = w.heap.size + 1 := by simp
  have hlow : ∀ b, sr.ownBlock = some b → b < w.heap.size := fun b h => (F.low b h).2
  have hlowW : ∀ b, WrS pw sw b → b < w.heap.size := fun b h => (G.ltS h).2
  have her := bytesP_bad h
  have HC := dText_any 1000 HFA.out
  obtain ⟨q, hq⟩ : ∃ q : List UInt8, [] = q := ⟨_, rfl⟩
  rw [step_bad h, show (([] : List UInt8), St.bad er f) = (q, St.bad er f) by rw [hq]] at HC
  have HC := Lib.hid HC
  clear hq
  obtain ⟨x, hx⟩ : ∃ x : Th, x = { thZ 1 with b := q } := ⟨_, rfl⟩
  have HX := Lib.hid hx
  have hcv := fun W => Lib.run_convert_string_bytes (P := Try.prog) W 9 32 5 (strB q) Try.underlying9 Try.underlying32 Try.underlying5
  have hszs := strB_size q
  simp only [hszs] at hcv
  clear bA F G hd h hZ hz41 hz1 hx
  subst he
  go_enter Try.func40, Try.ntmps40
  go_wp2_with (refine wpList_store_new rfl 39 _ _ rfl Z rfl (congrArg Value.agg HZ.out) (Eq.trans (b := 41) (by kernel_rfl) HZ2.out) (HI.out.trans (congrArg some HZ2.out)) HZ1.out ?_)
  refine HC.out.mono ?_
  rintro e w1 ⟨u, rfl, rfl, h2, h3⟩
  have D1 := h3.cells HDA.out (by omega)
  have hwz : w.heap.size < w1.heap.size := by have := h3.size; omega
  obtain ⟨bT, hT⟩ := text_bytes w1 (strB q)
  rw [hszs] at hT
  have D1 := kb_below bT D1
  have D2 : ((Lib.bytesWorld w1 5 (strB q)).setCell ⟨w.heap.size, 2, none⟩ (.slice (some ⟨w1.heap.size, 0, none⟩) q.length (grownCap w1 q.length 0 5))).heap[w.heap.size]? = some (.cells (x.cells (.slice (some ⟨w1.heap.size, 0, none⟩) q.length (grownCap w1 q.length 0 5))).toArray 39 (0, 0)) := by
    rw [HX.out, kb_set D1, ← HZ0.out]
    rfl
  have k12 : Keep (fun b => b = w.heap.size) (Lib.bytesWorld w1 5 (strB q)) ((Lib.bytesWorld w1 5 (strB q)).setCell ⟨w.heap.size, 2, none⟩ (.slice (some ⟨w1.heap.size, 0, none⟩) q.length (grownCap w1 q.length 0 5))) := (Keep.refl (fun b => b = w.heap.size) (Lib.bytesWorld w1 5 (strB q))).set (p := ⟨w.heap.size, 2, none⟩) (fun _ => rfl) _
  have d1 : (Lib.bytesWorld w1 5 (strB q)).cell? ⟨w.heap.size, 2, none⟩ = some (.slice none 0 0) := by rw [kb_cell D1, ← HZ0.out]; rfl
  have z1 := kb_frozen D1 2
  have h2' := h2.below bT
  have F2 := h2'.keep k12 (by omega) (fun b h e => by have := hlow b h; omega)
  have G1 := HGA.out.keep h3 (fun b h e => Hd.out b (.inl e) h)
  have G2 := (G1.below bT).keep k12 (fun b h e => by have := hlowW b h; omega)
  have K2 := ((Keep.after HBA.out h3).then_below bT).trans k12 (fun b h e => by omega)
  have V2 : BytesOf ((Lib.bytesWorld w1 5 (strB q)).setCell ⟨w.heap.size, 2, none⟩ (.slice (some ⟨w1.heap.size, 0, none⟩) q.length (grownCap w1 q.length 0 5))) (.slice (some ⟨w1.heap.size, 0, none⟩) q.length (grownCap w1 q.length 0 5)) q := by
    rw [strB_list] at hT
    exact hT.keep k12 (fun b h e => by simp [Value.ownBlock] at h; omega)
  have HF2 := Lib.hid F2
  have HG2 := Lib.hid G2
  have HK2 := Lib.hid K2
  have HD2 := Lib.hid D2
  have HV2 := Lib.hid V2
  clear F2 G1 G2 K2 D1 D2 h2 h2' h3 k12 V2 hT bT
  go_wp2_with fail
  refine (dEnd_any HF2.out).mono ?_
  rintro e w3 ⟨rfl, b3⟩
  rw [show endS xs (.bad 4 f) = (4, f) from rfl]
  have HF3 := Lib.hid (fun o => HF2.out.below (bl_alloc b3 o))
  have HG3 := Lib.hid (fun o => HG2.out.below (bl_alloc b3 o))
  have HK3 := Lib.hid (fun o => HK2.out.then_below (bl_alloc b3 o))
  have HD3 := Lib.hid (fun o => kb_alloc (kb_below b3 HD2.out) o)
  have HV3 := Lib.hid (fun o => HV2.out.below (bl_alloc b3 o))
  clear b3
  go_wp2_with fail
  refine (dRest_any (HF3.out _)).mono ?_
  rintro e w4 ⟨rfl, b4⟩
  have HF4 := Lib.hid ((HF3.out _).below b4)
  have HG4 := Lib.hid ((HG3.out _).below b4)
  have HK4 := Lib.hid ((HK3.out _).then_below b4)
  have HD4 := Lib.hid (kb_below b4 (HD3.out _))
  have HV4 := Lib.hid ((HV3.out _).below b4)
  clear b4
  rw [show restS xs (.bad 4 f) = 0 from rfl]
  go_wp2_with fail
  go_ret
  exact ⟨false, .bad 4 f, rfl, HF4.out, (HK4.out).mono fun _ _ h => .inl h, fun h => by simp at h, fun _ => ⟨4, f, by omega, rfl, _, _, _, HG4.out⟩⟩

set_option maxRecDepth 100000 in
set_option maxHeartbeats 1000000 in
theorem ag1_bad {w : World} {Br pr Bw pw : Nat} {sr sw : Value} {xs : List UInt8} {a : Nat} {er f : Nat} (F : RdO w Br pr sr xs (.at a)) (G : Wr w Bw pw 1048576 (xs.take a) 0 sw) (hd : ∀ b, (b = pr ∨ sr.ownBlock = some b) → ¬ WrS pw sw b) (hlen : xs.length ≤ 600) (h : (bytesP xs 1000) a = .bad er f) (he : er ≠ 4) :
    Calls Try.prog 40 #[.pointer (some ⟨pr, 0, none⟩), .pointer (some ⟨pw, 0, none⟩), .int .i64 1] w (AgainP w Br pr sr Bw pw sw xs) := by
  have HF := Lib.hid F
  have HG := Lib.hid G
  have Hd := Lib.hid hd
  have hlt := F.ltp
  have hltw := G.ltp
  have hi41 : (Try.prog.info? 39).map (·.size) = some 41 := by kernel_rfl
  have HI := Lib.hid hi41
  clear hi41
  obtain ⟨Z, hZ, hz41, hz1⟩ : ∃ Z, ((thZ 1).cells (.slice none 0 0)).toArray = Z ∧ 41 = Z.size ∧ Z.all (·.oneCell') = true := ⟨_, rfl, by simp [Th.cells, thZ, u8s_len], Th.one _ _ rfl⟩
  have HZ := Lib.hid ((thZ_cells 1).trans hZ)
  have HZ0 := Lib.hid hZ
  have HZ1 := Lib.hid hz1
  have HZ2 := Lib.hid hz41
  have bA : Below w.heap.size w (w.alloc (.cells Z 39)) := bl_alloc (Below.refl _ _) _
  have HBA := Lib.hid bA
  have HFA := Lib.hid (F.below bA)
  have HGA := Lib.hid (G.below bA)
  have HDA := Lib.hid (kb_new (w := w) rfl (.cells Z 39))
  have hsA : (w.alloc (.cells Z 39)).heap.size = w.heap.size + 1 := by simp
  have hlow : ∀ b, sr.ownBlock = some b → b < w.heap.size := fun b h => (F.low b h).2
  have hlowW : ∀ b, WrS pw sw b → b < w.heap.size := fun b h => (G.ltS h).2
  have her := bytesP_bad h
  have HC := dText_any 1000 HFA.out
  obtain ⟨q, hq⟩ : ∃ q : List UInt8, [] = q := ⟨_, rfl⟩
  rw [step_bad h, show (([] : List UInt8), St.bad er f) = (q, St.bad er f) by rw [hq]] at HC
  have HC := Lib.hid HC
  clear hq
  obtain ⟨x, hx⟩ : ∃ x : Th, x = { thZ 1 with b := q } := ⟨_, rfl⟩
  have HX := Lib.hid hx
  have hcv := fun W => Lib.run_convert_string_bytes (P := Try.prog) W 9 32 5 (strB q) Try.underlying9 Try.underlying32 Try.underlying5
  have hszs := strB_size q
  simp only [hszs] at hcv
  clear bA F G hd h hZ hz41 hz1 hx
  have he4 : ((er : Int) == 4) = false := by simp; omega
  have he4' : (er == 4) = false := by simpa using he
  have he0 : ((er : Int) == 0) = false := by simp; omega
  have he0' : (er == 0) = false := by simpa using her
  go_enter Try.func40, Try.ntmps40
  go_wp2_with (refine wpList_store_new rfl 39 _ _ rfl Z rfl (congrArg Value.agg HZ.out) (Eq.trans (b := 41) (by kernel_rfl) HZ2.out) (HI.out.trans (congrArg some HZ2.out)) HZ1.out ?_)
  refine HC.out.mono ?_
  rintro e w1 ⟨u, rfl, rfl, h2, h3⟩
  have D1 := h3.cells HDA.out (by omega)
  have hwz : w.heap.size < w1.heap.size := by have := h3.size; omega
  obtain ⟨bT, hT⟩ := text_bytes w1 (strB q)
  rw [hszs] at hT
  have D1 := kb_below bT D1
  have D2 : ((Lib.bytesWorld w1 5 (strB q)).setCell ⟨w.heap.size, 2, none⟩ (.slice (some ⟨w1.heap.size, 0, none⟩) q.length (grownCap w1 q.length 0 5))).heap[w.heap.size]? = some (.cells (x.cells (.slice (some ⟨w1.heap.size, 0, none⟩) q.length (grownCap w1 q.length 0 5))).toArray 39 (0, 0)) := by
    rw [HX.out, kb_set D1, ← HZ0.out]
    rfl
  have k12 : Keep (fun b => b = w.heap.size) (Lib.bytesWorld w1 5 (strB q)) ((Lib.bytesWorld w1 5 (strB q)).setCell ⟨w.heap.size, 2, none⟩ (.slice (some ⟨w1.heap.size, 0, none⟩) q.length (grownCap w1 q.length 0 5))) := (Keep.refl (fun b => b = w.heap.size) (Lib.bytesWorld w1 5 (strB q))).set (p := ⟨w.heap.size, 2, none⟩) (fun _ => rfl) _
  have d1 : (Lib.bytesWorld w1 5 (strB q)).cell? ⟨w.heap.size, 2, none⟩ = some (.slice none 0 0) := by rw [kb_cell D1, ← HZ0.out]; rfl
  have z1 := kb_frozen D1 2
  have h2' := h2.below bT
  have F2 := h2'.keep k12 (by omega) (fun b h e => by have := hlow b h; omega)
  have G1 := HGA.out.keep h3 (fun b h e => Hd.out b (.inl e) h)
  have G2 := (G1.below bT).keep k12 (fun b h e => by have := hlowW b h; omega)
  have K2 := ((Keep.after HBA.out h3).then_below bT).trans k12 (fun b h e => by omega)
  have V2 : BytesOf ((Lib.bytesWorld w1 5 (strB q)).setCell ⟨w.heap.size, 2, none⟩ (.slice (some ⟨w1.heap.size, 0, none⟩) q.length (grownCap w1 q.length 0 5))) (.slice (some ⟨w1.heap.size, 0, none⟩) q.length (grownCap w1 q.length 0 5)) q := by
    rw [strB_list] at hT
    exact hT.keep k12 (fun b h e => by simp [Value.ownBlock] at h; omega)
  have HF2 := Lib.hid F2
  have HG2 := Lib.hid G2
  have HK2 := Lib.hid K2
  have HD2 := Lib.hid D2
  have HV2 := Lib.hid V2
  clear F2 G1 G2 K2 D1 D2 h2 h2' h3 k12 V2 hT bT
  go_wp2_with fail
  refine (dEnd_any HF2.out).mono ?_
  rintro e w3 ⟨rfl, b3⟩
  rw [show endS xs (.bad er f) = (er, f) from rfl]
  have HF3 := Lib.hid (fun o => HF2.out.below (bl_alloc b3 o))
  have HG3 := Lib.hid (fun o => HG2.out.below (bl_alloc b3 o))
  have HK3 := Lib.hid (fun o => HK2.out.then_below (bl_alloc b3 o))
  have HD3 := Lib.hid (fun o => kb_alloc (kb_below b3 HD2.out) o)
  have HV3 := Lib.hid (fun o => HV2.out.below (bl_alloc b3 o))
  clear b3
  go_wp2_with fail
  go_ret
  exact ⟨false, .bad er f, rfl, HF3.out _, (HK3.out _).mono fun _ _ h => .inl h, fun h => by simp at h, fun _ => ⟨er, f, by omega, rfl, _, _, _, HG3.out _⟩⟩

set_option maxRecDepth 100000 in
set_option maxHeartbeats 1000000 in
theorem ag2_ok0 {w : World} {Br pr Bw pw : Nat} {sr sw : Value} {xs : List UInt8} {a : Nat} {q : List UInt8} {a' : Nat} (F : RdO w Br pr sr xs (.at a)) (G : Wr w Bw pw 1048576 (xs.take a) 0 sw) (hd : ∀ b, (b = pr ∨ sr.ownBlock = some b) → ¬ WrS pw sw b) (hlen : xs.length ≤ 600) (h : (bytesP xs 1000) a = .ok q a') (he : a' = xs.length) :
    Calls Try.prog 40 #[.pointer (some ⟨pr, 0, none⟩), .pointer (some ⟨pw, 0, none⟩), .int .i64 2] w (AgainP w Br pr sr Bw pw sw xs) := by
  have HF := Lib.hid F
  have HG := Lib.hid G
  have Hd := Lib.hid hd
  have hlt := F.ltp
  have hltw := G.ltp
  have hi41 : (Try.prog.info? 39).map (·.size) = some 41 := by kernel_rfl
  have HI := Lib.hid hi41
  clear hi41
  obtain ⟨Z, hZ, hz41, hz1⟩ : ∃ Z, ((thZ 2).cells (.slice none 0 0)).toArray = Z ∧ 41 = Z.size ∧ Z.all (·.oneCell') = true := ⟨_, rfl, by simp [Th.cells, thZ, u8s_len], Th.one _ _ rfl⟩
  have HZ := Lib.hid ((thZ_cells 2).trans hZ)
  have HZ0 := Lib.hid hZ
  have HZ1 := Lib.hid hz1
  have HZ2 := Lib.hid hz41
  have bA : Below w.heap.size w (w.alloc (.cells Z 39)) := bl_alloc (Below.refl _ _) _
  have HBA := Lib.hid bA
  have HFA := Lib.hid (F.below bA)
  have HGA := Lib.hid (G.below bA)
  have HDA := Lib.hid (kb_new (w := w) rfl (.cells Z 39))
  have hsA : (w.alloc (.cells Z 39)).heap.size = w.heap.size + 1 := by simp
  have hlow : ∀ b, sr.ownBlock = some b → b < w.heap.size := fun b h => (F.low b h).2
  have hlowW : ∀ b, WrS pw sw b → b < w.heap.size := fun b h => (G.ltS h).2
  have HC := dBytes_any 1000 HFA.out
  rw [step_ok h] at HC
  have HC := Lib.hid HC
  obtain ⟨x, hx⟩ : ∃ x : Th, x = { thZ 2 with b := q } := ⟨_, rfl⟩
  have HX := Lib.hid hx
  have hIs := bytesP_one h
  have hfl := hIs.len
  have hfm : ({ thZ 2 with b := q } : Th).form = numL q.length ++ q := rfl
  have hput := put_fit (lim := 1048576) (bs := xs.take a) (x := { thZ 2 with b := q }) (fun _ => by simp [thZ]) (by simp [thZ]) (by rw [hfm]; have := hIs.2.1; omega)
  rw [hfm, hIs.next, ← hx] at hput
  have HP := Lib.hid hput
  have hle := hIs.2.1
  have hfine : ({ thZ 2 with b := q } : Th).Fine := ⟨by simp [thZ], by show q.length ≤ _; rw [List.length_append] at hfl; omega, by simp [thZ], by simp [thZ], by simp [thZ]⟩
  rw [← hx] at hfine
  have HFI := Lib.hid hfine
  clear hput hIs hfm hfl hfine
  clear bA F G hd h hZ hz41 hz1 hx
  go_enter Try.func40, Try.ntmps40
  go_wp2_with (refine wpList_store_new rfl 39 _ _ rfl Z rfl (congrArg Value.agg HZ.out) (Eq.trans (b := 41) (by kernel_rfl) HZ2.out) (HI.out.trans (congrArg some HZ2.out)) HZ1.out ?_)
  refine HC.out.mono ?_
  rintro e w1 ⟨u, rfl, hu, h2, h3⟩
  have D1 := h3.cells HDA.out (by omega)
  have hwz : w.heap.size < w1.heap.size := by have := h3.size; omega
  obtain ⟨Au, cu, hv⟩ := (RowOf.of_own hu).form
  subst hv
  have D2 : (w1.setCell ⟨w.heap.size, 2, none⟩ (.slice Au q.length cu)).heap[w.heap.size]? = some (.cells (x.cells (.slice Au q.length cu)).toArray 39 (0, 0)) := by
    rw [HX.out, kb_set D1, ← HZ0.out]
    rfl
  have k12 : Keep (fun b => b = w.heap.size) w1 (w1.setCell ⟨w.heap.size, 2, none⟩ (.slice Au q.length cu)) := (Keep.refl (fun b => b = w.heap.size) w1).set (p := ⟨w.heap.size, 2, none⟩) (fun _ => rfl) _
  have d1 : w1.cell? ⟨w.heap.size, 2, none⟩ = some (.slice none 0 0) := by rw [kb_cell D1, ← HZ0.out]; rfl
  have z1 := kb_frozen D1 2
  have h2' := h2
  have F2 := h2'.keep k12 (by omega) (fun b h e => by have := hlow b h; omega)
  have G1 := HGA.out.keep h3 (fun b h e => Hd.out b (.inl e) h)
  have G2 := (G1).keep k12 (fun b h e => by have := hlowW b h; omega)
  have K2 := ((Keep.after HBA.out h3)).trans k12 (fun b h e => by omega)
  have V2 : BytesOf (w1.setCell ⟨w.heap.size, 2, none⟩ (.slice Au q.length cu)) (.slice Au q.length cu) q := (RowOf.of_own hu).keep k12 (fun b h e => by have := (hu.lt b h).1; omega)
  have HF2 := Lib.hid F2
  have HG2 := Lib.hid G2
  have HK2 := Lib.hid K2
  have HD2 := Lib.hid D2
  have HV2 := Lib.hid V2
  clear F2 G1 G2 K2 D1 D2 h2 h2' h3 k12 V2 hu
  go_wp2_with fail
  refine (dEnd_any HF2.out).mono ?_
  rintro e w3 ⟨rfl, b3⟩
  rw [show endS xs (.at a') = (0, 0) by simp [endS, he]]
  have HF3 := Lib.hid (fun o => HF2.out.below (bl_alloc b3 o))
  have HG3 := Lib.hid (fun o => HG2.out.below (bl_alloc b3 o))
  have HK3 := Lib.hid (fun o => HK2.out.then_below (bl_alloc b3 o))
  have HD3 := Lib.hid (fun o => kb_alloc (kb_below b3 HD2.out) o)
  have HV3 := Lib.hid (fun o => HV2.out.below (bl_alloc b3 o))
  clear b3
  have hxb : x.b = q := by rw [HX.out] <;> rfl
  have HRG := Lib.hid (fun o => range_of_kb (HD3.out o))
  have hcl : (x.cells (.slice Au q.length cu)).length = 41 := Th.cells_len HFI.out _
  go_wp2_with (with_reducible refine wpList_load_want 39 _ rfl (by kernel_rfl) w.heap.size 0 rfl (x.cells (.slice Au q.length cu)) _ (HRG.out _) Try.underlying39 rfl (HI.out.trans (congrArg some hcl.symm)) ?_)
  refine Calls.mono (puts_any HFI.out ?hv (HG3.out (.cells #[.int .i64 0, .int .i64 0] 60))) ?_
  case hv => rw [hxb]; exact HV3.out (.cells #[.int .i64 0, .int .i64 0] 60)
  rintro e w6 ⟨rfl, s6, G6, k6, n6⟩
  rw [HP.out.1]
  rw [HP.out.2] at G6
  have HF6 := Lib.hid ((HF3.out (.cells #[.int .i64 0, .int .i64 0] 60)).keep k6 (fun h => Hd.out pr (.inl rfl) h) (fun b h e => Hd.out b (.inr h) e))
  have HK6 := Lib.hid (((HK3.out (.cells #[.int .i64 0, .int .i64 0] 60)).mono (T := fun b => b = pr ∨ WrS pw sw b) fun _ _ h => .inl h).trans k6 fun _ _ h => .inr h)
  have hsz6 := (HK3.out (.cells #[.int .i64 0, .int .i64 0] 60)).size
  have HG6 := Lib.hid G6
  have HN6 := Lib.hid n6
  clear G6 k6 n6
  go_wp2_with fail
  go_ret
  exact ⟨true, .at a', rfl, HF6.out, HK6.out, fun _ => ⟨a', s6, rfl, HG6.out, fun b hb => (HN6.out b hb).imp id fun h => Nat.le_trans hsz6 h⟩, fun h => by simp at h⟩

set_option maxRecDepth 100000 in
set_option maxHeartbeats 1000000 in
theorem ag2_ok4 {w : World} {Br pr Bw pw : Nat} {sr sw : Value} {xs : List UInt8} {a : Nat} {q : List UInt8} {a' : Nat} (F : RdO w Br pr sr xs (.at a)) (G : Wr w Bw pw 1048576 (xs.take a) 0 sw) (hd : ∀ b, (b = pr ∨ sr.ownBlock = some b) → ¬ WrS pw sw b) (hlen : xs.length ≤ 600) (h : (bytesP xs 1000) a = .ok q a') (he : a' < xs.length) :
    Calls Try.prog 40 #[.pointer (some ⟨pr, 0, none⟩), .pointer (some ⟨pw, 0, none⟩), .int .i64 2] w (AgainP w Br pr sr Bw pw sw xs) := by
  have HF := Lib.hid F
  have HG := Lib.hid G
  have Hd := Lib.hid hd
  have hlt := F.ltp
  have hltw := G.ltp
  have hi41 : (Try.prog.info? 39).map (·.size) = some 41 := by kernel_rfl
  have HI := Lib.hid hi41
  clear hi41
  obtain ⟨Z, hZ, hz41, hz1⟩ : ∃ Z, ((thZ 2).cells (.slice none 0 0)).toArray = Z ∧ 41 = Z.size ∧ Z.all (·.oneCell') = true := ⟨_, rfl, by simp [Th.cells, thZ, u8s_len], Th.one _ _ rfl⟩
  have HZ := Lib.hid ((thZ_cells 2).trans hZ)
  have HZ0 := Lib.hid hZ
  have HZ1 := Lib.hid hz1
  have HZ2 := Lib.hid hz41
  have bA : Below w.heap.size w (w.alloc (.cells Z 39)) := bl_alloc (Below.refl _ _) _
  have HBA := Lib.hid bA
  have HFA := Lib.hid (F.below bA)
  have HGA := Lib.hid (G.below bA)
  have HDA := Lib.hid (kb_new (w := w) rfl (.cells Z 39))
  have hsA : (w.alloc (.cells Z 39)).heap.size = w.heap.size + 1 := by simp
  have hlow : ∀ b, sr.ownBlock = some b → b < w.heap.size := fun b h => (F.low b h).2
  have hlowW : ∀ b, WrS pw sw b → b < w.heap.size := fun b h => (G.ltS h).2
  have HC := dBytes_any 1000 HFA.out
  rw [step_ok h] at HC
  have HC := Lib.hid HC
  obtain ⟨x, hx⟩ : ∃ x : Th, x = { thZ 2 with b := q } := ⟨_, rfl⟩
  have HX := Lib.hid hx
  have hIs := bytesP_one h
  have hfl := hIs.len
  have hfm : ({ thZ 2 with b := q } : Th).form = numL q.length ++ q := rfl
  have hput := put_fit (lim := 1048576) (bs := xs.take a) (x := { thZ 2 with b := q }) (fun _ => by simp [thZ]) (by simp [thZ]) (by rw [hfm]; have := hIs.2.1; omega)
  rw [hfm, hIs.next, ← hx] at hput
  have HP := Lib.hid hput
  have hle := hIs.2.1
  have hfine : ({ thZ 2 with b := q } : Th).Fine := ⟨by simp [thZ], by show q.length ≤ _; rw [List.length_append] at hfl; omega, by simp [thZ], by simp [thZ], by simp [thZ]⟩
  rw [← hx] at hfine
  have HFI := Lib.hid hfine
  clear hput hIs hfm hfl hfine
  clear bA F G hd h hZ hz41 hz1 hx
  have hgt : decide ((0 : Int) < ((xs.length - a' : Nat) : Int)) = true := decide_eq_true (by omega)
  have hgt' : decide (0 < xs.length - a') = true := decide_eq_true (by omega)
  go_enter Try.func40, Try.ntmps40
  go_wp2_with (refine wpList_store_new rfl 39 _ _ rfl Z rfl (congrArg Value.agg HZ.out) (Eq.trans (b := 41) (by kernel_rfl) HZ2.out) (HI.out.trans (congrArg some HZ2.out)) HZ1.out ?_)
  refine HC.out.mono ?_
  rintro e w1 ⟨u, rfl, hu, h2, h3⟩
  have D1 := h3.cells HDA.out (by omega)
  have hwz : w.heap.size < w1.heap.size := by have := h3.size; omega
  obtain ⟨Au, cu, hv⟩ := (RowOf.of_own hu).form
  subst hv
  have D2 : (w1.setCell ⟨w.heap.size, 2, none⟩ (.slice Au q.length cu)).heap[w.heap.size]? = some (.cells (x.cells (.slice Au q.length cu)).toArray 39 (0, 0)) := by
    rw [HX.out, kb_set D1, ← HZ0.out]
    rfl
  have k12 : Keep (fun b => b = w.heap.size) w1 (w1.setCell ⟨w.heap.size, 2, none⟩ (.slice Au q.length cu)) := (Keep.refl (fun b => b = w.heap.size) w1).set (p := ⟨w.heap.size, 2, none⟩) (fun _ => rfl) _
  have d1 : w1.cell? ⟨w.heap.size, 2, none⟩ = some (.slice none 0 0) := by rw [kb_cell D1, ← HZ0.out]; rfl
  have z1 := kb_frozen D1 2
  have h2' := h2
  have F2 := h2'.keep k12 (by omega) (fun b h e => by have := hlow b h; omega)
  have G1 := HGA.out.keep h3 (fun b h e => Hd.out b (.inl e) h)
  have G2 := (G1).keep k12 (fun b h e => by have := hlowW b h; omega)
  have K2 := ((Keep.after HBA.out h3)).trans k12 (fun b h e => by omega)
  have V2 : BytesOf (w1.setCell ⟨w.heap.size, 2, none⟩ (.slice Au q.length cu)) (.slice Au q.length cu) q := (RowOf.of_own hu).keep k12 (fun b h e => by have := (hu.lt b h).1; omega)
  have HF2 := Lib.hid F2
  have HG2 := Lib.hid G2
  have HK2 := Lib.hid K2
  have HD2 := Lib.hid D2
  have HV2 := Lib.hid V2
  clear F2 G1 G2 K2 D1 D2 h2 h2' h3 k12 V2 hu
  go_wp2_with fail
  refine (dEnd_any HF2.out).mono ?_
  rintro e w3 ⟨rfl, b3⟩
  rw [show endS xs (.at a') = (4, a') by simp [endS, he]]
  have HF3 := Lib.hid (fun o => HF2.out.below (bl_alloc b3 o))
  have HG3 := Lib.hid (fun o => HG2.out.below (bl_alloc b3 o))
  have HK3 := Lib.hid (fun o => HK2.out.then_below (bl_alloc b3 o))
  have HD3 := Lib.hid (fun o => kb_alloc (kb_below b3 HD2.out) o)
  have HV3 := Lib.hid (fun o => HV2.out.below (bl_alloc b3 o))
  clear b3
  go_wp2_with fail
  refine (dRest_any (HF3.out _)).mono ?_
  rintro e w4 ⟨rfl, b4⟩
  have HF4 := Lib.hid ((HF3.out _).below b4)
  have HG4 := Lib.hid ((HG3.out _).below b4)
  have HK4 := Lib.hid ((HK3.out _).then_below b4)
  have HD4 := Lib.hid (kb_below b4 (HD3.out _))
  have HV4 := Lib.hid ((HV3.out _).below b4)
  clear b4
  rw [show restS xs (.at a') = xs.length - a' from rfl]
  have hxb : x.b = q := by rw [HX.out] <;> rfl
  have HRG := Lib.hid (range_of_kb HD4.out)
  have hcl : (x.cells (.slice Au q.length cu)).length = 41 := Th.cells_len HFI.out _
  go_wp2_with (with_reducible refine wpList_load_want 39 _ rfl (by kernel_rfl) w.heap.size 0 rfl (x.cells (.slice Au q.length cu)) _ HRG.out Try.underlying39 rfl (HI.out.trans (congrArg some hcl.symm)) ?_)
  refine Calls.mono (puts_any HFI.out ?hv (HG4.out)) ?_
  case hv => rw [hxb]; exact HV4.out
  rintro e w6 ⟨rfl, s6, G6, k6, n6⟩
  rw [HP.out.1]
  rw [HP.out.2] at G6
  have HF6 := Lib.hid ((HF4.out).keep k6 (fun h => Hd.out pr (.inl rfl) h) (fun b h e => Hd.out b (.inr h) e))
  have HK6 := Lib.hid (((HK4.out).mono (T := fun b => b = pr ∨ WrS pw sw b) fun _ _ h => .inl h).trans k6 fun _ _ h => .inr h)
  have hsz6 := (HK4.out).size
  have HG6 := Lib.hid G6
  have HN6 := Lib.hid n6
  clear G6 k6 n6
  go_wp2_with fail
  go_ret
  exact ⟨true, .at a', rfl, HF6.out, HK6.out, fun _ => ⟨a', s6, rfl, HG6.out, fun b hb => (HN6.out b hb).imp id fun h => Nat.le_trans hsz6 h⟩, fun h => by simp at h⟩

set_option maxRecDepth 100000 in
set_option maxHeartbeats 1000000 in
theorem ag2_bad4 {w : World} {Br pr Bw pw : Nat} {sr sw : Value} {xs : List UInt8} {a : Nat} {er f : Nat} (F : RdO w Br pr sr xs (.at a)) (G : Wr w Bw pw 1048576 (xs.take a) 0 sw) (hd : ∀ b, (b = pr ∨ sr.ownBlock = some b) → ¬ WrS pw sw b) (hlen : xs.length ≤ 600) (h : (bytesP xs 1000) a = .bad er f) (he : er = 4) :
    Calls Try.prog 40 #[.pointer (some ⟨pr, 0, none⟩), .pointer (some ⟨pw, 0, none⟩), .int .i64 2] w (AgainP w Br pr sr Bw pw sw xs) := by
  have HF := Lib.hid F
  have HG := Lib.hid G
  have Hd := Lib.hid hd
  have hlt := F.ltp
  have hltw := G.ltp
  have hi41 : (Try.prog.info? 39).map (·.size) = some 41 := by kernel_rfl
  have HI := Lib.hid hi41
  clear hi41
  obtain ⟨Z, hZ, hz41, hz1⟩ : ∃ Z, ((thZ 2).cells (.slice none 0 0)).toArray = Z ∧ 41 = Z.size ∧ Z.all (·.oneCell') = true := ⟨_, rfl, by simp [Th.cells, thZ, u8s_len], Th.one _ _ rfl⟩
  have HZ := Lib.hid ((thZ_cells 2).trans hZ)
  have HZ0 := Lib.hid hZ
  have HZ1 := Lib.hid hz1
  have HZ2 := Lib.hid hz41
  have bA : Below w.heap.size w (w.alloc (.cells Z 39)) := bl_alloc (Below.refl _ _) _
  have HBA := Lib.hid bA
  have HFA := Lib.hid (F.below bA)
  have HGA := Lib.hid (G.below bA)
  have HDA := Lib.hid (kb_new (w := w) rfl (.cells Z 39))
  have hsA : (w.alloc (.cells Z 39)).heap.size = w.heap.size + 1 := by simp
  have hlow : ∀ b, sr.ownBlock = some b → b < w.heap.size := fun b h => (F.low b h).2
  have hlowW : ∀ b, WrS pw sw b → b < w.heap.size := fun b h => (G.ltS h).2
  have her := bytesP_bad h
  have HC := dBytes_any 1000 HFA.out
  obtain ⟨q, hq⟩ : ∃ q : List UInt8, [] = q := ⟨_, rfl⟩
  rw [step_bad h, show (([] : List UInt8), St.bad er f) = (q, St.bad er f) by rw [hq]] at HC
  have HC := Lib.hid HC
  clear hq
  obtain ⟨x, hx⟩ : ∃ x : Th, x = { thZ 2 with b := q } := ⟨_, rfl⟩
  have HX := Lib.hid hx
  clear bA F G hd h hZ hz41 hz1 hx
  subst he
  go_enter Try.func40, Try.ntmps40
  go_wp2_with (refine wpList_store_new rfl 39 _ _ rfl Z rfl (congrArg Value.agg HZ.out) (Eq.trans (b := 41) (by kernel_rfl) HZ2.out) (HI.out.trans (congrArg some HZ2.out)) HZ1.out ?_)
  refine HC.out.mono ?_
  rintro e w1 ⟨u, rfl, hu, h2, h3⟩
  have D1 := h3.cells HDA.out (by omega)
  have hwz : w.heap.size < w1.heap.size := by have := h3.size; omega
  obtain ⟨Au, cu, hv⟩ := (RowOf.of_own hu).form
  subst hv
  have D2 : (w1.setCell ⟨w.heap.size, 2, none⟩ (.slice Au q.length cu)).heap[w.heap.size]? = some (.cells (x.cells (.slice Au q.length cu)).toArray 39 (0, 0)) := by
    rw [HX.out, kb_set D1, ← HZ0.out]
    rfl
  have k12 : Keep (fun b => b = w.heap.size) w1 (w1.setCell ⟨w.heap.size, 2, none⟩ (.slice Au q.length cu)) := (Keep.refl (fun b => b = w.heap.size) w1).set (p := ⟨w.heap.size, 2, none⟩) (fun _ => rfl) _
  have d1 : w1.cell? ⟨w.heap.size, 2, none⟩ = some (.slice none 0 0) := by rw [kb_cell D1, ← HZ0.out]; rfl
  have z1 := kb_frozen D1 2
  have h2' := h2
  have F2 := h2'.keep k12 (by omega) (fun b h e => by have := hlow b h; omega)
  have G1 := HGA.out.keep h3 (fun b h e => Hd.out b (.inl e) h)
  have G2 := (G1).keep k12 (fun b h e => by have := hlowW b h; omega)
  have K2 := ((Keep.after HBA.out h3)).trans k12 (fun b h e => by omega)
  have V2 : BytesOf (w1.setCell ⟨w.heap.size, 2, none⟩ (.slice Au q.length cu)) (.slice Au q.length cu) q := (RowOf.of_own hu).keep k12 (fun b h e => by have := (hu.lt b h).1; omega)
  have HF2 := Lib.hid F2
  have HG2 := Lib.hid G2
  have HK2 := Lib.hid K2
  have HD2 := Lib.hid D2
  have HV2 := Lib.hid V2
  clear F2 G1 G2 K2 D1 D2 h2 h2' h3 k12 V2 hu
  go_wp2_with fail
  refine (dEnd_any HF2.out).mono ?_
  rintro e w3 ⟨rfl, b3⟩
  rw [show endS xs (.bad 4 f) = (4, f) from rfl]
  have HF3 := Lib.hid (fun o => HF2.out.below (bl_alloc b3 o))
  have HG3 := Lib.hid (fun o => HG2.out.below (bl_alloc b3 o))
  have HK3 := Lib.hid (fun o => HK2.out.then_below (bl_alloc b3 o))
  have HD3 := Lib.hid (fun o => kb_alloc (kb_below b3 HD2.out) o)
  have HV3 := Lib.hid (fun o => HV2.out.below (bl_alloc b3 o))
  clear b3
  go_wp2_with fail
  refine (dRest_any (HF3.out _)).mono ?_
  rintro e w4 ⟨rfl, b4⟩
  have HF4 := Lib.hid ((HF3.out _).below b4)
  have HG4 := Lib.hid ((HG3.out _).below b4)
  have HK4 := Lib.hid ((HK3.out _).then_below b4)
  have HD4 := Lib.hid (kb_below b4 (HD3.out _))
  have HV4 := Lib.hid ((HV3.out _).below b4)
  clear b4
  rw [show restS xs (.bad 4 f) = 0 from rfl]
  go_wp2_with fail
  go_ret
  exact ⟨false, .bad 4 f, rfl, HF4.out, (HK4.out).mono fun _ _ h => .inl h, fun h => by simp at h, fun _ => ⟨4, f, by omega, rfl, _, _, _, HG4.out⟩⟩

set_option maxRecDepth 100000 in
set_option maxHeartbeats 1000000 in
theorem ag2_bad {w : World} {Br pr Bw pw : Nat} {sr sw : Value} {xs : List UInt8} {a : Nat} {er f : Nat} (F : RdO w Br pr sr xs (.at a)) (G : Wr w Bw pw 1048576 (xs.take a) 0 sw) (hd : ∀ b, (b = pr ∨ sr.ownBlock = some b) → ¬ WrS pw sw b) (hlen : xs.length ≤ 600) (h : (bytesP xs 1000) a = .bad er f) (he : er ≠ 4) :
    Calls Try.prog 40 #[.pointer (some ⟨pr, 0, none⟩), .pointer (some ⟨pw, 0, none⟩), .int .i64 2] w (AgainP w Br pr sr Bw pw sw xs) := by
  have HF := Lib.hid F
  have HG := Lib.hid G
  have Hd := Lib.hid hd
  have hlt := F.ltp
  have hltw := G.ltp
  have hi41 : (Try.prog.info? 39).map (·.size) = some 41 := by kernel_rfl
  have HI := Lib.hid hi41
  clear hi41
  obtain ⟨Z, hZ, hz41, hz1⟩ : ∃ Z, ((thZ 2).cells (.slice none 0 0)).toArray = Z ∧ 41 = Z.size ∧ Z.all (·.oneCell') = true := ⟨_, rfl, by simp [Th.cells, thZ, u8s_len], Th.one _ _ rfl⟩
  have HZ := Lib.hid ((thZ_cells 2).trans hZ)
  have HZ0 := Lib.hid hZ
  have HZ1 := Lib.hid hz1
  have HZ2 := Lib.hid hz41
  have bA : Below w.heap.size w (w.alloc (.cells Z 39)) := bl_alloc (Below.refl _ _) _
  have HBA := Lib.hid bA
  have HFA := Lib.hid (F.below bA)
  have HGA := Lib.hid (G.below bA)
  have HDA := Lib.hid (kb_new (w := w) rfl (.cells Z 39))
  have hsA : (w.alloc (.cells Z 39)).heap.size = w.heap.size + 1 := by simp
  have hlow : ∀ b, sr.ownBlock = some b → b < w.heap.size := fun b h => (F.low b h).2
  have hlowW : ∀ b, WrS pw sw b → b < w.heap.size := fun b h => (G.ltS h).2
  have her := bytesP_bad h
  have HC := dBytes_any 1000 HFA.out
  obtain ⟨q, hq⟩ : ∃ q : List UInt8, [] = q := ⟨_, rfl⟩
  rw [step_bad h, show (([] : List UInt8), St.bad er f) = (q, St.bad er f) by rw [hq]] at HC
  have HC := Lib.hid HC
  clear hq
  obtain ⟨x, hx⟩ : ∃ x : Th, x = { thZ 2 with b := q } := ⟨_, rfl⟩
  have HX := Lib.hid hx
  clear bA F G hd h hZ hz41 hz1 hx
  have he4 : ((er : Int) == 4) = false := by simp; omega
  have he4' : (er == 4) = false := by simpa using he
  have he0 : ((er : Int) == 0) = false := by simp; omega
  have he0' : (er == 0) = false := by simpa using her
  go_enter Try.func40, Try.ntmps40
  go_wp2_with (refine wpList_store_new rfl 39 _ _ rfl Z rfl (congrArg Value.agg HZ.out) (Eq.trans (b := 41) (by kernel_rfl) HZ2.out) (HI.out.trans (congrArg some HZ2.out)) HZ1.out ?_)
  refine HC.out.mono ?_
  rintro e w1 ⟨u, rfl, hu, h2, h3⟩
  have D1 := h3.cells HDA.out (by omega)
  have hwz : w.heap.size < w1.heap.size := by have := h3.size; omega
  obtain ⟨Au, cu, hv⟩ := (RowOf.of_own hu).form
  subst hv
  have D2 : (w1.setCell ⟨w.heap.size, 2, none⟩ (.slice Au q.length cu)).heap[w.heap.size]? = some (.cells (x.cells (.slice Au q.length cu)).toArray 39 (0, 0)) := by
    rw [HX.out, kb_set D1, ← HZ0.out]
    rfl
  have k12 : Keep (fun b => b = w.heap.size) w1 (w1.setCell ⟨w.heap.size, 2, none⟩ (.slice Au q.length cu)) := (Keep.refl (fun b => b = w.heap.size) w1).set (p := ⟨w.heap.size, 2, none⟩) (fun _ => rfl) _
  have d1 : w1.cell? ⟨w.heap.size, 2, none⟩ = some (.slice none 0 0) := by rw [kb_cell D1, ← HZ0.out]; rfl
  have z1 := kb_frozen D1 2
  have h2' := h2
  have F2 := h2'.keep k12 (by omega) (fun b h e => by have := hlow b h; omega)
  have G1 := HGA.out.keep h3 (fun b h e => Hd.out b (.inl e) h)
  have G2 := (G1).keep k12 (fun b h e => by have := hlowW b h; omega)
  have K2 := ((Keep.after HBA.out h3)).trans k12 (fun b h e => by omega)
  have V2 : BytesOf (w1.setCell ⟨w.heap.size, 2, none⟩ (.slice Au q.length cu)) (.slice Au q.length cu) q := (RowOf.of_own hu).keep k12 (fun b h e => by have := (hu.lt b h).1; omega)
  have HF2 := Lib.hid F2
  have HG2 := Lib.hid G2
  have HK2 := Lib.hid K2
  have HD2 := Lib.hid D2
  have HV2 := Lib.hid V2
  clear F2 G1 G2 K2 D1 D2 h2 h2' h3 k12 V2 hu
  go_wp2_with fail
  refine (dEnd_any HF2.out).mono ?_
  rintro e w3 ⟨rfl, b3⟩
  rw [show endS xs (.bad er f) = (er, f) from rfl]
  have HF3 := Lib.hid (fun o => HF2.out.below (bl_alloc b3 o))
  have HG3 := Lib.hid (fun o => HG2.out.below (bl_alloc b3 o))
  have HK3 := Lib.hid (fun o => HK2.out.then_below (bl_alloc b3 o))
  have HD3 := Lib.hid (fun o => kb_alloc (kb_below b3 HD2.out) o)
  have HV3 := Lib.hid (fun o => HV2.out.below (bl_alloc b3 o))
  clear b3
  go_wp2_with fail
  go_ret
  exact ⟨false, .bad er f, rfl, HF3.out _, (HK3.out _).mono fun _ _ h => .inl h, fun h => by simp at h, fun _ => ⟨er, f, by omega, rfl, _, _, _, HG3.out _⟩⟩

set_option maxRecDepth 100000 in
set_option maxHeartbeats 1000000 in
theorem ag3_ok0 {w : World} {Br pr Bw pw : Nat} {sr sw : Value} {xs : List UInt8} {a : Nat} {q : List UInt8} {a' : Nat} (F : RdO w Br pr sr xs (.at a)) (G : Wr w Bw pw 1048576 (xs.take a) 0 sw) (hd : ∀ b, (b = pr ∨ sr.ownBlock = some b) → ¬ WrS pw sw b) (hlen : xs.length ≤ 600) (h : ((fun a => takeP xs 32 a a id)) a = .ok q a') (he : a' = xs.length) :
    Calls Try.prog 40 #[.pointer (some ⟨pr, 0, none⟩), .pointer (some ⟨pw, 0, none⟩), .int .i64 3] w (AgainP w Br pr sr Bw pw sw xs) := by
  have HF := Lib.hid F
  have HG := Lib.hid G
  have Hd := Lib.hid hd
  have hlt := F.ltp
  have hltw := G.ltp
  have hi41 : (Try.prog.info? 39).map (·.size) = some 41 := by kernel_rfl
  have HI := Lib.hid hi41
  clear hi41
  obtain ⟨Z, hZ, hz41, hz1⟩ : ∃ Z, ((thZ 3).cells (.slice none 0 0)).toArray = Z ∧ 41 = Z.size ∧ Z.all (·.oneCell') = true := ⟨_, rfl, by simp [Th.cells, thZ, u8s_len], Th.one _ _ rfl⟩
  have HZ := Lib.hid ((thZ_cells 3).trans hZ)
  have HZ0 := Lib.hid hZ
  have HZ1 := Lib.hid hz1
  have HZ2 := Lib.hid hz41
  have bA : Below w.heap.size w (w.alloc (.cells Z 39)) := bl_alloc (Below.refl _ _) _
  have HBA := Lib.hid bA
  have HFA := Lib.hid (F.below bA)
  have HGA := Lib.hid (G.below bA)
  have HDA := Lib.hid (kb_new (w := w) rfl (.cells Z 39))
  have hsA : (w.alloc (.cells Z 39)).heap.size = w.heap.size + 1 := by simp
  have hlow : ∀ b, sr.ownBlock = some b → b < w.heap.size := fun b h => (F.low b h).2
  have hlowW : ∀ b, WrS pw sw b → b < w.heap.size := fun b h => (G.ltS h).2
  have HC := dHash_any HFA.out
  rw [step_ok h] at HC
  have HC := Lib.hid HC
  obtain ⟨x, hx⟩ : ∃ x : Th, x = { thZ 3 with h := q } := ⟨_, rfl⟩
  have HX := Lib.hid hx
  obtain ⟨eA, eL, eV, eN⟩ := takeP_one h
  simp only [id] at eV
  have hql : q.length = 32 := by rw [eV, eN]
  have hIs : Is xs a a' q := ⟨by omega, eL, by rw [eV, show a' - a = 32 by omega]⟩
  have hfl := hIs.len
  have hfm : ({ thZ 3 with h := q } : Th).form = q := rfl
  have hput := put_fit (lim := 1048576) (bs := xs.take a) (x := { thZ 3 with h := q }) (fun _ => by simp [thZ]) (by simp [thZ]) (by rw [hfm]; have := hIs.2.1; omega)
  rw [hfm, hIs.next, ← hx] at hput
  have HP := Lib.hid hput
  have hle := hIs.2.1
  have hfine : ({ thZ 3 with h := q } : Th).Fine := ⟨by simp [thZ], by simp [thZ], hql, by simp [thZ], by simp [thZ]⟩
  rw [← hx] at hfine
  have HFI := Lib.hid hfine
  clear hput hIs hfm hfl hfine
  clear eA eL eV eN
  have hszA : (u8s q).toArray.size = 32 := by simpa [u8s_len] using hql
  clear bA F G hd h hZ hz41 hz1 hx
  go_enter Try.func40, Try.ntmps40
  go_wp2_with (refine wpList_store_new rfl 39 _ _ rfl Z rfl (congrArg Value.agg HZ.out) (Eq.trans (b := 41) (by kernel_rfl) HZ2.out) (HI.out.trans (congrArg some HZ2.out)) HZ1.out ?_)
  refine HC.out.mono ?_
  rintro e w1 ⟨u, rfl, rfl, h2, h3⟩
  have D1 := h3.cells HDA.out (by omega)
  have hwz : w.heap.size < w1.heap.size := by have := h3.size; omega
  have D2 : (w1.setCells w.heap.size 3 (u8s q)).heap[w.heap.size]? = some (.cells (x.cells (.slice none 0 0)).toArray 39 (0, 0)) := by
    rw [HX.out, setCells_at _ _ _ _ D1, ← HZ0.out, setH _ _ hql]
  have k12 : Keep (fun b => b = w.heap.size) w1 (w1.setCells w.heap.size 3 (u8s q)) := keep_cells _ _ (Keep.refl _ _) (fun _ => rfl)
  have HT : w1.there w.heap.size 3 (u8s q).toArray.size := fun j hj => ⟨by rw [kb_cell D1, Array.getElem?_eq_getElem (by rw [hszA] at hj; have := HZ2.out; omega)]; rfl, kb_frozen D1 _⟩
  have HT := Lib.hid HT
  have h2' := h2
  have F2 := h2'.keep k12 (by omega) (fun b h e => by have := hlow b h; omega)
  have G1 := HGA.out.keep h3 (fun b h e => Hd.out b (.inl e) h)
  have G2 := (G1).keep k12 (fun b h e => by have := hlowW b h; omega)
  have K2 := ((Keep.after HBA.out h3)).trans k12 (fun b h e => by omega)
  have V2 : BytesOf (w1.setCells w.heap.size 3 (u8s q)) (.slice none 0 0) [] := RowOf.nil _ 0
  have HF2 := Lib.hid F2
  have HG2 := Lib.hid G2
  have HK2 := Lib.hid K2
  have HD2 := Lib.hid D2
  have HV2 := Lib.hid V2
  clear F2 G1 G2 K2 D1 D2 h2 h2' h3 k12 V2
  go_wp2_with (with_reducible refine wpList_store_mid rfl 34 _ _ rfl w.heap.size 3 (u8s q).toArray rfl rfl HT.out (sizeHash.trans (congrArg some hszA.symm)) (u8s_all _) ?_)
  refine (dEnd_any HF2.out).mono ?_
  rintro e w3 ⟨rfl, b3⟩
  rw [show endS xs (.at a') = (0, 0) by simp [endS, he]]
  have HF3 := Lib.hid (fun o => HF2.out.below (bl_alloc b3 o))
  have HG3 := Lib.hid (fun o => HG2.out.below (bl_alloc b3 o))
  have HK3 := Lib.hid (fun o => HK2.out.then_below (bl_alloc b3 o))
  have HD3 := Lib.hid (fun o => kb_alloc (kb_below b3 HD2.out) o)
  have HV3 := Lib.hid (fun o => HV2.out.below (bl_alloc b3 o))
  clear b3
  have hxb : x.b = [] := by rw [HX.out] <;> rfl
  have HRG := Lib.hid (fun o => range_of_kb (HD3.out o))
  have hcl : (x.cells (.slice none 0 0)).length = 41 := Th.cells_len HFI.out _
  go_wp2_with (with_reducible refine wpList_load_want 39 _ rfl (by kernel_rfl) w.heap.size 0 rfl (x.cells (.slice none 0 0)) _ (HRG.out _) Try.underlying39 rfl (HI.out.trans (congrArg some hcl.symm)) ?_)
  refine Calls.mono (puts_any HFI.out ?hv (HG3.out (.cells #[.int .i64 0, .int .i64 0] 60))) ?_
  case hv => rw [hxb]; exact HV3.out (.cells #[.int .i64 0, .int .i64 0] 60)
  rintro e w6 ⟨rfl, s6, G6, k6, n6⟩
  rw [HP.out.1]
  rw [HP.out.2] at G6
  have HF6 := Lib.hid ((HF3.out (.cells #[.int .i64 0, .int .i64 0] 60)).keep k6 (fun h => Hd.out pr (.inl rfl) h) (fun b h e => Hd.out b (.inr h) e))
  have HK6 := Lib.hid (((HK3.out (.cells #[.int .i64 0, .int .i64 0] 60)).mono (T := fun b => b = pr ∨ WrS pw sw b) fun _ _ h => .inl h).trans k6 fun _ _ h => .inr h)
  have hsz6 := (HK3.out (.cells #[.int .i64 0, .int .i64 0] 60)).size
  have HG6 := Lib.hid G6
  have HN6 := Lib.hid n6
  clear G6 k6 n6
  go_wp2_with fail
  go_ret
  exact ⟨true, .at a', rfl, HF6.out, HK6.out, fun _ => ⟨a', s6, rfl, HG6.out, fun b hb => (HN6.out b hb).imp id fun h => Nat.le_trans hsz6 h⟩, fun h => by simp at h⟩

set_option maxRecDepth 100000 in
set_option maxHeartbeats 1000000 in
theorem ag3_ok4 {w : World} {Br pr Bw pw : Nat} {sr sw : Value} {xs : List UInt8} {a : Nat} {q : List UInt8} {a' : Nat} (F : RdO w Br pr sr xs (.at a)) (G : Wr w Bw pw 1048576 (xs.take a) 0 sw) (hd : ∀ b, (b = pr ∨ sr.ownBlock = some b) → ¬ WrS pw sw b) (hlen : xs.length ≤ 600) (h : ((fun a => takeP xs 32 a a id)) a = .ok q a') (he : a' < xs.length) :
    Calls Try.prog 40 #[.pointer (some ⟨pr, 0, none⟩), .pointer (some ⟨pw, 0, none⟩), .int .i64 3] w (AgainP w Br pr sr Bw pw sw xs) := by
  have HF := Lib.hid F
  have HG := Lib.hid G
  have Hd := Lib.hid hd
  have hlt := F.ltp
  have hltw := G.ltp
  have hi41 : (Try.prog.info? 39).map (·.size) = some 41 := by kernel_rfl
  have HI := Lib.hid hi41
  clear hi41
  obtain ⟨Z, hZ, hz41, hz1⟩ : ∃ Z, ((thZ 3).cells (.slice none 0 0)).toArray = Z ∧ 41 = Z.size ∧ Z.all (·.oneCell') = true := ⟨_, rfl, by simp [Th.cells, thZ, u8s_len], Th.one _ _ rfl⟩
  have HZ := Lib.hid ((thZ_cells 3).trans hZ)
  have HZ0 := Lib.hid hZ
  have HZ1 := Lib.hid hz1
  have HZ2 := Lib.hid hz41
  have bA : Below w.heap.size w (w.alloc (.cells Z 39)) := bl_alloc (Below.refl _ _) _
  have HBA := Lib.hid bA
  have HFA := Lib.hid (F.below bA)
  have HGA := Lib.hid (G.below bA)
  have HDA := Lib.hid (kb_new (w := w) rfl (.cells Z 39))
  have hsA : (w.alloc (.cells Z 39)).heap.size = w.heap.size + 1 := by simp
  have hlow : ∀ b, sr.ownBlock = some b → b < w.heap.size := fun b h => (F.low b h).2
  have hlowW : ∀ b, WrS pw sw b → b < w.heap.size := fun b h => (G.ltS h).2
  have HC := dHash_any HFA.out
  rw [step_ok h] at HC
  have HC := Lib.hid HC
  obtain ⟨x, hx⟩ : ∃ x : Th, x = { thZ 3 with h := q } := ⟨_, rfl⟩
  have HX := Lib.hid hx
  obtain ⟨eA, eL, eV, eN⟩ := takeP_one h
  simp only [id] at eV
  have hql : q.length = 32 := by rw [eV, eN]
  have hIs : Is xs a a' q := ⟨by omega, eL, by rw [eV, show a' - a = 32 by omega]⟩
  have hfl := hIs.len
  have hfm : ({ thZ 3 with h := q } : Th).form = q := rfl
  have hput := put_fit (lim := 1048576) (bs := xs.take a) (x := { thZ 3 with h := q }) (fun _ => by simp [thZ]) (by simp [thZ]) (by rw [hfm]; have := hIs.2.1; omega)
  rw [hfm, hIs.next, ← hx] at hput
  have HP := Lib.hid hput
  have hle := hIs.2.1
  have hfine : ({ thZ 3 with h := q } : Th).Fine := ⟨by simp [thZ], by simp [thZ], hql, by simp [thZ], by simp [thZ]⟩
  rw [← hx] at hfine
  have HFI := Lib.hid hfine
  clear hput hIs hfm hfl hfine
  clear eA eL eV eN
  have hszA : (u8s q).toArray.size = 32 := by simpa [u8s_len] using hql
  clear bA F G hd h hZ hz41 hz1 hx
  have hgt : decide ((0 : Int) < ((xs.length - a' : Nat) : Int)) = true := decide_eq_true (by omega)
  have hgt' : decide (0 < xs.length - a') = true := decide_eq_true (by omega)
  go_enter Try.func40, Try.ntmps40
  go_wp2_with (refine wpList_store_new rfl 39 _ _ rfl Z rfl (congrArg Value.agg HZ.out) (Eq.trans (b := 41) (by kernel_rfl) HZ2.out) (HI.out.trans (congrArg some HZ2.out)) HZ1.out ?_)
  refine HC.out.mono ?_
  rintro e w1 ⟨u, rfl, rfl, h2, h3⟩
  have D1 := h3.cells HDA.out (by omega)
  have hwz : w.heap.size < w1.heap.size := by have := h3.size; omega
  have D2 : (w1.setCells w.heap.size 3 (u8s q)).heap[w.heap.size]? = some (.cells (x.cells (.slice none 0 0)).toArray 39 (0, 0)) := by
    rw [HX.out, setCells_at _ _ _ _ D1, ← HZ0.out, setH _ _ hql]
  have k12 : Keep (fun b => b = w.heap.size) w1 (w1.setCells w.heap.size 3 (u8s q)) := keep_cells _ _ (Keep.refl _ _) (fun _ => rfl)
  have HT : w1.there w.heap.size 3 (u8s q).toArray.size := fun j hj => ⟨by rw [kb_cell D1, Array.getElem?_eq_getElem (by rw [hszA] at hj; have := HZ2.out; omega)]; rfl, kb_frozen D1 _⟩
  have HT := Lib.hid HT
  have h2' := h2
  have F2 := h2'.keep k12 (by omega) (fun b h e => by have := hlow b h; omega)
  have G1 := HGA.out.keep h3 (fun b h e => Hd.out b (.inl e) h)
  have G2 := (G1).keep k12 (fun b h e => by have := hlowW b h; omega)
  have K2 := ((Keep.after HBA.out h3)).trans k12 (fun b h e => by omega)
  have V2 : BytesOf (w1.setCells w.heap.size 3 (u8s q)) (.slice none 0 0) [] := RowOf.nil _ 0
  have HF2 := Lib.hid F2
  have HG2 := Lib.hid G2
  have HK2 := Lib.hid K2
  have HD2 := Lib.hid D2
  have HV2 := Lib.hid V2
  clear F2 G1 G2 K2 D1 D2 h2 h2' h3 k12 V2
  go_wp2_with (with_reducible refine wpList_store_mid rfl 34 _ _ rfl w.heap.size 3 (u8s q).toArray rfl rfl HT.out (sizeHash.trans (congrArg some hszA.symm)) (u8s_all _) ?_)
  refine (dEnd_any HF2.out).mono ?_
  rintro e w3 ⟨rfl, b3⟩
  rw [show endS xs (.at a') = (4, a') by simp [endS, he]]
  have HF3 := Lib.hid (fun o => HF2.out.below (bl_alloc b3 o))
  have HG3 := Lib.hid (fun o => HG2.out.below (bl_alloc b3 o))
  have HK3 := Lib.hid (fun o => HK2.out.then_below (bl_alloc b3 o))
  have HD3 := Lib.hid (fun o => kb_alloc (kb_below b3 HD2.out) o)
  have HV3 := Lib.hid (fun o => HV2.out.below (bl_alloc b3 o))
  clear b3
  go_wp2_with fail
  refine (dRest_any (HF3.out _)).mono ?_
  rintro e w4 ⟨rfl, b4⟩
  have HF4 := Lib.hid ((HF3.out _).below b4)
  have HG4 := Lib.hid ((HG3.out _).below b4)
  have HK4 := Lib.hid ((HK3.out _).then_below b4)
  have HD4 := Lib.hid (kb_below b4 (HD3.out _))
  have HV4 := Lib.hid ((HV3.out _).below b4)
  clear b4
  rw [show restS xs (.at a') = xs.length - a' from rfl]
  have hxb : x.b = [] := by rw [HX.out] <;> rfl
  have HRG := Lib.hid (range_of_kb HD4.out)
  have hcl : (x.cells (.slice none 0 0)).length = 41 := Th.cells_len HFI.out _
  go_wp2_with (with_reducible refine wpList_load_want 39 _ rfl (by kernel_rfl) w.heap.size 0 rfl (x.cells (.slice none 0 0)) _ HRG.out Try.underlying39 rfl (HI.out.trans (congrArg some hcl.symm)) ?_)
  refine Calls.mono (puts_any HFI.out ?hv (HG4.out)) ?_
  case hv => rw [hxb]; exact HV4.out
  rintro e w6 ⟨rfl, s6, G6, k6, n6⟩
  rw [HP.out.1]
  rw [HP.out.2] at G6
  have HF6 := Lib.hid ((HF4.out).keep k6 (fun h => Hd.out pr (.inl rfl) h) (fun b h e => Hd.out b (.inr h) e))
  have HK6 := Lib.hid (((HK4.out).mono (T := fun b => b = pr ∨ WrS pw sw b) fun _ _ h => .inl h).trans k6 fun _ _ h => .inr h)
  have hsz6 := (HK4.out).size
  have HG6 := Lib.hid G6
  have HN6 := Lib.hid n6
  clear G6 k6 n6
  go_wp2_with fail
  go_ret
  exact ⟨true, .at a', rfl, HF6.out, HK6.out, fun _ => ⟨a', s6, rfl, HG6.out, fun b hb => (HN6.out b hb).imp id fun h => Nat.le_trans hsz6 h⟩, fun h => by simp at h⟩

set_option maxRecDepth 100000 in
set_option maxHeartbeats 1000000 in
theorem ag3_bad4 {w : World} {Br pr Bw pw : Nat} {sr sw : Value} {xs : List UInt8} {a : Nat} {er f : Nat} (F : RdO w Br pr sr xs (.at a)) (G : Wr w Bw pw 1048576 (xs.take a) 0 sw) (hd : ∀ b, (b = pr ∨ sr.ownBlock = some b) → ¬ WrS pw sw b) (hlen : xs.length ≤ 600) (h : ((fun a => takeP xs 32 a a id)) a = .bad er f) (he : er = 4) :
    Calls Try.prog 40 #[.pointer (some ⟨pr, 0, none⟩), .pointer (some ⟨pw, 0, none⟩), .int .i64 3] w (AgainP w Br pr sr Bw pw sw xs) := by
  have HF := Lib.hid F
  have HG := Lib.hid G
  have Hd := Lib.hid hd
  have hlt := F.ltp
  have hltw := G.ltp
  have hi41 : (Try.prog.info? 39).map (·.size) = some 41 := by kernel_rfl
  have HI := Lib.hid hi41
  clear hi41
  obtain ⟨Z, hZ, hz41, hz1⟩ : ∃ Z, ((thZ 3).cells (.slice none 0 0)).toArray = Z ∧ 41 = Z.size ∧ Z.all (·.oneCell') = true := ⟨_, rfl, by simp [Th.cells, thZ, u8s_len], Th.one _ _ rfl⟩
  have HZ := Lib.hid ((thZ_cells 3).trans hZ)
  have HZ0 := Lib.hid hZ
  have HZ1 := Lib.hid hz1
  have HZ2 := Lib.hid hz41
  have bA : Below w.heap.size w (w.alloc (.cells Z 39)) := bl_alloc (Below.refl _ _) _
  have HBA := Lib.hid bA
  have HFA := Lib.hid (F.below bA)
  have HGA := Lib.hid (G.below bA)
  have HDA := Lib.hid (kb_new (w := w) rfl (.cells Z 39))
  have hsA : (w.alloc (.cells Z 39)).heap.size = w.heap.size + 1 := by simp
  have hlow : ∀ b, sr.ownBlock = some b → b < w.heap.size := fun b h => (F.low b h).2
  have hlowW : ∀ b, WrS pw sw b → b < w.heap.size := fun b h => (G.ltS h).2
  have her := takeP_bad h
  have HC := dHash_any HFA.out
  obtain ⟨q, hq⟩ : ∃ q : List UInt8, (List.replicate 32 0) = q := ⟨_, rfl⟩
  rw [step_bad h, show (((List.replicate 32 0) : List UInt8), St.bad er f) = (q, St.bad er f) by rw [hq]] at HC
  have HC := Lib.hid HC
  have hqz := hq
  have hql : q.length = 32 := by rw [← hq]; simp
  clear hq
  clear hqz
  obtain ⟨x, hx⟩ : ∃ x : Th, x = { thZ 3 with h := q } := ⟨_, rfl⟩
  have HX := Lib.hid hx
  have hszA : (u8s q).toArray.size = 32 := by simpa [u8s_len] using hql
  clear bA F G hd h hZ hz41 hz1 hx
  subst he
  go_enter Try.func40, Try.ntmps40
  go_wp2_with (refine wpList_store_new rfl 39 _ _ rfl Z rfl (congrArg Value.agg HZ.out) (Eq.trans (b := 41) (by kernel_rfl) HZ2.out) (HI.out.trans (congrArg some HZ2.out)) HZ1.out ?_)
  refine HC.out.mono ?_
  rintro e w1 ⟨u, rfl, rfl, h2, h3⟩
  have D1 := h3.cells HDA.out (by omega)
  have hwz : w.heap.size < w1.heap.size := by have := h3.size; omega
  have D2 : (w1.setCells w.heap.size 3 (u8s q)).heap[w.heap.size]? = some (.cells (x.cells (.slice none 0 0)).toArray 39 (0, 0)) := by
    rw [HX.out, setCells_at _ _ _ _ D1, ← HZ0.out, setH _ _ hql]
  have k12 : Keep (fun b => b = w.heap.size) w1 (w1.setCells w.heap.size 3 (u8s q)) := keep_cells _ _ (Keep.refl _ _) (fun _ => rfl)
  have HT : w1.there w.heap.size 3 (u8s q).toArray.size := fun j hj => ⟨by rw [kb_cell D1, Array.getElem?_eq_getElem (by rw [hszA] at hj; have := HZ2.out; omega)]; rfl, kb_frozen D1 _⟩
  have HT := Lib.hid HT
  have h2' := h2
  have F2 := h2'.keep k12 (by omega) (fun b h e => by have := hlow b h; omega)
  have G1 := HGA.out.keep h3 (fun b h e => Hd.out b (.inl e) h)
  have G2 := (G1).keep k12 (fun b h e => by have := hlowW b h; omega)
  have K2 := ((Keep.after HBA.out h3)).trans k12 (fun b h e => by omega)
  have V2 : BytesOf (w1.setCells w.heap.size 3 (u8s q)) (.slice none 0 0) [] := RowOf.nil _ 0
  have HF2 := Lib.hid F2
  have HG2 := Lib.hid G2
  have HK2 := Lib.hid K2
  have HD2 := Lib.hid D2
  have HV2 := Lib.hid V2
  clear F2 G1 G2 K2 D1 D2 h2 h2' h3 k12 V2
  go_wp2_with (with_reducible refine wpList_store_mid rfl 34 _ _ rfl w.heap.size 3 (u8s q).toArray rfl rfl HT.out (sizeHash.trans (congrArg some hszA.symm)) (u8s_all _) ?_)
  refine (dEnd_any HF2.out).mono ?_
  rintro e w3 ⟨rfl, b3⟩
  rw [show endS xs (.bad 4 f) = (4, f) from rfl]
  have HF3 := Lib.hid (fun o => HF2.out.below (bl_alloc b3 o))
  have HG3 := Lib.hid (fun o => HG2.out.below (bl_alloc b3 o))
  have HK3 := Lib.hid (fun o => HK2.out.then_below (bl_alloc b3 o))
  have HD3 := Lib.hid (fun o => kb_alloc (kb_below b3 HD2.out) o)
  have HV3 := Lib.hid (fun o => HV2.out.below (bl_alloc b3 o))
  clear b3
  go_wp2_with fail
  refine (dRest_any (HF3.out _)).mono ?_
  rintro e w4 ⟨rfl, b4⟩
  have HF4 := Lib.hid ((HF3.out _).below b4)
  have HG4 := Lib.hid ((HG3.out _).below b4)
  have HK4 := Lib.hid ((HK3.out _).then_below b4)
  have HD4 := Lib.hid (kb_below b4 (HD3.out _))
  have HV4 := Lib.hid ((HV3.out _).below b4)
  clear b4
  rw [show restS xs (.bad 4 f) = 0 from rfl]
  go_wp2_with fail
  go_ret
  exact ⟨false, .bad 4 f, rfl, HF4.out, (HK4.out).mono fun _ _ h => .inl h, fun h => by simp at h, fun _ => ⟨4, f, by omega, rfl, _, _, _, HG4.out⟩⟩

set_option maxRecDepth 100000 in
set_option maxHeartbeats 1000000 in
theorem ag3_bad {w : World} {Br pr Bw pw : Nat} {sr sw : Value} {xs : List UInt8} {a : Nat} {er f : Nat} (F : RdO w Br pr sr xs (.at a)) (G : Wr w Bw pw 1048576 (xs.take a) 0 sw) (hd : ∀ b, (b = pr ∨ sr.ownBlock = some b) → ¬ WrS pw sw b) (hlen : xs.length ≤ 600) (h : ((fun a => takeP xs 32 a a id)) a = .bad er f) (he : er ≠ 4) :
    Calls Try.prog 40 #[.pointer (some ⟨pr, 0, none⟩), .pointer (some ⟨pw, 0, none⟩), .int .i64 3] w (AgainP w Br pr sr Bw pw sw xs) := by
  have HF := Lib.hid F
  have HG := Lib.hid G
  have Hd := Lib.hid hd
  have hlt := F.ltp
  have hltw := G.ltp
  have hi41 : (Try.prog.info? 39).map (·.size) = some 41 := by kernel_rfl
  have HI := Lib.hid hi41
  clear hi41
  obtain ⟨Z, hZ, hz41, hz1⟩ : ∃ Z, ((thZ 3).cells (.slice none 0 0)).toArray = Z ∧ 41 = Z.size ∧ Z.all (·.oneCell') = true := ⟨_, rfl, by simp [Th.cells, thZ, u8s_len], Th.one _ _ rfl⟩
  have HZ := Lib.hid ((thZ_cells 3).trans hZ)
  have HZ0 := Lib.hid hZ
  have HZ1 := Lib.hid hz1
  have HZ2 := Lib.hid hz41
  have bA : Below w.heap.size w (w.alloc (.cells Z 39)) := bl_alloc (Below.refl _ _) _
  have HBA := Lib.hid bA
  have HFA := Lib.hid (F.below bA)
  have HGA := Lib.hid (G.below bA)
  have HDA := Lib.hid (kb_new (w := w) rfl (.cells Z 39))
  have hsA : (w.alloc (.cells Z 39)).heap.size = w.heap.size + 1 := by simp
  have hlow : ∀ b, sr.ownBlock = some b → b < w.heap.size := fun b h => (F.low b h).2
  have hlowW : ∀ b, WrS pw sw b → b < w.heap.size := fun b h => (G.ltS h).2
  have her := takeP_bad h
  have HC := dHash_any HFA.out
  obtain ⟨q, hq⟩ : ∃ q : List UInt8, (List.replicate 32 0) = q := ⟨_, rfl⟩
  rw [step_bad h, show (((List.replicate 32 0) : List UInt8), St.bad er f) = (q, St.bad er f) by rw [hq]] at HC
  have HC := Lib.hid HC
  have hqz := hq
  have hql : q.length = 32 := by rw [← hq]; simp
  clear hq
  clear hqz
  obtain ⟨x, hx⟩ : ∃ x : Th, x = { thZ 3 with h := q } := ⟨_, rfl⟩
  have HX := Lib.hid hx
  have hszA : (u8s q).toArray.size = 32 := by simpa [u8s_len] using hql
  clear bA F G hd h hZ hz41 hz1 hx
  have he4 : ((er : Int) == 4) = false := by simp; omega
  have he4' : (er == 4) = false := by simpa using he
  have he0 : ((er : Int) == 0) = false := by simp; omega
  have he0' : (er == 0) = false := by simpa using her
  go_enter Try.func40, Try.ntmps40
  go_wp2_with (refine wpList_store_new rfl 39 _ _ rfl Z rfl (congrArg Value.agg HZ.out) (Eq.trans (b := 41) (by kernel_rfl) HZ2.out) (HI.out.trans (congrArg some HZ2.out)) HZ1.out ?_)
  refine HC.out.mono ?_
  rintro e w1 ⟨u, rfl, rfl, h2, h3⟩
  have D1 := h3.cells HDA.out (by omega)
  have hwz : w.heap.size < w1.heap.size := by have := h3.size; omega
  have D2 : (w1.setCells w.heap.size 3 (u8s q)).heap[w.heap.size]? = some (.cells (x.cells (.slice none 0 0)).toArray 39 (0, 0)) := by
    rw [HX.out, setCells_at _ _ _ _ D1, ← HZ0.out, setH _ _ hql]
  have k12 : Keep (fun b => b = w.heap.size) w1 (w1.setCells w.heap.size 3 (u8s q)) := keep_cells _ _ (Keep.refl _ _) (fun _ => rfl)
  have HT : w1.there w.heap.size 3 (u8s q).toArray.size := fun j hj => ⟨by rw [kb_cell D1, Array.getElem?_eq_getElem (by rw [hszA] at hj; have := HZ2.out; omega)]; rfl, kb_frozen D1 _⟩
  have HT := Lib.hid HT
  have h2' := h2
  have F2 := h2'.keep k12 (by omega) (fun b h e => by have := hlow b h; omega)
  have G1 := HGA.out.keep h3 (fun b h e => Hd.out b (.inl e) h)
  have G2 := (G1).keep k12 (fun b h e => by have := hlowW b h; omega)
  have K2 := ((Keep.after HBA.out h3)).trans k12 (fun b h e => by omega)
  have V2 : BytesOf (w1.setCells w.heap.size 3 (u8s q)) (.slice none 0 0) [] := RowOf.nil _ 0
  have HF2 := Lib.hid F2
  have HG2 := Lib.hid G2
  have HK2 := Lib.hid K2
  have HD2 := Lib.hid D2
  have HV2 := Lib.hid V2
  clear F2 G1 G2 K2 D1 D2 h2 h2' h3 k12 V2
  go_wp2_with (with_reducible refine wpList_store_mid rfl 34 _ _ rfl w.heap.size 3 (u8s q).toArray rfl rfl HT.out (sizeHash.trans (congrArg some hszA.symm)) (u8s_all _) ?_)
  refine (dEnd_any HF2.out).mono ?_
  rintro e w3 ⟨rfl, b3⟩
  rw [show endS xs (.bad er f) = (er, f) from rfl]
  have HF3 := Lib.hid (fun o => HF2.out.below (bl_alloc b3 o))
  have HG3 := Lib.hid (fun o => HG2.out.below (bl_alloc b3 o))
  have HK3 := Lib.hid (fun o => HK2.out.then_below (bl_alloc b3 o))
  have HD3 := Lib.hid (fun o => kb_alloc (kb_below b3 HD2.out) o)
  have HV3 := Lib.hid (fun o => HV2.out.below (bl_alloc b3 o))
  clear b3
  go_wp2_with fail
  go_ret
  exact ⟨false, .bad er f, rfl, HF3.out _, (HK3.out _).mono fun _ _ h => .inl h, fun h => by simp at h, fun _ => ⟨er, f, by omega, rfl, _, _, _, HG3.out _⟩⟩

set_option maxRecDepth 100000 in
set_option maxHeartbeats 1000000 in
theorem ag4_ok0 {w : World} {Br pr Bw pw : Nat} {sr sw : Value} {xs : List UInt8} {a : Nat} {q : List UInt8} {a' : Nat} (F : RdO w Br pr sr xs (.at a)) (G : Wr w Bw pw 1048576 (xs.take a) 0 sw) (hd : ∀ b, (b = pr ∨ sr.ownBlock = some b) → ¬ WrS pw sw b) (hlen : xs.length ≤ 600) (h : ((fun a => takeP xs 4 a a id)) a = .ok q a') (he : a' = xs.length) :
    Calls Try.prog 40 #[.pointer (some ⟨pr, 0, none⟩), .pointer (some ⟨pw, 0, none⟩), .int .i64 4] w (AgainP w Br pr sr Bw pw sw xs) := by
  have HF := Lib.hid F
  have HG := Lib.hid G
  have Hd := Lib.hid hd
  have hlt := F.ltp
  have hltw := G.ltp
  have hi41 : (Try.prog.info? 39).map (·.size) = some 41 := by kernel_rfl
  have HI := Lib.hid hi41
  clear hi41
  obtain ⟨Z, hZ, hz41, hz1⟩ : ∃ Z, ((thZ 4).cells (.slice none 0 0)).toArray = Z ∧ 41 = Z.size ∧ Z.all (·.oneCell') = true := ⟨_, rfl, by simp [Th.cells, thZ, u8s_len], Th.one _ _ rfl⟩
  have HZ := Lib.hid ((thZ_cells 4).trans hZ)
  have HZ0 := Lib.hid hZ
  have HZ1 := Lib.hid hz1
  have HZ2 := Lib.hid hz41
  have bA : Below w.heap.size w (w.alloc (.cells Z 39)) := bl_alloc (Below.refl _ _) _
  have HBA := Lib.hid bA
  have HFA := Lib.hid (F.below bA)
  have HGA := Lib.hid (G.below bA)
  have HDA := Lib.hid (kb_new (w := w) rfl (.cells Z 39))
  have hsA : (w.alloc (.cells Z 39)).heap.size = w.heap.size + 1 := by simp
  have hlow : ∀ b, sr.ownBlock = some b → b < w.heap.size := fun b h => (F.low b h).2
  have hlowW : ∀ b, WrS pw sw b → b < w.heap.size := fun b h => (G.ltS h).2
  have HC := dKey_any HFA.out
  rw [step_ok h] at HC
  have HC := Lib.hid HC
  obtain ⟨x, hx⟩ : ∃ x : Th, x = { thZ 4 with k := q } := ⟨_, rfl⟩
  have HX := Lib.hid hx
  obtain ⟨eA, eL, eV, eN⟩ := takeP_one h
  simp only [id] at eV
  have hql : q.length = 4 := by rw [eV, eN]
  have hIs : Is xs a a' q := ⟨by omega, eL, by rw [eV, show a' - a = 4 by omega]⟩
  have hfl := hIs.len
  have hfm : ({ thZ 4 with k := q } : Th).form = q := rfl
  have hput := put_fit (lim := 1048576) (bs := xs.take a) (x := { thZ 4 with k := q }) (fun _ => by simp [thZ]) (by simp [thZ]) (by rw [hfm]; have := hIs.2.1; omega)
  rw [hfm, hIs.next, ← hx] at hput
  have HP := Lib.hid hput
  have hle := hIs.2.1
  have hfine : ({ thZ 4 with k := q } : Th).Fine := ⟨by simp [thZ], by simp [thZ], by simp [thZ], hql, by simp [thZ]⟩
  rw [← hx] at hfine
  have HFI := Lib.hid hfine
  clear hput hIs hfm hfl hfine
  clear eA eL eV eN
  have hszA : (u8s q).toArray.size = 4 := by simpa [u8s_len] using hql
  clear bA F G hd h hZ hz41 hz1 hx
  go_enter Try.func40, Try.ntmps40
  go_wp2_with (refine wpList_store_new rfl 39 _ _ rfl Z rfl (congrArg Value.agg HZ.out) (Eq.trans (b := 41) (by kernel_rfl) HZ2.out) (HI.out.trans (congrArg some HZ2.out)) HZ1.out ?_)
  refine HC.out.mono ?_
  rintro e w1 ⟨u, rfl, rfl, h2, h3⟩
  have D1 := h3.cells HDA.out (by omega)
  have hwz : w.heap.size < w1.heap.size := by have := h3.size; omega
  have D2 : (w1.setCells w.heap.size 35 (u8s q)).heap[w.heap.size]? = some (.cells (x.cells (.slice none 0 0)).toArray 39 (0, 0)) := by
    rw [HX.out, setCells_at _ _ _ _ D1, ← HZ0.out, setK _ _ hql]
  have k12 : Keep (fun b => b = w.heap.size) w1 (w1.setCells w.heap.size 35 (u8s q)) := keep_cells _ _ (Keep.refl _ _) (fun _ => rfl)
  have HT : w1.there w.heap.size 35 (u8s q).toArray.size := fun j hj => ⟨by rw [kb_cell D1, Array.getElem?_eq_getElem (by rw [hszA] at hj; have := HZ2.out; omega)]; rfl, kb_frozen D1 _⟩
  have HT := Lib.hid HT
  have h2' := h2
  have F2 := h2'.keep k12 (by omega) (fun b h e => by have := hlow b h; omega)
  have G1 := HGA.out.keep h3 (fun b h e => Hd.out b (.inl e) h)
  have G2 := (G1).keep k12 (fun b h e => by have := hlowW b h; omega)
  have K2 := ((Keep.after HBA.out h3)).trans k12 (fun b h e => by omega)
  have V2 : BytesOf (w1.setCells w.heap.size 35 (u8s q)) (.slice none 0 0) [] := RowOf.nil _ 0
  have HF2 := Lib.hid F2
  have HG2 := Lib.hid G2
  have HK2 := Lib.hid K2
  have HD2 := Lib.hid D2
  have HV2 := Lib.hid V2
  clear F2 G1 G2 K2 D1 D2 h2 h2' h3 k12 V2
  go_wp2_with (with_reducible refine wpList_store_mid rfl 36 _ _ rfl w.heap.size 35 (u8s q).toArray rfl rfl HT.out (sizeKey.trans (congrArg some hszA.symm)) (u8s_all _) ?_)
  refine (dEnd_any HF2.out).mono ?_
  rintro e w3 ⟨rfl, b3⟩
  rw [show endS xs (.at a') = (0, 0) by simp [endS, he]]
  have HF3 := Lib.hid (fun o => HF2.out.below (bl_alloc b3 o))
  have HG3 := Lib.hid (fun o => HG2.out.below (bl_alloc b3 o))
  have HK3 := Lib.hid (fun o => HK2.out.then_below (bl_alloc b3 o))
  have HD3 := Lib.hid (fun o => kb_alloc (kb_below b3 HD2.out) o)
  have HV3 := Lib.hid (fun o => HV2.out.below (bl_alloc b3 o))
  clear b3
  have hxb : x.b = [] := by rw [HX.out] <;> rfl
  have HRG := Lib.hid (fun o => range_of_kb (HD3.out o))
  have hcl : (x.cells (.slice none 0 0)).length = 41 := Th.cells_len HFI.out _
  go_wp2_with (with_reducible refine wpList_load_want 39 _ rfl (by kernel_rfl) w.heap.size 0 rfl (x.cells (.slice none 0 0)) _ (HRG.out _) Try.underlying39 rfl (HI.out.trans (congrArg some hcl.symm)) ?_)
  refine Calls.mono (puts_any HFI.out ?hv (HG3.out (.cells #[.int .i64 0, .int .i64 0] 60))) ?_
  case hv => rw [hxb]; exact HV3.out (.cells #[.int .i64 0, .int .i64 0] 60)
  rintro e w6 ⟨rfl, s6, G6, k6, n6⟩
  rw [HP.out.1]
  rw [HP.out.2] at G6
  have HF6 := Lib.hid ((HF3.out (.cells #[.int .i64 0, .int .i64 0] 60)).keep k6 (fun h => Hd.out pr (.inl rfl) h) (fun b h e => Hd.out b (.inr h) e))
  have HK6 := Lib.hid (((HK3.out (.cells #[.int .i64 0, .int .i64 0] 60)).mono (T := fun b => b = pr ∨ WrS pw sw b) fun _ _ h => .inl h).trans k6 fun _ _ h => .inr h)
  have hsz6 := (HK3.out (.cells #[.int .i64 0, .int .i64 0] 60)).size
  have HG6 := Lib.hid G6
  have HN6 := Lib.hid n6
  clear G6 k6 n6
  go_wp2_with fail
  go_ret
  exact ⟨true, .at a', rfl, HF6.out, HK6.out, fun _ => ⟨a', s6, rfl, HG6.out, fun b hb => (HN6.out b hb).imp id fun h => Nat.le_trans hsz6 h⟩, fun h => by simp at h⟩

set_option maxRecDepth 100000 in
set_option maxHeartbeats 1000000 in
theorem ag4_ok4 {w : World} {Br pr Bw pw : Nat} {sr sw : Value} {xs : List UInt8} {a : Nat} {q : List UInt8} {a' : Nat} (F : RdO w Br pr sr xs (.at a)) (G : Wr w Bw pw 1048576 (xs.take a) 0 sw) (hd : ∀ b, (b = pr ∨ sr.ownBlock = some b) → ¬ WrS pw sw b) (hlen : xs.length ≤ 600) (h : ((fun a => takeP xs 4 a a id)) a = .ok q a') (he : a' < xs.length) :
    Calls Try.prog 40 #[.pointer (some ⟨pr, 0, none⟩), .pointer (some ⟨pw, 0, none⟩), .int .i64 4] w (AgainP w Br pr sr Bw pw sw xs) := by
  have HF := Lib.hid F
  have HG := Lib.hid G
  have Hd := Lib.hid hd
  have hlt := F.ltp
  have hltw := G.ltp
  have hi41 : (Try.prog.info? 39).map (·.size) = some 41 := by kernel_rfl
  have HI := Lib.hid hi41
  clear hi41
  obtain ⟨Z, hZ, hz41, hz1⟩ : ∃ Z, ((thZ 4).cells (.slice none 0 0)).toArray = Z ∧ 41 = Z.size ∧ Z.all (·.oneCell') = true := ⟨_, rfl, by simp [Th.cells, thZ, u8s_len], Th.one _ _ rfl⟩
  have HZ := Lib.hid ((thZ_cells 4).trans hZ)
  have HZ0 := Lib.hid hZ
  have HZ1 := Lib.hid hz1
  have HZ2 := Lib.hid hz41
  have bA : Below w.heap.size w (w.alloc (.cells Z 39)) := bl_alloc (Below.refl _ _) _
  have HBA := Lib.hid bA
  have HFA := Lib.hid (F.below bA)
  have HGA := Lib.hid (G.below bA)
  have HDA := Lib.hid (kb_new (w := w) rfl (.cells Z 39))
  have hsA : (w.alloc (.cells Z 39)).heap.size = w.heap.size + 1 := by simp
  have hlow : ∀ b, sr.ownBlock = some b → b < w.heap.size := fun b h => (F.low b h).2
  have hlowW : ∀ b, WrS pw sw b → b < w.heap.size := fun b h => (G.ltS h).2
  have HC := dKey_any HFA.out
  rw [step_ok h] at HC
  have HC := Lib.hid HC
  obtain ⟨x, hx⟩ : ∃ x : Th, x = { thZ 4 with k := q } := ⟨_, rfl⟩
  have HX := Lib.hid hx
  obtain ⟨eA, eL, eV, eN⟩ := takeP_one h
  simp only [id] at eV
  have hql : q.length = 4 := by rw [eV, eN]
  have hIs : Is xs a a' q := ⟨by omega, eL, by rw [eV, show a' - a = 4 by omega]⟩
  have hfl := hIs.len
  have hfm : ({ thZ 4 with k := q } : Th).form = q := rfl
  have hput := put_fit (lim := 1048576) (bs := xs.take a) (x := { thZ 4 with k := q }) (fun _ => by simp [thZ]) (by simp [thZ]) (by rw [hfm]; have := hIs.2.1; omega)
  rw [hfm, hIs.next, ← hx] at hput
  have HP := Lib.hid hput
  have hle := hIs.2.1
  have hfine : ({ thZ 4 with k := q } : Th).Fine := ⟨by simp [thZ], by simp [thZ], by simp [thZ], hql, by simp [thZ]⟩
  rw [← hx] at hfine
  have HFI := Lib.hid hfine
  clear hput hIs hfm hfl hfine
  clear eA eL eV eN
  have hszA : (u8s q).toArray.size = 4 := by simpa [u8s_len] using hql
  clear bA F G hd h hZ hz41 hz1 hx
  have hgt : decide ((0 : Int) < ((xs.length - a' : Nat) : Int)) = true := decide_eq_true (by omega)
  have hgt' : decide (0 < xs.length - a') = true := decide_eq_true (by omega)
  go_enter Try.func40, Try.ntmps40
  go_wp2_with (refine wpList_store_new rfl 39 _ _ rfl Z rfl (congrArg Value.agg HZ.out) (Eq.trans (b := 41) (by kernel_rfl) HZ2.out) (HI.out.trans (congrArg some HZ2.out)) HZ1.out ?_)
  refine HC.out.mono ?_
  rintro e w1 ⟨u, rfl, rfl, h2, h3⟩
  have D1 := h3.cells HDA.out (by omega)
  have hwz : w.heap.size < w1.heap.size := by have := h3.size; omega
  have D2 : (w1.setCells w.heap.size 35 (u8s q)).heap[w.heap.size]? = some (.cells (x.cells (.slice none 0 0)).toArray 39 (0, 0)) := by
    rw [HX.out, setCells_at _ _ _ _ D1, ← HZ0.out, setK _ _ hql]
  have k12 : Keep (fun b => b = w.heap.size) w1 (w1.setCells w.heap.size 35 (u8s q)) := keep_cells _ _ (Keep.refl _ _) (fun _ => rfl)
  have HT : w1.there w.heap.size 35 (u8s q).toArray.size := fun j hj => ⟨by rw [kb_cell D1, Array.getElem?_eq_getElem (by rw [hszA] at hj; have := HZ2.out; omega)]; rfl, kb_frozen D1 _⟩
  have HT := Lib.hid HT
  have h2' := h2
  have F2 := h2'.keep k12 (by omega) (fun b h e => by have := hlow b h; omega)
  have G1 := HGA.out.keep h3 (fun b h e => Hd.out b (.inl e) h)
  have G2 := (G1).keep k12 (fun b h e => by have := hlowW b h; omega)
  have K2 := ((Keep.after HBA.out h3)).trans k12 (fun b h e => by omega)
  have V2 : BytesOf (w1.setCells w.heap.size 35 (u8s q)) (.slice none 0 0) [] := RowOf.nil _ 0
  have HF2 := Lib.hid F2
  have HG2 := Lib.hid G2
  have HK2 := Lib.hid K2
  have HD2 := Lib.hid D2
  have HV2 := Lib.hid V2
  clear F2 G1 G2 K2 D1 D2 h2 h2' h3 k12 V2
  go_wp2_with (with_reducible refine wpList_store_mid rfl 36 _ _ rfl w.heap.size 35 (u8s q).toArray rfl rfl HT.out (sizeKey.trans (congrArg some hszA.symm)) (u8s_all _) ?_)
  refine (dEnd_any HF2.out).mono ?_
  rintro e w3 ⟨rfl, b3⟩
  rw [show endS xs (.at a') = (4, a') by simp [endS, he]]
  have HF3 := Lib.hid (fun o => HF2.out.below (bl_alloc b3 o))
  have HG3 := Lib.hid (fun o => HG2.out.below (bl_alloc b3 o))
  have HK3 := Lib.hid (fun o => HK2.out.then_below (bl_alloc b3 o))
  have HD3 := Lib.hid (fun o => kb_alloc (kb_below b3 HD2.out) o)
  have HV3 := Lib.hid (fun o => HV2.out.below (bl_alloc b3 o))
  clear b3
  go_wp2_with fail
  refine (dRest_any (HF3.out _)).mono ?_
  rintro e w4 ⟨rfl, b4⟩
  have HF4 := Lib.hid ((HF3.out _).below b4)
  have HG4 := Lib.hid ((HG3.out _).below b4)
  have HK4 := Lib.hid ((HK3.out _).then_below b4)
  have HD4 := Lib.hid (kb_below b4 (HD3.out _))
  have HV4 := Lib.hid ((HV3.out _).below b4)
  clear b4
  rw [show restS xs (.at a') = xs.length - a' from rfl]
  have hxb : x.b = [] := by rw [HX.out] <;> rfl
  have HRG := Lib.hid (range_of_kb HD4.out)
  have hcl : (x.cells (.slice none 0 0)).length = 41 := Th.cells_len HFI.out _
  go_wp2_with (with_reducible refine wpList_load_want 39 _ rfl (by kernel_rfl) w.heap.size 0 rfl (x.cells (.slice none 0 0)) _ HRG.out Try.underlying39 rfl (HI.out.trans (congrArg some hcl.symm)) ?_)
  refine Calls.mono (puts_any HFI.out ?hv (HG4.out)) ?_
  case hv => rw [hxb]; exact HV4.out
  rintro e w6 ⟨rfl, s6, G6, k6, n6⟩
  rw [HP.out.1]
  rw [HP.out.2] at G6
  have HF6 := Lib.hid ((HF4.out).keep k6 (fun h => Hd.out pr (.inl rfl) h) (fun b h e => Hd.out b (.inr h) e))
  have HK6 := Lib.hid (((HK4.out).mono (T := fun b => b = pr ∨ WrS pw sw b) fun _ _ h => .inl h).trans k6 fun _ _ h => .inr h)
  have hsz6 := (HK4.out).size
  have HG6 := Lib.hid G6
  have HN6 := Lib.hid n6
  clear G6 k6 n6
  go_wp2_with fail
  go_ret
  exact ⟨true, .at a', rfl, HF6.out, HK6.out, fun _ => ⟨a', s6, rfl, HG6.out, fun b hb => (HN6.out b hb).imp id fun h => Nat.le_trans hsz6 h⟩, fun h => by simp at h⟩

set_option maxRecDepth 100000 in
set_option maxHeartbeats 1000000 in
theorem ag4_bad4 {w : World} {Br pr Bw pw : Nat} {sr sw : Value} {xs : List UInt8} {a : Nat} {er f : Nat} (F : RdO w Br pr sr xs (.at a)) (G : Wr w Bw pw 1048576 (xs.take a) 0 sw) (hd : ∀ b, (b = pr ∨ sr.ownBlock = some b) → ¬ WrS pw sw b) (hlen : xs.length ≤ 600) (h : ((fun a => takeP xs 4 a a id)) a = .bad er f) (he : er = 4) :
    Calls Try.prog 40 #[.pointer (some ⟨pr, 0, none⟩), .pointer (some ⟨pw, 0, none⟩), .int .i64 4] w (AgainP w Br pr sr Bw pw sw xs) := by
  have HF := Lib.hid F
  have HG := Lib.hid G
  have Hd := Lib.hid hd
  have hlt := F.ltp
  have hltw := G.ltp
  have hi41 : (Try.prog.info? 39).map (·.size) = some 41 := by kernel_rfl
  have HI := Lib.hid hi41
  clear hi41
  obtain ⟨Z, hZ, hz41, hz1⟩ : ∃ Z, ((thZ 4).cells (.slice none 0 0)).toArray = Z ∧ 41 = Z.size ∧ Z.all (·.oneCell') = true := ⟨_, rfl, by simp [Th.cells, thZ, u8s_len], Th.one _ _ rfl⟩
  have HZ := Lib.hid ((thZ_cells 4).trans hZ)
  have HZ0 := Lib.hid hZ
  have HZ1 := Lib.hid hz1
  have HZ2 := Lib.hid hz41
  have bA : Below w.heap.size w (w.alloc (.cells Z 39)) := bl_alloc (Below.refl _ _) _
  have HBA := Lib.hid bA
  have HFA := Lib.hid (F.below bA)
  have HGA := Lib.hid (G.below bA)
  have HDA := Lib.hid (kb_new (w := w) rfl (.cells Z 39))
  have hsA : (w.alloc (.cells Z 39)).heap.size = w.heap.size + 1 := by simp
  have hlow : ∀ b, sr.ownBlock = some b → b < w.heap.size := fun b h => (F.low b h).2
  have hlowW : ∀ b, WrS pw sw b → b < w.heap.size := fun b h => (G.ltS h).2
  have her := takeP_bad h
  have HC := dKey_any HFA.out
  obtain ⟨q, hq⟩ : ∃ q : List UInt8, (List.replicate 4 0) = q := ⟨_, rfl⟩
  rw [step_bad h, show (((List.replicate 4 0) : List UInt8), St.bad er f) = (q, St.bad er f) by rw [hq]] at HC
  have HC := Lib.hid HC
  have hqz := hq
  have hql : q.length = 4 := by rw [← hq]; simp
  clear hq
  clear hqz
  obtain ⟨x, hx⟩ : ∃ x : Th, x = { thZ 4 with k := q } := ⟨_, rfl⟩
  have HX := Lib.hid hx
  have hszA : (u8s q).toArray.size = 4 := by simpa [u8s_len] using hql
  clear bA F G hd h hZ hz41 hz1 hx
  subst he
  go_enter Try.func40, Try.ntmps40
  go_wp2_with (refine wpList_store_new rfl 39 _ _ rfl Z rfl (congrArg Value.agg HZ.out) (Eq.trans (b := 41) (by kernel_rfl) HZ2.out) (HI.out.trans (congrArg some HZ2.out)) HZ1.out ?_)
  refine HC.out.mono ?_
  rintro e w1 ⟨u, rfl, rfl, h2, h3⟩
  have D1 := h3.cells HDA.out (by omega)
  have hwz : w.heap.size < w1.heap.size := by have := h3.size; omega
  have D2 : (w1.setCells w.heap.size 35 (u8s q)).heap[w.heap.size]? = some (.cells (x.cells (.slice none 0 0)).toArray 39 (0, 0)) := by
    rw [HX.out, setCells_at _ _ _ _ D1, ← HZ0.out, setK _ _ hql]
  have k12 : Keep (fun b => b = w.heap.size) w1 (w1.setCells w.heap.size 35 (u8s q)) := keep_cells _ _ (Keep.refl _ _) (fun _ => rfl)
  have HT : w1.there w.heap.size 35 (u8s q).toArray.size := fun j hj => ⟨by rw [kb_cell D1, Array.getElem?_eq_getElem (by rw [hszA] at hj; have := HZ2.out; omega)]; rfl, kb_frozen D1 _⟩
  have HT := Lib.hid HT
  have h2' := h2
  have F2 := h2'.keep k12 (by omega) (fun b h e => by have := hlow b h; omega)
  have G1 := HGA.out.keep h3 (fun b h e => Hd.out b (.inl e) h)
  have G2 := (G1).keep k12 (fun b h e => by have := hlowW b h; omega)
  have K2 := ((Keep.after HBA.out h3)).trans k12 (fun b h e => by omega)
  have V2 : BytesOf (w1.setCells w.heap.size 35 (u8s q)) (.slice none 0 0) [] := RowOf.nil _ 0
  have HF2 := Lib.hid F2
  have HG2 := Lib.hid G2
  have HK2 := Lib.hid K2
  have HD2 := Lib.hid D2
  have HV2 := Lib.hid V2
  clear F2 G1 G2 K2 D1 D2 h2 h2' h3 k12 V2
  go_wp2_with (with_reducible refine wpList_store_mid rfl 36 _ _ rfl w.heap.size 35 (u8s q).toArray rfl rfl HT.out (sizeKey.trans (congrArg some hszA.symm)) (u8s_all _) ?_)
  refine (dEnd_any HF2.out).mono ?_
  rintro e w3 ⟨rfl, b3⟩
  rw [show endS xs (.bad 4 f) = (4, f) from rfl]
  have HF3 := Lib.hid (fun o => HF2.out.below (bl_alloc b3 o))
  have HG3 := Lib.hid (fun o => HG2.out.below (bl_alloc b3 o))
  have HK3 := Lib.hid (fun o => HK2.out.then_below (bl_alloc b3 o))
  have HD3 := Lib.hid (fun o => kb_alloc (kb_below b3 HD2.out) o)
  have HV3 := Lib.hid (fun o => HV2.out.below (bl_alloc b3 o))
  clear b3
  go_wp2_with fail
  refine (dRest_any (HF3.out _)).mono ?_
  rintro e w4 ⟨rfl, b4⟩
  have HF4 := Lib.hid ((HF3.out _).below b4)
  have HG4 := Lib.hid ((HG3.out _).below b4)
  have HK4 := Lib.hid ((HK3.out _).then_below b4)
  have HD4 := Lib.hid (kb_below b4 (HD3.out _))
  have HV4 := Lib.hid ((HV3.out _).below b4)
  clear b4
  rw [show restS xs (.bad 4 f) = 0 from rfl]
  go_wp2_with fail
  go_ret
  exact ⟨false, .bad 4 f, rfl, HF4.out, (HK4.out).mono fun _ _ h => .inl h, fun h => by simp at h, fun _ => ⟨4, f, by omega, rfl, _, _, _, HG4.out⟩⟩

set_option maxRecDepth 100000 in
set_option maxHeartbeats 1000000 in
theorem ag4_bad {w : World} {Br pr Bw pw : Nat} {sr sw : Value} {xs : List UInt8} {a : Nat} {er f : Nat} (F : RdO w Br pr sr xs (.at a)) (G : Wr w Bw pw 1048576 (xs.take a) 0 sw) (hd : ∀ b, (b = pr ∨ sr.ownBlock = some b) → ¬ WrS pw sw b) (hlen : xs.length ≤ 600) (h : ((fun a => takeP xs 4 a a id)) a = .bad er f) (he : er ≠ 4) :
    Calls Try.prog 40 #[.pointer (some ⟨pr, 0, none⟩), .pointer (some ⟨pw, 0, none⟩), .int .i64 4] w (AgainP w Br pr sr Bw pw sw xs) := by
  have HF := Lib.hid F
  have HG := Lib.hid G
  have Hd := Lib.hid hd
  have hlt := F.ltp
  have hltw := G.ltp
  have hi41 : (Try.prog.info? 39).map (·.size) = some 41 := by kernel_rfl
  have HI := Lib.hid hi41
  clear hi41
  obtain ⟨Z, hZ, hz41, hz1⟩ : ∃ Z, ((thZ 4).cells (.slice none 0 0)).toArray = Z ∧ 41 = Z.size ∧ Z.all (·.oneCell') = true := ⟨_, rfl, by simp [Th.cells, thZ, u8s_len], Th.one _ _ rfl⟩
  have HZ := Lib.hid ((thZ_cells 4).trans hZ)
  have HZ0 := Lib.hid hZ
  have HZ1 := Lib.hid hz1
  have HZ2 := Lib.hid hz41
  have bA : Below w.heap.size w (w.alloc (.cells Z 39)) := bl_alloc (Below.refl _ _) _
  have HBA := Lib.hid bA
  have HFA := Lib.hid (F.below bA)
  have HGA := Lib.hid (G.below bA)
  have HDA := Lib.hid (kb_new (w := w) rfl (.cells Z 39))
  have hsA : (w.alloc (.cells Z 39)).heap.size = w.heap.size + 1 := by simp
  have hlow : ∀ b, sr.ownBlock = some b → b < w.heap.size := fun b h => (F.low b h).2
  have hlowW : ∀ b, WrS pw sw b → b < w.heap.size := fun b h => (G.ltS h).2
  have her := takeP_bad h
  have HC := dKey_any HFA.out
  obtain ⟨q, hq⟩ : ∃ q : List UInt8, (List.replicate 4 0) = q := ⟨_, rfl⟩
  rw [step_bad h, show (((List.replicate 4 0) : List UInt8), St.bad er f) = (q, St.bad er f) by rw [hq]] at HC
  have HC := Lib.hid HC
  have hqz := hq
  have hql : q.length = 4 := by rw [← hq]; simp
  clear hq
  clear hqz
  obtain ⟨x, hx⟩ : ∃ x : Th, x = { thZ 4 with k := q } := ⟨_, rfl⟩
  have HX := Lib.hid hx
  have hszA : (u8s q).toArray.size = 4 := by simpa [u8s_len] using hql
  clear bA F G hd h hZ hz41 hz1 hx
  have he4 : ((er : Int) == 4) = false := by simp; omega
  have he4' : (er == 4) = false := by simpa using he
  have he0 : ((er : Int) == 0) = false := by simp; omega
  have he0' : (er == 0) = false := by simpa using her
  go_enter Try.func40, Try.ntmps40
  go_wp2_with (refine wpList_store_new rfl 39 _ _ rfl Z rfl (congrArg Value.agg HZ.out) (Eq.trans (b := 41) (by kernel_rfl) HZ2.out) (HI.out.trans (congrArg some HZ2.out)) HZ1.out ?_)
  refine HC.out.mono ?_
  rintro e w1 ⟨u, rfl, rfl, h2, h3⟩
  have D1 := h3.cells HDA.out (by omega)
  have hwz : w.heap.size < w1.heap.size := by have := h3.size; omega
  have D2 : (w1.setCells w.heap.size 35 (u8s q)).heap[w.heap.size]? = some (.cells (x.cells (.slice none 0 0)).toArray 39 (0, 0)) := by
    rw [HX.out, setCells_at _ _ _ _ D1, ← HZ0.out, setK _ _ hql]
  have k12 : Keep (fun b => b = w.heap.size) w1 (w1.setCells w.heap.size 35 (u8s q)) := keep_cells _ _ (Keep.refl _ _) (fun _ => rfl)
  have HT : w1.there w.heap.size 35 (u8s q).toArray.size := fun j hj => ⟨by rw [kb_cell D1, Array.getElem?_eq_getElem (by rw [hszA] at hj; have := HZ2.out; omega)]; rfl, kb_frozen D1 _⟩
  have HT := Lib.hid HT
  have h2' := h2
  have F2 := h2'.keep k12 (by omega) (fun b h e => by have := hlow b h; omega)
  have G1 := HGA.out.keep h3 (fun b h e => Hd.out b (.inl e) h)
  have G2 := (G1).keep k12 (fun b h e => by have := hlowW b h; omega)
  have K2 := ((Keep.after HBA.out h3)).trans k12 (fun b h e => by omega)
  have V2 : BytesOf (w1.setCells w.heap.size 35 (u8s q)) (.slice none 0 0) [] := RowOf.nil _ 0
  have HF2 := Lib.hid F2
  have HG2 := Lib.hid G2
  have HK2 := Lib.hid K2
  have HD2 := Lib.hid D2
  have HV2 := Lib.hid V2
  clear F2 G1 G2 K2 D1 D2 h2 h2' h3 k12 V2
  go_wp2_with (with_reducible refine wpList_store_mid rfl 36 _ _ rfl w.heap.size 35 (u8s q).toArray rfl rfl HT.out (sizeKey.trans (congrArg some hszA.symm)) (u8s_all _) ?_)
  refine (dEnd_any HF2.out).mono ?_
  rintro e w3 ⟨rfl, b3⟩
  rw [show endS xs (.bad er f) = (er, f) from rfl]
  have HF3 := Lib.hid (fun o => HF2.out.below (bl_alloc b3 o))
  have HG3 := Lib.hid (fun o => HG2.out.below (bl_alloc b3 o))
  have HK3 := Lib.hid (fun o => HK2.out.then_below (bl_alloc b3 o))
  have HD3 := Lib.hid (fun o => kb_alloc (kb_below b3 HD2.out) o)
  have HV3 := Lib.hid (fun o => HV2.out.below (bl_alloc b3 o))
  clear b3
  go_wp2_with fail
  go_ret
  exact ⟨false, .bad er f, rfl, HF3.out _, (HK3.out _).mono fun _ _ h => .inl h, fun h => by simp at h, fun _ => ⟨er, f, by omega, rfl, _, _, _, HG3.out _⟩⟩

set_option maxRecDepth 100000 in
set_option maxHeartbeats 1000000 in
theorem ag5_ok0 {w : World} {Br pr Bw pw : Nat} {sr sw : Value} {xs : List UInt8} {a : Nat} {q : Nat} {a' : Nat} (F : RdO w Br pr sr xs (.at a)) (G : Wr w Bw pw 1048576 (xs.take a) 0 sw) (hd : ∀ b, (b = pr ∨ sr.ownBlock = some b) → ¬ WrS pw sw b) (hlen : xs.length ≤ 600) (h : ((fun a => takeP xs 8 a a bigL)) a = .ok q a') (he : a' = xs.length) :
    Calls Try.prog 40 #[.pointer (some ⟨pr, 0, none⟩), .pointer (some ⟨pw, 0, none⟩), .int .i64 5] w (AgainP w Br pr sr Bw pw sw xs) := by
  have HF := Lib.hid F
  have HG := Lib.hid G
  have Hd := Lib.hid hd
  have hlt := F.ltp
  have hltw := G.ltp
  have hi41 : (Try.prog.info? 39).map (·.size) = some 41 := by kernel_rfl
  have HI := Lib.hid hi41
  clear hi41
  obtain ⟨Z, hZ, hz41, hz1⟩ : ∃ Z, ((thZ 5).cells (.slice none 0 0)).toArray = Z ∧ 41 = Z.size ∧ Z.all (·.oneCell') = true := ⟨_, rfl, by simp [Th.cells, thZ, u8s_len], Th.one _ _ rfl⟩
  have HZ := Lib.hid ((thZ_cells 5).trans hZ)
  have HZ0 := Lib.hid hZ
  have HZ1 := Lib.hid hz1
  have HZ2 := Lib.hid hz41
  have bA : Below w.heap.size w (w.alloc (.cells Z 39)) := bl_alloc (Below.refl _ _) _
  have HBA := Lib.hid bA
  have HFA := Lib.hid (F.below bA)
  have HGA := Lib.hid (G.below bA)
  have HDA := Lib.hid (kb_new (w := w) rfl (.cells Z 39))
  have hsA : (w.alloc (.cells Z 39)).heap.size = w.heap.size + 1 := by simp
  have hlow : ∀ b, sr.ownBlock = some b → b < w.heap.size := fun b h => (F.low b h).2
  have hlowW : ∀ b, WrS pw sw b → b < w.heap.size := fun b h => (G.ltS h).2
  have HC := dWord_any HFA.out
  rw [step_ok h] at HC
  have HC := Lib.hid HC
  obtain ⟨x, hx⟩ : ∃ x : Th, x = { thZ 5 with wd := q } := ⟨_, rfl⟩
  have HX := Lib.hid hx
  have hIs := (word_one h).1
  have hfl := hIs.len
  have hfm : ({ thZ 5 with wd := q } : Th).form = wrdL q := rfl
  have hput := put_fit (lim := 1048576) (bs := xs.take a) (x := { thZ 5 with wd := q }) (fun _ => by simp [thZ]) (by simp [thZ]) (by rw [hfm]; have := hIs.2.1; omega)
  rw [hfm, hIs.next, ← hx] at hput
  have HP := Lib.hid hput
  have hle := hIs.2.1
  have hfine : ({ thZ 5 with wd := q } : Th).Fine := ⟨by simp [thZ], by simp [thZ], by simp [thZ], by simp [thZ], (word_one h).2⟩
  rw [← hx] at hfine
  have HFI := Lib.hid hfine
  clear hput hIs hfm hfl hfine
  clear bA F G hd h hZ hz41 hz1 hx
  go_enter Try.func40, Try.ntmps40
  go_wp2_with (refine wpList_store_new rfl 39 _ _ rfl Z rfl (congrArg Value.agg HZ.out) (Eq.trans (b := 41) (by kernel_rfl) HZ2.out) (HI.out.trans (congrArg some HZ2.out)) HZ1.out ?_)
  refine HC.out.mono ?_
  rintro e w1 ⟨u, rfl, rfl, h2, h3⟩
  have D1 := h3.cells HDA.out (by omega)
  have hwz : w.heap.size < w1.heap.size := by have := h3.size; omega
  have D2 : (w1.setCell ⟨w.heap.size, 39, none⟩ (.int .u64 (q : Int))).heap[w.heap.size]? = some (.cells (x.cells (.slice none 0 0)).toArray 39 (0, 0)) := by
    rw [HX.out, kb_set D1, ← HZ0.out]
    rfl
  have k12 : Keep (fun b => b = w.heap.size) w1 (w1.setCell ⟨w.heap.size, 39, none⟩ (.int .u64 (q : Int))) := (Keep.refl (fun b => b = w.heap.size) w1).set (p := ⟨w.heap.size, 39, none⟩) (fun _ => rfl) _
  have d1 : w1.cell? ⟨w.heap.size, 39, none⟩ = some (.int .u64 0) := by rw [kb_cell D1, ← HZ0.out]; rfl
  have z1 := kb_frozen D1 39
  have h2' := h2
  have F2 := h2'.keep k12 (by omega) (fun b h e => by have := hlow b h; omega)
  have G1 := HGA.out.keep h3 (fun b h e => Hd.out b (.inl e) h)
  have G2 := (G1).keep k12 (fun b h e => by have := hlowW b h; omega)
  have K2 := ((Keep.after HBA.out h3)).trans k12 (fun b h e => by omega)
  have V2 : BytesOf (w1.setCell ⟨w.heap.size, 39, none⟩ (.int .u64 (q : Int))) (.slice none 0 0) [] := RowOf.nil _ 0
  have HF2 := Lib.hid F2
  have HG2 := Lib.hid G2
  have HK2 := Lib.hid K2
  have HD2 := Lib.hid D2
  have HV2 := Lib.hid V2
  clear F2 G1 G2 K2 D1 D2 h2 h2' h3 k12 V2
  go_wp2_with fail
  refine (dEnd_any HF2.out).mono ?_
  rintro e w3 ⟨rfl, b3⟩
  rw [show endS xs (.at a') = (0, 0) by simp [endS, he]]
  have HF3 := Lib.hid (fun o => HF2.out.below (bl_alloc b3 o))
  have HG3 := Lib.hid (fun o => HG2.out.below (bl_alloc b3 o))
  have HK3 := Lib.hid (fun o => HK2.out.then_below (bl_alloc b3 o))
  have HD3 := Lib.hid (fun o => kb_alloc (kb_below b3 HD2.out) o)
  have HV3 := Lib.hid (fun o => HV2.out.below (bl_alloc b3 o))
  clear b3
  have hxb : x.b = [] := by rw [HX.out] <;> rfl
  have HRG := Lib.hid (fun o => range_of_kb (HD3.out o))
  have hcl : (x.cells (.slice none 0 0)).length = 41 := Th.cells_len HFI.out _
  go_wp2_with (with_reducible refine wpList_load_want 39 _ rfl (by kernel_rfl) w.heap.size 0 rfl (x.cells (.slice none 0 0)) _ (HRG.out _) Try.underlying39 rfl (HI.out.trans (congrArg some hcl.symm)) ?_)
  refine Calls.mono (puts_any HFI.out ?hv (HG3.out (.cells #[.int .i64 0, .int .i64 0] 60))) ?_
  case hv => rw [hxb]; exact HV3.out (.cells #[.int .i64 0, .int .i64 0] 60)
  rintro e w6 ⟨rfl, s6, G6, k6, n6⟩
  rw [HP.out.1]
  rw [HP.out.2] at G6
  have HF6 := Lib.hid ((HF3.out (.cells #[.int .i64 0, .int .i64 0] 60)).keep k6 (fun h => Hd.out pr (.inl rfl) h) (fun b h e => Hd.out b (.inr h) e))
  have HK6 := Lib.hid (((HK3.out (.cells #[.int .i64 0, .int .i64 0] 60)).mono (T := fun b => b = pr ∨ WrS pw sw b) fun _ _ h => .inl h).trans k6 fun _ _ h => .inr h)
  have hsz6 := (HK3.out (.cells #[.int .i64 0, .int .i64 0] 60)).size
  have HG6 := Lib.hid G6
  have HN6 := Lib.hid n6
  clear G6 k6 n6
  go_wp2_with fail
  go_ret
  exact ⟨true, .at a', rfl, HF6.out, HK6.out, fun _ => ⟨a', s6, rfl, HG6.out, fun b hb => (HN6.out b hb).imp id fun h => Nat.le_trans hsz6 h⟩, fun h => by simp at h⟩

set_option maxRecDepth 100000 in
set_option maxHeartbeats 1000000 in
theorem ag5_ok4 {w : World} {Br pr Bw pw : Nat} {sr sw : Value} {xs : List UInt8} {a : Nat} {q : Nat} {a' : Nat} (F : RdO w Br pr sr xs (.at a)) (G : Wr w Bw pw 1048576 (xs.take a) 0 sw) (hd : ∀ b, (b = pr ∨ sr.ownBlock = some b) → ¬ WrS pw sw b) (hlen : xs.length ≤ 600) (h : ((fun a => takeP xs 8 a a bigL)) a = .ok q a') (he : a' < xs.length) :
    Calls Try.prog 40 #[.pointer (some ⟨pr, 0, none⟩), .pointer (some ⟨pw, 0, none⟩), .int .i64 5] w (AgainP w Br pr sr Bw pw sw xs) := by
  have HF := Lib.hid F
  have HG := Lib.hid G
  have Hd := Lib.hid hd
  have hlt := F.ltp
  have hltw := G.ltp
  have hi41 : (Try.prog.info? 39).map (·.size) = some 41 := by kernel_rfl
  have HI := Lib.hid hi41
  clear hi41
  obtain ⟨Z, hZ, hz41, hz1⟩ : ∃ Z, ((thZ 5).cells (.slice none 0 0)).toArray = Z ∧ 41 = Z.size ∧ Z.all (·.oneCell') = true := ⟨_, rfl, by simp [Th.cells, thZ, u8s_len], Th.one _ _ rfl⟩
  have HZ := Lib.hid ((thZ_cells 5).trans hZ)
  have HZ0 := Lib.hid hZ
  have HZ1 := Lib.hid hz1
  have HZ2 := Lib.hid hz41
  have bA : Below w.heap.size w (w.alloc (.cells Z 39)) := bl_alloc (Below.refl _ _) _
  have HBA := Lib.hid bA
  have HFA := Lib.hid (F.below bA)
  have HGA := Lib.hid (G.below bA)
  have HDA := Lib.hid (kb_new (w := w) rfl (.cells Z 39))
  have hsA : (w.alloc (.cells Z 39)).heap.size = w.heap.size + 1 := by simp
  have hlow : ∀ b, sr.ownBlock = some b → b < w.heap.size := fun b h => (F.low b h).2
  have hlowW : ∀ b, WrS pw sw b → b < w.heap.size := fun b h => (G.ltS h).2
  have HC := dWord_any HFA.out
  rw [step_ok h] at HC
  have HC := Lib.hid HC
  obtain ⟨x, hx⟩ : ∃ x : Th, x = { thZ 5 with wd := q } := ⟨_, rfl⟩
  have HX := Lib.hid hx
  have hIs := (word_one h).1
  have hfl := hIs.len
  have hfm : ({ thZ 5 with wd := q } : Th).form = wrdL q := rfl
  have hput := put_fit (lim := 1048576) (bs := xs.take a) (x := { thZ 5 with wd := q }) (fun _ => by simp [thZ]) (by simp [thZ]) (by rw [hfm]; have := hIs.2.1; omega)
  rw [hfm, hIs.next, ← hx] at hput
  have HP := Lib.hid hput
  have hle := hIs.2.1
  have hfine : ({ thZ 5 with wd := q } : Th).Fine := ⟨by simp [thZ], by simp [thZ], by simp [thZ], by simp [thZ], (word_one h).2⟩
  rw [← hx] at hfine
  have HFI := Lib.hid hfine
  clear hput hIs hfm hfl hfine
  clear bA F G hd h hZ hz41 hz1 hx
  have hgt : decide ((0 : Int) < ((xs.length - a' : Nat) : Int)) = true := decide_eq_true (by omega)
  have hgt' : decide (0 < xs.length - a') = true := decide_eq_true (by omega)
  go_enter Try.func40, Try.ntmps40
  go_wp2_with (refine wpList_store_new rfl 39 _ _ rfl Z rfl (congrArg Value.agg HZ.out) (Eq.trans (b := 41) (by kernel_rfl) HZ2.out) (HI.out.trans (congrArg some HZ2.out)) HZ1.out ?_)
  refine HC.out.mono ?_
  rintro e w1 ⟨u, rfl, rfl, h2, h3⟩
  have D1 := h3.cells HDA.out (by omega)
  have hwz : w.heap.size < w1.heap.size := by have := h3.size; omega
  have D2 : (w1.setCell ⟨w.heap.size, 39, none⟩ (.int .u64 (q : Int))).heap[w.heap.size]? = some (.cells (x.cells (.slice none 0 0)).toArray 39 (0, 0)) := by
    rw [HX.out, kb_set D1, ← HZ0.out]
    rfl
  have k12 : Keep (fun b => b = w.heap.size) w1 (w1.setCell ⟨w.heap.size, 39, none⟩ (.int .u64 (q : Int))) := (Keep.refl (fun b => b = w.heap.size) w1).set (p := ⟨w.heap.size, 39, none⟩) (fun _ => rfl) _
  have d1 : w1.cell? ⟨w.heap.size, 39, none⟩ = some (.int .u64 0) := by rw [kb_cell D1, ← HZ0.out]; rfl
  have z1 := kb_frozen D1 39
  have h2' := h2
  have F2 := h2'.keep k12 (by omega) (fun b h e => by have := hlow b h; omega)
  have G1 := HGA.out.keep h3 (fun b h e => Hd.out b (.inl e) h)
  have G2 := (G1).keep k12 (fun b h e => by have := hlowW b h; omega)
  have K2 := ((Keep.after HBA.out h3)).trans k12 (fun b h e => by omega)
  have V2 : BytesOf (w1.setCell ⟨w.heap.size, 39, none⟩ (.int .u64 (q : Int))) (.slice none 0 0) [] := RowOf.nil _ 0
  have HF2 := Lib.hid F2
  have HG2 := Lib.hid G2
  have HK2 := Lib.hid K2
  have HD2 := Lib.hid D2
  have HV2 := Lib.hid V2
  clear F2 G1 G2 K2 D1 D2 h2 h2' h3 k12 V2
  go_wp2_with fail
  refine (dEnd_any HF2.out).mono ?_
  rintro e w3 ⟨rfl, b3⟩
  rw [show endS xs (.at a') = (4, a') by simp [endS, he]]
  have HF3 := Lib.hid (fun o => HF2.out.below (bl_alloc b3 o))
  have HG3 := Lib.hid (fun o => HG2.out.below (bl_alloc b3 o))
  have HK3 := Lib.hid (fun o => HK2.out.then_below (bl_alloc b3 o))
  have HD3 := Lib.hid (fun o => kb_alloc (kb_below b3 HD2.out) o)
  have HV3 := Lib.hid (fun o => HV2.out.below (bl_alloc b3 o))
  clear b3
  go_wp2_with fail
  refine (dRest_any (HF3.out _)).mono ?_
  rintro e w4 ⟨rfl, b4⟩
  have HF4 := Lib.hid ((HF3.out _).below b4)
  have HG4 := Lib.hid ((HG3.out _).below b4)
  have HK4 := Lib.hid ((HK3.out _).then_below b4)
  have HD4 := Lib.hid (kb_below b4 (HD3.out _))
  have HV4 := Lib.hid ((HV3.out _).below b4)
  clear b4
  rw [show restS xs (.at a') = xs.length - a' from rfl]
  have hxb : x.b = [] := by rw [HX.out] <;> rfl
  have HRG := Lib.hid (range_of_kb HD4.out)
  have hcl : (x.cells (.slice none 0 0)).length = 41 := Th.cells_len HFI.out _
  go_wp2_with (with_reducible refine wpList_load_want 39 _ rfl (by kernel_rfl) w.heap.size 0 rfl (x.cells (.slice none 0 0)) _ HRG.out Try.underlying39 rfl (HI.out.trans (congrArg some hcl.symm)) ?_)
  refine Calls.mono (puts_any HFI.out ?hv (HG4.out)) ?_
  case hv => rw [hxb]; exact HV4.out
  rintro e w6 ⟨rfl, s6, G6, k6, n6⟩
  rw [HP.out.1]
  rw [HP.out.2] at G6
  have HF6 := Lib.hid ((HF4.out).keep k6 (fun h => Hd.out pr (.inl rfl) h) (fun b h e => Hd.out b (.inr h) e))
  have HK6 := Lib.hid (((HK4.out).mono (T := fun b => b = pr ∨ WrS pw sw b) fun _ _ h => .inl h).trans k6 fun _ _ h => .inr h)
  have hsz6 := (HK4.out).size
  have HG6 := Lib.hid G6
  have HN6 := Lib.hid n6
  clear G6 k6 n6
  go_wp2_with fail
  go_ret
  exact ⟨true, .at a', rfl, HF6.out, HK6.out, fun _ => ⟨a', s6, rfl, HG6.out, fun b hb => (HN6.out b hb).imp id fun h => Nat.le_trans hsz6 h⟩, fun h => by simp at h⟩

set_option maxRecDepth 100000 in
set_option maxHeartbeats 1000000 in
theorem ag5_bad4 {w : World} {Br pr Bw pw : Nat} {sr sw : Value} {xs : List UInt8} {a : Nat} {er f : Nat} (F : RdO w Br pr sr xs (.at a)) (G : Wr w Bw pw 1048576 (xs.take a) 0 sw) (hd : ∀ b, (b = pr ∨ sr.ownBlock = some b) → ¬ WrS pw sw b) (hlen : xs.length ≤ 600) (h : ((fun a => takeP xs 8 a a bigL)) a = .bad er f) (he : er = 4) :
    Calls Try.prog 40 #[.pointer (some ⟨pr, 0, none⟩), .pointer (some ⟨pw, 0, none⟩), .int .i64 5] w (AgainP w Br pr sr Bw pw sw xs) := by
  have HF := Lib.hid F
  have HG := Lib.hid G
  have Hd := Lib.hid hd
  have hlt := F.ltp
  have hltw := G.ltp
  have hi41 : (Try.prog.info? 39).map (·.size) = some 41 := by kernel_rfl
  have HI := Lib.hid hi41
  clear hi41
  obtain ⟨Z, hZ, hz41, hz1⟩ : ∃ Z, ((thZ 5).cells (.slice none 0 0)).toArray = Z ∧ 41 = Z.size ∧ Z.all (·.oneCell') = true := ⟨_, rfl, by simp [Th.cells, thZ, u8s_len], Th.one _ _ rfl⟩
  have HZ := Lib.hid ((thZ_cells 5).trans hZ)
  have HZ0 := Lib.hid hZ
  have HZ1 := Lib.hid hz1
  have HZ2 := Lib.hid hz41
  have bA : Below w.heap.size w (w.alloc (.cells Z 39)) := bl_alloc (Below.refl _ _) _
  have HBA := Lib.hid bA
  have HFA := Lib.hid (F.below bA)
  have HGA := Lib.hid (G.below bA)
  have HDA := Lib.hid (kb_new (w := w) rfl (.cells Z 39))
  have hsA : (w.alloc (.cells Z 39)).heap.size = w.heap.size + 1 := by simp
  have hlow : ∀ b, sr.ownBlock = some b → b < w.heap.size := fun b h => (F.low b h).2
  have hlowW : ∀ b, WrS pw sw b → b < w.heap.size := fun b h => (G.ltS h).2
  have her := takeP_bad h
  have HC := dWord_any HFA.out
  obtain ⟨q, hq⟩ : ∃ q : Nat, 0 = q := ⟨_, rfl⟩
  rw [step_bad h, show ((0 : Nat), St.bad er f) = (q, St.bad er f) by rw [hq]] at HC
  have HC := Lib.hid HC
  clear hq
  obtain ⟨x, hx⟩ : ∃ x : Th, x = { thZ 5 with wd := q } := ⟨_, rfl⟩
  have HX := Lib.hid hx
  clear bA F G hd h hZ hz41 hz1 hx
  subst he
  go_enter Try.func40, Try.ntmps40
  go_wp2_with (refine wpList_store_new rfl 39 _ _ rfl Z rfl (congrArg Value.agg HZ.out) (Eq.trans (b := 41) (by kernel_rfl) HZ2.out) (HI.out.trans (congrArg some HZ2.out)) HZ1.out ?_)
  refine HC.out.mono ?_
  rintro e w1 ⟨u, rfl, rfl, h2, h3⟩
  have D1 := h3.cells HDA.out (by omega)
  have hwz : w.heap.size < w1.heap.size := by have := h3.size; omega
  have D2 : (w1.setCell ⟨w.heap.size, 39, none⟩ (.int .u64 (q : Int))).heap[w.heap.size]? = some (.cells (x.cells (.slice none 0 0)).toArray 39 (0, 0)) := by
    rw [HX.out, kb_set D1, ← HZ0.out]
    rfl
  have k12 : Keep (fun b => b = w.heap.size) w1 (w1.setCell ⟨w.heap.size, 39, none⟩ (.int .u64 (q : Int))) := (Keep.refl (fun b => b = w.heap.size) w1).set (p := ⟨w.heap.size, 39, none⟩) (fun _ => rfl) _
  have d1 : w1.cell? ⟨w.heap.size, 39, none⟩ = some (.int .u64 0) := by rw [kb_cell D1, ← HZ0.out]; rfl
  have z1 := kb_frozen D1 39
  have h2' := h2
  have F2 := h2'.keep k12 (by omega) (fun b h e => by have := hlow b h; omega)
  have G1 := HGA.out.keep h3 (fun b h e => Hd.out b (.inl e) h)
  have G2 := (G1).keep k12 (fun b h e => by have := hlowW b h; omega)
  have K2 := ((Keep.after HBA.out h3)).trans k12 (fun b h e => by omega)
  have V2 : BytesOf (w1.setCell ⟨w.heap.size, 39, none⟩ (.int .u64 (q : Int))) (.slice none 0 0) [] := RowOf.nil _ 0
  have HF2 := Lib.hid F2
  have HG2 := Lib.hid G2
  have HK2 := Lib.hid K2
  have HD2 := Lib.hid D2
  have HV2 := Lib.hid V2
  clear F2 G1 G2 K2 D1 D2 h2 h2' h3 k12 V2
  go_wp2_with fail
  refine (dEnd_any HF2.out).mono ?_
  rintro e w3 ⟨rfl, b3⟩
  rw [show endS xs (.bad 4 f) = (4, f) from rfl]
  have HF3 := Lib.hid (fun o => HF2.out.below (bl_alloc b3 o))
  have HG3 := Lib.hid (fun o => HG2.out.below (bl_alloc b3 o))
  have HK3 := Lib.hid (fun o => HK2.out.then_below (bl_alloc b3 o))
  have HD3 := Lib.hid (fun o => kb_alloc (kb_below b3 HD2.out) o)
  have HV3 := Lib.hid (fun o => HV2.out.below (bl_alloc b3 o))
  clear b3
  go_wp2_with fail
  refine (dRest_any (HF3.out _)).mono ?_
  rintro e w4 ⟨rfl, b4⟩
  have HF4 := Lib.hid ((HF3.out _).below b4)
  have HG4 := Lib.hid ((HG3.out _).below b4)
  have HK4 := Lib.hid ((HK3.out _).then_below b4)
  have HD4 := Lib.hid (kb_below b4 (HD3.out _))
  have HV4 := Lib.hid ((HV3.out _).below b4)
  clear b4
  rw [show restS xs (.bad 4 f) = 0 from rfl]
  go_wp2_with fail
  go_ret
  exact ⟨false, .bad 4 f, rfl, HF4.out, (HK4.out).mono fun _ _ h => .inl h, fun h => by simp at h, fun _ => ⟨4, f, by omega, rfl, _, _, _, HG4.out⟩⟩

set_option maxRecDepth 100000 in
set_option maxHeartbeats 1000000 in
theorem ag5_bad {w : World} {Br pr Bw pw : Nat} {sr sw : Value} {xs : List UInt8} {a : Nat} {er f : Nat} (F : RdO w Br pr sr xs (.at a)) (G : Wr w Bw pw 1048576 (xs.take a) 0 sw) (hd : ∀ b, (b = pr ∨ sr.ownBlock = some b) → ¬ WrS pw sw b) (hlen : xs.length ≤ 600) (h : ((fun a => takeP xs 8 a a bigL)) a = .bad er f) (he : er ≠ 4) :
    Calls Try.prog 40 #[.pointer (some ⟨pr, 0, none⟩), .pointer (some ⟨pw, 0, none⟩), .int .i64 5] w (AgainP w Br pr sr Bw pw sw xs) := by
  have HF := Lib.hid F
  have HG := Lib.hid G
  have Hd := Lib.hid hd
  have hlt := F.ltp
  have hltw := G.ltp
  have hi41 : (Try.prog.info? 39).map (·.size) = some 41 := by kernel_rfl
  have HI := Lib.hid hi41
  clear hi41
  obtain ⟨Z, hZ, hz41, hz1⟩ : ∃ Z, ((thZ 5).cells (.slice none 0 0)).toArray = Z ∧ 41 = Z.size ∧ Z.all (·.oneCell') = true := ⟨_, rfl, by simp [Th.cells, thZ, u8s_len], Th.one _ _ rfl⟩
  have HZ := Lib.hid ((thZ_cells 5).trans hZ)
  have HZ0 := Lib.hid hZ
  have HZ1 := Lib.hid hz1
  have HZ2 := Lib.hid hz41
  have bA : Below w.heap.size w (w.alloc (.cells Z 39)) := bl_alloc (Below.refl _ _) _
  have HBA := Lib.hid bA
  have HFA := Lib.hid (F.below bA)
  have HGA := Lib.hid (G.below bA)
  have HDA := Lib.hid (kb_new (w := w) rfl (.cells Z 39))
  have hsA : (w.alloc (.cells Z 39)).heap.size = w.heap.size + 1 := by simp
  have hlow : ∀ b, sr.ownBlock = some b → b < w.heap.size := fun b h => (F.low b h).2
  have hlowW : ∀ b, WrS pw sw b → b < w.heap.size := fun b h => (G.ltS h).2
  have her := takeP_bad h
  have HC := dWord_any HFA.out
  obtain ⟨q, hq⟩ : ∃ q : Nat, 0 = q := ⟨_, rfl⟩
  rw [step_bad h, show ((0 : Nat), St.bad er f) = (q, St.bad er f) by rw [hq]] at HC
  have HC := Lib.hid HC
  clear hq
  obtain ⟨x, hx⟩ : ∃ x : Th, x = { thZ 5 with wd := q } := ⟨_, rfl⟩
  have HX := Lib.hid hx
  clear bA F G hd h hZ hz41 hz1 hx
  have he4 : ((er : Int) == 4) = false := by simp; omega
  have he4' : (er == 4) = false := by simpa using he
  have he0 : ((er : Int) == 0) = false := by simp; omega
  have he0' : (er == 0) = false := by simpa using her
  go_enter Try.func40, Try.ntmps40
  go_wp2_with (refine wpList_store_new rfl 39 _ _ rfl Z rfl (congrArg Value.agg HZ.out) (Eq.trans (b := 41) (by kernel_rfl) HZ2.out) (HI.out.trans (congrArg some HZ2.out)) HZ1.out ?_)
  refine HC.out.mono ?_
  rintro e w1 ⟨u, rfl, rfl, h2, h3⟩
  have D1 := h3.cells HDA.out (by omega)
  have hwz : w.heap.size < w1.heap.size := by have := h3.size; omega
  have D2 : (w1.setCell ⟨w.heap.size, 39, none⟩ (.int .u64 (q : Int))).heap[w.heap.size]? = some (.cells (x.cells (.slice none 0 0)).toArray 39 (0, 0)) := by
    rw [HX.out, kb_set D1, ← HZ0.out]
    rfl
  have k12 : Keep (fun b => b = w.heap.size) w1 (w1.setCell ⟨w.heap.size, 39, none⟩ (.int .u64 (q : Int))) := (Keep.refl (fun b => b = w.heap.size) w1).set (p := ⟨w.heap.size, 39, none⟩) (fun _ => rfl) _
  have d1 : w1.cell? ⟨w.heap.size, 39, none⟩ = some (.int .u64 0) := by rw [kb_cell D1, ← HZ0.out]; rfl
  have z1 := kb_frozen D1 39
  have h2' := h2
  have F2 := h2'.keep k12 (by omega) (fun b h e => by have := hlow b h; omega)
  have G1 := HGA.out.keep h3 (fun b h e => Hd.out b (.inl e) h)
  have G2 := (G1).keep k12 (fun b h e => by have := hlowW b h; omega)
  have K2 := ((Keep.after HBA.out h3)).trans k12 (fun b h e => by omega)
  have V2 : BytesOf (w1.setCell ⟨w.heap.size, 39, none⟩ (.int .u64 (q : Int))) (.slice none 0 0) [] := RowOf.nil _ 0
  have HF2 := Lib.hid F2
  have HG2 := Lib.hid G2
  have HK2 := Lib.hid K2
  have HD2 := Lib.hid D2
  have HV2 := Lib.hid V2
  clear F2 G1 G2 K2 D1 D2 h2 h2' h3 k12 V2
  go_wp2_with fail
  refine (dEnd_any HF2.out).mono ?_
  rintro e w3 ⟨rfl, b3⟩
  rw [show endS xs (.bad er f) = (er, f) from rfl]
  have HF3 := Lib.hid (fun o => HF2.out.below (bl_alloc b3 o))
  have HG3 := Lib.hid (fun o => HG2.out.below (bl_alloc b3 o))
  have HK3 := Lib.hid (fun o => HK2.out.then_below (bl_alloc b3 o))
  have HD3 := Lib.hid (fun o => kb_alloc (kb_below b3 HD2.out) o)
  have HV3 := Lib.hid (fun o => HV2.out.below (bl_alloc b3 o))
  clear b3
  go_wp2_with fail
  go_ret
  exact ⟨false, .bad er f, rfl, HF3.out _, (HK3.out _).mono fun _ _ h => .inl h, fun h => by simp at h, fun _ => ⟨er, f, by omega, rfl, _, _, _, HG3.out _⟩⟩

set_option maxRecDepth 100000 in
set_option maxHeartbeats 1000000 in
theorem ag6_ok0 {w : World} {Br pr Bw pw : Nat} {sr sw : Value} {xs : List UInt8} {a : Nat} {q : Nat} {a' : Nat} (F : RdO w Br pr sr xs (.at a)) (G : Wr w Bw pw 1048576 (xs.take a) 0 sw) (hd : ∀ b, (b = pr ∨ sr.ownBlock = some b) → ¬ WrS pw sw b) (hlen : xs.length ≤ 600) (h : (paceP xs) a = .ok q a') (he : a' = xs.length) :
    Calls Try.prog 40 #[.pointer (some ⟨pr, 0, none⟩), .pointer (some ⟨pw, 0, none⟩), .int .i64 6] w (AgainP w Br pr sr Bw pw sw xs) := by
  have HF := Lib.hid F
  have HG := Lib.hid G
  have Hd := Lib.hid hd
  have hlt := F.ltp
  have hltw := G.ltp
  have hi41 : (Try.prog.info? 39).map (·.size) = some 41 := by kernel_rfl
  have HI := Lib.hid hi41
  clear hi41
  obtain ⟨Z, hZ, hz41, hz1⟩ : ∃ Z, ((thZ 6).cells (.slice none 0 0)).toArray = Z ∧ 41 = Z.size ∧ Z.all (·.oneCell') = true := ⟨_, rfl, by simp [Th.cells, thZ, u8s_len], Th.one _ _ rfl⟩
  have HZ := Lib.hid ((thZ_cells 6).trans hZ)
  have HZ0 := Lib.hid hZ
  have HZ1 := Lib.hid hz1
  have HZ2 := Lib.hid hz41
  have bA : Below w.heap.size w (w.alloc (.cells Z 39)) := bl_alloc (Below.refl _ _) _
  have HBA := Lib.hid bA
  have HFA := Lib.hid (F.below bA)
  have HGA := Lib.hid (G.below bA)
  have HDA := Lib.hid (kb_new (w := w) rfl (.cells Z 39))
  have hsA : (w.alloc (.cells Z 39)).heap.size = w.heap.size + 1 := by simp
  have hlow : ∀ b, sr.ownBlock = some b → b < w.heap.size := fun b h => (F.low b h).2
  have hlowW : ∀ b, WrS pw sw b → b < w.heap.size := fun b h => (G.ltS h).2
  have HC := dPace_any HFA.out
  rw [step_ok h] at HC
  have HC := Lib.hid HC
  obtain ⟨x, hx⟩ : ∃ x : Th, x = { thZ 6 with wd := q } := ⟨_, rfl⟩
  have HX := Lib.hid hx
  have hIs := (pace_one h).1
  have hfl := hIs.len
  have hfm : ({ thZ 6 with wd := q } : Th).form = wrdL (canon q) := rfl
  have hput := put_fit (lim := 1048576) (bs := xs.take a) (x := { thZ 6 with wd := q }) (fun _ => by simp [thZ]) (by simp [thZ]) (by rw [hfm]; have := hIs.2.1; omega)
  rw [hfm, hIs.next, ← hx] at hput
  have HP := Lib.hid hput
  have hle := hIs.2.1
  have hfine : ({ thZ 6 with wd := q } : Th).Fine := ⟨by simp [thZ], by simp [thZ], by simp [thZ], by simp [thZ], (pace_one h).2⟩
  rw [← hx] at hfine
  have HFI := Lib.hid hfine
  clear hput hIs hfm hfl hfine
  have hrb := fun W => run_bits q W
  clear bA F G hd h hZ hz41 hz1 hx
  go_enter Try.func40, Try.ntmps40
  go_wp2_with (refine wpList_store_new rfl 39 _ _ rfl Z rfl (congrArg Value.agg HZ.out) (Eq.trans (b := 41) (by kernel_rfl) HZ2.out) (HI.out.trans (congrArg some HZ2.out)) HZ1.out ?_)
  refine HC.out.mono ?_
  rintro e w1 ⟨u, rfl, rfl, h2, h3⟩
  have D1 := h3.cells HDA.out (by omega)
  have hwz : w.heap.size < w1.heap.size := by have := h3.size; omega
  have D2 : (w1.setCell ⟨w.heap.size, 39, none⟩ (.int .u64 (q : Int))).heap[w.heap.size]? = some (.cells (x.cells (.slice none 0 0)).toArray 39 (0, 0)) := by
    rw [HX.out, kb_set D1, ← HZ0.out]
    rfl
  have k12 : Keep (fun b => b = w.heap.size) w1 (w1.setCell ⟨w.heap.size, 39, none⟩ (.int .u64 (q : Int))) := (Keep.refl (fun b => b = w.heap.size) w1).set (p := ⟨w.heap.size, 39, none⟩) (fun _ => rfl) _
  have d1 : w1.cell? ⟨w.heap.size, 39, none⟩ = some (.int .u64 0) := by rw [kb_cell D1, ← HZ0.out]; rfl
  have z1 := kb_frozen D1 39
  have h2' := h2
  have F2 := h2'.keep k12 (by omega) (fun b h e => by have := hlow b h; omega)
  have G1 := HGA.out.keep h3 (fun b h e => Hd.out b (.inl e) h)
  have G2 := (G1).keep k12 (fun b h e => by have := hlowW b h; omega)
  have K2 := ((Keep.after HBA.out h3)).trans k12 (fun b h e => by omega)
  have V2 : BytesOf (w1.setCell ⟨w.heap.size, 39, none⟩ (.int .u64 (q : Int))) (.slice none 0 0) [] := RowOf.nil _ 0
  have HF2 := Lib.hid F2
  have HG2 := Lib.hid G2
  have HK2 := Lib.hid K2
  have HD2 := Lib.hid D2
  have HV2 := Lib.hid V2
  clear F2 G1 G2 K2 D1 D2 h2 h2' h3 k12 V2
  go_wp2_with fail
  refine (dEnd_any HF2.out).mono ?_
  rintro e w3 ⟨rfl, b3⟩
  rw [show endS xs (.at a') = (0, 0) by simp [endS, he]]
  have HF3 := Lib.hid (fun o => HF2.out.below (bl_alloc b3 o))
  have HG3 := Lib.hid (fun o => HG2.out.below (bl_alloc b3 o))
  have HK3 := Lib.hid (fun o => HK2.out.then_below (bl_alloc b3 o))
  have HD3 := Lib.hid (fun o => kb_alloc (kb_below b3 HD2.out) o)
  have HV3 := Lib.hid (fun o => HV2.out.below (bl_alloc b3 o))
  clear b3
  have hxb : x.b = [] := by rw [HX.out] <;> rfl
  have HRG := Lib.hid (fun o => range_of_kb (HD3.out o))
  have hcl : (x.cells (.slice none 0 0)).length = 41 := Th.cells_len HFI.out _
  go_wp2_with (with_reducible refine wpList_load_want 39 _ rfl (by kernel_rfl) w.heap.size 0 rfl (x.cells (.slice none 0 0)) _ (HRG.out _) Try.underlying39 rfl (HI.out.trans (congrArg some hcl.symm)) ?_)
  refine Calls.mono (puts_any HFI.out ?hv (HG3.out (.cells #[.int .i64 0, .int .i64 0] 60))) ?_
  case hv => rw [hxb]; exact HV3.out (.cells #[.int .i64 0, .int .i64 0] 60)
  rintro e w6 ⟨rfl, s6, G6, k6, n6⟩
  rw [HP.out.1]
  rw [HP.out.2] at G6
  have HF6 := Lib.hid ((HF3.out (.cells #[.int .i64 0, .int .i64 0] 60)).keep k6 (fun h => Hd.out pr (.inl rfl) h) (fun b h e => Hd.out b (.inr h) e))
  have HK6 := Lib.hid (((HK3.out (.cells #[.int .i64 0, .int .i64 0] 60)).mono (T := fun b => b = pr ∨ WrS pw sw b) fun _ _ h => .inl h).trans k6 fun _ _ h => .inr h)
  have hsz6 := (HK3.out (.cells #[.int .i64 0, .int .i64 0] 60)).size
  have HG6 := Lib.hid G6
  have HN6 := Lib.hid n6
  clear G6 k6 n6
  go_wp2_with fail
  go_ret
  exact ⟨true, .at a', rfl, HF6.out, HK6.out, fun _ => ⟨a', s6, rfl, HG6.out, fun b hb => (HN6.out b hb).imp id fun h => Nat.le_trans hsz6 h⟩, fun h => by simp at h⟩

set_option maxRecDepth 100000 in
set_option maxHeartbeats 1000000 in
theorem ag6_ok4 {w : World} {Br pr Bw pw : Nat} {sr sw : Value} {xs : List UInt8} {a : Nat} {q : Nat} {a' : Nat} (F : RdO w Br pr sr xs (.at a)) (G : Wr w Bw pw 1048576 (xs.take a) 0 sw) (hd : ∀ b, (b = pr ∨ sr.ownBlock = some b) → ¬ WrS pw sw b) (hlen : xs.length ≤ 600) (h : (paceP xs) a = .ok q a') (he : a' < xs.length) :
    Calls Try.prog 40 #[.pointer (some ⟨pr, 0, none⟩), .pointer (some ⟨pw, 0, none⟩), .int .i64 6] w (AgainP w Br pr sr Bw pw sw xs) := by
  have HF := Lib.hid F
  have HG := Lib.hid G
  have Hd := Lib.hid hd
  have hlt := F.ltp
  have hltw := G.ltp
  have hi41 : (Try.prog.info? 39).map (·.size) = some 41 := by kernel_rfl
  have HI := Lib.hid hi41
  clear hi41
  obtain ⟨Z, hZ, hz41, hz1⟩ : ∃ Z, ((thZ 6).cells (.slice none 0 0)).toArray = Z ∧ 41 = Z.size ∧ Z.all (·.oneCell') = true := ⟨_, rfl, by simp [Th.cells, thZ, u8s_len], Th.one _ _ rfl⟩
  have HZ := Lib.hid ((thZ_cells 6).trans hZ)
  have HZ0 := Lib.hid hZ
  have HZ1 := Lib.hid hz1
  have HZ2 := Lib.hid hz41
  have bA : Below w.heap.size w (w.alloc (.cells Z 39)) := bl_alloc (Below.refl _ _) _
  have HBA := Lib.hid bA
  have HFA := Lib.hid (F.below bA)
  have HGA := Lib.hid (G.below bA)
  have HDA := Lib.hid (kb_new (w := w) rfl (.cells Z 39))
  have hsA : (w.alloc (.cells Z 39)).heap.size = w.heap.size + 1 := by simp
  have hlow : ∀ b, sr.ownBlock = some b → b < w.heap.size := fun b h => (F.low b h).2
  have hlowW : ∀ b, WrS pw sw b → b < w.heap.size := fun b h => (G.ltS h).2
  have HC := dPace_any HFA.out
  rw [step_ok h] at HC
  have HC := Lib.hid HC
  obtain ⟨x, hx⟩ : ∃ x : Th, x = { thZ 6 with wd := q } := ⟨_, rfl⟩
  have HX := Lib.hid hx
  have hIs := (pace_one h).1
  have hfl := hIs.len
  have hfm : ({ thZ 6 with wd := q } : Th).form = wrdL (canon q) := rfl
  have hput := put_fit (lim := 1048576) (bs := xs.take a) (x := { thZ 6 with wd := q }) (fun _ => by simp [thZ]) (by simp [thZ]) (by rw [hfm]; have := hIs.2.1; omega)
  rw [hfm, hIs.next, ← hx] at hput
  have HP := Lib.hid hput
  have hle := hIs.2.1
  have hfine : ({ thZ 6 with wd := q } : Th).Fine := ⟨by simp [thZ], by simp [thZ], by simp [thZ], by simp [thZ], (pace_one h).2⟩
  rw [← hx] at hfine
  have HFI := Lib.hid hfine
  clear hput hIs hfm hfl hfine
  have hrb := fun W => run_bits q W
  clear bA F G hd h hZ hz41 hz1 hx
  have hgt : decide ((0 : Int) < ((xs.length - a' : Nat) : Int)) = true := decide_eq_true (by omega)
  have hgt' : decide (0 < xs.length - a') = true := decide_eq_true (by omega)
  go_enter Try.func40, Try.ntmps40
  go_wp2_with (refine wpList_store_new rfl 39 _ _ rfl Z rfl (congrArg Value.agg HZ.out) (Eq.trans (b := 41) (by kernel_rfl) HZ2.out) (HI.out.trans (congrArg some HZ2.out)) HZ1.out ?_)
  refine HC.out.mono ?_
  rintro e w1 ⟨u, rfl, rfl, h2, h3⟩
  have D1 := h3.cells HDA.out (by omega)
  have hwz : w.heap.size < w1.heap.size := by have := h3.size; omega
  have D2 : (w1.setCell ⟨w.heap.size, 39, none⟩ (.int .u64 (q : Int))).heap[w.heap.size]? = some (.cells (x.cells (.slice none 0 0)).toArray 39 (0, 0)) := by
    rw [HX.out, kb_set D1, ← HZ0.out]
    rfl
  have k12 : Keep (fun b => b = w.heap.size) w1 (w1.setCell ⟨w.heap.size, 39, none⟩ (.int .u64 (q : Int))) := (Keep.refl (fun b => b = w.heap.size) w1).set (p := ⟨w.heap.size, 39, none⟩) (fun _ => rfl) _
  have d1 : w1.cell? ⟨w.heap.size, 39, none⟩ = some (.int .u64 0) := by rw [kb_cell D1, ← HZ0.out]; rfl
  have z1 := kb_frozen D1 39
  have h2' := h2
  have F2 := h2'.keep k12 (by omega) (fun b h e => by have := hlow b h; omega)
  have G1 := HGA.out.keep h3 (fun b h e => Hd.out b (.inl e) h)
  have G2 := (G1).keep k12 (fun b h e => by have := hlowW b h; omega)
  have K2 := ((Keep.after HBA.out h3)).trans k12 (fun b h e => by omega)
  have V2 : BytesOf (w1.setCell ⟨w.heap.size, 39, none⟩ (.int .u64 (q : Int))) (.slice none 0 0) [] := RowOf.nil _ 0
  have HF2 := Lib.hid F2
  have HG2 := Lib.hid G2
  have HK2 := Lib.hid K2
  have HD2 := Lib.hid D2
  have HV2 := Lib.hid V2
  clear F2 G1 G2 K2 D1 D2 h2 h2' h3 k12 V2
  go_wp2_with fail
  refine (dEnd_any HF2.out).mono ?_
  rintro e w3 ⟨rfl, b3⟩
  rw [show endS xs (.at a') = (4, a') by simp [endS, he]]
  have HF3 := Lib.hid (fun o => HF2.out.below (bl_alloc b3 o))
  have HG3 := Lib.hid (fun o => HG2.out.below (bl_alloc b3 o))
  have HK3 := Lib.hid (fun o => HK2.out.then_below (bl_alloc b3 o))
  have HD3 := Lib.hid (fun o => kb_alloc (kb_below b3 HD2.out) o)
  have HV3 := Lib.hid (fun o => HV2.out.below (bl_alloc b3 o))
  clear b3
  go_wp2_with fail
  refine (dRest_any (HF3.out _)).mono ?_
  rintro e w4 ⟨rfl, b4⟩
  have HF4 := Lib.hid ((HF3.out _).below b4)
  have HG4 := Lib.hid ((HG3.out _).below b4)
  have HK4 := Lib.hid ((HK3.out _).then_below b4)
  have HD4 := Lib.hid (kb_below b4 (HD3.out _))
  have HV4 := Lib.hid ((HV3.out _).below b4)
  clear b4
  rw [show restS xs (.at a') = xs.length - a' from rfl]
  have hxb : x.b = [] := by rw [HX.out] <;> rfl
  have HRG := Lib.hid (range_of_kb HD4.out)
  have hcl : (x.cells (.slice none 0 0)).length = 41 := Th.cells_len HFI.out _
  go_wp2_with (with_reducible refine wpList_load_want 39 _ rfl (by kernel_rfl) w.heap.size 0 rfl (x.cells (.slice none 0 0)) _ HRG.out Try.underlying39 rfl (HI.out.trans (congrArg some hcl.symm)) ?_)
  refine Calls.mono (puts_any HFI.out ?hv (HG4.out)) ?_
  case hv => rw [hxb]; exact HV4.out
  rintro e w6 ⟨rfl, s6, G6, k6, n6⟩
  rw [HP.out.1]
  rw [HP.out.2] at G6
  have HF6 := Lib.hid ((HF4.out).keep k6 (fun h => Hd.out pr (.inl rfl) h) (fun b h e => Hd.out b (.inr h) e))
  have HK6 := Lib.hid (((HK4.out).mono (T := fun b => b = pr ∨ WrS pw sw b) fun _ _ h => .inl h).trans k6 fun _ _ h => .inr h)
  have hsz6 := (HK4.out).size
  have HG6 := Lib.hid G6
  have HN6 := Lib.hid n6
  clear G6 k6 n6
  go_wp2_with fail
  go_ret
  exact ⟨true, .at a', rfl, HF6.out, HK6.out, fun _ => ⟨a', s6, rfl, HG6.out, fun b hb => (HN6.out b hb).imp id fun h => Nat.le_trans hsz6 h⟩, fun h => by simp at h⟩

set_option maxRecDepth 100000 in
set_option maxHeartbeats 1000000 in
theorem ag6_bad4 {w : World} {Br pr Bw pw : Nat} {sr sw : Value} {xs : List UInt8} {a : Nat} {er f : Nat} (F : RdO w Br pr sr xs (.at a)) (G : Wr w Bw pw 1048576 (xs.take a) 0 sw) (hd : ∀ b, (b = pr ∨ sr.ownBlock = some b) → ¬ WrS pw sw b) (hlen : xs.length ≤ 600) (h : (paceP xs) a = .bad er f) (he : er = 4) :
    Calls Try.prog 40 #[.pointer (some ⟨pr, 0, none⟩), .pointer (some ⟨pw, 0, none⟩), .int .i64 6] w (AgainP w Br pr sr Bw pw sw xs) := by
  have HF := Lib.hid F
  have HG := Lib.hid G
  have Hd := Lib.hid hd
  have hlt := F.ltp
  have hltw := G.ltp
  have hi41 : (Try.prog.info? 39).map (·.size) = some 41 := by kernel_rfl
  have HI := Lib.hid hi41
  clear hi41
  obtain ⟨Z, hZ, hz41, hz1⟩ : ∃ Z, ((thZ 6).cells (.slice none 0 0)).toArray = Z ∧ 41 = Z.size ∧ Z.all (·.oneCell') = true := ⟨_, rfl, by simp [Th.cells, thZ, u8s_len], Th.one _ _ rfl⟩
  have HZ := Lib.hid ((thZ_cells 6).trans hZ)
  have HZ0 := Lib.hid hZ
  have HZ1 := Lib.hid hz1
  have HZ2 := Lib.hid hz41
  have bA : Below w.heap.size w (w.alloc (.cells Z 39)) := bl_alloc (Below.refl _ _) _
  have HBA := Lib.hid bA
  have HFA := Lib.hid (F.below bA)
  have HGA := Lib.hid (G.below bA)
  have HDA := Lib.hid (kb_new (w := w) rfl (.cells Z 39))
  have hsA : (w.alloc (.cells Z 39)).heap.size = w.heap.size + 1 := by simp
  have hlow : ∀ b, sr.ownBlock = some b → b < w.heap.size := fun b h => (F.low b h).2
  have hlowW : ∀ b, WrS pw sw b → b < w.heap.size := fun b h => (G.ltS h).2
  have her := paceP_bad h
  have HC := dPace_any HFA.out
  obtain ⟨q, hq⟩ : ∃ q : Nat, 0 = q := ⟨_, rfl⟩
  rw [step_bad h, show ((0 : Nat), St.bad er f) = (q, St.bad er f) by rw [hq]] at HC
  have HC := Lib.hid HC
  clear hq
  obtain ⟨x, hx⟩ : ∃ x : Th, x = { thZ 6 with wd := q } := ⟨_, rfl⟩
  have HX := Lib.hid hx
  have hrb := fun W => run_bits q W
  clear bA F G hd h hZ hz41 hz1 hx
  subst he
  go_enter Try.func40, Try.ntmps40
  go_wp2_with (refine wpList_store_new rfl 39 _ _ rfl Z rfl (congrArg Value.agg HZ.out) (Eq.trans (b := 41) (by kernel_rfl) HZ2.out) (HI.out.trans (congrArg some HZ2.out)) HZ1.out ?_)
  refine HC.out.mono ?_
  rintro e w1 ⟨u, rfl, rfl, h2, h3⟩
  have D1 := h3.cells HDA.out (by omega)
  have hwz : w.heap.size < w1.heap.size := by have := h3.size; omega
  have D2 : (w1.setCell ⟨w.heap.size, 39, none⟩ (.int .u64 (q : Int))).heap[w.heap.size]? = some (.cells (x.cells (.slice none 0 0)).toArray 39 (0, 0)) := by
    rw [HX.out, kb_set D1, ← HZ0.out]
    rfl
  have k12 : Keep (fun b => b = w.heap.size) w1 (w1.setCell ⟨w.heap.size, 39, none⟩ (.int .u64 (q : Int))) := (Keep.refl (fun b => b = w.heap.size) w1).set (p := ⟨w.heap.size, 39, none⟩) (fun _ => rfl) _
  have d1 : w1.cell? ⟨w.heap.size, 39, none⟩ = some (.int .u64 0) := by rw [kb_cell D1, ← HZ0.out]; rfl
  have z1 := kb_frozen D1 39
  have h2' := h2
  have F2 := h2'.keep k12 (by omega) (fun b h e => by have := hlow b h; omega)
  have G1 := HGA.out.keep h3 (fun b h e => Hd.out b (.inl e) h)
  have G2 := (G1).keep k12 (fun b h e => by have := hlowW b h; omega)
  have K2 := ((Keep.after HBA.out h3)).trans k12 (fun b h e => by omega)
  have V2 : BytesOf (w1.setCell ⟨w.heap.size, 39, none⟩ (.int .u64 (q : Int))) (.slice none 0 0) [] := RowOf.nil _ 0
  have HF2 := Lib.hid F2
  have HG2 := Lib.hid G2
  have HK2 := Lib.hid K2
  have HD2 := Lib.hid D2
  have HV2 := Lib.hid V2
  clear F2 G1 G2 K2 D1 D2 h2 h2' h3 k12 V2
  go_wp2_with fail
  refine (dEnd_any HF2.out).mono ?_
  rintro e w3 ⟨rfl, b3⟩
  rw [show endS xs (.bad 4 f) = (4, f) from rfl]
  have HF3 := Lib.hid (fun o => HF2.out.below (bl_alloc b3 o))
  have HG3 := Lib.hid (fun o => HG2.out.below (bl_alloc b3 o))
  have HK3 := Lib.hid (fun o => HK2.out.then_below (bl_alloc b3 o))
  have HD3 := Lib.hid (fun o => kb_alloc (kb_below b3 HD2.out) o)
  have HV3 := Lib.hid (fun o => HV2.out.below (bl_alloc b3 o))
  clear b3
  go_wp2_with fail
  refine (dRest_any (HF3.out _)).mono ?_
  rintro e w4 ⟨rfl, b4⟩
  have HF4 := Lib.hid ((HF3.out _).below b4)
  have HG4 := Lib.hid ((HG3.out _).below b4)
  have HK4 := Lib.hid ((HK3.out _).then_below b4)
  have HD4 := Lib.hid (kb_below b4 (HD3.out _))
  have HV4 := Lib.hid ((HV3.out _).below b4)
  clear b4
  rw [show restS xs (.bad 4 f) = 0 from rfl]
  go_wp2_with fail
  go_ret
  exact ⟨false, .bad 4 f, rfl, HF4.out, (HK4.out).mono fun _ _ h => .inl h, fun h => by simp at h, fun _ => ⟨4, f, by omega, rfl, _, _, _, HG4.out⟩⟩

set_option maxRecDepth 100000 in
set_option maxHeartbeats 1000000 in
theorem ag6_bad {w : World} {Br pr Bw pw : Nat} {sr sw : Value} {xs : List UInt8} {a : Nat} {er f : Nat} (F : RdO w Br pr sr xs (.at a)) (G : Wr w Bw pw 1048576 (xs.take a) 0 sw) (hd : ∀ b, (b = pr ∨ sr.ownBlock = some b) → ¬ WrS pw sw b) (hlen : xs.length ≤ 600) (h : (paceP xs) a = .bad er f) (he : er ≠ 4) :
    Calls Try.prog 40 #[.pointer (some ⟨pr, 0, none⟩), .pointer (some ⟨pw, 0, none⟩), .int .i64 6] w (AgainP w Br pr sr Bw pw sw xs) := by
  have HF := Lib.hid F
  have HG := Lib.hid G
  have Hd := Lib.hid hd
  have hlt := F.ltp
  have hltw := G.ltp
  have hi41 : (Try.prog.info? 39).map (·.size) = some 41 := by kernel_rfl
  have HI := Lib.hid hi41
  clear hi41
  obtain ⟨Z, hZ, hz41, hz1⟩ : ∃ Z, ((thZ 6).cells (.slice none 0 0)).toArray = Z ∧ 41 = Z.size ∧ Z.all (·.oneCell') = true := ⟨_, rfl, by simp [Th.cells, thZ, u8s_len], Th.one _ _ rfl⟩
  have HZ := Lib.hid ((thZ_cells 6).trans hZ)
  have HZ0 := Lib.hid hZ
  have HZ1 := Lib.hid hz1
  have HZ2 := Lib.hid hz41
  have bA : Below w.heap.size w (w.alloc (.cells Z 39)) := bl_alloc (Below.refl _ _) _
  have HBA := Lib.hid bA
  have HFA := Lib.hid (F.below bA)
  have HGA := Lib.hid (G.below bA)
  have HDA := Lib.hid (kb_new (w := w) rfl (.cells Z 39))
  have hsA : (w.alloc (.cells Z 39)).heap.size = w.heap.size + 1 := by simp
  have hlow : ∀ b, sr.ownBlock = some b → b < w.heap.size := fun b h => (F.low b h).2
  have hlowW : ∀ b, WrS pw sw b → b < w.heap.size := fun b h => (G.ltS h).2
  have her := paceP_bad h
  have HC := dPace_any HFA.out
  obtain ⟨q, hq⟩ : ∃ q : Nat, 0 = q := ⟨_, rfl⟩
  rw [step_bad h, show ((0 : Nat), St.bad er f) = (q, St.bad er f) by rw [hq]] at HC
  have HC := Lib.hid HC
  clear hq
  obtain ⟨x, hx⟩ : ∃ x : Th, x = { thZ 6 with wd := q } := ⟨_, rfl⟩
  have HX := Lib.hid hx
  have hrb := fun W => run_bits q W
  clear bA F G hd h hZ hz41 hz1 hx
  have he4 : ((er : Int) == 4) = false := by simp; omega
  have he4' : (er == 4) = false := by simpa using he
  have he0 : ((er : Int) == 0) = false := by simp; omega
  have he0' : (er == 0) = false := by simpa using her
  go_enter Try.func40, Try.ntmps40
  go_wp2_with (refine wpList_store_new rfl 39 _ _ rfl Z rfl (congrArg Value.agg HZ.out) (Eq.trans (b := 41) (by kernel_rfl) HZ2.out) (HI.out.trans (congrArg some HZ2.out)) HZ1.out ?_)
  refine HC.out.mono ?_
  rintro e w1 ⟨u, rfl, rfl, h2, h3⟩
  have D1 := h3.cells HDA.out (by omega)
  have hwz : w.heap.size < w1.heap.size := by have := h3.size; omega
  have D2 : (w1.setCell ⟨w.heap.size, 39, none⟩ (.int .u64 (q : Int))).heap[w.heap.size]? = some (.cells (x.cells (.slice none 0 0)).toArray 39 (0, 0)) := by
    rw [HX.out, kb_set D1, ← HZ0.out]
    rfl
  have k12 : Keep (fun b => b = w.heap.size) w1 (w1.setCell ⟨w.heap.size, 39, none⟩ (.int .u64 (q : Int))) := (Keep.refl (fun b => b = w.heap.size) w1).set (p := ⟨w.heap.size, 39, none⟩) (fun _ => rfl) _
  have d1 : w1.cell? ⟨w.heap.size, 39, none⟩ = some (.int .u64 0) := by rw [kb_cell D1, ← HZ0.out]; rfl
  have z1 := kb_frozen D1 39
  have h2' := h2
  have F2 := h2'.keep k12 (by omega) (fun b h e => by have := hlow b h; omega)
  have G1 := HGA.out.keep h3 (fun b h e => Hd.out b (.inl e) h)
  have G2 := (G1).keep k12 (fun b h e => by have := hlowW b h; omega)
  have K2 := ((Keep.after HBA.out h3)).trans k12 (fun b h e => by omega)
  have V2 : BytesOf (w1.setCell ⟨w.heap.size, 39, none⟩ (.int .u64 (q : Int))) (.slice none 0 0) [] := RowOf.nil _ 0
  have HF2 := Lib.hid F2
  have HG2 := Lib.hid G2
  have HK2 := Lib.hid K2
  have HD2 := Lib.hid D2
  have HV2 := Lib.hid V2
  clear F2 G1 G2 K2 D1 D2 h2 h2' h3 k12 V2
  go_wp2_with fail
  refine (dEnd_any HF2.out).mono ?_
  rintro e w3 ⟨rfl, b3⟩
  rw [show endS xs (.bad er f) = (er, f) from rfl]
  have HF3 := Lib.hid (fun o => HF2.out.below (bl_alloc b3 o))
  have HG3 := Lib.hid (fun o => HG2.out.below (bl_alloc b3 o))
  have HK3 := Lib.hid (fun o => HK2.out.then_below (bl_alloc b3 o))
  have HD3 := Lib.hid (fun o => kb_alloc (kb_below b3 HD2.out) o)
  have HV3 := Lib.hid (fun o => HV2.out.below (bl_alloc b3 o))
  clear b3
  go_wp2_with fail
  go_ret
  exact ⟨false, .bad er f, rfl, HF3.out _, (HK3.out _).mono fun _ _ h => .inl h, fun h => by simp at h, fun _ => ⟨er, f, by omega, rfl, _, _, _, HG3.out _⟩⟩

set_option maxRecDepth 100000 in
set_option maxHeartbeats 1000000 in
theorem ag7_ok0 {w : World} {Br pr Bw pw : Nat} {sr sw : Value} {xs : List UInt8} {a : Nat} {q : Bool} {a' : Nat} (F : RdO w Br pr sr xs (.at a)) (G : Wr w Bw pw 1048576 (xs.take a) 0 sw) (hd : ∀ b, (b = pr ∨ sr.ownBlock = some b) → ¬ WrS pw sw b) (hlen : xs.length ≤ 600) (h : (boolP xs) a = .ok q a') (he : a' = xs.length) :
    Calls Try.prog 40 #[.pointer (some ⟨pr, 0, none⟩), .pointer (some ⟨pw, 0, none⟩), .int .i64 7] w (AgainP w Br pr sr Bw pw sw xs) := by
  have HF := Lib.hid F
  have HG := Lib.hid G
  have Hd := Lib.hid hd
  have hlt := F.ltp
  have hltw := G.ltp
  have hi41 : (Try.prog.info? 39).map (·.size) = some 41 := by kernel_rfl
  have HI := Lib.hid hi41
  clear hi41
  obtain ⟨Z, hZ, hz41, hz1⟩ : ∃ Z, ((thZ 7).cells (.slice none 0 0)).toArray = Z ∧ 41 = Z.size ∧ Z.all (·.oneCell') = true := ⟨_, rfl, by simp [Th.cells, thZ, u8s_len], Th.one _ _ rfl⟩
  have HZ := Lib.hid ((thZ_cells 7).trans hZ)
  have HZ0 := Lib.hid hZ
  have HZ1 := Lib.hid hz1
  have HZ2 := Lib.hid hz41
  have bA : Below w.heap.size w (w.alloc (.cells Z 39)) := bl_alloc (Below.refl _ _) _
  have HBA := Lib.hid bA
  have HFA := Lib.hid (F.below bA)
  have HGA := Lib.hid (G.below bA)
  have HDA := Lib.hid (kb_new (w := w) rfl (.cells Z 39))
  have hsA : (w.alloc (.cells Z 39)).heap.size = w.heap.size + 1 := by simp
  have hlow : ∀ b, sr.ownBlock = some b → b < w.heap.size := fun b h => (F.low b h).2
  have hlowW : ∀ b, WrS pw sw b → b < w.heap.size := fun b h => (G.ltS h).2
  have HC := dBool_any HFA.out
  rw [step_ok h] at HC
  have HC := Lib.hid HC
  obtain ⟨x, hx⟩ : ∃ x : Th, x = { thZ 7 with is := q } := ⟨_, rfl⟩
  have HX := Lib.hid hx
  have hIs := bool_one h
  have hfl := hIs.len
  have hfm : ({ thZ 7 with is := q } : Th).form = [if q then 1 else 0] := rfl
  have hput := put_fit (lim := 1048576) (bs := xs.take a) (x := { thZ 7 with is := q }) (fun _ => by simp [thZ]) (by simp [thZ]) (by rw [hfm]; have := hIs.2.1; omega)
  rw [hfm, hIs.next, ← hx] at hput
  have HP := Lib.hid hput
  have hle := hIs.2.1
  have hfine : ({ thZ 7 with is := q } : Th).Fine := ⟨by simp [thZ], by simp [thZ], by simp [thZ], by simp [thZ], by simp [thZ]⟩
  rw [← hx] at hfine
  have HFI := Lib.hid hfine
  clear hput hIs hfm hfl hfine
  clear bA F G hd h hZ hz41 hz1 hx
  go_enter Try.func40, Try.ntmps40
  go_wp2_with (refine wpList_store_new rfl 39 _ _ rfl Z rfl (congrArg Value.agg HZ.out) (Eq.trans (b := 41) (by kernel_rfl) HZ2.out) (HI.out.trans (congrArg some HZ2.out)) HZ1.out ?_)
  refine HC.out.mono ?_
  rintro e w1 ⟨u, rfl, rfl, h2, h3⟩
  have D1 := h3.cells HDA.out (by omega)
  have hwz : w.heap.size < w1.heap.size := by have := h3.size; omega
  have D2 : (w1.setCell ⟨w.heap.size, 40, none⟩ (.bool q)).heap[w.heap.size]? = some (.cells (x.cells (.slice none 0 0)).toArray 39 (0, 0)) := by
    rw [HX.out, kb_set D1, ← HZ0.out]
    rfl
  have k12 : Keep (fun b => b = w.heap.size) w1 (w1.setCell ⟨w.heap.size, 40, none⟩ (.bool q)) := (Keep.refl (fun b => b = w.heap.size) w1).set (p := ⟨w.heap.size, 40, none⟩) (fun _ => rfl) _
  have d1 : w1.cell? ⟨w.heap.size, 40, none⟩ = some (.bool false) := by rw [kb_cell D1, ← HZ0.out]; rfl
  have z1 := kb_frozen D1 40
  have h2' := h2
  have F2 := h2'.keep k12 (by omega) (fun b h e => by have := hlow b h; omega)
  have G1 := HGA.out.keep h3 (fun b h e => Hd.out b (.inl e) h)
  have G2 := (G1).keep k12 (fun b h e => by have := hlowW b h; omega)
  have K2 := ((Keep.after HBA.out h3)).trans k12 (fun b h e => by omega)
  have V2 : BytesOf (w1.setCell ⟨w.heap.size, 40, none⟩ (.bool q)) (.slice none 0 0) [] := RowOf.nil _ 0
  have HF2 := Lib.hid F2
  have HG2 := Lib.hid G2
  have HK2 := Lib.hid K2
  have HD2 := Lib.hid D2
  have HV2 := Lib.hid V2
  clear F2 G1 G2 K2 D1 D2 h2 h2' h3 k12 V2
  go_wp2_with fail
  refine (dEnd_any HF2.out).mono ?_
  rintro e w3 ⟨rfl, b3⟩
  rw [show endS xs (.at a') = (0, 0) by simp [endS, he]]
  have HF3 := Lib.hid (fun o => HF2.out.below (bl_alloc b3 o))
  have HG3 := Lib.hid (fun o => HG2.out.below (bl_alloc b3 o))
  have HK3 := Lib.hid (fun o => HK2.out.then_below (bl_alloc b3 o))
  have HD3 := Lib.hid (fun o => kb_alloc (kb_below b3 HD2.out) o)
  have HV3 := Lib.hid (fun o => HV2.out.below (bl_alloc b3 o))
  clear b3
  have hxb : x.b = [] := by rw [HX.out] <;> rfl
  have HRG := Lib.hid (fun o => range_of_kb (HD3.out o))
  have hcl : (x.cells (.slice none 0 0)).length = 41 := Th.cells_len HFI.out _
  go_wp2_with (with_reducible refine wpList_load_want 39 _ rfl (by kernel_rfl) w.heap.size 0 rfl (x.cells (.slice none 0 0)) _ (HRG.out _) Try.underlying39 rfl (HI.out.trans (congrArg some hcl.symm)) ?_)
  refine Calls.mono (puts_any HFI.out ?hv (HG3.out (.cells #[.int .i64 0, .int .i64 0] 60))) ?_
  case hv => rw [hxb]; exact HV3.out (.cells #[.int .i64 0, .int .i64 0] 60)
  rintro e w6 ⟨rfl, s6, G6, k6, n6⟩
  rw [HP.out.1]
  rw [HP.out.2] at G6
  have HF6 := Lib.hid ((HF3.out (.cells #[.int .i64 0, .int .i64 0] 60)).keep k6 (fun h => Hd.out pr (.inl rfl) h) (fun b h e => Hd.out b (.inr h) e))
  have HK6 := Lib.hid (((HK3.out (.cells #[.int .i64 0, .int .i64 0] 60)).mono (T := fun b => b = pr ∨ WrS pw sw b) fun _ _ h => .inl h).trans k6 fun _ _ h => .inr h)
  have hsz6 := (HK3.out (.cells #[.int .i64 0, .int .i64 0] 60)).size
  have HG6 := Lib.hid G6
  have HN6 := Lib.hid n6
  clear G6 k6 n6
  go_wp2_with fail
  go_ret
  exact ⟨true, .at a', rfl, HF6.out, HK6.out, fun _ => ⟨a', s6, rfl, HG6.out, fun b hb => (HN6.out b hb).imp id fun h => Nat.le_trans hsz6 h⟩, fun h => by simp at h⟩

set_option maxRecDepth 100000 in
set_option maxHeartbeats 1000000 in
theorem ag7_ok4 {w : World} {Br pr Bw pw : Nat} {sr sw : Value} {xs : List UInt8} {a : Nat} {q : Bool} {a' : Nat} (F : RdO w Br pr sr xs (.at a)) (G : Wr w Bw pw 1048576 (xs.take a) 0 sw) (hd : ∀ b, (b = pr ∨ sr.ownBlock = some b) → ¬ WrS pw sw b) (hlen : xs.length ≤ 600) (h : (boolP xs) a = .ok q a') (he : a' < xs.length) :
    Calls Try.prog 40 #[.pointer (some ⟨pr, 0, none⟩), .pointer (some ⟨pw, 0, none⟩), .int .i64 7] w (AgainP w Br pr sr Bw pw sw xs) := by
  have HF := Lib.hid F
  have HG := Lib.hid G
  have Hd := Lib.hid hd
  have hlt := F.ltp
  have hltw := G.ltp
  have hi41 : (Try.prog.info? 39).map (·.size) = some 41 := by kernel_rfl
  have HI := Lib.hid hi41
  clear hi41
  obtain ⟨Z, hZ, hz41, hz1⟩ : ∃ Z, ((thZ 7).cells (.slice none 0 0)).toArray = Z ∧ 41 = Z.size ∧ Z.all (·.oneCell') = true := ⟨_, rfl, by simp [Th.cells, thZ, u8s_len], Th.one _ _ rfl⟩
  have HZ := Lib.hid ((thZ_cells 7).trans hZ)
  have HZ0 := Lib.hid hZ
  have HZ1 := Lib.hid hz1
  have HZ2 := Lib.hid hz41
  have bA : Below w.heap.size w (w.alloc (.cells Z 39)) := bl_alloc (Below.refl _ _) _
  have HBA := Lib.hid bA
  have HFA := Lib.hid (F.below bA)
  have HGA := Lib.hid (G.below bA)
  have HDA := Lib.hid (kb_new (w := w) rfl (.cells Z 39))
  have hsA : (w.alloc (.cells Z 39)).heap.size = w.heap.size + 1 := by simp
  have hlow : ∀ b, sr.ownBlock = some b → b < w.heap.size := fun b h => (F.low b h).2
  have hlowW : ∀ b, WrS pw sw b → b < w.heap.size := fun b h => (G.ltS h).2
  have HC := dBool_any HFA.out
  rw [step_ok h] at HC
  have HC := Lib.hid HC
  obtain ⟨x, hx⟩ : ∃ x : Th, x = { thZ 7 with is := q } := ⟨_, rfl⟩
  have HX := Lib.hid hx
  have hIs := bool_one h
  have hfl := hIs.len
  have hfm : ({ thZ 7 with is := q } : Th).form = [if q then 1 else 0] := rfl
  have hput := put_fit (lim := 1048576) (bs := xs.take a) (x := { thZ 7 with is := q }) (fun _ => by simp [thZ]) (by simp [thZ]) (by rw [hfm]; have := hIs.2.1; omega)
  rw [hfm, hIs.next, ← hx] at hput
  have HP := Lib.hid hput
  have hle := hIs.2.1
  have hfine : ({ thZ 7 with is := q } : Th).Fine := ⟨by simp [thZ], by simp [thZ], by simp [thZ], by simp [thZ], by simp [thZ]⟩
  rw [← hx] at hfine
  have HFI := Lib.hid hfine
  clear hput hIs hfm hfl hfine
  clear bA F G hd h hZ hz41 hz1 hx
  have hgt : decide ((0 : Int) < ((xs.length - a' : Nat) : Int)) = true := decide_eq_true (by omega)
  have hgt' : decide (0 < xs.length - a') = true := decide_eq_true (by omega)
  go_enter Try.func40, Try.ntmps40
  go_wp2_with (refine wpList_store_new rfl 39 _ _ rfl Z rfl (congrArg Value.agg HZ.out) (Eq.trans (b := 41) (by kernel_rfl) HZ2.out) (HI.out.trans (congrArg some HZ2.out)) HZ1.out ?_)
  refine HC.out.mono ?_
  rintro e w1 ⟨u, rfl, rfl, h2, h3⟩
  have D1 := h3.cells HDA.out (by omega)
  have hwz : w.heap.size < w1.heap.size := by have := h3.size; omega
  have D2 : (w1.setCell ⟨w.heap.size, 40, none⟩ (.bool q)).heap[w.heap.size]? = some (.cells (x.cells (.slice none 0 0)).toArray 39 (0, 0)) := by
    rw [HX.out, kb_set D1, ← HZ0.out]
    rfl
  have k12 : Keep (fun b => b = w.heap.size) w1 (w1.setCell ⟨w.heap.size, 40, none⟩ (.bool q)) := (Keep.refl (fun b => b = w.heap.size) w1).set (p := ⟨w.heap.size, 40, none⟩) (fun _ => rfl) _
  have d1 : w1.cell? ⟨w.heap.size, 40, none⟩ = some (.bool false) := by rw [kb_cell D1, ← HZ0.out]; rfl
  have z1 := kb_frozen D1 40
  have h2' := h2
  have F2 := h2'.keep k12 (by omega) (fun b h e => by have := hlow b h; omega)
  have G1 := HGA.out.keep h3 (fun b h e => Hd.out b (.inl e) h)
  have G2 := (G1).keep k12 (fun b h e => by have := hlowW b h; omega)
  have K2 := ((Keep.after HBA.out h3)).trans k12 (fun b h e => by omega)
  have V2 : BytesOf (w1.setCell ⟨w.heap.size, 40, none⟩ (.bool q)) (.slice none 0 0) [] := RowOf.nil _ 0
  have HF2 := Lib.hid F2
  have HG2 := Lib.hid G2
  have HK2 := Lib.hid K2
  have HD2 := Lib.hid D2
  have HV2 := Lib.hid V2
  clear F2 G1 G2 K2 D1 D2 h2 h2' h3 k12 V2
  go_wp2_with fail
  refine (dEnd_any HF2.out).mono ?_
  rintro e w3 ⟨rfl, b3⟩
  rw [show endS xs (.at a') = (4, a') by simp [endS, he]]
  have HF3 := Lib.hid (fun o => HF2.out.below (bl_alloc b3 o))
  have HG3 := Lib.hid (fun o => HG2.out.below (bl_alloc b3 o))
  have HK3 := Lib.hid (fun o => HK2.out.then_below (bl_alloc b3 o))
  have HD3 := Lib.hid (fun o => kb_alloc (kb_below b3 HD2.out) o)
  have HV3 := Lib.hid (fun o => HV2.out.below (bl_alloc b3 o))
  clear b3
  go_wp2_with fail
  refine (dRest_any (HF3.out _)).mono ?_
  rintro e w4 ⟨rfl, b4⟩
  have HF4 := Lib.hid ((HF3.out _).below b4)
  have HG4 := Lib.hid ((HG3.out _).below b4)
  have HK4 := Lib.hid ((HK3.out _).then_below b4)
  have HD4 := Lib.hid (kb_below b4 (HD3.out _))
  have HV4 := Lib.hid ((HV3.out _).below b4)
  clear b4
  rw [show restS xs (.at a') = xs.length - a' from rfl]
  have hxb : x.b = [] := by rw [HX.out] <;> rfl
  have HRG := Lib.hid (range_of_kb HD4.out)
  have hcl : (x.cells (.slice none 0 0)).length = 41 := Th.cells_len HFI.out _
  go_wp2_with (with_reducible refine wpList_load_want 39 _ rfl (by kernel_rfl) w.heap.size 0 rfl (x.cells (.slice none 0 0)) _ HRG.out Try.underlying39 rfl (HI.out.trans (congrArg some hcl.symm)) ?_)
  refine Calls.mono (puts_any HFI.out ?hv (HG4.out)) ?_
  case hv => rw [hxb]; exact HV4.out
  rintro e w6 ⟨rfl, s6, G6, k6, n6⟩
  rw [HP.out.1]
  rw [HP.out.2] at G6
  have HF6 := Lib.hid ((HF4.out).keep k6 (fun h => Hd.out pr (.inl rfl) h) (fun b h e => Hd.out b (.inr h) e))
  have HK6 := Lib.hid (((HK4.out).mono (T := fun b => b = pr ∨ WrS pw sw b) fun _ _ h => .inl h).trans k6 fun _ _ h => .inr h)
  have hsz6 := (HK4.out).size
  have HG6 := Lib.hid G6
  have HN6 := Lib.hid n6
  clear G6 k6 n6
  go_wp2_with fail
  go_ret
  exact ⟨true, .at a', rfl, HF6.out, HK6.out, fun _ => ⟨a', s6, rfl, HG6.out, fun b hb => (HN6.out b hb).imp id fun h => Nat.le_trans hsz6 h⟩, fun h => by simp at h⟩

set_option maxRecDepth 100000 in
set_option maxHeartbeats 1000000 in
theorem ag7_bad4 {w : World} {Br pr Bw pw : Nat} {sr sw : Value} {xs : List UInt8} {a : Nat} {er f : Nat} (F : RdO w Br pr sr xs (.at a)) (G : Wr w Bw pw 1048576 (xs.take a) 0 sw) (hd : ∀ b, (b = pr ∨ sr.ownBlock = some b) → ¬ WrS pw sw b) (hlen : xs.length ≤ 600) (h : (boolP xs) a = .bad er f) (he : er = 4) :
    Calls Try.prog 40 #[.pointer (some ⟨pr, 0, none⟩), .pointer (some ⟨pw, 0, none⟩), .int .i64 7] w (AgainP w Br pr sr Bw pw sw xs) := by
  have HF := Lib.hid F
  have HG := Lib.hid G
  have Hd := Lib.hid hd
  have hlt := F.ltp
  have hltw := G.ltp
  have hi41 : (Try.prog.info? 39).map (·.size) = some 41 := by kernel_rfl
  have HI := Lib.hid hi41
  clear hi41
  obtain ⟨Z, hZ, hz41, hz1⟩ : ∃ Z, ((thZ 7).cells (.slice none 0 0)).toArray = Z ∧ 41 = Z.size ∧ Z.all (·.oneCell') = true := ⟨_, rfl, by simp [Th.cells, thZ, u8s_len], Th.one _ _ rfl⟩
  have HZ := Lib.hid ((thZ_cells 7).trans hZ)
  have HZ0 := Lib.hid hZ
  have HZ1 := Lib.hid hz1
  have HZ2 := Lib.hid hz41
  have bA : Below w.heap.size w (w.alloc (.cells Z 39)) := bl_alloc (Below.refl _ _) _
  have HBA := Lib.hid bA
  have HFA := Lib.hid (F.below bA)
  have HGA := Lib.hid (G.below bA)
  have HDA := Lib.hid (kb_new (w := w) rfl (.cells Z 39))
  have hsA : (w.alloc (.cells Z 39)).heap.size = w.heap.size + 1 := by simp
  have hlow : ∀ b, sr.ownBlock = some b → b < w.heap.size := fun b h => (F.low b h).2
  have hlowW : ∀ b, WrS pw sw b → b < w.heap.size := fun b h => (G.ltS h).2
  have her := boolP_bad h
  have HC := dBool_any HFA.out
  obtain ⟨q, hq⟩ : ∃ q : Bool, false = q := ⟨_, rfl⟩
  rw [step_bad h, show ((false : Bool), St.bad er f) = (q, St.bad er f) by rw [hq]] at HC
  have HC := Lib.hid HC
  clear hq
  obtain ⟨x, hx⟩ : ∃ x : Th, x = { thZ 7 with is := q } := ⟨_, rfl⟩
  have HX := Lib.hid hx
  clear bA F G hd h hZ hz41 hz1 hx
  subst he
  go_enter Try.func40, Try.ntmps40
  go_wp2_with (refine wpList_store_new rfl 39 _ _ rfl Z rfl (congrArg Value.agg HZ.out) (Eq.trans (b := 41) (by kernel_rfl) HZ2.out) (HI.out.trans (congrArg some HZ2.out)) HZ1.out ?_)
  refine HC.out.mono ?_
  rintro e w1 ⟨u, rfl, rfl, h2, h3⟩
  have D1 := h3.cells HDA.out (by omega)
  have hwz : w.heap.size < w1.heap.size := by have := h3.size; omega
  have D2 : (w1.setCell ⟨w.heap.size, 40, none⟩ (.bool q)).heap[w.heap.size]? = some (.cells (x.cells (.slice none 0 0)).toArray 39 (0, 0)) := by
    rw [HX.out, kb_set D1, ← HZ0.out]
    rfl
  have k12 : Keep (fun b => b = w.heap.size) w1 (w1.setCell ⟨w.heap.size, 40, none⟩ (.bool q)) := (Keep.refl (fun b => b = w.heap.size) w1).set (p := ⟨w.heap.size, 40, none⟩) (fun _ => rfl) _
  have d1 : w1.cell? ⟨w.heap.size, 40, none⟩ = some (.bool false) := by rw [kb_cell D1, ← HZ0.out]; rfl
  have z1 := kb_frozen D1 40
  have h2' := h2
  have F2 := h2'.keep k12 (by omega) (fun b h e => by have := hlow b h; omega)
  have G1 := HGA.out.keep h3 (fun b h e => Hd.out b (.inl e) h)
  have G2 := (G1).keep k12 (fun b h e => by have := hlowW b h; omega)
  have K2 := ((Keep.after HBA.out h3)).trans k12 (fun b h e => by omega)
  have V2 : BytesOf (w1.setCell ⟨w.heap.size, 40, none⟩ (.bool q)) (.slice none 0 0) [] := RowOf.nil _ 0
  have HF2 := Lib.hid F2
  have HG2 := Lib.hid G2
  have HK2 := Lib.hid K2
  have HD2 := Lib.hid D2
  have HV2 := Lib.hid V2
  clear F2 G1 G2 K2 D1 D2 h2 h2' h3 k12 V2
  go_wp2_with fail
  refine (dEnd_any HF2.out).mono ?_
  rintro e w3 ⟨rfl, b3⟩
  rw [show endS xs (.bad 4 f) = (4, f) from rfl]
  have HF3 := Lib.hid (fun o => HF2.out.below (bl_alloc b3 o))
  have HG3 := Lib.hid (fun o => HG2.out.below (bl_alloc b3 o))
  have HK3 := Lib.hid (fun o => HK2.out.then_below (bl_alloc b3 o))
  have HD3 := Lib.hid (fun o => kb_alloc (kb_below b3 HD2.out) o)
  have HV3 := Lib.hid (fun o => HV2.out.below (bl_alloc b3 o))
  clear b3
  go_wp2_with fail
  refine (dRest_any (HF3.out _)).mono ?_
  rintro e w4 ⟨rfl, b4⟩
  have HF4 := Lib.hid ((HF3.out _).below b4)
  have HG4 := Lib.hid ((HG3.out _).below b4)
  have HK4 := Lib.hid ((HK3.out _).then_below b4)
  have HD4 := Lib.hid (kb_below b4 (HD3.out _))
  have HV4 := Lib.hid ((HV3.out _).below b4)
  clear b4
  rw [show restS xs (.bad 4 f) = 0 from rfl]
  go_wp2_with fail
  go_ret
  exact ⟨false, .bad 4 f, rfl, HF4.out, (HK4.out).mono fun _ _ h => .inl h, fun h => by simp at h, fun _ => ⟨4, f, by omega, rfl, _, _, _, HG4.out⟩⟩

set_option maxRecDepth 100000 in
set_option maxHeartbeats 1000000 in
theorem ag7_bad {w : World} {Br pr Bw pw : Nat} {sr sw : Value} {xs : List UInt8} {a : Nat} {er f : Nat} (F : RdO w Br pr sr xs (.at a)) (G : Wr w Bw pw 1048576 (xs.take a) 0 sw) (hd : ∀ b, (b = pr ∨ sr.ownBlock = some b) → ¬ WrS pw sw b) (hlen : xs.length ≤ 600) (h : (boolP xs) a = .bad er f) (he : er ≠ 4) :
    Calls Try.prog 40 #[.pointer (some ⟨pr, 0, none⟩), .pointer (some ⟨pw, 0, none⟩), .int .i64 7] w (AgainP w Br pr sr Bw pw sw xs) := by
  have HF := Lib.hid F
  have HG := Lib.hid G
  have Hd := Lib.hid hd
  have hlt := F.ltp
  have hltw := G.ltp
  have hi41 : (Try.prog.info? 39).map (·.size) = some 41 := by kernel_rfl
  have HI := Lib.hid hi41
  clear hi41
  obtain ⟨Z, hZ, hz41, hz1⟩ : ∃ Z, ((thZ 7).cells (.slice none 0 0)).toArray = Z ∧ 41 = Z.size ∧ Z.all (·.oneCell') = true := ⟨_, rfl, by simp [Th.cells, thZ, u8s_len], Th.one _ _ rfl⟩
  have HZ := Lib.hid ((thZ_cells 7).trans hZ)
  have HZ0 := Lib.hid hZ
  have HZ1 := Lib.hid hz1
  have HZ2 := Lib.hid hz41
  have bA : Below w.heap.size w (w.alloc (.cells Z 39)) := bl_alloc (Below.refl _ _) _
  have HBA := Lib.hid bA
  have HFA := Lib.hid (F.below bA)
  have HGA := Lib.hid (G.below bA)
  have HDA := Lib.hid (kb_new (w := w) rfl (.cells Z 39))
  have hsA : (w.alloc (.cells Z 39)).heap.size = w.heap.size + 1 := by simp
  have hlow : ∀ b, sr.ownBlock = some b → b < w.heap.size := fun b h => (F.low b h).2
  have hlowW : ∀ b, WrS pw sw b → b < w.heap.size := fun b h => (G.ltS h).2
  have her := boolP_bad h
  have HC := dBool_any HFA.out
  obtain ⟨q, hq⟩ : ∃ q : Bool, false = q := ⟨_, rfl⟩
  rw [step_bad h, show ((false : Bool), St.bad er f) = (q, St.bad er f) by rw [hq]] at HC
  have HC := Lib.hid HC
  clear hq
  obtain ⟨x, hx⟩ : ∃ x : Th, x = { thZ 7 with is := q } := ⟨_, rfl⟩
  have HX := Lib.hid hx
  clear bA F G hd h hZ hz41 hz1 hx
  have he4 : ((er : Int) == 4) = false := by simp; omega
  have he4' : (er == 4) = false := by simpa using he
  have he0 : ((er : Int) == 0) = false := by simp; omega
  have he0' : (er == 0) = false := by simpa using her
  go_enter Try.func40, Try.ntmps40
  go_wp2_with (refine wpList_store_new rfl 39 _ _ rfl Z rfl (congrArg Value.agg HZ.out) (Eq.trans (b := 41) (by kernel_rfl) HZ2.out) (HI.out.trans (congrArg some HZ2.out)) HZ1.out ?_)
  refine HC.out.mono ?_
  rintro e w1 ⟨u, rfl, rfl, h2, h3⟩
  have D1 := h3.cells HDA.out (by omega)
  have hwz : w.heap.size < w1.heap.size := by have := h3.size; omega
  have D2 : (w1.setCell ⟨w.heap.size, 40, none⟩ (.bool q)).heap[w.heap.size]? = some (.cells (x.cells (.slice none 0 0)).toArray 39 (0, 0)) := by
    rw [HX.out, kb_set D1, ← HZ0.out]
    rfl
  have k12 : Keep (fun b => b = w.heap.size) w1 (w1.setCell ⟨w.heap.size, 40, none⟩ (.bool q)) := (Keep.refl (fun b => b = w.heap.size) w1).set (p := ⟨w.heap.size, 40, none⟩) (fun _ => rfl) _
  have d1 : w1.cell? ⟨w.heap.size, 40, none⟩ = some (.bool false) := by rw [kb_cell D1, ← HZ0.out]; rfl
  have z1 := kb_frozen D1 40
  have h2' := h2
  have F2 := h2'.keep k12 (by omega) (fun b h e => by have := hlow b h; omega)
  have G1 := HGA.out.keep h3 (fun b h e => Hd.out b (.inl e) h)
  have G2 := (G1).keep k12 (fun b h e => by have := hlowW b h; omega)
  have K2 := ((Keep.after HBA.out h3)).trans k12 (fun b h e => by omega)
  have V2 : BytesOf (w1.setCell ⟨w.heap.size, 40, none⟩ (.bool q)) (.slice none 0 0) [] := RowOf.nil _ 0
  have HF2 := Lib.hid F2
  have HG2 := Lib.hid G2
  have HK2 := Lib.hid K2
  have HD2 := Lib.hid D2
  have HV2 := Lib.hid V2
  clear F2 G1 G2 K2 D1 D2 h2 h2' h3 k12 V2
  go_wp2_with fail
  refine (dEnd_any HF2.out).mono ?_
  rintro e w3 ⟨rfl, b3⟩
  rw [show endS xs (.bad er f) = (er, f) from rfl]
  have HF3 := Lib.hid (fun o => HF2.out.below (bl_alloc b3 o))
  have HG3 := Lib.hid (fun o => HG2.out.below (bl_alloc b3 o))
  have HK3 := Lib.hid (fun o => HK2.out.then_below (bl_alloc b3 o))
  have HD3 := Lib.hid (fun o => kb_alloc (kb_below b3 HD2.out) o)
  have HV3 := Lib.hid (fun o => HV2.out.below (bl_alloc b3 o))
  clear b3
  go_wp2_with fail
  go_ret
  exact ⟨false, .bad er f, rfl, HF3.out _, (HK3.out _).mono fun _ _ h => .inl h, fun h => by simp at h, fun _ => ⟨er, f, by omega, rfl, _, _, _, HG3.out _⟩⟩

theorem again_any {w : World} {Br pr Bw pw : Nat} {sr sw : Value} {xs : List UInt8} {a : Nat} {k : Int} (hk : 0 ≤ k ∧ k < 8) (F : RdO w Br pr sr xs (.at a)) (G : Wr w Bw pw 1048576 (xs.take a) 0 sw) (hd : ∀ b, (b = pr ∨ sr.ownBlock = some b) → ¬ WrS pw sw b) (hlen : xs.length ≤ 600) :
    Calls Try.prog 40 #[.pointer (some ⟨pr, 0, none⟩), .pointer (some ⟨pw, 0, none⟩), .int .i64 k] w (AgainP w Br pr sr Bw pw sw xs) := by
  have hkk : k = 0 ∨ k = 1 ∨ k = 2 ∨ k = 3 ∨ k = 4 ∨ k = 5 ∨ k = 6 ∨ k = 7 := by omega
  rcases hkk with rfl | rfl | rfl | rfl | rfl | rfl | rfl | rfl
  · cases h : (numP xs) a with
    | ok q a' =>
      have hb := (numP_one h).2.1
      by_cases he : a' = xs.length
      · exact ag0_ok0 F G hd hlen h he
      · exact ag0_ok4 F G hd hlen h (by omega)
    | bad er f =>
      by_cases he : er = 4
      · exact ag0_bad4 F G hd hlen h he
      · exact ag0_bad F G hd hlen h he
  · cases h : (bytesP xs 1000) a with
    | ok q a' =>
      have hb := (bytesP_one h).2.1
      by_cases he : a' = xs.length
      · exact ag1_ok0 F G hd hlen h he
      · exact ag1_ok4 F G hd hlen h (by omega)
    | bad er f =>
      by_cases he : er = 4
      · exact ag1_bad4 F G hd hlen h he
      · exact ag1_bad F G hd hlen h he
  · cases h : (bytesP xs 1000) a with
    | ok q a' =>
      have hb := (bytesP_one h).2.1
      by_cases he : a' = xs.length
      · exact ag2_ok0 F G hd hlen h he
      · exact ag2_ok4 F G hd hlen h (by omega)
    | bad er f =>
      by_cases he : er = 4
      · exact ag2_bad4 F G hd hlen h he
      · exact ag2_bad F G hd hlen h he
  · cases h : ((fun a => takeP xs 32 a a id)) a with
    | ok q a' =>
      have hb := (takeP_one h).2.1
      by_cases he : a' = xs.length
      · exact ag3_ok0 F G hd hlen h he
      · exact ag3_ok4 F G hd hlen h (by omega)
    | bad er f =>
      by_cases he : er = 4
      · exact ag3_bad4 F G hd hlen h he
      · exact ag3_bad F G hd hlen h he
  · cases h : ((fun a => takeP xs 4 a a id)) a with
    | ok q a' =>
      have hb := (takeP_one h).2.1
      by_cases he : a' = xs.length
      · exact ag4_ok0 F G hd hlen h he
      · exact ag4_ok4 F G hd hlen h (by omega)
    | bad er f =>
      by_cases he : er = 4
      · exact ag4_bad4 F G hd hlen h he
      · exact ag4_bad F G hd hlen h he
  · cases h : ((fun a => takeP xs 8 a a bigL)) a with
    | ok q a' =>
      have hb := (word_one h).1.2.1
      by_cases he : a' = xs.length
      · exact ag5_ok0 F G hd hlen h he
      · exact ag5_ok4 F G hd hlen h (by omega)
    | bad er f =>
      by_cases he : er = 4
      · exact ag5_bad4 F G hd hlen h he
      · exact ag5_bad F G hd hlen h he
  · cases h : (paceP xs) a with
    | ok q a' =>
      have hb := (pace_one h).1.2.1
      by_cases he : a' = xs.length
      · exact ag6_ok0 F G hd hlen h he
      · exact ag6_ok4 F G hd hlen h (by omega)
    | bad er f =>
      by_cases he : er = 4
      · exact ag6_bad4 F G hd hlen h he
      · exact ag6_bad F G hd hlen h he
  · cases h : (boolP xs) a with
    | ok q a' =>
      have hb := (bool_one h).2.1
      by_cases he : a' = xs.length
      · exact ag7_ok0 F G hd hlen h he
      · exact ag7_ok4 F G hd hlen h (by omega)
    | bad er f =>
      by_cases he : er = 4
      · exact ag7_bad4 F G hd hlen h he
      · exact ag7_bad F G hd hlen h he
end Go.Proofs.Ytajlcodlaalomaa
