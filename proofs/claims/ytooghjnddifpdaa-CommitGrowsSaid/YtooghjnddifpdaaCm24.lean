/- SameKeys, SameVals; the law package's keys. -/
import Derived.Test.YtooghjnddifpdaaCm22
namespace Go.Proofs.Ytooghjnddifpdaa
open Go.RowKit Go.Proofs.Ytooghjnddifpdaa.Cm BigFrame
set_option linter.unusedSimpArgs false
set_option linter.unusedVariables false

/-- A key, a validator as a value. -/
abbrev kV (k : K4) : Value := .agg #[u8v k.a, u8v k.b, u8v k.c, u8v k.d]
abbrev dV (d : Vd) : Value := .agg #[u8v d.k.a, u8v d.k.b, u8v d.k.c, u8v d.k.d, .int .i64 d.n]
theorem k4_eq (x y : K4) : (([x.a, x.b, x.c, x.d] : List UInt8) == [y.a, y.b, y.c, y.d]) = decide (x = y) := by
  rw [Bool.eq_iff_iff]
  cases x; cases y
  simp
theorem eql_key (x y : K4) (W : World) : (binOp .eql 52 (kV x) (kV y)).run Try.prog W = .ok (.bool (decide (x = y))) W := by
  rw [← k4_eq]
  exact run_eql_bytes Try.underlying52 [x.a, x.b, x.c, x.d] [y.a, y.b, y.c, y.d] rfl rfl W
theorem key_in (x y : K4) (d : Nat) (W : World) : (Op.equalIn (d + 1 + 1) 52 (kV x) (kV y)).run Try.prog W = .ok (decide (x = y)) W := by
  obtain ⟨i0, hi, _, _, _⟩ := info_parts infoU
  have hc : Try.prog.cellsOf 5 = 1 := by kernel_rfl
  have := run_eqItems_u8 W d [x.a, x.b, x.c, x.d] [y.a, y.b, y.c, y.d] 4 rfl rfl (List.range 4) (fun i h => by simpa using h)
  rw [all_eq _ _ 4 rfl rfl, k4_eq] at this
  rw [run_equalIn_array W (d + 1) _ _ Try.underlying52 hi, hc]
  exact this
set_option maxRecDepth 100000 in
theorem eql_val (x y : Vd) (W : World) : (binOp .eql 89 (dV x) (dV y)).run Try.prog W = .ok (.bool (decide (x = y))) W := by
  rw [run_eql_struct, show (10000 : Nat) = 9997 + 1 + 1 + 1 from rfl, run_equalIn_agg W (9997 + 1 + 1) _ _ _ (by kernel_rfl) (by kernel_rfl)]
  have hf : Try.prog.fieldsOf 89 = (match Try.prog.underlying 89 with | some (.struct fs) => fs | _ => #[]) := rfl
  rw [hf, Try.underlying89]
  have ui := Try.underlying3
  have p1 : (part 52 #[u8v x.k.a, u8v x.k.b, u8v x.k.c, u8v x.k.d, .int .i64 x.n] 0).run Try.prog W = .ok (kV x.k) W := by kernel_rfl
  have p2 : (part 52 #[u8v y.k.a, u8v y.k.b, u8v y.k.c, u8v y.k.d, .int .i64 y.n] 0).run Try.prog W = .ok (kV y.k) W := by kernel_rfl
  have p3 : (part 3 #[u8v x.k.a, u8v x.k.b, u8v x.k.c, u8v x.k.d, .int .i64 x.n] 4).run Try.prog W = .ok (.int .i64 x.n) W := by kernel_rfl
  have p4 : (part 3 #[u8v y.k.a, u8v y.k.b, u8v y.k.c, u8v y.k.d, .int .i64 y.n] 4).run Try.prog W = .ok (.int .i64 y.n) W := by kernel_rfl
  have q1 := key_in x.k y.k 9997 W
  have e : decide (x = y) = (decide (x.k = y.k) && (x.n == y.n)) := by
    rw [Bool.eq_iff_iff]
    cases x; cases y
    simp
  rw [e]
  have q2 : (Op.equalIn (9997 + 1 + 1) 3 (.int .i64 x.n) (.int .i64 y.n)).run Try.prog W = .ok (x.n == y.n) W := run_equalIn_int W _ _ .i64 .i64 _ _ ui
  show ((Op.eqFields (9997 + 1 + 1) _ _ [_, _]).run Try.prog W).andThen _ = _
  simp only [Op.eqFields, Sem.run_bind, Sem.run_ite]
  rw [if_pos (by decide), p1]
  simp only [Result.andThen_ok]
  rw [p2]
  simp only [Result.andThen_ok]
  rw [q1]
  simp only [Result.andThen_ok]
  cases hk : decide (x.k = y.k)
  · simp
  · simp only [Bool.not_true, Bool.false_eq_true, if_false]
    rw [if_pos (by decide), p3]
    simp only [Result.andThen_ok]
    rw [p4]
    simp only [Result.andThen_ok]
    rw [q2]
    simp only [Result.andThen_ok]
    cases hn : (x.n == y.n) <;> simp
section
variable {α : Type}
/-- Are so many elements alike? -/
def GSame (l m : List α) (k : Nat) (s : Bool) : Prop := if s = true then l.length = m.length ∧ ∀ j, j < k → l[j]? = m[j]? else l ≠ m
theorem GSame.len {l m : List α} {k : Nat} (h : GSame l m k true) : l.length = m.length := by unfold GSame at h; rw [if_pos rfl] at h; exact h.1
theorem GSame.end [DecidableEq α] {l m : List α} (h : GSame l m l.length true) : decide (l = m) = true := by
  unfold GSame at h
  rw [if_pos rfl] at h
  rw [decide_eq_true_iff]
  apply List.ext_getElem?
  intro i
  by_cases hi : i < l.length
  · exact h.2 i hi
  · rw [List.getElem?_eq_none (by omega), List.getElem?_eq_none (by omega)]
theorem GSame.no [DecidableEq α] {l m : List α} {k : Nat} (h : GSame l m k false) : decide (l = m) = false := by
  unfold GSame at h
  rw [if_neg (by simp)] at h
  simpa using h
theorem GSame.next [DecidableEq α] {l m : List α} {k : Nat} {x y : α} (h : GSame l m k true) (hx : l[k]? = some x) (hy : m[k]? = some y) : GSame l m (k + 1) (decide (x = y)) := by
  unfold GSame at h ⊢
  rw [if_pos rfl] at h
  by_cases e : x = y
  · rw [if_pos (by simpa using e)]
    refine ⟨h.1, fun j hj => ?_⟩
    by_cases e' : j = k
    · subst e'; rw [hx, hy, e]
    · exact h.2 j (by omega)
  · rw [if_neg (by simpa using e)]
    rintro rfl
    rw [hx] at hy
    injection hy with hy
    exact e hy
theorem GSame.zero (l m : List α) : GSame l m 0 (decide (l.length = m.length)) := by
  unfold GSame
  by_cases e : l.length = m.length
  · rw [if_pos (by simpa using e)]; exact ⟨e, fun j hj => by omega⟩
  · rw [if_neg (by simpa using e)]; rintro rfl; exact e rfl
end

set_option maxRecDepth 100000 in
set_option maxHeartbeats 2000000 in
theorem SameKeys_any {w : World} {u v : Value} {l m : List K4} (hu : KRow w u l) (hv : KRow w v m) (hl : l.length ≤ 1000000) (hm : m.length ≤ 1000000) :
    Calls Try.prog 24 #[u, v] w fun e w' => e = .returned (.bool (decide (l = m))) ∧ Below w.heap.size w w' := by
  have HU := Lib.hid hu
  have HV := Lib.hid hv
  obtain ⟨A, cap, rfl⟩ := hu.form
  obtain ⟨A', cap', rfl⟩ := hv.form
  clear hu hv
  obtain ⟨r, hr⟩ : ∃ r, decide (l = m) = r := ⟨_, rfl⟩
  have HR := Lib.hid hr
  have hz := GSame.zero l m
  obtain ⟨n, hn⟩ : ∃ n, l.length = n := ⟨_, rfl⟩
  obtain ⟨n', hn'⟩ : ∃ n', m.length = n' := ⟨_, rfl⟩
  have HN := Lib.hid hn
  have HN' := Lib.hid hn'
  have hee : ((n : Int) == (n' : Int)) = decide (n = n') := by rw [Bool.eq_iff_iff]; simp; omega
  rw [hn, hn'] at hz
  rw [hn] at hl HU ⊢
  rw [hn'] at hm HV ⊢
  rw [hr]
  have HZ := Lib.hid hz
  clear hn hn' hr hz
  generalize decide (n = n') = s0 at *
  go_enter Try.func24, Try.ntmps24
  go_wp2_with fail
  clear hee
  go_loopw [5, 6, 12, 13, 14, 15, 16, 17, 18, 19, 20, 21, 22, 23, 24, 25, 26, 27, 28, 29] (fun s5 s6 _ _ _ _ _ _ _ _ _ _ _ _ _ _ _ _ _ _ wr => ∃ (k : Nat) (s : Bool), k ≤ n ∧ s6 = .int .i64 k ∧ s5 = .bool s ∧ Hid (GSame l m k s) ∧ Below w.heap.size w wr) (fun _ s6 _ _ _ _ _ _ _ _ _ _ _ _ _ _ _ _ _ _ _ => n - (intOf s6).toNat)
  case atStart => exact ⟨0, s0, by omega, rfl, rfl, HZ, Below.refl _ _⟩
  case round =>
    obtain ⟨k, s, hk, rfl, rfl, hS, hbel⟩ := hrel
    have HS := hS
    have HBe := Lib.hid hbel
    clear hS
    cases s with
    | false =>
      have HE := Lib.hid HS.out.no
      clear hbel
      go_wp2_with fail
      go_ret
      exact ⟨ret_bool (by rw [← HR.out, HE.out]), HBe.out⟩
    | true =>
      by_cases hlt : k < n
      · have hle : n = n' := by have := HS.out.len; rw [HN.out, HN'.out] at this; exact this
        have hlt' : k < n' := by omega
        obtain ⟨x, hx⟩ : ∃ x, l[k]? = some x := ⟨_, List.getElem?_eq_getElem (by rw [HN.out]; exact hlt)⟩
        obtain ⟨y, hy⟩ : ∃ y, m[k]? = some y := ⟨_, List.getElem?_eq_getElem (by rw [HN'.out]; omega)⟩
        obtain ⟨b, off, c1, hA, hbld, hcd⟩ := HU.out.at kcs_len hx
        obtain ⟨b', off', c2, hA', hble, hce⟩ := HV.out.at kcs_len hy
        have d0 := (hbel.cell (p := ⟨b, off + k * 4, none⟩) hbld).trans (hcd 0 _ rfl)
        have d1 := (hbel.cell (p := ⟨b, off + k * 4 + 1, none⟩) hbld).trans (hcd 1 _ rfl)
        have d2 := (hbel.cell (p := ⟨b, off + k * 4 + 2, none⟩) hbld).trans (hcd 2 _ rfl)
        have d3 := (hbel.cell (p := ⟨b, off + k * 4 + 3, none⟩) hbld).trans (hcd 3 _ rfl)
        have e0 := (hbel.cell (p := ⟨b', off' + k * 4, none⟩) hble).trans (hce 0 _ rfl)
        have e1 := (hbel.cell (p := ⟨b', off' + k * 4 + 1, none⟩) hble).trans (hce 1 _ rfl)
        have e2 := (hbel.cell (p := ⟨b', off' + k * 4 + 2, none⟩) hble).trans (hce 2 _ rfl)
        have e3 := (hbel.cell (p := ⟨b', off' + k * 4 + 3, none⟩) hble).trans (hce 3 _ rfl)
        obtain ⟨rfl, rfl⟩ : A = some ⟨b, off, none⟩ ∧ cap = c1 := by injection hA with h1 h2 h3; exact ⟨h1, h3⟩
        obtain ⟨rfl, rfl⟩ : A' = some ⟨b', off', none⟩ ∧ cap' = c2 := by injection hA' with h1 h2 h3; exact ⟨h1, h3⟩
        have HX := Lib.hid (HS.out.next hx hy)
        have hq := eql_key x y
        clear hA hA' hbel hle hcd hce hx hy
        generalize decide (x = y) = s1 at *
        go_wp2_with fail
        go_quiet (fail)
        go_wp2_with fail
        go_roundw
        case rel => exact ⟨k + 1, s1, by omega, by go_num, rfl, Lib.hid HX.out, bl_drewN HBe.out _⟩
        case measure => simp [intOf]; omega
      · obtain rfl : k = n := by omega
        have HE := Lib.hid (GSame.end (l := l) (m := m) (by rw [HN.out]; exact HS.out))
        clear hbel
        go_wp2_with fail
        go_ret
        exact ⟨ret_bool (by rw [← HR.out, HE.out]), HBe.out⟩

set_option maxRecDepth 100000 in
set_option maxHeartbeats 2000000 in
theorem SameVals_any {w : World} {u v : Value} {l m : List Vd} (hu : DRow w u l) (hv : DRow w v m) (hl : l.length ≤ 1000000) (hm : m.length ≤ 1000000) :
    Calls Try.prog 40 #[u, v] w fun e w' => e = .returned (.bool (decide (l = m))) ∧ Below w.heap.size w w' := by
  have HU := Lib.hid hu
  have HV := Lib.hid hv
  obtain ⟨A, cap, rfl⟩ := hu.form
  obtain ⟨A', cap', rfl⟩ := hv.form
  clear hu hv
  obtain ⟨r, hr⟩ : ∃ r, decide (l = m) = r := ⟨_, rfl⟩
  have HR := Lib.hid hr
  have hz := GSame.zero l m
  obtain ⟨n, hn⟩ : ∃ n, l.length = n := ⟨_, rfl⟩
  obtain ⟨n', hn'⟩ : ∃ n', m.length = n' := ⟨_, rfl⟩
  have HN := Lib.hid hn
  have HN' := Lib.hid hn'
  have hee : ((n : Int) == (n' : Int)) = decide (n = n') := by rw [Bool.eq_iff_iff]; simp; omega
  rw [hn, hn'] at hz
  rw [hn] at hl HU ⊢
  rw [hn'] at hm HV ⊢
  rw [hr]
  have HZ := Lib.hid hz
  clear hn hn' hr hz
  generalize decide (n = n') = s0 at *
  go_enter Try.func40, Try.ntmps40
  go_wp2_with fail
  clear hee
  go_loopw [5, 6, 12, 13, 14, 15, 16, 17, 18, 19, 20, 21, 22, 23, 24, 25, 26, 27, 28, 29] (fun s5 s6 _ _ _ _ _ _ _ _ _ _ _ _ _ _ _ _ _ _ wr => ∃ (k : Nat) (s : Bool), k ≤ n ∧ s6 = .int .i64 k ∧ s5 = .bool s ∧ Hid (GSame l m k s) ∧ Below w.heap.size w wr) (fun _ s6 _ _ _ _ _ _ _ _ _ _ _ _ _ _ _ _ _ _ _ => n - (intOf s6).toNat)
  case atStart => exact ⟨0, s0, by omega, rfl, rfl, HZ, Below.refl _ _⟩
  case round =>
    obtain ⟨k, s, hk, rfl, rfl, hS, hbel⟩ := hrel
    have HS := hS
    have HBe := Lib.hid hbel
    clear hS
    cases s with
    | false =>
      have HE := Lib.hid HS.out.no
      clear hbel
      go_wp2_with fail
      go_ret
      exact ⟨ret_bool (by rw [← HR.out, HE.out]), HBe.out⟩
    | true =>
      by_cases hlt : k < n
      · have hle : n = n' := by have := HS.out.len; rw [HN.out, HN'.out] at this; exact this
        have hlt' : k < n' := by omega
        obtain ⟨x, hx⟩ : ∃ x, l[k]? = some x := ⟨_, List.getElem?_eq_getElem (by rw [HN.out]; exact hlt)⟩
        obtain ⟨y, hy⟩ : ∃ y, m[k]? = some y := ⟨_, List.getElem?_eq_getElem (by rw [HN'.out]; omega)⟩
        obtain ⟨b, off, c1, hA, hbld, hcd⟩ := HU.out.at dcs_len hx
        obtain ⟨b', off', c2, hA', hble, hce⟩ := HV.out.at dcs_len hy
        have d0 := (hbel.cell (p := ⟨b, off + k * 5, none⟩) hbld).trans (hcd 0 _ rfl)
        have d1 := (hbel.cell (p := ⟨b, off + k * 5 + 1, none⟩) hbld).trans (hcd 1 _ rfl)
        have d2 := (hbel.cell (p := ⟨b, off + k * 5 + 2, none⟩) hbld).trans (hcd 2 _ rfl)
        have d3 := (hbel.cell (p := ⟨b, off + k * 5 + 3, none⟩) hbld).trans (hcd 3 _ rfl)
        have d4 := (hbel.cell (p := ⟨b, off + k * 5 + 4, none⟩) hbld).trans (hcd 4 _ rfl)
        have e0 := (hbel.cell (p := ⟨b', off' + k * 5, none⟩) hble).trans (hce 0 _ rfl)
        have e1 := (hbel.cell (p := ⟨b', off' + k * 5 + 1, none⟩) hble).trans (hce 1 _ rfl)
        have e2 := (hbel.cell (p := ⟨b', off' + k * 5 + 2, none⟩) hble).trans (hce 2 _ rfl)
        have e3 := (hbel.cell (p := ⟨b', off' + k * 5 + 3, none⟩) hble).trans (hce 3 _ rfl)
        have e4 := (hbel.cell (p := ⟨b', off' + k * 5 + 4, none⟩) hble).trans (hce 4 _ rfl)
        obtain ⟨rfl, rfl⟩ : A = some ⟨b, off, none⟩ ∧ cap = c1 := by injection hA with h1 h2 h3; exact ⟨h1, h3⟩
        obtain ⟨rfl, rfl⟩ : A' = some ⟨b', off', none⟩ ∧ cap' = c2 := by injection hA' with h1 h2 h3; exact ⟨h1, h3⟩
        have HX := Lib.hid (HS.out.next hx hy)
        have hq := eql_val x y
        clear hA hA' hbel hle hcd hce hx hy
        generalize decide (x = y) = s1 at *
        go_wp2_with fail
        go_quiet (fail)
        go_wp2_with fail
        go_roundw
        case rel => exact ⟨k + 1, s1, by omega, by go_num, rfl, Lib.hid HX.out, bl_drewN HBe.out _⟩
        case measure => simp [intOf]; omega
      · obtain rfl : k = n := by omega
        have HE := Lib.hid (GSame.end (l := l) (m := m) (by rw [HN.out]; exact HS.out))
        clear hbel
        go_wp2_with fail
        go_ret
        exact ⟨ret_bool (by rw [← HR.out, HE.out]), HBe.out⟩

def kA : K4 := ⟨97, 0, 0, 0⟩
def kB : K4 := ⟨98, 0, 0, 0⟩
def kC : K4 := ⟨99, 0, 0, 0⟩
def valsABC : List Vd := [⟨kA, 1⟩, ⟨kB, 1⟩, ⟨kC, 1⟩]
theorem keys_any (w : World) : Calls Try.prog 21 #[] w fun e w' => ∃ v, e = .returned v ∧ DRow w' v valsABC ∧ Below w.heap.size w w' := by
  go_enter Try.func21, Try.ntmps21
  go_wp2_with fail
  go_ret
  exact ⟨_, rfl, GRow.lit (l := valsABC) (kb_new rfl _) rfl, bl_alloc (Below.refl _ _) _⟩
end Go.Proofs.Ytooghjnddifpdaa
