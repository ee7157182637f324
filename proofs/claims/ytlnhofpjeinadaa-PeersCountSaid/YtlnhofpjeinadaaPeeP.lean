/- Providers as plain data: who is the best one of a role, who may move, who is next; up to which NaN a pace is. -/
import Derived.Test.YtlnhofpjeinadaaMr
namespace Go.Proofs.Ytlnhofpjeinadaa
open Go.RowKit Go.Proofs.Ytlnhofpjeinadaa.Pc

/-- A provider as plain data. -/
structure Pr where
  role : Int
  strikes : Int
  s : Int
  p : Nat
/-- What holds of each. -/
structure Pr.Fit (x : Pr) : Prop where
  r1 : 1 ≤ x.role
  r2 : x.role ≤ 6
  k1 : 0 ≤ x.strikes
  k2 : x.strikes ≤ 1000
  s : okS x.s = true
  p : x.p < 18446744073709551616
/-- The same, up to which NaN. -/
structure Pr.Alike (x y : Pr) : Prop where
  role : x.role = y.role
  strikes : x.strikes = y.strikes
  s : x.s = y.s
  p : canon x.p = canon y.p
theorem Pr.Alike.refl (x : Pr) : x.Alike x := ⟨rfl, rfl, rfl, rfl⟩
theorem Pr.Alike.trans {x y z : Pr} (h : x.Alike y) (k : y.Alike z) : x.Alike z := ⟨h.role.trans k.role, h.strikes.trans k.strikes, h.s.trans k.s, h.p.trans k.p⟩
theorem Pr.Alike.symm {x y : Pr} (h : x.Alike y) : y.Alike x := ⟨h.role.symm, h.strikes.symm, h.s.symm, h.p.symm⟩

theorem cmpF_canon {a a' b b' : Nat} (h : canon a = canon a') (k : canon b = canon b') : cmpF a b = cmpF a' b' := by
  rcases canon_eq h with ⟨h1, h2⟩ | ⟨h1, h2, rfl⟩
  · rcases canon_eq k with ⟨k1, k2⟩ | ⟨k1, k2, rfl⟩
    · simp [cmpF, h1, h2, k1, k2]
    · simp [cmpF, h1, h2, k1]
  · rcases canon_eq k with ⟨k1, k2⟩ | ⟨k1, k2, rfl⟩
    · simp [cmpF, h1, k1, k2]
    · rfl
theorem betM_canon {s t : Int} {a a' b b' : Nat} (h : canon a = canon a') (k : canon b = canon b') : betM s a t b = betM s a' t b' := by
  unfold betM cmpM
  rw [cmpF_canon h k]
/-- Is one better than another? -/
def betP (x y : Pr) : Bool := betM x.s x.p y.s y.p
theorem betP_alike {x x' y y' : Pr} (h : x.Alike x') (k : y.Alike y') : betP x y = betP x' y' := by
  unfold betP
  rw [h.s, k.s, betM_canon h.p k.p]

/-- Two lists of them, up to which NaN. -/
def Alk : List Pr → List Pr → Prop
  | [], [] => True
  | x :: L, y :: R => x.Alike y ∧ Alk L R
  | _, _ => False
theorem Alk.refl : (L : List Pr) → Alk L L
  | [] => trivial
  | x :: L => ⟨.refl x, Alk.refl L⟩
theorem Alk.trans : {L R S : List Pr} → Alk L R → Alk R S → Alk L S
  | [], [], [], _, _ => trivial
  | _ :: _, _ :: _, _ :: _, h, k => ⟨h.1.trans k.1, Alk.trans h.2 k.2⟩
theorem Alk.symm : {L R : List Pr} → Alk L R → Alk R L
  | [], [], _ => trivial
  | _ :: _, _ :: _, h => ⟨h.1.symm, Alk.symm h.2⟩
theorem Alk.len : {L R : List Pr} → Alk L R → L.length = R.length
  | [], [], _ => rfl
  | _ :: _, _ :: _, h => by simp [Alk.len h.2]
theorem Alk.at : {L R : List Pr} → Alk L R → (i : Nat) → ∀ x, L[i]? = some x → ∃ y, R[i]? = some y ∧ x.Alike y
  | [], [], _, i, x, hx => by simp at hx
  | _ :: _, y :: _, h, 0, x, hx => ⟨y, rfl, by simp at hx; subst hx; exact h.1⟩
  | _ :: _, _ :: _, h, i + 1, x, hx => by
    have := Alk.at h.2 i x (by simpa using hx)
    simpa using this
theorem Alk.set : {L R : List Pr} → Alk L R → (i : Nat) → {x y : Pr} → x.Alike y → Alk (L.set i x) (R.set i y)
  | [], [], _, i, _, _, _ => by simp [Alk]
  | _ :: _, _ :: _, h, 0, _, _, hx => ⟨hx, h.2⟩
  | _ :: _, _ :: _, h, i + 1, _, _, hx => ⟨h.1, Alk.set h.2 i hx⟩

/-- Providers with their places, up to which NaN. -/
def PAlk : List (Pr × Nat) → List (Pr × Nat) → Prop
  | [], [] => True
  | x :: L, y :: R => (x.1.Alike y.1 ∧ x.2 = y.2) ∧ PAlk L R
  | _, _ => False
theorem Alk.idx : {L R : List Pr} → Alk L R → (n : Nat) → PAlk (L.zipIdx n) (R.zipIdx n)
  | [], [], _, _ => trivial
  | _ :: _, _ :: _, h, n => ⟨⟨h.1, rfl⟩, Alk.idx h.2 (n + 1)⟩
def askR (role : Int) (y : Pr × Nat) : Bool := y.1.role == role
theorem PAlk.filt (role : Int) : {L R : List (Pr × Nat)} → PAlk L R → PAlk (L.filter (askR role)) (R.filter (askR role))
  | [], [], _ => trivial
  | x :: L, y :: R, h => by
    have ih := PAlk.filt role h.2
    have e : askR role x = askR role y := by unfold askR; rw [h.1.1.role]
    rw [List.filter_cons, List.filter_cons, e]
    cases askR role y
    · exact ih
    · exact ⟨h.1, ih⟩
/-- The providers of a role, with their places. -/
def ofs (L : List Pr) (role : Int) : List (Pr × Nat) := L.zipIdx.filter (askR role)
theorem ofs_alk {L R : List Pr} (h : Alk L R) (role : Int) : PAlk (ofs L role) (ofs R role) := (h.idx 0).filt role
/-- One more is looked at. -/
def topS (o : Option (Pr × Nat)) (y : Pr × Nat) : Option (Pr × Nat) := match o with
  | none => some y
  | some t => if betP y.1 t.1 then some y else some t
def top (M : List (Pr × Nat)) : Option (Pr × Nat) := M.foldl topS none
def atI : Option (Pr × Nat) → Int
  | none => -1
  | some t => t.2
/-- Where the best one of a role stands; -1: there is nobody. -/
def bestI (L : List Pr) (role : Int) : Int := atI (top (ofs L role))
def OAlk : Option (Pr × Nat) → Option (Pr × Nat) → Prop
  | none, none => True
  | some x, some y => x.1.Alike y.1 ∧ x.2 = y.2
  | _, _ => False
theorem topS_alk : {o o' : Option (Pr × Nat)} → {y y' : Pr × Nat} → OAlk o o' → y.1.Alike y'.1 ∧ y.2 = y'.2 → OAlk (topS o y) (topS o' y')
  | none, none, _, _, _, k => k
  | some t, some t', y, y', h, k => by
    show OAlk (if betP y.1 t.1 then some y else some t) (if betP y'.1 t'.1 then some y' else some t')
    rw [betP_alike k.1 h.1]
    split
    · exact k
    · exact h
theorem fold_alk : {M N : List (Pr × Nat)} → PAlk M N → {o o' : Option (Pr × Nat)} → OAlk o o' → OAlk (M.foldl topS o) (N.foldl topS o')
  | [], [], _, _, _, h => h
  | _ :: _, _ :: _, k, _, _, h => fold_alk k.2 (topS_alk h k.1)
theorem at_alk : {o o' : Option (Pr × Nat)} → OAlk o o' → atI o = atI o'
  | none, none, _ => rfl
  | some _, some _, h => by show ((_ : Nat) : Int) = _; rw [h.2]; rfl
theorem bestI_alk {L R : List Pr} (h : Alk L R) (role : Int) : bestI L role = bestI R role := at_alk (fold_alk (ofs_alk h role) (show OAlk none none from trivial))
/-- The places of a role. -/
def allI (L : List Pr) (role : Int) : List Int := (ofs L role).map fun y => (y.2 : Int)
theorem map_alk : {M N : List (Pr × Nat)} → PAlk M N → M.map (fun y => (y.2 : Int)) = N.map (fun y => (y.2 : Int))
  | [], [], _ => rfl
  | _ :: _, _ :: _, h => by rw [List.map_cons, List.map_cons, map_alk h.2, h.1.2]
theorem allI_alk {L R : List Pr} (h : Alk L R) (role : Int) : allI L role = allI R role := map_alk (ofs_alk h role)
theorem allI_len (L : List Pr) (role : Int) : (allI L role).length = (ofs L role).length := by simp [allI]
theorem ofs_len (L : List Pr) (role : Int) : (ofs L role).length ≤ L.length := by
  have := List.length_filter_le (askR role) L.zipIdx
  simpa [ofs] using this
theorem ofs_mem {L : List Pr} {role : Int} {y : Pr × Nat} (h : y ∈ ofs L role) : L[y.2]? = some y.1 ∧ y.1.role = role := by
  unfold ofs at h
  rw [List.mem_filter] at h
  refine ⟨?_, by simpa [askR] using h.2⟩
  obtain ⟨x, i⟩ := y
  have h1 := h.1
  rw [List.mem_zipIdx_iff_getElem?] at h1
  exact h1
theorem fold_mem : (M : List (Pr × Nat)) → (o : Option (Pr × Nat)) → (t : Pr × Nat) → M.foldl topS o = some t → t ∈ M ∨ o = some t
  | [], o, t, h => .inr h
  | y :: M, o, t, h => by
    rcases fold_mem M _ t h with h1 | h1
    · exact .inl (List.mem_cons_of_mem _ h1)
    · cases o with
      | none => simp [topS] at h1; exact .inl (by rw [h1]; exact List.mem_cons_self)
      | some u =>
        simp only [topS] at h1
        split at h1
        · injection h1 with h1; exact .inl (by rw [h1]; exact List.mem_cons_self)
        · exact .inr h1
theorem top_mem {M : List (Pr × Nat)} {t : Pr × Nat} (h : top M = some t) : t ∈ M := by
  rcases fold_mem M none t h with h1 | h1
  · exact h1
  · cases h1
theorem best_at {L : List Pr} {role : Int} (h : 0 ≤ bestI L role) : ∃ x, L[(bestI L role).toNat]? = some x ∧ x.role = role := by
  unfold bestI at *
  cases e : top (ofs L role) with
  | none => rw [e] at h; simp [atI] at h
  | some t =>
    obtain ⟨h1, h2⟩ := ofs_mem (top_mem e)
    exact ⟨t.1, by simp only [atI, Int.toNat_natCast]; exact h1, h2⟩
theorem bestI_bd (L : List Pr) (role : Int) : -1 ≤ bestI L role ∧ bestI L role < L.length := by
  by_cases h : 0 ≤ bestI L role
  · obtain ⟨x, hx, _⟩ := best_at h
    have := (List.getElem?_eq_some_iff.1 hx).1
    omega
  · have : bestI L role = -1 := by
      unfold bestI at *
      cases e : top (ofs L role) with
      | none => rfl
      | some t => rw [e] at h; simp [atI] at h
    omega

/-- One of them is another now. -/
def upd (L : List Pr) (i : Nat) (f : Pr → Pr) : List Pr := match L[i]? with
  | none => L
  | some x => L.set i (f x)
theorem upd_some {L : List Pr} {i : Nat} {x : Pr} (h : L[i]? = some x) (f : Pr → Pr) : upd L i f = L.set i (f x) := by unfold upd; rw [h]
theorem upd_len (L : List Pr) (i : Nat) (f : Pr → Pr) : (upd L i f).length = L.length := by
  unfold upd
  split <;> simp
theorem upd_alk {L R : List Pr} (h : Alk L R) (i : Nat) (f : Pr → Pr) (hf : ∀ x y : Pr, x.Alike y → (f x).Alike (f y)) : Alk (upd L i f) (upd R i f) := by
  cases e : L[i]? with
  | none =>
    have e' : R[i]? = none := by rw [List.getElem?_eq_none_iff] at *; rw [← h.len]; exact e
    unfold upd
    rw [e, e']
    exact h
  | some x =>
    obtain ⟨y, hy, hxy⟩ := h.at i x e
    rw [upd_some e, upd_some hy]
    exact h.set i (hf _ _ hxy)
def withRole (r : Int) (x : Pr) : Pr := { x with role := r }
theorem withRole_alk (r : Int) (x y : Pr) (h : x.Alike y) : (withRole r x).Alike (withRole r y) := ⟨rfl, h.strikes, h.s, h.p⟩
def setR (L : List Pr) (i : Nat) (r : Int) : List Pr := upd L i (withRole r)
theorem setR_alk {L R : List Pr} (h : Alk L R) (i : Nat) (r : Int) : Alk (setR L i r) (setR R i r) := upd_alk h i _ (withRole_alk r)
theorem setR_len (L : List Pr) (i : Nat) (r : Int) : (setR L i r).length = L.length := upd_len L i _

def prZ : Pr := ⟨0, 0, 0, 0⟩
def isP (L : List Pr) (who : Int) : Bool := decide (0 ≤ who ∧ who < L.length)
def prA (L : List Pr) (who : Int) : Pr := L.getD who.toNat prZ
theorem prA_some {L : List Pr} {who : Int} (h : isP L who = true) : L[who.toNat]? = some (prA L who) := by
  have h' : 0 ≤ who ∧ who < L.length := by simpa [isP] using h
  unfold prA
  rw [List.getD, List.getElem?_eq_getElem (by omega)]
  rfl
theorem prA_of {L : List Pr} {who : Int} {x : Pr} (h : L[who.toNat]? = some x) : prA L who = x := by
  unfold prA
  rw [List.getD, h]; rfl
theorem isP_alk {L R : List Pr} (h : Alk L R) (who : Int) : isP L who = isP R who := by unfold isP; rw [h.len]
theorem prA_alk {L R : List Pr} (h : Alk L R) (who : Int) : (prA L who).Alike (prA R who) := by
  cases e : L[who.toNat]? with
  | none =>
    have e' : R[who.toNat]? = none := by rw [List.getElem?_eq_none_iff] at *; rw [← h.len]; exact e
    unfold prA
    rw [List.getD, List.getD, e, e']
    exact .refl _
  | some x =>
    obtain ⟨y, hy, hxy⟩ := h.at _ x e
    rw [prA_of e, prA_of hy]
    exact hxy
def roleI (L : List Pr) (who : Int) : Int := if isP L who then (prA L who).role else 0
def strikesI (L : List Pr) (who : Int) : Int := if isP L who then (prA L who).strikes else 0
theorem roleI_alk {L R : List Pr} (h : Alk L R) (who : Int) : roleI L who = roleI R who := by unfold roleI; rw [isP_alk h, (prA_alk h who).role]
theorem strikesI_alk {L R : List Pr} (h : Alk L R) (who : Int) : strikesI L who = strikesI R who := by unfold strikesI; rw [isP_alk h, (prA_alk h who).strikes]
def rolesI (L : List Pr) : List Int := L.map Pr.role
theorem rolesI_alk : {L R : List Pr} → Alk L R → rolesI L = rolesI R
  | [], [], _ => rfl
  | _ :: _, _ :: _, h => by
    have := rolesI_alk h.2
    unfold rolesI at *
    rw [List.map_cons, List.map_cons, this, h.1.role]

/-- May a role follow one? -/
def mayI (x role : Int) : Bool := decide (x < role) && !(x == 4 && role == 5)
def moveE (L : List Pr) (who role : Int) : Int :=
  if isP L who then (if 1 ≤ role ∧ role ≤ 6 then (if mayI (prA L who).role role then (if role = 3 ∧ 0 ≤ bestI L 3 then 11 else 0) else 9) else 2) else 10
def moveL (L : List Pr) (who role : Int) : List Pr := if moveE L who role = 0 then setR L who.toNat role else L
theorem moveE_alk {L R : List Pr} (h : Alk L R) (who role : Int) : moveE L who role = moveE R who role := by unfold moveE; rw [isP_alk h, (prA_alk h who).role, bestI_alk h]
theorem moveL_alk {L R : List Pr} (h : Alk L R) (who role : Int) : Alk (moveL L who role) (moveL R who role) := by
  unfold moveL
  rw [moveE_alk h]
  split
  · exact setR_alk h _ _
  · exact h
/-- Who is next. -/
def nextI (L : List Pr) : Int := if 0 ≤ bestI L 3 then -1 else if 0 ≤ bestI L 2 then bestI L 2 else bestI L 1
def nextL (L : List Pr) : List Pr := if 0 ≤ nextI L then setR L (nextI L).toNat 3 else L
theorem nextI_alk {L R : List Pr} (h : Alk L R) : nextI L = nextI R := by unfold nextI; rw [bestI_alk h, bestI_alk h, bestI_alk h]
theorem nextL_alk {L R : List Pr} (h : Alk L R) : Alk (nextL L) (nextL R) := by
  unfold nextL
  rw [nextI_alk h]
  split
  · exact setR_alk h _ _
  · exact h
/-- Is there one to fill in? -/
def fills (most : Int) (L : List Pr) : Bool := decide (((ofs L 2).length : Int) < most) && decide (0 ≤ bestI L 1)
theorem fills_alk {L R : List Pr} (h : Alk L R) (most : Int) : fills most L = fills most R := by
  unfold fills
  rw [← allI_len, ← allI_len, allI_alk h, bestI_alk h]
def fillL (most : Int) (L : List Pr) : Nat → List Pr
  | 0 => L
  | k + 1 => if fills most (fillL most L k) then setR (fillL most L k) (bestI (fillL most L k) 1).toNat 2 else fillL most L k
def fillI (most : Int) (L : List Pr) : Nat → List Int
  | 0 => []
  | k + 1 => if fills most (fillL most L k) then fillI most L k ++ [bestI (fillL most L k) 1] else fillI most L k
theorem fillL_alk {L R : List Pr} (h : Alk L R) (most : Int) : (k : Nat) → Alk (fillL most L k) (fillL most R k)
  | 0 => h
  | k + 1 => by
    have ih := fillL_alk h most k
    simp only [fillL]
    rw [fills_alk ih]
    split
    · rw [bestI_alk ih]
      exact setR_alk ih _ _
    · exact ih
theorem fillI_alk {L R : List Pr} (h : Alk L R) (most : Int) : (k : Nat) → fillI most L k = fillI most R k
  | 0 => rfl
  | k + 1 => by
    simp only [fillI]
    rw [fillI_alk h most k, fills_alk (fillL_alk h most k), bestI_alk (fillL_alk h most k)]
theorem fill_done {most : Int} {L : List Pr} {k : Nat} (h : fills most (fillL most L k) = false) : (m : Nat) → fillL most L (k + m) = fillL most L k ∧ fillI most L (k + m) = fillI most L k
  | 0 => ⟨rfl, rfl⟩
  | m + 1 => by
    obtain ⟨h1, h2⟩ := fill_done h m
    rw [← Nat.add_assoc]
    simp only [fillL, fillI]
    rw [h1, h, h2]
    exact ⟨by simp, by simp⟩
theorem fill_one {most : Int} {L : List Pr} {k j : Nat} (h : fills most (fillL most L k) = false) (h' : fills most (fillL most L j) = false) : fillL most L k = fillL most L j ∧ fillI most L k = fillI most L j := by
  rcases Nat.le_total k j with hl | hl
  · obtain ⟨h1, h2⟩ := fill_done h (j - k)
    rw [show k + (j - k) = j by omega] at h1 h2
    exact ⟨h1.symm, h2.symm⟩
  · obtain ⟨h1, h2⟩ := fill_done h' (k - j)
    rw [show j + (k - j) = k by omega] at h1 h2
    exact ⟨h1, h2⟩
theorem fillL_len (most : Int) (L : List Pr) : (k : Nat) → (fillL most L k).length = L.length
  | 0 => rfl
  | k + 1 => by
    simp only [fillL]
    split
    · rw [setR_len, fillL_len most L k]
    · exact fillL_len most L k
/-- How many are of a role: fewer by one, as soon as one of them is of another. -/
theorem idx_set : (L : List Pr) → (n i : Nat) → (x x' : Pr) → L[i]? = some x → (role : Int) → x.role = role → x'.role ≠ role → (((L.set i x').zipIdx n).filter (askR role)).length + 1 = ((L.zipIdx n).filter (askR role)).length
  | [], _, i, _, _, h, _, _, _ => by simp at h
  | y :: L, n, 0, x, x', h, role, h1, h2 => by
    simp at h; subst h
    simp [List.zipIdx_cons, askR, h1, h2]
  | y :: L, n, i + 1, x, x', h, role, h1, h2 => by
    have ih := idx_set L (n + 1) i x x' (by simpa using h) role h1 h2
    rw [List.set_cons_succ, List.zipIdx_cons, List.zipIdx_cons, List.filter_cons, List.filter_cons]
    cases askR role (y, n)
    · simpa using ih
    · simp only [if_true, List.length_cons]; omega
theorem spare_less {L : List Pr} (h : 0 ≤ bestI L 1) : (ofs (setR L (bestI L 1).toNat 2) 1).length + 1 = (ofs L 1).length := by
  obtain ⟨x, hx, hr⟩ := best_at h
  unfold setR ofs
  rw [upd_some hx]
  exact idx_set L 0 _ x _ hx 1 hr (by simp [withRole])

/-- A provider is struck; it is praised. -/
def struck (x : Pr) : Pr := { x with strikes := min 1000 (x.strikes + 1), s := badS x.s, p := badP x.s x.p }
def praised (t : Int) (x : Pr) : Pr := { x with s := goodS x.s t, p := goodP x.s x.p t }
theorem badP_canon {s : Int} {a b : Nat} (h : canon a = canon b) : canon (badP s a) = canon (badP s b) := by
  unfold badP
  split
  · exact smoothF_canon h rfl
  · rfl
theorem goodP_canon {s t : Int} {a b : Nat} (h : canon a = canon b) : canon (goodP s a t) = canon (goodP s b t) := by
  unfold goodP
  split
  · exact smoothF_canon h rfl
  · rfl
theorem struck_alk (x y : Pr) (h : x.Alike y) : (struck x).Alike (struck y) := ⟨h.role, by simp [struck, h.strikes], by simp [struck, h.s], by simp only [struck, h.s]; exact badP_canon h.p⟩
theorem praised_alk (t : Int) (x y : Pr) (h : x.Alike y) : (praised t x).Alike (praised t y) := ⟨h.role, h.strikes, by simp [praised, h.s], by simp only [praised, h.s]; exact goodP_canon h.p⟩
def strikeL (L : List Pr) (who : Int) : List Pr := if isP L who then upd L who.toNat struck else L
def strikeI (L : List Pr) (who : Int) : Int := if isP L who then min 1000 ((prA L who).strikes + 1) else 0
def praiseL (L : List Pr) (who t : Int) : List Pr := if isP L who && okG (prA L who).s t then upd L who.toNat (praised t) else L
theorem strikeL_alk {L R : List Pr} (h : Alk L R) (who : Int) : Alk (strikeL L who) (strikeL R who) := by
  unfold strikeL
  rw [isP_alk h]
  split
  · exact upd_alk h _ _ struck_alk
  · exact h
theorem strikeI_alk {L R : List Pr} (h : Alk L R) (who : Int) : strikeI L who = strikeI R who := by unfold strikeI; rw [isP_alk h, (prA_alk h who).strikes]
theorem praiseL_alk {L R : List Pr} (h : Alk L R) (who t : Int) : Alk (praiseL L who t) (praiseL R who t) := by
  unfold praiseL
  rw [isP_alk h, (prA_alk h who).s]
  split
  · exact upd_alk h _ _ (praised_alk t)
  · exact h
end Go.Proofs.Ytlnhofpjeinadaa
