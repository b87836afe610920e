/-
  Plain laws of swapping: people, swaps of two areas, lists of swaps, moved people, counts. No program in sight.
-/
import Derived.Below
namespace Go.Proofs.Ytpjiencegicjbaa

/-- A person. -/
structure Pn where
  area : Int
  job : Int
  sex : Int
  pay : Int
/-- A person is valid. -/
def pnP (p : Pn) : Prop := (0 ≤ p.area ∧ p.area < 4) ∧ (0 ≤ p.job ∧ p.job < 4) ∧ (0 ≤ p.sex ∧ p.sex ≤ 1) ∧ 0 ≤ p.pay ∧ p.pay ≤ 999
def pnB (p : Pn) : Bool := decide ((0 ≤ p.area ∧ p.area < 4) ∧ (0 ≤ p.job ∧ p.job < 4) ∧ (0 ≤ p.sex ∧ p.sex ≤ 1) ∧ 0 ≤ p.pay ∧ p.pay ≤ 999)
theorem pnB_iff {p : Pn} : pnB p = true ↔ pnP p := by simp [pnB, pnP]
theorem pnB_t {p : Pn} (h : pnP p) : pnB p = true := pnB_iff.2 h
theorem pnB_f {p : Pn} (h : ¬ pnP p) : pnB p = false := by rw [← Bool.not_eq_true, pnB_iff]; exact h
/-- People are valid. -/
def pvP (ps : List Pn) : Prop := ps.length ≤ 40 ∧ ∀ p ∈ ps, pnP p
def pvB (ps : List Pn) : Bool := decide (ps.length ≤ 40) && ps.all pnB
theorem pvB_iff {ps : List Pn} : pvB ps = true ↔ pvP ps := by simp [pvB, pvP, pnB_iff]
theorem pvB_t {ps : List Pn} (h : pvP ps) : pvB ps = true := pvB_iff.2 h
theorem pvB_f {ps : List Pn} (h : ¬ pvP ps) : pvB ps = false := by rw [← Bool.not_eq_true, pvB_iff]; exact h
theorem pv_at {ps : List Pn} {i : Nat} {p : Pn} (h : pvP ps) (hi : ps[i]? = some p) : pnP p := h.2 p (List.mem_of_getElem? hi)

/-- Two persons can be swapped. -/
def alike (x y : Pn) : Prop := x.job = y.job ∧ x.sex = y.sex ∧ x.area ≠ y.area
def soP (ps : List Pn) (a b : Int) : Prop := pvP ps ∧ ∃ (i j : Nat) (x y : Pn), a = i ∧ b = j ∧ ps[i]? = some x ∧ ps[j]? = some y ∧ alike x y
def z4 : Pn := ⟨0, 0, 0, 0⟩
def soB (ps : List Pn) (a b : Int) : Bool :=
  pvB ps && decide (0 ≤ a ∧ a < ps.length) && decide (0 ≤ b ∧ b < ps.length) &&
    decide ((ps.getD a.toNat z4).job = (ps.getD b.toNat z4).job ∧ (ps.getD a.toNat z4).sex = (ps.getD b.toNat z4).sex ∧ (ps.getD a.toNat z4).area ≠ (ps.getD b.toNat z4).area)
theorem soB_iff {ps : List Pn} {a b : Int} : soB ps a b = true ↔ soP ps a b := by
  simp only [soB, soP, Bool.and_eq_true, decide_eq_true_eq, pvB_iff]
  constructor
  · rintro ⟨⟨⟨h1, h2⟩, h3⟩, h4⟩
    have e1 : ps[a.toNat]? = some (ps[a.toNat]'(by omega)) := List.getElem?_eq_getElem (by omega)
    have e2 : ps[b.toNat]? = some (ps[b.toNat]'(by omega)) := List.getElem?_eq_getElem (by omega)
    rw [List.getD_eq_getElem?_getD, List.getD_eq_getElem?_getD, e1, e2] at h4
    exact ⟨h1, a.toNat, b.toNat, _, _, by omega, by omega, e1, e2, h4⟩
  · rintro ⟨h1, i, j, x, y, rfl, rfl, hx, hy, h4⟩
    have l1 := (List.getElem?_eq_some_iff.1 hx).1
    have l2 := (List.getElem?_eq_some_iff.1 hy).1
    refine ⟨⟨⟨h1, by omega⟩, by omega⟩, ?_⟩
    rw [List.getD_eq_getElem?_getD, List.getD_eq_getElem?_getD, Int.toNat_natCast, Int.toNat_natCast, hx, hy]
    exact h4
theorem soB_t {ps : List Pn} {a b : Int} (h : soP ps a b) : soB ps a b = true := soB_iff.2 h
theorem soB_f {ps : List Pn} {a b : Int} (h : ¬ soP ps a b) : soB ps a b = false := by rw [← Bool.not_eq_true, soB_iff]; exact h
theorem so_at {ps : List Pn} {i j : Nat} {x y : Pn} (hx : ps[i]? = some x) (hy : ps[j]? = some y) : soP ps i j ↔ pvP ps ∧ alike x y := by
  constructor
  · rintro ⟨h1, i', j', x', y', e1, e2, h3, h4, h5⟩
    have e1 : i = i' := by omega
    have e2 : j = j' := by omega
    subst e1 e2
    rw [hx] at h3
    rw [hy] at h4
    injection h3 with h3
    injection h4 with h4
    subst h3 h4
    exact ⟨h1, h5⟩
  · exact fun h => ⟨h.1, i, j, x, y, rfl, rfl, hx, hy, h.2⟩

/-- The areas of two persons exchanged. -/
def sw (ps : List Pn) (i j : Nat) : List Pn := (ps.set i { ps.getD i z4 with area := (ps.getD j z4).area }).set j { ps.getD j z4 with area := (ps.getD i z4).area }
theorem sw_len (ps : List Pn) (i j : Nat) : (sw ps i j).length = ps.length := by simp [sw]
theorem sw_eq {ps : List Pn} {i j : Nat} {x y : Pn} (hx : ps[i]? = some x) (hy : ps[j]? = some y) : sw ps i j = (ps.set i { x with area := y.area }).set j { y with area := x.area } := by
  unfold sw; rw [List.getD_eq_getElem?_getD, List.getD_eq_getElem?_getD, hx, hy]; rfl
theorem sw_get {ps : List Pn} {i j : Nat} {x y : Pn} (hx : ps[i]? = some x) (hy : ps[j]? = some y) (hne : i ≠ j) (k : Nat) :
    (sw ps i j)[k]? = if k = i then some { x with area := y.area } else if k = j then some { y with area := x.area } else ps[k]? := by
  have l1 := (List.getElem?_eq_some_iff.1 hx).1
  have l2 := (List.getElem?_eq_some_iff.1 hy).1
  rw [sw_eq hx hy]
  by_cases h1 : k = i
  · subst h1
    rw [if_pos rfl, List.getElem?_set_ne (by omega), List.getElem?_set_self l1]
  · rw [if_neg h1]
    by_cases h2 : k = j
    · subst h2
      rw [if_pos rfl, List.getElem?_set_self (by simpa using l2)]
    · rw [if_neg h2, List.getElem?_set_ne (by omega), List.getElem?_set_ne (by omega)]
theorem alike_ne {ps : List Pn} {i j : Nat} {x y : Pn} (hx : ps[i]? = some x) (hy : ps[j]? = some y) (h : alike x y) : i ≠ j := by
  rintro rfl
  rw [hx] at hy
  injection hy with hy
  subst hy
  exact h.2.2 rfl
theorem sw_mem {ps : List Pn} {i j : Nat} {x y p : Pn} (hx : ps[i]? = some x) (hy : ps[j]? = some y) (hp : p ∈ sw ps i j) : p ∈ ps ∨ p = { x with area := y.area } ∨ p = { y with area := x.area } := by
  rw [sw_eq hx hy] at hp
  rcases List.mem_or_eq_of_mem_set hp with hp | hp
  · rcases List.mem_or_eq_of_mem_set hp with hp | hp
    · exact .inl hp
    · exact .inr (.inl hp)
  · exact .inr (.inr hp)
theorem sw_pv {ps : List Pn} {i j : Nat} {x y : Pn} (hx : ps[i]? = some x) (hy : ps[j]? = some y) (h : pvP ps) : pvP (sw ps i j) := by
  have vx := pv_at h hx
  have vy := pv_at h hy
  refine ⟨by rw [sw_len]; exact h.1, fun p hp => ?_⟩
  rcases sw_mem hx hy hp with hp | rfl | rfl
  · exact h.2 p hp
  · exact ⟨vy.1, vx.2⟩
  · exact ⟨vx.1, vy.2⟩
/-- What a swap of valid people gives. -/
theorem so_sw {ps : List Pn} {a b : Int} (h : soP ps a b) : pvP (sw ps a.toNat b.toNat) := by
  obtain ⟨h1, i, j, x, y, rfl, rfl, hx, hy, h5⟩ := h
  exact sw_pv hx hy h1
theorem alike_symm {x y : Pn} (h : alike x y) : alike y x := ⟨h.1.symm, h.2.1.symm, fun e => h.2.2 e.symm⟩
theorem so_symm {ps : List Pn} {a b : Int} (h : soP ps a b) : soP ps b a := by
  obtain ⟨h1, i, j, x, y, rfl, rfl, hx, hy, h5⟩ := h
  exact ⟨h1, j, i, y, x, rfl, rfl, hy, hx, alike_symm h5⟩
theorem so_self {ps : List Pn} {a : Int} : ¬ soP ps a a := by
  rintro ⟨h1, i, j, x, y, rfl, e, hx, hy, h5⟩
  have e : i = j := by omega
  subst e
  exact alike_ne hx hy h5 rfl
/-- Swapped persons can be swapped. -/
theorem so_again {ps : List Pn} {a b : Int} (h : soP ps a b) : soP (sw ps a.toNat b.toNat) a b := by
  obtain ⟨h1, i, j, x, y, rfl, rfl, hx, hy, h5⟩ := h
  have hne := alike_ne hx hy h5
  refine ⟨sw_pv hx hy h1, i, j, { x with area := y.area }, { y with area := x.area }, rfl, rfl, ?_, ?_, h5.1, h5.2.1, fun e => h5.2.2 e.symm⟩
  · rw [Int.toNat_natCast, Int.toNat_natCast, sw_get hx hy hne, if_pos rfl]
  · rw [Int.toNat_natCast, Int.toNat_natCast, sw_get hx hy hne, if_neg (by omega), if_pos rfl]
/-- A swap is done back. -/
theorem sw_back {ps : List Pn} {a b : Int} (h : soP ps a b) : sw (sw ps a.toNat b.toNat) a.toNat b.toNat = ps := by
  obtain ⟨h1, i, j, x, y, rfl, rfl, hx, hy, h5⟩ := h
  have hne := alike_ne hx hy h5
  rw [Int.toNat_natCast, Int.toNat_natCast]
  have gx : (sw ps i j)[i]? = some { x with area := y.area } := by rw [sw_get hx hy hne, if_pos rfl]
  have gy : (sw ps i j)[j]? = some { y with area := x.area } := by rw [sw_get hx hy hne, if_neg (by omega), if_pos rfl]
  refine List.ext_getElem? fun k => ?_
  rw [sw_get gx gy hne]
  by_cases h1 : k = i
  · subst h1; rw [if_pos rfl, hx]
  · rw [if_neg h1]
    by_cases h2 : k = j
    · subst h2; rw [if_pos rfl, hy]
    · rw [if_neg h2, sw_get hx hy hne, if_neg h1, if_neg h2]
theorem sw_comm {ps : List Pn} {a b : Int} (h : soP ps a b) : sw ps b.toNat a.toNat = sw ps a.toNat b.toNat := by
  obtain ⟨h1, i, j, x, y, rfl, rfl, hx, hy, h5⟩ := h
  have hne := alike_ne hx hy h5
  rw [Int.toNat_natCast, Int.toNat_natCast]
  refine List.ext_getElem? fun k => ?_
  rw [sw_get hx hy hne, sw_get hy hx (by omega)]
  by_cases h1 : k = i
  · subst h1; rw [if_pos rfl, if_neg hne, if_pos rfl]
  · by_cases h2 : k = j
    · subst h2; rw [if_pos rfl, if_neg h1, if_pos rfl]
    · simp only [if_neg h1, if_neg h2]
/-- Swaps of other persons. -/
theorem so_far {ps : List Pn} {a b c d : Int} (h : soP ps a b) (hc : c ≠ a ∧ c ≠ b) (hd : d ≠ a ∧ d ≠ b) : soP (sw ps a.toNat b.toNat) c d ↔ soP ps c d := by
  obtain ⟨h1, i, j, x, y, rfl, rfl, hx, hy, h5⟩ := h
  have hne := alike_ne hx hy h5
  rw [Int.toNat_natCast, Int.toNat_natCast]
  constructor
  · rintro ⟨g1, k, l, u, v, rfl, rfl, hu, hv, g5⟩
    rw [sw_get hx hy hne, if_neg (by omega), if_neg (by omega)] at hu hv
    exact ⟨h1, k, l, u, v, rfl, rfl, hu, hv, g5⟩
  · rintro ⟨g1, k, l, u, v, rfl, rfl, hu, hv, g5⟩
    refine ⟨sw_pv hx hy h1, k, l, u, v, rfl, rfl, ?_, ?_, g5⟩
    · rw [sw_get hx hy hne, if_neg (by omega), if_neg (by omega)]; exact hu
    · rw [sw_get hx hy hne, if_neg (by omega), if_neg (by omega)]; exact hv
theorem sw_far {ps : List Pn} {a b c d : Int} (h : soP ps a b) (hs : soP ps c d) (hc : c ≠ a ∧ c ≠ b) (hd : d ≠ a ∧ d ≠ b) : sw (sw ps a.toNat b.toNat) c.toNat d.toNat = sw (sw ps c.toNat d.toNat) a.toNat b.toNat := by
  have h' := (so_far h hc hd).2 hs
  obtain ⟨h1, i, j, x, y, rfl, rfl, hx, hy, h5⟩ := h
  obtain ⟨g1, k, l, u, v, rfl, rfl, hu, hv, g5⟩ := hs
  have hne := alike_ne hx hy h5
  have gne := alike_ne hu hv g5
  simp only [Int.toNat_natCast]
  have ux : (sw ps i j)[k]? = some u := by rw [sw_get hx hy hne, if_neg (by omega), if_neg (by omega)]; exact hu
  have vx : (sw ps i j)[l]? = some v := by rw [sw_get hx hy hne, if_neg (by omega), if_neg (by omega)]; exact hv
  have xu : (sw ps k l)[i]? = some x := by rw [sw_get hu hv gne, if_neg (by omega), if_neg (by omega)]; exact hx
  have yu : (sw ps k l)[j]? = some y := by rw [sw_get hu hv gne, if_neg (by omega), if_neg (by omega)]; exact hy
  refine List.ext_getElem? fun t => ?_
  rw [sw_get ux vx gne, sw_get xu yu hne, sw_get hx hy hne, sw_get hu hv gne]
  repeat' split
  all_goals first | rfl | (exfalso; omega)

/-! ### Counts -/
theorem countP_set {α : Type} (q : α → Bool) {xs : List α} {i : Nat} {x : α} (h : xs[i]? = some x) (y : α) : (xs.set i y).countP q + (if q x then 1 else 0) = xs.countP q + if q y then 1 else 0 := by
  induction xs generalizing i with
  | nil => simp at h
  | cons z xs ih =>
    cases i with
    | zero => simp only [List.getElem?_cons_zero, Option.some.injEq] at h; subst h; simp only [List.set_cons_zero, List.countP_cons]; omega
    | succ i => simp only [List.getElem?_cons_succ] at h; have := ih h; simp only [List.set_cons_succ, List.countP_cons]; omega
/-- A count that looks at codes alone is the same behind a swap. -/
theorem count_sw {ps : List Pn} {a b : Int} (h : soP ps a b) (q : Pn → Bool) (hq : ∀ p p' : Pn, p.area = p'.area → p.job = p'.job → p.sex = p'.sex → q p = q p') : (sw ps a.toNat b.toNat).countP q = ps.countP q := by
  obtain ⟨h1, i, j, x, y, rfl, rfl, hx, hy, h5⟩ := h
  have hne := alike_ne hx hy h5
  rw [Int.toNat_natCast, Int.toNat_natCast, sw_eq hx hy]
  have c1 := countP_set q hx { x with area := y.area }
  have hy' : (ps.set i { x with area := y.area })[j]? = some y := by rw [List.getElem?_set_ne (by omega)]; exact hy
  have c2 := countP_set q hy' { y with area := x.area }
  have e1 : q { x with area := y.area } = q y := hq _ _ rfl h5.1 h5.2.1
  have e2 : q { y with area := x.area } = q x := hq _ _ rfl h5.1.symm h5.2.1.symm
  rw [e1] at c1
  rw [e2] at c2
  omega
/-- The pays of those whom q picks. -/
def pays (q : Pn → Bool) : List Pn → Int
  | [] => 0
  | p :: ps => (if q p then p.pay else 0) + pays q ps
theorem pays_set (q : Pn → Bool) {xs : List Pn} {i : Nat} {x : Pn} (h : xs[i]? = some x) (y : Pn) : pays q (xs.set i y) + (if q x then x.pay else 0) = pays q xs + if q y then y.pay else 0 := by
  induction xs generalizing i with
  | nil => simp at h
  | cons z xs ih =>
    cases i with
    | zero => simp only [List.getElem?_cons_zero, Option.some.injEq] at h; subst h; simp only [List.set_cons_zero, pays]; omega
    | succ i => simp only [List.getElem?_cons_succ] at h; have := ih h; simp only [List.set_cons_succ, pays]; omega
theorem pays_sw {ps : List Pn} {a b : Int} (h : soP ps a b) (q : Pn → Bool) (hq : ∀ p p' : Pn, p.job = p'.job → p.sex = p'.sex → q p = q p') : pays q (sw ps a.toNat b.toNat) = pays q ps := by
  obtain ⟨h1, i, j, x, y, rfl, rfl, hx, hy, h5⟩ := h
  have hne := alike_ne hx hy h5
  rw [Int.toNat_natCast, Int.toNat_natCast, sw_eq hx hy]
  have c1 := pays_set q hx { x with area := y.area }
  have hy' : (ps.set i { x with area := y.area })[j]? = some y := by rw [List.getElem?_set_ne (by omega)]; exact hy
  have c2 := pays_set q hy' { y with area := x.area }
  have e1 : q { x with area := y.area } = q x := hq _ _ rfl rfl
  have e2 : q { y with area := x.area } = q y := hq _ _ rfl rfl
  rw [e1] at c1
  rw [e2] at c2
  simp only at c1 c2
  omega

/-! ### Moved people -/
def mvd : List Pn → List Pn → Nat
  | x :: xs, y :: ys => (if x.area = y.area then 0 else 1) + mvd xs ys
  | _, _ => 0
theorem mvd_nil (xs : List Pn) : mvd xs [] = 0 := by cases xs <;> rfl
theorem mvd_self (xs : List Pn) : mvd xs xs = 0 := by induction xs with
  | nil => rfl
  | cons x xs ih => simp [mvd, ih]
theorem mvd_comm (xs ys : List Pn) : mvd xs ys = mvd ys xs := by
  induction xs generalizing ys with
  | nil => cases ys <;> rfl
  | cons x xs ih => cases ys with
    | nil => rfl
    | cons y ys =>
      simp only [mvd, ih]
      congr 1
      by_cases h : x.area = y.area
      · rw [if_pos h, if_pos h.symm]
      · rw [if_neg h, if_neg (fun e => h e.symm)]
theorem mvd_le (xs ys : List Pn) : mvd xs ys ≤ xs.length := by
  induction xs generalizing ys with
  | nil => simp [mvd]
  | cons x xs ih => cases ys with
    | nil => simp [mvd]
    | cons y ys => have := ih ys; simp only [mvd, List.length_cons]; split <;> omega
theorem mvd_tri (xs ys zs : List Pn) (h1 : xs.length = ys.length) (h2 : ys.length = zs.length) : mvd xs zs ≤ mvd xs ys + mvd ys zs := by
  induction xs generalizing ys zs with
  | nil => simp [mvd]
  | cons x xs ih =>
    match ys, zs, h1, h2 with
    | y :: ys, z :: zs, h1, h2 =>
      have := ih ys zs (by simpa using h1) (by simpa using h2)
      simp only [mvd]
      repeat' split
      all_goals first | omega | (exfalso; simp_all)
theorem mvd_set {xs ys : List Pn} {i : Nat} {x y : Pn} (hx : xs[i]? = some x) (hy : ys[i]? = some y) (z : Pn) : mvd xs (ys.set i z) + (if x.area = y.area then 0 else 1) = mvd xs ys + if x.area = z.area then 0 else 1 := by
  induction xs generalizing ys i with
  | nil => simp at hx
  | cons u xs ih => cases ys with
    | nil => simp at hy
    | cons v ys => cases i with
      | zero => simp only [List.getElem?_cons_zero, Option.some.injEq] at hx hy; subst hx hy; simp only [List.set_cons_zero, mvd]; omega
      | succ i => simp only [List.getElem?_cons_succ] at hx hy; have := ih hx hy; simp only [List.set_cons_succ, mvd]; omega
theorem mvd_sw {ps : List Pn} {a b : Int} (h : soP ps a b) : mvd ps (sw ps a.toNat b.toNat) = 2 := by
  obtain ⟨h1, i, j, x, y, rfl, rfl, hx, hy, h5⟩ := h
  have hne := alike_ne hx hy h5
  rw [Int.toNat_natCast, Int.toNat_natCast, sw_eq hx hy]
  have c1 := mvd_set hx hx { x with area := y.area }
  have hy' : (ps.set i { x with area := y.area })[j]? = some y := by rw [List.getElem?_set_ne (by omega)]; exact hy
  have c2 := mvd_set hy hy' { y with area := x.area }
  rw [mvd_self, if_pos rfl, if_neg h5.2.2] at c1
  rw [if_pos rfl, if_neg (fun e => h5.2.2 e.symm)] at c2
  omega
theorem mvd_take {xs ys : List Pn} {k : Nat} {x y : Pn} (hx : xs[k]? = some x) (hy : ys[k]? = some y) : mvd (xs.take (k + 1)) (ys.take (k + 1)) = mvd (xs.take k) (ys.take k) + if x.area = y.area then 0 else 1 := by
  induction xs generalizing ys k with
  | nil => simp at hx
  | cons u xs ih => cases ys with
    | nil => simp at hy
    | cons v ys => cases k with
      | zero => simp only [List.getElem?_cons_zero, Option.some.injEq] at hx hy; subst hx hy; simp [mvd]
      | succ k => simp only [List.getElem?_cons_succ] at hx hy; have := ih hx hy; simp only [List.take_succ_cons, mvd] at this ⊢; omega

/-! ### Lists of swaps -/
/-- One swap of a list, if it can be done. -/
def st1 (s : List Pn × Nat) (p : Int × Int) : List Pn × Nat := if soB s.1 p.1 p.2 = true then (sw s.1 p.1.toNat p.2.toNat, s.2 + 1) else s
def run (ps : List Pn) (pairs : List (Int × Int)) : List Pn × Nat := pairs.foldl st1 (ps, 0)
theorem foldl_st1 (ps : List Pn) (n : Nat) (pairs : List (Int × Int)) : pairs.foldl st1 (ps, n) = ((run ps pairs).1, n + (run ps pairs).2) := by
  induction pairs generalizing ps n with
  | nil => simp [run]
  | cons p pairs ih =>
    simp only [run, List.foldl_cons]
    by_cases h : soB ps p.1 p.2 = true
    · simp only [st1, h, if_true]
      rw [ih, ih (sw ps p.1.toNat p.2.toNat) (0 + 1)]
      simp only [Prod.mk.injEq, true_and]; omega
    · simp only [st1, h]
      exact ih ps n
theorem run_append (ps : List Pn) (xs ys : List (Int × Int)) : run ps (xs ++ ys) = ((run (run ps xs).1 ys).1, (run ps xs).2 + (run (run ps xs).1 ys).2) := by
  have h : run ps (xs ++ ys) = ys.foldl st1 (run ps xs) := by simp [run, List.foldl_append]
  rw [h, show run ps xs = ((run ps xs).1, (run ps xs).2) from rfl, foldl_st1]
theorem run_nil (ps : List Pn) : run ps [] = (ps, 0) := rfl
theorem run_one_t {ps : List Pn} {p : Int × Int} (h : soB ps p.1 p.2 = true) : run ps [p] = (sw ps p.1.toNat p.2.toNat, 1) := by simp [run, st1, h]
theorem run_one_f {ps : List Pn} {p : Int × Int} (h : soB ps p.1 p.2 = false) : run ps [p] = (ps, 0) := by simp [run, st1, h]
/-- What holds of people, is kept by swaps, holds behind a list of swaps. -/
theorem run_inv {R : List Pn → Prop} (hR : ∀ ps a b, R ps → soP ps a b → R (sw ps a.toNat b.toNat)) (ps : List Pn) (pairs : List (Int × Int)) (h : R ps) : R (run ps pairs).1 := by
  induction pairs generalizing ps with
  | nil => exact h
  | cons p pairs ih =>
    have e : p :: pairs = [p] ++ pairs := rfl
    rw [e, run_append]
    refine ih _ ?_
    cases hs : soB ps p.1 p.2
    · rw [run_one_f hs]; exact h
    · rw [run_one_t hs]; exact hR _ _ _ h (soB_iff.1 hs)
theorem run_len (ps : List Pn) (pairs : List (Int × Int)) : (run ps pairs).1.length = ps.length :=
  run_inv (R := fun qs => qs.length = ps.length) (fun qs a b h _ => by rw [sw_len]; exact h) ps pairs rfl
theorem run_pv {ps : List Pn} (pairs : List (Int × Int)) (h : pvP ps) : pvP (run ps pairs).1 :=
  run_inv (R := pvP) (fun _ _ _ _ hs => so_sw hs) ps pairs h
theorem run_count (ps : List Pn) (pairs : List (Int × Int)) (q : Pn → Bool) (hq : ∀ p p' : Pn, p.area = p'.area → p.job = p'.job → p.sex = p'.sex → q p = q p') : (run ps pairs).1.countP q = ps.countP q :=
  run_inv (R := fun qs => qs.countP q = ps.countP q) (fun _ _ _ h hs => by rw [count_sw hs q hq]; exact h) ps pairs rfl
theorem run_le (ps : List Pn) (pairs : List (Int × Int)) : (run ps pairs).2 ≤ pairs.length := by
  induction pairs generalizing ps with
  | nil => simp [run]
  | cons p pairs ih =>
    have e : p :: pairs = [p] ++ pairs := rfl
    rw [e, run_append]
    have := ih (run ps [p]).1
    cases hs : soB ps p.1 p.2
    · rw [run_one_f hs] at this ⊢; simp only [List.length_append, List.length_singleton] at this ⊢; omega
    · rw [run_one_t hs] at this ⊢; simp only [List.length_append, List.length_singleton] at this ⊢; omega
theorem run_moved (ps : List Pn) (pairs : List (Int × Int)) : mvd ps (run ps pairs).1 ≤ 2 * (run ps pairs).2 := by
  induction pairs generalizing ps with
  | nil => simp [run, mvd_self]
  | cons p pairs ih =>
    have e : p :: pairs = [p] ++ pairs := rfl
    rw [e, run_append]
    have h1 := ih (run ps [p]).1
    have h2 := mvd_tri ps (run ps [p]).1 (run (run ps [p]).1 pairs).1 (run_len _ _).symm (run_len _ _).symm
    cases hs : soB ps p.1 p.2
    · rw [run_one_f hs] at h1 h2 ⊢; rw [mvd_self] at h2; simp only at h1 h2 ⊢; omega
    · rw [run_one_t hs] at h1 h2 ⊢; rw [mvd_sw (soB_iff.1 hs)] at h2; simp only at h1 h2 ⊢; omega
/-- A pair twice is no pair. -/
theorem run_twice (ps : List Pn) (p : Int × Int) : (run ps [p, p]).1 = ps ∧ ((run ps [p, p]).2 = 0 ∨ (run ps [p, p]).2 = 2) := by
  have e : [p, p] = [p] ++ [p] := rfl
  rw [e, run_append]
  cases hs : soB ps p.1 p.2
  · rw [run_one_f hs, run_one_f hs]; exact ⟨rfl, .inl rfl⟩
  · have hP := soB_iff.1 hs
    rw [run_one_t hs, run_one_t (soB_t (so_again hP))]
    exact ⟨sw_back hP, .inr rfl⟩
theorem run_again (ps : List Pn) (pairs : List (Int × Int)) (p : Int × Int) : (run ps (pairs ++ [p, p])).1 = (run ps pairs).1 ∧ ((run ps (pairs ++ [p, p])).2 = (run ps pairs).2 ∨ (run ps (pairs ++ [p, p])).2 = (run ps pairs).2 + 2) := by
  rw [run_append]
  obtain ⟨h1, h2⟩ := run_twice (run ps pairs).1 p
  exact ⟨h1, by omega⟩
end Go.Proofs.Ytpjiencegicjbaa
