/-
  Plain laws of lists of swaps, told by rows of integers; tables of people. No program in sight.
-/
import Derived.Test.YtpjiencegicjbaaPlain
import Derived.Test.YtpjiencegicjbaaMem
namespace Go.Proofs.Ytpjiencegicjbaa
open Go.RowKit

/-- A list has another length than two. -/
def badB (rs : List (List Int)) : Bool := rs.any fun r => decide (r.length ≠ 2)
theorem bad_f {rs : List (List Int)} : badB rs = false ↔ ∀ r ∈ rs, r.length = 2 := by simp [badB]
theorem bad_at {rs : List (List Int)} {k : Nat} {r : List Int} (hk : rs[k]? = some r) (h : r.length ≠ 2) : badB rs = true := by
  simp only [badB, List.any_eq_true, decide_eq_true_eq]; exact ⟨r, mem_of_at hk, h⟩
theorem bad_next {rs : List (List Int)} {k : Nat} {r : List Int} (h : ∀ r ∈ rs.take k, r.length = 2) (hk : rs[k]? = some r) (hr : r.length = 2) : ∀ r ∈ rs.take (k + 1), r.length = 2 := by
  rw [take_next hk]
  intro x hx
  rcases List.mem_append.1 hx with hx | hx
  · exact h x hx
  · rw [List.mem_singleton.1 hx]; exact hr
theorem bad_all {rs : List (List Int)} {n k : Nat} (hn : rs.length = n) (hk : ¬ k < n) (h : ∀ r ∈ rs.take k, r.length = 2) : badB rs = false := by
  rw [List.take_of_length_le (by omega)] at h
  exact bad_f.2 h
theorem bad_append (xs ys : List (List Int)) : badB (xs ++ ys) = (badB xs || badB ys) := by simp [badB]
theorem bad_take {rs : List (List Int)} (h : badB rs = false) (k : Nat) : badB (rs.take k) = false := bad_f.2 fun r hr => bad_f.1 h r (List.mem_of_mem_take hr)
theorem bad_drop {rs : List (List Int)} (h : badB rs = false) (k : Nat) : badB (rs.drop k) = false := bad_f.2 fun r hr => bad_f.1 h r (List.mem_of_mem_drop hr)
/-- Rows as pairs. -/
def prs (rs : List (List Int)) : List (Int × Int) := rs.map fun r => (r.getD 0 0, r.getD 1 0)
theorem prs_len (rs : List (List Int)) : (prs rs).length = rs.length := by simp [prs]
theorem prs_append (xs ys : List (List Int)) : prs (xs ++ ys) = prs xs ++ prs ys := by simp [prs]
theorem prs_take (rs : List (List Int)) (k : Nat) : prs (rs.take k) = (prs rs).take k := by simp [prs, List.map_take]
/-- A row of two. -/
theorem two_of {r : List Int} (h : r.length = 2) : ∃ x y, r = [x, y] := by
  match r, h with
  | [x, y], _ => exact ⟨x, y, rfl⟩
/-- Swaps done so far. -/
def runR (ps : List Pn) (rs : List (List Int)) : List Pn × Nat := run ps (prs rs)
theorem runR_nil (ps : List Pn) : runR ps [] = (ps, 0) := rfl
theorem run_snoc (ps : List Pn) (xs : List (Int × Int)) (p : Int × Int) : run ps (xs ++ [p]) = st1 (run ps xs) p := by simp [run, List.foldl_append]
theorem runR_t {ps qs : List Pn} {t k : Nat} {rs : List (List Int)} {x y : Int} (hk : rs[k]? = some [x, y]) (h : runR ps (rs.take k) = (qs, t)) (hs : soB qs x y = true) : runR ps (rs.take (k + 1)) = (sw qs x.toNat y.toNat, t + 1) := by
  rw [take_next hk, runR, prs_append, show prs [[x, y]] = [(x, y)] from rfl, run_snoc, show run ps (prs (rs.take k)) = (qs, t) from h]
  simp [st1, hs]
theorem runR_f {ps qs : List Pn} {t k : Nat} {rs : List (List Int)} {x y : Int} (hk : rs[k]? = some [x, y]) (h : runR ps (rs.take k) = (qs, t)) (hs : soB qs x y = false) : runR ps (rs.take (k + 1)) = (qs, t) := by
  rw [take_next hk, runR, prs_append, show prs [[x, y]] = [(x, y)] from rfl, run_snoc, show run ps (prs (rs.take k)) = (qs, t) from h]
  simp [st1, hs]
theorem runR_all {ps qs : List Pn} {n k t : Nat} {rs : List (List Int)} (hn : rs.length = n) (hk : ¬ k < n) (h : runR ps (rs.take k) = (qs, t)) : runR ps rs = (qs, t) := by
  rwa [List.take_of_length_le (by omega)] at h
theorem runR_len {ps qs : List Pn} {t : Nat} {rs : List (List Int)} (h : runR ps rs = (qs, t)) : qs.length = ps.length := by
  have := run_len ps (prs rs); rw [show run ps (prs rs) = (qs, t) from h] at this; exact this
theorem runR_le {ps qs : List Pn} {t : Nat} {rs : List (List Int)} (h : runR ps rs = (qs, t)) : t ≤ rs.length := by
  have := run_le ps (prs rs); rw [show run ps (prs rs) = (qs, t) from h, prs_len] at this; exact this
theorem runR_leT {ps qs : List Pn} {t k : Nat} {rs : List (List Int)} (h : runR ps (rs.take k) = (qs, t)) : t ≤ k := by
  have h1 := runR_le h
  have h2 := List.length_take_le k rs
  omega
theorem runR_pv {ps qs : List Pn} {t : Nat} {rs : List (List Int)} (h : runR ps rs = (qs, t)) (hv : pvB ps = true) : pvB qs = true := by
  have := run_pv (prs rs) (pvB_iff.1 hv); rw [show run ps (prs rs) = (qs, t) from h] at this; exact pvB_t this
theorem runR_moved {ps qs : List Pn} {t : Nat} {rs : List (List Int)} (h : runR ps rs = (qs, t)) : mvd ps qs ≤ 2 * t := by
  have := run_moved ps (prs rs); rw [show run ps (prs rs) = (qs, t) from h] at this; exact this
theorem runR_append {ps qs us : List Pn} {t s : Nat} {xs ys : List (List Int)} (h : runR ps xs = (qs, t)) (k : runR qs ys = (us, s)) : runR ps (xs ++ ys) = (us, t + s) := by
  rw [runR, prs_append, run_append, show run ps (prs xs) = (qs, t) from h]
  simp only
  rw [show run qs (prs ys) = (us, s) from k]
theorem runR_again {ps qs : List Pn} {t : Nat} {rs : List (List Int)} (x y : Int) (h : runR ps rs = (qs, t)) : ∃ m, runR ps (rs ++ [[x, y], [x, y]]) = (qs, m) ∧ (m = t ∨ m = t + 2) := by
  obtain ⟨h1, h2⟩ := run_again ps (prs rs) (x, y)
  rw [show run ps (prs rs) = (qs, t) from h] at h1 h2
  refine ⟨_, ?_, h2⟩
  rw [runR, prs_append]
  exact Prod.ext h1 rfl
/-- The list of swaps can be done. -/
def slB (ps : List Pn) (rs : List (List Int)) : Bool := pvB ps && decide (rs.length ≤ 40) && !badB rs
theorem sl_no1 {ps : List Pn} {rs : List (List Int)} (h : pvB ps = false) : slB ps rs = false := by simp [slB, h]
theorem sl_no2 {ps : List Pn} {rs : List (List Int)} (h : 40 < rs.length) : slB ps rs = false := by simp only [slB, Bool.and_eq_false_iff, decide_eq_false_iff_not]; exact .inl (.inr (by omega))
theorem sl_no3 {ps : List Pn} {rs : List (List Int)} (h : badB rs = true) : slB ps rs = false := by simp [slB, h]
theorem sl_iff {ps : List Pn} {rs : List (List Int)} : slB ps rs = true ↔ pvB ps = true ∧ rs.length ≤ 40 ∧ badB rs = false := by simp [slB, and_assoc]

/-! ### Tables -/
def cellB (a j : Nat) (p : Pn) : Bool := p.area == (a : Int) && p.job == (j : Int)
def tabN (ps : List Pn) (a j : Nat) : Int := ((ps.countP (cellB a j) : Nat) : Int)
def tab (ps : List Pn) : List (List Int) := (List.range 4).map fun a => (List.range 4).map fun j => tabN ps a j
theorem tab_sw {ps : List Pn} {a b : Int} (h : soP ps a b) : tab (sw ps a.toNat b.toNat) = tab ps := by
  have e : ∀ x y, tabN (sw ps a.toNat b.toNat) x y = tabN ps x y := fun x y => by
    unfold tabN; rw [count_sw h (cellB x y) (fun p p' h1 h2 _ => by simp only [cellB, h1, h2])]
  simp only [tab, e]
theorem tab_run {ps qs : List Pn} {t : Nat} {rs : List (List Int)} (h : runR ps rs = (qs, t)) : tab qs = tab ps := by
  have := run_inv (R := fun us => tab us = tab ps) (fun us a b hu hs => by rw [tab_sw hs]; exact hu) ps (prs rs) rfl
  rw [show run ps (prs rs) = (qs, t) from h] at this; exact this
theorem tabN_next {ps : List Pn} {k : Nat} {x : Pn} (hk : ps[k]? = some x) (a j : Nat) : tabN (ps.take (k + 1)) a j = tabN (ps.take k) a j + if cellB a j x = true then 1 else 0 := by
  unfold tabN
  rw [take_next hk, List.countP_append, List.countP_singleton]
  split <;> simp
theorem tabN_le (ps : List Pn) (a j : Nat) : 0 ≤ tabN ps a j ∧ tabN ps a j ≤ ps.length := by
  unfold tabN
  have := List.countP_le_length (p := cellB a j) (l := ps)
  omega
end Go.Proofs.Ytpjiencegicjbaa
