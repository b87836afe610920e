/-
  Plain arithmetic of cell keys: sums, keys, tables of changes, the change. No program in sight.
-/
import Derived.Below
import Derived.IntWalk
namespace Go.Proofs.Ytgdoajhieiibcaa
open Go.RowKit (wrap64)

def sumI : List Int → Int
  | [] => 0
  | x :: xs => x + sumI xs
theorem sumI_append (xs ys : List Int) : sumI (xs ++ ys) = sumI xs + sumI ys := by
  induction xs with
  | nil => simp [sumI]
  | cons x xs ih => simp only [List.cons_append, sumI, ih]; omega
theorem sumI_one (x : Int) : sumI [x] = x := by simp [sumI]
theorem sumI_bd {xs : List Int} {lo hi : Int} (h : ∀ x ∈ xs, lo ≤ x ∧ x ≤ hi) : lo * xs.length ≤ sumI xs ∧ sumI xs ≤ hi * xs.length := by
  induction xs with
  | nil => simp [sumI]
  | cons x xs ih =>
    have h1 := h x (by simp)
    have h2 := ih (fun y hy => h y (by simp [hy]))
    simp only [sumI, List.length_cons, Int.natCast_add, Int.natCast_one, Int.mul_add, Int.mul_one]
    omega
/-- The sum as Go's int has it. -/
def wsum : List Int → Int
  | xs => xs.foldl (fun s x => wrap64 (s + x)) 0
theorem wsum_snoc (xs : List Int) (x : Int) : wsum (xs ++ [x]) = wrap64 (wsum xs + x) := by simp [wsum, List.foldl_append]
theorem wsum_nil : wsum [] = 0 := rfl
theorem wsum_eq {xs : List Int} (h : ∀ x ∈ xs, -1000 ≤ x ∧ x ≤ 1000) (hl : xs.length ≤ 1000000) (k : Nat) : wsum (xs.take k) = sumI (xs.take k) := by
  induction k with
  | zero => simp [wsum, sumI]
  | succ k ih =>
    by_cases hk : k < xs.length
    · rw [List.take_succ_eq_append_getElem hk, wsum_snoc, ih, sumI_append, sumI_one]
      have h1 := h xs[k] (List.getElem_mem hk)
      have h2 := sumI_bd (xs := xs.take k) (fun x hx => h x (List.mem_of_mem_take hx))
      have h3 : (xs.take k).length ≤ 1000000 := by rw [List.length_take]; omega
      exact IntWalk.wrap64_in _ ⟨by omega, by omega⟩
    · rw [List.take_of_length_le (by omega)]
      rw [List.take_of_length_le (by omega)] at ih
      exact ih

/-- Keys of a cell. -/
def keysP (ks : List Int) : Prop := ks.length ≤ 40 ∧ ∀ x ∈ ks, 0 ≤ x ∧ x < 16
/-- An integer of a row of changes. -/
def elP (i : Nat) (x : Int) : Prop := -10 ≤ x ∧ x ≤ 10 ∧ 0 ≤ (i : Int) + x ∧ (i = 0 → x = 0)
/-- A row of changes. -/
def rowP (i : Nat) (r : List Int) : Prop := r.length = 16 ∧ sumI r = 0 ∧ ∀ x ∈ r, elP i x
/-- A table of changes. -/
def rowsP (rs : List (List Int)) : Prop := 1 ≤ rs.length ∧ rs.length ≤ 8 ∧ ∀ i r, rs[i]? = some r → rowP i r
def ksB (ks : List Int) : Bool := decide (ks.length ≤ 40) && ks.all fun x => decide (0 ≤ x ∧ x < 16)
def rwB (i : Nat) (r : List Int) : Bool := decide (r.length = 16) && decide (sumI r = 0) && r.all fun x => decide (-10 ≤ x ∧ x ≤ 10 ∧ 0 ≤ (i : Int) + x ∧ (i = 0 → x = 0))
def krB (rs : List (List Int)) : Bool := decide (1 ≤ rs.length) && decide (rs.length ≤ 8) && (List.range rs.length).all fun i => rwB i (rs.getD i [])
theorem ksB_iff {ks : List Int} : ksB ks = true ↔ keysP ks := by simp [ksB, keysP]
theorem rwB_iff {i : Nat} {r : List Int} : rwB i r = true ↔ rowP i r := by
  simp only [rwB, rowP, elP, Bool.and_eq_true, decide_eq_true_eq, List.all_eq_true, and_assoc]
theorem krB_iff {rs : List (List Int)} : krB rs = true ↔ rowsP rs := by
  simp only [krB, rowsP, Bool.and_eq_true, decide_eq_true_eq, List.all_eq_true, List.mem_range, and_assoc]
  refine and_congr_right fun _ => and_congr_right fun _ => ⟨fun h i r hr => ?_, fun h i hi => ?_⟩
  · obtain ⟨hi, rfl⟩ := List.getElem?_eq_some_iff.1 hr
    have := h i hi
    rw [rwB_iff, List.getD_eq_getElem?_getD, List.getElem?_eq_getElem hi] at this
    exact this
  · rw [rwB_iff, List.getD_eq_getElem?_getD, List.getElem?_eq_getElem hi]
    exact h i _ (List.getElem?_eq_getElem hi)
theorem krB_t {rs : List (List Int)} (h : rowsP rs) : krB rs = true := krB_iff.2 h
theorem krB_f {rs : List (List Int)} (h : ¬ rowsP rs) : krB rs = false := by rw [← Bool.not_eq_true, krB_iff]; exact h
theorem rwB_t {i : Nat} {r : List Int} (h : rowP i r) : rwB i r = true := rwB_iff.2 h
theorem rwB_f {i : Nat} {r : List Int} (h : ¬ rowP i r) : rwB i r = false := by rw [← Bool.not_eq_true, rwB_iff]; exact h
theorem ksB_t {ks : List Int} (h : keysP ks) : ksB ks = true := ksB_iff.2 h
theorem ksB_f {ks : List Int} (h : ¬ keysP ks) : ksB ks = false := by rw [← Bool.not_eq_true, ksB_iff]; exact h
/-- What KeySum returns. -/
def ksV (ks : List Int) : Int := if ksB ks = true then sumI ks % 16 else 0
theorem ksV_t {ks : List Int} (h : keysP ks) : ksV ks = sumI ks % 16 := by unfold ksV; rw [if_pos (ksB_t h)]
theorem ksV_f {ks : List Int} (h : ¬ keysP ks) : ksV ks = 0 := by unfold ksV; rw [if_neg (by rw [ksB_f h]; exact Bool.false_ne_true)]
theorem keys_sum {ks : List Int} (h : keysP ks) : wsum ks = sumI ks ∧ 0 ≤ sumI ks ∧ sumI ks ≤ 640 := by
  have h1 := wsum_eq (xs := ks) (fun x hx => by have := h.2 x hx; omega) (by have := h.1; omega) ks.length
  rw [List.take_length] at h1
  have h2 := sumI_bd (xs := ks) (lo := 0) (hi := 16) (fun x hx => by have := h.2 x hx; omega)
  have := h.1
  exact ⟨h1, by omega, by omega⟩
/-- What KeyChange returns. -/
def kcV (rs : List (List Int)) (ks : List Int) : Int := if ksB ks && krB rs then ks.length + ((rs.getD (min ks.length (rs.length - 1)) []).getD (sumI ks % 16).toNat 0) else 0
def kcB (rs : List (List Int)) (ks : List Int) : Bool := ksB ks && krB rs
end Go.Proofs.Ytgdoajhieiibcaa
