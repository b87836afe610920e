/-
  Plain arithmetic of the weights of noise: the weights, their sums and the laws about them, for all numbers in range. No program in sight.
-/
import Derived.Below
namespace Go.Proofs.Ytjidddahlkmjpaa

/-- A number lies between two others. -/
def inB (n lo hi : Int) : Bool := decide (lo ≤ n ∧ n ≤ hi)
theorem inB_t {n lo hi : Int} (h1 : lo ≤ n) (h2 : n ≤ hi) : inB n lo hi = true := by simp [inB, h1, h2]
theorem inB_f {n lo hi : Int} (h : ¬ (lo ≤ n ∧ n ≤ hi)) : inB n lo hi = false := by simp only [inB, decide_eq_false_iff_not]; exact h

/-- The numbers n, a, x are in range. -/
def okB (n a x : Int) : Bool := decide (1 ≤ n ∧ n ≤ 12 ∧ 2 ≤ a ∧ a ≤ 5 ∧ 0 ≤ x ∧ x ≤ n)
theorem okB_t {n a x : Int} (h1 : 1 ≤ n) (h2 : n ≤ 12) (h3 : 2 ≤ a) (h4 : a ≤ 5) (h5 : 0 ≤ x) (h6 : x ≤ n) : okB n a x = true := by simp [okB, h1, h2, h3, h4, h5, h6]
theorem okB_f {n a x : Int} (h : ¬ (1 ≤ n ∧ n ≤ 12 ∧ 2 ≤ a ∧ a ≤ 5 ∧ 0 ≤ x ∧ x ≤ n)) : okB n a x = false := by simp only [okB, decide_eq_false_iff_not]; exact h

/-- c times the k-th power of a. -/
def pw (c a : Int) : Nat → Int
  | 0 => c
  | k + 1 => pw c a k * a
theorem pw_zero (c a : Int) : pw c a 0 = c := rfl
theorem pw_succ (c a : Int) (k : Nat) : pw c a (k + 1) = pw c a k * a := rfl
theorem mul_bd {p a A B : Int} (h0 : 0 ≤ p) (h1 : p ≤ A) (h2 : 0 ≤ a) (h3 : a ≤ B) : 0 ≤ p * a ∧ p * a ≤ A * B :=
  ⟨Int.mul_nonneg h0 h2, Int.mul_le_mul h1 h3 h2 (by omega)⟩

theorem pw_table : ∀ c, c < 6 → ∀ a, a < 6 → ∀ k, k < 13 → 0 ≤ pw (c : Nat) (a : Nat) k ∧ pw (c : Nat) (a : Nat) k ≤ 1220703125 := by decide +kernel
theorem pw_bd {c a : Int} {k : Nat} (h0 : 0 ≤ c) (h1 : c ≤ 5) (h2 : 0 ≤ a) (h3 : a ≤ 5) (hk : k ≤ 12) : 0 ≤ pw c a k ∧ pw c a k ≤ 1220703125 := by
  obtain ⟨c, rfl⟩ := Int.eq_ofNat_of_zero_le h0
  obtain ⟨a, rfl⟩ := Int.eq_ofNat_of_zero_le h2
  exact pw_table c (by omega) a (by omega) k (by omega)
theorem pw_mul_bd {c a : Int} {k : Nat} (h0 : 0 ≤ c) (h1 : c ≤ 5) (h2 : 0 ≤ a) (h3 : a ≤ 5) (hk : k ≤ 12) : 0 ≤ pw c a k * a ∧ pw c a k * a ≤ 6103515625 := by
  have h := pw_bd h0 h1 h2 h3 hk
  have := mul_bd h.1 h.2 h2 h3
  omega

/-- The weight of y for x, all numbers in range. -/
def wt (n a x y : Int) : Int := pw (if y = 0 ∨ y = n then a else a - 1) a (n - max (x - y) (y - x)).toNat
/-- The weight, or -1. -/
def wv (n a x y : Int) : Int := if 1 ≤ n ∧ n ≤ 12 ∧ 2 ≤ a ∧ a ≤ 5 ∧ 0 ≤ x ∧ x ≤ n ∧ 0 ≤ y ∧ y ≤ n then wt n a x y else -1
/-- The numbers n, a, x, y are in range. -/
structure Ok4 (n a x y : Int) : Prop where
  n1 : 1 ≤ n
  n2 : n ≤ 12
  a1 : 2 ≤ a
  a2 : a ≤ 5
  x1 : 0 ≤ x
  x2 : x ≤ n
  y1 : 0 ≤ y
  y2 : y ≤ n
theorem ok4_of {n a x y : Int} (h : 1 ≤ n ∧ n ≤ 12 ∧ 2 ≤ a ∧ a ≤ 5 ∧ 0 ≤ x ∧ x ≤ n ∧ 0 ≤ y ∧ y ≤ n) : Ok4 n a x y :=
  ⟨h.1, h.2.1, h.2.2.1, h.2.2.2.1, h.2.2.2.2.1, h.2.2.2.2.2.1, h.2.2.2.2.2.2.1, h.2.2.2.2.2.2.2⟩
theorem wv_t {n a x y : Int} (h : Ok4 n a x y) : wv n a x y = wt n a x y := by
  unfold wv; rw [if_pos ⟨h.n1, h.n2, h.a1, h.a2, h.x1, h.x2, h.y1, h.y2⟩]
theorem wv_f {n a x y : Int} (h : ¬ (1 ≤ n ∧ n ≤ 12 ∧ 2 ≤ a ∧ a ≤ 5 ∧ 0 ≤ x ∧ x ≤ n ∧ 0 ≤ y ∧ y ≤ n)) : wv n a x y = -1 := by unfold wv; rw [if_neg h]
theorem ok4_or (n a x y : Int) : Ok4 n a x y ∨ ¬ (1 ≤ n ∧ n ≤ 12 ∧ 2 ≤ a ∧ a ≤ 5 ∧ 0 ≤ x ∧ x ≤ n ∧ 0 ≤ y ∧ y ≤ n) := by
  by_cases h : 1 ≤ n ∧ n ≤ 12 ∧ 2 ≤ a ∧ a ≤ 5 ∧ 0 ≤ x ∧ x ≤ n ∧ 0 ≤ y ∧ y ≤ n
  · exact .inl (ok4_of h)
  · exact .inr h

/-- The sum of the weights of the first k numbers for x. -/
def sm (n a x : Int) : Nat → Int
  | 0 => 0
  | k + 1 => sm n a x k + wt n a x (k : Nat)
/-- The sum of the weights of y for the first k numbers. -/
def sx (n a y : Int) : Nat → Int
  | 0 => 0
  | k + 1 => sx n a y k + wt n a (k : Nat) y
/-- The best of the first k numbers for y. -/
def bst (n a y : Int) : Nat → Int
  | 0 => 0
  | k + 1 => if wt n a (bst n a y k) y < wt n a (k : Nat) y then (k : Nat) else bst n a y k
/-- The tails of the law NoiseTails. -/
def lowS (n a x : Int) : Nat → Int
  | 0 => 0
  | k + 1 => if ((k : Nat) : Int) ≤ x then lowS n a x k + wt n a x (k : Nat) else lowS n a x k
def highS (n a x : Int) : Nat → Int
  | 0 => 0
  | k + 1 => if n - x ≤ ((k : Nat) : Int) then highS n a x k + wt n a (n - x) (k : Nat) else highS n a x k
/-- The sum of all weights, or -1. -/
def tv (n a x : Int) : Int := if 1 ≤ n ∧ n ≤ 12 ∧ 2 ≤ a ∧ a ≤ 5 ∧ 0 ≤ x ∧ x ≤ n then sm n a x (n.toNat + 1) else -1
theorem tv_t {n a x : Int} (h : 1 ≤ n ∧ n ≤ 12 ∧ 2 ≤ a ∧ a ≤ 5 ∧ 0 ≤ x ∧ x ≤ n) : tv n a x = sm n a x (n.toNat + 1) := by unfold tv; rw [if_pos h]
theorem tv_f {n a x : Int} (h : ¬ (1 ≤ n ∧ n ≤ 12 ∧ 2 ≤ a ∧ a ≤ 5 ∧ 0 ≤ x ∧ x ≤ n)) : tv n a x = -1 := by unfold tv; rw [if_neg h]

/-! ### The tables: each law for all numbers in range, reckoned by the kernel -/
def tab4 (Q : Nat → Nat → Nat → Nat → Bool) : Bool :=
  (List.range 13).all fun n => (List.range 6).all fun a => (List.range (n + 1)).all fun x => (List.range (n + 1)).all fun y => decide (n = 0) || decide (a < 2) || Q n a x y
theorem tab4_at {Q : Nat → Nat → Nat → Nat → Bool} (h : tab4 Q = true) {n a x y : Int} (hk : Ok4 n a x y) : Q n.toNat a.toNat x.toNat y.toNat = true := by
  obtain ⟨n1, n2, a1, a2, x1, x2, y1, y2⟩ := hk
  simp only [tab4, List.all_eq_true, List.mem_range] at h
  have h := h n.toNat (by omega) a.toNat (by omega) x.toNat (by omega) y.toNat (by omega)
  have e1 : ¬ n.toNat = 0 := by omega
  have e2 : ¬ a.toNat < 2 := by omega
  rw [decide_eq_false e1, decide_eq_false e2] at h
  exact h
theorem of_dec {p : Prop} [Decidable p] (h : decide p = true) : p := of_decide_eq_true h

theorem wt_bd {n a x y : Int} (h : Ok4 n a x y) : 1 ≤ wt n a x y ∧ wt n a x y ≤ 1220703125 := by
  have t := of_dec (tab4_at (Q := fun n a x y => decide (1 ≤ wt n a x y ∧ wt n a x y ≤ 1220703125)) (by decide +kernel) h)
  obtain ⟨n1, n2, a1, a2, x1, x2, y1, y2⟩ := h
  rwa [Int.toNat_of_nonneg (by omega), Int.toNat_of_nonneg (by omega), Int.toNat_of_nonneg x1, Int.toNat_of_nonneg y1] at t
theorem wt_next {n a x y : Int} (h : Ok4 n a x y) (hx : x < n) : wt n a (x + 1) y ≤ a * wt n a x y ∧ wt n a x y ≤ a * wt n a (x + 1) y := by
  have t := of_dec (tab4_at (Q := fun n a x y => decide (x < n → wt n a ((x : Int) + 1) y ≤ a * wt n a x y ∧ wt n a x y ≤ a * wt n a ((x : Int) + 1) y)) (by decide +kernel) h) (by have := h.x1; omega)
  obtain ⟨n1, n2, a1, a2, x1, x2, y1, y2⟩ := h
  rwa [Int.toNat_of_nonneg (by omega), Int.toNat_of_nonneg (by omega), Int.toNat_of_nonneg x1, Int.toNat_of_nonneg y1] at t
theorem wt_mirror {n a x y : Int} (h : Ok4 n a x y) : wt n a (n - x) (n - y) = wt n a x y := by
  have t := of_dec (tab4_at (Q := fun n a x y => decide (wt n a ((n : Int) - x) ((n : Int) - y) = wt n a x y)) (by decide +kernel) h)
  obtain ⟨n1, n2, a1, a2, x1, x2, y1, y2⟩ := h
  rwa [Int.toNat_of_nonneg (by omega), Int.toNat_of_nonneg (by omega), Int.toNat_of_nonneg x1, Int.toNat_of_nonneg y1] at t
theorem wt_range {n a x y : Int} (h : Ok4 n a x y) (hn : n < 12) (hy : y < n) : wt (n + 1) a x y = a * wt n a x y := by
  have t := of_dec (tab4_at (Q := fun n a x y => decide (n < 12 → y < n → wt ((n : Int) + 1) a x y = a * wt n a x y)) (by decide +kernel) h) (by omega) (by have := h.y1; omega)
  obtain ⟨n1, n2, a1, a2, x1, x2, y1, y2⟩ := h
  rwa [Int.toNat_of_nonneg (by omega), Int.toNat_of_nonneg (by omega), Int.toNat_of_nonneg x1, Int.toNat_of_nonneg y1] at t
theorem wt_far {n a x y z : Int} (h : Ok4 n a x y) (z1 : 0 ≤ z) (z2 : z ≤ n) : wt n a x y ≤ pw 1 a (max (x - z) (z - x)).toNat * wt n a z y := by
  have t := tab4_at (Q := fun n a x y => (List.range (n + 1)).all fun z => decide (wt n a x y ≤ pw 1 a (max ((x : Int) - z) ((z : Int) - x)).toNat * wt n a z y)) (by decide +kernel) h
  obtain ⟨n1, n2, a1, a2, x1, x2, y1, y2⟩ := h
  have t := of_dec (List.all_eq_true.1 t z.toNat (List.mem_range.2 (by omega)))
  rwa [Int.toNat_of_nonneg (by omega), Int.toNat_of_nonneg (by omega), Int.toNat_of_nonneg x1, Int.toNat_of_nonneg y1, Int.toNat_of_nonneg z1] at t
theorem wt_near {n a x y z : Int} (h : Ok4 n a x y) (z1 : 0 ≤ z) (z2 : z ≤ n) (hy0 : ¬ y = 0) (hyn : ¬ y = n) (hz0 : ¬ z = 0) (hzn : ¬ z = n) :
    (max (x - y) (y - x) < max (x - z) (z - x) → wt n a x z < wt n a x y) ∧ (max (x - z) (z - x) = max (x - y) (y - x) → wt n a x z = wt n a x y) ∧ (max (x - z) (z - x) < max (x - y) (y - x) → wt n a x y < wt n a x z) := by
  have t := tab4_at (Q := fun n a x y => (List.range (n + 1)).all fun z => decide (¬ (y : Int) = 0 → ¬ (y : Int) = n → ¬ (z : Int) = 0 → ¬ (z : Int) = n →
    (max ((x : Int) - y) ((y : Int) - x) < max ((x : Int) - z) ((z : Int) - x) → wt n a x z < wt n a x y) ∧ (max ((x : Int) - z) ((z : Int) - x) = max ((x : Int) - y) ((y : Int) - x) → wt n a x z = wt n a x y) ∧ (max ((x : Int) - z) ((z : Int) - x) < max ((x : Int) - y) ((y : Int) - x) → wt n a x y < wt n a x z))) (by decide +kernel) h
  obtain ⟨n1, n2, a1, a2, x1, x2, y1, y2⟩ := h
  have t := of_dec (List.all_eq_true.1 t z.toNat (List.mem_range.2 (by omega)))
  rw [Int.toNat_of_nonneg (show 0 ≤ n by omega), Int.toNat_of_nonneg (show 0 ≤ a by omega), Int.toNat_of_nonneg x1, Int.toNat_of_nonneg y1, Int.toNat_of_nonneg z1] at t
  exact t hy0 hyn hz0 hzn
theorem sm_all {n a x : Int} (h : Ok4 n a x 0) : sm n a x (n.toNat + 1) = (a + 1) * pw 1 a n.toNat := by
  have t := of_dec (tab4_at (Q := fun n a x _ => decide (sm n a x (n + 1) = ((a : Int) + 1) * pw 1 a n)) (by decide +kernel) h)
  obtain ⟨n1, n2, a1, a2, x1, x2, y1, y2⟩ := h
  rw [Int.toNat_of_nonneg (show 0 ≤ n by omega), Int.toNat_of_nonneg (show 0 ≤ a by omega), Int.toNat_of_nonneg x1] at t
  exact t
theorem bst_all {n a y : Int} (h : Ok4 n a 0 y) : bst n a y (n.toNat + 1) = y := by
  have t := of_dec (tab4_at (Q := fun n a _ y => decide (bst n a y (n + 1) = y)) (by decide +kernel) h)
  obtain ⟨n1, n2, a1, a2, x1, x2, y1, y2⟩ := h
  rw [Int.toNat_of_nonneg (show 0 ≤ n by omega), Int.toNat_of_nonneg (show 0 ≤ a by omega), Int.toNat_of_nonneg y1] at t
  exact t
theorem bst_bd {n a y : Int} (h : Ok4 n a 0 y) (k : Nat) (hk : (k : Int) ≤ n + 1) : 0 ≤ bst n a y k ∧ bst n a y k ≤ n := by
  induction k with
  | zero => simp only [bst]; have := h.n1; omega
  | succ k ih =>
    have ih := ih (by omega)
    simp only [bst]
    split <;> omega
theorem sx_sm {n a x y : Int} (h : Ok4 n a x y) : if y = 0 ∨ y = n then sm n a x (n.toNat + 1) ≤ sx n a y (n.toNat + 1) else sx n a y (n.toNat + 1) ≤ sm n a x (n.toNat + 1) := by
  have t := of_dec (tab4_at (Q := fun n a x y => decide (if (y : Int) = 0 ∨ (y : Int) = n then sm n a x (n + 1) ≤ sx n a y (n + 1) else sx n a y (n + 1) ≤ sm n a x (n + 1))) (by decide +kernel) h)
  obtain ⟨n1, n2, a1, a2, x1, x2, y1, y2⟩ := h
  rw [Int.toNat_of_nonneg (show 0 ≤ n by omega), Int.toNat_of_nonneg (show 0 ≤ a by omega), Int.toNat_of_nonneg x1, Int.toNat_of_nonneg y1] at t
  exact t
theorem wt_ends {n a x : Int} (h : Ok4 n a x 0) : wt n a x 0 = a * pw 1 a (n - x).toNat := by
  have t := of_dec (tab4_at (Q := fun n a x _ => decide (wt n a x 0 = a * pw 1 a ((n : Int) - x).toNat)) (by decide +kernel) h)
  obtain ⟨n1, n2, a1, a2, x1, x2, y1, y2⟩ := h
  rw [Int.toNat_of_nonneg (show 0 ≤ n by omega), Int.toNat_of_nonneg (show 0 ≤ a by omega), Int.toNat_of_nonneg x1] at t
  exact t
theorem tails {n a x : Int} (h : Ok4 n a x 0) : lowS n a x (n.toNat + 1) = highS n a x (n.toNat + 1) ∧ sm n a x (n.toNat + 1) ≤ lowS n a x (n.toNat + 1) * (a + 1) := by
  have t := of_dec (tab4_at (Q := fun n a x _ => decide (lowS n a x (n + 1) = highS n a x (n + 1) ∧ sm n a x (n + 1) ≤ lowS n a x (n + 1) * ((a : Int) + 1))) (by decide +kernel) h)
  obtain ⟨n1, n2, a1, a2, x1, x2, y1, y2⟩ := h
  rw [Int.toNat_of_nonneg (show 0 ≤ n by omega), Int.toNat_of_nonneg (show 0 ≤ a by omega), Int.toNat_of_nonneg x1] at t
  exact t

#print axioms wt_far
#print axioms tails
end Go.Proofs.Ytjidddahlkmjpaa
