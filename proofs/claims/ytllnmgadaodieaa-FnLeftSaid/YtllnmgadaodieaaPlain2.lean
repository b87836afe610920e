/-
  Plain laws of ledgers: asking, joining, what is left. No program in sight.
-/
import Derived.Test.YtllnmgadaodieaaPlain
namespace Go.Proofs.Ytllnmgadaodieaa

theorem four {a : Int} (h0 : 0 ≤ a) (h1 : a < 4) : a = 0 ∨ a = 1 ∨ a = 2 ∨ a = 3 := by omega
/-- The most is that of an area. -/
theorem most_is {es : List (Int × Int)} (h : allE es) : most es = spent es 0 ∨ most es = spent es 1 ∨ most es = spent es 2 ∨ most es = spent es 3 := by
  have h0 := spent_bd h 0
  unfold most; omega
/-- One of the first k areas has the most. -/
def fnd (es : List (Int × Int)) : Nat → Bool
  | 0 => false
  | k + 1 => fnd es k || (spent es (k : Nat) == most es)
theorem fnd_four {es : List (Int × Int)} (h : allE es) : fnd es 4 = true := by
  simp only [fnd, Bool.or_eq_true, beq_iff_eq]
  have h1 := most_is h
  have e0 : spent es ((0 : Nat) : Int) = spent es 0 := rfl
  have e1 : spent es ((1 : Nat) : Int) = spent es 1 := rfl
  have e2 : spent es ((2 : Nat) : Int) = spent es 2 := rfl
  have e3 : spent es ((3 : Nat) : Int) = spent es 3 := rfl
  rw [e0, e1, e2, e3]
  omega
/-- All parts together. -/
def tot : List (Int × Int) → Int
  | [] => 0
  | e :: es => (if e.1 < 0 then 4 * e.2 else e.2) + tot es
theorem tot_append (xs ys : List (Int × Int)) : tot (xs ++ ys) = tot xs + tot ys := by
  induction xs with
  | nil => simp [tot]
  | cons e es ih => simp only [List.cons_append, tot, ih]; omega
theorem tot_one (e : Int × Int) : tot [e] = if e.1 < 0 then 4 * e.2 else e.2 := by simp [tot]
theorem tot_bd {es : List (Int × Int)} (h : allE es) : 0 ≤ tot es ∧ tot es ≤ 4000 * es.length := by
  induction es with
  | nil => simp [tot]
  | cons e es ih =>
    have he := (evB_iff e).1 (h e (by simp))
    have ih := ih (fun x hx => h x (by simp [hx]))
    simp only [tot, List.length_cons]
    split <;> omega
/-- What is left of all parts when the first k areas are taken off. -/
def rest (es : List (Int × Int)) : Nat → Int
  | 0 => tot es
  | k + 1 => rest es k - spent es (k : Nat)
theorem tot_sum {es : List (Int × Int)} (h : allE es) : tot es = spent es 0 + spent es 1 + spent es 2 + spent es 3 := by
  induction es with
  | nil => simp [tot, spent]
  | cons e es ih =>
    have he := (evB_iff e).1 (h e (by simp))
    have ih := ih (fun x hx => h x (by simp [hx]))
    simp only [tot, spent, ih]
    rcases he.1 with h1 | h1
    · rw [if_pos (by omega), if_pos (.inl h1), if_pos (.inl h1), if_pos (.inl h1), if_pos (.inl h1)]; omega
    · rw [if_neg (by omega)]
      rcases four h1.1 h1.2 with h2 | h2 | h2 | h2 <;> rw [h2] <;> simp <;> omega
theorem rest_four {es : List (Int × Int)} (h : allE es) : rest es 4 = 0 := by
  have := tot_sum h
  have e0 : spent es ((0 : Nat) : Int) = spent es 0 := rfl
  have e1 : spent es ((1 : Nat) : Int) = spent es 1 := rfl
  have e2 : spent es ((2 : Nat) : Int) = spent es 2 := rfl
  have e3 : spent es ((3 : Nat) : Int) = spent es 3 := rfl
  simp only [rest]
  rw [e0, e1, e2, e3]
  omega
theorem rest_bd {es : List (Int × Int)} (h : allE es) (hl : es.length ≤ 40) (k : Nat) (hk : k ≤ 4) : -200000 ≤ rest es k ∧ rest es k ≤ 200000 := by
  have h0 := tot_bd h
  have : -(40000 * (k : Int)) ≤ rest es k ∧ rest es k ≤ 160000 := by
    clear hk
    induction k with
    | zero => simp only [rest]; omega
    | succ k ih =>
      have := spent_bd h (k : Nat)
      simp only [rest]; omega
  omega
/-- The least of what is left. -/
def least (b : Int) (es : List (Int × Int)) : Nat → Int
  | 0 => b
  | k + 1 => min (least b es k) (b - spent es (k : Nat))
theorem least_eq (b : Int) (es : List (Int × Int)) (k : Nat) : least b es k = b - mostK es k := by
  induction k with
  | zero => simp [least, mostK]
  | succ k ih => simp only [least, mostK, ih]; omega
theorem least_four (b : Int) (es : List (Int × Int)) : least b es 4 = b - most es := by rw [least_eq, mostK_four]

/-! ### Asking -/
theorem most_all {es : List (Int × Int)} (h : allE es) {c : Int} (hc : 0 ≤ c) : most (es ++ [(-1, c)]) = most es + c := by
  have h0 := spent_bd h 0
  have k : ∀ a : Int, spent (es ++ [(-1, c)]) a = spent es a + c := fun a => by rw [spent_append, spent_one, if_pos (.inl rfl)]
  unfold most
  rw [k, k, k, k]
  omega
theorem spent_ask (es : List (Int × Int)) (p c a : Int) : spent (es ++ [(p, c)]) a = spent es a + if p = -1 ∨ p = a then c else 0 := by rw [spent_append, spent_one]
theorem ld_of_ask {b : Int} {es : List (Int × Int)} {p c : Int} (h : ldP b (es ++ [(p, c)])) : ldP b es ∧ partP p ∧ 0 ≤ c ∧ c ≤ 1000 := by
  obtain ⟨b0, b1, hl, hall, hm⟩ := h
  have ha := allE_append.1 hall
  have he := (evB_iff _).1 (allE_one.1 ha.2)
  have h2 := ld_take ⟨b0, b1, hl, hall, hm⟩ es.length
  rw [List.take_left] at h2
  exact ⟨h2, he.1, he.2⟩
theorem sv_ask_same {b : Int} {es : List (Int × Int)} {p c : Int} (h : ldP b (es ++ [(p, c)])) : sv b (es ++ [(p, c)]) p - sv b es p = c := by
  obtain ⟨h1, hp, hc, _⟩ := ld_of_ask h
  rcases hp with rfl | ⟨p0, p1⟩
  · rw [sv_all h, sv_all h1, most_all h1.2.2.2.1 hc]; omega
  · rw [sv_at h p0 p1, sv_at h1 p0 p1, spent_ask, if_pos (.inr rfl)]; omega
theorem sv_ask_at {b : Int} {es : List (Int × Int)} {p c a : Int} (h : ldP b (es ++ [(p, c)])) (h0 : 0 ≤ a) (h1 : a < 4) :
    (sv b (es ++ [(p, c)]) a - sv b es a = 0 ∨ sv b (es ++ [(p, c)]) a - sv b es a = c) ∧ (0 ≤ p → a ≠ p → sv b (es ++ [(p, c)]) a - sv b es a = 0) := by
  obtain ⟨hl, hp, hc, _⟩ := ld_of_ask h
  rw [sv_at h h0 h1, sv_at hl h0 h1, spent_ask]
  split <;> omega
/-- A ledger whose sums are no greater is valid, too. -/
theorem ld_of_le {b : Int} {xs ys : List (Int × Int)} (h : ldP b xs) (hl : ys.length ≤ 40) (ha : allE ys) (hs : ∀ a, 0 ≤ a → a < 4 → spent ys a ≤ spent xs a) : ldP b ys := by
  obtain ⟨b0, b1, _, _, hm⟩ := h
  refine ⟨b0, b1, hl, ha, ?_⟩
  rw [most_le] at hm ⊢
  have s0 := hs 0 (by omega) (by omega)
  have s1 := hs 1 (by omega) (by omega)
  have s2 := hs 2 (by omega) (by omega)
  have s3 := hs 3 (by omega) (by omega)
  omega
theorem ld_ask_zero {b : Int} {es : List (Int × Int)} {p c : Int} (h : ldP b (es ++ [(p, c)])) : ldP b (es ++ [(p, 0)]) := by
  have ha := allE_append.1 h.2.2.2.1
  have he := (evB_iff _).1 (allE_one.1 ha.2)
  refine ld_of_le h (by have := h.2.2.1; simpa using this) (allE_append.2 ⟨ha.1, allE_one.2 ((evB_iff _).2 ⟨he.1, by simp, by simp⟩)⟩) fun a _ _ => ?_
  rw [spent_ask, spent_ask]
  have := he.2.1
  split <;> omega
theorem sv_ask_zero {b : Int} {es : List (Int × Int)} {p c : Int} (h : ldP b (es ++ [(p, c)])) : sv b (es ++ [(p, 0)]) p = sv b es p := by
  have := sv_ask_same (ld_ask_zero h); omega
theorem lv_ask {b : Int} {es : List (Int × Int)} {p c : Int} (h : ldP b (es ++ [(p, c)])) : lv b (es ++ [(p, c)]) p = lv b es p - c := by
  obtain ⟨hl, hp, _⟩ := ld_of_ask h
  rw [lv_t h hp, lv_t hl hp]
  have := sv_ask_same h; omega
theorem spent_swap2 (es : List (Int × Int)) (x y : Int × Int) (a : Int) : spent (es ++ [x] ++ [y]) a = spent (es ++ [y] ++ [x]) a := by
  simp only [spent_append]; omega
/-- Two questions have any order. -/
theorem ask_order {b : Int} {es : List (Int × Int)} {x y : Int × Int} (h : ldP b (es ++ [x] ++ [y])) : ldP b (es ++ [y]) ∧ ldP b (es ++ [y] ++ [x]) ∧ ∀ a, sv b (es ++ [x] ++ [y]) a = sv b (es ++ [y] ++ [x]) a := by
  have ha := allE_append.1 h.2.2.2.1
  have hb := allE_append.1 ha.1
  have h2 : ldP b (es ++ [y] ++ [x]) := ld_of_le h (by have := h.2.2.1; simpa using this) (allE_append.2 ⟨allE_append.2 ⟨hb.1, ha.2⟩, hb.2⟩) fun a _ _ => by rw [spent_swap2]; omega
  refine ⟨(ld_of_ask h2).1, h2, fun a => ?_⟩
  by_cases hp : partP a
  · rcases hp with rfl | ⟨h0, h1⟩
    · rw [sv_all h, sv_all h2, most_congr (fun a => spent_swap2 es x y a)]
    · rw [sv_at h h0 h1, sv_at h2 h0 h1, spent_swap2]
  · rw [sv_f (fun h => hp h.2), sv_f (fun h => hp h.2)]
/-- The areas asked one by one. -/
def askK (es : List (Int × Int)) (c : Int) : Nat → List (Int × Int)
  | 0 => es
  | k + 1 => askK es c k ++ [((k : Int), c)]
theorem askK_len (es : List (Int × Int)) (c : Int) (k : Nat) : (askK es c k).length = es.length + k := by
  induction k with
  | zero => rfl
  | succ k ih => simp only [askK, List.length_append, ih]; simp; omega
theorem askK_spent (es : List (Int × Int)) (c : Int) (k : Nat) (a : Int) : spent (askK es c k) a = spent es a + if 0 ≤ a ∧ a < (k : Int) then c else 0 := by
  induction k with
  | zero => simp only [askK]; rw [if_neg (by omega)]; omega
  | succ k ih =>
    simp only [askK]
    rw [spent_ask, ih]
    by_cases h1 : a = (k : Int)
    · subst h1
      rw [if_neg (by omega), if_pos (.inr rfl), if_pos (by omega)]; omega
    · rw [if_neg (c := (k : Int) = -1 ∨ (k : Int) = a) (by omega)]
      by_cases h2 : 0 ≤ a ∧ a < (k : Int)
      · rw [if_pos h2, if_pos (by omega)]; omega
      · rw [if_neg h2, if_neg (by omega)]; omega
theorem askK_ld {b : Int} {es : List (Int × Int)} {c : Int} (h : ldP b (es ++ [(-1, c)])) (hl : es.length + 4 ≤ 40) (k : Nat) (hk : k ≤ 4) : ldP b (askK es c k) := by
  obtain ⟨h1, _, hc, hc2⟩ := ld_of_ask h
  refine ld_of_le h (by rw [askK_len]; omega) ?_ fun a h0 h4 => ?_
  · clear hl
    induction k with
    | zero => exact h1.2.2.2.1
    | succ k ih => exact allE_append.2 ⟨ih (by omega), allE_one.2 ((evB_iff ((k : Int), c)).2 ⟨.inr ⟨by simp only; omega, by simp only; omega⟩, hc, hc2⟩)⟩
  · rw [askK_spent, spent_ask, if_pos (c := (-1 : Int) = -1 ∨ (-1 : Int) = a) (.inl rfl)]
    split <;> omega
theorem askK_sv {b : Int} {es : List (Int × Int)} {c : Int} (h : ldP b (es ++ [(-1, c)])) (hl : es.length + 4 ≤ 40) : sv b (askK es c 4) (-1) = sv b (es ++ [(-1, c)]) (-1) := by
  obtain ⟨h1, _, hc, hc2⟩ := ld_of_ask h
  rw [sv_all (askK_ld h hl 4 (by omega)), sv_all h]
  have k : ∀ a : Int, 0 ≤ a → a < 4 → spent (askK es c 4) a = spent (es ++ [(-1, c)]) a := fun a h0 h4 => by rw [askK_spent, spent_ask, if_pos (c := (-1 : Int) = -1 ∨ (-1 : Int) = a) (.inl rfl), if_pos ⟨h0, by omega⟩]
  unfold most
  rw [k 0 (by omega) (by omega), k 1 (by omega) (by omega), k 2 (by omega) (by omega), k 3 (by omega) (by omega)]
/-- What is left can be spent, and no more. -/
theorem left_ask {b : Int} {es : List (Int × Int)} {a : Int} (h : ldP b es) (ha : partP a) (hl : es.length < 40) : ldP b (es ++ [(a, lv b es a)]) := by
  have hsv := sv_bd h ha
  have hb := h.2.1
  rw [lv_t h ha]
  refine ⟨h.1, h.2.1, by simp; omega, allE_append.2 ⟨h.2.2.2.1, allE_one.2 ((evB_iff _).2 ⟨ha, by simp only; omega, by simp only; omega⟩)⟩, ?_⟩
  have hm := most_le.1 h.2.2.2.2
  rw [most_le]
  simp only [spent_ask]
  rcases ha with rfl | ⟨h0, h1⟩
  · rw [sv_all h] at hsv ⊢
    have := le_most es
    refine ⟨h.1, ?_, ?_, ?_, ?_⟩ <;> (rw [if_pos (.inl rfl)]; omega)
  · rw [sv_at h h0 h1] at hsv ⊢
    rcases four h0 h1 with rfl | rfl | rfl | rfl <;> simp <;> omega
theorem left_over {b : Int} {es : List (Int × Int)} {a : Int} (h : ldP b es) (ha : partP a) : ¬ ldP b (es ++ [(a, lv b es a + 1)]) := fun hn => by
  have h1 := sv_ask_same hn
  have h2 := sv_bd hn ha
  have h3 := lv_t h ha
  omega
theorem lv_bd {b : Int} {es : List (Int × Int)} {a : Int} (h : ldP b es) (ha : partP a) : 0 ≤ lv b es a ∧ lv b es a ≤ b := by
  rw [lv_t h ha]; have := sv_bd h ha; omega
theorem lv_rng (b : Int) (es : List (Int × Int)) (a : Int) : -1 ≤ lv b es a ∧ lv b es a ≤ 1000 := by
  by_cases h : ldP b es ∧ partP a
  · have := lv_bd h.1 h.2; have := h.1.2.1; omega
  · rw [lv_f h]; omega
theorem lv_none {b : Int} {a : Int} (h0 : 0 ≤ b) (h1 : b ≤ 1000) (ha : partP a) : lv b [] a = b := by
  have h : ldP b [] := ⟨h0, h1, by simp, allE_nil, by simp [most, spent]; omega⟩
  rw [lv_t h ha]
  rcases ha with rfl | ⟨a0, a1⟩
  · rw [sv_all h]; simp [most, spent]
  · rw [sv_at h a0 a1]; simp [spent]

/-! ### Joining -/
theorem ld_join_parts {b : Int} {xs ys : List (Int × Int)} (h : ldP b (xs ++ ys)) : allE xs ∧ allE ys := allE_append.1 h.2.2.2.1
theorem ld_swap {b : Int} {xs ys : List (Int × Int)} (h : ldP b (xs ++ ys)) : ldP b (ys ++ xs) :=
  ld_of_le h (by have := h.2.2.1; simp only [List.length_append] at this ⊢; omega) (allE_append.2 ⟨(allE_append.1 h.2.2.2.1).2, (allE_append.1 h.2.2.2.1).1⟩) fun a _ _ => by rw [spent_append, spent_append]; omega
theorem sv_swap {b : Int} {xs ys : List (Int × Int)} (h : ldP b (xs ++ ys)) (a : Int) : sv b (ys ++ xs) a = sv b (xs ++ ys) a := by
  have k : ∀ a, spent (ys ++ xs) a = spent (xs ++ ys) a := fun a => by rw [spent_append, spent_append]; omega
  by_cases hp : partP a
  · rcases hp with rfl | ⟨h0, h1⟩
    · rw [sv_all h, sv_all (ld_swap h), most_congr k]
    · rw [sv_at h h0 h1, sv_at (ld_swap h) h0 h1, k]
  · rw [sv_f (fun h => hp h.2), sv_f (fun h => hp h.2)]
theorem sv_join {b c d : Int} {xs ys : List (Int × Int)} (h : ldP b (xs ++ ys)) (hx : ldP c xs) (hy : ldP d ys) {a : Int} (h0 : 0 ≤ a) (h1 : a < 4) : sv b (xs ++ ys) a = sv c xs a + sv d ys a := by
  rw [sv_at h h0 h1, sv_at hx h0 h1, sv_at hy h0 h1, spent_append]
theorem sv_join_all {b c d : Int} {xs ys : List (Int × Int)} (h : ldP b (xs ++ ys)) (hx : ldP c xs) (hy : ldP d ys) : sv b (xs ++ ys) (-1) ≤ sv c xs (-1) + sv d ys (-1) := by
  rw [sv_all h, sv_all hx, sv_all hy]
  have h1 := le_most xs
  have h2 := le_most ys
  rw [most_le]
  simp only [spent_append]
  omega
end Go.Proofs.Ytllnmgadaodieaa
