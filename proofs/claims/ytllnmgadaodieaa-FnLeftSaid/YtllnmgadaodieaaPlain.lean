/-
  Plain arithmetic of ledgers: what was spent on an area, on the area for which most was spent, validity, and the laws about them. No program in sight.
-/
import Derived.Below
namespace Go.Proofs.Ytllnmgadaodieaa

/-- What was spent on an area. -/
def spent : List (Int × Int) → Int → Int
  | [], _ => 0
  | e :: es, a => (if e.1 = -1 ∨ e.1 = a then e.2 else 0) + spent es a
theorem spent_nil (a : Int) : spent [] a = 0 := rfl
theorem spent_append (xs ys : List (Int × Int)) (a : Int) : spent (xs ++ ys) a = spent xs a + spent ys a := by
  induction xs with
  | nil => simp [spent]
  | cons e es ih => simp only [List.cons_append, spent, ih]; omega
theorem spent_one (e : Int × Int) (a : Int) : spent [e] a = if e.1 = -1 ∨ e.1 = a then e.2 else 0 := by simp [spent]
theorem spent_take (es : List (Int × Int)) (a : Int) (k : Nat) (h : k < es.length) : spent (es.take (k + 1)) a = spent (es.take k) a + if es[k].1 = -1 ∨ es[k].1 = a then es[k].2 else 0 := by
  rw [List.take_succ_eq_append_getElem h, spent_append, spent_one]

/-- What was spent on the area for which most was spent. -/
def most (es : List (Int × Int)) : Int := max (max (max (max 0 (spent es 0)) (spent es 1)) (spent es 2)) (spent es 3)
/-- The most of the first k areas. -/
def mostK (es : List (Int × Int)) : Nat → Int
  | 0 => 0
  | k + 1 => max (mostK es k) (spent es (k : Nat))
theorem mostK_four (es : List (Int × Int)) : mostK es 4 = most es := rfl

/-- An entry is valid. -/
def evB (e : Int × Int) : Bool := decide ((e.1 = -1 ∨ 0 ≤ e.1 ∧ e.1 < 4) ∧ 0 ≤ e.2 ∧ e.2 ≤ 1000)
theorem evB_iff (e : Int × Int) : evB e = true ↔ (e.1 = -1 ∨ 0 ≤ e.1 ∧ e.1 < 4) ∧ 0 ≤ e.2 ∧ e.2 ≤ 1000 := by simp [evB]
/-- All entries are valid. -/
def allE (es : List (Int × Int)) : Prop := ∀ e ∈ es, evB e = true
theorem allE_append {xs ys : List (Int × Int)} : allE (xs ++ ys) ↔ allE xs ∧ allE ys := by
  simp only [allE, List.mem_append]
  exact ⟨fun h => ⟨fun e he => h e (.inl he), fun e he => h e (.inr he)⟩, fun h e he => he.elim (h.1 e) (h.2 e)⟩
theorem allE_nil : allE [] := by simp [allE]
theorem allE_take {es : List (Int × Int)} (h : allE es) (k : Nat) : allE (es.take k) := fun e he => h e (List.mem_of_mem_take he)
theorem allE_drop {es : List (Int × Int)} (h : allE es) (k : Nat) : allE (es.drop k) := fun e he => h e (List.mem_of_mem_drop he)
theorem allE_one {e : Int × Int} : allE [e] ↔ evB e = true := by simp [allE]

theorem spent_bd {es : List (Int × Int)} (h : allE es) (a : Int) : 0 ≤ spent es a ∧ spent es a ≤ 1000 * es.length := by
  induction es with
  | nil => simp [spent]
  | cons e es ih =>
    have he := (evB_iff e).1 (h e (by simp))
    have ih := ih (fun x hx => h x (by simp [hx]))
    simp only [spent, List.length_cons]
    split <;> omega
theorem spent_split (es : List (Int × Int)) (a : Int) (k : Nat) : spent (es.take k) a + spent (es.drop k) a = spent es a := by
  rw [← spent_append, List.take_append_drop]
theorem spent_take_le {es : List (Int × Int)} (h : allE es) (a : Int) (k : Nat) : spent (es.take k) a ≤ spent es a := by
  have := spent_split es a k
  have := spent_bd (allE_drop h k) a
  omega
theorem most_le {es : List (Int × Int)} {b : Int} : most es ≤ b ↔ 0 ≤ b ∧ spent es 0 ≤ b ∧ spent es 1 ≤ b ∧ spent es 2 ≤ b ∧ spent es 3 ≤ b := by
  unfold most; omega
theorem le_most (es : List (Int × Int)) : 0 ≤ most es ∧ spent es 0 ≤ most es ∧ spent es 1 ≤ most es ∧ spent es 2 ≤ most es ∧ spent es 3 ≤ most es := by
  unfold most; omega
theorem le_most_at (es : List (Int × Int)) {a : Int} (h0 : 0 ≤ a) (h1 : a < 4) : spent es a ≤ most es := by
  have := le_most es
  have : a = 0 ∨ a = 1 ∨ a = 2 ∨ a = 3 := by omega
  rcases this with rfl | rfl | rfl | rfl <;> omega
theorem most_bd {es : List (Int × Int)} (h : allE es) : 0 ≤ most es ∧ most es ≤ 1000 * es.length := by
  have h0 := spent_bd h 0
  have h1 := spent_bd h 1
  have h2 := spent_bd h 2
  have h3 := spent_bd h 3
  unfold most; omega
theorem mostK_bd {es : List (Int × Int)} (h : allE es) (k : Nat) : 0 ≤ mostK es k ∧ mostK es k ≤ 1000 * es.length := by
  induction k with
  | zero => simp [mostK]; omega
  | succ k ih =>
    have := spent_bd h (k : Nat)
    simp only [mostK]; omega

/-- A ledger is valid. -/
def ldP (b : Int) (es : List (Int × Int)) : Prop := 0 ≤ b ∧ b ≤ 1000 ∧ es.length ≤ 40 ∧ allE es ∧ most es ≤ b
/-- A ledger is valid, as a Bool. -/
def ldB (b : Int) (es : List (Int × Int)) : Bool := decide (0 ≤ b ∧ b ≤ 1000) && decide (es.length ≤ 40) && es.all evB && decide (most es ≤ b)
theorem ldB_iff {b : Int} {es : List (Int × Int)} : ldB b es = true ↔ ldP b es := by
  simp only [ldB, ldP, allE, Bool.and_eq_true, decide_eq_true_eq, List.all_eq_true, and_assoc]
theorem ldB_t {b : Int} {es : List (Int × Int)} (h : ldP b es) : ldB b es = true := ldB_iff.2 h
theorem ldB_f {b : Int} {es : List (Int × Int)} (h : ¬ ldP b es) : ldB b es = false := by
  rw [← Bool.not_eq_true, ldB_iff]; exact h

/-- A number is a part. -/
def partP (a : Int) : Prop := a = -1 ∨ 0 ≤ a ∧ a < 4
def partB (a : Int) : Bool := decide (a = -1 ∨ 0 ≤ a ∧ a < 4)
theorem partB_iff {a : Int} : partB a = true ↔ partP a := by simp [partB, partP]
theorem partB_t {a : Int} (h : partP a) : partB a = true := partB_iff.2 h
theorem partB_f {a : Int} (h : ¬ partP a) : partB a = false := by rw [← Bool.not_eq_true, partB_iff]; exact h
theorem okB_iff {b : Int} {es : List (Int × Int)} {a : Int} : (ldB b es && partB a) = true ↔ ldP b es ∧ partP a := by rw [Bool.and_eq_true, ldB_iff, partB_iff]
/-- What LedgerSpent returns. -/
def sv (b : Int) (es : List (Int × Int)) (a : Int) : Int :=
  if (ldB b es && partB a) = true then (if a = -1 then most es else spent es a) else -1
theorem sv_f {b : Int} {es : List (Int × Int)} {a : Int} (h : ¬ (ldP b es ∧ partP a)) : sv b es a = -1 := by unfold sv; rw [if_neg (fun h' => h (okB_iff.1 h'))]
theorem sv_all {b : Int} {es : List (Int × Int)} (h : ldP b es) : sv b es (-1) = most es := by unfold sv; rw [if_pos (okB_iff.2 ⟨h, .inl rfl⟩), if_pos rfl]
theorem sv_at {b : Int} {es : List (Int × Int)} {a : Int} (h : ldP b es) (h0 : 0 ≤ a) (h1 : a < 4) : sv b es a = spent es a := by
  unfold sv; rw [if_pos (okB_iff.2 ⟨h, .inr ⟨h0, h1⟩⟩), if_neg (by omega)]
theorem sv_bd {b : Int} {es : List (Int × Int)} {a : Int} (h : ldP b es) (ha : partP a) : 0 ≤ sv b es a ∧ sv b es a ≤ b := by
  obtain ⟨b0, b1, hl, hall, hm⟩ := h
  rcases ha with rfl | ⟨h0, h1⟩
  · rw [sv_all ⟨b0, b1, hl, hall, hm⟩]; have := most_bd hall; omega
  · rw [sv_at ⟨b0, b1, hl, hall, hm⟩ h0 h1]; have := spent_bd hall a; have := le_most_at es h0 h1; omega
theorem sv_rng (b : Int) (es : List (Int × Int)) (a : Int) : -1 ≤ sv b es a ∧ sv b es a ≤ 1000 := by
  by_cases h : ldP b es ∧ partP a
  · have := sv_bd h.1 h.2; have := h.1.2.1; omega
  · rw [sv_f h]; omega
/-- What LedgerLeft returns. -/
def lv (b : Int) (es : List (Int × Int)) (a : Int) : Int := if (ldB b es && partB a) = true then b - sv b es a else -1
theorem lv_t {b : Int} {es : List (Int × Int)} {a : Int} (h : ldP b es) (ha : partP a) : lv b es a = b - sv b es a := by unfold lv; rw [if_pos (okB_iff.2 ⟨h, ha⟩)]
theorem lv_f {b : Int} {es : List (Int × Int)} {a : Int} (h : ¬ (ldP b es ∧ partP a)) : lv b es a = -1 := by unfold lv; rw [if_neg (fun h' => h (okB_iff.1 h'))]

/-! ### The laws -/
theorem ld_take {b : Int} {es : List (Int × Int)} (h : ldP b es) (k : Nat) : ldP b (es.take k) := by
  obtain ⟨b0, b1, hl, hall, hm⟩ := h
  refine ⟨b0, b1, by rw [List.length_take]; omega, allE_take hall k, ?_⟩
  rw [most_le] at hm ⊢
  have h0 := spent_take_le hall 0 k
  have h1 := spent_take_le hall 1 k
  have h2 := spent_take_le hall 2 k
  have h3 := spent_take_le hall 3 k
  omega
theorem ld_max {b : Int} {es : List (Int × Int)} (h : ldP b es) : ldP 1000 es := ⟨by omega, by omega, h.2.2.1, h.2.2.2.1, by have := h.2.1; have := h.2.2.2.2; omega⟩
theorem ld_less {es : List (Int × Int)} : ¬ ldP (most es - 1) es := fun h => by have := h.2.2.2.2; omega
theorem spent_turn (es : List (Int × Int)) (k : Nat) (a : Int) : spent (es.drop k ++ es.take k) a = spent es a := by
  rw [spent_append, ← spent_split es a k]; omega
theorem most_congr {xs ys : List (Int × Int)} (h : ∀ a, spent xs a = spent ys a) : most xs = most ys := by simp only [most, h]
theorem ld_turn {b : Int} {es : List (Int × Int)} (h : ldP b es) (k : Nat) : ldP b (es.drop k ++ es.take k) := by
  obtain ⟨b0, b1, hl, hall, hm⟩ := h
  refine ⟨b0, b1, by simp only [List.length_append, List.length_drop, List.length_take]; omega, allE_append.2 ⟨allE_drop hall k, allE_take hall k⟩, ?_⟩
  rw [most_congr (spent_turn es k)]; exact hm
theorem sv_turn {b : Int} {es : List (Int × Int)} (h : ldP b es) (k : Nat) (a : Int) : sv b (es.drop k ++ es.take k) a = sv b es a := by
  by_cases ha : partP a
  · rcases ha with rfl | ⟨h0, h1⟩
    · rw [sv_all h, sv_all (ld_turn h k), most_congr (spent_turn es k)]
    · rw [sv_at h h0 h1, sv_at (ld_turn h k) h0 h1, spent_turn]
  · rw [sv_f (fun h => ha h.2), sv_f (fun h => ha h.2)]
end Go.Proofs.Ytllnmgadaodieaa
