/-
  Words for memory: a slice of records (each some cells), as a list; what keeps it; parts of it; a source for append.
-/
import Derived.Test.YtpjiencegicjbaaMem
import Derived.Test.YtpjiencegicjbaaAppend
namespace Go.Proofs.Ytpjiencegicjbaa
open Go.RowKit

/-- The cells of a list of records. -/
def flat {α : Type} (f : α → List Value) (xs : List α) : List Value := xs.flatMap f
theorem flat_nil {α : Type} (f : α → List Value) : flat f [] = [] := rfl
theorem flat_append {α : Type} (f : α → List Value) (xs ys : List α) : flat f (xs ++ ys) = flat f xs ++ flat f ys := by simp [flat]
theorem flat_one {α : Type} (f : α → List Value) (x : α) : flat f [x] = f x := by simp [flat]
theorem flat_len {α : Type} {f : α → List Value} {sz : Nat} (hf : ∀ x, (f x).length = sz) (xs : List α) : (flat f xs).length = xs.length * sz := by
  induction xs with
  | nil => simp [flat]
  | cons x xs ih => simp only [flat, List.flatMap_cons, List.length_append, List.length_cons, hf] at ih ⊢; rw [ih, Nat.succ_mul]; omega
theorem flat_at {α : Type} {f : α → List Value} {sz : Nat} (hf : ∀ x, (f x).length = sz) {xs : List α} {i : Nat} {x : α} (h : xs[i]? = some x) {j : Nat} (hj : j < sz) : (flat f xs)[i * sz + j]? = (f x)[j]? := by
  induction xs generalizing i with
  | nil => simp at h
  | cons y xs ih =>
    simp only [flat, List.flatMap_cons]
    cases i with
    | zero =>
      simp only [List.getElem?_cons_zero, Option.some.injEq] at h
      subst h
      rw [Nat.zero_mul, Nat.zero_add, List.getElem?_append_left (by rw [hf]; exact hj)]
    | succ i =>
      simp only [List.getElem?_cons_succ] at h
      rw [List.getElem?_append_right (by rw [hf, Nat.succ_mul]; omega), hf, show (i + 1) * sz + j - sz = i * sz + j by rw [Nat.succ_mul]; omega]
      exact ih h
/-- Which record a cell belongs to. -/
theorem flat_of {α : Type} {f : α → List Value} {sz : Nat} (hf : ∀ x, (f x).length = sz) {xs : List α} {k : Nat} {u : Value} (h : (flat f xs)[k]? = some u) : ∃ i j x, k = i * sz + j ∧ j < sz ∧ xs[i]? = some x ∧ (f x)[j]? = some u := by
  have hk := (List.getElem?_eq_some_iff.1 h).1
  rw [flat_len hf] at hk
  have hsz : 0 < sz := by rcases Nat.eq_zero_or_pos sz with h0 | h0; · subst h0; simp at hk
                          · exact h0
  have hi : k / sz < xs.length := Nat.div_lt_of_lt_mul (by rw [Nat.mul_comm]; exact hk)
  have hj : k % sz < sz := Nat.mod_lt _ hsz
  have e : k = k / sz * sz + k % sz := by rw [Nat.mul_comm]; exact (Nat.div_add_mod k sz).symm
  refine ⟨k / sz, k % sz, xs[k / sz], e, hj, List.getElem?_eq_getElem hi, ?_⟩
  rw [← flat_at hf (List.getElem?_eq_getElem hi) hj, ← e]; exact h
theorem flat_one_cell {α : Type} {f : α → List Value} (hf : ∀ x, ∀ u ∈ f x, u.oneCell' = true) (xs : List α) : ∀ u ∈ flat f xs, u.oneCell' = true := by
  intro u hu
  obtain ⟨x, _, hx⟩ := List.mem_flatMap.1 hu
  exact hf x u hx
theorem flat_take {α : Type} {f : α → List Value} {sz : Nat} (hf : ∀ x, (f x).length = sz) (xs : List α) (k : Nat) : (flat f xs).take (k * sz) = flat f (xs.take k) := by
  induction xs generalizing k with
  | nil => simp [flat]
  | cons x xs ih =>
    cases k with
    | zero => simp [flat]
    | succ k =>
      simp only [flat, List.flatMap_cons, List.take_succ_cons] at ih ⊢
      rw [List.take_append, hf, List.take_of_length_le (by rw [hf, Nat.succ_mul]; omega), show (k + 1) * sz - sz = k * sz by rw [Nat.succ_mul]; omega, ih]
theorem flat_drop {α : Type} {f : α → List Value} {sz : Nat} (hf : ∀ x, (f x).length = sz) (xs : List α) (k : Nat) : (flat f xs).drop (k * sz) = flat f (xs.drop k) := by
  induction xs generalizing k with
  | nil => simp [flat]
  | cons x xs ih =>
    cases k with
    | zero => simp [flat]
    | succ k =>
      simp only [flat, List.flatMap_cons, List.drop_succ_cons] at ih ⊢
      rw [List.drop_append, hf, List.drop_of_length_le (by rw [hf, Nat.succ_mul]; omega), show (k + 1) * sz - sz = k * sz by rw [Nat.succ_mul]; omega, ih]; simp

/-- The slice at A reads as the records xs, each of sz cells, in a block below B. -/
def Recs {α : Type} (f : α → List Value) (sz : Nat) (w : World) (B : Nat) (A : Option Addr) (xs : List α) : Prop :=
  0 < xs.length → ∃ b o, A = some ⟨b, o, none⟩ ∧ b < B ∧ ∀ i x, xs[i]? = some x → ∀ j u, (f x)[j]? = some u → w.cell? ⟨b, o + i * sz + j, none⟩ = some u
section
variable {α : Type} {f : α → List Value} {sz : Nat} {w w' : World} {B B' : Nat} {A : Option Addr} {xs : List α}
theorem Recs.nil : Recs f sz w B A [] := fun h => absurd h (by simp)
theorem Recs.get {k : Nat} (h : Recs f sz w B A xs) (hk : k < xs.length) : ∃ b o x, A = some ⟨b, o, none⟩ ∧ b < B ∧ xs[k]? = some x ∧ ∀ j u, (f x)[j]? = some u → w.cell? ⟨b, o + k * sz + j, none⟩ = some u := by
  obtain ⟨b, o, e, hb, hc⟩ := h (by omega)
  have hx : xs[k]? = some xs[k] := List.getElem?_eq_getElem hk
  exact ⟨b, o, xs[k], e, hb, hx, hc k _ hx⟩
theorem Recs.keep (h : Recs f sz w B A xs) (hk : ∀ p : Addr, p.block < B → w'.cell? p = w.cell? p) : Recs f sz w' B A xs := by
  intro hl
  obtain ⟨b, o, e, hb, hc⟩ := h hl
  exact ⟨b, o, e, hb, fun i x hx j u hu => (hk ⟨b, o + i * sz + j, none⟩ hb).trans (hc i x hx j u hu)⟩
theorem Recs.more (h : Recs f sz w B A xs) (hB : B ≤ B') : Recs f sz w B' A xs := by
  intro hl
  obtain ⟨b, o, e, hb, hc⟩ := h hl
  exact ⟨b, o, e, by omega, hc⟩
theorem Recs.below (h : Recs f sz w B A xs) (hb : Below B w w') : Recs f sz w' B A xs := h.keep fun _ hp => hb.cell hp
theorem Recs.on (h : Recs f sz w w.heap.size A xs) (hb : Below w.heap.size w w') : Recs f sz w' w'.heap.size A xs := (h.below hb).more hb.size
theorem Recs.alloc (h : Recs f sz w w.heap.size A xs) (o : Obj) : Recs f sz (w.alloc o) (w.alloc o).heap.size A xs :=
  h.on ((Below.refl w.heap.size w).alloc (Nat.le_refl _) o)
theorem Recs.take (h : Recs f sz w B A xs) (k : Nat) : Recs f sz w B A (xs.take k) := by
  intro hp
  rw [List.length_take] at hp
  obtain ⟨b, o, e, hb, hc⟩ := h (by omega)
  refine ⟨b, o, e, hb, fun i x hx => hc i x ?_⟩
  rw [List.getElem?_take] at hx
  split at hx
  · exact hx
  · cases hx
theorem Recs.src (h : Recs f sz w B A xs) (hf : ∀ x, (f x).length = sz) {m : Nat} (hm : xs.length = m) : Src w sz A m (flat f xs) := by
  refine ⟨by rw [flat_len hf, hm], fun hp => ?_⟩
  obtain ⟨b, o, e, _, hc⟩ := h (by omega)
  refine ⟨_, e, fun k u hk => ?_⟩
  obtain ⟨i, j, x, rfl, hj, hx, hu⟩ := flat_of hf hk
  rw [add_spot, ← Nat.add_assoc]
  exact hc i x hx j u hu
/-- A part from k on. -/
theorem Recs.src_drop (h : Recs f sz w B A xs) (hf : ∀ x, (f x).length = sz) {m k cap : Nat} (hm : xs.length = m) (hk : k ≤ m) (hc : m ≤ cap) : Src w sz (if cap = k then A else A.map (·.add (k * sz))) (m - k) (flat f (xs.drop k)) := by
  refine ⟨by rw [flat_len hf, List.length_drop, hm], fun hp => ?_⟩
  obtain ⟨b, o, rfl, _, hcell⟩ := h (by omega)
  rw [if_neg (by omega)]
  refine ⟨(⟨b, o, none⟩ : Addr).add (k * sz), rfl, fun t u ht => ?_⟩
  obtain ⟨i, j, x, rfl, hj, hx, hu⟩ := flat_of hf ht
  rw [List.getElem?_drop] at hx
  rw [add_spot, add_spot, show o + k * sz + (i * sz + j) = o + (k + i) * sz + j by rw [Nat.add_mul]; omega]
  exact hcell _ x hx j u hu
theorem Recs.of_own {base : Nat} {t : TypeId} {n c : Nat} (hf : ∀ x, (f x).length = sz) (h : w.ownsRow base t sz (.slice A n c) n (flat f xs)) (hsz : 0 < sz) : xs.length = n ∧ Recs f sz w w.heap.size A xs := by
  have hl := h.1
  rw [flat_len hf] at hl
  have hl := Nat.eq_of_mul_eq_mul_right hsz hl
  refine ⟨hl, fun hp => ?_⟩
  rcases h.2 with ⟨h', hn⟩ | ⟨g', cap, cur, h', _, hh, _⟩
  · omega
  · injection h' with h1 h2 h3
    subst h1 h3
    refine ⟨g', 0, rfl, (Array.getElem?_eq_some_iff.1 hh).1, fun i x hx j u hu => ?_⟩
    have hi := (List.getElem?_eq_some_iff.1 hx).1
    have hj : j < sz := by have := (List.getElem?_eq_some_iff.1 hu).1; rwa [hf] at this
    have hlt : i * sz + j < n * sz := by
      have : (i + 1) * sz ≤ n * sz := Nat.mul_le_mul_right _ (by omega)
      rw [Nat.succ_mul] at this; omega
    rw [Nat.zero_add, h.cellAt _ hlt, flat_at hf hx hj]; exact hu
end
theorem own_caps {w : World} {base sz : Nat} {t : TypeId} {D : Option Addr} {k c : Nat} {vals : List Value} (ho : w.ownsRow base t sz (.slice D k c) k vals) : k ≤ c ∧ c ≤ maxLen := by
  rcases ho.2 with ⟨h', hn⟩ | ⟨g', cap, cur, h', _, _, h1, h2, _⟩
  · injection h' with _ h1 h2
    subst h2
    exact ⟨by omega, by simp [maxLen]⟩
  · injection h' with _ _ h3
    subst h3
    exact ⟨h1, h2⟩
end Go.Proofs.Ytpjiencegicjbaa
