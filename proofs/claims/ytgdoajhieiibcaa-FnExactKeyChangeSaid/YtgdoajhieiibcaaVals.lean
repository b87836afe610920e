/-
  Rows of integers as values: what a slice of slices holds, as a source for append; an owned row of such values read as rows.
-/
import Derived.Test.YtgdoajhieiibcaaOpen
namespace Go.Proofs.Ytgdoajhieiibcaa
open Go.RowKit

/-- The i-th cell of an owned row of single cells. -/
theorem own_v {w : World} {base : Nat} {t : TypeId} {D : Option Addr} {n c i : Nat} {vals : List Value} (h : w.ownsRow base t 1 (.slice D n c) n vals) (hi : i < n) :
    ∃ g, D = some ⟨g, 0, none⟩ ∧ ∃ u, vals[i]? = some u ∧ w.cell? ⟨g, i, none⟩ = some u := by
  have hl := h.1
  rcases h.2 with ⟨h', hn⟩ | ⟨g', cap, cur, h', _⟩
  · omega
  · injection h' with h1 h2 h3
    subst h1
    have hu : vals[i]? = some vals[i] := List.getElem?_eq_getElem (by omega)
    exact ⟨g', rfl, _, hu, by rw [h.cellAt i (by omega)]; exact hu⟩
theorem ints_on {w w' : World} {A : Option Addr} {xs : List Int} (h : Ints w w.heap.size A xs) (hb : Below w.heap.size w w') : Ints w' w'.heap.size A xs := (h.below hb).more hb.size
/-- What rows are as values. -/
def ValsR (w : World) (B : Nat) (vals : List Value) (rs : List (List Int)) : Prop :=
  vals.length = rs.length ∧ ∀ (i : Nat) (r : List Int), rs[i]? = some r → ∃ (Ai : Option Addr) (ci : Nat), vals[i]? = some (Value.slice Ai r.length ci) ∧ r.length ≤ ci ∧ ci ≤ maxLen ∧ Ints w B Ai r
theorem ValsR.nil (w : World) (B : Nat) : ValsR w B [] [] := ⟨rfl, fun i r hr => by simp at hr⟩
theorem ValsR.single {w : World} {B : Nat} {Ai : Option Addr} {ci : Nat} {r : List Int} (h1 : r.length ≤ ci) (h2 : ci ≤ maxLen) (h3 : Ints w B Ai r) : ValsR w B [.slice Ai r.length ci] [r] := ⟨rfl, fun i q hq => by
  match i, hq with
  | 0, hq =>
    simp only [List.getElem?_cons_zero, Option.some.injEq] at hq
    subst hq
    exact ⟨Ai, ci, rfl, h1, h2, h3⟩
  | i + 1, hq => simp at hq⟩
theorem ValsR.append {w : World} {B : Nat} {v1 v2 : List Value} {r1 r2 : List (List Int)} (h1 : ValsR w B v1 r1) (h2 : ValsR w B v2 r2) : ValsR w B (v1 ++ v2) (r1 ++ r2) := ⟨by simp [h1.1, h2.1], fun i q hq => by
  rcases Nat.lt_or_ge i r1.length with hi | hi
  · rw [List.getElem?_append_left hi] at hq
    obtain ⟨Bi, di, h3, h4⟩ := h1.2 i q hq
    exact ⟨Bi, di, by rw [List.getElem?_append_left (by rw [h1.1]; exact hi)]; exact h3, h4⟩
  · rw [List.getElem?_append_right hi] at hq
    obtain ⟨Bi, di, h3, h4⟩ := h2.2 _ q hq
    exact ⟨Bi, di, by rw [List.getElem?_append_right (by rw [h1.1]; exact hi), h1.1]; exact h3, h4⟩⟩
theorem ValsR.one {w : World} {B : Nat} {vals : List Value} {rs : List (List Int)} (h : ValsR w B vals rs) : ∀ u ∈ vals, u.oneCell' = true := by
  intro u hu
  obtain ⟨i, hi, rfl⟩ := List.getElem_of_mem hu
  have hl := h.1
  obtain ⟨Ai, ci, h1, _⟩ := h.2 i rs[i] (List.getElem?_eq_getElem (by omega))
  rw [List.getElem?_eq_getElem hi] at h1
  injection h1 with h1
  rw [h1]; rfl
theorem ValsR.on {w w' : World} {vals : List Value} {rs : List (List Int)} (h : ValsR w w.heap.size vals rs) (hb : Below w.heap.size w w') : ValsR w' w'.heap.size vals rs := ⟨h.1, fun i r hr => by
  obtain ⟨Ai, ci, h1, h2, h3, h4⟩ := h.2 i r hr
  exact ⟨Ai, ci, h1, h2, h3, ints_on h4 hb⟩⟩
theorem Rws.vals {w : World} {B : Nat} {D : Option Addr} {rs : List (List Int)} {n : Nat} (h : Rws w B D rs) (hl : rs.length = n) :
    ∃ vals : List Value, Src w 1 D n vals ∧ ValsR w B vals rs := by
  by_cases hn : 0 < n
  · obtain ⟨b, o, rfl, hb, hc⟩ := h (by omega)
    obtain ⟨vals, hvl, hat⟩ := list_make (P := fun (i : Nat) (v : Value) => w.cell? ⟨b, o + i, none⟩ = some v) n (fun i hi => by
      obtain ⟨Ai, ci, h1, _⟩ := hc i rs[i] (List.getElem?_eq_getElem (by omega))
      exact ⟨_, h1⟩)
    refine ⟨vals, ⟨by omega, fun _ => ⟨_, rfl, fun j u hj => ?_⟩⟩, by omega, fun i r hr => ?_⟩
    · rw [add_spot]; exact hat j u hj
    · obtain ⟨Ai, ci, h1, h2⟩ := hc i r hr
      have hi : i < vals.length := by have := lt_of_at hr; omega
      have hx : vals[i]? = some vals[i] := List.getElem?_eq_getElem hi
      have := hat i _ hx
      rw [h1] at this
      injection this with this
      exact ⟨Ai, ci, by rw [this]; exact hx, h2⟩
  · have h0 : rs = [] := List.eq_nil_of_length_eq_zero (by omega)
    subst h0
    exact ⟨[], ⟨by simpa using hl, fun hp => absurd hp hn⟩, rfl, fun i r hr => by simp at hr⟩
theorem ValsR.rws {w : World} {base : Nat} {t : TypeId} {D : Option Addr} {n c : Nat} {vals : List Value} {rs : List (List Int)} (h : ValsR w w.heap.size vals rs) (ho : w.ownsRow base t 1 (.slice D n c) n vals) : rs.length = n ∧ Rws w w.heap.size D rs := by
  have hn : rs.length = n := by have := ho.1; have := h.1; omega
  refine ⟨hn, fun hp => ?_⟩
  obtain ⟨g, rfl, u, hu, hc⟩ := own_v ho (i := 0) (by omega)
  refine ⟨g, 0, rfl, World.block_lt_of_cell? _ _ hc, fun i r hr => ?_⟩
  obtain ⟨Ai, ci, h1, h2⟩ := h.2 i r hr
  exact ⟨Ai, ci, by rw [Nat.zero_add, ho.cellAt i (by have := lt_of_at hr; omega)]; exact h1, h2⟩
/-- A block that has just been laid, as a source. -/
theorem src_block (W : World) (k : Nat) (hk : k = W.heap.size) (cs : Array Value) (t : TypeId) (n : Nat) (hn : cs.size = n) : Src (W.alloc (.cells cs t)) 1 (some ⟨k, 0, none⟩) n cs.toList := by
  subst hk
  refine ⟨by simp [hn], fun _ => ⟨_, rfl, fun j x hx => ?_⟩⟩
  rw [add_spot, cell_of_row _ W.heap.size _ _ _ _ (heap_alloc_new W _), Nat.zero_add]
  simpa using hx
theorem Src.below {w w' : World} {sz m : Nat} {A : Option Addr} {news : List Value} (h : Src w sz A m news) (hb : Below w.heap.size w w') : Src w' sz A m news := by
  refine ⟨h.1, fun hp => ?_⟩
  obtain ⟨ad, e, hc⟩ := h.2 hp
  exact ⟨ad, e, fun j u hj => by rw [hb.cell (World.block_lt_of_cell? w _ (hc j u hj))]; exact hc j u hj⟩
/-- A part of rows. -/
theorem Rws.take {w : World} {B : Nat} {D : Option Addr} {rs : List (List Int)} (h : Rws w B D rs) (k : Nat) : Rws w B D (rs.take k) := by
  intro hp
  rw [List.length_take] at hp
  obtain ⟨b, o, e, hb, hc⟩ := h (by omega)
  refine ⟨b, o, e, hb, fun i r hr => hc i r ?_⟩
  rw [List.getElem?_take] at hr
  split at hr
  · exact hr
  · cases hr
theorem Rws.drop {w : World} {B k m cap : Nat} {D : Option Addr} {rs : List (List Int)} (h : Rws w B D rs) (hm : rs.length = m) (hc : m ≤ cap) : Rws w B (if cap = k then D else D.map (·.add k)) (rs.drop k) := by
  intro hp
  rw [List.length_drop] at hp
  obtain ⟨b, o, rfl, hb, hx⟩ := h (by omega)
  rw [if_neg (by omega)]
  refine ⟨b, o + k, by simp only [Option.map_some, add_spot], hb, fun i r hr => ?_⟩
  rw [List.getElem?_drop] at hr
  rw [Nat.add_assoc]; exact hx _ r hr
end Go.Proofs.Ytgdoajhieiibcaa
