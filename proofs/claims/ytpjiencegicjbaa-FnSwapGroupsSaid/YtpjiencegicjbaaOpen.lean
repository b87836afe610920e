/-
  Arguments that came in, read as lists: a slice of structs of integers; a slice of slices of integers.
-/
import Derived.Test.YtpjiencegicjbaaRecs
import Derived.Deep.Slices
import Derived.Deep.Fields
import Derived.Deep.Matrix
import Derived.ChangeSame
namespace Go.Proofs.Ytpjiencegicjbaa
open Go.ChangeShapes Go.WideShapes Go.Deep Go.RowKit

theorem pick_list {α β : Type} {P : α → β → Prop} (xs : List α) (h : ∀ x ∈ xs, ∃ y, P x y) : ∃ ys : List β, ys.length = xs.length ∧ ∀ (i : Nat) (y : β), ys[i]? = some y → ∃ x, xs[i]? = some x ∧ P x y := by
  induction xs with
  | nil => exact ⟨[], rfl, fun i y hy => by simp at hy⟩
  | cons x xs ih =>
    obtain ⟨y, hy⟩ := h x (by simp)
    obtain ⟨ys, hl, hP⟩ := ih (fun z hz => h z (by simp [hz]))
    refine ⟨y :: ys, by simp [hl], fun i z hz => ?_⟩
    cases i with
    | zero => simp only [List.getElem?_cons_zero, Option.some.injEq] at hz; subst hz; exact ⟨x, rfl, hy⟩
    | succ i => simp only [List.getElem?_cons_succ] at hz ⊢; exact hP i z hz
theorem list_make {β : Type} {P : Nat → β → Prop} (n : Nat) (h : ∀ i, i < n → ∃ y, P i y) : ∃ ys : List β, ys.length = n ∧ ∀ (i : Nat) (y : β), ys[i]? = some y → P i y := by
  obtain ⟨ys, hl, hP⟩ := pick_list (P := P) (List.range n) (fun i hi => h i (List.mem_range.1 hi))
  rw [List.length_range] at hl
  refine ⟨ys, hl, fun i y hy => ?_⟩
  obtain ⟨x, hx, hp⟩ := hP i y hy
  have hi := lt_of_at hy
  rw [List.getElem?_range (by omega)] at hx
  injection hx with hx
  subst hx; exact hp
theorem add_at {a : Addr} {w : World} {u : Value} (h : w.cell? (a.add 0) = some u) : ∃ b o, a = ⟨b, o, none⟩ ∧ b < w.heap.size := by
  obtain ⟨b, o, s⟩ := a
  have hs : s = none := by simpa [Addr.add] using World.cell?_spot h
  subst hs
  rw [add_spot] at h
  exact ⟨b, o, rfl, World.block_lt_of_cell? w _ h⟩

/-- The integers of a struct as cells. -/
def zf (z : List Int) : List Value := z.map (Value.int .i64)
section
variable {H : Type} {enc : TypeId × Value → H} {P : Program} {w : World} {held : Bool}
theorem open_recs {t e : TypeId} {fs : Array Field} {fuel : Nat} {cs : List Value} {x : DataW H × List MemPlace} (ht : P.underlying t = some (.slice e)) (he : P.underlying e = some (.struct fs))
    (hone : oneCellFields P fs = true) (hC : P.cellsOf e = fs.size) (hpos : 0 < fs.size) (hint : ∀ (j : Nat) (f : Field), fs[j]? = some f → P.underlying f.type = some (.int .i64))
    (h : DataW.trod enc P w 0 (fun _ => true) held fuel t cs = some x) :
    ∃ (A : Option Addr) (len cap : Nat) (zs : List (List Int)), cs = [.slice A len cap] ∧ len ≤ cap ∧ cap ≤ maxLen ∧ zs.length = len ∧ (∀ z ∈ zs, z.length = fs.size) ∧ Recs zf fs.size w w.heap.size A zs := by
  rcases open_slice ht h with ⟨hcs, _⟩ | ⟨a, len, cap, m, n, D, Pl, hcs, _, hl, hm, hmm, _, hi⟩
  · exact ⟨none, 0, 0, [], hcs, Nat.le_refl _, by simp [maxLen], rfl, fun z hz => (by simp at hz), Recs.nil⟩
  · rw [hC] at hi
    simp only [if_true] at hmm
    have hmm' := hmm.symm
    subst hmm'
    have each : ∀ i, i < len → ∃ z : List Int, z.length = fs.size ∧ ∀ (j : Nat) (y : Int), z[j]? = some y → w.cell? (a.add (i * fs.size + j)) = some (.int .i64 y) := by
      intro i hil
      obtain ⟨cs', hc, ht'⟩ := hi i (by omega)
      obtain ⟨ys, n', _, _, hlen, hyl, hf⟩ := DataW.trod_struct he ht'
      obtain ⟨_, hcl, hat⟩ := World.cells?_some hc
      obtain ⟨z, hzl, hz⟩ := list_make (P := fun (j : Nat) (y : Int) => cs'[j]? = some (Value.int .i64 y)) fs.size (fun j hj => by
        have hfj : fs[j]? = some fs[j] := Array.getElem?_eq_getElem hj
        obtain ⟨ho, hk⟩ := hone_of hone j fs[j] hfj
        have h1 := hf j fs[j] hfj
        rw [ho, hk, List.drop_eq_getElem_cons (by omega)] at h1
        have hys : ys[j]? = some (ys[j]'(by omega)) := List.getElem?_eq_getElem (by omega)
        rw [hys] at h1
        obtain ⟨y, hy, _⟩ := DataW.trod_int (hint j fs[j] hfj) h1
        simp only [List.take_succ_cons, List.take_zero, List.cons.injEq, and_true] at hy
        exact ⟨y, by rw [List.getElem?_eq_getElem (by omega), hy]⟩)
      refine ⟨z, hzl, fun j y hy => ?_⟩
      have hj := lt_of_at hy
      have h2 := hat j (by omega)
      rw [← Go.Deep.add_add, h2]
      exact hz j y hy
    obtain ⟨zs, hzl, hz⟩ := list_make len each
    refine ⟨some a, len, cap, zs, hcs, hl, hm, hzl, fun z hzm => ?_, fun hp => ?_⟩
    · obtain ⟨i, hi', rfl⟩ := List.getElem_of_mem hzm
      exact (hz i _ (List.getElem?_eq_getElem hi')).1
    · have h0 : zs[0]? = some (zs[0]'hp) := List.getElem?_eq_getElem hp
      obtain ⟨g1, g2⟩ := hz 0 _ h0
      have g3 := g2 0 _ (List.getElem?_eq_getElem (by omega))
      rw [Nat.zero_mul, Nat.zero_add] at g3
      obtain ⟨b, o, rfl, hb⟩ := add_at g3
      refine ⟨b, o, rfl, hb, fun i z hzi j u hu => ?_⟩
      rw [zf, List.getElem?_map] at hu
      obtain ⟨y, hy, rfl⟩ := Option.map_eq_some_iff.1 hu
      have := (hz i z hzi).2 j y hy
      rw [add_spot, ← Nat.add_assoc] at this
      exact this
/-- Rows of integers that came in. -/
theorem open_rows {t e q : TypeId} {fuel : Nat} {cs : List Value} {x : DataW H × List MemPlace} (ht : P.underlying t = some (.slice e)) (he : P.underlying e = some (.slice q)) (hq : P.underlying q = some (.int .i64))
    (ce : P.cellsOf e = 1) (cq : P.cellsOf q = 1) (h : DataW.trod enc P w 0 (fun _ => true) held fuel t cs = some x) :
    ∃ (A : Option Addr) (len cap : Nat) (rs : List (List Int)), cs = [.slice A len cap] ∧ len ≤ cap ∧ cap ≤ maxLen ∧ rs.length = len ∧ Rws w w.heap.size A rs := by
  rcases open_int_rows ht he hq ce cq h with ⟨hcs, _⟩ | ⟨a, len, cap, A, L, C, Z, hcs, _, hl, hm, _, hr⟩
  · exact ⟨none, 0, 0, [], hcs, Nat.le_refl _, by simp [maxLen], rfl, Rws.nil _ _ _⟩
  · obtain ⟨rs, hrl, hrs⟩ := list_make (P := fun (i : Nat) (r : List Int) => r = (Z i).take (L i)) len (fun i _ => ⟨_, rfl⟩)
    refine ⟨some a, len, cap, rs, hcs, hl, hm, hrl, fun hp => ?_⟩
    obtain ⟨b, o, rfl, hb⟩ := add_at (hr 0 (by omega)).1
    refine ⟨b, o, rfl, hb, fun i r hri => ?_⟩
    have hil := lt_of_at hri
    obtain ⟨h1, h2, h3, h4, _, h6, h7⟩ := hr i (by omega)
    have e := hrs i r hri
    have el : r.length = L i := by rw [e, List.length_take]; omega
    rw [add_spot] at h1
    refine ⟨A i, C i, by rw [el]; exact h1, by omega, h3, fun hrp => ?_⟩
    rcases hA : A i with _ | a'
    · have := h6 hA; omega
    · obtain ⟨_, hc⟩ := h7 a' hA
      obtain ⟨b', o', rfl, hb'⟩ := add_at (hc 0 (by omega))
      refine ⟨b', o', rfl, hb', fun j y hy => ?_⟩
      have hj := lt_of_at hy
      rw [← add_spot, hc j (by omega)]
      rw [e, List.getElem?_take] at hy
      split at hy
      · rw [List.getD_eq_getElem?_getD, hy]; rfl
      · cases hy
end
/-- People that came in. -/
theorem Recs.map_of {α β : Type} {f : α → List Value} {g : β → List Value} {sz : Nat} {w : World} {B : Nat} {A : Option Addr} {xs : List α} (h : Recs f sz w B A xs) (c : α → β) (hc : ∀ x ∈ xs, g (c x) = f x) : Recs g sz w B A (xs.map c) := by
  intro hp
  rw [List.length_map] at hp
  obtain ⟨b, o, e, hb, hx⟩ := h hp
  refine ⟨b, o, e, hb, fun i y hy j u hu => ?_⟩
  rw [List.getElem?_map] at hy
  obtain ⟨x, hx', rfl⟩ := Option.map_eq_some_iff.1 hy
  rw [hc x (mem_of_at hx')] at hu
  exact hx i x hx' j u hu
end Go.Proofs.Ytpjiencegicjbaa
