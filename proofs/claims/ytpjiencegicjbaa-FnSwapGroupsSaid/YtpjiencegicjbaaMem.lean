/-
  Words for memory: a slice that reads as a list of integers, a slice of such slices; what keeps them.
-/
import Derived.Test.YtpjiencegicjbaaRows
import Derived.WalkKit
import Derived.WalkSpells
import Derived.WalkLawsBesides
import Derived.Lib.Hide
import Derived.BigQuiet
import Derived.Deep.QuietTactic
import Derived.Deep.Draws
import Derived.OpenShut
namespace Go.Proofs.Ytpjiencegicjbaa
open Go.RowKit

theorem ret_int {k : IntKind} {a b : Int} (h : a = b) : Ending.returned (.int k a) = .returned (.int k b) := by rw [h]
theorem ret_bool {a b : Bool} (h : a = b) : Ending.returned (.bool a) = .returned (.bool b) := by rw [h]

/-- The slice at A reads as the integers xs, in a block below B. -/
def Ints (w : World) (B : Nat) (A : Option Addr) (xs : List Int) : Prop :=
  0 < xs.length → ∃ b o, A = some ⟨b, o, none⟩ ∧ b < B ∧ ∀ i x, xs[i]? = some x → w.cell? ⟨b, o + i, none⟩ = some (.int .i64 x)
theorem Ints.at_ {w : World} {B : Nat} {A : Option Addr} {xs : List Int} {k : Nat} (h : Ints w B A xs) (hk : k < xs.length) :
    ∃ b o x, A = some ⟨b, o, none⟩ ∧ b < B ∧ Hid (xs[k]? = some x) ∧ w.cell? ⟨b, o + k, none⟩ = some (.int .i64 x) := by
  obtain ⟨b, o, e, hb, hc⟩ := h (by omega)
  have hx : xs[k]? = some xs[k] := List.getElem?_eq_getElem hk
  exact ⟨b, o, xs[k], e, hb, hx, hc k _ hx⟩
theorem Ints.nil (w : World) (B : Nat) (A : Option Addr) : Ints w B A [] := fun h => absurd h (by simp)
theorem Ints.keep {w w' : World} {B : Nat} {A : Option Addr} {xs : List Int} (h : Ints w B A xs) (hk : ∀ p : Addr, p.block < B → w'.cell? p = w.cell? p) : Ints w' B A xs := by
  intro hl
  obtain ⟨b, o, e, hb, hc⟩ := h hl
  exact ⟨b, o, e, hb, fun i x hx => (hk ⟨b, o + i, none⟩ hb).trans (hc i x hx)⟩
theorem Ints.more {w : World} {B B' : Nat} {A : Option Addr} {xs : List Int} (h : Ints w B A xs) (hB : B ≤ B') : Ints w B' A xs := by
  intro hl
  obtain ⟨b, o, e, hb, hc⟩ := h hl
  exact ⟨b, o, e, by omega, hc⟩
theorem Ints.below {w w' : World} {B : Nat} {A : Option Addr} {xs : List Int} (h : Ints w B A xs) (hb : Below B w w') : Ints w' B A xs := h.keep fun _ hp => hb.cell hp

/-- The slice at A reads as the rows rs, all of it in blocks below B. -/
def Rws (w : World) (B : Nat) (A : Option Addr) (rs : List (List Int)) : Prop :=
  0 < rs.length → ∃ b o, A = some ⟨b, o, none⟩ ∧ b < B ∧ ∀ i r, rs[i]? = some r → ∃ Ai ci, w.cell? ⟨b, o + i, none⟩ = some (.slice Ai r.length ci) ∧ r.length ≤ ci ∧ ci ≤ maxLen ∧ Ints w B Ai r
theorem Rws.at_ {w : World} {B : Nat} {A : Option Addr} {rs : List (List Int)} {k : Nat} (h : Rws w B A rs) (hk : k < rs.length) :
    ∃ b o r Ai ci, A = some ⟨b, o, none⟩ ∧ b < B ∧ Hid (rs[k]? = some r) ∧ w.cell? ⟨b, o + k, none⟩ = some (.slice Ai r.length ci) ∧ r.length ≤ ci ∧ ci ≤ maxLen ∧ Ints w B Ai r := by
  obtain ⟨b, o, e, hb, hc⟩ := h (by omega)
  have hx : rs[k]? = some rs[k] := List.getElem?_eq_getElem hk
  obtain ⟨Ai, ci, h1, h2, h3, h4⟩ := hc k _ hx
  exact ⟨b, o, rs[k], Ai, ci, e, hb, hx, h1, h2, h3, h4⟩
theorem Rws.nil (w : World) (B : Nat) (A : Option Addr) : Rws w B A [] := fun h => absurd h (by simp)
theorem Rws.keep {w w' : World} {B : Nat} {A : Option Addr} {rs : List (List Int)} (h : Rws w B A rs) (hk : ∀ p : Addr, p.block < B → w'.cell? p = w.cell? p) : Rws w' B A rs := by
  intro hl
  obtain ⟨b, o, e, hb, hc⟩ := h hl
  refine ⟨b, o, e, hb, fun i r hr => ?_⟩
  obtain ⟨Ai, ci, h1, h2, h3, h4⟩ := hc i r hr
  exact ⟨Ai, ci, (hk ⟨b, o + i, none⟩ hb).trans h1, h2, h3, h4.keep hk⟩
theorem Rws.more {w : World} {B B' : Nat} {A : Option Addr} {rs : List (List Int)} (h : Rws w B A rs) (hB : B ≤ B') : Rws w B' A rs := by
  intro hl
  obtain ⟨b, o, e, hb, hc⟩ := h hl
  refine ⟨b, o, e, by omega, fun i r hr => ?_⟩
  obtain ⟨Ai, ci, h1, h2, h3, h4⟩ := hc i r hr
  exact ⟨Ai, ci, h1, h2, h3, h4.more hB⟩
theorem Rws.below {w w' : World} {B : Nat} {A : Option Addr} {rs : List (List Int)} (h : Rws w B A rs) (hb : Below B w w') : Rws w' B A rs := h.keep fun _ hp => hb.cell hp

theorem take_next {α : Type} {xs : List α} {k : Nat} {x : α} (h : xs[k]? = some x) : xs.take (k + 1) = xs.take k ++ [x] := by
  obtain ⟨hk, rfl⟩ := List.getElem?_eq_some_iff.1 h
  exact List.take_succ_eq_append_getElem hk
theorem mem_of_at {α : Type} {xs : List α} {k : Nat} {x : α} (h : xs[k]? = some x) : x ∈ xs := List.mem_of_getElem? h
theorem lt_of_at {α : Type} {xs : List α} {k : Nat} {x : α} (h : xs[k]? = some x) : k < xs.length := (List.getElem?_eq_some_iff.1 h).1
theorem len_max {n : Nat} (h : n ≤ maxLen) : n ≤ 9223372036854775807 := by simpa [maxLen] using h
end Go.Proofs.Ytpjiencegicjbaa
