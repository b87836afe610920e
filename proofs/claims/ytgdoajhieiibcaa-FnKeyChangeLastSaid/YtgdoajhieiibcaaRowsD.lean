/-
  Tables of changes that are drawn out of a code: l93Rows returns rows of its own; of what was there only the reader turns.
-/
import Derived.Test.YtgdoajhieiibcaaKeys
namespace Go.Proofs.Ytgdoajhieiibcaa
open Go.RowKit

theorem sl_info : (Try.prog.info? 23).map (fun i => (i.zero, i.size, i.bytes)) = some (some (.slice none 0 0), 1, 24) := by kernel_rfl

/-- Block b holds n integers. -/
def IB (w : World) (b n : Nat) : Prop := ∃ arr : Array Value, w.heap[b]? = some (.cells arr 3 (0, 0)) ∧ arr.size = n ∧ ∀ i, i < n → ∃ x : Int, arr[i]? = some (.int .i64 x)
theorem IB.cell {w : World} {b n i : Nat} (h : IB w b n) (hi : i < n) : ∃ x : Int, w.cell? ⟨b, i, none⟩ = some (.int .i64 x) := by
  obtain ⟨arr, h1, h2, h3⟩ := h
  obtain ⟨x, hx⟩ := h3 i hi
  exact ⟨x, by rw [cell_of_row w b i arr _ _ h1]; exact hx⟩
theorem IB.frozen {w : World} {b n : Nat} (h : IB w b n) (i : Nat) : w.frozen? ⟨b, i, none⟩ = false := by
  obtain ⟨arr, h1, _⟩ := h
  exact frozen_cells h1 i
theorem IB.lt {w : World} {b n : Nat} (h : IB w b n) : b < w.heap.size := by
  obtain ⟨arr, h1, _⟩ := h
  exact (Array.getElem?_eq_some_iff.1 h1).1
theorem IB.keep {w w' : World} {b n : Nat} (h : IB w b n) (e : w'.heap[b]? = w.heap[b]?) : IB w' b n := by
  obtain ⟨arr, h1, h2⟩ := h
  exact ⟨arr, e.trans h1, h2⟩
theorem IB.grown {w w' : World} {b n : Nat} {row : Option Nat} (h : IB w b n) (hg : w.grownBy w' row) (hne : row ≠ some b) : IB w' b n :=
  h.keep (hg.block b h.lt (fun e => hne e.symm))
theorem IB.alloc {w : World} {b n : Nat} (h : IB w b n) (o : Obj) : IB (w.alloc o) b n := h.grown (World.grownBy_alloc w o none) (by simp)
theorem IB.store {w : World} {b n b' i : Nat} (h : IB w b n) (x : Int) : IB (w.setCell ⟨b', i, none⟩ (.int .i64 x)) b n := by
  by_cases hb : b = b'
  · subst hb
    obtain ⟨arr, h1, h2, h3⟩ := h
    refine ⟨arr.setIfInBounds i (.int .i64 x), heap_setCell_same w b i arr _ _ h1, by simpa using h2, fun j hj => ?_⟩
    by_cases hij : i = j
    · subst hij
      exact ⟨x, by simp [h2, hj]⟩
    · obtain ⟨y, hy⟩ := h3 j hj
      exact ⟨y, by rw [Array.getElem?_setIfInBounds_ne hij]; exact hy⟩
  · exact h.keep (Below.heap_setCell w _ _ b hb)
/-- A row's value. -/
def RowV (w : World) (base : Nat) (v : Value) : Prop := ∃ b, v = .slice (some ⟨b, 0, none⟩) 16 16 ∧ base ≤ b ∧ IB w b 16

/-- Blocks of integers and blocks of slices differ. -/
theorem ib_ne {w : World} {base n m b : Nat} {v : Value} {xs : List Value} (h : w.ownsRow base 23 1 v n xs) (hb : IB w b m) : v.ownBlock ≠ some b := by
  rcases h.2 with ⟨rfl, _⟩ | ⟨g', cap, cur, rfl, _, hh, _⟩
  · simp [Value.ownBlock]
  · intro he
    have e : g' = b := by simpa [Value.ownBlock] using he
    subst e
    obtain ⟨arr, h1, _⟩ := hb
    rw [h1] at hh
    injection hh with hh
    injection hh with _ ht
    exact absurd ht (by decide)

/-- The table so far: k rows of its own, the reader, and what was there. -/
structure Out (g : Nat) (A : Option Addr) (len cap : Nat) (w wr : World) (M : Nat) (v : Value) (k : Nat) : Prop where
  own : ∃ vals, wr.ownsRow w.heap.size 23 1 v k vals ∧ ∀ u ∈ vals, RowV wr w.heap.size u
  rd : Rd wr g A len cap M
  kp : w.grownBy wr (some g)
theorem Out.more {g : Nat} {A : Option Addr} {len cap : Nat} {w wr : World} {M M' : Nat} {v : Value} {k : Nat} (h : Out g A len cap w wr M v k) (hM : M ≤ M') : Out g A len cap w wr M' v k := ⟨h.own, h.rd.more hM, h.kp⟩
theorem Out.alloc {g : Nat} {A : Option Addr} {len cap : Nat} {w wr : World} {M : Nat} {v : Value} {k : Nat} (h : Out g A len cap w wr M v k) (o : Obj) : Out g A len cap w (wr.alloc o) M v k := by
  obtain ⟨vals, h1, h2⟩ := h.own
  refine ⟨⟨vals, h1.alloc o, fun u hu => ?_⟩, h.rd.alloc o, kp_alloc h.kp o⟩
  obtain ⟨b, e, hb, hi⟩ := h2 u hu
  exact ⟨b, e, hb, hi.alloc o⟩
theorem Out.pick {g : Nat} {A : Option Addr} {len cap : Nat} {w wr w' : World} {M M' : Nat} {v : Value} {k : Nat} (h : Out g A len cap w wr M v k) (hgw : g < w.heap.size) (hr : Rd w' g A len cap M') (hg : wr.grownBy w' (some g)) : Out g A len cap w w' M' v k := by
  obtain ⟨vals, h1, h2⟩ := h.own
  refine ⟨⟨vals, h1.kept hg (own_row_block h1 hgw), fun u hu => ?_⟩, hr, kp_step h.kp hg (fun b e => .inl (by injection e with e; exact e.symm))⟩
  obtain ⟨b, e, hb, hi⟩ := h2 u hu
  exact ⟨b, e, hb, hi.grown hg (by intro e'; injection e' with e'; omega)⟩
theorem Out.store {g : Nat} {A : Option Addr} {len cap : Nat} {w wr : World} {M : Nat} {v : Value} {k b n i : Nat} (h : Out g A len cap w wr M v k) (hgw : g < w.heap.size) (hb : IB wr b n) (hwb : w.heap.size ≤ b) (x : Int) : Out g A len cap w (wr.setCell ⟨b, i, none⟩ (.int .i64 x)) M v k := by
  obtain ⟨vals, h1, h2⟩ := h.own
  have hg : wr.grownBy (wr.setCell ⟨b, i, none⟩ (.int .i64 x)) (some b) := ⟨rfl, rfl, rfl, by simp [World.setCell], fun j _ hne => Below.heap_setCell wr _ _ j (fun e => hne (by rw [e]))⟩
  refine ⟨⟨vals, h1.kept hg (.inr (ib_ne h1 hb)), fun u hu => ?_⟩, h.rd.setCell (by show g < b; omega) _, kp_step h.kp hg (fun c e => .inr (by injection e with e; omega))⟩
  obtain ⟨c, e, hc, hi⟩ := h2 u hu
  exact ⟨c, e, hc, hi.store x⟩

/-- What l93Rows leaves: rows of its own, each in a block of its own. -/
def RowsQ (g : Nat) (A : Option Addr) (len cap M : Nat) (w : World) (e : Ending) (w' : World) : Prop :=
  ∃ (D : Option Addr) (n c : Nat) (rs : List (List Int)), e = .returned (.slice D n c) ∧ n ≤ 8 ∧ n ≤ c ∧ c ≤ maxLen ∧ rs.length = n ∧ (∀ w'', w'.grownBy w'' (some g) → Rws w'' w''.heap.size D rs) ∧ Rd w' g A len cap (M + 100) ∧ w.grownBy w' (some g)

/-- Sixteen noughts. -/
def Z16 : Array Value := Array.replicate 16 (.int .i64 0)
theorem make16 (w : World) : (Instr.makeSlice 23 (.int .i64 16) (.int .i64 16)).run Try.prog w = .ok (.slice (some ⟨w.heap.size, 0, none⟩) 16 16) (w.alloc (.cells Z16 3)) := by kernel_rfl
theorem ib_made (w : World) : IB (w.alloc (.cells Z16 3)) w.heap.size 16 := by
  refine ⟨Z16, heap_alloc_new w _, by simp [Z16], fun i hi => ⟨0, ?_⟩⟩
  simp [Z16, hi]
theorem oneCell_sl (D : Option Addr) (n c : Nat) : ∀ u ∈ [Value.slice D n c], u.oneCell' = true := by intro u hu; rw [List.mem_singleton] at hu; subst hu; rfl
theorem Out.push {g : Nat} {A : Option Addr} {len cap : Nat} {w wr w' : World} {M : Nat} {v v' : Value} {k b : Nat} {vals : List Value} {o : Obj} (h : Out g A len cap w wr M v k) (hgw : g < w.heap.size) (hv : ∀ u ∈ vals, RowV wr w.heap.size u) (ho : wr.ownsRow w.heap.size 23 1 v k vals) (hb : IB wr b 16) (hwb : w.heap.size ≤ b)
    (hown : w'.ownsRow w.heap.size 23 1 v' (k + 1) (vals ++ [.slice (some ⟨b, 0, none⟩) 16 16])) (hg : (wr.alloc o).grownBy w' v.ownBlock) : Out g A len cap w w' M v' (k + 1) := by
  have hlo := fun c e => (ho.lt c e).1
  refine ⟨⟨_, hown, fun u hu => ?_⟩, (h.rd.alloc o).grown hg (fun c e => by have := hlo c e; omega), kp_step (kp_alloc h.kp o) hg (fun c e => .inr (hlo c e))⟩
  rw [List.mem_append, List.mem_singleton] at hu
  rcases hu with hu | rfl
  · obtain ⟨c, e, hc, hi⟩ := hv u hu
    exact ⟨c, e, hc, (hi.alloc o).grown hg (ib_ne ho hi)⟩
  · exact ⟨b, rfl, hwb, (hb.alloc o).grown hg (ib_ne ho hb)⟩

/-- The i-th cell of an owned row. -/
theorem own_at {w : World} {base : Nat} {t : TypeId} {D : Option Addr} {n c i : Nat} {vals : List Value} (h : w.ownsRow base t 1 (.slice D n c) n vals) (hi : i < n) :
    ∃ g, D = some ⟨g, 0, none⟩ ∧ ∃ u, vals[i]? = some u ∧ w.cell? ⟨g, i, none⟩ = some u := by
  have hl := h.1
  rcases h.2 with ⟨h', hn⟩ | ⟨g', cap, cur, h', _⟩
  · omega
  · injection h' with h1 h2 h3
    subst h1
    have hu : vals[i]? = some vals[i] := List.getElem?_eq_getElem (by omega)
    exact ⟨g', rfl, _, hu, by rw [h.cellAt i (by omega)]; exact hu⟩
/-- A row's value reads as some integers. -/
def RowR (w : World) (u : Value) (r : List Int) : Prop := ∃ Ai ci, u = .slice Ai r.length ci ∧ r.length ≤ ci ∧ ci ≤ maxLen ∧ Ints w w.heap.size Ai r
theorem list_pick {α β : Type} {P : α → β → Prop} (xs : List α) (h : ∀ x ∈ xs, ∃ y, P x y) : ∃ ys : List β, ys.length = xs.length ∧ ∀ (i : Nat) (y : β), ys[i]? = some y → ∃ x, xs[i]? = some x ∧ P x y := by
  induction xs with
  | nil => exact ⟨[], rfl, fun i y hy => by simp at hy⟩
  | cons x xs ih =>
    obtain ⟨y, hy⟩ := h x (by simp)
    obtain ⟨ys, hl, hP⟩ := ih (fun z hz => h z (by simp [hz]))
    refine ⟨y :: ys, by simp [hl], fun i z hz => ?_⟩
    cases i with
    | zero => simp only [List.getElem?_cons_zero, Option.some.injEq] at hz; subst hz; exact ⟨x, rfl, hy⟩
    | succ i => simp only [List.getElem?_cons_succ] at hz ⊢; exact hP i z hz
theorem IB.read {w : World} {b n : Nat} (h : IB w b n) : ∃ r : List Int, r.length = n ∧ Ints w w.heap.size (some ⟨b, 0, none⟩) r := by
  obtain ⟨arr, h1, h2, h3⟩ := h
  obtain ⟨r, hl, hr⟩ := list_pick (P := fun (i : Nat) (x : Int) => arr[i]? = some (.int .i64 x)) (List.range n) (fun i hi => h3 i (List.mem_range.1 hi))
  refine ⟨r, by simpa using hl, fun _ => ⟨b, 0, rfl, (Array.getElem?_eq_some_iff.1 h1).1, fun i x hx => ?_⟩⟩
  obtain ⟨j, hj, hP⟩ := hr i x hx
  have hi := lt_of_at hx
  rw [hl, List.length_range] at hi
  rw [List.getElem?_range hi] at hj
  injection hj with hj
  subst hj
  rw [Nat.zero_add, cell_of_row w b i arr _ _ h1]; exact hP
theorem RowV.read {w : World} {base : Nat} {u : Value} (h : RowV w base u) : ∃ r, RowR w u r := by
  obtain ⟨b, rfl, _, hi⟩ := h
  obtain ⟨r, hl, hr⟩ := hi.read
  exact ⟨r, _, 16, by rw [hl], by omega, by simp [maxLen], hr⟩
theorem rws_of_own {w wr : World} {D : Option Addr} {n c : Nat} {vals : List Value} (ho : wr.ownsRow w.heap.size 23 1 (.slice D n c) n vals) (hv : ∀ u ∈ vals, ∃ r, RowR wr u r) :
    ∃ rs : List (List Int), rs.length = n ∧ Rws wr wr.heap.size D rs := by
  obtain ⟨rs, hl, hP⟩ := list_pick vals hv
  have hn : vals.length = n := by have := ho.1; omega
  refine ⟨rs, by omega, fun hpos => ?_⟩
  obtain ⟨g, rfl, u, hu, hc⟩ := own_at ho (i := 0) (by omega)
  refine ⟨g, 0, rfl, World.block_lt_of_cell? _ _ hc, fun i r hr => ?_⟩
  obtain ⟨v, hv', Ai, ci, rfl, h1, h2, h3⟩ := hP i r hr
  refine ⟨Ai, ci, ?_, h1, h2, h3⟩
  rw [Nat.zero_add, ho.cellAt i (by have := lt_of_at hv'; omega)]; exact hv'
/-- An owned row of integers reads as its integers. -/
theorem ints_of_own {w : World} {base : Nat} {D : Option Addr} {n c : Nat} {xs : List Int} (h : w.ownsRow base 3 1 (.slice D n c) n (xs.map (Value.int .i64))) : Ints w w.heap.size D xs := by
  intro hpos
  have hl := h.1
  rw [List.length_map] at hl
  obtain ⟨g, rfl, u, hu, hc⟩ := own_at h (i := 0) (by omega)
  refine ⟨g, 0, rfl, World.block_lt_of_cell? _ _ hc, fun i x hx => ?_⟩
  rw [Nat.zero_add, h.cellAt i (by have := lt_of_at hx; omega), List.getElem?_map, hx]; rfl
theorem own_cap {w : World} {base : Nat} {t : TypeId} {D : Option Addr} {k c : Nat} {vals : List Value} (ho : w.ownsRow base t 1 (.slice D k c) k vals) : k ≤ c ∧ c ≤ maxLen := by
  rcases ho.2 with ⟨h', hn⟩ | ⟨g', cap, cur, h', _, _, h1, h2, _⟩
  · injection h' with _ h1 h2
    subst h2
    exact ⟨by omega, by simp [maxLen]⟩
  · injection h' with _ _ h3
    subst h3
    exact ⟨h1, h2⟩
/-- Rows of its own stay as they are where the reader alone turns. -/
theorem rws_kept {base g : Nat} {wr w'' : World} {D : Option Addr} {n c : Nat} {vals : List Value} {rs : List (List Int)} (ho : wr.ownsRow base 23 1 (.slice D n c) n vals) (hlo : ∀ u ∈ vals, ∃ b m d, u = .slice (some ⟨b, 0, none⟩) m d ∧ base ≤ b) (hl : rs.length = n) (hrs : Rws wr wr.heap.size D rs)
    (hgw : g < base) (hg : wr.grownBy w'' (some g)) : Rws w'' w''.heap.size D rs := by
  intro hpos
  obtain ⟨b, o, rfl, hb, hc⟩ := hrs hpos
  obtain ⟨gD, e, u, hu, hcu⟩ := own_at ho (i := 0) (by omega)
  injection e with e
  injection e with e1 e2
  subst e1 e2
  have hgD : base ≤ b := (ho.lt b rfl).1
  refine ⟨b, 0, rfl, Nat.lt_of_lt_of_le hb hg.size, fun i r hr => ?_⟩
  obtain ⟨Ai, ci, h1, h2, h3, h4⟩ := hc i r hr
  refine ⟨Ai, ci, hg.cell h1 (by intro e; injection e with e; have e : b = g := e; omega), h2, h3, fun hp => ?_⟩
  obtain ⟨b', o', rfl, hb', hc'⟩ := h4 hp
  have hvi : vals[i]? = some (.slice (some ⟨b', o', none⟩) r.length ci) := by
    rw [← h1, Nat.zero_add, ho.cellAt i (by have := lt_of_at hr; omega)]
  obtain ⟨b2, m2, d2, e2, hb2⟩ := hlo _ (mem_of_at hvi)
  injection e2 with e2
  injection e2 with e2
  injection e2 with e2 e3
  subst e2
  refine ⟨b', o', rfl, Nat.lt_of_lt_of_le hb' hg.size, fun j x hx => hg.cell (hc' j x hx) (by intro e; injection e with e; have e : b' = g := e; omega)⟩
/-- The last way of l93Rows: a row is replaced by a longer one of its own. -/
theorem rows_last {g : Nat} {A : Option Addr} {len cap : Nat} {w wr w3 : World} {M : Nat} {gD k c i : Nat} {o : Obj} {D' : Option Addr} {m c' : Nat} {r : List Int} (h : Out g A len cap w wr (M + 100) (.slice (some ⟨gD, 0, none⟩) k c) k) (hk : k ≤ 8) (hm : 0 < m) (hgw : g < w.heap.size)
    (hg3 : (wr.alloc o).grownBy w3 none) (hown3 : w3.ownsRow (wr.heap.size + 1) 3 1 (.slice D' m c') m (r.map (Value.int .i64))) :
    RowsQ g A len cap M w (.returned (.slice (some ⟨gD, 0, none⟩) k c)) (w3.setCell ⟨gD, i, none⟩ (.slice D' m c')) := by
  obtain ⟨vals, ho, hv⟩ := h.own
  have ho1 := (ho.alloc o).kept hg3 (.inr (by simp [Value.ownBlock]))
  have hgD : w.heap.size ≤ gD := (ho.lt gD rfl).1
  have hgD2 : gD < wr.heap.size := (ho.lt gD rfl).2
  obtain ⟨ho2, hg4⟩ := ho1.stored i (.slice D' m c')
  have hne : (Value.slice D' m c').ownBlock ≠ some gD := by
    intro e
    have := (hown3.lt gD e).1
    omega
  have hown4 := hown3.kept hg4 (.inr hne)
  have hr17 : RowR (w3.setCell ⟨gD, i, none⟩ (.slice D' m c')) (.slice D' m c') r := by
    have hc := own_cap hown4
    have hl := hown4.1
    rw [List.length_map] at hl
    exact ⟨D', c', by rw [show r.length = m by omega], by omega, hc.2, ints_of_own hown4⟩
  obtain ⟨rs, hl, hrs⟩ := rws_of_own ho2 (fun u hu => by
    rcases List.mem_or_eq_of_mem_set hu with hu | rfl
    · obtain ⟨b, rfl, hb, hib⟩ := hv u hu
      have hbd : b ≠ gD := fun e => ib_ne ho hib (by rw [e]; rfl)
      have h4 : IB (w3.setCell ⟨gD, i, none⟩ (.slice D' m c')) b 16 := ((hib.alloc o).grown hg3 (by simp)).keep (Below.heap_setCell w3 _ _ b hbd)
      exact RowV.read (base := w.heap.size) ⟨b, rfl, hb, h4⟩
    · exact ⟨r, hr17⟩)
  have hc := own_cap ho
  have hlo : ∀ u ∈ vals.set i (.slice D' m c'), ∃ b m d, u = .slice (some ⟨b, 0, none⟩) m d ∧ w.heap.size ≤ b := by
    intro u hu
    rcases List.mem_or_eq_of_mem_set hu with hu | rfl
    · obtain ⟨b, rfl, hb, _⟩ := hv u hu
      exact ⟨b, _, _, rfl, hb⟩
    · have := h.kp.size
      obtain ⟨g5, rfl, _⟩ := own_at hown3 (i := 0) hm
      exact ⟨g5, _, _, rfl, by have := (hown3.lt g5 rfl).1; omega⟩
  refine ⟨_, k, c, rs, rfl, hk, hc.1, hc.2, hl, fun w'' hg => rws_kept ho2 hlo hl hrs hgw hg, ((h.rd.alloc o).grown hg3 (by simp)).setCell (by show g < gD; omega) _, ?_⟩
  exact kp_step (kp_step (kp_alloc h.kp o) hg3 (fun _ e => by cases e)) hg4 (fun b e => .inr (by injection e with e; omega))
theorem rows_fin {g : Nat} {A : Option Addr} {len cap : Nat} {w wr : World} {M : Nat} {D : Option Addr} {k c : Nat} (h : Out g A len cap w wr (M + 100) (.slice D k c) k) (hk : k ≤ 8) (hgw : g < w.heap.size) :
    RowsQ g A len cap M w (.returned (.slice D k c)) wr := by
  obtain ⟨vals, ho, hv⟩ := h.own
  obtain ⟨rs, hl, hrs⟩ := rws_of_own ho (fun u hu => (hv u hu).read)
  have hcap : k ≤ c ∧ c ≤ maxLen := by
    rcases ho.2 with ⟨h', hn⟩ | ⟨g', cap, cur, h', _, _, h1, h2, _⟩
    · injection h' with _ h1 h2
      subst h2
      exact ⟨by omega, by simp [maxLen]⟩
    · injection h' with _ _ h3
      subst h3
      exact ⟨h1, h2⟩
  exact ⟨D, k, c, rs, rfl, hk, hcap.1, hcap.2, hl, fun w'' hg => rws_kept ho (fun u hu => by obtain ⟨b, rfl, hb, _⟩ := hv u hu; exact ⟨b, _, _, rfl, hb⟩) hl hrs hgw hg, h.rd, h.kp⟩

set_option maxHeartbeats 2000000 in
theorem rows_any (g : Nat) (A : Option Addr) (len cap M : Nat) (w : World) (hr : Rd w g A len cap M) (hM : M ≤ 900000) :
    Calls Try.prog 24 #[.pointer (some ⟨g, 0, none⟩)] w (RowsQ g A len cap M w) := by
  obtain ⟨i1, hj0, hy0, hy1, hy2⟩ := info_parts sl_info
  have hgw := hr.lt
  have hmk := make16
  have hout0 : Out g A len cap w ((w.alloc (.cells Z16 3)).alloc (.cells #[.slice (some ⟨w.heap.size, 0, none⟩) 16 16] 23)) M (.slice (some ⟨w.heap.size + 1, 0, none⟩) 1 1) 1 := by
    refine ⟨⟨[.slice (some ⟨w.heap.size, 0, none⟩) 16 16], ?_, ?_⟩, (hr.alloc _).alloc _, kp_alloc (kp_alloc (kp_refl w g) _) _⟩
    · have := World.ownsRow_lit (base := w.heap.size) (e := 23) (size := 1) (w.alloc (.cells Z16 3)) #[.slice (some ⟨w.heap.size, 0, none⟩) 16 16] 1 (by simp) (by simp [maxLen]) rfl
      simpa using this
    · intro u hu
      rw [List.mem_singleton] at hu
      exact ⟨w.heap.size, hu, Nat.le_refl _, (ib_made w).alloc _⟩
  go_enter Try.func24, Try.ntmps24
  go_wp2_with fail
  refine (pick_any g A len cap M _ _ hout0.rd (by omega)).mono ?_
  rintro e w1 ⟨n, rfl, n0, n1, -, hr1, hg1, -⟩
  have n1 := n1 (by omega)
  have hout1 := hout0.pick hgw hr1 hg1
  clear hout0 hr1 hg1
  go_wp2_with fail
  go_loopw [3, 5] (fun v i wr => ∃ k : Nat, (k : Int) ≤ n ∧ i = .int .i64 ((k : Int) + 1) ∧ Out g A len cap w wr (M + 1 + 10 * k) v (k + 1)) (fun _ i _ => (n + 1).toNat - (intOf i).toNat)
  case atStart => exact ⟨0, by omega, rfl, hout1⟩
  case round =>
    obtain ⟨k, hk, rfl, hout⟩ := hrel
    by_cases hlt : (k : Int) + 1 ≤ n
    · obtain ⟨wo, rfl⟩ : ∃ wo : World, wo = wr := ⟨_, rfl⟩
      have hout2 := hout.alloc (.cells Z16 3)
      have hib := ib_made wo
      have hwo := hout.kp.size
      go_wp2_with fail
      go_loopw [7, 8, 9] (fun j _ _ wr => ∃ t : Nat, t ≤ 5 ∧ j = .int .i64 (t : Int) ∧ Out g A len cap w wr (M + 1 + 10 * k + 2 * t) u3 (k + 1) ∧ IB wr wo.heap.size 16) (fun j _ _ _ => 5 - (intOf j).toNat)
      case atStart => exact ⟨0, by omega, rfl, hout2, hib⟩
      case round =>
        obtain ⟨t, ht, rfl, hin, hib⟩ := hrel
        by_cases htl : t < 5
        · go_wp2_with fail
          refine (pick_any g A len cap _ _ _ hin.rd (by omega)).mono ?_
          rintro e w2 ⟨a, rfl, a0, a1, -, hr2, hg2, -⟩
          have a1 := a1 (by omega)
          have hin2 := hin.pick hgw hr2 hg2
          have hib2 := hib.grown hg2 (by intro e; injection e with e; omega)
          clear hin hib hr2 hg2
          go_wp2_with fail
          refine (pick_any g A len cap _ _ _ hin2.rd (by omega)).mono ?_
          rintro e w4 ⟨b, rfl, b0, b1, -, hr4, hg4, -⟩
          have b1 := b1 (by omega)
          have hin := hin2.pick hgw hr4 hg4
          have hib := hib2.grown hg4 (by intro e; injection e with e; omega)
          clear hin2 hib2 hr4 hg4
          obtain ⟨a, rfl⟩ := Int.eq_ofNat_of_zero_le a0
          obtain ⟨b, rfl⟩ := Int.eq_ofNat_of_zero_le b0
          obtain ⟨x, hx⟩ := hib.cell (i := a) (by omega)
          obtain ⟨y, hy⟩ := hib.cell (i := b) (by omega)
          have fa := hib.frozen a
          have fb := hib.frozen b
          by_cases c1 : 0 - ((k : Int) + 1) < x
          · by_cases c2 : y < 9
            · by_cases hab : a = b
              · subst hab
                obtain rfl : x = y := by
                  have h := hx.symm.trans hy
                  injection h with h
                  injection h
                clear hy fb
                go_wp2_with fail
                go_roundw
                case rel => exact ⟨t + 1, by omega, by go_num, ((hin.store hgw hib (by omega) _).store hgw (hib.store _) (by omega) _).more (by omega), (hib.store _).store _⟩
                case measure => simp [intOf]; omega
              · have hba : ¬ b = a := fun h => hab h.symm
                go_wp2_with fail
                go_roundw
                case rel => exact ⟨t + 1, by omega, by go_num, ((hin.store hgw hib (by omega) _).store hgw (hib.store _) (by omega) _).more (by omega), (hib.store _).store _⟩
                case measure => simp [intOf]; omega
            · 
              go_wp2_with fail
              go_roundw
              case rel => exact ⟨t + 1, by omega, by go_num, (hin).more (by omega), hib⟩
              case measure => simp [intOf]; omega
          · 
            go_wp2_with fail
            go_roundw
            case rel => exact ⟨t + 1, by omega, by go_num, (hin).more (by omega), hib⟩
            case measure => simp [intOf]; omega
        · obtain ⟨vals, ho, hv⟩ := hin.own
          go_wp2_with (at_builtin; refine wpList_append_own _ rfl _ _ 22 rfl w.heap.size 23 i1 (.slice none 0 0) 1 24 Try.underlying22 hj0 hy0 hy1 hy2 rfl (by decide) _ (k + 1) vals rfl (ho.alloc _) ⟨wr.heap.size, 0, none⟩ 1 1 [.slice (some ⟨wo.heap.size, 0, none⟩) 16 16] rfl rfl (new_one _ _ _) (oneCell_sl _ _ _) (by simp only [maxLen]; omega) (by omega) ?_ ?_)
          rotate_left
          · intro v' w3 hown3 hg3 _
            have hpush := hin.push hgw hv ho hib (by omega) hown3 hg3
            clear hown3 hg3 hin ho hv
            go_wp2_with fail
            go_roundw
            case rel => exact ⟨k + 1, by omega, by go_num, hpush.more (by omega)⟩
            case measure => simp [intOf]; omega
          · have := hin.kp.size
            simp; omega
    · go_wp2_with fail
      refine (pick_any g A len cap _ _ _ hout.rd (by omega)).mono ?_
      rintro e w2 ⟨s, rfl, s0, s1, -, hr2, hg2, -⟩
      have hfin := hout.pick hgw hr2 hg2
      clear hout hr2 hg2
      obtain ⟨D, cc, rfl⟩ := own_form hfin.own.choose_spec.1
      have hk4 : k ≤ 4 := by omega
      by_cases c0 : s = 0
      · subst c0
        obtain ⟨vals, ho, hv⟩ := hfin.own
        obtain ⟨gD, rfl, u0, hu0, hc0⟩ := own_at ho (i := 0) (by omega)
        obtain ⟨b, rfl, hb, hib⟩ := hv u0 (mem_of_at hu0)
        have f3 := hib.frozen 3
        obtain ⟨x, hx⟩ := hib.cell (i := 3) (by omega)
        have hst := hfin.store (i := 3) hgw hib hb 1
        go_wp2_with fail
        go_ret
        exact rows_fin (hst.more (by omega)) (by omega) hgw
      have b0 : (s == 0) = false := beq_eq_false_iff_ne.2 c0
      by_cases c1 : s = 1
      · subst c1
        obtain ⟨i0, hi0, hz0, hz1, hz2⟩ := info_parts int_info
        obtain rfl : n = (k : Int) := by omega
        obtain ⟨vals, ho, hv⟩ := hfin.own
        obtain ⟨gD, rfl, u0, hu0, hc0⟩ := own_at ho (i := k) (by omega)
        obtain ⟨b, rfl, hb, hib⟩ := hv u0 (mem_of_at hu0)
        obtain ⟨r, hrl, hri⟩ := hib.read
        have HRL := Lib.hid hrl
        clear hrl
        go_wp2_with (at_builtin; refine wpList_append_grows _ rfl _ _ 23 rfl 3 i0 (.int .i64 0) 1 8 Try.underlying23 hi0 hz0 hz1 hz2 rfl (by decide) (some ⟨b, 0, none⟩) 16 16 (r.map (Value.int .i64)) rfl (fun e => by cases e) (by have := HRL.out; simp; omega) ?_ ⟨w2.heap.size, 0, none⟩ 1 1 [.int .i64 0] rfl rfl (new_one _ _ _) (oneCell_int _) (by omega) (by simp only [maxLen]; omega) (by omega) ?_)
        rotate_left
        · intro v' w3 hown3 hg3
          rw [map_snoc] at hown3
          obtain ⟨D', c', rfl⟩ := own_form hown3
          have ho3 := (ho.alloc _).kept hg3 (.inr (by simp [Value.ownBlock]))
          obtain ⟨_, e, u3', hu3, hc3⟩ := own_at ho3 (i := k) (by omega)
          injection e with e
          injection e with e
          subst e
          have f3 := ho3.frozenAt k
          have hQ := rows_last (M := M) (i := k) (hfin.more (by omega)) (by omega) (by omega) hgw hg3 hown3
          clear hown3 hg3 ho3
          go_wp2_with fail
          go_ret
          exact hQ
        · intro b1 e j u hj
          injection e with e
          subst e
          rw [List.getElem?_map] at hj
          obtain ⟨x, hx, rfl⟩ := Option.map_eq_some_iff.1 hj
          obtain ⟨b2, o2, e2, hb2, hc2⟩ := hri (by have := lt_of_at hx; omega)
          injection e2 with e2
          injection e2 with e2 e3
          subst e2 e3
          have := hc2 j x hx
          have ha : (⟨b, 0, none⟩ : Addr).add j = ⟨b, 0 + j, none⟩ := by unfold Addr.add; split <;> simp_all
          rw [ha, World.cell?_alloc_lt _ _ _ (by exact hb2)]
          exact this
      have b1 : (s == 1) = false := beq_eq_false_iff_ne.2 c1
      by_cases c2 : s = 2
      · subst c2
        go_wp2_with fail
        go_ret
        exact ⟨_, 0, 0, [], rfl, by omega, by omega, by simp [maxLen], rfl, fun _ _ => Rws.nil _ _ _, (hfin.rd.alloc _).more (by omega), kp_alloc hfin.kp _⟩
      have b2 : (s == 2) = false := beq_eq_false_iff_ne.2 c2
      go_wp2_with fail
      go_ret
      exact rows_fin (hfin.more (by omega)) (by omega) hgw
end Go.Proofs.Ytgdoajhieiibcaa
