/-
  The walks of TableOf, emptyTable, and of laws.sameRows at rows that read alike.
-/
import Derived.Test.YtdoomakadnfddaaSwapOk
import Derived.Test.YtdoomakadnfddaaRun
import Derived.BigRegion
namespace Go.Proofs.Ytdoomakadnfddaa
open Go.RowKit
attribute [local go_sem ↓] Go.wp_at_zero Go.wp_at_succ

set_option maxHeartbeats 1000000 in
/-- laws.sameInts at integers that read alike. -/
theorem samei_t (A1 A2 : Option Addr) (n c1 c2 : Nat) (xs : List Int) (w : World) (hx1 : Ints w w.heap.size A1 xs) (hx2 : Ints w w.heap.size A2 xs) (hn : xs.length = n) (hm : n ≤ 4194304) :
    Calls Try.prog 42 #[.slice A1 n c1, .slice A2 n c2] w fun e w' => e = .returned (.bool true) ∧ Below w.heap.size w w' := by
  have HN := Lib.hid hn
  clear hn
  go_enter Try.func42, Try.ntmps42
  go_wp2_with fail
  go_loopw [5] (fun i wr => ∃ k : Nat, k ≤ n ∧ i = .int .i64 (k : Int) ∧ Below w.heap.size w wr) (fun i _ => n - (intOf i).toNat)
  case atStart => exact ⟨0, by omega, rfl, Below.refl _ _⟩
  case round =>
    obtain ⟨k, hk, rfl, hB⟩ := hrel
    by_cases hlt : k < n
    · obtain ⟨b, o, x, rfl, hb, HX, c0⟩ := (hx1.below hB).at_ (k := k) (by have := HN.out; omega)
      obtain ⟨b', o', y, rfl, hb', HY, d0⟩ := (hx2.below hB).at_ (k := k) (by have := HN.out; omega)
      obtain rfl : x = y := by have h := HX.out; rw [HY.out] at h; injection h with h; exact h.symm
      have i1 : (0 : Int) ≤ (k : Int) := by omega
      have i2 : (k : Int) < (n : Int) := by omega
      go_wp2_with fail
      go_quiet (fail)
      go_wp2_with fail
      go_roundw
      case rel => exact ⟨k + 1, by omega, by go_num, below_drewN hB _⟩
      case measure => simp [intOf]; omega
    · go_wp2_with fail
      go_ret
      exact ⟨rfl, hB⟩
theorem rows_on {w w' : World} {A : Option Addr} {rs : List (List Int)} (h : Rws w w.heap.size A rs) (hb : Below w.heap.size w w') : Rws w' w'.heap.size A rs := (h.below hb).more hb.size
set_option maxHeartbeats 2000000 in
/-- laws.sameRows at rows that read alike. -/
theorem samer_t (A1 A2 : Option Addr) (n c1 c2 : Nat) (rs : List (List Int)) (w : World) (hx1 : Rws w w.heap.size A1 rs) (hx2 : Rws w w.heap.size A2 rs) (hn : rs.length = n) (hm : n ≤ 4194304) (hl : ∀ r ∈ rs, r.length ≤ 4194304) :
    Calls Try.prog 26 #[.slice A1 n c1, .slice A2 n c2] w fun e w' => e = .returned (.bool true) ∧ Below w.heap.size w w' := by
  have HN := Lib.hid hn
  have HLL := Lib.hid hl
  clear hn hl
  go_enter Try.func26, Try.ntmps26
  go_wp2_with fail
  go_loopw [5] (fun i wr => ∃ k : Nat, k ≤ n ∧ i = .int .i64 (k : Int) ∧ Below w.heap.size w wr) (fun i _ => n - (intOf i).toNat)
  case atStart => exact ⟨0, by omega, rfl, Below.refl _ _⟩
  case round =>
    obtain ⟨k, hk, rfl, hB⟩ := hrel
    by_cases hlt : k < n
    · obtain ⟨b, o, r, Ai, ci, rfl, hb, HX, c0, -, -, hi1⟩ := (rows_on hx1 hB).at_ (k := k) (by have := HN.out; omega)
      obtain ⟨b', o', r', Bi, di, rfl, hb', HY, d0, -, -, hi2⟩ := (rows_on hx2 hB).at_ (k := k) (by have := HN.out; omega)
      obtain rfl : r = r' := by have h := HX.out; rw [HY.out] at h; injection h with h; exact h.symm
      have hrl := HLL.out r (mem_of_at HX.out)
      obtain ⟨l, hl⟩ : ∃ l, r.length = l := ⟨_, rfl⟩
      rw [hl] at c0 d0 hrl
      have HL := Lib.hid hl
      clear hl
      have i1 : (0 : Int) ≤ (k : Int) := by omega
      have i2 : (k : Int) < (n : Int) := by omega
      go_wp2_with fail
      go_region_held3 (fun w' => w'.cell? ⟨b, o + k, none⟩ = some (.slice Ai l ci) ∧ w'.cell? ⟨b', o' + k, none⟩ = some (.slice Bi l di)) (go_keep)
        (first
          | (go_at_call 42
             refine (samei_t Ai Bi l ci di r _ (show Ints wr.drew wr.drew.heap.size Ai r from hi1) (show Ints wr.drew wr.drew.heap.size Bi r from hi2) HL.out hrl).mono ?_
             rintro e w5 ⟨rfl, hb5⟩
             have e1 := (hb5.cell (p := ⟨b, o + k, none⟩) hb).trans c0
             have e2 := (hb5.cell (p := ⟨b', o' + k, none⟩) hb').trans d0
             have hB := below_next hB.drew hb5))
      all_goals
        go_wp2_with fail
        go_roundw
        case rel => exact ⟨k + 1, by omega, by go_num, hB⟩
        case measure => simp [intOf]; omega
    · go_wp2_with fail
      go_ret
      exact ⟨rfl, hB⟩

/-! ### A table in memory -/
/-- A row of a table, as a value. -/
abbrev S4 (b : Nat) : Value := .slice (some ⟨b, 0, none⟩) 4 4
abbrev N4 : Value := .slice none 0 0
theorem make_rows (w : World) : (Instr.makeSlice 36 (.int .i64 4) (.int .i64 4)).run Try.prog w = .ok (.slice (some ⟨w.heap.size, 0, none⟩) 4 4) (w.alloc (.cells #[N4, N4, N4, N4] 46)) := by kernel_rfl
theorem make_row (w : World) : (Instr.makeSlice 46 (.int .i64 4) (.int .i64 4)).run Try.prog w = .ok (.slice (some ⟨w.heap.size, 0, none⟩) 4 4) (w.alloc (.cells #[.int .i64 0, .int .i64 0, .int .i64 0, .int .i64 0] 3)) := by kernel_rfl
/-- The first k rows have been made. -/
def cv (bl : Nat → Nat) (k i : Nat) : Value := if i < k then S4 (bl i) else N4
/-- A table so far: k rows of noughts. -/
structure TabE (w : World) (base g : Nat) (bl : Nat → Nat) (k : Nat) : Prop where
  top : w.heap[g]? = some (.cells #[cv bl k 0, cv bl k 1, cv bl k 2, cv bl k 3] 46 (0, 0))
  low : base ≤ g
  row : ∀ i, i < k → base ≤ bl i ∧ w.heap[bl i]? = some (.cells #[.int .i64 0, .int .i64 0, .int .i64 0, .int .i64 0] 3 (0, 0))
  one : ∀ i j, i < k → j < k → i ≠ j → bl i ≠ bl j
/-- A table: rows of four numbers. -/
structure Tab4 (w : World) (base g : Nat) (bl : Nat → Nat) (f : Nat → Nat → Int) : Prop where
  top : w.heap[g]? = some (.cells #[S4 (bl 0), S4 (bl 1), S4 (bl 2), S4 (bl 3)] 46 (0, 0))
  low : base ≤ g
  row : ∀ i, i < 4 → base ≤ bl i ∧ w.heap[bl i]? = some (.cells #[.int .i64 (f i 0), .int .i64 (f i 1), .int .i64 (f i 2), .int .i64 (f i 3)] 3 (0, 0))
  one : ∀ i j, i < 4 → j < 4 → i ≠ j → bl i ≠ bl j
theorem lt_of_heap {w : World} {g : Nat} {o : Obj} (h : w.heap[g]? = some o) : g < w.heap.size := (Array.getElem?_eq_some_iff.1 h).1
theorem TabE.start (w : World) : TabE (w.alloc (.cells #[N4, N4, N4, N4] 46)) w.heap.size w.heap.size (fun _ => 0) 0 :=
  ⟨heap_alloc_new w _, Nat.le_refl _, fun _ h => absurd h (Nat.not_lt_zero _), fun _ _ h => absurd h (Nat.not_lt_zero _)⟩
theorem TabE.next {w : World} {base g : Nat} {bl : Nat → Nat} {k : Nat} (h : TabE w base g bl k) (hk : k < 4) (hb : base ≤ w.heap.size) :
    TabE ((w.alloc (.cells #[.int .i64 0, .int .i64 0, .int .i64 0, .int .i64 0] 3)).setCell ⟨g, k, none⟩ (S4 w.heap.size)) base g (fun i => if i = k then w.heap.size else bl i) (k + 1) := by
  have hg := lt_of_heap h.top
  have ht : (w.alloc (.cells #[.int .i64 0, .int .i64 0, .int .i64 0, .int .i64 0] 3)).heap[g]? = some (.cells #[cv bl k 0, cv bl k 1, cv bl k 2, cv bl k 3] 46 (0, 0)) := (Below.heap_alloc w _ g hg).trans h.top
  have hne : ∀ b, b ≠ g → ((w.alloc (.cells #[.int .i64 0, .int .i64 0, .int .i64 0, .int .i64 0] 3)).setCell ⟨g, k, none⟩ (S4 w.heap.size)).heap[b]? = (w.alloc (.cells #[.int .i64 0, .int .i64 0, .int .i64 0, .int .i64 0] 3)).heap[b]? := fun b e => Below.heap_setCell _ _ _ b e
  refine ⟨?_, h.low, fun i hi => ?_, fun i j hi hj hij => ?_⟩
  · rw [heap_setCell_same _ g k _ _ (S4 w.heap.size) ht]
    match k, hk with
    | 0, _ => simp [cv]
    | 1, _ => simp [cv]
    | 2, _ => simp [cv]
    | 3, _ => simp [cv]
  · by_cases e : i = k
    · subst e
      simp only [if_true]
      exact ⟨hb, by rw [hne _ (by omega)]; exact heap_alloc_new w _⟩
    · simp only [if_neg e]
      obtain ⟨h1, h2⟩ := h.row i (by omega)
      have hlt := lt_of_heap h2
      have hbg : bl i ≠ g := fun e' => by
        rw [e', h.top] at h2
        injection h2 with h2
        injection h2 with _ h2
        exact absurd h2 (by decide)
      exact ⟨h1, by rw [hne _ hbg]; exact (Below.heap_alloc w _ _ hlt).trans h2⟩
  · by_cases e : i = k
    · subst e
      simp only [if_true, if_neg (fun (e : j = i) => hij e.symm)]
      have := lt_of_heap (h.row j (by omega)).2
      omega
    · by_cases e' : j = k
      · subst e'
        simp only [if_true, if_neg hij]
        have := lt_of_heap (h.row i (by omega)).2
        omega
      · simp only [if_neg e, if_neg e']
        exact h.one i j (by omega) (by omega) hij
theorem TabE.done {w : World} {base g : Nat} {bl : Nat → Nat} (h : TabE w base g bl 4) : Tab4 w base g bl (fun _ _ => 0) := ⟨h.top, h.low, h.row, h.one⟩
section
variable {w w' : World} {base g : Nat} {bl : Nat → Nat} {f : Nat → Nat → Int}
theorem Tab4.keep (h : Tab4 w base g bl f) (hk : ∀ b, b < w.heap.size → w'.heap[b]? = w.heap[b]?) : Tab4 w' base g bl f :=
  ⟨(hk g (lt_of_heap h.top)).trans h.top, h.low, fun i hi => ⟨(h.row i hi).1, (hk _ (lt_of_heap (h.row i hi).2)).trans (h.row i hi).2⟩, h.one⟩
theorem Tab4.alloc (h : Tab4 w base g bl f) (o : Obj) : Tab4 (w.alloc o) base g bl f := h.keep fun b hb => Below.heap_alloc w o b hb
theorem Tab4.drew (h : Tab4 w base g bl f) : Tab4 w.drew base g bl f := ⟨h.top, h.low, h.row, h.one⟩
theorem Tab4.topc (h : Tab4 w base g bl f) {i : Nat} (hi : i < 4) : w.cell? ⟨g, i, none⟩ = some (S4 (bl i)) := by
  rw [cell_of_row w g i _ _ _ h.top]
  match i, hi with
  | 0, _ => rfl
  | 1, _ => rfl
  | 2, _ => rfl
  | 3, _ => rfl
theorem Tab4.cell (h : Tab4 w base g bl f) {i j : Nat} (hi : i < 4) (hj : j < 4) : w.cell? ⟨bl i, j, none⟩ = some (.int .i64 (f i j)) := by
  rw [cell_of_row w (bl i) j _ _ _ (h.row i hi).2]
  match j, hj with
  | 0, _ => rfl
  | 1, _ => rfl
  | 2, _ => rfl
  | 3, _ => rfl
theorem Tab4.free (h : Tab4 w base g bl f) {i : Nat} (hi : i < 4) (j : Nat) : w.frozen? ⟨bl i, j, none⟩ = false := by simp [World.frozen?, (h.row i hi).2]
theorem Tab4.store (h : Tab4 w base g bl f) {i j : Nat} (hi : i < 4) (hj : j < 4) (v : Int) : Tab4 (w.setCell ⟨bl i, j, none⟩ (.int .i64 v)) base g bl (fun x y => if x = i ∧ y = j then v else f x y) := by
  have hne : ∀ b, b ≠ bl i → (w.setCell ⟨bl i, j, none⟩ (.int .i64 v)).heap[b]? = w.heap[b]? := fun b e => Below.heap_setCell _ _ _ b e
  have hbg : g ≠ bl i := fun e => by
    have h2 := (h.row i hi).2
    rw [← e, h.top] at h2
    injection h2 with h2
    injection h2 with _ h2
    exact absurd h2 (by decide)
  refine ⟨(hne g hbg).trans h.top, h.low, fun x hx => ⟨(h.row x hx).1, ?_⟩, h.one⟩
  by_cases e : x = i
  · subst e
    rw [heap_setCell_same _ _ j _ _ (.int .i64 v) (h.row x hx).2]
    match j, hj with
    | 0, _ => simp
    | 1, _ => simp
    | 2, _ => simp
    | 3, _ => simp
  · simp only [e, false_and, if_false]
    rw [hne _ (h.one x i hx hi e)]
    exact (h.row x hx).2
end
/-- The rows of a table. -/
def tabL (f : Nat → Nat → Int) : List (List Int) := (List.range 4).map fun a => (List.range 4).map fun j => f a j
theorem Tab4.rws {w : World} {base g : Nat} {bl : Nat → Nat} {f : Nat → Nat → Int} (h : Tab4 w base g bl f) : Rws w w.heap.size (some ⟨g, 0, none⟩) (tabL f) := by
  intro _
  refine ⟨g, 0, rfl, lt_of_heap h.top, fun i r hr => ?_⟩
  rw [tabL, List.getElem?_map] at hr
  obtain ⟨x, hx, rfl⟩ := Option.map_eq_some_iff.1 hr
  have hi : i < 4 := by have := lt_of_at hx; simpa using this
  rw [List.getElem?_range hi] at hx
  injection hx with hx
  subst hx
  rw [Nat.zero_add]
  refine ⟨some ⟨bl i, 0, none⟩, 4, h.topc hi, by simp, by simp [maxLen], fun _ => ⟨bl i, 0, rfl, lt_of_heap (h.row i hi).2, fun j y hy => ?_⟩⟩
  rw [List.getElem?_map] at hy
  obtain ⟨z, hz, rfl⟩ := Option.map_eq_some_iff.1 hy
  have hj : j < 4 := by have := lt_of_at hz; simpa using this
  rw [List.getElem?_range hj] at hz
  injection hz with hz
  subst hz
  rw [Nat.zero_add]; exact h.cell hi hj
set_option maxHeartbeats 1000000 in
/-- impl.emptyTable. -/
theorem empty_any (w : World) : Calls Try.prog 41 #[.int .i64 4, .int .i64 4] w fun e w' => ∃ g bl, e = .returned (.slice (some ⟨g, 0, none⟩) 4 4) ∧ Tab4 w' w.heap.size g bl (fun _ _ => 0) ∧ Below w.heap.size w w' := by
  have h1 := make_rows
  have h2 := make_row
  have h0 := TabE.start w
  have hb0 := below_one w (.cells #[N4, N4, N4, N4] 46)
  go_enter Try.func41, Try.ntmps41
  go_wp2_with fail
  go_loopw [11] (fun i wr => ∃ (k : Nat) (bl : Nat → Nat), k ≤ 4 ∧ i = .int .i64 (k : Int) ∧ TabE wr w.heap.size w.heap.size bl k ∧ Below w.heap.size w wr) (fun i _ => 4 - (intOf i).toNat)
  case atStart => exact ⟨0, _, by omega, rfl, h0, hb0⟩
  case round =>
    clear h0 hb0
    obtain ⟨k, bl, hk, rfl, hT, hB⟩ := hrel
    by_cases hlt : k < 4
    · have hN := hT.next hlt hB.size
      have hB2 := (hB.trans ((below_one wr (.cells #[.int .i64 0, .int .i64 0, .int .i64 0, .int .i64 0] 3)).mono hB.size)).setCell (p := ⟨w.heap.size, k, none⟩) (Nat.le_refl _) (S4 wr.heap.size)
      have i1 : (0 : Int) ≤ (k : Int) := by omega
      have i2 : (k : Int) < (4 : Int) := by omega
      have hg := lt_of_heap hT.top
      have hf : wr.frozen? ⟨w.heap.size, k, none⟩ = false := by simp [World.frozen?, hT.top]
      obtain ⟨u, hc⟩ : ∃ u, wr.cell? ⟨w.heap.size, k, none⟩ = some u := by
        rw [cell_of_row wr _ k _ _ _ hT.top]
        exact ⟨_, Array.getElem?_eq_getElem (by simpa using hlt)⟩
      have hne : wr.heap.size ≠ w.heap.size := by omega
      have hne2 : w.heap.size ≠ wr.heap.size := by omega
      rw [World.setCell_alloc_past _ _ _ _ hg] at hN hB2
      go_wp2_with fail
      go_roundw
      case rel => exact ⟨k + 1, _, by omega, by go_num, hN, hB2⟩
      case measure => simp [intOf]; omega
    · obtain rfl : k = 4 := by omega
      have hD := hT.done
      go_wp2_with fail
      go_ret
      exact ⟨_, bl, rfl, hD, hB⟩
theorem tab_next {ps : List Pn} {k i j : Nat} {s p : Int} {f : Nat → Nat → Int} (hf : ∀ x y, f x y = tabN (ps.take k) x y) (hk : ps[k]? = some ⟨(i : Int), (j : Int), s, p⟩) : ∀ x y, (fun x y => if x = i ∧ y = j then f i j + 1 else f x y) x y = tabN (ps.take (k + 1)) x y := by
  intro x y
  rw [tabN_next hk]
  by_cases h : x = i ∧ y = j
  · obtain ⟨rfl, rfl⟩ := h
    simp [hf, cellB]
  · have : cellB x y ⟨(i : Int), (j : Int), s, p⟩ = false := by
      simp only [cellB, Bool.and_eq_false_iff, beq_eq_false_iff_ne]
      by_cases h1 : x = i
      · exact .inr (fun e => h ⟨h1, by omega⟩)
      · exact .inl (fun e => h1 (by omega))
    simp only [if_neg h, this, hf]
    simp
/-- What TableOf leaves. -/
def TabQ (ps : List Pn) (w : World) (e : Ending) (w' : World) : Prop := ∃ (D : Option Addr), e = .returned (.tuple #[.slice D 4 4, .bool true]) ∧ Rws w' w'.heap.size D (tab ps) ∧ Below w.heap.size w w'
set_option maxHeartbeats 4000000 in
/-- impl.TableOf at valid people. -/
theorem table_any (A : Option Addr) (n c : Nat) (ps : List Pn) (w : World) (hx : Recs pf 4 w w.heap.size A ps) (hn : ps.length = n) (hm : n ≤ 40) (hv : pvB ps = true) :
    Calls Try.prog 25 #[.slice A n c] w (TabQ ps w) := by
  have HN := Lib.hid hn
  clear hn
  go_enter Try.func25, Try.ntmps25
  go_wp2_with fail
  refine (pvalid_any A n c ps _ hx HN.out (by omega)).mono ?_
  rintro e w1 ⟨rfl, hb1⟩
  rw [hv]
  have HV := Lib.hid (pvB_iff.1 hv).2
  clear hv
  go_wp2_with fail
  refine (empty_any _).mono ?_
  rintro e w2 ⟨g, bl, rfl, hT, hb2⟩
  have hz := hb1.size
  have hb2 := below_next hb1 hb2
  clear hb1
  go_wp2_with fail
  go_loopw [13] (fun i wr => ∃ (k : Nat) (f : Nat → Nat → Int), k ≤ n ∧ i = .int .i64 (k : Int) ∧ Hid (∀ x y, f x y = tabN (ps.take k) x y) ∧ Tab4 wr w1.heap.size g bl f ∧ Below w.heap.size w wr) (fun i _ => n - (intOf i).toNat)
  case atStart => exact ⟨0, _, by omega, rfl, by simp [Hid, tabN], hT, hb2⟩
  case round =>
    clear hT hb2
    obtain ⟨k, f, hk, rfl, HF, hT, hB⟩ := hrel
    by_cases hlt : k < n
    · obtain ⟨ob, o, a, j, s, p, rfl, hbb, HX, c0, c1, c2, c3⟩ := ppl_at (hx.on hB) (k := k) (by have := HN.out; omega)
      obtain ⟨⟨a0, a1⟩, ⟨j0, j1⟩, -⟩ := HV.out _ (mem_of_at HX.out)
      simp only at a0 a1 j0 j1
      obtain ⟨i, rfl⟩ := Int.eq_ofNat_of_zero_le a0
      obtain ⟨q, rfl⟩ := Int.eq_ofNat_of_zero_le j0
      have i0 : (0 : Int) ≤ (k : Int) := by omega
      have i1 : (k : Int) < (n : Int) := by omega
      have hi : i < 4 := by omega
      have hq : q < 4 := by omega
      have hfb := tabN_le (ps.take k) i q
      rw [← HF.out] at hfb
      obtain ⟨b0, b1⟩ := hfb
      have b2 := List.length_take_le k ps
      have b3 : f i q ≤ 40 := by omega
      clear b1 b2
      have HG := Lib.hid (tab_next HF.out HX.out)
      have hT1 := hT.alloc (pbox (i : Int) (q : Int) s p)
      have hc1 := hT1.topc hi
      have hc2 := hT1.cell hi hq
      have hf := hT1.free hi q
      have hbw : w.heap.size ≤ bl i := Nat.le_trans hz (hT1.row i hi).1
      have hO := hT1.store hi hq (f i q + 1)
      have hB2 := (below_next hB (below_one wr (pbox (i : Int) (q : Int) s p))).setCell (p := ⟨bl i, q, none⟩) hbw (.int .i64 (f i q + 1))
      clear hT hT1 HX HF
      go_wp2_with fail
      go_region
      all_goals
        go_wp2_with fail
        go_roundw
        case rel => exact ⟨k + 1, _, by omega, by go_num, HG, hO.drew, hB2.drew⟩
        case measure => simp [intOf]; omega
    · have HA : Hid (tabL f = tab ps) := by
        have h := HF.out
        rw [List.take_of_length_le (by have := HN.out; omega)] at h
        show _ = _
        simp only [tabL, tab, h]
      have hR := hT.rws
      rw [HA.out] at hR
      go_wp2_with fail
      go_ret2
      exact ⟨_, rfl, hR, hB⟩
end Go.Proofs.Ytdoomakadnfddaa
