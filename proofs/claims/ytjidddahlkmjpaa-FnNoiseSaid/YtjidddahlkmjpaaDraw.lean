/-
  The numbers of a noise that are drawn out of a code: l93Noise, DrawNoiseWeight, DrawNoiseTotal, DrawNoiseLikely return small integers; nothing that was there turns.
-/
import Derived.Test.YtjidddahlkmjpaaPick
import Derived.Test.YtjidddahlkmjpaaLikely
namespace Go.Proofs.Ytjidddahlkmjpaa
open Go.RowKit

theorem results_four {fn : Func} {t u v x : Tmp} (h : fn.results = #[.tmp t, .tmp u, .tmp v, .tmp x]) (tmps : Array Value) (P : Program) (w : World) :
    (results fn tmps).run P w = .ok (.tuple #[tmps.getD t undef, tmps.getD u undef, tmps.getD v undef, tmps.getD x undef]) w := by simp [results, h]

/-- What l93Noise leaves: four integers from -1 to 20. -/
def FourQ (g : Nat) (w : World) (e : Ending) (w' : World) : Prop :=
  ∃ n a x y : Int, e = .returned (.tuple #[.int .i64 n, .int .i64 a, .int .i64 x, .int .i64 y]) ∧ (-1 ≤ n ∧ n ≤ 20) ∧ (-1 ≤ a ∧ a ≤ 20) ∧ (-1 ≤ x ∧ x ≤ 20) ∧ (-1 ≤ y ∧ y ≤ 20) ∧ w.grownBy w' (some g)

theorem grownBy_trans' {a b c : World} {row : Option Nat} (h : a.grownBy b row) (k : b.grownBy c row) : a.grownBy c row :=
  ⟨k.os.trans h.os, k.tape.trans h.tape, k.output.trans h.output, Nat.le_trans h.size k.size, fun i hi hne => (k.block i (Nat.lt_of_lt_of_le hi h.size) hne).trans (h.block i hi hne)⟩

/-- A cell of a block that the call has just laid reads as it was laid, behind a step that turns block g alone. -/
theorem cell_laid {w w' : World} {g i : Nat} {cs : Array Value} {t : TypeId} {u : Value} (hg : (w.alloc (.cells cs t)).grownBy w' (some g)) (hlt : g < w.heap.size) (hi : cs[i]? = some u) : w'.cell? ⟨w.heap.size, i, none⟩ = some u := by
  have h : w'.heap[w.heap.size]? = some (.cells cs t (0, 0)) := (hg.block w.heap.size (by simp) (by intro e; injection e; omega)).trans (heap_alloc_new w _)
  rw [cell_of_row w' w.heap.size i cs t (0, 0) h]; exact hi

set_option maxHeartbeats 1000000 in
theorem noise_any (g : Nat) (A : Option Addr) (len cap M : Nat) (w : World) (hr : Rd w g A len cap M) (hM : M ≤ 900000) :
    Calls Try.prog 32 #[.pointer (some ⟨g, 0, none⟩)] w (FourQ g w) := by
  go_enter Try.func32, Try.ntmps32
  go_wp2_with fail
  refine (pick_any g A len cap M _ _ hr (by omega)).mono ?_
  rintro e w1 ⟨n, rfl, n0, n1, -, hr1, hg1, -⟩
  have n1 := n1 (by omega)
  go_wp2_with fail
  refine (pick_any g A len cap (M + 1) _ _ hr1 (by omega)).mono ?_
  rintro e w2 ⟨a, rfl, a0, a1, -, hr2, hg2, -⟩
  have a1 := a1 (by omega)
  go_wp2_with fail
  refine (pick_any g A len cap (M + 2) _ _ hr2 (by omega)).mono ?_
  rintro e w3 ⟨x, rfl, x0, x1, -, hr3, hg3, -⟩
  have x1 := x1 (by omega)
  go_wp2_with fail
  refine (pick_any g A len cap (M + 3) _ _ hr3 (by omega)).mono ?_
  rintro e w4 ⟨y, rfl, y0, y1, -, hr4, hg4, -⟩
  have y1 := y1 (by omega)
  go_wp2_with fail
  refine (pick_any g A len cap (M + 4) _ _ hr4 (by omega)).mono ?_
  rintro e w5 ⟨s, rfl, s0, s1, -, hr5, hg5, -⟩
  have hg := grownBy_trans' (grownBy_trans' (grownBy_trans' (grownBy_trans' hg1 hg2) hg3) hg4) hg5
  have hlt := hr5.lt
  clear hr1 hr2 hr3 hr4 hg1 hg2 hg3 hg4 hg5 hr
  by_cases c0 : s = 0
  · subst c0
    go_wp2_with fail
    refine (pick_any g A len cap (M + 5) _ _ (hr5.alloc _) (by omega)).mono ?_
    rintro e w6 ⟨t, rfl, t0, t1, -, hr6, hg6, -⟩
    have t1 := t1 (by omega)
    have q0 := cell_laid (i := 0) hg6 hlt rfl
    have q1 := cell_laid (i := 1) hg6 hlt rfl
    have hgg := grownBy_trans' (grownBy_trans' hg (World.grownBy_alloc w5 _ _)) hg6
    have ht : t = 0 ∨ t = 1 := by omega
    rcases ht with rfl | rfl
    all_goals
      go_wp2
      refine bodyPost_ret (results_four rfl _ _ _) rfl ?_
      exact ⟨_, _, _, _, rfl, by omega, by omega, by omega, by omega, hgg⟩
  by_cases c1 : s = 1
  · subst c1
    go_wp2_with fail
    refine (pick_any g A len cap (M + 5) _ _ (hr5.alloc _) (by omega)).mono ?_
    rintro e w6 ⟨t, rfl, t0, t1, -, hr6, hg6, -⟩
    have t1 := t1 (by omega)
    have q0 := cell_laid (i := 0) hg6 hlt rfl
    have q1 := cell_laid (i := 1) hg6 hlt rfl
    have hgg := grownBy_trans' (grownBy_trans' hg (World.grownBy_alloc w5 _ _)) hg6
    have ht : t = 0 ∨ t = 1 := by omega
    rcases ht with rfl | rfl
    all_goals
      go_wp2
      refine bodyPost_ret (results_four rfl _ _ _) rfl ?_
      exact ⟨_, _, _, _, rfl, by omega, by omega, by omega, by omega, hgg⟩
  by_cases c2 : s = 2
  · subst c2
    go_wp2_with fail
    refine (pick_any g A len cap (M + 5) _ _ (hr5.alloc _) (by omega)).mono ?_
    rintro e w6 ⟨t, rfl, t0, t1, -, hr6, hg6, -⟩
    have t1 := t1 (by omega)
    have q0 := cell_laid (i := 0) hg6 hlt rfl
    have q1 := cell_laid (i := 1) hg6 hlt rfl
    have hgg := grownBy_trans' (grownBy_trans' hg (World.grownBy_alloc w5 _ _)) hg6
    have ht : t = 0 ∨ t = 1 := by omega
    rcases ht with rfl | rfl
    all_goals
      go_wp2
      refine bodyPost_ret (results_four rfl _ _ _) rfl ?_
      exact ⟨_, _, _, _, rfl, by omega, by omega, by omega, by omega, hgg⟩
  by_cases c3 : s = 3
  · subst c3
    go_wp2_with fail
    refine (pick_any g A len cap (M + 5) _ _ (hr5.alloc _) (by omega)).mono ?_
    rintro e w6 ⟨t, rfl, t0, t1, -, hr6, hg6, -⟩
    have t1 := t1 (by omega)
    have q0 := cell_laid (i := 0) hg6 hlt rfl
    have q1 := cell_laid (i := 1) hg6 hlt rfl
    have hgg := grownBy_trans' (grownBy_trans' hg (World.grownBy_alloc w5 _ _)) hg6
    have ht : t = 0 ∨ t = 1 := by omega
    rcases ht with rfl | rfl
    all_goals
      go_wp2
      refine bodyPost_ret (results_four rfl _ _ _) rfl ?_
      exact ⟨_, _, _, _, rfl, by omega, by omega, by omega, by omega, hgg⟩
  have b0 : (s == 0) = false := beq_eq_false_iff_ne.2 c0
  have b1 : (s == 1) = false := beq_eq_false_iff_ne.2 c1
  have b2 : (s == 2) = false := beq_eq_false_iff_ne.2 c2
  have b3 : (s == 3) = false := beq_eq_false_iff_ne.2 c3
  go_wp2
  refine bodyPost_ret (results_four rfl _ _ _) rfl ?_
  exact ⟨_, _, _, _, rfl, by omega, by omega, by omega, by omega, hg⟩

/-- What DrawNoiseWeight leaves. -/
def DrawQ (w : World) (e : Ending) (w' : World) : Prop :=
  ∃ n a x y : Int, e = .returned (.tuple #[.int .i64 n, .int .i64 a, .int .i64 x, .int .i64 y]) ∧ (-1 ≤ n ∧ n ≤ 20) ∧ (-1 ≤ a ∧ a ≤ 20) ∧ (-1 ≤ x ∧ x ≤ 20) ∧ (-1 ≤ y ∧ y ≤ 20) ∧ Below w.heap.size w w'
def DrawQ3 (w : World) (e : Ending) (w' : World) : Prop :=
  ∃ n a x : Int, e = .returned (.tuple #[.int .i64 n, .int .i64 a, .int .i64 x]) ∧ (-1 ≤ n ∧ n ≤ 20) ∧ (-1 ≤ a ∧ a ≤ 20) ∧ (-1 ≤ x ∧ x ≤ 20) ∧ Below w.heap.size w w'
theorem below_of {w w1 w2 : World} (h : Below w.heap.size w w1) (hg : w1.grownBy w2 (some w.heap.size)) : Below w.heap.size w w2 :=
  h.grown hg h.size (fun k hk => by injection hk; omega)

set_option maxHeartbeats 400000 in
theorem draw_weight (a : Option Addr) (len cap : Nat) (zs : List Int) (w : World) (h : IsRow8 w a len cap zs) :
    Calls Try.prog 23 #[.slice a len cap] w (DrawQ w) := by
  go_enter Try.func23, Try.ntmps23
  go_wp2_with fail
  refine (open_any a len cap zs _ h).mono ?_
  rintro e w1 ⟨A, l, c, rfl, hr, hb, -⟩
  go_wp2_with fail
  refine (noise_any _ A l c 0 _ hr (by omega)).mono ?_
  rintro e w2 ⟨n, a, x, y, rfl, bn, ba, bx, by', hg⟩
  go_wp2
  refine bodyPost_ret (results_four rfl _ _ _) rfl ?_
  exact ⟨n, a, x, y, rfl, bn, ba, bx, by', below_of hb hg⟩
set_option maxHeartbeats 400000 in
theorem draw_total (a : Option Addr) (len cap : Nat) (zs : List Int) (w : World) (h : IsRow8 w a len cap zs) :
    Calls Try.prog 26 #[.slice a len cap] w (DrawQ3 w) := by
  go_enter Try.func26, Try.ntmps26
  go_wp2_with fail
  refine (open_any a len cap zs _ h).mono ?_
  rintro e w1 ⟨A, l, c, rfl, hr, hb, -⟩
  go_wp2_with fail
  refine (noise_any _ A l c 0 _ hr (by omega)).mono ?_
  rintro e w2 ⟨n, a, x, y, rfl, bn, ba, bx, by', hg⟩
  go_wp2
  go_ret3
  exact ⟨n, a, x, rfl, bn, ba, bx, below_of hb hg⟩
set_option maxHeartbeats 400000 in
theorem draw_likely (a : Option Addr) (len cap : Nat) (zs : List Int) (w : World) (h : IsRow8 w a len cap zs) :
    Calls Try.prog 27 #[.slice a len cap] w (DrawQ3 w) := by
  go_enter Try.func27, Try.ntmps27
  go_wp2_with fail
  refine (open_any a len cap zs _ h).mono ?_
  rintro e w1 ⟨A, l, c, rfl, hr, hb, -⟩
  go_wp2_with fail
  refine (noise_any _ A l c 0 _ hr (by omega)).mono ?_
  rintro e w2 ⟨n, a, x, y, rfl, bn, ba, bx, by', hg⟩
  go_wp2
  go_ret3
  exact ⟨n, a, y, rfl, bn, ba, by', below_of hb hg⟩
end Go.Proofs.Ytjidddahlkmjpaa
