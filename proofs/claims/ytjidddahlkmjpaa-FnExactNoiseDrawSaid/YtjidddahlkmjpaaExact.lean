/-
  The four laws 'the program returns what the reference returns' of NoiseWeight, NoiseTotal, NoiseLikely and NoiseDraw: each returns true for all integers.
-/
import Derived.Test.YtjidddahlkmjpaaLot
namespace Go.Proofs.Ytjidddahlkmjpaa
open Go.RowKit

theorem exact_weight (n a x y : Int) (w : World) : Calls Try.prog 3 #[.int .i64 n, .int .i64 a, .int .i64 x, .int .i64 y] w fun e w' => e = .returned (.bool true) ∧ w = w' := by
  go_enter Try.func3, Try.ntmps3
  go_wp2_with (first | (go_at_call 17; refine (sweight_any _ _ _ _ _).mono ?_; rintro e w' ⟨rfl, rfl⟩) | (go_at_call 18; refine (weight_any _ _ _ _ _).mono ?_; rintro e w' ⟨rfl, rfl⟩))
  go_ret
  exact ⟨rfl, rfl⟩
theorem exact_total (n a x : Int) (w : World) : Calls Try.prog 4 #[.int .i64 n, .int .i64 a, .int .i64 x] w fun e w' => e = .returned (.bool true) ∧ w = w' := by
  go_enter Try.func4, Try.ntmps4
  go_wp2_with (first | (go_at_call 19; refine (stotal_any _ _ _ _).mono ?_; rintro e w' ⟨rfl, rfl⟩) | (go_at_call 20; refine (total_any _ _ _ _).mono ?_; rintro e w' ⟨rfl, rfl⟩))
  go_ret
  exact ⟨rfl, rfl⟩
theorem exact_likely (n a x : Int) (w : World) : Calls Try.prog 5 #[.int .i64 n, .int .i64 a, .int .i64 x] w fun e w' => e = .returned (.bool true) ∧ w = w' := by
  go_enter Try.func5, Try.ntmps5
  go_wp2_with (first | (go_at_call 21; refine (slikely_any _ _ _ _).mono ?_; rintro e w' ⟨rfl, rfl⟩) | (go_at_call 22; refine (likely_any _ _ _ _).mono ?_; rintro e w' ⟨rfl, rfl⟩))
  go_ret
  exact ⟨rfl, rfl⟩
theorem exact_draw (n a x lot : Int) (w : World) : Calls Try.prog 11 #[.int .i64 n, .int .i64 a, .int .i64 x, .int .i64 lot] w fun e w' => e = .returned (.bool true) ∧ w = w' := by
  by_cases h : lot < 0 ∨ tv n a x ≤ lot
  · have hb := tv_bd n a x
    go_enter Try.func11, Try.ntmps11
    go_wp2_with (first | (go_at_call 24; refine (slot_no _ _ _ _ _ h hb.1 hb.2).mono ?_; rintro e w' ⟨rfl, rfl⟩) | (go_at_call 25; refine (lot_no _ _ _ _ _ h).mono ?_; rintro e w' ⟨rfl, rfl⟩))
    go_ret
    exact ⟨rfl, rfl⟩
  · have l0 : 0 ≤ lot := by omega
    have l1 : lot < tv n a x := by omega
    by_cases hk : 1 ≤ n ∧ n ≤ 12 ∧ 2 ≤ a ∧ a ≤ 5 ∧ 0 ≤ x ∧ x ≤ n
    · obtain ⟨n1, n2, a1, a2, x1, x2⟩ := hk
      clear h
      go_enter Try.func11, Try.ntmps11
      go_wp2_with fail
      refine (slot_yes n a x lot _ n1 n2 a1 a2 x1 x2 l0 l1).mono ?_
      rintro e w' ⟨p, rfl, hp, p1, p2, rfl⟩
      go_wp2_with fail
      refine (lot_yes n a x lot _ n1 n2 a1 a2 x1 x2 l0 l1).mono ?_
      rintro e w' ⟨q, rfl, hq, q1, q2, rfl⟩
      obtain rfl : p = q := lot_unique n1 n2 a1 a2 x1 x2 hp hq p1 p2 q1 q2
      go_wp2
      go_ret
      exact ⟨rfl, rfl⟩
    · rw [tv_f hk] at l1; omega
end Go.Proofs.Ytjidddahlkmjpaa
