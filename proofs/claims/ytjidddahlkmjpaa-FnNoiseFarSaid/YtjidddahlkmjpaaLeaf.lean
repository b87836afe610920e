/-
  The walks of the functions that only compute: what l6In, l32Ok, l32Power, noiseValid, NoiseWeight, NoiseTotal return, for all arguments of their types.
-/
import Derived.Test.YtjidddahlkmjpaaRows
import Derived.Test.YtjidddahlkmjpaaPlain
import Derived.WalkKit
import Derived.WalkSpells
import Derived.WalkLawsBesides
import Derived.Lib.Hide
namespace Go.Proofs.Ytjidddahlkmjpaa
open Go.RowKit

theorem ret_int {k : IntKind} {a b : Int} (h : a = b) : Ending.returned (.int k a) = .returned (.int k b) := by rw [h]

/-- spec.l6In. -/
theorem l6In_any (n lo hi : Int) (w : World) : Calls Try.prog 29 #[.int .i64 n, .int .i64 lo, .int .i64 hi] w fun e w' => e = .returned (.bool (inB n lo hi)) ∧ w = w' := by
  by_cases h1 : lo ≤ n
  · by_cases h2 : n ≤ hi
    · rw [inB_t h1 h2]
      go_enter Try.func29, Try.ntmps29
      go_wp2
      go_ret
      exact ⟨rfl, rfl⟩
    · rw [inB_f (by omega)]
      go_enter Try.func29, Try.ntmps29
      go_wp2
      go_ret
      exact ⟨rfl, rfl⟩
  · rw [inB_f (by omega)]
    go_enter Try.func29, Try.ntmps29
    go_wp2
    go_ret
    exact ⟨rfl, rfl⟩

/-- spec.l32Ok. -/
theorem l32Ok_any (n a : Int) (w : World) : Calls Try.prog 28 #[.int .i64 n, .int .i64 a] w fun e w' => e = .returned (.bool (inB n 1 12 && inB a 2 5)) ∧ w = w' := by
  cases h1 : inB n 1 12
  · go_enter Try.func28, Try.ntmps28
    go_wp2_with (go_at_call 29; refine (l6In_any _ _ _ _).mono ?_; rintro e w' ⟨rfl, rfl⟩)
    go_ret
    exact ⟨rfl, rfl⟩
  · cases h2 : inB a 2 5
    · go_enter Try.func28, Try.ntmps28
      go_wp2_with (go_at_call 29; refine (l6In_any _ _ _ _).mono ?_; rintro e w' ⟨rfl, rfl⟩)
      go_ret
      exact ⟨rfl, rfl⟩
    · go_enter Try.func28, Try.ntmps28
      go_wp2_with (go_at_call 29; refine (l6In_any _ _ _ _).mono ?_; rintro e w' ⟨rfl, rfl⟩)
      go_ret
      exact ⟨rfl, rfl⟩

/-- impl.noiseValid. -/
theorem valid_any (n a x : Int) (w : World) : Calls Try.prog 31 #[.int .i64 n, .int .i64 a, .int .i64 x] w fun e w' => e = .returned (.bool (okB n a x)) ∧ w = w' := by
  by_cases h1 : 1 ≤ n
  case neg => rw [okB_f (by omega)]; go_enter Try.func31, Try.ntmps31; go_wp2; go_ret; exact ⟨rfl, rfl⟩
  by_cases h2 : n ≤ 12
  case neg => rw [okB_f (by omega)]; go_enter Try.func31, Try.ntmps31; go_wp2; go_ret; exact ⟨rfl, rfl⟩
  by_cases h3 : 2 ≤ a
  case neg => rw [okB_f (by omega)]; go_enter Try.func31, Try.ntmps31; go_wp2; go_ret; exact ⟨rfl, rfl⟩
  by_cases h4 : a ≤ 5
  case neg => rw [okB_f (by omega)]; go_enter Try.func31, Try.ntmps31; go_wp2; go_ret; exact ⟨rfl, rfl⟩
  by_cases h5 : 0 ≤ x
  case neg => rw [okB_f (by omega)]; go_enter Try.func31, Try.ntmps31; go_wp2; go_ret; exact ⟨rfl, rfl⟩
  by_cases h6 : x ≤ n
  case neg => rw [okB_f (by omega)]; go_enter Try.func31, Try.ntmps31; go_wp2; go_ret; exact ⟨rfl, rfl⟩
  rw [okB_t h1 h2 h3 h4 h5 h6]; go_enter Try.func31, Try.ntmps31; go_wp2; go_ret; exact ⟨rfl, rfl⟩

/-- spec.l32Power. -/
theorem power_any (a n : Int) (w : World) (h0 : 0 ≤ a) (h1 : a ≤ 5) (h2 : 0 ≤ n) (h3 : n ≤ 12) :
    Calls Try.prog 30 #[.int .i64 a, .int .i64 n] w fun e w' => e = .returned (.int .i64 (pw 1 a n.toNat)) ∧ w = w' := by
  go_enter Try.func30, Try.ntmps30
  go_wp2
  go_loop [5, 6] (fun v i => ∃ k : Nat, (k : Int) ≤ n ∧ i = .int .i64 k ∧ v = .int .i64 (pw 1 a k)) (fun _ i => n.toNat - (intOf i).toNat)
  case atStart => exact ⟨0, by omega, rfl, rfl⟩
  case round =>
    obtain ⟨k, hk, rfl, rfl⟩ := hrel
    have hp := pw_bd (c := 1) (a := a) (k := k) (by omega) (by omega) h0 h1 (by omega)
    have hq := pw_mul_bd (c := 1) (a := a) (k := k) (by omega) (by omega) h0 h1 (by omega)
    obtain ⟨hp0, hp1⟩ := hp
    obtain ⟨hq0, hq1⟩ := hq
    by_cases hlt : (k : Int) < n
    · go_wp2
      go_round
      case rel => exact ⟨k + 1, by omega, by go_num, rfl⟩
      case measure => simp [intOf]; omega
    · have hkn : n.toNat = k := by omega
      have H := Lib.hid hkn
      clear hkn
      go_wp2
      go_ret
      exact ⟨ret_int (by rw [H.out]), rfl⟩
end Go.Proofs.Ytjidddahlkmjpaa
