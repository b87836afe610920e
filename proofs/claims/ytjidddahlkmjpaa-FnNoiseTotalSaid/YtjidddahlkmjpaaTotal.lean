/-
  The walks of NoiseTotal, NoiseLikely and NoiseDraw, the program's and the reference's: both return the same, for all arguments of their types.
-/
import Derived.Test.YtjidddahlkmjpaaWeight
namespace Go.Proofs.Ytjidddahlkmjpaa
open Go.RowKit

theorem wv_bd {n a x y : Int} (h : Ok4 n a x y) : 1 ≤ wv n a x y ∧ wv n a x y ≤ 1220703125 := by rw [wv_t h]; exact wt_bd h
theorem sm_bd {n a x : Int} (n1 : 1 ≤ n) (n2 : n ≤ 12) (a1 : 2 ≤ a) (a2 : a ≤ 5) (x1 : 0 ≤ x) (x2 : x ≤ n) (k : Nat) (hk : (k : Int) ≤ n + 1) : 0 ≤ sm n a x k ∧ sm n a x k ≤ 1220703125 * k := by
  induction k with
  | zero => simp [sm]
  | succ k ih =>
    have h := wt_bd (n := n) (a := a) (x := x) (y := (k : Nat)) ⟨n1, n2, a1, a2, x1, x2, by omega, by omega⟩
    have ih := ih (by omega)
    simp only [sm]
    omega
theorem sm_succ {n a x : Int} (n1 : 1 ≤ n) (n2 : n ≤ 12) (a1 : 2 ≤ a) (a2 : a ≤ 5) (x1 : 0 ≤ x) (x2 : x ≤ n) (k : Nat) (hk : (k : Int) ≤ n) : sm n a x k + wv n a x (k : Nat) = sm n a x (k + 1) := by
  rw [wv_t ⟨n1, n2, a1, a2, x1, x2, by omega, by omega⟩]; rfl

/-- impl.NoiseTotal. -/
theorem total_no (n a x : Int) (w : World) (h : okB n a x = false) :
    Calls Try.prog 20 #[.int .i64 n, .int .i64 a, .int .i64 x] w fun e w' => e = .returned (.int .i64 (-1)) ∧ w = w' := by
  go_enter Try.func20, Try.ntmps20
  go_wp2_with (go_at_call 31; refine (valid_any _ _ _ _).mono ?_; rintro e w' ⟨rfl, rfl⟩)
  go_ret
  exact ⟨rfl, rfl⟩

set_option maxHeartbeats 400000 in
theorem total_yes (n a x : Int) (w : World) (n1 : 1 ≤ n) (n2 : n ≤ 12) (a1 : 2 ≤ a) (a2 : a ≤ 5) (x1 : 0 ≤ x) (x2 : x ≤ n) :
    Calls Try.prog 20 #[.int .i64 n, .int .i64 a, .int .i64 x] w fun e w' => e = .returned (.int .i64 (sm n a x (n.toNat + 1))) ∧ w = w' := by
  have hb : okB n a x = true := okB_t n1 n2 a1 a2 x1 x2
  go_enter Try.func20, Try.ntmps20
  go_wp2_with (go_at_call 31; refine (valid_any _ _ _ _).mono ?_; rintro e w' ⟨rfl, rfl⟩)
  go_loop [7, 8, 16] (fun s _ i => ∃ k : Nat, (k : Int) ≤ n + 1 ∧ i = .int .i64 k ∧ s = .int .i64 (sm n a x k)) (fun _ _ i => (n + 1).toNat - (intOf i).toNat)
  case atStart => exact ⟨0, by omega, rfl, rfl⟩
  case round =>
    obtain ⟨k, hk, rfl, rfl⟩ := hrel
    have hs := sm_bd n1 n2 a1 a2 x1 x2 k hk
    obtain ⟨hs0, hs1⟩ := hs
    by_cases hlt : (k : Int) < n + 1
    · have hw := wv_bd (n := n) (a := a) (x := x) (y := (k : Nat)) ⟨n1, n2, a1, a2, x1, x2, by omega, by omega⟩
      obtain ⟨hw0, hw1⟩ := hw
      have H := Lib.hid (sm_succ n1 n2 a1 a2 x1 x2 k (by omega))
      go_wp2_with (go_at_call 18; refine (weight_any _ _ _ _ _).mono ?_; rintro e w' ⟨rfl, rfl⟩)
      go_round
      case rel => exact ⟨k + 1, by omega, by go_num, by rw [← H.out]⟩
      case measure => simp [intOf]; omega
    · go_wp2
      go_ret
      exact ⟨ret_int (by rw [show n.toNat + 1 = k from by omega]), rfl⟩

theorem total_any (n a x : Int) (w : World) :
    Calls Try.prog 20 #[.int .i64 n, .int .i64 a, .int .i64 x] w fun e w' => e = .returned (.int .i64 (tv n a x)) ∧ w = w' := by
  by_cases h : 1 ≤ n ∧ n ≤ 12 ∧ 2 ≤ a ∧ a ≤ 5 ∧ 0 ≤ x ∧ x ≤ n
  · rw [tv_t h]; exact total_yes n a x w h.1 h.2.1 h.2.2.1 h.2.2.2.1 h.2.2.2.2.1 h.2.2.2.2.2
  · rw [tv_f h]; exact total_no n a x w (okB_f h)

/-- spec.NoiseTotal. -/
theorem stotal_no (n a x : Int) (w : World) (h : ¬ (1 ≤ n ∧ n ≤ 12 ∧ 2 ≤ a ∧ a ≤ 5 ∧ 0 ≤ x ∧ x ≤ n)) :
    Calls Try.prog 19 #[.int .i64 n, .int .i64 a, .int .i64 x] w fun e w' => e = .returned (.int .i64 (-1)) ∧ w = w' := by
  cases hb : (inB n 1 12 && inB a 2 5)
  · clear h
    go_enter Try.func19, Try.ntmps19
    go_wp2_with (go_at_call 28; refine (l32Ok_any _ _ _).mono ?_; rintro e w' ⟨rfl, rfl⟩)
    go_ret
    exact ⟨rfl, rfl⟩
  · have hx : inB x 0 n = false := inB_f (by simp [inB] at hb; omega)
    clear h
    go_enter Try.func19, Try.ntmps19
    go_wp2_with (first | (go_at_call 28; refine (l32Ok_any _ _ _).mono ?_; rintro e w' ⟨rfl, rfl⟩) | (go_at_call 29; refine (l6In_any _ _ _ _).mono ?_; rintro e w' ⟨rfl, rfl⟩))
    go_ret
    exact ⟨rfl, rfl⟩

set_option maxHeartbeats 400000 in
theorem stotal_yes (n a x : Int) (w : World) (n1 : 1 ≤ n) (n2 : n ≤ 12) (a1 : 2 ≤ a) (a2 : a ≤ 5) (x1 : 0 ≤ x) (x2 : x ≤ n) :
    Calls Try.prog 19 #[.int .i64 n, .int .i64 a, .int .i64 x] w fun e w' => e = .returned (.int .i64 (sm n a x (n.toNat + 1))) ∧ w = w' := by
  have hb1 : inB n 1 12 = true := inB_t n1 n2
  have hb2 : inB a 2 5 = true := inB_t a1 a2
  have hb3 : inB x 0 n = true := inB_t x1 x2
  go_enter Try.func19, Try.ntmps19
  go_wp2_with (first | (go_at_call 28; refine (l32Ok_any _ _ _).mono ?_; rintro e w' ⟨rfl, rfl⟩) | (go_at_call 29; refine (l6In_any _ _ _ _).mono ?_; rintro e w' ⟨rfl, rfl⟩))
  go_loop [7, 8] (fun s i => ∃ k : Nat, (k : Int) ≤ n + 1 ∧ i = .int .i64 k ∧ s = .int .i64 (sm n a x k)) (fun _ i => (n + 1).toNat - (intOf i).toNat)
  case atStart => exact ⟨0, by omega, rfl, rfl⟩
  case round =>
    obtain ⟨k, hk, rfl, rfl⟩ := hrel
    have hs := sm_bd n1 n2 a1 a2 x1 x2 k hk
    obtain ⟨hs0, hs1⟩ := hs
    by_cases hlt : (k : Int) ≤ n
    · have hw := wv_bd (n := n) (a := a) (x := x) (y := (k : Nat)) ⟨n1, n2, a1, a2, x1, x2, by omega, by omega⟩
      obtain ⟨hw0, hw1⟩ := hw
      have H := Lib.hid (sm_succ n1 n2 a1 a2 x1 x2 k (by omega))
      go_wp2_with (go_at_call 17; refine (sweight_any _ _ _ _ _).mono ?_; rintro e w' ⟨rfl, rfl⟩)
      go_round
      case rel => exact ⟨k + 1, by omega, by go_num, by rw [← H.out]⟩
      case measure => simp [intOf]; omega
    · go_wp2
      go_ret
      exact ⟨ret_int (by rw [show n.toNat + 1 = k from by omega]), rfl⟩

theorem stotal_any (n a x : Int) (w : World) :
    Calls Try.prog 19 #[.int .i64 n, .int .i64 a, .int .i64 x] w fun e w' => e = .returned (.int .i64 (tv n a x)) ∧ w = w' := by
  by_cases h : 1 ≤ n ∧ n ≤ 12 ∧ 2 ≤ a ∧ a ≤ 5 ∧ 0 ≤ x ∧ x ≤ n
  · rw [tv_t h]; exact stotal_yes n a x w h.1 h.2.1 h.2.2.1 h.2.2.2.1 h.2.2.2.2.1 h.2.2.2.2.2
  · rw [tv_f h]; exact stotal_no n a x w h
end Go.Proofs.Ytjidddahlkmjpaa
