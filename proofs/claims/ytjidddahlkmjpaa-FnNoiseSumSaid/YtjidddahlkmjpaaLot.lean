/-
  The walks of NoiseDraw, the program's and the reference's: both return the same, for all arguments of their types.
-/
import Derived.Test.YtjidddahlkmjpaaLikely
namespace Go.Proofs.Ytjidddahlkmjpaa
open Go.RowKit

/-- What NoiseDraw leaves where the lot is in range. -/
def LotQ (n a x lot : Int) (w : World) (e : Ending) (w' : World) : Prop :=
  ∃ y : Nat, e = .returned (.int .i64 (y : Int)) ∧ (y : Int) ≤ n ∧ sm n a x y ≤ lot ∧ lot < sm n a x (y + 1) ∧ w = w'

/-- impl.NoiseDraw. -/
theorem lot_no (n a x lot : Int) (w : World) (h : lot < 0 ∨ tv n a x ≤ lot) :
    Calls Try.prog 25 #[.int .i64 n, .int .i64 a, .int .i64 x, .int .i64 lot] w fun e w' => e = .returned (.int .i64 (-1)) ∧ w = w' := by
  by_cases h0 : lot < 0
  · clear h
    go_enter Try.func25, Try.ntmps25
    go_wp2_with (go_at_call 20; refine (total_any _ _ _ _).mono ?_; rintro e w' ⟨rfl, rfl⟩)
    go_ret
    exact ⟨rfl, rfl⟩
  · have h1 : tv n a x ≤ lot := by omega
    clear h
    go_enter Try.func25, Try.ntmps25
    go_wp2_with (go_at_call 20; refine (total_any _ _ _ _).mono ?_; rintro e w' ⟨rfl, rfl⟩)
    go_ret
    exact ⟨rfl, rfl⟩

set_option maxHeartbeats 800000 in
theorem lot_yes (n a x lot : Int) (w : World) (n1 : 1 ≤ n) (n2 : n ≤ 12) (a1 : 2 ≤ a) (a2 : a ≤ 5) (x1 : 0 ≤ x) (x2 : x ≤ n) (l0 : 0 ≤ lot) (l1 : lot < tv n a x) :
    Calls Try.prog 25 #[.int .i64 n, .int .i64 a, .int .i64 x, .int .i64 lot] w (LotQ n a x lot w) := by
  have HT := Lib.hid (tv_t (n := n) (a := a) (x := x) ⟨n1, n2, a1, a2, x1, x2⟩)
  have HB := (sm_bd n1 n2 a1 a2 x1 x2 (n.toNat + 1) (by omega)).2
  have lb : lot ≤ 20000000000 := by have := HT.out; omega
  clear HB
  go_enter Try.func25, Try.ntmps25
  go_wp2_with (go_at_call 20; refine (total_any _ _ _ _).mono ?_; rintro e w' ⟨rfl, rfl⟩)
  go_loop [3, 9] (fun l i => ∃ k : Nat, (k : Int) ≤ n ∧ sm n a x k ≤ lot ∧ i = .int .i64 k ∧ l = .int .i64 (lot - sm n a x k)) (fun _ i => (n + 1).toNat - (intOf i).toNat)
  case atStart => exact ⟨0, by omega, by simp only [sm]; omega, rfl, by simp [sm]⟩
  case round =>
    obtain ⟨k, hk, hle, rfl, rfl⟩ := hrel
    have hs := sm_bd n1 n2 a1 a2 x1 x2 k (by omega)
    obtain ⟨hs0, hs1⟩ := hs
    have hw := wv_bd (n := n) (a := a) (x := x) (y := (k : Nat)) ⟨n1, n2, a1, a2, x1, x2, by omega, by omega⟩
    obtain ⟨hw0, hw1⟩ := hw
    have H := Lib.hid (sm_succ n1 n2 a1 a2 x1 x2 k (by omega))
    by_cases hlt : wv n a x (k : Nat) ≤ lot - sm n a x k
    · have hkn : (k : Int) < n := by
        rcases Int.lt_or_eq_of_le hk with h | h
        · exact h
        · have e1 := HT.out
          have e2 := H.out
          rw [show n.toNat + 1 = k + 1 from by omega] at e1
          omega
      go_wp2_with (go_at_call 18; refine (weight_any _ _ _ _ _).mono ?_; rintro e w' ⟨rfl, rfl⟩)
      go_round
      case rel => exact ⟨k + 1, by omega, by rw [← H.out]; omega, by go_num, by rw [← H.out]; congr 1; omega⟩
      case measure => simp [intOf]; omega
    · go_wp2_with (go_at_call 18; refine (weight_any _ _ _ _ _).mono ?_; rintro e w' ⟨rfl, rfl⟩)
      go_ret
      exact ⟨k, rfl, hk, hle, by rw [← H.out]; omega, rfl⟩

/-- spec.NoiseDraw. -/
theorem slot_no (n a x lot : Int) (w : World) (h : lot < 0 ∨ tv n a x ≤ lot) (ht : -1 ≤ tv n a x) (ht' : tv n a x ≤ 20000000000) :
    Calls Try.prog 24 #[.int .i64 n, .int .i64 a, .int .i64 x, .int .i64 lot] w fun e w' => e = .returned (.int .i64 (-1)) ∧ w = w' := by
  have hb : inB lot 0 (tv n a x - 1) = false := inB_f (by omega)
  clear h
  go_enter Try.func24, Try.ntmps24
  go_wp2_with (first | (go_at_call 19; refine (stotal_any _ _ _ _).mono ?_; rintro e w' ⟨rfl, rfl⟩) | (go_at_call 29; refine (l6In_any _ _ _ _).mono ?_; rintro e w' ⟨rfl, rfl⟩))
  go_ret
  exact ⟨rfl, rfl⟩

set_option maxHeartbeats 800000 in
theorem slot_yes (n a x lot : Int) (w : World) (n1 : 1 ≤ n) (n2 : n ≤ 12) (a1 : 2 ≤ a) (a2 : a ≤ 5) (x1 : 0 ≤ x) (x2 : x ≤ n) (l0 : 0 ≤ lot) (l1 : lot < tv n a x) :
    Calls Try.prog 24 #[.int .i64 n, .int .i64 a, .int .i64 x, .int .i64 lot] w (LotQ n a x lot w) := by
  have HT := Lib.hid (tv_t (n := n) (a := a) (x := x) ⟨n1, n2, a1, a2, x1, x2⟩)
  have HB := (sm_bd n1 n2 a1 a2 x1 x2 (n.toNat + 1) (by omega)).2
  have tb : tv n a x ≤ 20000000000 := by have := HT.out; omega
  have lb : lot ≤ 20000000000 := by omega
  have hb : inB lot 0 (tv n a x - 1) = true := inB_t l0 (by omega)
  have H0 := Lib.hid (sm_succ n1 n2 a1 a2 x1 x2 0 (by omega))
  clear HB
  go_enter Try.func24, Try.ntmps24
  go_wp2_with (first | (go_at_call 19; refine (stotal_any _ _ _ _).mono ?_; rintro e w' ⟨rfl, rfl⟩) | (go_at_call 29; refine (l6In_any _ _ _ _).mono ?_; rintro e w' ⟨rfl, rfl⟩) | (go_at_call 17; refine (sweight_any _ _ _ _ _).mono ?_; rintro e w' ⟨rfl, rfl⟩))
  go_loop [9, 10] (fun i s => ∃ k : Nat, (k : Int) ≤ n ∧ sm n a x k ≤ lot ∧ i = .int .i64 k ∧ s = .int .i64 (sm n a x (k + 1))) (fun i _ => (n + 1).toNat - (intOf i).toNat)
  case atStart => exact ⟨0, by omega, by simp only [sm]; omega, rfl, by rw [← H0.out]; simp [sm]⟩
  case round =>
    obtain ⟨k, hk, hle, rfl, rfl⟩ := hrel
    have hs := sm_bd n1 n2 a1 a2 x1 x2 (k + 1) (by omega)
    obtain ⟨hs0, hs1⟩ := hs
    by_cases hlt : sm n a x (k + 1) ≤ lot
    · have hkn : (k : Int) < n := by
        rcases Int.lt_or_eq_of_le hk with h | h
        · exact h
        · have e1 := HT.out
          rw [show n.toNat + 1 = k + 1 from by omega] at e1
          omega
      have hw := wv_bd (n := n) (a := a) (x := x) (y := (k : Int) + 1) ⟨n1, n2, a1, a2, x1, x2, by omega, by omega⟩
      obtain ⟨hw0, hw1⟩ := hw
      have H := Lib.hid (sm_succ n1 n2 a1 a2 x1 x2 (k + 1) (by omega))
      go_wp2_with (go_at_call 17; refine (sweight_any _ _ _ _ _).mono ?_; rintro e w' ⟨rfl, rfl⟩)
      go_round
      case rel => exact ⟨k + 1, by omega, hlt, by go_num, by rw [← H.out]; rfl⟩
      case measure => simp [intOf]; omega
    · go_wp2
      go_ret
      exact ⟨k, rfl, hk, hle, by omega, rfl⟩

theorem tv_bd (n a x : Int) : -1 ≤ tv n a x ∧ tv n a x ≤ 20000000000 := by
  by_cases h : 1 ≤ n ∧ n ≤ 12 ∧ 2 ≤ a ∧ a ≤ 5 ∧ 0 ≤ x ∧ x ≤ n
  · rw [tv_t h]
    have := sm_bd h.1 h.2.1 h.2.2.1 h.2.2.2.1 h.2.2.2.2.1 h.2.2.2.2.2 (n.toNat + 1) (by omega)
    omega
  · rw [tv_f h]; omega
end Go.Proofs.Ytjidddahlkmjpaa
