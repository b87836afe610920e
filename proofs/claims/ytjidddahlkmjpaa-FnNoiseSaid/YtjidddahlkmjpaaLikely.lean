/-
  The walks of NoiseLikely and NoiseDraw, the program's and the reference's: both return the same, for all arguments of their types.
-/
import Derived.Test.YtjidddahlkmjpaaTotal
namespace Go.Proofs.Ytjidddahlkmjpaa
open Go.RowKit

theorem bst_more {n a y : Int} {k : Nat} (h1 : Ok4 n a (bst n a y k) y) (h2 : Ok4 n a (k : Nat) y) (h : wv n a (bst n a y k) y < wv n a (k : Nat) y) : bst n a y (k + 1) = (k : Nat) := by
  rw [wv_t h1, wv_t h2] at h; simp only [bst]; rw [if_pos h]
theorem bst_less {n a y : Int} {k : Nat} (h1 : Ok4 n a (bst n a y k) y) (h2 : Ok4 n a (k : Nat) y) (h : ¬ wv n a (bst n a y k) y < wv n a (k : Nat) y) : bst n a y (k + 1) = bst n a y k := by
  rw [wv_t h1, wv_t h2] at h; simp only [bst]; rw [if_neg h]

/-- impl.NoiseLikely. -/
theorem likely_no (n a y : Int) (w : World) (h : okB n a y = false) :
    Calls Try.prog 22 #[.int .i64 n, .int .i64 a, .int .i64 y] w fun e w' => e = .returned (.int .i64 (-1)) ∧ w = w' := by
  go_enter Try.func22, Try.ntmps22
  go_wp2_with (go_at_call 31; refine (valid_any _ _ _ _).mono ?_; rintro e w' ⟨rfl, rfl⟩)
  go_ret
  exact ⟨rfl, rfl⟩

set_option maxHeartbeats 800000 in
theorem likely_yes (n a y : Int) (w : World) (n1 : 1 ≤ n) (n2 : n ≤ 12) (a1 : 2 ≤ a) (a2 : a ≤ 5) (y1 : 0 ≤ y) (y2 : y ≤ n) :
    Calls Try.prog 22 #[.int .i64 n, .int .i64 a, .int .i64 y] w fun e w' => e = .returned (.int .i64 y) ∧ w = w' := by
  have hb : okB n a y = true := okB_t n1 n2 a1 a2 y1 y2
  have HA := Lib.hid (bst_all (n := n) (a := a) (y := y) ⟨n1, n2, a1, a2, by omega, by omega, y1, y2⟩)
  go_enter Try.func22, Try.ntmps22
  go_wp2_with (go_at_call 31; refine (valid_any _ _ _ _).mono ?_; rintro e w' ⟨rfl, rfl⟩)
  go_loop [7, 8, 16] (fun s _ i => ∃ k : Nat, (k : Int) ≤ n + 1 ∧ i = .int .i64 k ∧ s = .int .i64 (bst n a y k)) (fun _ _ i => (n + 1).toNat - (intOf i).toNat)
  case atStart => exact ⟨0, by omega, rfl, rfl⟩
  case round =>
    obtain ⟨k, hk, rfl, rfl⟩ := hrel
    have hs := bst_bd (n := n) (a := a) (y := y) ⟨n1, n2, a1, a2, by omega, by omega, y1, y2⟩ k hk
    obtain ⟨hs0, hs1⟩ := hs
    by_cases hlt : (k : Int) < n + 1
    · have H1 : Ok4 n a (bst n a y k) y := ⟨n1, n2, a1, a2, by omega, by omega, by omega, by omega⟩
      have H2 : Ok4 n a (k : Nat) y := ⟨n1, n2, a1, a2, by omega, by omega, by omega, by omega⟩
      by_cases hm : wv n a (bst n a y k) y < wv n a (k : Nat) y
      · have H := Lib.hid (bst_more H1 H2 hm)
        go_wp2_with (go_at_call 18; refine (weight_any _ _ _ _ _).mono ?_; rintro e w' ⟨rfl, rfl⟩)
        go_round
        case rel => exact ⟨k + 1, by omega, by go_num, by rw [H.out]⟩
        case measure => simp [intOf]; omega
      · have H := Lib.hid (bst_less H1 H2 hm)
        go_wp2_with (go_at_call 18; refine (weight_any _ _ _ _ _).mono ?_; rintro e w' ⟨rfl, rfl⟩)
        go_round
        case rel => exact ⟨k + 1, by omega, by go_num, by rw [H.out]⟩
        case measure => simp [intOf]; omega
    · go_wp2
      go_ret
      exact ⟨ret_int (by have h := HA.out; rw [show n.toNat + 1 = k from by omega] at h; exact h), rfl⟩

/-- spec.NoiseLikely. -/
theorem slikely_no (n a x : Int) (w : World) (h : ¬ (1 ≤ n ∧ n ≤ 12 ∧ 2 ≤ a ∧ a ≤ 5 ∧ 0 ≤ x ∧ x ≤ n)) :
    Calls Try.prog 21 #[.int .i64 n, .int .i64 a, .int .i64 x] w fun e w' => e = .returned (.int .i64 (-1)) ∧ w = w' := by
  cases hb : (inB n 1 12 && inB a 2 5)
  · clear h
    go_enter Try.func21, Try.ntmps21
    go_wp2_with (go_at_call 28; refine (l32Ok_any _ _ _).mono ?_; rintro e w' ⟨rfl, rfl⟩)
    go_ret
    exact ⟨rfl, rfl⟩
  · have hx : inB x 0 n = false := inB_f (by simp [inB] at hb; omega)
    clear h
    go_enter Try.func21, Try.ntmps21
    go_wp2_with (first | (go_at_call 28; refine (l32Ok_any _ _ _).mono ?_; rintro e w' ⟨rfl, rfl⟩) | (go_at_call 29; refine (l6In_any _ _ _ _).mono ?_; rintro e w' ⟨rfl, rfl⟩))
    go_ret
    exact ⟨rfl, rfl⟩

set_option maxHeartbeats 800000 in
theorem slikely_yes (n a y : Int) (w : World) (n1 : 1 ≤ n) (n2 : n ≤ 12) (a1 : 2 ≤ a) (a2 : a ≤ 5) (y1 : 0 ≤ y) (y2 : y ≤ n) :
    Calls Try.prog 21 #[.int .i64 n, .int .i64 a, .int .i64 y] w fun e w' => e = .returned (.int .i64 y) ∧ w = w' := by
  have hb1 : inB n 1 12 = true := inB_t n1 n2
  have hb2 : inB a 2 5 = true := inB_t a1 a2
  have hb3 : inB y 0 n = true := inB_t y1 y2
  have HA := Lib.hid (bst_all (n := n) (a := a) (y := y) ⟨n1, n2, a1, a2, by omega, by omega, y1, y2⟩)
  go_enter Try.func21, Try.ntmps21
  go_wp2_with (first | (go_at_call 28; refine (l32Ok_any _ _ _).mono ?_; rintro e w' ⟨rfl, rfl⟩) | (go_at_call 29; refine (l6In_any _ _ _ _).mono ?_; rintro e w' ⟨rfl, rfl⟩))
  go_loop [7, 8] (fun s i => ∃ k : Nat, (k : Int) ≤ n + 1 ∧ i = .int .i64 k ∧ s = .int .i64 (bst n a y k)) (fun _ i => (n + 1).toNat - (intOf i).toNat)
  case atStart => exact ⟨0, by omega, rfl, rfl⟩
  case round =>
    obtain ⟨k, hk, rfl, rfl⟩ := hrel
    have hs := bst_bd (n := n) (a := a) (y := y) ⟨n1, n2, a1, a2, by omega, by omega, y1, y2⟩ k hk
    obtain ⟨hs0, hs1⟩ := hs
    by_cases hlt : (k : Int) ≤ n
    · have H1 : Ok4 n a (bst n a y k) y := ⟨n1, n2, a1, a2, by omega, by omega, by omega, by omega⟩
      have H2 : Ok4 n a (k : Nat) y := ⟨n1, n2, a1, a2, by omega, by omega, by omega, by omega⟩
      by_cases hm : wv n a (bst n a y k) y < wv n a (k : Nat) y
      · have H := Lib.hid (bst_more H1 H2 hm)
        go_wp2_with (go_at_call 17; refine (sweight_any _ _ _ _ _).mono ?_; rintro e w' ⟨rfl, rfl⟩)
        go_round
        case rel => exact ⟨k + 1, by omega, by go_num, by rw [H.out]⟩
        case measure => simp [intOf]; omega
      · have H := Lib.hid (bst_less H1 H2 hm)
        go_wp2_with (go_at_call 17; refine (sweight_any _ _ _ _ _).mono ?_; rintro e w' ⟨rfl, rfl⟩)
        go_round
        case rel => exact ⟨k + 1, by omega, by go_num, by rw [H.out]⟩
        case measure => simp [intOf]; omega
    · go_wp2
      go_ret
      exact ⟨ret_int (by have h := HA.out; rw [show n.toNat + 1 = k from by omega] at h; exact h), rfl⟩

/-- What NoiseLikely returns. -/
def lv (n a y : Int) : Int := if 1 ≤ n ∧ n ≤ 12 ∧ 2 ≤ a ∧ a ≤ 5 ∧ 0 ≤ y ∧ y ≤ n then y else -1
theorem likely_any (n a y : Int) (w : World) :
    Calls Try.prog 22 #[.int .i64 n, .int .i64 a, .int .i64 y] w fun e w' => e = .returned (.int .i64 (lv n a y)) ∧ w = w' := by
  unfold lv
  by_cases h : 1 ≤ n ∧ n ≤ 12 ∧ 2 ≤ a ∧ a ≤ 5 ∧ 0 ≤ y ∧ y ≤ n
  · rw [if_pos h]; exact likely_yes n a y w h.1 h.2.1 h.2.2.1 h.2.2.2.1 h.2.2.2.2.1 h.2.2.2.2.2
  · rw [if_neg h]; exact likely_no n a y w (okB_f h)
theorem slikely_any (n a y : Int) (w : World) :
    Calls Try.prog 21 #[.int .i64 n, .int .i64 a, .int .i64 y] w fun e w' => e = .returned (.int .i64 (lv n a y)) ∧ w = w' := by
  unfold lv
  by_cases h : 1 ≤ n ∧ n ≤ 12 ∧ 2 ≤ a ∧ a ≤ 5 ∧ 0 ≤ y ∧ y ≤ n
  · rw [if_pos h]; exact slikely_yes n a y w h.1 h.2.1 h.2.2.1 h.2.2.2.1 h.2.2.2.2.1 h.2.2.2.2.2
  · rw [if_neg h]; exact slikely_no n a y w h

/-- Where the lot falls: the one y whose partial sums enclose it. -/
theorem lot_unique {n a x lot : Int} (n1 : 1 ≤ n) (n2 : n ≤ 12) (a1 : 2 ≤ a) (a2 : a ≤ 5) (x1 : 0 ≤ x) (x2 : x ≤ n) {p q : Nat} (hp : (p : Int) ≤ n) (hq : (q : Int) ≤ n)
    (h1 : sm n a x p ≤ lot) (h2 : lot < sm n a x (p + 1)) (h3 : sm n a x q ≤ lot) (h4 : lot < sm n a x (q + 1)) : p = q := by
  have mono : ∀ d i : Nat, ((i + d : Nat) : Int) ≤ n + 1 → sm n a x i ≤ sm n a x (i + d) := by
    intro d
    induction d with
    | zero => intro i _; exact Int.le_refl _
    | succ d ih =>
      intro i hi
      have := ih i (by omega)
      have hw := wt_bd (n := n) (a := a) (x := x) (y := ((i + d : Nat) : Int)) ⟨n1, n2, a1, a2, x1, x2, by omega, by omega⟩
      have e : sm n a x (i + (d + 1)) = sm n a x (i + d) + wt n a x ((i + d : Nat) : Int) := rfl
      omega
  rcases Nat.lt_trichotomy p q with h | h | h
  · have := mono (q - (p + 1)) (p + 1) (by omega)
    rw [show p + 1 + (q - (p + 1)) = q from by omega] at this
    omega
  · exact h
  · have := mono (p - (q + 1)) (q + 1) (by omega)
    rw [show q + 1 + (p - (q + 1)) = p from by omega] at this
    omega
end Go.Proofs.Ytjidddahlkmjpaa
