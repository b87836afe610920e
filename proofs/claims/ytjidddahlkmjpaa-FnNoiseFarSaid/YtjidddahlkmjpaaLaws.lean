/-
  The laws of noise over drawn numbers: each returns true for every code, and turns nothing that was there.
-/
import Derived.Test.YtjidddahlkmjpaaLot
import Derived.Test.YtjidddahlkmjpaaDraw
namespace Go.Proofs.Ytjidddahlkmjpaa
open Go.RowKit

theorem wv_neg {n a x y : Int} (h : ¬ (1 ≤ n ∧ n ≤ 12 ∧ 2 ≤ a ∧ a ≤ 5 ∧ 0 ≤ x ∧ x ≤ n ∧ 0 ≤ y ∧ y ≤ n)) : wv n a x y < 0 := by rw [wv_f h]; omega
theorem wv_next {n a x y : Int} (h : Ok4 n a x y) (hx : x < n) : wv n a (x + 1) y ≤ a * wv n a x y ∧ wv n a x y ≤ a * wv n a (x + 1) y := by
  rw [wv_t h, wv_t (x := x + 1) ⟨h.n1, h.n2, h.a1, h.a2, by have := h.x1; omega, by omega, h.y1, h.y2⟩]; exact wt_next h hx
theorem wv_far {n a x y z : Int} {k : Nat} (h : Ok4 n a x y) (z1 : 0 ≤ z) (z2 : z ≤ n) (hk : (max (x - z) (z - x)).toNat = k) : wv n a x y ≤ pw 1 a k * wv n a z y := by
  rw [wv_t h, wv_t (x := z) ⟨h.n1, h.n2, h.a1, h.a2, z1, z2, h.y1, h.y2⟩, ← hk]; exact wt_far h z1 z2
theorem wv_mirror {n a x y : Int} (h : Ok4 n a x y) : wv n a (n - x) (n - y) = wv n a x y := by
  have h1 := h.x1; have h2 := h.x2; have h3 := h.y1; have h4 := h.y2
  rw [wv_t h, wv_t (x := n - x) (y := n - y) ⟨h.n1, h.n2, h.a1, h.a2, by omega, by omega, by omega, by omega⟩]; exact wt_mirror h
theorem wv_range {n a x y : Int} (h : Ok4 n a x y) (hn : n < 12) (hy : y < n) : wv (n + 1) a x y = a * wv n a x y := by
  have h0 := h.n1; have h1 := h.x1; have h2 := h.x2; have h3 := h.y1; have h4 := h.y2
  rw [wv_t h, wv_t (n := n + 1) ⟨by omega, by omega, h.a1, h.a2, by omega, by omega, by omega, by omega⟩]; exact wt_range h hn hy
theorem wv_near {n a x y z : Int} (h : Ok4 n a x y) (z1 : 0 ≤ z) (z2 : z ≤ n) (hy0 : ¬ y = 0) (hyn : ¬ y = n) (hz0 : ¬ z = 0) (hzn : ¬ z = n) :
    (max (x - y) (y - x) < max (x - z) (z - x) → wv n a x z < wv n a x y) ∧ (max (x - z) (z - x) = max (x - y) (y - x) → wv n a x z = wv n a x y) ∧ (max (x - z) (z - x) < max (x - y) (y - x) → wv n a x y < wv n a x z) := by
  rw [wv_t h, wv_t (y := z) ⟨h.n1, h.n2, h.a1, h.a2, h.x1, h.x2, z1, z2⟩]; exact wt_near h z1 z2 hy0 hyn hz0 hzn
theorem sx_bd {n a y : Int} (n1 : 1 ≤ n) (n2 : n ≤ 12) (a1 : 2 ≤ a) (a2 : a ≤ 5) (y1 : 0 ≤ y) (y2 : y ≤ n) (k : Nat) (hk : (k : Int) ≤ n + 1) : 0 ≤ sx n a y k ∧ sx n a y k ≤ 1220703125 * k := by
  induction k with
  | zero => simp [sx]
  | succ k ih =>
    have h := wt_bd (n := n) (a := a) (x := (k : Nat)) (y := y) ⟨n1, n2, a1, a2, by omega, by omega, y1, y2⟩
    have ih := ih (by omega)
    simp only [sx]
    omega
theorem sx_succ {n a y : Int} (n1 : 1 ≤ n) (n2 : n ≤ 12) (a1 : 2 ≤ a) (a2 : a ≤ 5) (y1 : 0 ≤ y) (y2 : y ≤ n) (k : Nat) (hk : (k : Int) ≤ n) : sx n a y k + wv n a (k : Nat) y = sx n a y (k + 1) := by
  rw [wv_t ⟨n1, n2, a1, a2, by omega, by omega, y1, y2⟩]; rfl
theorem sx_tv {n a x y : Int} (h : Ok4 n a x y) : (y = 0 ∨ y = n → tv n a x ≤ sx n a y (n.toNat + 1)) ∧ (¬ (y = 0 ∨ y = n) → sx n a y (n.toNat + 1) ≤ tv n a x) := by
  have t := sx_sm h
  rw [tv_t ⟨h.n1, h.n2, h.a1, h.a2, h.x1, h.x2⟩]
  exact ⟨fun e => by rwa [if_pos e] at t, fun e => by rwa [if_neg e] at t⟩
theorem sm_pos {n a x : Int} (n1 : 1 ≤ n) (n2 : n ≤ 12) (a1 : 2 ≤ a) (a2 : a ≤ 5) (x1 : 0 ≤ x) (x2 : x ≤ n) : 0 < sm n a x (n.toNat + 1) := by
  have h1 := sm_bd n1 n2 a1 a2 x1 x2 n.toNat (by omega)
  have h2 := wt_bd (n := n) (a := a) (x := x) (y := (n.toNat : Nat)) ⟨n1, n2, a1, a2, x1, x2, by omega, by omega⟩
  have e : sm n a x (n.toNat + 1) = sm n a x n.toNat + wt n a x (n.toNat : Nat) := rfl
  omega
theorem low_succ {n a x : Int} (n1 : 1 ≤ n) (n2 : n ≤ 12) (a1 : 2 ≤ a) (a2 : a ≤ 5) (x1 : 0 ≤ x) (x2 : x ≤ n) (k : Nat) (hk : (k : Int) ≤ n) :
    lowS n a x (k + 1) = if (k : Int) ≤ x then lowS n a x k + wv n a x (k : Nat) else lowS n a x k := by
  rw [wv_t ⟨n1, n2, a1, a2, x1, x2, by omega, by omega⟩]; rfl
theorem high_succ {n a x : Int} (n1 : 1 ≤ n) (n2 : n ≤ 12) (a1 : 2 ≤ a) (a2 : a ≤ 5) (x1 : 0 ≤ x) (x2 : x ≤ n) (k : Nat) (hk : (k : Int) ≤ n) :
    highS n a x (k + 1) = if n - x ≤ (k : Int) then highS n a x k + wv n a (n - x) (k : Nat) else highS n a x k := by
  rw [wv_t ⟨n1, n2, a1, a2, by omega, by omega, by omega, by omega⟩]; rfl
theorem low_bd {n a x : Int} (n1 : 1 ≤ n) (n2 : n ≤ 12) (a1 : 2 ≤ a) (a2 : a ≤ 5) (x1 : 0 ≤ x) (x2 : x ≤ n) (k : Nat) (hk : (k : Int) ≤ n + 1) : 0 ≤ lowS n a x k ∧ lowS n a x k ≤ 1220703125 * k := by
  induction k with
  | zero => simp [lowS]
  | succ k ih =>
    have h := wt_bd (n := n) (a := a) (x := x) (y := (k : Nat)) ⟨n1, n2, a1, a2, x1, x2, by omega, by omega⟩
    have ih := ih (by omega)
    simp only [lowS]
    split <;> omega
theorem high_bd {n a x : Int} (n1 : 1 ≤ n) (n2 : n ≤ 12) (a1 : 2 ≤ a) (a2 : a ≤ 5) (x1 : 0 ≤ x) (x2 : x ≤ n) (k : Nat) (hk : (k : Int) ≤ n + 1) : 0 ≤ highS n a x k ∧ highS n a x k ≤ 1220703125 * k := by
  induction k with
  | zero => simp [highS]
  | succ k ih =>
    have h := wt_bd (n := n) (a := a) (x := n - x) (y := (k : Nat)) ⟨n1, n2, a1, a2, by omega, by omega, by omega, by omega⟩
    have ih := ih (by omega)
    simp only [highS]
    split <;> omega

set_option maxHeartbeats 1000000 in
/-- laws.FnNoise. -/
theorem fnNoise_walk (a0 : Option Addr) (len0 cap0 : Nat) (z0 : List Int) (w : World) (w0 : IsRow8 w a0 len0 cap0 z0) :
    Calls Try.prog 6 #[.slice a0 len0 cap0] w fun e w' => e = .returned (.bool true) ∧ Below w.heap.size w w' := by
  by_cases hl : 1048576 < len0
  · go_enter Try.func6, Try.ntmps6
    go_wp2
    go_ret
    exact ⟨rfl, Below.refl _ _⟩
  go_enter Try.func6, Try.ntmps6
  go_wp2_with fail
  refine (draw_weight a0 len0 cap0 z0 _ w0).mono ?_
  rintro e w1 ⟨n, a, x, y, rfl, ⟨bn0, bn1⟩, ⟨ba0, ba1⟩, ⟨bx0, bx1⟩, ⟨by0, by1⟩, hb⟩
  clear w0
  rcases ok4_or n a x y with h | h
  rotate_left
  · have hneg := wv_neg h
    clear h
    go_wp2_with (first | (go_at_call 17; refine (sweight_any _ _ _ _ _).mono ?_; rintro e w' ⟨rfl, rfl⟩) | (go_at_call 18; refine (weight_any _ _ _ _ _).mono ?_; rintro e w' ⟨rfl, rfl⟩) | (go_at_call 20; refine (total_any _ _ _ _).mono ?_; rintro e w' ⟨rfl, rfl⟩) | (go_at_call 19; refine (stotal_any _ _ _ _).mono ?_; rintro e w' ⟨rfl, rfl⟩) | (go_at_call 22; refine (likely_any _ _ _ _).mono ?_; rintro e w' ⟨rfl, rfl⟩) | (go_at_call 21; refine (slikely_any _ _ _ _).mono ?_; rintro e w' ⟨rfl, rfl⟩))
    go_ret
    exact ⟨rfl, hb⟩
  have hw := wv_bd h
  obtain ⟨hw0, hw1⟩ := hw
  have hwn : ¬ wv n a x y < 0 := by omega
  obtain ⟨n1, n2, a1', a2', x1, x2, y1, y2⟩ := h
  have hm := mul_bd (p := a) (a := wv n a x y) (A := 5) (B := 1220703125) (by omega) a2' (by omega) hw1
  obtain ⟨hm0, hm1⟩ := hm
  by_cases hx : x = n
  · subst hx
    have hn : wv x a (x + 1) y = -1 := wv_f (by omega)
    go_wp2_with (first | (go_at_call 17; refine (sweight_any _ _ _ _ _).mono ?_; rintro e w' ⟨rfl, rfl⟩) | (go_at_call 18; refine (weight_any _ _ _ _ _).mono ?_; rintro e w' ⟨rfl, rfl⟩) | (go_at_call 20; refine (total_any _ _ _ _).mono ?_; rintro e w' ⟨rfl, rfl⟩) | (go_at_call 19; refine (stotal_any _ _ _ _).mono ?_; rintro e w' ⟨rfl, rfl⟩) | (go_at_call 22; refine (likely_any _ _ _ _).mono ?_; rintro e w' ⟨rfl, rfl⟩) | (go_at_call 21; refine (slikely_any _ _ _ _).mono ?_; rintro e w' ⟨rfl, rfl⟩))
    go_ret
    exact ⟨rfl, hb⟩
  have hxn : (x == n) = false := beq_eq_false_iff_ne.2 hx
  have hv := wv_bd (n := n) (a := a) (x := x + 1) (y := y) ⟨n1, n2, a1', a2', by omega, by omega, y1, y2⟩
  obtain ⟨hv0, hv1⟩ := hv
  have hk := mul_bd (p := a) (a := wv n a (x + 1) y) (A := 5) (B := 1220703125) (by omega) a2' (by omega) hv1
  obtain ⟨hk0, hk1⟩ := hk
  have hnx := wv_next (n := n) (a := a) (x := x) (y := y) ⟨n1, n2, a1', a2', x1, x2, y1, y2⟩ (by omega)
  obtain ⟨c1, c2⟩ := hnx
  go_wp2_with (first | (go_at_call 17; refine (sweight_any _ _ _ _ _).mono ?_; rintro e w' ⟨rfl, rfl⟩) | (go_at_call 18; refine (weight_any _ _ _ _ _).mono ?_; rintro e w' ⟨rfl, rfl⟩) | (go_at_call 20; refine (total_any _ _ _ _).mono ?_; rintro e w' ⟨rfl, rfl⟩) | (go_at_call 19; refine (stotal_any _ _ _ _).mono ?_; rintro e w' ⟨rfl, rfl⟩) | (go_at_call 22; refine (likely_any _ _ _ _).mono ?_; rintro e w' ⟨rfl, rfl⟩) | (go_at_call 21; refine (slikely_any _ _ _ _).mono ?_; rintro e w' ⟨rfl, rfl⟩))
  go_ret
  exact ⟨rfl, hb⟩

set_option maxHeartbeats 1000000 in
/-- laws.FnNoiseFar. -/
theorem fnNoiseFar_walk (a0 : Option Addr) (len0 cap0 : Nat) (z0 : List Int) (a1 : Option Addr) (len1 cap1 : Nat) (w : World) (w0 : IsRow8 w a0 len0 cap0 z0) :
    Calls Try.prog 7 #[.slice a0 len0 cap0, .slice a1 len1 cap1] w fun e w' => e = .returned (.bool true) ∧ Below w.heap.size w w' := by
  by_cases hl : 1048576 < len0
  · go_enter Try.func7, Try.ntmps7
    go_wp2
    go_ret
    exact ⟨rfl, Below.refl _ _⟩
  by_cases hl1 : 1048576 < len1
  · go_enter Try.func7, Try.ntmps7
    go_wp2
    go_ret
    exact ⟨rfl, Below.refl _ _⟩
  go_enter Try.func7, Try.ntmps7
  go_wp2_with fail
  refine (draw_weight a0 len0 cap0 z0 _ w0).mono ?_
  rintro e w1 ⟨n, a, x, y, rfl, ⟨bn0, bn1⟩, ⟨ba0, ba1⟩, ⟨bx0, bx1⟩, ⟨by0, by1⟩, hb⟩
  clear w0
  rcases ok4_or n a x y with h | h
  rotate_left
  · have hneg := wv_neg h
    clear h
    go_wp2_with (first | (go_at_call 17; refine (sweight_any _ _ _ _ _).mono ?_; rintro e w' ⟨rfl, rfl⟩) | (go_at_call 18; refine (weight_any _ _ _ _ _).mono ?_; rintro e w' ⟨rfl, rfl⟩) | (go_at_call 20; refine (total_any _ _ _ _).mono ?_; rintro e w' ⟨rfl, rfl⟩) | (go_at_call 19; refine (stotal_any _ _ _ _).mono ?_; rintro e w' ⟨rfl, rfl⟩) | (go_at_call 22; refine (likely_any _ _ _ _).mono ?_; rintro e w' ⟨rfl, rfl⟩) | (go_at_call 21; refine (slikely_any _ _ _ _).mono ?_; rintro e w' ⟨rfl, rfl⟩))
    go_ret
    exact ⟨rfl, hb⟩
  have hw := wv_bd h
  obtain ⟨hw0, hw1⟩ := hw
  have hwn : ¬ wv n a x y < 0 := by omega
  obtain ⟨n1, n2, a1', a2', x1, x2, y1, y2⟩ := h
  have zz0 : 0 ≤ ((len1 : Int) % (n + 1)) := Int.emod_nonneg _ (by omega)
  have zz1 : ((len1 : Int) % (n + 1)) < n + 1 := Int.emod_lt_of_pos _ (by omega)
  by_cases hxz : x < ((len1 : Int) % (n + 1))
  · go_wp2_with (first | (go_at_call 17; refine (sweight_any _ _ _ _ _).mono ?_; rintro e w' ⟨rfl, rfl⟩) | (go_at_call 18; refine (weight_any _ _ _ _ _).mono ?_; rintro e w' ⟨rfl, rfl⟩) | (go_at_call 20; refine (total_any _ _ _ _).mono ?_; rintro e w' ⟨rfl, rfl⟩) | (go_at_call 19; refine (stotal_any _ _ _ _).mono ?_; rintro e w' ⟨rfl, rfl⟩) | (go_at_call 22; refine (likely_any _ _ _ _).mono ?_; rintro e w' ⟨rfl, rfl⟩) | (go_at_call 21; refine (slikely_any _ _ _ _).mono ?_; rintro e w' ⟨rfl, rfl⟩))
    go_loop [12, 13] (fun v i => ∃ k : Nat, (k : Int) ≤ ((len1 : Int) % (n + 1)) - x ∧ i = .int .i64 k ∧ v = .int .i64 (pw 1 a k)) (fun _ i => (((len1 : Int) % (n + 1)) - x).toNat - (intOf i).toNat)
    case atStart => exact ⟨0, by omega, rfl, rfl⟩
    case round =>
      obtain ⟨k, hk, rfl, rfl⟩ := hrel
      have hp := pw_bd (c := 1) (a := a) (k := k) (by omega) (by omega) (by omega) a2' (by omega)
      have hq := pw_mul_bd (c := 1) (a := a) (k := k) (by omega) (by omega) (by omega) a2' (by omega)
      obtain ⟨hp0, hp1⟩ := hp
      obtain ⟨hq0, hq1⟩ := hq
      by_cases hlt : (k : Int) < ((len1 : Int) % (n + 1)) - x
      · go_wp2
        go_round
        case rel => exact ⟨k + 1, by omega, by go_num, rfl⟩
        case measure => simp [intOf]; omega
      · have hfar := wv_far (n := n) (a := a) (x := x) (y := y) (z := ((len1 : Int) % (n + 1))) (k := k) ⟨n1, n2, a1', a2', x1, x2, y1, y2⟩ zz0 (by omega) (by omega)
        have hz := wv_bd (n := n) (a := a) (x := ((len1 : Int) % (n + 1))) (y := y) ⟨n1, n2, a1', a2', zz0, by omega, y1, y2⟩
        obtain ⟨hz0, hz1⟩ := hz
        have hm := mul_bd hp0 hp1 (a := wv n a ((len1 : Int) % (n + 1)) y) (B := 1220703125) (by omega) hz1
        obtain ⟨hm0, hm1⟩ := hm
        go_wp2_with (first | (go_at_call 17; refine (sweight_any _ _ _ _ _).mono ?_; rintro e w' ⟨rfl, rfl⟩) | (go_at_call 18; refine (weight_any _ _ _ _ _).mono ?_; rintro e w' ⟨rfl, rfl⟩) | (go_at_call 20; refine (total_any _ _ _ _).mono ?_; rintro e w' ⟨rfl, rfl⟩) | (go_at_call 19; refine (stotal_any _ _ _ _).mono ?_; rintro e w' ⟨rfl, rfl⟩) | (go_at_call 22; refine (likely_any _ _ _ _).mono ?_; rintro e w' ⟨rfl, rfl⟩) | (go_at_call 21; refine (slikely_any _ _ _ _).mono ?_; rintro e w' ⟨rfl, rfl⟩))
        go_ret
        exact ⟨rfl, hb⟩
  go_wp2_with (first | (go_at_call 17; refine (sweight_any _ _ _ _ _).mono ?_; rintro e w' ⟨rfl, rfl⟩) | (go_at_call 18; refine (weight_any _ _ _ _ _).mono ?_; rintro e w' ⟨rfl, rfl⟩) | (go_at_call 20; refine (total_any _ _ _ _).mono ?_; rintro e w' ⟨rfl, rfl⟩) | (go_at_call 19; refine (stotal_any _ _ _ _).mono ?_; rintro e w' ⟨rfl, rfl⟩) | (go_at_call 22; refine (likely_any _ _ _ _).mono ?_; rintro e w' ⟨rfl, rfl⟩) | (go_at_call 21; refine (slikely_any _ _ _ _).mono ?_; rintro e w' ⟨rfl, rfl⟩))
  go_loop [12, 13] (fun v i => ∃ k : Nat, (k : Int) ≤ x - ((len1 : Int) % (n + 1)) ∧ i = .int .i64 k ∧ v = .int .i64 (pw 1 a k)) (fun _ i => (x - ((len1 : Int) % (n + 1))).toNat - (intOf i).toNat)
  case atStart => exact ⟨0, by omega, rfl, rfl⟩
  case round =>
    obtain ⟨k, hk, rfl, rfl⟩ := hrel
    have hp := pw_bd (c := 1) (a := a) (k := k) (by omega) (by omega) (by omega) a2' (by omega)
    have hq := pw_mul_bd (c := 1) (a := a) (k := k) (by omega) (by omega) (by omega) a2' (by omega)
    obtain ⟨hp0, hp1⟩ := hp
    obtain ⟨hq0, hq1⟩ := hq
    by_cases hlt : (k : Int) < x - ((len1 : Int) % (n + 1))
    · go_wp2
      go_round
      case rel => exact ⟨k + 1, by omega, by go_num, rfl⟩
      case measure => simp [intOf]; omega
    · have hfar := wv_far (n := n) (a := a) (x := x) (y := y) (z := ((len1 : Int) % (n + 1))) (k := k) ⟨n1, n2, a1', a2', x1, x2, y1, y2⟩ zz0 (by omega) (by omega)
      have hz := wv_bd (n := n) (a := a) (x := ((len1 : Int) % (n + 1))) (y := y) ⟨n1, n2, a1', a2', zz0, by omega, y1, y2⟩
      obtain ⟨hz0, hz1⟩ := hz
      have hm := mul_bd hp0 hp1 (a := wv n a ((len1 : Int) % (n + 1)) y) (B := 1220703125) (by omega) hz1
      obtain ⟨hm0, hm1⟩ := hm
      go_wp2_with (first | (go_at_call 17; refine (sweight_any _ _ _ _ _).mono ?_; rintro e w' ⟨rfl, rfl⟩) | (go_at_call 18; refine (weight_any _ _ _ _ _).mono ?_; rintro e w' ⟨rfl, rfl⟩) | (go_at_call 20; refine (total_any _ _ _ _).mono ?_; rintro e w' ⟨rfl, rfl⟩) | (go_at_call 19; refine (stotal_any _ _ _ _).mono ?_; rintro e w' ⟨rfl, rfl⟩) | (go_at_call 22; refine (likely_any _ _ _ _).mono ?_; rintro e w' ⟨rfl, rfl⟩) | (go_at_call 21; refine (slikely_any _ _ _ _).mono ?_; rintro e w' ⟨rfl, rfl⟩))
      go_ret
      exact ⟨rfl, hb⟩

set_option maxHeartbeats 1000000 in
/-- laws.FnNoiseMirror. -/
theorem fnNoiseMirror_walk (a0 : Option Addr) (len0 cap0 : Nat) (z0 : List Int) (w : World) (w0 : IsRow8 w a0 len0 cap0 z0) :
    Calls Try.prog 8 #[.slice a0 len0 cap0] w fun e w' => e = .returned (.bool true) ∧ Below w.heap.size w w' := by
  by_cases hl : 1048576 < len0
  · go_enter Try.func8, Try.ntmps8
    go_wp2
    go_ret
    exact ⟨rfl, Below.refl _ _⟩
  go_enter Try.func8, Try.ntmps8
  go_wp2_with fail
  refine (draw_weight a0 len0 cap0 z0 _ w0).mono ?_
  rintro e w1 ⟨n, a, x, y, rfl, ⟨bn0, bn1⟩, ⟨ba0, ba1⟩, ⟨bx0, bx1⟩, ⟨by0, by1⟩, hb⟩
  clear w0
  rcases ok4_or n a x y with h | h
  rotate_left
  · have hneg := wv_neg h
    clear h
    go_wp2_with (first | (go_at_call 17; refine (sweight_any _ _ _ _ _).mono ?_; rintro e w' ⟨rfl, rfl⟩) | (go_at_call 18; refine (weight_any _ _ _ _ _).mono ?_; rintro e w' ⟨rfl, rfl⟩) | (go_at_call 20; refine (total_any _ _ _ _).mono ?_; rintro e w' ⟨rfl, rfl⟩) | (go_at_call 19; refine (stotal_any _ _ _ _).mono ?_; rintro e w' ⟨rfl, rfl⟩) | (go_at_call 22; refine (likely_any _ _ _ _).mono ?_; rintro e w' ⟨rfl, rfl⟩) | (go_at_call 21; refine (slikely_any _ _ _ _).mono ?_; rintro e w' ⟨rfl, rfl⟩))
    go_ret
    exact ⟨rfl, hb⟩
  have hw := wv_bd h
  obtain ⟨hw0, hw1⟩ := hw
  have hwn : ¬ wv n a x y < 0 := by omega
  obtain ⟨n1, n2, a1', a2', x1, x2, y1, y2⟩ := h
  have hm : wv n a (n - x) (n - y) = wv n a x y := wv_mirror (n := n) (a := a) (x := x) (y := y) ⟨n1, n2, a1', a2', x1, x2, y1, y2⟩
  go_wp2_with (first | (go_at_call 17; refine (sweight_any _ _ _ _ _).mono ?_; rintro e w' ⟨rfl, rfl⟩) | (go_at_call 18; refine (weight_any _ _ _ _ _).mono ?_; rintro e w' ⟨rfl, rfl⟩) | (go_at_call 20; refine (total_any _ _ _ _).mono ?_; rintro e w' ⟨rfl, rfl⟩) | (go_at_call 19; refine (stotal_any _ _ _ _).mono ?_; rintro e w' ⟨rfl, rfl⟩) | (go_at_call 22; refine (likely_any _ _ _ _).mono ?_; rintro e w' ⟨rfl, rfl⟩) | (go_at_call 21; refine (slikely_any _ _ _ _).mono ?_; rintro e w' ⟨rfl, rfl⟩))
  go_ret
  exact ⟨rfl, hb⟩

set_option maxHeartbeats 1000000 in
/-- laws.FnNoiseNear. -/
theorem fnNoiseNear_walk (a0 : Option Addr) (len0 cap0 : Nat) (z0 : List Int) (a1 : Option Addr) (len1 cap1 : Nat) (w : World) (w0 : IsRow8 w a0 len0 cap0 z0) :
    Calls Try.prog 9 #[.slice a0 len0 cap0, .slice a1 len1 cap1] w fun e w' => e = .returned (.bool true) ∧ Below w.heap.size w w' := by
  by_cases hl : 1048576 < len0
  · go_enter Try.func9, Try.ntmps9
    go_wp2
    go_ret
    exact ⟨rfl, Below.refl _ _⟩
  by_cases hl1 : 1048576 < len1
  · go_enter Try.func9, Try.ntmps9
    go_wp2
    go_ret
    exact ⟨rfl, Below.refl _ _⟩
  go_enter Try.func9, Try.ntmps9
  go_wp2_with fail
  refine (draw_weight a0 len0 cap0 z0 _ w0).mono ?_
  rintro e w1 ⟨n, a, x, y, rfl, ⟨bn0, bn1⟩, ⟨ba0, ba1⟩, ⟨bx0, bx1⟩, ⟨by0, by1⟩, hb⟩
  clear w0
  rcases ok4_or n a x y with h | h
  rotate_left
  · have hneg := wv_neg h
    clear h
    go_wp2_with (first | (go_at_call 17; refine (sweight_any _ _ _ _ _).mono ?_; rintro e w' ⟨rfl, rfl⟩) | (go_at_call 18; refine (weight_any _ _ _ _ _).mono ?_; rintro e w' ⟨rfl, rfl⟩) | (go_at_call 20; refine (total_any _ _ _ _).mono ?_; rintro e w' ⟨rfl, rfl⟩) | (go_at_call 19; refine (stotal_any _ _ _ _).mono ?_; rintro e w' ⟨rfl, rfl⟩) | (go_at_call 22; refine (likely_any _ _ _ _).mono ?_; rintro e w' ⟨rfl, rfl⟩) | (go_at_call 21; refine (slikely_any _ _ _ _).mono ?_; rintro e w' ⟨rfl, rfl⟩))
    go_ret
    exact ⟨rfl, hb⟩
  have hw := wv_bd h
  obtain ⟨hw0, hw1⟩ := hw
  have hwn : ¬ wv n a x y < 0 := by omega
  obtain ⟨n1, n2, a1', a2', x1, x2, y1, y2⟩ := h
  have zz0 : 0 ≤ ((len1 : Int) % (n + 1)) := Int.emod_nonneg _ (by omega)
  have zz1 : ((len1 : Int) % (n + 1)) < n + 1 := Int.emod_lt_of_pos _ (by omega)
  have hpos : 0 < wv n a x y := by omega
  by_cases hy0 : y = 0
  · subst hy0
    go_wp2_with (first | (go_at_call 17; refine (sweight_any _ _ _ _ _).mono ?_; rintro e w' ⟨rfl, rfl⟩) | (go_at_call 18; refine (weight_any _ _ _ _ _).mono ?_; rintro e w' ⟨rfl, rfl⟩) | (go_at_call 20; refine (total_any _ _ _ _).mono ?_; rintro e w' ⟨rfl, rfl⟩) | (go_at_call 19; refine (stotal_any _ _ _ _).mono ?_; rintro e w' ⟨rfl, rfl⟩) | (go_at_call 22; refine (likely_any _ _ _ _).mono ?_; rintro e w' ⟨rfl, rfl⟩) | (go_at_call 21; refine (slikely_any _ _ _ _).mono ?_; rintro e w' ⟨rfl, rfl⟩))
    go_ret
    exact ⟨rfl, hb⟩
  have by0' : (y == 0) = false := beq_eq_false_iff_ne.2 hy0
  by_cases hyn : y = n
  · subst hyn
    go_wp2_with (first | (go_at_call 17; refine (sweight_any _ _ _ _ _).mono ?_; rintro e w' ⟨rfl, rfl⟩) | (go_at_call 18; refine (weight_any _ _ _ _ _).mono ?_; rintro e w' ⟨rfl, rfl⟩) | (go_at_call 20; refine (total_any _ _ _ _).mono ?_; rintro e w' ⟨rfl, rfl⟩) | (go_at_call 19; refine (stotal_any _ _ _ _).mono ?_; rintro e w' ⟨rfl, rfl⟩) | (go_at_call 22; refine (likely_any _ _ _ _).mono ?_; rintro e w' ⟨rfl, rfl⟩) | (go_at_call 21; refine (slikely_any _ _ _ _).mono ?_; rintro e w' ⟨rfl, rfl⟩))
    go_ret
    exact ⟨rfl, hb⟩
  have byn : (y == n) = false := beq_eq_false_iff_ne.2 hyn
  by_cases hz0 : ((len1 : Int) % (n + 1)) = 0
  · have bz0 : (((len1 : Int) % (n + 1)) == 0) = true := beq_iff_eq.2 hz0
    clear hz0
    go_wp2_with (first | (go_at_call 17; refine (sweight_any _ _ _ _ _).mono ?_; rintro e w' ⟨rfl, rfl⟩) | (go_at_call 18; refine (weight_any _ _ _ _ _).mono ?_; rintro e w' ⟨rfl, rfl⟩) | (go_at_call 20; refine (total_any _ _ _ _).mono ?_; rintro e w' ⟨rfl, rfl⟩) | (go_at_call 19; refine (stotal_any _ _ _ _).mono ?_; rintro e w' ⟨rfl, rfl⟩) | (go_at_call 22; refine (likely_any _ _ _ _).mono ?_; rintro e w' ⟨rfl, rfl⟩) | (go_at_call 21; refine (slikely_any _ _ _ _).mono ?_; rintro e w' ⟨rfl, rfl⟩))
    go_ret
    exact ⟨rfl, hb⟩
  have bz0 : (((len1 : Int) % (n + 1)) == 0) = false := beq_eq_false_iff_ne.2 hz0
  by_cases hzn : ((len1 : Int) % (n + 1)) = n
  · have bzn : (((len1 : Int) % (n + 1)) == n) = true := beq_iff_eq.2 hzn
    clear hzn
    go_wp2_with (first | (go_at_call 17; refine (sweight_any _ _ _ _ _).mono ?_; rintro e w' ⟨rfl, rfl⟩) | (go_at_call 18; refine (weight_any _ _ _ _ _).mono ?_; rintro e w' ⟨rfl, rfl⟩) | (go_at_call 20; refine (total_any _ _ _ _).mono ?_; rintro e w' ⟨rfl, rfl⟩) | (go_at_call 19; refine (stotal_any _ _ _ _).mono ?_; rintro e w' ⟨rfl, rfl⟩) | (go_at_call 22; refine (likely_any _ _ _ _).mono ?_; rintro e w' ⟨rfl, rfl⟩) | (go_at_call 21; refine (slikely_any _ _ _ _).mono ?_; rintro e w' ⟨rfl, rfl⟩))
    go_ret
    exact ⟨rfl, hb⟩
  have bzn : (((len1 : Int) % (n + 1)) == n) = false := beq_eq_false_iff_ne.2 hzn
  have hnear := wv_near (n := n) (a := a) (x := x) (y := y) (z := ((len1 : Int) % (n + 1))) ⟨n1, n2, a1', a2', x1, x2, y1, y2⟩ zz0 (by omega) hy0 hyn hz0 hzn
  have hz := wv_bd (n := n) (a := a) (x := x) (y := ((len1 : Int) % (n + 1))) ⟨n1, n2, a1', a2', x1, x2, zz0, by omega⟩
  obtain ⟨hz0', hz1'⟩ := hz
  obtain ⟨c1, c2, c3⟩ := hnear
  by_cases hc : (x < y) ∧ (x < ((len1 : Int) % (n + 1)))
  · obtain ⟨hcy, hcz⟩ := hc
    rw [show max (x - y) (y - x) = y - x by omega, show max (x - ((len1 : Int) % (n + 1))) (((len1 : Int) % (n + 1)) - x) = ((len1 : Int) % (n + 1)) - x by omega] at c1 c2 c3
    by_cases k1 : y - x < ((len1 : Int) % (n + 1)) - x
    · have k1' := c1 k1
      clear c1 c2 c3
      go_wp2_with (first | (go_at_call 17; refine (sweight_any _ _ _ _ _).mono ?_; rintro e w' ⟨rfl, rfl⟩) | (go_at_call 18; refine (weight_any _ _ _ _ _).mono ?_; rintro e w' ⟨rfl, rfl⟩) | (go_at_call 20; refine (total_any _ _ _ _).mono ?_; rintro e w' ⟨rfl, rfl⟩) | (go_at_call 19; refine (stotal_any _ _ _ _).mono ?_; rintro e w' ⟨rfl, rfl⟩) | (go_at_call 22; refine (likely_any _ _ _ _).mono ?_; rintro e w' ⟨rfl, rfl⟩) | (go_at_call 21; refine (slikely_any _ _ _ _).mono ?_; rintro e w' ⟨rfl, rfl⟩))
      go_ret
      exact ⟨rfl, hb⟩
    by_cases k2 : ((len1 : Int) % (n + 1)) - x = y - x
    · have k2' := c2 k2
      have b1 : (((len1 : Int) % (n + 1)) - x == y - x) = true := beq_iff_eq.2 k2
      have b2 : (wv n a x ((len1 : Int) % (n + 1)) == wv n a x y) = true := beq_iff_eq.2 k2'
      clear c1 c2 c3 k2 k2'
      go_wp2_with (first | (go_at_call 17; refine (sweight_any _ _ _ _ _).mono ?_; rintro e w' ⟨rfl, rfl⟩) | (go_at_call 18; refine (weight_any _ _ _ _ _).mono ?_; rintro e w' ⟨rfl, rfl⟩) | (go_at_call 20; refine (total_any _ _ _ _).mono ?_; rintro e w' ⟨rfl, rfl⟩) | (go_at_call 19; refine (stotal_any _ _ _ _).mono ?_; rintro e w' ⟨rfl, rfl⟩) | (go_at_call 22; refine (likely_any _ _ _ _).mono ?_; rintro e w' ⟨rfl, rfl⟩) | (go_at_call 21; refine (slikely_any _ _ _ _).mono ?_; rintro e w' ⟨rfl, rfl⟩))
      go_ret
      exact ⟨rfl, hb⟩
    have k3 : ((len1 : Int) % (n + 1)) - x < y - x := by omega
    have k3' := c3 k3
    have b1 : (((len1 : Int) % (n + 1)) - x == y - x) = false := beq_eq_false_iff_ne.2 (by omega)
    clear c1 c2 c3 k2
    go_wp2_with (first | (go_at_call 17; refine (sweight_any _ _ _ _ _).mono ?_; rintro e w' ⟨rfl, rfl⟩) | (go_at_call 18; refine (weight_any _ _ _ _ _).mono ?_; rintro e w' ⟨rfl, rfl⟩) | (go_at_call 20; refine (total_any _ _ _ _).mono ?_; rintro e w' ⟨rfl, rfl⟩) | (go_at_call 19; refine (stotal_any _ _ _ _).mono ?_; rintro e w' ⟨rfl, rfl⟩) | (go_at_call 22; refine (likely_any _ _ _ _).mono ?_; rintro e w' ⟨rfl, rfl⟩) | (go_at_call 21; refine (slikely_any _ _ _ _).mono ?_; rintro e w' ⟨rfl, rfl⟩))
    go_ret
    exact ⟨rfl, hb⟩
  by_cases hc : (x < y) ∧ (¬ x < ((len1 : Int) % (n + 1)))
  · obtain ⟨hcy, hcz⟩ := hc
    rw [show max (x - y) (y - x) = y - x by omega, show max (x - ((len1 : Int) % (n + 1))) (((len1 : Int) % (n + 1)) - x) = x - ((len1 : Int) % (n + 1)) by omega] at c1 c2 c3
    by_cases k1 : y - x < x - ((len1 : Int) % (n + 1))
    · have k1' := c1 k1
      clear c1 c2 c3
      go_wp2_with (first | (go_at_call 17; refine (sweight_any _ _ _ _ _).mono ?_; rintro e w' ⟨rfl, rfl⟩) | (go_at_call 18; refine (weight_any _ _ _ _ _).mono ?_; rintro e w' ⟨rfl, rfl⟩) | (go_at_call 20; refine (total_any _ _ _ _).mono ?_; rintro e w' ⟨rfl, rfl⟩) | (go_at_call 19; refine (stotal_any _ _ _ _).mono ?_; rintro e w' ⟨rfl, rfl⟩) | (go_at_call 22; refine (likely_any _ _ _ _).mono ?_; rintro e w' ⟨rfl, rfl⟩) | (go_at_call 21; refine (slikely_any _ _ _ _).mono ?_; rintro e w' ⟨rfl, rfl⟩))
      go_ret
      exact ⟨rfl, hb⟩
    by_cases k2 : x - ((len1 : Int) % (n + 1)) = y - x
    · have k2' := c2 k2
      have b1 : (x - ((len1 : Int) % (n + 1)) == y - x) = true := beq_iff_eq.2 k2
      have b2 : (wv n a x ((len1 : Int) % (n + 1)) == wv n a x y) = true := beq_iff_eq.2 k2'
      clear c1 c2 c3 k2 k2'
      go_wp2_with (first | (go_at_call 17; refine (sweight_any _ _ _ _ _).mono ?_; rintro e w' ⟨rfl, rfl⟩) | (go_at_call 18; refine (weight_any _ _ _ _ _).mono ?_; rintro e w' ⟨rfl, rfl⟩) | (go_at_call 20; refine (total_any _ _ _ _).mono ?_; rintro e w' ⟨rfl, rfl⟩) | (go_at_call 19; refine (stotal_any _ _ _ _).mono ?_; rintro e w' ⟨rfl, rfl⟩) | (go_at_call 22; refine (likely_any _ _ _ _).mono ?_; rintro e w' ⟨rfl, rfl⟩) | (go_at_call 21; refine (slikely_any _ _ _ _).mono ?_; rintro e w' ⟨rfl, rfl⟩))
      go_ret
      exact ⟨rfl, hb⟩
    have k3 : x - ((len1 : Int) % (n + 1)) < y - x := by omega
    have k3' := c3 k3
    have b1 : (x - ((len1 : Int) % (n + 1)) == y - x) = false := beq_eq_false_iff_ne.2 (by omega)
    clear c1 c2 c3 k2
    go_wp2_with (first | (go_at_call 17; refine (sweight_any _ _ _ _ _).mono ?_; rintro e w' ⟨rfl, rfl⟩) | (go_at_call 18; refine (weight_any _ _ _ _ _).mono ?_; rintro e w' ⟨rfl, rfl⟩) | (go_at_call 20; refine (total_any _ _ _ _).mono ?_; rintro e w' ⟨rfl, rfl⟩) | (go_at_call 19; refine (stotal_any _ _ _ _).mono ?_; rintro e w' ⟨rfl, rfl⟩) | (go_at_call 22; refine (likely_any _ _ _ _).mono ?_; rintro e w' ⟨rfl, rfl⟩) | (go_at_call 21; refine (slikely_any _ _ _ _).mono ?_; rintro e w' ⟨rfl, rfl⟩))
    go_ret
    exact ⟨rfl, hb⟩
  by_cases hc : (¬ x < y) ∧ (x < ((len1 : Int) % (n + 1)))
  · obtain ⟨hcy, hcz⟩ := hc
    rw [show max (x - y) (y - x) = x - y by omega, show max (x - ((len1 : Int) % (n + 1))) (((len1 : Int) % (n + 1)) - x) = ((len1 : Int) % (n + 1)) - x by omega] at c1 c2 c3
    by_cases k1 : x - y < ((len1 : Int) % (n + 1)) - x
    · have k1' := c1 k1
      clear c1 c2 c3
      go_wp2_with (first | (go_at_call 17; refine (sweight_any _ _ _ _ _).mono ?_; rintro e w' ⟨rfl, rfl⟩) | (go_at_call 18; refine (weight_any _ _ _ _ _).mono ?_; rintro e w' ⟨rfl, rfl⟩) | (go_at_call 20; refine (total_any _ _ _ _).mono ?_; rintro e w' ⟨rfl, rfl⟩) | (go_at_call 19; refine (stotal_any _ _ _ _).mono ?_; rintro e w' ⟨rfl, rfl⟩) | (go_at_call 22; refine (likely_any _ _ _ _).mono ?_; rintro e w' ⟨rfl, rfl⟩) | (go_at_call 21; refine (slikely_any _ _ _ _).mono ?_; rintro e w' ⟨rfl, rfl⟩))
      go_ret
      exact ⟨rfl, hb⟩
    by_cases k2 : ((len1 : Int) % (n + 1)) - x = x - y
    · have k2' := c2 k2
      have b1 : (((len1 : Int) % (n + 1)) - x == x - y) = true := beq_iff_eq.2 k2
      have b2 : (wv n a x ((len1 : Int) % (n + 1)) == wv n a x y) = true := beq_iff_eq.2 k2'
      clear c1 c2 c3 k2 k2'
      go_wp2_with (first | (go_at_call 17; refine (sweight_any _ _ _ _ _).mono ?_; rintro e w' ⟨rfl, rfl⟩) | (go_at_call 18; refine (weight_any _ _ _ _ _).mono ?_; rintro e w' ⟨rfl, rfl⟩) | (go_at_call 20; refine (total_any _ _ _ _).mono ?_; rintro e w' ⟨rfl, rfl⟩) | (go_at_call 19; refine (stotal_any _ _ _ _).mono ?_; rintro e w' ⟨rfl, rfl⟩) | (go_at_call 22; refine (likely_any _ _ _ _).mono ?_; rintro e w' ⟨rfl, rfl⟩) | (go_at_call 21; refine (slikely_any _ _ _ _).mono ?_; rintro e w' ⟨rfl, rfl⟩))
      go_ret
      exact ⟨rfl, hb⟩
    have k3 : ((len1 : Int) % (n + 1)) - x < x - y := by omega
    have k3' := c3 k3
    have b1 : (((len1 : Int) % (n + 1)) - x == x - y) = false := beq_eq_false_iff_ne.2 (by omega)
    clear c1 c2 c3 k2
    go_wp2_with (first | (go_at_call 17; refine (sweight_any _ _ _ _ _).mono ?_; rintro e w' ⟨rfl, rfl⟩) | (go_at_call 18; refine (weight_any _ _ _ _ _).mono ?_; rintro e w' ⟨rfl, rfl⟩) | (go_at_call 20; refine (total_any _ _ _ _).mono ?_; rintro e w' ⟨rfl, rfl⟩) | (go_at_call 19; refine (stotal_any _ _ _ _).mono ?_; rintro e w' ⟨rfl, rfl⟩) | (go_at_call 22; refine (likely_any _ _ _ _).mono ?_; rintro e w' ⟨rfl, rfl⟩) | (go_at_call 21; refine (slikely_any _ _ _ _).mono ?_; rintro e w' ⟨rfl, rfl⟩))
    go_ret
    exact ⟨rfl, hb⟩
  by_cases hc : (¬ x < y) ∧ (¬ x < ((len1 : Int) % (n + 1)))
  · obtain ⟨hcy, hcz⟩ := hc
    rw [show max (x - y) (y - x) = x - y by omega, show max (x - ((len1 : Int) % (n + 1))) (((len1 : Int) % (n + 1)) - x) = x - ((len1 : Int) % (n + 1)) by omega] at c1 c2 c3
    by_cases k1 : x - y < x - ((len1 : Int) % (n + 1))
    · have k1' := c1 k1
      clear c1 c2 c3
      go_wp2_with (first | (go_at_call 17; refine (sweight_any _ _ _ _ _).mono ?_; rintro e w' ⟨rfl, rfl⟩) | (go_at_call 18; refine (weight_any _ _ _ _ _).mono ?_; rintro e w' ⟨rfl, rfl⟩) | (go_at_call 20; refine (total_any _ _ _ _).mono ?_; rintro e w' ⟨rfl, rfl⟩) | (go_at_call 19; refine (stotal_any _ _ _ _).mono ?_; rintro e w' ⟨rfl, rfl⟩) | (go_at_call 22; refine (likely_any _ _ _ _).mono ?_; rintro e w' ⟨rfl, rfl⟩) | (go_at_call 21; refine (slikely_any _ _ _ _).mono ?_; rintro e w' ⟨rfl, rfl⟩))
      go_ret
      exact ⟨rfl, hb⟩
    by_cases k2 : x - ((len1 : Int) % (n + 1)) = x - y
    · have k2' := c2 k2
      have b1 : (x - ((len1 : Int) % (n + 1)) == x - y) = true := beq_iff_eq.2 k2
      have b2 : (wv n a x ((len1 : Int) % (n + 1)) == wv n a x y) = true := beq_iff_eq.2 k2'
      clear c1 c2 c3 k2 k2'
      go_wp2_with (first | (go_at_call 17; refine (sweight_any _ _ _ _ _).mono ?_; rintro e w' ⟨rfl, rfl⟩) | (go_at_call 18; refine (weight_any _ _ _ _ _).mono ?_; rintro e w' ⟨rfl, rfl⟩) | (go_at_call 20; refine (total_any _ _ _ _).mono ?_; rintro e w' ⟨rfl, rfl⟩) | (go_at_call 19; refine (stotal_any _ _ _ _).mono ?_; rintro e w' ⟨rfl, rfl⟩) | (go_at_call 22; refine (likely_any _ _ _ _).mono ?_; rintro e w' ⟨rfl, rfl⟩) | (go_at_call 21; refine (slikely_any _ _ _ _).mono ?_; rintro e w' ⟨rfl, rfl⟩))
      go_ret
      exact ⟨rfl, hb⟩
    have k3 : x - ((len1 : Int) % (n + 1)) < x - y := by omega
    have k3' := c3 k3
    have b1 : (x - ((len1 : Int) % (n + 1)) == x - y) = false := beq_eq_false_iff_ne.2 (by omega)
    clear c1 c2 c3 k2
    go_wp2_with (first | (go_at_call 17; refine (sweight_any _ _ _ _ _).mono ?_; rintro e w' ⟨rfl, rfl⟩) | (go_at_call 18; refine (weight_any _ _ _ _ _).mono ?_; rintro e w' ⟨rfl, rfl⟩) | (go_at_call 20; refine (total_any _ _ _ _).mono ?_; rintro e w' ⟨rfl, rfl⟩) | (go_at_call 19; refine (stotal_any _ _ _ _).mono ?_; rintro e w' ⟨rfl, rfl⟩) | (go_at_call 22; refine (likely_any _ _ _ _).mono ?_; rintro e w' ⟨rfl, rfl⟩) | (go_at_call 21; refine (slikely_any _ _ _ _).mono ?_; rintro e w' ⟨rfl, rfl⟩))
    go_ret
    exact ⟨rfl, hb⟩
  omega

set_option maxHeartbeats 1000000 in
/-- laws.FnNoiseNext. -/
theorem fnNoiseNext_walk (a0 : Option Addr) (len0 cap0 : Nat) (z0 : List Int) (w : World) (w0 : IsRow8 w a0 len0 cap0 z0) :
    Calls Try.prog 10 #[.slice a0 len0 cap0] w fun e w' => e = .returned (.bool true) ∧ Below w.heap.size w w' := by
  by_cases hl : 1048576 < len0
  · go_enter Try.func10, Try.ntmps10
    go_wp2
    go_ret
    exact ⟨rfl, Below.refl _ _⟩
  go_enter Try.func10, Try.ntmps10
  go_wp2_with fail
  refine (draw_weight a0 len0 cap0 z0 _ w0).mono ?_
  rintro e w1 ⟨n, a, x, y, rfl, ⟨bn0, bn1⟩, ⟨ba0, ba1⟩, ⟨bx0, bx1⟩, ⟨by0, by1⟩, hb⟩
  clear w0
  rcases ok4_or n a x y with h | h
  rotate_left
  · have hneg := wv_neg h
    clear h
    go_wp2_with (first | (go_at_call 17; refine (sweight_any _ _ _ _ _).mono ?_; rintro e w' ⟨rfl, rfl⟩) | (go_at_call 18; refine (weight_any _ _ _ _ _).mono ?_; rintro e w' ⟨rfl, rfl⟩) | (go_at_call 20; refine (total_any _ _ _ _).mono ?_; rintro e w' ⟨rfl, rfl⟩) | (go_at_call 19; refine (stotal_any _ _ _ _).mono ?_; rintro e w' ⟨rfl, rfl⟩) | (go_at_call 22; refine (likely_any _ _ _ _).mono ?_; rintro e w' ⟨rfl, rfl⟩) | (go_at_call 21; refine (slikely_any _ _ _ _).mono ?_; rintro e w' ⟨rfl, rfl⟩))
    go_ret
    exact ⟨rfl, hb⟩
  have hw := wv_bd h
  obtain ⟨hw0, hw1⟩ := hw
  have hwn : ¬ wv n a x y < 0 := by omega
  obtain ⟨n1, n2, a1', a2', x1, x2, y1, y2⟩ := h
  have hm := mul_bd (p := a) (a := wv n a x y) (A := 5) (B := 1220703125) (by omega) a2' (by omega) hw1
  obtain ⟨hm0, hm1⟩ := hm
  by_cases hn : n = 12
  · subst hn
    have hx : wv 13 a x y = -1 := wv_f (by omega)
    go_wp2_with (first | (go_at_call 17; refine (sweight_any _ _ _ _ _).mono ?_; rintro e w' ⟨rfl, rfl⟩) | (go_at_call 18; refine (weight_any _ _ _ _ _).mono ?_; rintro e w' ⟨rfl, rfl⟩) | (go_at_call 20; refine (total_any _ _ _ _).mono ?_; rintro e w' ⟨rfl, rfl⟩) | (go_at_call 19; refine (stotal_any _ _ _ _).mono ?_; rintro e w' ⟨rfl, rfl⟩) | (go_at_call 22; refine (likely_any _ _ _ _).mono ?_; rintro e w' ⟨rfl, rfl⟩) | (go_at_call 21; refine (slikely_any _ _ _ _).mono ?_; rintro e w' ⟨rfl, rfl⟩))
    go_ret
    exact ⟨rfl, hb⟩
  have bn : (n == 12) = false := beq_eq_false_iff_ne.2 hn
  by_cases hy : y = n
  · subst hy
    go_wp2_with (first | (go_at_call 17; refine (sweight_any _ _ _ _ _).mono ?_; rintro e w' ⟨rfl, rfl⟩) | (go_at_call 18; refine (weight_any _ _ _ _ _).mono ?_; rintro e w' ⟨rfl, rfl⟩) | (go_at_call 20; refine (total_any _ _ _ _).mono ?_; rintro e w' ⟨rfl, rfl⟩) | (go_at_call 19; refine (stotal_any _ _ _ _).mono ?_; rintro e w' ⟨rfl, rfl⟩) | (go_at_call 22; refine (likely_any _ _ _ _).mono ?_; rintro e w' ⟨rfl, rfl⟩) | (go_at_call 21; refine (slikely_any _ _ _ _).mono ?_; rintro e w' ⟨rfl, rfl⟩))
    go_ret
    exact ⟨rfl, hb⟩
  have byn : (y == n) = false := beq_eq_false_iff_ne.2 hy
  have hx : wv (n + 1) a x y = a * wv n a x y := wv_range (n := n) (a := a) (x := x) (y := y) ⟨n1, n2, a1', a2', x1, x2, y1, y2⟩ (by omega) (by omega)
  go_wp2_with (first | (go_at_call 17; refine (sweight_any _ _ _ _ _).mono ?_; rintro e w' ⟨rfl, rfl⟩) | (go_at_call 18; refine (weight_any _ _ _ _ _).mono ?_; rintro e w' ⟨rfl, rfl⟩) | (go_at_call 20; refine (total_any _ _ _ _).mono ?_; rintro e w' ⟨rfl, rfl⟩) | (go_at_call 19; refine (stotal_any _ _ _ _).mono ?_; rintro e w' ⟨rfl, rfl⟩) | (go_at_call 22; refine (likely_any _ _ _ _).mono ?_; rintro e w' ⟨rfl, rfl⟩) | (go_at_call 21; refine (slikely_any _ _ _ _).mono ?_; rintro e w' ⟨rfl, rfl⟩))
  go_ret
  exact ⟨rfl, hb⟩

set_option maxHeartbeats 1000000 in
/-- laws.FnNoiseSum. -/
theorem fnNoiseSum_walk (a0 : Option Addr) (len0 cap0 : Nat) (z0 : List Int) (w : World) (w0 : IsRow8 w a0 len0 cap0 z0) :
    Calls Try.prog 12 #[.slice a0 len0 cap0] w fun e w' => e = .returned (.bool true) ∧ Below w.heap.size w w' := by
  by_cases hl : 1048576 < len0
  · go_enter Try.func12, Try.ntmps12
    go_wp2
    go_ret
    exact ⟨rfl, Below.refl _ _⟩
  go_enter Try.func12, Try.ntmps12
  go_wp2_with fail
  refine (draw_weight a0 len0 cap0 z0 _ w0).mono ?_
  rintro e w1 ⟨n, a, x, y, rfl, ⟨bn0, bn1⟩, ⟨ba0, ba1⟩, ⟨bx0, bx1⟩, ⟨by0, by1⟩, hb⟩
  clear w0
  rcases ok4_or n a x y with h | h
  rotate_left
  · have hneg := wv_neg h
    clear h
    go_wp2_with (first | (go_at_call 17; refine (sweight_any _ _ _ _ _).mono ?_; rintro e w' ⟨rfl, rfl⟩) | (go_at_call 18; refine (weight_any _ _ _ _ _).mono ?_; rintro e w' ⟨rfl, rfl⟩) | (go_at_call 20; refine (total_any _ _ _ _).mono ?_; rintro e w' ⟨rfl, rfl⟩) | (go_at_call 19; refine (stotal_any _ _ _ _).mono ?_; rintro e w' ⟨rfl, rfl⟩) | (go_at_call 22; refine (likely_any _ _ _ _).mono ?_; rintro e w' ⟨rfl, rfl⟩) | (go_at_call 21; refine (slikely_any _ _ _ _).mono ?_; rintro e w' ⟨rfl, rfl⟩))
    go_ret
    exact ⟨rfl, hb⟩
  have hw := wv_bd h
  obtain ⟨hw0, hw1⟩ := hw
  have hwn : ¬ wv n a x y < 0 := by omega
  obtain ⟨n1, n2, a1', a2', x1, x2, y1, y2⟩ := h
  have hs := sx_tv (n := n) (a := a) (x := x) (y := y) ⟨n1, n2, a1', a2', x1, x2, y1, y2⟩
  have HS := Lib.hid hs
  clear hs
  have ht0 := tv_bd n a x
  obtain ⟨ht0, ht1⟩ := ht0
  go_wp2_with (first | (go_at_call 17; refine (sweight_any _ _ _ _ _).mono ?_; rintro e w' ⟨rfl, rfl⟩) | (go_at_call 18; refine (weight_any _ _ _ _ _).mono ?_; rintro e w' ⟨rfl, rfl⟩) | (go_at_call 20; refine (total_any _ _ _ _).mono ?_; rintro e w' ⟨rfl, rfl⟩) | (go_at_call 19; refine (stotal_any _ _ _ _).mono ?_; rintro e w' ⟨rfl, rfl⟩) | (go_at_call 22; refine (likely_any _ _ _ _).mono ?_; rintro e w' ⟨rfl, rfl⟩) | (go_at_call 21; refine (slikely_any _ _ _ _).mono ?_; rintro e w' ⟨rfl, rfl⟩))
  go_loop [9, 10] (fun s i => ∃ k : Nat, (k : Int) ≤ n + 1 ∧ i = .int .i64 k ∧ s = .int .i64 (sx n a y k)) (fun _ i => (n + 1).toNat - (intOf i).toNat)
  case atStart => exact ⟨0, by omega, rfl, rfl⟩
  case round =>
    obtain ⟨k, hk, rfl, rfl⟩ := hrel
    have hs := sx_bd n1 n2 a1' a2' y1 y2 k hk
    obtain ⟨hs0, hs1⟩ := hs
    by_cases hlt : (k : Int) ≤ n
    · have hv := wv_bd (n := n) (a := a) (x := (k : Nat)) (y := y) ⟨n1, n2, a1', a2', by omega, by omega, y1, y2⟩
      obtain ⟨hv0, hv1⟩ := hv
      have H := Lib.hid (sx_succ n1 n2 a1' a2' y1 y2 k (by omega))
      go_wp2_with (first | (go_at_call 17; refine (sweight_any _ _ _ _ _).mono ?_; rintro e w' ⟨rfl, rfl⟩) | (go_at_call 18; refine (weight_any _ _ _ _ _).mono ?_; rintro e w' ⟨rfl, rfl⟩) | (go_at_call 20; refine (total_any _ _ _ _).mono ?_; rintro e w' ⟨rfl, rfl⟩) | (go_at_call 19; refine (stotal_any _ _ _ _).mono ?_; rintro e w' ⟨rfl, rfl⟩) | (go_at_call 22; refine (likely_any _ _ _ _).mono ?_; rintro e w' ⟨rfl, rfl⟩) | (go_at_call 21; refine (slikely_any _ _ _ _).mono ?_; rintro e w' ⟨rfl, rfl⟩))
      go_round
      case rel => exact ⟨k + 1, by omega, by go_num, by rw [← H.out]⟩
      case measure => simp [intOf]; omega
    · have hk2 : n.toNat + 1 = k := by omega
      have hfin := HS.out
      rw [hk2] at hfin
      clear hk2
      by_cases hy0 : y = 0
      · subst hy0
        have hf := hfin.1 (.inl rfl)
        clear hfin
        go_wp2_with (first | (go_at_call 17; refine (sweight_any _ _ _ _ _).mono ?_; rintro e w' ⟨rfl, rfl⟩) | (go_at_call 18; refine (weight_any _ _ _ _ _).mono ?_; rintro e w' ⟨rfl, rfl⟩) | (go_at_call 20; refine (total_any _ _ _ _).mono ?_; rintro e w' ⟨rfl, rfl⟩) | (go_at_call 19; refine (stotal_any _ _ _ _).mono ?_; rintro e w' ⟨rfl, rfl⟩) | (go_at_call 22; refine (likely_any _ _ _ _).mono ?_; rintro e w' ⟨rfl, rfl⟩) | (go_at_call 21; refine (slikely_any _ _ _ _).mono ?_; rintro e w' ⟨rfl, rfl⟩))
        go_ret
        exact ⟨rfl, hb⟩
      have by0' : (y == 0) = false := beq_eq_false_iff_ne.2 hy0
      by_cases hyn : y = n
      · subst hyn
        have hf := hfin.1 (.inr rfl)
        clear hfin
        go_wp2_with (first | (go_at_call 17; refine (sweight_any _ _ _ _ _).mono ?_; rintro e w' ⟨rfl, rfl⟩) | (go_at_call 18; refine (weight_any _ _ _ _ _).mono ?_; rintro e w' ⟨rfl, rfl⟩) | (go_at_call 20; refine (total_any _ _ _ _).mono ?_; rintro e w' ⟨rfl, rfl⟩) | (go_at_call 19; refine (stotal_any _ _ _ _).mono ?_; rintro e w' ⟨rfl, rfl⟩) | (go_at_call 22; refine (likely_any _ _ _ _).mono ?_; rintro e w' ⟨rfl, rfl⟩) | (go_at_call 21; refine (slikely_any _ _ _ _).mono ?_; rintro e w' ⟨rfl, rfl⟩))
        go_ret
        exact ⟨rfl, hb⟩
      have byn : (y == n) = false := beq_eq_false_iff_ne.2 hyn
      have hf := hfin.2 (by omega)
      clear hfin
      go_wp2_with (first | (go_at_call 17; refine (sweight_any _ _ _ _ _).mono ?_; rintro e w' ⟨rfl, rfl⟩) | (go_at_call 18; refine (weight_any _ _ _ _ _).mono ?_; rintro e w' ⟨rfl, rfl⟩) | (go_at_call 20; refine (total_any _ _ _ _).mono ?_; rintro e w' ⟨rfl, rfl⟩) | (go_at_call 19; refine (stotal_any _ _ _ _).mono ?_; rintro e w' ⟨rfl, rfl⟩) | (go_at_call 22; refine (likely_any _ _ _ _).mono ?_; rintro e w' ⟨rfl, rfl⟩) | (go_at_call 21; refine (slikely_any _ _ _ _).mono ?_; rintro e w' ⟨rfl, rfl⟩))
      go_ret
      exact ⟨rfl, hb⟩

set_option maxHeartbeats 1000000 in
/-- laws.FnNoiseEnds. -/
theorem fnNoiseEnds_walk (a0 : Option Addr) (len0 cap0 : Nat) (z0 : List Int) (w : World) (w0 : IsRow8 w a0 len0 cap0 z0) :
    Calls Try.prog 13 #[.slice a0 len0 cap0] w fun e w' => e = .returned (.bool true) ∧ Below w.heap.size w w' := by
  by_cases hl : 1048576 < len0
  · go_enter Try.func13, Try.ntmps13
    go_wp2
    go_ret
    exact ⟨rfl, Below.refl _ _⟩
  go_enter Try.func13, Try.ntmps13
  go_wp2_with fail
  refine (draw_total a0 len0 cap0 z0 _ w0).mono ?_
  rintro e w1 ⟨n, a, x, rfl, ⟨bn0, bn1⟩, ⟨ba0, ba1⟩, ⟨bx0, bx1⟩, hb⟩
  clear w0
  rcases ok4_or n a x 0 with h | h
  rotate_left
  · have hneg : tv n a x < 0 := by rw [tv_f (by omega)]; omega
    clear h
    go_wp2_with (first | (go_at_call 17; refine (sweight_any _ _ _ _ _).mono ?_; rintro e w' ⟨rfl, rfl⟩) | (go_at_call 18; refine (weight_any _ _ _ _ _).mono ?_; rintro e w' ⟨rfl, rfl⟩) | (go_at_call 20; refine (total_any _ _ _ _).mono ?_; rintro e w' ⟨rfl, rfl⟩) | (go_at_call 19; refine (stotal_any _ _ _ _).mono ?_; rintro e w' ⟨rfl, rfl⟩) | (go_at_call 22; refine (likely_any _ _ _ _).mono ?_; rintro e w' ⟨rfl, rfl⟩) | (go_at_call 21; refine (slikely_any _ _ _ _).mono ?_; rintro e w' ⟨rfl, rfl⟩))
    go_ret
    exact ⟨rfl, hb⟩
  obtain ⟨n1, n2, a1', a2', x1, x2, y1, y2⟩ := h
  have htv := tv_t (n := n) (a := a) (x := x) ⟨n1, n2, a1', a2', x1, x2⟩
  have hall := sm_all (n := n) (a := a) (x := x) ⟨n1, n2, a1', a2', x1, x2, y1, y2⟩
  have hpn := pw_bd (c := 1) (a := a) (k := n.toNat) (by omega) (by omega) (by omega) a2' (by omega)
  have hpos := wt_bd (n := n) (a := a) (x := x) (y := 0) ⟨n1, n2, a1', a2', x1, x2, y1, y2⟩
  have hsm := sm_bd n1 n2 a1' a2' x1 x2 (n.toNat + 1) (by omega)
  have hone := sm_pos n1 n2 a1' a2' x1 x2
  have ht0 : 0 < tv n a x := by omega
  have ht1 : tv n a x ≤ 20000000000 := (tv_bd n a x).2
  have HTV := Lib.hid htv
  have HALL := Lib.hid hall
  clear htv hall hpn hpos hsm hone
  have htn : ¬ tv n a x < 0 := by omega
  go_wp2_with (first | (go_at_call 17; refine (sweight_any _ _ _ _ _).mono ?_; rintro e w' ⟨rfl, rfl⟩) | (go_at_call 18; refine (weight_any _ _ _ _ _).mono ?_; rintro e w' ⟨rfl, rfl⟩) | (go_at_call 20; refine (total_any _ _ _ _).mono ?_; rintro e w' ⟨rfl, rfl⟩) | (go_at_call 19; refine (stotal_any _ _ _ _).mono ?_; rintro e w' ⟨rfl, rfl⟩) | (go_at_call 22; refine (likely_any _ _ _ _).mono ?_; rintro e w' ⟨rfl, rfl⟩) | (go_at_call 21; refine (slikely_any _ _ _ _).mono ?_; rintro e w' ⟨rfl, rfl⟩))
  go_loop [8, 9] (fun v i => ∃ k : Nat, (k : Int) ≤ n - x ∧ i = .int .i64 k ∧ v = .int .i64 (pw 1 a k)) (fun _ i => (n - x).toNat - (intOf i).toNat)
  case atStart => exact ⟨0, by omega, rfl, rfl⟩
  case round =>
    obtain ⟨k, hk, rfl, rfl⟩ := hrel
    have hp := pw_bd (c := 1) (a := a) (k := k) (by omega) (by omega) (by omega) a2' (by omega)
    have hq := pw_mul_bd (c := 1) (a := a) (k := k) (by omega) (by omega) (by omega) a2' (by omega)
    obtain ⟨hp0, hp1⟩ := hp
    obtain ⟨hq0, hq1⟩ := hq
    by_cases hlt : (k : Int) < n - x
    · go_wp2
      go_round
      case rel => exact ⟨k + 1, by omega, by go_num, rfl⟩
      case measure => simp [intOf]; omega
    · have he := wt_ends (n := n) (a := a) (x := x) ⟨n1, n2, a1', a2', x1, x2, y1, y2⟩
      rw [show (n - x).toNat = k by omega] at he
      have b1 : (wv n a x 0 == a * pw 1 a k) = true := beq_iff_eq.2 (by rw [wv_t ⟨n1, n2, a1', a2', x1, x2, y1, y2⟩, he])
      clear he
      have hm := mul_bd (p := a) (a := pw 1 a k) (A := 5) (B := 1220703125) (by omega) a2' (by omega) hp1
      obtain ⟨hm0, hm1⟩ := hm
      have h0 := wv_bd (n := n) (a := a) (x := x) (y := 0) ⟨n1, n2, a1', a2', x1, x2, y1, y2⟩
      have hN := wv_bd (n := n) (a := a) (x := x) (y := n) ⟨n1, n2, a1', a2', x1, x2, by omega, by omega⟩
      have hk0 := mul_bd (p := wv n a x n) (a := wv n a x 0) (A := 1220703125) (B := 1220703125) (by omega) hN.2 (by omega) h0.2
      have hk1 : 0 < wv n a x n * wv n a x 0 := Int.mul_pos (by omega) (by omega)
      obtain ⟨hk2, hk3⟩ := hk0
      obtain ⟨h00, h01⟩ := h0
      obtain ⟨hN0, hN1⟩ := hN
      go_wp2_with (first | (go_at_call 17; refine (sweight_any _ _ _ _ _).mono ?_; rintro e w' ⟨rfl, rfl⟩) | (go_at_call 18; refine (weight_any _ _ _ _ _).mono ?_; rintro e w' ⟨rfl, rfl⟩) | (go_at_call 20; refine (total_any _ _ _ _).mono ?_; rintro e w' ⟨rfl, rfl⟩) | (go_at_call 19; refine (stotal_any _ _ _ _).mono ?_; rintro e w' ⟨rfl, rfl⟩) | (go_at_call 22; refine (likely_any _ _ _ _).mono ?_; rintro e w' ⟨rfl, rfl⟩) | (go_at_call 21; refine (slikely_any _ _ _ _).mono ?_; rintro e w' ⟨rfl, rfl⟩))
      go_ret
      exact ⟨rfl, hb⟩

set_option maxHeartbeats 1000000 in
/-- laws.FnNoiseTotal. -/
theorem fnNoiseTotal_walk (a0 : Option Addr) (len0 cap0 : Nat) (z0 : List Int) (w : World) (w0 : IsRow8 w a0 len0 cap0 z0) :
    Calls Try.prog 15 #[.slice a0 len0 cap0] w fun e w' => e = .returned (.bool true) ∧ Below w.heap.size w w' := by
  by_cases hl : 1048576 < len0
  · go_enter Try.func15, Try.ntmps15
    go_wp2
    go_ret
    exact ⟨rfl, Below.refl _ _⟩
  go_enter Try.func15, Try.ntmps15
  go_wp2_with fail
  refine (draw_total a0 len0 cap0 z0 _ w0).mono ?_
  rintro e w1 ⟨n, a, x, rfl, ⟨bn0, bn1⟩, ⟨ba0, ba1⟩, ⟨bx0, bx1⟩, hb⟩
  clear w0
  rcases ok4_or n a x 0 with h | h
  rotate_left
  · have hneg : tv n a x < 0 := by rw [tv_f (by omega)]; omega
    clear h
    go_wp2_with (first | (go_at_call 17; refine (sweight_any _ _ _ _ _).mono ?_; rintro e w' ⟨rfl, rfl⟩) | (go_at_call 18; refine (weight_any _ _ _ _ _).mono ?_; rintro e w' ⟨rfl, rfl⟩) | (go_at_call 20; refine (total_any _ _ _ _).mono ?_; rintro e w' ⟨rfl, rfl⟩) | (go_at_call 19; refine (stotal_any _ _ _ _).mono ?_; rintro e w' ⟨rfl, rfl⟩) | (go_at_call 22; refine (likely_any _ _ _ _).mono ?_; rintro e w' ⟨rfl, rfl⟩) | (go_at_call 21; refine (slikely_any _ _ _ _).mono ?_; rintro e w' ⟨rfl, rfl⟩))
    go_ret
    exact ⟨rfl, hb⟩
  obtain ⟨n1, n2, a1', a2', x1, x2, y1, y2⟩ := h
  have htv := tv_t (n := n) (a := a) (x := x) ⟨n1, n2, a1', a2', x1, x2⟩
  have hall := sm_all (n := n) (a := a) (x := x) ⟨n1, n2, a1', a2', x1, x2, y1, y2⟩
  have hpn := pw_bd (c := 1) (a := a) (k := n.toNat) (by omega) (by omega) (by omega) a2' (by omega)
  have hpos := wt_bd (n := n) (a := a) (x := x) (y := 0) ⟨n1, n2, a1', a2', x1, x2, y1, y2⟩
  have hsm := sm_bd n1 n2 a1' a2' x1 x2 (n.toNat + 1) (by omega)
  have hone := sm_pos n1 n2 a1' a2' x1 x2
  have ht0 : 0 < tv n a x := by omega
  have ht1 : tv n a x ≤ 20000000000 := (tv_bd n a x).2
  have HTV := Lib.hid htv
  have HALL := Lib.hid hall
  clear htv hall hpn hpos hsm hone
  have htn : ¬ tv n a x < 0 := by omega
  go_wp2_with (first | (go_at_call 17; refine (sweight_any _ _ _ _ _).mono ?_; rintro e w' ⟨rfl, rfl⟩) | (go_at_call 18; refine (weight_any _ _ _ _ _).mono ?_; rintro e w' ⟨rfl, rfl⟩) | (go_at_call 20; refine (total_any _ _ _ _).mono ?_; rintro e w' ⟨rfl, rfl⟩) | (go_at_call 19; refine (stotal_any _ _ _ _).mono ?_; rintro e w' ⟨rfl, rfl⟩) | (go_at_call 22; refine (likely_any _ _ _ _).mono ?_; rintro e w' ⟨rfl, rfl⟩) | (go_at_call 21; refine (slikely_any _ _ _ _).mono ?_; rintro e w' ⟨rfl, rfl⟩))
  go_loop [8, 9] (fun v i => ∃ k : Nat, (k : Int) ≤ n ∧ i = .int .i64 k ∧ v = .int .i64 (pw 1 a k)) (fun _ i => (n).toNat - (intOf i).toNat)
  case atStart => exact ⟨0, by omega, rfl, rfl⟩
  case round =>
    obtain ⟨k, hk, rfl, rfl⟩ := hrel
    have hp := pw_bd (c := 1) (a := a) (k := k) (by omega) (by omega) (by omega) a2' (by omega)
    have hq := pw_mul_bd (c := 1) (a := a) (k := k) (by omega) (by omega) (by omega) a2' (by omega)
    obtain ⟨hp0, hp1⟩ := hp
    obtain ⟨hq0, hq1⟩ := hq
    by_cases hlt : (k : Int) < n
    · go_wp2
      go_round
      case rel => exact ⟨k + 1, by omega, by go_num, rfl⟩
      case measure => simp [intOf]; omega
    · have hk2 : n.toNat = k := by omega
      have e1 : tv n a x = (a + 1) * pw 1 a k := by rw [HTV.out, HALL.out, hk2]
      have e2 : tv n a (n - x) = tv n a x := by
        rw [HTV.out, HALL.out, tv_t ⟨n1, n2, a1', a2', by omega, by omega⟩, sm_all ⟨n1, n2, a1', a2', by omega, by omega, y1, y2⟩]
      clear hk2
      have hm := mul_bd (p := a + 1) (a := pw 1 a k) (A := 6) (B := 1220703125) (by omega) (by omega) (by omega) hp1
      obtain ⟨hm0, hm1⟩ := hm
      have b1 : (tv n a x == (a + 1) * pw 1 a k) = true := beq_iff_eq.2 e1
      have b2 : (tv n a (n - x) == tv n a x) = true := beq_iff_eq.2 e2
      clear e1 e2
      go_wp2_with (first | (go_at_call 17; refine (sweight_any _ _ _ _ _).mono ?_; rintro e w' ⟨rfl, rfl⟩) | (go_at_call 18; refine (weight_any _ _ _ _ _).mono ?_; rintro e w' ⟨rfl, rfl⟩) | (go_at_call 20; refine (total_any _ _ _ _).mono ?_; rintro e w' ⟨rfl, rfl⟩) | (go_at_call 19; refine (stotal_any _ _ _ _).mono ?_; rintro e w' ⟨rfl, rfl⟩) | (go_at_call 22; refine (likely_any _ _ _ _).mono ?_; rintro e w' ⟨rfl, rfl⟩) | (go_at_call 21; refine (slikely_any _ _ _ _).mono ?_; rintro e w' ⟨rfl, rfl⟩))
      go_ret
      exact ⟨rfl, hb⟩

set_option maxHeartbeats 1000000 in
/-- laws.FnNoiseTails. -/
theorem fnNoiseTails_walk (a0 : Option Addr) (len0 cap0 : Nat) (z0 : List Int) (w : World) (w0 : IsRow8 w a0 len0 cap0 z0) :
    Calls Try.prog 14 #[.slice a0 len0 cap0] w fun e w' => e = .returned (.bool true) ∧ Below w.heap.size w w' := by
  by_cases hl : 1048576 < len0
  · go_enter Try.func14, Try.ntmps14
    go_wp2
    go_ret
    exact ⟨rfl, Below.refl _ _⟩
  go_enter Try.func14, Try.ntmps14
  go_wp2_with fail
  refine (draw_total a0 len0 cap0 z0 _ w0).mono ?_
  rintro e w1 ⟨n, a, x, rfl, ⟨bn0, bn1⟩, ⟨ba0, ba1⟩, ⟨bx0, bx1⟩, hb⟩
  clear w0
  rcases ok4_or n a x 0 with h | h
  rotate_left
  · have hneg : tv n a x < 0 := by rw [tv_f (by omega)]; omega
    clear h
    go_wp2_with (first | (go_at_call 17; refine (sweight_any _ _ _ _ _).mono ?_; rintro e w' ⟨rfl, rfl⟩) | (go_at_call 18; refine (weight_any _ _ _ _ _).mono ?_; rintro e w' ⟨rfl, rfl⟩) | (go_at_call 20; refine (total_any _ _ _ _).mono ?_; rintro e w' ⟨rfl, rfl⟩) | (go_at_call 19; refine (stotal_any _ _ _ _).mono ?_; rintro e w' ⟨rfl, rfl⟩) | (go_at_call 22; refine (likely_any _ _ _ _).mono ?_; rintro e w' ⟨rfl, rfl⟩) | (go_at_call 21; refine (slikely_any _ _ _ _).mono ?_; rintro e w' ⟨rfl, rfl⟩))
    go_ret
    exact ⟨rfl, hb⟩
  obtain ⟨n1, n2, a1', a2', x1, x2, y1, y2⟩ := h
  have htv := tv_t (n := n) (a := a) (x := x) ⟨n1, n2, a1', a2', x1, x2⟩
  have hall := sm_all (n := n) (a := a) (x := x) ⟨n1, n2, a1', a2', x1, x2, y1, y2⟩
  have hpn := pw_bd (c := 1) (a := a) (k := n.toNat) (by omega) (by omega) (by omega) a2' (by omega)
  have hpos := wt_bd (n := n) (a := a) (x := x) (y := 0) ⟨n1, n2, a1', a2', x1, x2, y1, y2⟩
  have hsm := sm_bd n1 n2 a1' a2' x1 x2 (n.toNat + 1) (by omega)
  have hone := sm_pos n1 n2 a1' a2' x1 x2
  have ht0 : 0 < tv n a x := by omega
  have ht1 : tv n a x ≤ 20000000000 := (tv_bd n a x).2
  have HTV := Lib.hid htv
  have HALL := Lib.hid hall
  clear htv hall hpn hpos hsm hone
  have htn : ¬ tv n a x < 0 := by omega
  have htl := tails (n := n) (a := a) (x := x) ⟨n1, n2, a1', a2', x1, x2, y1, y2⟩
  have HL := Lib.hid htl
  clear htl
  go_wp2_with (first | (go_at_call 17; refine (sweight_any _ _ _ _ _).mono ?_; rintro e w' ⟨rfl, rfl⟩) | (go_at_call 18; refine (weight_any _ _ _ _ _).mono ?_; rintro e w' ⟨rfl, rfl⟩) | (go_at_call 20; refine (total_any _ _ _ _).mono ?_; rintro e w' ⟨rfl, rfl⟩) | (go_at_call 19; refine (stotal_any _ _ _ _).mono ?_; rintro e w' ⟨rfl, rfl⟩) | (go_at_call 22; refine (likely_any _ _ _ _).mono ?_; rintro e w' ⟨rfl, rfl⟩) | (go_at_call 21; refine (slikely_any _ _ _ _).mono ?_; rintro e w' ⟨rfl, rfl⟩))
  go_loop [8, 9, 10] (fun s t i => ∃ k : Nat, (k : Int) ≤ n + 1 ∧ i = .int .i64 k ∧ s = .int .i64 (lowS n a x k) ∧ t = .int .i64 (highS n a x k)) (fun _ _ i => (n + 1).toNat - (intOf i).toNat)
  case atStart => exact ⟨0, by omega, rfl, rfl, rfl⟩
  case round =>
    obtain ⟨k, hk, rfl, rfl, rfl⟩ := hrel
    have hs := low_bd n1 n2 a1' a2' x1 x2 k hk
    obtain ⟨hs0, hs1⟩ := hs
    have hh := high_bd n1 n2 a1' a2' x1 x2 k hk
    obtain ⟨hh0, hh1⟩ := hh
    by_cases hlt : (k : Int) ≤ n
    · have hv := wv_bd (n := n) (a := a) (x := x) (y := (k : Nat)) ⟨n1, n2, a1', a2', x1, x2, by omega, by omega⟩
      obtain ⟨hv0, hv1⟩ := hv
      have hu := wv_bd (n := n) (a := a) (x := n - x) (y := (k : Nat)) ⟨n1, n2, a1', a2', by omega, by omega, by omega, by omega⟩
      obtain ⟨hu0, hu1⟩ := hu
      have HLo := Lib.hid (low_succ n1 n2 a1' a2' x1 x2 k (by omega))
      have HHi := Lib.hid (high_succ n1 n2 a1' a2' x1 x2 k (by omega))
      by_cases c1 : (k : Int) ≤ x
      · by_cases c2 : n - x ≤ (k : Int)
        · go_wp2_with (first | (go_at_call 17; refine (sweight_any _ _ _ _ _).mono ?_; rintro e w' ⟨rfl, rfl⟩) | (go_at_call 18; refine (weight_any _ _ _ _ _).mono ?_; rintro e w' ⟨rfl, rfl⟩) | (go_at_call 20; refine (total_any _ _ _ _).mono ?_; rintro e w' ⟨rfl, rfl⟩) | (go_at_call 19; refine (stotal_any _ _ _ _).mono ?_; rintro e w' ⟨rfl, rfl⟩) | (go_at_call 22; refine (likely_any _ _ _ _).mono ?_; rintro e w' ⟨rfl, rfl⟩) | (go_at_call 21; refine (slikely_any _ _ _ _).mono ?_; rintro e w' ⟨rfl, rfl⟩))
          go_round
          case rel => exact ⟨k + 1, by omega, by go_num, by rw [HLo.out, if_pos (by omega)], by rw [HHi.out, if_pos (by omega)]⟩
          case measure => simp [intOf]; omega
        · go_wp2_with (first | (go_at_call 17; refine (sweight_any _ _ _ _ _).mono ?_; rintro e w' ⟨rfl, rfl⟩) | (go_at_call 18; refine (weight_any _ _ _ _ _).mono ?_; rintro e w' ⟨rfl, rfl⟩) | (go_at_call 20; refine (total_any _ _ _ _).mono ?_; rintro e w' ⟨rfl, rfl⟩) | (go_at_call 19; refine (stotal_any _ _ _ _).mono ?_; rintro e w' ⟨rfl, rfl⟩) | (go_at_call 22; refine (likely_any _ _ _ _).mono ?_; rintro e w' ⟨rfl, rfl⟩) | (go_at_call 21; refine (slikely_any _ _ _ _).mono ?_; rintro e w' ⟨rfl, rfl⟩))
          go_round
          case rel => exact ⟨k + 1, by omega, by go_num, by rw [HLo.out, if_pos (by omega)], by rw [HHi.out, if_neg (by omega)]⟩
          case measure => simp [intOf]; omega
      · by_cases c2 : n - x ≤ (k : Int)
        · go_wp2_with (first | (go_at_call 17; refine (sweight_any _ _ _ _ _).mono ?_; rintro e w' ⟨rfl, rfl⟩) | (go_at_call 18; refine (weight_any _ _ _ _ _).mono ?_; rintro e w' ⟨rfl, rfl⟩) | (go_at_call 20; refine (total_any _ _ _ _).mono ?_; rintro e w' ⟨rfl, rfl⟩) | (go_at_call 19; refine (stotal_any _ _ _ _).mono ?_; rintro e w' ⟨rfl, rfl⟩) | (go_at_call 22; refine (likely_any _ _ _ _).mono ?_; rintro e w' ⟨rfl, rfl⟩) | (go_at_call 21; refine (slikely_any _ _ _ _).mono ?_; rintro e w' ⟨rfl, rfl⟩))
          go_round
          case rel => exact ⟨k + 1, by omega, by go_num, by rw [HLo.out, if_neg (by omega)], by rw [HHi.out, if_pos (by omega)]⟩
          case measure => simp [intOf]; omega
        · go_wp2_with (first | (go_at_call 17; refine (sweight_any _ _ _ _ _).mono ?_; rintro e w' ⟨rfl, rfl⟩) | (go_at_call 18; refine (weight_any _ _ _ _ _).mono ?_; rintro e w' ⟨rfl, rfl⟩) | (go_at_call 20; refine (total_any _ _ _ _).mono ?_; rintro e w' ⟨rfl, rfl⟩) | (go_at_call 19; refine (stotal_any _ _ _ _).mono ?_; rintro e w' ⟨rfl, rfl⟩) | (go_at_call 22; refine (likely_any _ _ _ _).mono ?_; rintro e w' ⟨rfl, rfl⟩) | (go_at_call 21; refine (slikely_any _ _ _ _).mono ?_; rintro e w' ⟨rfl, rfl⟩))
          go_round
          case rel => exact ⟨k + 1, by omega, by go_num, by rw [HLo.out, if_neg (by omega)], by rw [HHi.out, if_neg (by omega)]⟩
          case measure => simp [intOf]; omega
    · have hk2 : n.toNat + 1 = k := by omega
      have hfin := HL.out
      have htv := HTV.out
      rw [hk2] at hfin htv
      clear hk2
      obtain ⟨f1, f2⟩ := hfin
      have b1 : (lowS n a x k == highS n a x k) = true := beq_iff_eq.2 f1
      have hm := mul_bd (p := lowS n a x k) (a := a + 1) (A := 20000000000) (B := 6) hs0 (by omega) (by omega) (by omega)
      obtain ⟨hm0, hm1⟩ := hm
      have f3 : tv n a x ≤ lowS n a x k * (a + 1) := by omega
      clear htv f1 f2
      go_wp2_with (first | (go_at_call 17; refine (sweight_any _ _ _ _ _).mono ?_; rintro e w' ⟨rfl, rfl⟩) | (go_at_call 18; refine (weight_any _ _ _ _ _).mono ?_; rintro e w' ⟨rfl, rfl⟩) | (go_at_call 20; refine (total_any _ _ _ _).mono ?_; rintro e w' ⟨rfl, rfl⟩) | (go_at_call 19; refine (stotal_any _ _ _ _).mono ?_; rintro e w' ⟨rfl, rfl⟩) | (go_at_call 22; refine (likely_any _ _ _ _).mono ?_; rintro e w' ⟨rfl, rfl⟩) | (go_at_call 21; refine (slikely_any _ _ _ _).mono ?_; rintro e w' ⟨rfl, rfl⟩))
      go_ret
      exact ⟨rfl, hb⟩

set_option maxHeartbeats 1000000 in
/-- laws.FnNoiseLikely. -/
theorem fnNoiseLikely_walk (a0 : Option Addr) (len0 cap0 : Nat) (z0 : List Int) (w : World) (w0 : IsRow8 w a0 len0 cap0 z0) :
    Calls Try.prog 16 #[.slice a0 len0 cap0] w fun e w' => e = .returned (.bool true) ∧ Below w.heap.size w w' := by
  by_cases hl : 1048576 < len0
  · go_enter Try.func16, Try.ntmps16
    go_wp2
    go_ret
    exact ⟨rfl, Below.refl _ _⟩
  go_enter Try.func16, Try.ntmps16
  go_wp2_with fail
  refine (draw_likely a0 len0 cap0 z0 _ w0).mono ?_
  rintro e w1 ⟨n, a, y, rfl, ⟨bn0, bn1⟩, ⟨ba0, ba1⟩, ⟨by0, by1⟩, hb⟩
  clear w0
  by_cases h : 1 ≤ n ∧ n ≤ 12 ∧ 2 ≤ a ∧ a ≤ 5 ∧ 0 ≤ y ∧ y ≤ n
  · have hl2 : lv n a y = y := by unfold lv; rw [if_pos h]
    have hy : ¬ y < 0 := by omega
    clear h
    go_wp2_with (first | (go_at_call 17; refine (sweight_any _ _ _ _ _).mono ?_; rintro e w' ⟨rfl, rfl⟩) | (go_at_call 18; refine (weight_any _ _ _ _ _).mono ?_; rintro e w' ⟨rfl, rfl⟩) | (go_at_call 20; refine (total_any _ _ _ _).mono ?_; rintro e w' ⟨rfl, rfl⟩) | (go_at_call 19; refine (stotal_any _ _ _ _).mono ?_; rintro e w' ⟨rfl, rfl⟩) | (go_at_call 22; refine (likely_any _ _ _ _).mono ?_; rintro e w' ⟨rfl, rfl⟩) | (go_at_call 21; refine (slikely_any _ _ _ _).mono ?_; rintro e w' ⟨rfl, rfl⟩))
    go_ret
    exact ⟨rfl, hb⟩
  · have hl2 : lv n a y = -1 := by unfold lv; rw [if_neg h]
    clear h
    go_wp2_with (first | (go_at_call 17; refine (sweight_any _ _ _ _ _).mono ?_; rintro e w' ⟨rfl, rfl⟩) | (go_at_call 18; refine (weight_any _ _ _ _ _).mono ?_; rintro e w' ⟨rfl, rfl⟩) | (go_at_call 20; refine (total_any _ _ _ _).mono ?_; rintro e w' ⟨rfl, rfl⟩) | (go_at_call 19; refine (stotal_any _ _ _ _).mono ?_; rintro e w' ⟨rfl, rfl⟩) | (go_at_call 22; refine (likely_any _ _ _ _).mono ?_; rintro e w' ⟨rfl, rfl⟩) | (go_at_call 21; refine (slikely_any _ _ _ _).mono ?_; rintro e w' ⟨rfl, rfl⟩))
    go_ret
    exact ⟨rfl, hb⟩
end Go.Proofs.Ytjidddahlkmjpaa
