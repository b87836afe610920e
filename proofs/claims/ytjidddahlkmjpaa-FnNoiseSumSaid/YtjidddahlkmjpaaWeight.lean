/-
  The walks of NoiseWeight, the program's and the reference's: both return the weight wv, for all arguments of their types.
-/
import Derived.Test.YtjidddahlkmjpaaLeaf
namespace Go.Proofs.Ytjidddahlkmjpaa
open Go.RowKit

theorem pw_left (c a : Int) (k : Nat) : pw c a k = pw 1 a k * c := by
  induction k with
  | zero => simp [pw]
  | succ k ih => rw [pw_succ, pw_succ, ih, Int.mul_assoc, Int.mul_assoc, Int.mul_comm c a]
theorem wt_of {n a x y c D : Int} (hc : c = if y = 0 ∨ y = n then a else a - 1) (hD : D = n - max (x - y) (y - x)) : pw c a D.toNat = wt n a x y := by
  subst hc hD; rfl

/-- impl.NoiseWeight, numbers out of range. -/
theorem weight_no (n a x y : Int) (w : World) (h : ¬ (1 ≤ n ∧ n ≤ 12 ∧ 2 ≤ a ∧ a ≤ 5 ∧ 0 ≤ x ∧ x ≤ n ∧ 0 ≤ y ∧ y ≤ n)) :
    Calls Try.prog 18 #[.int .i64 n, .int .i64 a, .int .i64 x, .int .i64 y] w fun e w' => e = .returned (.int .i64 (-1)) ∧ w = w' := by
  cases hb : okB n a x
  · clear h
    go_enter Try.func18, Try.ntmps18
    go_wp2_with (go_at_call 31; refine (valid_any _ _ _ _).mono ?_; rintro e w' ⟨rfl, rfl⟩)
    go_ret
    exact ⟨rfl, rfl⟩
  · have hb' : 1 ≤ n ∧ n ≤ 12 ∧ 2 ≤ a ∧ a ≤ 5 ∧ 0 ≤ x ∧ x ≤ n := by simpa [okB] using hb
    by_cases hy : y < 0
    · clear h hb'
      go_enter Try.func18, Try.ntmps18
      go_wp2_with (go_at_call 31; refine (valid_any _ _ _ _).mono ?_; rintro e w' ⟨rfl, rfl⟩)
      go_ret
      exact ⟨rfl, rfl⟩
    · have hy2 : n < y := by omega
      clear h hb'
      go_enter Try.func18, Try.ntmps18
      go_wp2_with (go_at_call 31; refine (valid_any _ _ _ _).mono ?_; rintro e w' ⟨rfl, rfl⟩)
      go_ret
      exact ⟨rfl, rfl⟩

set_option maxHeartbeats 400000 in
/-- impl.NoiseWeight, numbers in range: zero_lt. -/
theorem weight_zero_lt (n a x : Int) (w : World) (h : Ok4 n a x 0) (hxy : 0 < x) :
    Calls Try.prog 18 #[.int .i64 n, .int .i64 a, .int .i64 x, .int .i64 0] w fun e w' => e = .returned (.int .i64 (wt n a x 0)) ∧ w = w' := by
  obtain ⟨n1, n2, a1, a2, x1, x2, y1, y2⟩ := h
  have hb : okB n a x = true := okB_t n1 n2 a1 a2 x1 x2
  have H := Lib.hid (wt_of (n := n) (a := a) (x := x) (y := 0) (c := a) (D := n - x) (by rw [if_pos (.inl rfl)]) (by omega))
  go_enter Try.func18, Try.ntmps18
  go_wp2_with (go_at_call 31; refine (valid_any _ _ _ _).mono ?_; rintro e w' ⟨rfl, rfl⟩)
  go_loop [9, 43] (fun v i => ∃ k : Nat, (k : Int) ≤ n - x ∧ i = .int .i64 k ∧ v = .int .i64 (pw (a) a k)) (fun _ i => (n - x).toNat - (intOf i).toNat)
  case atStart => exact ⟨0, by omega, rfl, rfl⟩
  case round =>
    obtain ⟨k, hk, rfl, rfl⟩ := hrel
    have hp := pw_bd (c := a) (a := a) (k := k) (by omega) (by omega) (by omega) a2 (by omega)
    have hq := pw_mul_bd (c := a) (a := a) (k := k) (by omega) (by omega) (by omega) a2 (by omega)
    obtain ⟨hp0, hp1⟩ := hp
    obtain ⟨hq0, hq1⟩ := hq
    by_cases hlt : (k : Int) < n - x
    · go_wp2
      go_round
      case rel => exact ⟨k + 1, by omega, by go_num, rfl⟩
      case measure => simp [intOf]; omega
    · go_wp2
      go_ret
      exact ⟨ret_int (by rw [← H.out, show (n - x).toNat = k from by omega]), rfl⟩

set_option maxHeartbeats 400000 in
/-- impl.NoiseWeight, numbers in range: zero_le. -/
theorem weight_zero_le (n a x : Int) (w : World) (h : Ok4 n a x 0) (hxy : x ≤ 0) :
    Calls Try.prog 18 #[.int .i64 n, .int .i64 a, .int .i64 x, .int .i64 0] w fun e w' => e = .returned (.int .i64 (wt n a x 0)) ∧ w = w' := by
  obtain ⟨n1, n2, a1, a2, x1, x2, y1, y2⟩ := h
  have hb : okB n a x = true := okB_t n1 n2 a1 a2 x1 x2
  have H := Lib.hid (wt_of (n := n) (a := a) (x := x) (y := 0) (c := a) (D := n) (by rw [if_pos (.inl rfl)]) (by omega))
  go_enter Try.func18, Try.ntmps18
  go_wp2_with (go_at_call 31; refine (valid_any _ _ _ _).mono ?_; rintro e w' ⟨rfl, rfl⟩)
  go_loop [9, 43] (fun v i => ∃ k : Nat, (k : Int) ≤ n ∧ i = .int .i64 k ∧ v = .int .i64 (pw (a) a k)) (fun _ i => (n).toNat - (intOf i).toNat)
  case atStart => exact ⟨0, by omega, rfl, rfl⟩
  case round =>
    obtain ⟨k, hk, rfl, rfl⟩ := hrel
    have hp := pw_bd (c := a) (a := a) (k := k) (by omega) (by omega) (by omega) a2 (by omega)
    have hq := pw_mul_bd (c := a) (a := a) (k := k) (by omega) (by omega) (by omega) a2 (by omega)
    obtain ⟨hp0, hp1⟩ := hp
    obtain ⟨hq0, hq1⟩ := hq
    by_cases hlt : (k : Int) < n
    · go_wp2
      go_round
      case rel => exact ⟨k + 1, by omega, by go_num, rfl⟩
      case measure => simp [intOf]; omega
    · go_wp2
      go_ret
      exact ⟨ret_int (by rw [← H.out, show (n).toNat = k from by omega]), rfl⟩

set_option maxHeartbeats 400000 in
/-- impl.NoiseWeight, numbers in range: end. -/
theorem weight_end (n a x : Int) (w : World) (h : Ok4 n a x n) :
    Calls Try.prog 18 #[.int .i64 n, .int .i64 a, .int .i64 x, .int .i64 n] w fun e w' => e = .returned (.int .i64 (wt n a x n)) ∧ w = w' := by
  obtain ⟨n1, n2, a1, a2, x1, x2, y1, y2⟩ := h
  have hb : okB n a x = true := okB_t n1 n2 a1 a2 x1 x2
  have H := Lib.hid (wt_of (n := n) (a := a) (x := x) (y := n) (c := a) (D := x) (by rw [if_pos (.inr rfl)]) (by omega))
  have e0 : (n == 0) = false := beq_eq_false_iff_ne.2 (by omega)
  go_enter Try.func18, Try.ntmps18
  go_wp2_with (go_at_call 31; refine (valid_any _ _ _ _).mono ?_; rintro e w' ⟨rfl, rfl⟩)
  go_loop [9, 43] (fun v i => ∃ k : Nat, (k : Int) ≤ x ∧ i = .int .i64 k ∧ v = .int .i64 (pw (a) a k)) (fun _ i => (x).toNat - (intOf i).toNat)
  case atStart => exact ⟨0, by omega, rfl, rfl⟩
  case round =>
    obtain ⟨k, hk, rfl, rfl⟩ := hrel
    have hp := pw_bd (c := a) (a := a) (k := k) (by omega) (by omega) (by omega) a2 (by omega)
    have hq := pw_mul_bd (c := a) (a := a) (k := k) (by omega) (by omega) (by omega) a2 (by omega)
    obtain ⟨hp0, hp1⟩ := hp
    obtain ⟨hq0, hq1⟩ := hq
    by_cases hlt : (k : Int) < x
    · go_wp2
      go_round
      case rel => exact ⟨k + 1, by omega, by go_num, rfl⟩
      case measure => simp [intOf]; omega
    · go_wp2
      go_ret
      exact ⟨ret_int (by rw [← H.out, show (x).toNat = k from by omega]), rfl⟩

set_option maxHeartbeats 400000 in
/-- impl.NoiseWeight, numbers in range: mid_lt. -/
theorem weight_mid_lt (n a x y : Int) (w : World) (h : Ok4 n a x y) (g0 : ¬ y = 0) (gn : ¬ y = n) (hxy : y < x) :
    Calls Try.prog 18 #[.int .i64 n, .int .i64 a, .int .i64 x, .int .i64 y] w fun e w' => e = .returned (.int .i64 (wt n a x y)) ∧ w = w' := by
  obtain ⟨n1, n2, a1, a2, x1, x2, y1, y2⟩ := h
  have hb : okB n a x = true := okB_t n1 n2 a1 a2 x1 x2
  have H := Lib.hid (wt_of (n := n) (a := a) (x := x) (y := y) (c := a - 1) (D := n - (x - y)) (by rw [if_neg (by omega)]) (by omega))
  have e0 : (y == 0) = false := beq_eq_false_iff_ne.2 g0
  have e1 : (y == n) = false := beq_eq_false_iff_ne.2 gn
  go_enter Try.func18, Try.ntmps18
  go_wp2_with (go_at_call 31; refine (valid_any _ _ _ _).mono ?_; rintro e w' ⟨rfl, rfl⟩)
  go_loop [9, 43] (fun v i => ∃ k : Nat, (k : Int) ≤ n - (x - y) ∧ i = .int .i64 k ∧ v = .int .i64 (pw (a - 1) a k)) (fun _ i => (n - (x - y)).toNat - (intOf i).toNat)
  case atStart => exact ⟨0, by omega, rfl, rfl⟩
  case round =>
    obtain ⟨k, hk, rfl, rfl⟩ := hrel
    have hp := pw_bd (c := a - 1) (a := a) (k := k) (by omega) (by omega) (by omega) a2 (by omega)
    have hq := pw_mul_bd (c := a - 1) (a := a) (k := k) (by omega) (by omega) (by omega) a2 (by omega)
    obtain ⟨hp0, hp1⟩ := hp
    obtain ⟨hq0, hq1⟩ := hq
    by_cases hlt : (k : Int) < n - (x - y)
    · go_wp2
      go_round
      case rel => exact ⟨k + 1, by omega, by go_num, rfl⟩
      case measure => simp [intOf]; omega
    · go_wp2
      go_ret
      exact ⟨ret_int (by rw [← H.out, show (n - (x - y)).toNat = k from by omega]), rfl⟩

set_option maxHeartbeats 400000 in
/-- impl.NoiseWeight, numbers in range: mid_le. -/
theorem weight_mid_le (n a x y : Int) (w : World) (h : Ok4 n a x y) (g0 : ¬ y = 0) (gn : ¬ y = n) (hxy : x ≤ y) :
    Calls Try.prog 18 #[.int .i64 n, .int .i64 a, .int .i64 x, .int .i64 y] w fun e w' => e = .returned (.int .i64 (wt n a x y)) ∧ w = w' := by
  obtain ⟨n1, n2, a1, a2, x1, x2, y1, y2⟩ := h
  have hb : okB n a x = true := okB_t n1 n2 a1 a2 x1 x2
  have H := Lib.hid (wt_of (n := n) (a := a) (x := x) (y := y) (c := a - 1) (D := n - (y - x)) (by rw [if_neg (by omega)]) (by omega))
  have e0 : (y == 0) = false := beq_eq_false_iff_ne.2 g0
  have e1 : (y == n) = false := beq_eq_false_iff_ne.2 gn
  go_enter Try.func18, Try.ntmps18
  go_wp2_with (go_at_call 31; refine (valid_any _ _ _ _).mono ?_; rintro e w' ⟨rfl, rfl⟩)
  go_loop [9, 43] (fun v i => ∃ k : Nat, (k : Int) ≤ n - (y - x) ∧ i = .int .i64 k ∧ v = .int .i64 (pw (a - 1) a k)) (fun _ i => (n - (y - x)).toNat - (intOf i).toNat)
  case atStart => exact ⟨0, by omega, rfl, rfl⟩
  case round =>
    obtain ⟨k, hk, rfl, rfl⟩ := hrel
    have hp := pw_bd (c := a - 1) (a := a) (k := k) (by omega) (by omega) (by omega) a2 (by omega)
    have hq := pw_mul_bd (c := a - 1) (a := a) (k := k) (by omega) (by omega) (by omega) a2 (by omega)
    obtain ⟨hp0, hp1⟩ := hp
    obtain ⟨hq0, hq1⟩ := hq
    by_cases hlt : (k : Int) < n - (y - x)
    · go_wp2
      go_round
      case rel => exact ⟨k + 1, by omega, by go_num, rfl⟩
      case measure => simp [intOf]; omega
    · go_wp2
      go_ret
      exact ⟨ret_int (by rw [← H.out, show (n - (y - x)).toNat = k from by omega]), rfl⟩

/-- impl.NoiseWeight. -/
theorem weight_any (n a x y : Int) (w : World) :
    Calls Try.prog 18 #[.int .i64 n, .int .i64 a, .int .i64 x, .int .i64 y] w fun e w' => e = .returned (.int .i64 (wv n a x y)) ∧ w = w' := by
  rcases ok4_or n a x y with h | h
  · rw [wv_t h]
    by_cases h0 : y = 0
    · subst h0
      by_cases hx : 0 < x
      · exact weight_zero_lt n a x w h hx
      · exact weight_zero_le n a x w h (by omega)
    · by_cases hn : y = n
      · subst hn; exact weight_end y a x w h
      · by_cases hx : y < x
        · exact weight_mid_lt n a x y w h h0 hn hx
        · exact weight_mid_le n a x y w h h0 hn (by omega)
  · rw [wv_f h]; exact weight_no n a x y w h

/-- spec.NoiseWeight, numbers out of range. -/
theorem sweight_no (n a x y : Int) (w : World) (h : ¬ (1 ≤ n ∧ n ≤ 12 ∧ 2 ≤ a ∧ a ≤ 5 ∧ 0 ≤ x ∧ x ≤ n ∧ 0 ≤ y ∧ y ≤ n)) :
    Calls Try.prog 17 #[.int .i64 n, .int .i64 a, .int .i64 x, .int .i64 y] w fun e w' => e = .returned (.int .i64 (-1)) ∧ w = w' := by
  cases hb : (inB n 1 12 && inB a 2 5)
  · clear h
    go_enter Try.func17, Try.ntmps17
    go_wp2_with (go_at_call 28; refine (l32Ok_any _ _ _).mono ?_; rintro e w' ⟨rfl, rfl⟩)
    go_ret
    exact ⟨rfl, rfl⟩
  · cases hx : inB x 0 n
    · clear h
      go_enter Try.func17, Try.ntmps17
      go_wp2_with (first | (go_at_call 28; refine (l32Ok_any _ _ _).mono ?_; rintro e w' ⟨rfl, rfl⟩) | (go_at_call 29; refine (l6In_any _ _ _ _).mono ?_; rintro e w' ⟨rfl, rfl⟩))
      go_ret
      exact ⟨rfl, rfl⟩
    · have hy : inB y 0 n = false := inB_f (by simp [inB] at hb hx; omega)
      clear h
      go_enter Try.func17, Try.ntmps17
      go_wp2_with (first | (go_at_call 28; refine (l32Ok_any _ _ _).mono ?_; rintro e w' ⟨rfl, rfl⟩) | (go_at_call 29; refine (l6In_any _ _ _ _).mono ?_; rintro e w' ⟨rfl, rfl⟩))
      go_ret
      exact ⟨rfl, rfl⟩

set_option maxHeartbeats 400000 in
/-- spec.NoiseWeight, numbers in range: zero. -/
theorem sweight_zero (n a x : Int) (w : World) (h : Ok4 n a x 0) :
    Calls Try.prog 17 #[.int .i64 n, .int .i64 a, .int .i64 x, .int .i64 0] w fun e w' => e = .returned (.int .i64 (wt n a x 0)) ∧ w = w' := by
  obtain ⟨n1, n2, a1, a2, x1, x2, y1, y2⟩ := h
  have hb1 : inB n 1 12 = true := inB_t n1 n2
  have hb2 : inB a 2 5 = true := inB_t a1 a2
  have hb3 : inB x 0 n = true := inB_t x1 x2
  have hb4 : inB 0 0 n = true := inB_t y1 y2
  have H := Lib.hid (wt_of (n := n) (a := a) (x := x) (y := 0) (c := a) (D := n - x) (by rw [if_pos (.inl rfl)]) (by omega))
  have hp := pw_bd (c := 1) (a := a) (k := (n - x).toNat) (by omega) (by omega) (by omega) a2 (by omega)
  have hq := mul_bd hp.1 hp.2 (a := a) (B := 5) (by omega) (by omega)
  obtain ⟨hp0, hp1⟩ := hp
  obtain ⟨hq0, hq1⟩ := hq
  go_enter Try.func17, Try.ntmps17
  go_wp2_with (first | (go_at_call 28; refine (l32Ok_any _ _ _).mono ?_; rintro e w' ⟨rfl, rfl⟩) | (go_at_call 29; refine (l6In_any _ _ _ _).mono ?_; rintro e w' ⟨rfl, rfl⟩) | (go_at_call 30; refine (power_any _ _ _ (by omega) (by omega) (by omega) (by omega)).mono ?_; rintro e w' ⟨rfl, rfl⟩))
  go_ret
  exact ⟨ret_int (by rw [← H.out, pw_left (a)]), rfl⟩

set_option maxHeartbeats 400000 in
/-- spec.NoiseWeight, numbers in range: end_lt. -/
theorem sweight_end_lt (n a x : Int) (w : World) (h : Ok4 n a x n) (hxy : x < n) :
    Calls Try.prog 17 #[.int .i64 n, .int .i64 a, .int .i64 x, .int .i64 n] w fun e w' => e = .returned (.int .i64 (wt n a x n)) ∧ w = w' := by
  obtain ⟨n1, n2, a1, a2, x1, x2, y1, y2⟩ := h
  have hb1 : inB n 1 12 = true := inB_t n1 n2
  have hb2 : inB a 2 5 = true := inB_t a1 a2
  have hb3 : inB x 0 n = true := inB_t x1 x2
  have hb4 : inB n 0 n = true := inB_t y1 y2
  have H := Lib.hid (wt_of (n := n) (a := a) (x := x) (y := n) (c := a) (D := n - (n - x)) (by rw [if_pos (.inr rfl)]) (by omega))
  have hp := pw_bd (c := 1) (a := a) (k := (n - (n - x)).toNat) (by omega) (by omega) (by omega) a2 (by omega)
  have hq := mul_bd hp.1 hp.2 (a := a) (B := 5) (by omega) (by omega)
  obtain ⟨hp0, hp1⟩ := hp
  obtain ⟨hq0, hq1⟩ := hq
  have e0 : (n == 0) = false := beq_eq_false_iff_ne.2 (by omega)
  go_enter Try.func17, Try.ntmps17
  go_wp2_with (first | (go_at_call 28; refine (l32Ok_any _ _ _).mono ?_; rintro e w' ⟨rfl, rfl⟩) | (go_at_call 29; refine (l6In_any _ _ _ _).mono ?_; rintro e w' ⟨rfl, rfl⟩) | (go_at_call 30; refine (power_any _ _ _ (by omega) (by omega) (by omega) (by omega)).mono ?_; rintro e w' ⟨rfl, rfl⟩))
  go_ret
  exact ⟨ret_int (by rw [← H.out, pw_left (a)]), rfl⟩

set_option maxHeartbeats 400000 in
/-- spec.NoiseWeight, numbers in range: mid_lt. -/
theorem sweight_mid_lt (n a x y : Int) (w : World) (h : Ok4 n a x y) (g0 : ¬ y = 0) (gn : ¬ y = n) (hxy : x < y) :
    Calls Try.prog 17 #[.int .i64 n, .int .i64 a, .int .i64 x, .int .i64 y] w fun e w' => e = .returned (.int .i64 (wt n a x y)) ∧ w = w' := by
  obtain ⟨n1, n2, a1, a2, x1, x2, y1, y2⟩ := h
  have hb1 : inB n 1 12 = true := inB_t n1 n2
  have hb2 : inB a 2 5 = true := inB_t a1 a2
  have hb3 : inB x 0 n = true := inB_t x1 x2
  have hb4 : inB y 0 n = true := inB_t y1 y2
  have H := Lib.hid (wt_of (n := n) (a := a) (x := x) (y := y) (c := a - 1) (D := n - (y - x)) (by rw [if_neg (by omega)]) (by omega))
  have hp := pw_bd (c := 1) (a := a) (k := (n - (y - x)).toNat) (by omega) (by omega) (by omega) a2 (by omega)
  have hq := mul_bd hp.1 hp.2 (a := a - 1) (B := 5) (by omega) (by omega)
  obtain ⟨hp0, hp1⟩ := hp
  obtain ⟨hq0, hq1⟩ := hq
  have e0 : (y == 0) = false := beq_eq_false_iff_ne.2 g0
  have e1 : (y == n) = false := beq_eq_false_iff_ne.2 gn
  go_enter Try.func17, Try.ntmps17
  go_wp2_with (first | (go_at_call 28; refine (l32Ok_any _ _ _).mono ?_; rintro e w' ⟨rfl, rfl⟩) | (go_at_call 29; refine (l6In_any _ _ _ _).mono ?_; rintro e w' ⟨rfl, rfl⟩) | (go_at_call 30; refine (power_any _ _ _ (by omega) (by omega) (by omega) (by omega)).mono ?_; rintro e w' ⟨rfl, rfl⟩))
  go_ret
  exact ⟨ret_int (by rw [← H.out, pw_left (a - 1)]), rfl⟩

set_option maxHeartbeats 400000 in
/-- spec.NoiseWeight, numbers in range: mid_le. -/
theorem sweight_mid_le (n a x y : Int) (w : World) (h : Ok4 n a x y) (g0 : ¬ y = 0) (gn : ¬ y = n) (hxy : y ≤ x) :
    Calls Try.prog 17 #[.int .i64 n, .int .i64 a, .int .i64 x, .int .i64 y] w fun e w' => e = .returned (.int .i64 (wt n a x y)) ∧ w = w' := by
  obtain ⟨n1, n2, a1, a2, x1, x2, y1, y2⟩ := h
  have hb1 : inB n 1 12 = true := inB_t n1 n2
  have hb2 : inB a 2 5 = true := inB_t a1 a2
  have hb3 : inB x 0 n = true := inB_t x1 x2
  have hb4 : inB y 0 n = true := inB_t y1 y2
  have H := Lib.hid (wt_of (n := n) (a := a) (x := x) (y := y) (c := a - 1) (D := n - (x - y)) (by rw [if_neg (by omega)]) (by omega))
  have hp := pw_bd (c := 1) (a := a) (k := (n - (x - y)).toNat) (by omega) (by omega) (by omega) a2 (by omega)
  have hq := mul_bd hp.1 hp.2 (a := a - 1) (B := 5) (by omega) (by omega)
  obtain ⟨hp0, hp1⟩ := hp
  obtain ⟨hq0, hq1⟩ := hq
  have e0 : (y == 0) = false := beq_eq_false_iff_ne.2 g0
  have e1 : (y == n) = false := beq_eq_false_iff_ne.2 gn
  go_enter Try.func17, Try.ntmps17
  go_wp2_with (first | (go_at_call 28; refine (l32Ok_any _ _ _).mono ?_; rintro e w' ⟨rfl, rfl⟩) | (go_at_call 29; refine (l6In_any _ _ _ _).mono ?_; rintro e w' ⟨rfl, rfl⟩) | (go_at_call 30; refine (power_any _ _ _ (by omega) (by omega) (by omega) (by omega)).mono ?_; rintro e w' ⟨rfl, rfl⟩))
  go_ret
  exact ⟨ret_int (by rw [← H.out, pw_left (a - 1)]), rfl⟩

set_option maxHeartbeats 400000 in
/-- spec.NoiseWeight, numbers in range: end_eq. -/
theorem sweight_end_eq (n a : Int) (w : World) (h : Ok4 n a n n) :
    Calls Try.prog 17 #[.int .i64 n, .int .i64 a, .int .i64 n, .int .i64 n] w fun e w' => e = .returned (.int .i64 (wt n a n n)) ∧ w = w' := by
  obtain ⟨n1, n2, a1, a2, x1, x2, y1, y2⟩ := h
  have hb1 : inB n 1 12 = true := inB_t n1 n2
  have hb2 : inB a 2 5 = true := inB_t a1 a2
  have hb3 : inB n 0 n = true := inB_t x1 x2
  have hb4 : inB n 0 n = true := inB_t y1 y2
  have H := Lib.hid (wt_of (n := n) (a := a) (x := n) (y := n) (c := a) (D := n) (by rw [if_pos (.inr rfl)]) (by omega))
  have hp := pw_bd (c := 1) (a := a) (k := (n).toNat) (by omega) (by omega) (by omega) a2 (by omega)
  have hq := mul_bd hp.1 hp.2 (a := a) (B := 5) (by omega) (by omega)
  obtain ⟨hp0, hp1⟩ := hp
  obtain ⟨hq0, hq1⟩ := hq
  have e0 : (n == 0) = false := beq_eq_false_iff_ne.2 (by omega)
  go_enter Try.func17, Try.ntmps17
  go_wp2_with (first | (go_at_call 28; refine (l32Ok_any _ _ _).mono ?_; rintro e w' ⟨rfl, rfl⟩) | (go_at_call 29; refine (l6In_any _ _ _ _).mono ?_; rintro e w' ⟨rfl, rfl⟩) | (go_at_call 30; refine (power_any _ _ _ (by omega) (by omega) (by omega) (by omega)).mono ?_; rintro e w' ⟨rfl, rfl⟩))
  go_ret
  exact ⟨ret_int (by rw [← H.out, pw_left (a)]), rfl⟩

/-- spec.NoiseWeight. -/
theorem sweight_any (n a x y : Int) (w : World) :
    Calls Try.prog 17 #[.int .i64 n, .int .i64 a, .int .i64 x, .int .i64 y] w fun e w' => e = .returned (.int .i64 (wv n a x y)) ∧ w = w' := by
  rcases ok4_or n a x y with h | h
  · rw [wv_t h]
    by_cases h0 : y = 0
    · subst h0; exact sweight_zero n a x w h
    · by_cases hn : y = n
      · subst hn
        by_cases hx : x = y
        · subst hx; exact sweight_end_eq x a w h
        · exact sweight_end_lt y a x w h (by have := h.x2; omega)
      · by_cases hx : x < y
        · exact sweight_mid_lt n a x y w h h0 hn hx
        · exact sweight_mid_le n a x y w h h0 hn (by omega)
  · rw [wv_f h]; exact sweight_no n a x y w h
end Go.Proofs.Ytjidddahlkmjpaa
