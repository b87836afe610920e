/-
  FnSwapDistinct: the walk of this law.
-/
import Derived.Test.YtdoomakadnfddaaLawA
namespace Go.Proofs.Ytdoomakadnfddaa
open Go.RowKit
attribute [local go_sem ↓] Go.wp_at_zero Go.wp_at_succ

theorem pig {i k t : Nat} (h : ∀ s, s < t → s = i ∨ s = k) : t ≤ 2 := by
  rcases Nat.lt_or_ge 2 t with h3 | h3
  · have h0 := h 0 (by omega)
    have h1 := h 1 (by omega)
    have h2 := h 2 (by omega)
    omega
  · exact h3
theorem pig_next {i k t : Nat} (h : ∀ s, s < t → s = i ∨ s = k) (ht : t = i ∨ t = k) : ∀ s, s < t + 1 → s = i ∨ s = k := by
  intro s hs
  rcases Nat.lt_or_ge s t with h1 | h1
  · exact h s h1
  · obtain rfl : s = t := by omega
    exact ht
theorem pig2 {i k t c : Nat} (h : ∀ s, c < s → s < t → s = i ∨ s = k) : t ≤ c + 3 := by
  rcases Nat.lt_or_ge (c + 3) t with h3 | h3
  · have h0 := h (c + 1) (by omega) (by omega)
    have h1 := h (c + 2) (by omega) (by omega)
    have h2 := h (c + 3) (by omega) (by omega)
    omega
  · exact h3
theorem pig2_next {i k t c : Nat} (h : ∀ s, c < s → s < t → s = i ∨ s = k) (ht : t = i ∨ t = k) : ∀ s, c < s → s < t + 1 → s = i ∨ s = k := by
  intro s h0 hs
  rcases Nat.lt_or_ge s t with h1 | h1
  · exact h s h0 h1
  · obtain rfl : s = t := by omega
    exact ht
theorem so_farB {ps : List Pn} {i k c d : Nat} (h : soB ps (i : Nat) (k : Nat) = true) (hc : c ≠ i ∧ c ≠ k) (hd : d ≠ i ∧ d ≠ k) : soB (sw ps i k) (c : Nat) (d : Nat) = soB ps (c : Nat) (d : Nat) := by
  have := so_far (c := (c : Int)) (d := (d : Int)) (soB_iff.1 h) (by omega) (by omega)
  rw [Int.toNat_natCast, Int.toNat_natCast] at this
  rw [Bool.eq_iff_iff, soB_iff, soB_iff]; exact this
theorem sw_farN {ps : List Pn} {i k c d : Nat} (h : soB ps (i : Nat) (k : Nat) = true) (hs : soB ps (c : Nat) (d : Nat) = true) (hc : c ≠ i ∧ c ≠ k) (hd : d ≠ i ∧ d ≠ k) : sw (sw ps i k) c d = sw (sw ps c d) i k := by
  have := sw_far (c := (c : Int)) (d := (d : Int)) (soB_iff.1 h) (soB_iff.1 hs) (by omega) (by omega)
  simpa only [Int.toNat_natCast] using this
set_option maxHeartbeats 4000000 in
/-- laws.FnSwapDistinct. -/
theorem fnSwapDistinct_walk (a0 : Option Addr) (len0 cap0 : Nat) (z0 : List Int) (w : World) (w0 : IsRow8 w a0 len0 cap0 z0) :
    Calls Try.prog 6 #[.slice a0 len0 cap0] w fun e w' => e = .returned (.bool true) ∧ Below w.heap.size w w' := by
  by_cases hl : 1048576 < len0
  · go_enter Try.func6, Try.ntmps6
    go_wp2
    go_ret
    exact ⟨rfl, Below.refl _ _⟩
  go_enter Try.func6, Try.ntmps6
  go_wp2_with fail
  refine (drawdo_any a0 len0 cap0 z0 _ w0).mono ?_
  rintro e w1 ⟨D, n, c, ps, a, b, rfl, hV, hB⟩
  have n8 := hV.1
  have HL := hV.2.1
  have r1 := hV.recs
  clear w0 hV
  cases hs : soB ps a b
  · skip
    go_wp2_with fail
    refine (do_n D n c ps a b _ r1 HL.out (by omega) hs).mono ?_
    rintro e w2 ⟨D2, c2, rfl, hown, hb⟩
    have hB := below_next hB hb
    have r1 := r1.on hb
    clear hb
    clear hown
    go_wp2_with fail
    refine (sdo_n D n c ps a b _ r1 HL.out (by omega) hs).mono ?_
    rintro e w3 ⟨D3, c3, rfl, hown, hb⟩
    have hB := below_next hB hb
    have r1 := r1.on hb
    clear hb
    clear hown
    go_wp2_with fail
    refine (samep_t D2 D3 0 c2 c3 [] _ Recs.nil Recs.nil rfl (by omega)).mono ?_
    rintro e w4 ⟨rfl, hb⟩
    have hB := below_next hB hb
    have r1 := r1.on hb
    clear hb
    go_wp2_with fail
    refine (samep_t D2 D3 0 c2 c3 [] _ Recs.nil Recs.nil rfl (by omega)).mono ?_
    rintro e w5 ⟨rfl, hb⟩
    have hB := below_next hB hb
    have r1 := r1.on hb
    clear hb
    go_wp2_with fail
    go_ret
    exact ⟨rfl, hB⟩
  obtain ⟨i, k, rfl, rfl⟩ : ∃ i k : Nat, a = i ∧ b = k := by obtain ⟨_, i, k, _, _, e1, e2, _⟩ := soB_iff.1 hs; exact ⟨i, k, e1, e2⟩
  have HL2 := Lib.hid (sw_ln HL.out i k)
  go_wp2_with fail
  refine (do_t D n c ps i k _ r1 HL.out (by omega) hs).mono ?_
  rintro e w2 ⟨D2, c2, rfl, hown, hb⟩
  have hB := below_next hB hb
  have r1 := r1.on hb
  clear hb
  have r2 := (Recs.of_own pf_len hown (by omega)).2
  clear hown
  go_wp2_with fail
  refine (sdo_t D n c ps i k _ r1 HL.out (by omega) hs).mono ?_
  rintro e w3 ⟨D3, c3, rfl, hown, hb⟩
  have hB := below_next hB hb
  have r1 := r1.on hb
  have r2 := r2.on hb
  clear hb
  have r3 := (Recs.of_own pf_len hown (by omega)).2
  clear hown
  go_wp2_with fail
  refine (samep_t D2 D3 n c2 c3 (sw ps i k) _ r2 r3 HL2.out (by omega)).mono ?_
  rintro e w4 ⟨rfl, hb⟩
  have hB := below_next hB hb
  have r1 := r1.on hb
  have r2 := r2.on hb
  have r3 := r3.on hb
  clear hb
  clear r3
  go_wp2_with fail
  go_loop [10] (fun v => ∃ t : Nat, v = .int .i64 (t : Int) ∧ Hid (∀ s, s < t → s = i ∨ s = k)) (fun v => 2 - (intOf v).toNat)
  case atStart => exact ⟨0, rfl, by show ∀ s, _; omega⟩
  case round =>
    obtain ⟨x, rfl, HX⟩ := hrel
    have bd := pig HX.out
    by_cases g1 : x = i ∨ x = k
    · have HN := Lib.hid (pig_next HX.out g1)
      have bd2 := pig HN.out
      by_cases g2 : (x : Int) = (i : Int)
      · have e1 : ((x : Int) == (i : Int)) = true := beq_iff_eq.2 g2
        clear g1 g2
        go_wp2_with fail
        go_round
        case rel => exact ⟨x + 1, by go_num, HN⟩
        case measure => simp [intOf]; omega
      · have e1 : ((x : Int) == (i : Int)) = false := beq_eq_false_iff_ne.2 g2
        have e2 : ((x : Int) == (k : Int)) = true := beq_iff_eq.2 (by omega)
        clear g1 g2
        go_wp2_with fail
        go_round
        case rel => exact ⟨x + 1, by go_num, HN⟩
        case measure => simp [intOf]; omega
    have e1x : ((x : Int) == (i : Int)) = false := beq_eq_false_iff_ne.2 (by omega)
    have e2x : ((x : Int) == (k : Int)) = false := beq_eq_false_iff_ne.2 (by omega)
    have hcx : Hid (x ≠ i ∧ x ≠ k) := by show _ ∧ _; omega
    clear g1
    go_wp2_with fail
    go_loop [11] (fun v => ∃ t : Nat, v = .int .i64 (t : Int) ∧ x < t ∧ Hid (∀ s, x < s → s < t → s = i ∨ s = k)) (fun v => (x + 3) - (intOf v).toNat)
    case atStart => exact ⟨x + 1, by go_num, by omega, by show ∀ s, _; omega⟩
    case round =>
      obtain ⟨y, rfl, hxy, HY⟩ := hrel
      have bd := pig2 HY.out
      by_cases g1 : y = i ∨ y = k
      · have HN := Lib.hid (pig2_next HY.out g1)
        have bd2 := pig2 HN.out
        by_cases g2 : (y : Int) = (i : Int)
        · have e1 : ((y : Int) == (i : Int)) = true := beq_iff_eq.2 g2
          clear g1 g2
          go_wp2_with fail
          go_round
          case rel => exact ⟨y + 1, by go_num, by omega, HN⟩
          case measure => simp [intOf]; omega
        · have e1 : ((y : Int) == (i : Int)) = false := beq_eq_false_iff_ne.2 g2
          have e2 : ((y : Int) == (k : Int)) = true := beq_iff_eq.2 (by omega)
          clear g1 g2
          go_wp2_with fail
          go_round
          case rel => exact ⟨y + 1, by go_num, by omega, HN⟩
          case measure => simp [intOf]; omega
      have e1y : ((y : Int) == (i : Int)) = false := beq_eq_false_iff_ne.2 (by omega)
      have e2y : ((y : Int) == (k : Int)) = false := beq_eq_false_iff_ne.2 (by omega)
      have hcy : Hid (y ≠ i ∧ y ≠ k) := by show _ ∧ _; omega
      clear g1
      have hF := so_farB hs hcx.out hcy.out
      cases hq : soB ps (x : Nat) (y : Nat)
      · rw [hq] at hF
        go_wp2_with fail
        refine (do_n D2 n c2 (sw ps i k) x y _ r2 HL2.out (by omega) hF).mono ?_
        rintro e w5 ⟨D4, c4, rfl, hown, hb⟩
        have hB := below_next hB hb
        have r1 := r1.on hb
        have r2 := r2.on hb
        clear hb
        clear hown
        go_wp2_with fail
        refine (do_n D n c ps x y _ r1 HL.out (by omega) hq).mono ?_
        rintro e w6 ⟨D5, c5, rfl, hown, hb⟩
        have hB := below_next hB hb
        have r1 := r1.on hb
        have r2 := r2.on hb
        clear hb
        clear hown
        have hz0 : soB [] (i : Nat) (k : Nat) = false := soB_f (fun ⟨_, _, _, _, _, _, _, h, _⟩ => by simp at h)
        go_wp2_with fail
        refine (do_n D5 0 c5 [] i k _ Recs.nil rfl (by omega) hz0).mono ?_
        rintro e w7 ⟨D6, c6, rfl, hown, hb⟩
        have hB := below_next hB hb
        have r1 := r1.on hb
        have r2 := r2.on hb
        clear hb
        clear hown
        go_wp2_with fail
        go_ret
        exact ⟨rfl, hB⟩
      rw [hq] at hF
      have HW := Lib.hid (sw_farN hs hq hcx.out hcy.out)
      have HI := Lib.hid (so_farB hq (i := x) (k := y) (c := i) (d := k) (by have := hcx.out; have := hcy.out; omega) (by have := hcx.out; have := hcy.out; omega))
      have hI2 : soB (sw ps x y) (i : Nat) (k : Nat) = true := by rw [HI.out]; exact hs
      have HL5 := Lib.hid (sw_ln HL.out x y)
      have HL6 := Lib.hid (sw_ln HL2.out x y)
      clear HI
      go_wp2_with fail
      refine (do_t D2 n c2 (sw ps i k) x y _ r2 HL2.out (by omega) hF).mono ?_
      rintro e w5 ⟨D4, c4, rfl, hown, hb⟩
      have hB := below_next hB hb
      have r1 := r1.on hb
      have r2 := r2.on hb
      clear hb
      have r4 := (Recs.of_own pf_len hown (by omega)).2
      clear hown
      go_wp2_with fail
      refine (do_t D n c ps x y _ r1 HL.out (by omega) hq).mono ?_
      rintro e w6 ⟨D5, c5, rfl, hown, hb⟩
      have hB := below_next hB hb
      have r1 := r1.on hb
      have r2 := r2.on hb
      have r4 := r4.on hb
      clear hb
      have r5 := (Recs.of_own pf_len hown (by omega)).2
      clear hown
      go_wp2_with fail
      refine (do_t D5 n c5 (sw ps x y) i k _ r5 HL5.out (by omega) hI2).mono ?_
      rintro e w7 ⟨D6, c6, rfl, hown, hb⟩
      have hB := below_next hB hb
      have r1 := r1.on hb
      have r2 := r2.on hb
      have r4 := r4.on hb
      have r5 := r5.on hb
      rw [← HW.out] at hown
      clear hb
      have r6 := (Recs.of_own pf_len hown (by omega)).2
      clear hown
      go_wp2_with fail
      refine (samep_t D4 D6 n c4 c6 (sw (sw ps i k) x y) _ r4 r6 HL6.out (by omega)).mono ?_
      rintro e w8 ⟨rfl, hb⟩
      have hB := below_next hB hb
      have r1 := r1.on hb
      have r2 := r2.on hb
      have r4 := r4.on hb
      have r5 := r5.on hb
      have r6 := r6.on hb
      clear hb
      go_wp2_with fail
      go_ret
      exact ⟨rfl, hB⟩
end Go.Proofs.Ytdoomakadnfddaa
