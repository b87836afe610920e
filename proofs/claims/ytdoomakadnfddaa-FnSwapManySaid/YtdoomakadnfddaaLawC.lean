/-
  FnSwapMany: the walk of this law.
-/
import Derived.Test.YtdoomakadnfddaaLawA
import Derived.Test.YtdoomakadnfddaaSel
namespace Go.Proofs.Ytdoomakadnfddaa
open Go.RowKit
attribute [local go_sem ↓] Go.wp_at_zero Go.wp_at_succ

theorem many_sw {ps : List Pn} {i k : Nat} (h : soB ps (i : Nat) (k : Nat) = true) (a j s : Int) : (sw ps i k).countP (selB a j s) = ps.countP (selB a j s) := by
  have := count_sw (soB_iff.1 h) (selB a j s) (fun p p' h1 h2 h3 => by simp only [selB, h1, h2, h3])
  rwa [Int.toNat_natCast, Int.toNat_natCast] at this
theorem pay_sw {ps : List Pn} {i k : Nat} (h : soB ps (i : Nat) (k : Nat) = true) (j s : Int) : pays (selB (-1) j s) (sw ps i k) = pays (selB (-1) j s) ps := by
  have := pays_sw (soB_iff.1 h) (selB (-1) j s) (fun p p' h2 h3 => by simp only [selB, h2, h3, true_or])
  rwa [Int.toNat_natCast, Int.toNat_natCast] at this
set_option maxHeartbeats 4000000 in
/-- laws.FnSwapMany. -/
theorem fnSwapMany_walk (a0 : Option Addr) (len0 cap0 : Nat) (z0 : List Int) (a1 : Option Addr) (len1 cap1 : Nat) (z1 : List Int) (w : World) (w0 : IsRow8 w a0 len0 cap0 z0) (_w1 : IsRow8 w a1 len1 cap1 z1) :
    Calls Try.prog 7 #[.slice a0 len0 cap0, .slice a1 len1 cap1] w fun e w' => e = .returned (.bool true) ∧ Below w.heap.size w w' := by
  by_cases hl : 1048576 < len0
  · go_enter Try.func7, Try.ntmps7
    go_wp2
    go_ret
    exact ⟨rfl, Below.refl _ _⟩
  by_cases hl1 : 1048576 < len1
  · go_enter Try.func7, Try.ntmps7
    go_wp2
    go_ret
    exact ⟨rfl, Below.refl _ _⟩
  go_enter Try.func7, Try.ntmps7
  go_wp2_with fail
  refine (drawdo_any a0 len0 cap0 z0 _ w0).mono ?_
  rintro e w1 ⟨D, n, c, ps, a, b, rfl, hV, hB⟩
  have n8 := hV.1
  have HL := hV.2.1
  have r1 := hV.recs
  clear w0 hV
  cases hs : soB ps a b
  · skip
    go_wp2_with fail
    refine (do_n D n c ps a b _ r1 HL.out (by omega) hs).mono ?_
    rintro e w2 ⟨D2, c2, rfl, hown, hb⟩
    have hB := below_next hB hb
    have r1 := r1.on hb
    clear hb
    clear hown
    go_wp2_with fail
    refine (sdo_n D n c ps a b _ r1 HL.out (by omega) hs).mono ?_
    rintro e w3 ⟨D3, c3, rfl, hown, hb⟩
    have hB := below_next hB hb
    have r1 := r1.on hb
    clear hb
    clear hown
    go_wp2_with fail
    refine (samep_t D2 D3 0 c2 c3 [] _ Recs.nil Recs.nil rfl (by omega)).mono ?_
    rintro e w4 ⟨rfl, hb⟩
    have hB := below_next hB hb
    have r1 := r1.on hb
    clear hb
    go_wp2_with fail
    refine (samep_t D2 D3 0 c2 c3 [] _ Recs.nil Recs.nil rfl (by omega)).mono ?_
    rintro e w5 ⟨rfl, hb⟩
    have hB := below_next hB hb
    have r1 := r1.on hb
    clear hb
    go_wp2_with fail
    go_ret
    exact ⟨rfl, hB⟩
  obtain ⟨i, k, rfl, rfl⟩ : ∃ i k : Nat, a = i ∧ b = k := by obtain ⟨_, i, k, _, _, e1, e2, _⟩ := soB_iff.1 hs; exact ⟨i, k, e1, e2⟩
  have HL2 := Lib.hid (sw_ln HL.out i k)
  go_wp2_with fail
  refine (do_t D n c ps i k _ r1 HL.out (by omega) hs).mono ?_
  rintro e w2 ⟨D2, c2, rfl, hown, hb⟩
  have hB := below_next hB hb
  have r1 := r1.on hb
  clear hb
  have r2 := (Recs.of_own pf_len hown (by omega)).2
  clear hown
  go_wp2_with fail
  refine (sdo_t D n c ps i k _ r1 HL.out (by omega) hs).mono ?_
  rintro e w3 ⟨D3, c3, rfl, hown, hb⟩
  have hB := below_next hB hb
  have r1 := r1.on hb
  have r2 := r2.on hb
  clear hb
  have r3 := (Recs.of_own pf_len hown (by omega)).2
  clear hown
  go_wp2_with fail
  refine (samep_t D2 D3 n c2 c3 (sw ps i k) _ r2 r3 HL2.out (by omega)).mono ?_
  rintro e w4 ⟨rfl, hb⟩
  have hB := below_next hB hb
  have r1 := r1.on hb
  have r2 := r2.on hb
  have r3 := r3.on hb
  clear hb
  clear r3
  have hv1 := so_pvB hs
  have hv2 := sw_pvB hs
  have l0 : (0 : Int) ≤ (len1 : Int) := by omega
  have l1 : (len1 : Int) ≤ 1048576 := by omega
  go_wp2_with fail
  refine (many_any D n c ps _ _ _ _ r1 HL.out (by omega) hv1 (code_or (by omega) (by omega)) (code_or (by omega) (by omega)) (code_or (by omega) (by omega))).mono ?_
  rintro e w5 ⟨rfl, hb⟩
  have hB := below_next hB hb
  have r1 := r1.on hb
  have r2 := r2.on hb
  clear hb
  go_wp2_with fail
  refine (many_any D2 n c2 (sw ps i k) _ _ _ _ r2 HL2.out (by omega) hv2 (code_or (by omega) (by omega)) (code_or (by omega) (by omega)) (code_or (by omega) (by omega))).mono ?_
  rintro e w6 ⟨rfl, hb⟩
  have hB := below_next hB hb
  have r1 := r1.on hb
  have r2 := r2.on hb
  rw [many_sw hs]
  clear hb
  go_wp2_with fail
  refine (pay_any D n c ps (-1) _ _ _ r1 HL.out (by omega) hv1 (.inl rfl) (code_or (by omega) (by omega)) (code_or (by omega) (by omega))).mono ?_
  rintro e w7 ⟨rfl, hb⟩
  have hB := below_next hB hb
  have r1 := r1.on hb
  have r2 := r2.on hb
  clear hb
  go_wp2_with fail
  refine (pay_any D2 n c2 (sw ps i k) (-1) _ _ _ r2 HL2.out (by omega) hv2 (.inl rfl) (code_or (by omega) (by omega)) (code_or (by omega) (by omega))).mono ?_
  rintro e w8 ⟨rfl, hb⟩
  have hB := below_next hB hb
  have r1 := r1.on hb
  have r2 := r2.on hb
  rw [pay_sw hs]
  clear hb
  go_wp2_with fail
  go_ret
  exact ⟨by simp, hB⟩
end Go.Proofs.Ytdoomakadnfddaa
