/-
  FnSwapTable: the walk of this law.
-/
import Derived.Test.YtdoomakadnfddaaLawA
import Derived.Test.YtdoomakadnfddaaList
import Derived.Test.YtdoomakadnfddaaTable
namespace Go.Proofs.Ytdoomakadnfddaa
open Go.RowKit
attribute [local go_sem ↓] Go.wp_at_zero Go.wp_at_succ

theorem tab_len (ps : List Pn) : (tab ps).length = 4 := by simp [tab]
theorem tab_rows (ps : List Pn) : ∀ r ∈ tab ps, r.length ≤ 4194304 := by
  intro r hr
  simp only [tab, List.mem_map] at hr
  obtain ⟨a, _, rfl⟩ := hr
  simp
set_option maxHeartbeats 4000000 in
/-- laws.FnSwapTable. -/
theorem fnSwapTable_walk (a0 : Option Addr) (len0 cap0 : Nat) (z0 : List Int) (w : World) (w0 : IsRow8 w a0 len0 cap0 z0) :
    Calls Try.prog 8 #[.slice a0 len0 cap0] w fun e w' => e = .returned (.bool true) ∧ Below w.heap.size w w' := by
  by_cases hl : 1048576 < len0
  · go_enter Try.func8, Try.ntmps8
    go_wp2
    go_ret
    exact ⟨rfl, Below.refl _ _⟩
  go_enter Try.func8, Try.ntmps8
  go_wp2_with fail
  refine (drawdo_any a0 len0 cap0 z0 _ w0).mono ?_
  rintro e w1 ⟨D, n, c, ps, a, b, rfl, hV, hB⟩
  have n8 := hV.1
  have HL := hV.2.1
  have r1 := hV.recs
  clear w0 hV
  cases hs : soB ps a b
  · skip
    go_wp2_with fail
    refine (do_n D n c ps a b _ r1 HL.out (by omega) hs).mono ?_
    rintro e w2 ⟨D2, c2, rfl, hown, hb⟩
    have hB := below_next hB hb
    have r1 := r1.on hb
    clear hb
    clear hown
    go_wp2_with fail
    refine (sdo_n D n c ps a b _ r1 HL.out (by omega) hs).mono ?_
    rintro e w3 ⟨D3, c3, rfl, hown, hb⟩
    have hB := below_next hB hb
    have r1 := r1.on hb
    clear hb
    clear hown
    go_wp2_with fail
    refine (samep_t D2 D3 0 c2 c3 [] _ Recs.nil Recs.nil rfl (by omega)).mono ?_
    rintro e w4 ⟨rfl, hb⟩
    have hB := below_next hB hb
    have r1 := r1.on hb
    clear hb
    go_wp2_with fail
    refine (samep_t D2 D3 0 c2 c3 [] _ Recs.nil Recs.nil rfl (by omega)).mono ?_
    rintro e w5 ⟨rfl, hb⟩
    have hB := below_next hB hb
    have r1 := r1.on hb
    clear hb
    go_wp2_with fail
    go_ret
    exact ⟨rfl, hB⟩
  obtain ⟨i, k, rfl, rfl⟩ : ∃ i k : Nat, a = i ∧ b = k := by obtain ⟨_, i, k, _, _, e1, e2, _⟩ := soB_iff.1 hs; exact ⟨i, k, e1, e2⟩
  have HL2 := Lib.hid (sw_ln HL.out i k)
  go_wp2_with fail
  refine (do_t D n c ps i k _ r1 HL.out (by omega) hs).mono ?_
  rintro e w2 ⟨D2, c2, rfl, hown, hb⟩
  have hB := below_next hB hb
  have r1 := r1.on hb
  clear hb
  have r2 := (Recs.of_own pf_len hown (by omega)).2
  clear hown
  go_wp2_with fail
  refine (sdo_t D n c ps i k _ r1 HL.out (by omega) hs).mono ?_
  rintro e w3 ⟨D3, c3, rfl, hown, hb⟩
  have hB := below_next hB hb
  have r1 := r1.on hb
  have r2 := r2.on hb
  clear hb
  have r3 := (Recs.of_own pf_len hown (by omega)).2
  clear hown
  go_wp2_with fail
  refine (samep_t D2 D3 n c2 c3 (sw ps i k) _ r2 r3 HL2.out (by omega)).mono ?_
  rintro e w4 ⟨rfl, hb⟩
  have hB := below_next hB hb
  have r1 := r1.on hb
  have r2 := r2.on hb
  have r3 := r3.on hb
  clear hb
  clear r3
  have hv1 := so_pvB hs
  have hv2 := sw_pvB hs
  have HT : Hid (tab (sw ps i k) = tab ps) := by have h := tab_sw (soB_iff.1 hs); rw [Int.toNat_natCast, Int.toNat_natCast] at h; exact h
  go_wp2_with fail
  refine (table_any D n c ps _ r1 HL.out (by omega) hv1).mono ?_
  rintro e w5 ⟨Da, rfl, ha, hb⟩
  have hB := below_next hB hb
  have r1 := r1.on hb
  have r2 := r2.on hb
  clear hb
  go_wp2_with fail
  refine (table_any D2 n c2 (sw ps i k) _ r2 HL2.out (by omega) hv2).mono ?_
  rintro e w6 ⟨Db, rfl, hq, hb⟩
  have hB := below_next hB hb
  have r1 := r1.on hb
  have r2 := r2.on hb
  have ha := ha.on hb
  clear hb
  rw [HT.out] at hq
  go_wp2_with fail
  refine (samer_t Da Db 4 4 4 (tab ps) _ ha hq (tab_len ps) (by omega) (tab_rows ps)).mono ?_
  rintro e w7 ⟨rfl, hb⟩
  have hB := below_next hB hb
  have r1 := r1.on hb
  have r2 := r2.on hb
  have ha := ha.on hb
  have hq := hq.on hb
  clear hb
  go_wp2_with fail
  go_ret
  exact ⟨rfl, hB⟩
end Go.Proofs.Ytdoomakadnfddaa
