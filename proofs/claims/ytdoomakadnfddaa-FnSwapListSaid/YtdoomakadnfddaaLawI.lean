/-
  FnSwapList: the walk of this law.
-/
import Derived.Test.YtdoomakadnfddaaPairs
import Derived.Test.YtdoomakadnfddaaVals
import Derived.Test.YtdoomakadnfddaaLawG
namespace Go.Proofs.Ytdoomakadnfddaa
open Go.RowKit
attribute [local go_sem ↓] Go.wp_at_zero Go.wp_at_succ

set_option maxHeartbeats 4000000 in
/-- laws.FnSwapList. -/
theorem fnSwapList_walk (a0 : Option Addr) (len0 cap0 : Nat) (z0 : List Int) (a1 : Option Addr) (len1 cap1 : Nat) (z1 : List Int) (w : World) (w0 : IsRow8 w a0 len0 cap0 z0) (_w1 : IsRow8 w a1 len1 cap1 z1) :
    Calls Try.prog 11 #[.slice a0 len0 cap0, .slice a1 len1 cap1] w fun e w' => e = .returned (.bool true) ∧ Below w.heap.size w w' := by
  by_cases hl : 1048576 < len0
  · go_enter Try.func11, Try.ntmps11
    go_wp2
    go_ret
    exact ⟨rfl, Below.refl _ _⟩
  by_cases hl1 : 1048576 < len1
  · go_enter Try.func11, Try.ntmps11
    go_wp2
    go_ret
    exact ⟨rfl, Below.refl _ _⟩
  go_enter Try.func11, Try.ntmps11
  go_wp2_with fail
  refine (drawl_any a0 len0 cap0 z0 _ w0).mono ?_
  rintro e w1 ⟨D, n, c, ps, Dp, m, cp, rs, rfl, hV, m6, hmc, hcp, HM, hr, hB⟩
  have n8 := hV.1
  have HL := hV.2.1
  have r1 := hV.recs
  have hcp2 := len_max hcp
  clear w0 hV
  obtain ⟨qs, t, hrun⟩ : ∃ qs t, runR ps rs = (qs, t) := ⟨_, _, rfl⟩
  cases hs : slB ps rs
  · clear hrun
    go_wp2_with fail
    refine (list_n D Dp n c m cp ps rs _ r1 hr HL.out (by omega) HM.out (by omega) hs).mono ?_
    rintro e w2 ⟨D2, c2, rfl, hown, hb⟩
    have hB := below_next hB hb
    have r1 := r1.on hb
    have hr := hr.on hb
    clear hb
    clear hown
    go_wp2_with fail
    refine (slist_n D Dp n c m cp ps rs _ r1 hr HL.out (by omega) HM.out hs).mono ?_
    rintro e w3 ⟨D3, c3, rfl, hown, hb⟩
    have hB := below_next hB hb
    have r1 := r1.on hb
    have hr := hr.on hb
    clear hb
    clear hown
    go_wp2_with fail
    refine (samep_t D2 D3 0 c2 c3 [] _ Recs.nil Recs.nil rfl (by omega)).mono ?_
    rintro e w4 ⟨rfl, hb⟩
    have hB := below_next hB hb
    have r1 := r1.on hb
    have hr := hr.on hb
    clear hb
    go_wp2_with fail
    refine (samep_t D2 D3 0 c2 c3 [] _ Recs.nil Recs.nil rfl (by omega)).mono ?_
    rintro e w5 ⟨rfl, hb⟩
    have hB := below_next hB hb
    have r1 := r1.on hb
    have hr := hr.on hb
    clear hb
    go_wp2_with fail
    go_ret
    exact ⟨rfl, hB⟩
  have HR := Lib.hid hrun
  have HQ : Hid (qs.length = n) := by show _ = _; rw [runR_len hrun]; exact HL.out
  have ht : t ≤ m := by have := runR_le hrun; have := HM.out; omega
  clear hrun
  go_wp2_with fail
  refine (list_t D Dp n c m cp ps qs t rs _ r1 hr HL.out (by omega) HM.out hs HR.out).mono ?_
  rintro e w2 ⟨D2, c2, rfl, hown, hb⟩
  have hB := below_next hB hb
  have r1 := r1.on hb
  have hr := hr.on hb
  clear hb
  have r2 := (Recs.of_own pf_len hown (by omega)).2
  clear hown
  go_wp2_with fail
  refine (slist_t D Dp n c m cp ps qs t rs _ r1 hr HL.out (by omega) HM.out hs HR.out).mono ?_
  rintro e w3 ⟨D3, c3, rfl, hown, hb⟩
  have hB := below_next hB hb
  have r1 := r1.on hb
  have hr := hr.on hb
  have r2 := r2.on hb
  clear hb
  have r3 := (Recs.of_own pf_len hown (by omega)).2
  clear hown
  go_wp2_with fail
  refine (samep_t D2 D3 n c2 c3 qs _ r2 r3 HQ.out (by omega)).mono ?_
  rintro e w4 ⟨rfl, hb⟩
  have hB := below_next hB hb
  have r1 := r1.on hb
  have hr := hr.on hb
  have r2 := r2.on hb
  have r3 := r3.on hb
  clear hb
  clear r3
  obtain ⟨hv, h40, hbad⟩ := sl_iff.1 hs
  have hN : ((m : Int) + 1) = ((m + 1 : Nat) : Int) := by omega
  obtain ⟨k, hk⟩ : ∃ k, k = len1 % (m + 1) := ⟨_, rfl⟩
  have hkm : k ≤ m := by have := Nat.mod_lt len1 (show 0 < m + 1 by omega); omega
  have hkz : (len1 : Int).tmod ((m : Int) + 1) = (k : Int) := by rw [Int.tmod_eq_emod_of_nonneg (by omega), hk]; exact (Int.natCast_emod _ _).symm
  have hkz2 : (len1 : Int) % ((m : Int) + 1) = (k : Int) := by rw [hk]; exact (Int.natCast_emod _ _).symm
  clear hk hN
  have zm : ¬ (m : Int) + 1 = 0 := by omega
  have k0 : (0 : Int) ≤ (k : Int) := by omega
  have k1 : (k : Int) ≤ (m : Int) := by omega
  obtain ⟨us, s, h1⟩ : ∃ us s, runR ps (rs.take k) = (us, s) := ⟨_, _, rfl⟩
  obtain ⟨vs, u, h2⟩ : ∃ vs u, runR us (rs.drop k) = (vs, u) := ⟨_, _, rfl⟩
  obtain ⟨rfl, hsu⟩ : vs = qs ∧ s + u = t := by have h3 := runR_append h1 h2; rw [List.take_append_drop, HR.out] at h3; injection h3 with h4 h5; exact ⟨h4.symm, h5.symm⟩
  have HS := Lib.hid h1
  have HS2 := Lib.hid h2
  have HU : Hid (us.length = n) := by show _ = _; rw [runR_len h1]; exact HL.out
  have HSU := Lib.hid hsu
  have hvu := runR_pv h1 hv
  have hvq := runR_pv HR.out hv
  have hs1 : slB ps (rs.take k) = true := sl_iff.2 ⟨hv, by rw [List.length_take]; omega, bad_take hbad k⟩
  have hs2 : slB us (rs.drop k) = true := sl_iff.2 ⟨hvu, by rw [List.length_drop]; omega, bad_drop hbad k⟩
  have HT := Lib.hid (tab_run HR.out)
  have HK : Hid ((rs.take k).length = k) := by show _ = _; rw [List.length_take]; have := HM.out; omega
  have HK2 : Hid ((rs.drop k).length = m - k) := by show _ = _; rw [List.length_drop, HM.out]
  have hs6 : s ≤ 6 := by clear hkz hkz2 zm; omega
  have hu6 : u ≤ 6 := by clear hkz hkz2 zm; omega
  have hE : ((s : Int) + (u : Int) == (t : Int)) = true := beq_iff_eq.2 (by clear hkz hkz2 zm; omega)
  clear h1 h2 hsu h40 hbad
  go_wp2_with fail
  refine (list_t D Dp n c k cp ps us s _ _ r1 (hr.take k) HL.out (by omega) HK.out hs1 HS.out).mono ?_
  rintro e w5 ⟨D4, c4, rfl, hown, hb⟩
  have hB := below_next hB hb
  have r1 := r1.on hb
  have hr := hr.on hb
  have r2 := r2.on hb
  clear hb
  have r4 := (Recs.of_own pf_len hown (by omega)).2
  clear hown
  clear hkz hkz2 zm
  have hd := hr.drop (k := k) HM.out hmc
  by_cases hck : cp = k
  · rw [if_pos hck] at hd
    obtain rfl : k = cp := hck.symm
    have HK0 : Hid ((rs.drop k).length = 0) := by show _ = _; rw [HK2.out]; omega
    clear hck HK2
    go_wp2_with fail
    refine (list_t D4 _ n c4 0 _ us vs u _ _ r4 hd HU.out (by omega) HK0.out hs2 HS2.out).mono ?_
    rintro e w6 ⟨D5, c5, rfl, hown, hb⟩
    have hB := below_next hB hb
    have r1 := r1.on hb
    have hr := hr.on hb
    have r2 := r2.on hb
    have r4 := r4.on hb
    clear hb
    have r5 := (Recs.of_own pf_len hown (by omega)).2
    clear hown
    go_wp2_with fail
    refine (table_any D n c ps _ r1 HL.out (by omega) hv).mono ?_
    rintro e w7 ⟨Da, rfl, ha, hb⟩
    have hB := below_next hB hb
    have r1 := r1.on hb
    have hr := hr.on hb
    have r2 := r2.on hb
    have r4 := r4.on hb
    have r5 := r5.on hb
    clear hb
    go_wp2_with fail
    refine (table_any D2 n c2 vs _ r2 HQ.out (by omega) hvq).mono ?_
    rintro e w8 ⟨Db, rfl, hq, hb⟩
    have hB := below_next hB hb
    have r1 := r1.on hb
    have hr := hr.on hb
    have r2 := r2.on hb
    have r4 := r4.on hb
    have r5 := r5.on hb
    have ha := ha.on hb
    clear hb
    rw [HT.out] at hq
    go_wp2_with fail
    refine (samep_t D5 D2 n c5 c2 vs _ r5 r2 HQ.out (by omega)).mono ?_
    rintro e w9 ⟨rfl, hb⟩
    have hB := below_next hB hb
    have r1 := r1.on hb
    have hr := hr.on hb
    have r2 := r2.on hb
    have r4 := r4.on hb
    have r5 := r5.on hb
    have ha := ha.on hb
    have hq := hq.on hb
    clear hb
    go_wp2_with fail
    refine (samer_t Da Db 4 4 4 (tab ps) _ ha hq (tab_len ps) (by omega) (tab_rows ps)).mono ?_
    rintro e w10 ⟨rfl, hb⟩
    have hB := below_next hB hb
    have r1 := r1.on hb
    have hr := hr.on hb
    have r2 := r2.on hb
    have r4 := r4.on hb
    have r5 := r5.on hb
    have ha := ha.on hb
    have hq := hq.on hb
    clear hb
    go_wp2_with fail
    go_ret
    exact ⟨by simp, hB⟩
  · rw [if_neg hck] at hd
    go_wp2_with fail
    refine (list_t D4 _ n c4 (m - k) _ us vs u _ _ r4 hd HU.out (by omega) HK2.out hs2 HS2.out).mono ?_
    rintro e w6 ⟨D5, c5, rfl, hown, hb⟩
    have hB := below_next hB hb
    have r1 := r1.on hb
    have hr := hr.on hb
    have r2 := r2.on hb
    have r4 := r4.on hb
    clear hb
    have r5 := (Recs.of_own pf_len hown (by omega)).2
    clear hown
    go_wp2_with fail
    refine (table_any D n c ps _ r1 HL.out (by omega) hv).mono ?_
    rintro e w7 ⟨Da, rfl, ha, hb⟩
    have hB := below_next hB hb
    have r1 := r1.on hb
    have hr := hr.on hb
    have r2 := r2.on hb
    have r4 := r4.on hb
    have r5 := r5.on hb
    clear hb
    go_wp2_with fail
    refine (table_any D2 n c2 vs _ r2 HQ.out (by omega) hvq).mono ?_
    rintro e w8 ⟨Db, rfl, hq, hb⟩
    have hB := below_next hB hb
    have r1 := r1.on hb
    have hr := hr.on hb
    have r2 := r2.on hb
    have r4 := r4.on hb
    have r5 := r5.on hb
    have ha := ha.on hb
    clear hb
    rw [HT.out] at hq
    go_wp2_with fail
    refine (samep_t D5 D2 n c5 c2 vs _ r5 r2 HQ.out (by omega)).mono ?_
    rintro e w9 ⟨rfl, hb⟩
    have hB := below_next hB hb
    have r1 := r1.on hb
    have hr := hr.on hb
    have r2 := r2.on hb
    have r4 := r4.on hb
    have r5 := r5.on hb
    have ha := ha.on hb
    have hq := hq.on hb
    clear hb
    go_wp2_with fail
    refine (samer_t Da Db 4 4 4 (tab ps) _ ha hq (tab_len ps) (by omega) (tab_rows ps)).mono ?_
    rintro e w10 ⟨rfl, hb⟩
    have hB := below_next hB hb
    have r1 := r1.on hb
    have hr := hr.on hb
    have r2 := r2.on hb
    have r4 := r4.on hb
    have r5 := r5.on hb
    have ha := ha.on hb
    have hq := hq.on hb
    clear hb
    go_wp2_with fail
    go_ret
    exact ⟨by simp, hB⟩
end Go.Proofs.Ytdoomakadnfddaa
