/-
  FnSwapListMoved: the walk of this law.
-/
import Derived.Test.YtdoomakadnfddaaPairs
import Derived.Test.YtdoomakadnfddaaVals
namespace Go.Proofs.Ytdoomakadnfddaa
open Go.RowKit
attribute [local go_sem ↓] Go.wp_at_zero Go.wp_at_succ

set_option maxHeartbeats 4000000 in
/-- laws.FnSwapListMoved. -/
theorem fnSwapListMoved_walk (a0 : Option Addr) (len0 cap0 : Nat) (z0 : List Int) (w : World) (w0 : IsRow8 w a0 len0 cap0 z0) :
    Calls Try.prog 14 #[.slice a0 len0 cap0] w fun e w' => e = .returned (.bool true) ∧ Below w.heap.size w w' := by
  by_cases hl : 1048576 < len0
  · go_enter Try.func14, Try.ntmps14
    go_wp2
    go_ret
    exact ⟨rfl, Below.refl _ _⟩
  go_enter Try.func14, Try.ntmps14
  go_wp2_with fail
  refine (drawl_any a0 len0 cap0 z0 _ w0).mono ?_
  rintro e w1 ⟨D, n, c, ps, Dp, m, cp, rs, rfl, hV, m6, hmc, hcp, HM, hr, hB⟩
  have n8 := hV.1
  have HL := hV.2.1
  have r1 := hV.recs
  have hcp2 := len_max hcp
  clear w0 hV
  obtain ⟨qs, t, hrun⟩ : ∃ qs t, runR ps rs = (qs, t) := ⟨_, _, rfl⟩
  cases hs : slB ps rs
  · clear hrun
    go_wp2_with fail
    refine (list_n D Dp n c m cp ps rs _ r1 hr HL.out (by omega) HM.out (by omega) hs).mono ?_
    rintro e w2 ⟨D2, c2, rfl, hown, hb⟩
    have hB := below_next hB hb
    have r1 := r1.on hb
    have hr := hr.on hb
    clear hb
    clear hown
    go_wp2_with fail
    refine (slist_n D Dp n c m cp ps rs _ r1 hr HL.out (by omega) HM.out hs).mono ?_
    rintro e w3 ⟨D3, c3, rfl, hown, hb⟩
    have hB := below_next hB hb
    have r1 := r1.on hb
    have hr := hr.on hb
    clear hb
    clear hown
    go_wp2_with fail
    refine (samep_t D2 D3 0 c2 c3 [] _ Recs.nil Recs.nil rfl (by omega)).mono ?_
    rintro e w4 ⟨rfl, hb⟩
    have hB := below_next hB hb
    have r1 := r1.on hb
    have hr := hr.on hb
    clear hb
    go_wp2_with fail
    refine (samep_t D2 D3 0 c2 c3 [] _ Recs.nil Recs.nil rfl (by omega)).mono ?_
    rintro e w5 ⟨rfl, hb⟩
    have hB := below_next hB hb
    have r1 := r1.on hb
    have hr := hr.on hb
    clear hb
    go_wp2_with fail
    go_ret
    exact ⟨rfl, hB⟩
  have HR := Lib.hid hrun
  have HQ : Hid (qs.length = n) := by show _ = _; rw [runR_len hrun]; exact HL.out
  have ht : t ≤ m := by have := runR_le hrun; have := HM.out; omega
  clear hrun
  go_wp2_with fail
  refine (list_t D Dp n c m cp ps qs t rs _ r1 hr HL.out (by omega) HM.out hs HR.out).mono ?_
  rintro e w2 ⟨D2, c2, rfl, hown, hb⟩
  have hB := below_next hB hb
  have r1 := r1.on hb
  have hr := hr.on hb
  clear hb
  have r2 := (Recs.of_own pf_len hown (by omega)).2
  clear hown
  go_wp2_with fail
  refine (slist_t D Dp n c m cp ps qs t rs _ r1 hr HL.out (by omega) HM.out hs HR.out).mono ?_
  rintro e w3 ⟨D3, c3, rfl, hown, hb⟩
  have hB := below_next hB hb
  have r1 := r1.on hb
  have hr := hr.on hb
  have r2 := r2.on hb
  clear hb
  have r3 := (Recs.of_own pf_len hown (by omega)).2
  clear hown
  go_wp2_with fail
  refine (samep_t D2 D3 n c2 c3 qs _ r2 r3 HQ.out (by omega)).mono ?_
  rintro e w4 ⟨rfl, hb⟩
  have hB := below_next hB hb
  have r1 := r1.on hb
  have hr := hr.on hb
  have r2 := r2.on hb
  have r3 := r3.on hb
  clear hb
  clear r3
  have hv1 := (sl_iff.1 hs).1
  have hv2 := runR_pv HR.out hv1
  have HMv := Lib.hid (mv_t hv1 hv2 (by rw [HL.out, HQ.out]))
  have hm2 := runR_moved HR.out
  obtain ⟨M, hM⟩ : ∃ M, M = mvd ps qs := ⟨_, rfl⟩
  rw [← hM] at hm2
  have HMd := Lib.hid hM
  clear hM hv1 hv2
  go_wp2_with fail
  refine (moved_any D D2 n c n c2 ps qs _ r1 r2 HL.out HQ.out (by omega) (by omega)).mono ?_
  rintro e w5 ⟨rfl, hb⟩
  have hB := below_next hB hb
  have r1 := r1.on hb
  have hr := hr.on hb
  have r2 := r2.on hb
  rw [HMv.out, ← HMd.out]
  clear hb
  go_wp2_with fail
  go_ret
  exact ⟨by simp, hB⟩
end Go.Proofs.Ytdoomakadnfddaa
