/-
  FnSwapListAgain: the walk of this law.
-/
import Derived.Test.YtdoomakadnfddaaPairs
import Derived.Test.YtdoomakadnfddaaVals
namespace Go.Proofs.Ytdoomakadnfddaa
open Go.RowKit
attribute [local go_sem ↓] Go.wp_at_zero Go.wp_at_succ

theorem IB0 (w : World) : (w.alloc (.cells #[] 46)).ownsRow w.heap.size 46 1 (.slice (some ⟨w.heap.size, 0, none⟩) 0 0) 0 [] := World.ownsRow_made w #[] 0 (Nat.le_refl _) (by simp [maxLen]) rfl
set_option maxHeartbeats 4000000 in
/-- laws.FnSwapListAgain. -/
theorem fnSwapListAgain_walk (a0 : Option Addr) (len0 cap0 : Nat) (z0 : List Int) (a1 : Option Addr) (len1 cap1 : Nat) (z1 : List Int) (w : World) (w0 : IsRow8 w a0 len0 cap0 z0) (_w1 : IsRow8 w a1 len1 cap1 z1) :
    Calls Try.prog 13 #[.slice a0 len0 cap0, .slice a1 len1 cap1] w fun e w' => e = .returned (.bool true) ∧ Below w.heap.size w w' := by
  obtain ⟨i1, hj0, hy0, hy1, hy2⟩ := info_parts sl_info
  by_cases hl : 1048576 < len0
  · go_enter Try.func13, Try.ntmps13
    go_wp2
    go_ret
    exact ⟨rfl, Below.refl _ _⟩
  by_cases hl1 : 1048576 < len1
  · go_enter Try.func13, Try.ntmps13
    go_wp2
    go_ret
    exact ⟨rfl, Below.refl _ _⟩
  go_enter Try.func13, Try.ntmps13
  go_wp2_with fail
  refine (drawl_any a0 len0 cap0 z0 _ w0).mono ?_
  rintro e w1 ⟨D, n, c, ps, Dp, m, cp, rs, rfl, hV, m6, hmc, hcp, HM, hr, hB⟩
  have n8 := hV.1
  have HL := hV.2.1
  have r1 := hV.recs
  have hcp2 := len_max hcp
  clear w0 hV
  obtain ⟨qs, t, hrun⟩ : ∃ qs t, runR ps rs = (qs, t) := ⟨_, _, rfl⟩
  cases hs : slB ps rs
  · clear hrun
    go_wp2_with fail
    refine (list_n D Dp n c m cp ps rs _ r1 hr HL.out (by omega) HM.out (by omega) hs).mono ?_
    rintro e w2 ⟨D2, c2, rfl, hown, hb⟩
    have hB := below_next hB hb
    have r1 := r1.on hb
    have hr := hr.on hb
    clear hb
    clear hown
    go_wp2_with fail
    refine (slist_n D Dp n c m cp ps rs _ r1 hr HL.out (by omega) HM.out hs).mono ?_
    rintro e w3 ⟨D3, c3, rfl, hown, hb⟩
    have hB := below_next hB hb
    have r1 := r1.on hb
    have hr := hr.on hb
    clear hb
    clear hown
    go_wp2_with fail
    refine (samep_t D2 D3 0 c2 c3 [] _ Recs.nil Recs.nil rfl (by omega)).mono ?_
    rintro e w4 ⟨rfl, hb⟩
    have hB := below_next hB hb
    have r1 := r1.on hb
    have hr := hr.on hb
    clear hb
    go_wp2_with fail
    refine (samep_t D2 D3 0 c2 c3 [] _ Recs.nil Recs.nil rfl (by omega)).mono ?_
    rintro e w5 ⟨rfl, hb⟩
    have hB := below_next hB hb
    have r1 := r1.on hb
    have hr := hr.on hb
    clear hb
    go_wp2_with fail
    go_ret
    exact ⟨rfl, hB⟩
  have HR := Lib.hid hrun
  have HQ : Hid (qs.length = n) := by show _ = _; rw [runR_len hrun]; exact HL.out
  have ht : t ≤ m := by have := runR_le hrun; have := HM.out; omega
  clear hrun
  go_wp2_with fail
  refine (list_t D Dp n c m cp ps qs t rs _ r1 hr HL.out (by omega) HM.out hs HR.out).mono ?_
  rintro e w2 ⟨D2, c2, rfl, hown, hb⟩
  have hB := below_next hB hb
  have r1 := r1.on hb
  have hr := hr.on hb
  clear hb
  have r2 := (Recs.of_own pf_len hown (by omega)).2
  clear hown
  go_wp2_with fail
  refine (slist_t D Dp n c m cp ps qs t rs _ r1 hr HL.out (by omega) HM.out hs HR.out).mono ?_
  rintro e w3 ⟨D3, c3, rfl, hown, hb⟩
  have hB := below_next hB hb
  have r1 := r1.on hb
  have hr := hr.on hb
  have r2 := r2.on hb
  clear hb
  have r3 := (Recs.of_own pf_len hown (by omega)).2
  clear hown
  go_wp2_with fail
  refine (samep_t D2 D3 n c2 c3 qs _ r2 r3 HQ.out (by omega)).mono ?_
  rintro e w4 ⟨rfl, hb⟩
  have hB := below_next hB hb
  have r1 := r1.on hb
  have hr := hr.on hb
  have r2 := r2.on hb
  have r3 := r3.on hb
  clear hb
  clear r3
  by_cases hm0 : m = 0
  · subst hm0
    go_wp2_with fail
    go_ret
    exact ⟨by simp, hB⟩
  have hm1 : ((m : Int) == 0) = false := beq_eq_false_iff_ne.2 (by omega)
  obtain ⟨k, hk⟩ : ∃ k, k = len1 % m := ⟨_, rfl⟩
  have hkm : k < m := by rw [hk]; exact Nat.mod_lt _ (by omega)
  have hkz : (len1 : Int).tmod (m : Int) = (k : Int) := by rw [Int.tmod_eq_emod_of_nonneg (by omega), hk]; exact (Int.natCast_emod _ _).symm
  have hkz2 : (len1 : Int) % (m : Int) = (k : Int) := by rw [hk]; exact (Int.natCast_emod _ _).symm
  clear hk
  have zm : ¬ (m : Int) = 0 := by omega
  have k0 : (0 : Int) ≤ (k : Int) := by omega
  have k1 : (k : Int) < (m : Int) := by omega
  obtain ⟨b, o, r, Ai, ci, rfl, hbb, HX, d0, hrc, hci, hri⟩ := hr.at_ (k := k) (by have := HM.out; omega)
  have hcm := len_max hci
  obtain ⟨hv, h40, hbad⟩ := sl_iff.1 hs
  obtain ⟨x, y, rfl⟩ := two_of (bad_f.1 hbad _ (mem_of_at HX.out))
  obtain ⟨vals, hsrc0, hvals⟩ := hr.vals HM.out
  have hone := hvals.one
  have hsrc := hsrc0.below (below_one w4 (.cells #[] 46))
  clear hsrc0
  go_wp2_with (at_builtin; refine wpList_append_src _ rfl _ _ 36 rfl w4.heap.size 46 i1 (.slice none 0 0) 1 24 Try.underlying36 hj0 hy0 hy1 hy2 rfl (by decide) _ 0 [] rfl (IB0 w4) _ m _ vals rfl hsrc hone (by simp only [maxLen]; omega) (by omega) (by simp; try omega) ?_)
  intro v' w5 hown hg _
  obtain ⟨D5, c5, rfl⟩ := own_form hown
  have hb5 : Below w4.heap.size w4 w5 := ((Below.refl _ _).alloc (Nat.le_refl _) _).grown hg (by simp) (fun k hk => by have hk : some w4.heap.size = some k := hk; injection hk with hk; omega)
  clear hg hsrc hone
  have hsrc := src_block w5 w5.heap.size rfl #[.slice Ai 2 ci, .slice Ai 2 ci] 46 2 rfl
  have hone : ∀ u ∈ (#[Value.slice Ai 2 ci, .slice Ai 2 ci]).toList, u.oneCell' = true := by intro u hu; simp at hu; subst hu; rfl
  have hown2 := hown.alloc (.cells #[.slice Ai 2 ci, .slice Ai 2 ci] 46)
  have hz5 := hb5.size
  go_wp2_with (at_builtin; refine wpList_append_src _ rfl _ _ 36 rfl w4.heap.size 46 i1 (.slice none 0 0) 1 24 Try.underlying36 hj0 hy0 hy1 hy2 rfl (by decide) _ m vals rfl hown2 _ 2 _ _ rfl hsrc hone (by simp only [maxLen]; omega) (by omega) (by simp; try omega) ?_)
  intro v' w6 hown6 hg _
  obtain ⟨D6, c6, rfl⟩ := own_form hown6
  have hb : Below w4.heap.size w4 w6 := (hb5.trans ((below_one w5 (.cells #[.slice Ai 2 ci, .slice Ai 2 ci] 46)).mono hb5.size)).grown hg (by simp; omega) (fun x e => (hown2.lt x e).1)
  have hvv := (hvals.append ((ValsR.single (r := [x, y]) hrc hci hri).append (ValsR.single (r := [x, y]) hrc hci hri))).on hb
  obtain ⟨hm6, hr6⟩ := hvv.rws hown6
  have HM6 := Lib.hid hm6
  obtain ⟨s, hrun, hst⟩ := runR_again x y HR.out
  have HRun := Lib.hid hrun
  have hs6 : slB ps (rs ++ ([[x, y]] ++ [[x, y]])) = true := sl_iff.2 ⟨hv, by rw [hm6]; omega, by rw [bad_append, hbad]; rfl⟩
  have hB := below_next hB hb
  have r1 := r1.on hb
  have hr := hr.on hb
  have r2 := r2.on hb
  clear hrun hm6 hb5 hown hown2 hown6 hvals hvv hsrc hone hg hb hbad h40 d0 HX hri
  go_wp2_with fail
  refine (list_t D D6 n c (m + 2) c6 ps qs s _ _ r1 hr6 HL.out (by omega) HM6.out hs6 HRun.out).mono ?_
  rintro e w7 ⟨D7, c7, rfl, hown7, hb⟩
  have hB := below_next hB hb
  have r1 := r1.on hb
  have hr := hr.on hb
  have r2 := r2.on hb
  have hr6 := hr6.on hb
  clear hb
  have r7 := (Recs.of_own pf_len hown7 (by omega)).2
  clear hown7
  go_wp2_with fail
  refine (samep_t D7 D2 n c7 c2 qs _ r7 r2 HQ.out (by omega)).mono ?_
  rintro e w8 ⟨rfl, hb⟩
  have hB := below_next hB hb
  have r1 := r1.on hb
  have hr := hr.on hb
  have r2 := r2.on hb
  have hr6 := hr6.on hb
  have r7 := r7.on hb
  clear hb
  rcases hst with rfl | rfl
  · go_wp2_with fail
    go_ret
    exact ⟨by simp, hB⟩
  · go_wp2_with fail
    go_ret
    exact ⟨by simp, hB⟩
end Go.Proofs.Ytdoomakadnfddaa
