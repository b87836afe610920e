/-
  FnSwapListNone: the walk of this law.
-/
import Derived.Test.YtdoomakadnfddaaLawF
import Derived.Test.YtdoomakadnfddaaLawG
namespace Go.Proofs.Ytdoomakadnfddaa
open Go.RowKit
attribute [local go_sem ↓] Go.wp_at_zero Go.wp_at_succ

set_option maxHeartbeats 4000000 in
/-- laws.FnSwapListNone. -/
theorem fnSwapListNone_walk (a0 : Option Addr) (len0 cap0 : Nat) (z0 : List Int) (w : World) (w0 : IsRow8 w a0 len0 cap0 z0) :
    Calls Try.prog 12 #[.slice a0 len0 cap0] w fun e w' => e = .returned (.bool true) ∧ Below w.heap.size w w' := by
  obtain ⟨i1, hj0, hy0, hy1, hy2⟩ := info_parts sl_info
  by_cases hl : 1048576 < len0
  · go_enter Try.func12, Try.ntmps12
    go_wp2
    go_ret
    exact ⟨rfl, Below.refl _ _⟩
  go_enter Try.func12, Try.ntmps12
  go_wp2_with fail
  refine (drawl_any a0 len0 cap0 z0 _ w0).mono ?_
  rintro e w1 ⟨D, n, c, ps, Dp, m, cp, rs, rfl, hV, m6, hmc, hcp, HM, hr, hB⟩
  have n8 := hV.1
  have HL := hV.2.1
  have r1 := hV.recs
  have hcp2 := len_max hcp
  clear w0 hV
  obtain ⟨qs, t, hrun⟩ : ∃ qs t, runR ps rs = (qs, t) := ⟨_, _, rfl⟩
  cases hs : slB ps rs
  · clear hrun
    go_wp2_with fail
    refine (list_n D Dp n c m cp ps rs _ r1 hr HL.out (by omega) HM.out (by omega) hs).mono ?_
    rintro e w2 ⟨D2, c2, rfl, hown, hb⟩
    have hB := below_next hB hb
    have r1 := r1.on hb
    have hr := hr.on hb
    clear hb
    clear hown
    go_wp2_with fail
    refine (slist_n D Dp n c m cp ps rs _ r1 hr HL.out (by omega) HM.out hs).mono ?_
    rintro e w3 ⟨D3, c3, rfl, hown, hb⟩
    have hB := below_next hB hb
    have r1 := r1.on hb
    have hr := hr.on hb
    clear hb
    clear hown
    go_wp2_with fail
    refine (samep_t D2 D3 0 c2 c3 [] _ Recs.nil Recs.nil rfl (by omega)).mono ?_
    rintro e w4 ⟨rfl, hb⟩
    have hB := below_next hB hb
    have r1 := r1.on hb
    have hr := hr.on hb
    clear hb
    go_wp2_with fail
    refine (samep_t D2 D3 0 c2 c3 [] _ Recs.nil Recs.nil rfl (by omega)).mono ?_
    rintro e w5 ⟨rfl, hb⟩
    have hB := below_next hB hb
    have r1 := r1.on hb
    have hr := hr.on hb
    clear hb
    go_wp2_with fail
    go_ret
    exact ⟨rfl, hB⟩
  have HR := Lib.hid hrun
  have HQ : Hid (qs.length = n) := by show _ = _; rw [runR_len hrun]; exact HL.out
  have ht : t ≤ m := by have := runR_le hrun; have := HM.out; omega
  clear hrun
  go_wp2_with fail
  refine (list_t D Dp n c m cp ps qs t rs _ r1 hr HL.out (by omega) HM.out hs HR.out).mono ?_
  rintro e w2 ⟨D2, c2, rfl, hown, hb⟩
  have hB := below_next hB hb
  have r1 := r1.on hb
  have hr := hr.on hb
  clear hb
  have r2 := (Recs.of_own pf_len hown (by omega)).2
  clear hown
  go_wp2_with fail
  refine (slist_t D Dp n c m cp ps qs t rs _ r1 hr HL.out (by omega) HM.out hs HR.out).mono ?_
  rintro e w3 ⟨D3, c3, rfl, hown, hb⟩
  have hB := below_next hB hb
  have r1 := r1.on hb
  have hr := hr.on hb
  have r2 := r2.on hb
  clear hb
  have r3 := (Recs.of_own pf_len hown (by omega)).2
  clear hown
  go_wp2_with fail
  refine (samep_t D2 D3 n c2 c3 qs _ r2 r3 HQ.out (by omega)).mono ?_
  rintro e w4 ⟨rfl, hb⟩
  have hB := below_next hB hb
  have r1 := r1.on hb
  have hr := hr.on hb
  have r2 := r2.on hb
  have r3 := r3.on hb
  clear hb
  clear r3
  obtain ⟨hv, h40, hbad⟩ := sl_iff.1 hs
  have hs0 : slB ps [] = true := sl_iff.2 ⟨hv, by simp, rfl⟩
  have hb0 := below_one w4 (.cells #[] 46)
  have hB := below_next hB hb0
  have r1 := r1.on hb0
  have hr := hr.on hb0
  have r2 := r2.on hb0
  clear hb0
  go_wp2_with fail
  refine (list_t D _ n c 0 _ ps ps 0 [] _ r1 (Rws.nil _ _ _) HL.out (by omega) rfl hs0 (runR_nil ps)).mono ?_
  rintro e w5 ⟨D4, c4, rfl, hown, hb⟩
  have hB := below_next hB hb
  have r1 := r1.on hb
  have hr := hr.on hb
  have r2 := r2.on hb
  clear hb
  have r4 := (Recs.of_own pf_len hown (by omega)).2
  clear hown
  obtain ⟨vals, hsrc0, hvals⟩ := hr.vals HM.out
  have hone := hvals.one
  have hsrc := hsrc0.below (below_one w5 (.cells #[] 46))
  clear hsrc0
  go_wp2_with (at_builtin; refine wpList_append_src _ rfl _ _ 36 rfl w5.heap.size 46 i1 (.slice none 0 0) 1 24 Try.underlying36 hj0 hy0 hy1 hy2 rfl (by decide) _ 0 [] rfl (IB0 w5) _ m _ vals rfl hsrc hone (by simp only [maxLen]; omega) (by omega) (by simp; try omega) ?_)
  intro v' w6 hown hg _
  obtain ⟨D5, c5, rfl⟩ := own_form hown
  have hb5 : Below w5.heap.size w5 w6 := ((Below.refl _ _).alloc (Nat.le_refl _) _).grown hg (by simp) (fun k hk => by have hk : some w5.heap.size = some k := hk; injection hk with hk; omega)
  clear hg hsrc hone
  obtain ⟨us, s, hrun⟩ : ∃ us s, runR ps (rs ++ rs.reverse) = (us, s) := ⟨_, _, rfl⟩
  have hts : t ≤ s := by obtain ⟨u2, s2, h2⟩ : ∃ u2 s2, runR qs rs.reverse = (u2, s2) := ⟨_, _, rfl⟩; have h3 := runR_append HR.out h2; rw [hrun] at h3; injection h3 with _ h3; omega
  have hsm : s ≤ 2 * m := by have := runR_le hrun; have := HM.out; simp at *; omega
  have HRun := Lib.hid hrun
  have HU : Hid (us.length = n) := by show _ = _; rw [runR_len hrun]; exact HL.out
  have HT := Lib.hid (tab_run hrun)
  clear hrun
  have m0 : (0 : Int) ≤ (m : Int) := by omega
  have hvals0 := Lib.hid hvals
  clear hvals
  have HV0 : Hid (ValsR w5 w5.heap.size vals (rs ++ rs.reverse.take 0)) := by show ValsR _ _ _ _; rw [List.take_zero, List.append_nil]; exact hvals0.out
  clear hvals0
  go_wp2_with fail
  go_loopw [14, 15] (fun v i wr => ∃ (z : Int) (k : Nat) (D : Option Addr) (c : Nat) (vs : List Value), i = .int .i64 z ∧ k ≤ m ∧ z ≤ m - 1 - k ∧ (m : Int) - 1 - k ≤ z ∧ v = .slice D (m + k) c ∧ wr.ownsRow w5.heap.size 46 1 (.slice D (m + k) c) (m + k) vs ∧ Hid (ValsR w5 w5.heap.size vs (rs ++ rs.reverse.take k)) ∧ Below w5.heap.size w5 wr) (fun _ i _ => (intOf i + 1).toNat)
  case atStart => exact ⟨_, 0, D5, c5, vals, rfl, by omega, by omega, by omega, rfl, hown, HV0, hb5⟩
  case round =>
    clear hown HV0 hb5
    obtain ⟨z, k, D5, c5, vs, rfl, hk, z1, z2, rfl, hown, HV, hb5⟩ := hrel
    by_cases hz : 0 ≤ z
    · obtain ⟨q, rfl⟩ := Int.eq_ofNat_of_zero_le hz
      obtain ⟨b, o, r, Ai, ci, rfl, hbb, HX, d0, hrc, hci, hri⟩ := hr.at_ (k := q) (by have := HM.out; omega)
      have hcm := len_max hci
      have c0 := (hb5.cell (p := ⟨b, o + q, none⟩) hbb).trans d0
      have HN : Hid (ValsR w5 w5.heap.size (vs ++ [.slice Ai r.length ci]) (rs ++ rs.reverse.take (k + 1))) := by
        have e : rs.reverse[k]? = some r := by rw [List.getElem?_reverse (by have := HM.out; omega), ← HX.out]; congr 1; have := HM.out; omega
        show ValsR _ _ _ _
        rw [take_next e, ← List.append_assoc]
        exact HV.out.append (ValsR.single hrc hci hri)
      have hsrc := src_block wr wr.heap.size rfl #[.slice Ai r.length ci] 46 1 rfl
      have hone : ∀ u ∈ (#[Value.slice Ai r.length ci]).toList, u.oneCell' = true := by intro u hu; simp at hu; subst hu; rfl
      have hown2 := hown.alloc (.cells #[.slice Ai r.length ci] 46)
      have hz5 := hb5.size
      have k0 : (0 : Int) ≤ (q : Int) := by omega
      have k1 : (q : Int) < (m : Int) := by omega
      clear d0 HV hri
      go_wp2_with (at_builtin; refine wpList_append_src _ rfl _ _ 36 rfl w5.heap.size 46 i1 (.slice none 0 0) 1 24 Try.underlying36 hj0 hy0 hy1 hy2 rfl (by decide) _ (m + k) vs rfl hown2 _ 1 _ _ rfl hsrc hone (by simp only [maxLen]; omega) (by omega) (by simp; try omega) ?_)
      intro v' w8 hown8 hg _
      obtain ⟨D8, c8, rfl⟩ := own_form hown8
      have hb8 : Below w5.heap.size w5 w8 := (hb5.trans ((below_one wr (.cells #[.slice Ai r.length ci] 46)).mono hb5.size)).grown hg (by simp; omega) (fun x e => (hown2.lt x e).1)
      clear hown hown2 hsrc hone hg hb5
      go_wp2_with fail
      go_roundw
      case rel => exact ⟨_, k + 1, D8, c8, _, rfl, by omega, by omega, by omega, rfl, hown8, HN, hb8⟩
      case measure => simp [intOf]
    · skip
      obtain rfl : k = m := by omega
      have hvv := HV.out
      rw [List.take_of_length_le (by have := HM.out; simp; omega)] at hvv
      obtain ⟨hm6, hr6⟩ := (hvv.on hb5).rws hown
      have HM6 := Lib.hid hm6
      have hs6 : slB ps (rs ++ rs.reverse) = true := sl_iff.2 ⟨hv, by rw [hm6]; omega, by rw [bad_append, hbad]; exact bad_f.2 fun r hr => bad_f.1 hbad r (List.mem_reverse.1 hr)⟩
      have hB := below_next hB hb5
      have r1 := r1.on hb5
      have hr := hr.on hb5
      have r2 := r2.on hb5
      have r4 := r4.on hb5
      clear hm6 hown HV hvv hb5
      go_wp2_with fail
      refine (list_t D D5 n c (k + k) c5 ps us s _ _ r1 hr6 HL.out (by omega) HM6.out hs6 HRun.out).mono ?_
      rintro e w7 ⟨D7, c7, rfl, hown7, hb⟩
      have hB := below_next hB hb
      have r1 := r1.on hb
      have hr := hr.on hb
      have r2 := r2.on hb
      have r4 := r4.on hb
      have hr6 := hr6.on hb
      clear hb
      have r7 := (Recs.of_own pf_len hown7 (by omega)).2
      clear hown7
      go_wp2_with fail
      refine (table_any D n c ps _ r1 HL.out (by omega) hv).mono ?_
      rintro e w8 ⟨Da, rfl, ha, hb⟩
      have hB := below_next hB hb
      have r1 := r1.on hb
      have hr := hr.on hb
      have r2 := r2.on hb
      have r4 := r4.on hb
      have hr6 := hr6.on hb
      have r7 := r7.on hb
      clear hb
      go_wp2_with fail
      refine (table_any D7 n c7 us _ r7 HU.out (by omega) (runR_pv HRun.out hv)).mono ?_
      rintro e w9 ⟨Db, rfl, hq, hb⟩
      have hB := below_next hB hb
      have r1 := r1.on hb
      have hr := hr.on hb
      have r2 := r2.on hb
      have r4 := r4.on hb
      have hr6 := hr6.on hb
      have r7 := r7.on hb
      have ha := ha.on hb
      clear hb
      rw [HT.out] at hq
      go_wp2_with fail
      refine (samep_t D4 D n c4 c ps _ r4 r1 HL.out (by omega)).mono ?_
      rintro e w10 ⟨rfl, hb⟩
      have hB := below_next hB hb
      have r1 := r1.on hb
      have hr := hr.on hb
      have r2 := r2.on hb
      have r4 := r4.on hb
      have hr6 := hr6.on hb
      have r7 := r7.on hb
      have ha := ha.on hb
      have hq := hq.on hb
      clear hb
      go_wp2_with fail
      refine (samer_t Da Db 4 4 4 (tab ps) _ ha hq (tab_len ps) (by omega) (tab_rows ps)).mono ?_
      rintro e w11 ⟨rfl, hb⟩
      have hB := below_next hB hb
      have r1 := r1.on hb
      have hr := hr.on hb
      have r2 := r2.on hb
      have r4 := r4.on hb
      have hr6 := hr6.on hb
      have r7 := r7.on hb
      have ha := ha.on hb
      have hq := hq.on hb
      clear hb
      go_wp2_with fail
      go_ret
      exact ⟨by simp, hB⟩
end Go.Proofs.Ytdoomakadnfddaa
