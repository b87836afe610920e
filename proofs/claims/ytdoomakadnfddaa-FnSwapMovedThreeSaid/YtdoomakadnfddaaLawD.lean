/-
  FnSwapMoved, FnSwapMovedThree: the walks of these laws.
-/
import Derived.Test.YtdoomakadnfddaaLawA
import Derived.Test.YtdoomakadnfddaaPairs
import Derived.Test.YtdoomakadnfddaaVals
namespace Go.Proofs.Ytdoomakadnfddaa
open Go.RowKit
attribute [local go_sem ↓] Go.wp_at_zero Go.wp_at_succ

theorem IsRow8.below {w w' : World} {a : Option Addr} {len cap : Nat} {zs : List Int} (h : IsRow8 w a len cap zs) (hb : Below w.heap.size w w') : IsRow8 w' a len cap zs := by
  rcases h with h | ⟨x, h1, h2, h3, h4, h5, h6⟩
  · exact .inl h
  · exact .inr ⟨x, h1, h2, h3, h4, fun i hi => by rw [hb.cell (World.block_lt_of_cell? w _ (h5 i hi))]; exact h5 i hi, h6⟩
theorem mv_or (xs ys : List Pn) : mv xs ys = -1 ∨ (pvB xs = true ∧ pvB ys = true ∧ xs.length = ys.length ∧ mv xs ys = (mvd xs ys : Int)) := by
  by_cases h : pvB xs = true ∧ pvB ys = true ∧ xs.length = ys.length
  · exact .inr ⟨h.1, h.2.1, h.2.2, mv_t h.1 h.2.1 h.2.2⟩
  · left
    apply mv_f
    cases h1 : pvB xs
    · exact .inl rfl
    · cases h2 : pvB ys
      · exact .inr (.inl rfl)
      · exact .inr (.inr fun h3 => h ⟨h1, h2, h3⟩)
/-- Another area. -/
def up (a : Int) : Int := (a + 1) % 4
theorem three_plain {ps ys : List Pn} {k : Nat} {a j s p : Int} (hv : pvB ps = true) (hv2 : pvB ys = true) (hl : ps.length = ys.length) (hk : ps[k]? = some ⟨a, j, s, p⟩) :
    ∃ y : Nat, mv ps (ps.set k ⟨up a, j, s, p⟩) = 1 ∧ mv (ps.set k ⟨up a, j, s, p⟩) ys = (y : Int) ∧ mvd ps ys ≤ 1 + y ∧ y ≤ mvd ps ys + 1 ∧ y ≤ ps.length := by
  have hP := pvB_iff.1 hv
  have ha := pv_at hP hk
  have hne : a ≠ up a := by unfold up; have := ha.1; simp only at this; omega
  have hc : pvB (ps.set k ⟨up a, j, s, p⟩) = true := pvB_t ⟨by rw [List.length_set]; exact hP.1, fun q hq => by
    rcases List.mem_or_eq_of_mem_set hq with hq | rfl
    · exact hP.2 q hq
    · exact ⟨by unfold up; simp only; omega, ha.2⟩⟩
  have h1 : mvd ps (ps.set k ⟨up a, j, s, p⟩) = 1 := by
    have := mvd_set hk hk ⟨up a, j, s, p⟩
    rw [mvd_self, if_pos rfl, if_neg hne] at this; omega
  have h2 := mvd_tri ps (ps.set k ⟨up a, j, s, p⟩) ys (by simp) (by simpa using hl)
  have h3 := mvd_tri (ps.set k ⟨up a, j, s, p⟩) ps ys (by simp) hl
  rw [mvd_comm (ps.set k ⟨up a, j, s, p⟩) ps] at h3
  have h4 := mvd_le (ps.set k ⟨up a, j, s, p⟩) ys
  rw [List.length_set] at h4
  exact ⟨mvd (ps.set k ⟨up a, j, s, p⟩) ys, by rw [mv_t hv hc (by simp), h1]; rfl, mv_t hc hv2 (by simpa using hl), by omega, by omega, h4⟩
set_option maxHeartbeats 4000000 in
/-- laws.FnSwapMoved. -/
theorem fnSwapMoved_walk (a0 : Option Addr) (len0 cap0 : Nat) (z0 : List Int) (w : World) (w0 : IsRow8 w a0 len0 cap0 z0) :
    Calls Try.prog 9 #[.slice a0 len0 cap0] w fun e w' => e = .returned (.bool true) ∧ Below w.heap.size w w' := by
  by_cases hl : 1048576 < len0
  · go_enter Try.func9, Try.ntmps9
    go_wp2
    go_ret
    exact ⟨rfl, Below.refl _ _⟩
  go_enter Try.func9, Try.ntmps9
  go_wp2_with fail
  refine (drawm_any a0 len0 cap0 z0 _ w0 (fun _ hb => w0.below hb)).mono ?_
  rintro e w1 ⟨D, n, c, ps, D2, n2, c2, ys, rfl, hV, hV2, hB⟩
  have n8 := hV.1
  have HL := hV.2.1
  have n82 := hV2.1
  have HL2 := hV2.2.1
  have r1 := hV.recs
  have r2 := hV2.recs
  clear w0 hV hV2
  rcases mv_or ps ys with h | ⟨hv1, hv2, hll, h⟩
  · have HM := Lib.hid h
    clear h
    go_wp2_with fail
    refine (moved_any D D2 n c n2 c2 ps ys _ r1 r2 HL.out HL2.out (by omega) (by omega)).mono ?_
    rintro e w2 ⟨rfl, hb⟩
    have hB := below_next hB hb
    have r1 := r1.on hb
    have r2 := r2.on hb
    rw [HM.out]
    clear hb
    go_wp2_with fail
    refine (smoved_any D D2 n c n2 c2 ps ys _ r1 r2 HL.out HL2.out (by omega) (by omega)).mono ?_
    rintro e w3 ⟨rfl, hb⟩
    have hB := below_next hB hb
    have r1 := r1.on hb
    have r2 := r2.on hb
    rw [HM.out]
    clear hb
    go_wp2_with fail
    go_ret
    exact ⟨by simp, hB⟩
  have hle := mvd_le ps ys
  have HLL := Lib.hid hll
  have HG := Lib.hid hv1
  obtain ⟨M, hM⟩ : ∃ M, M = mvd ps ys := ⟨_, rfl⟩
  rw [← hM] at h hle
  have HM := Lib.hid h
  have HMd := Lib.hid hM
  have hMn : M ≤ n := by have := HL.out; omega
  clear h hM hll hle hv1
  go_wp2_with fail
  refine (moved_any D D2 n c n2 c2 ps ys _ r1 r2 HL.out HL2.out (by omega) (by omega)).mono ?_
  rintro e w2 ⟨rfl, hb⟩
  have hB := below_next hB hb
  have r1 := r1.on hb
  have r2 := r2.on hb
  rw [HM.out]
  clear hb
  go_wp2_with fail
  refine (smoved_any D D2 n c n2 c2 ps ys _ r1 r2 HL.out HL2.out (by omega) (by omega)).mono ?_
  rintro e w3 ⟨rfl, hb⟩
  have hB := below_next hB hb
  have r1 := r1.on hb
  have r2 := r2.on hb
  rw [HM.out]
  clear hb
  have HC : Hid (mv ys ps = (M : Int)) := by show _ = _; rw [mv_t hv2 HG.out HLL.out.symm, mvd_comm, ← HMd.out]
  have HS : Hid (mv ps ps = 0) := by show _ = _; rw [mv_t HG.out HG.out rfl, mvd_self]; rfl
  go_wp2_with fail
  refine (moved_any D2 D n2 c2 n c ys ps _ r2 r1 HL2.out HL.out (by omega) (by omega)).mono ?_
  rintro e w4 ⟨rfl, hb⟩
  have hB := below_next hB hb
  have r1 := r1.on hb
  have r2 := r2.on hb
  rw [HC.out]
  clear hb
  go_wp2_with fail
  refine (moved_any D D n c n c ps ps _ r1 r1 HL.out HL.out (by omega) (by omega)).mono ?_
  rintro e w5 ⟨rfl, hb⟩
  have hB := below_next hB hb
  have r1 := r1.on hb
  have r2 := r2.on hb
  rw [HS.out]
  clear hb
  go_wp2_with fail
  go_ret
  exact ⟨by simp, hB⟩
set_option maxHeartbeats 4000000 in
/-- laws.FnSwapMovedThree. -/
theorem fnSwapMovedThree_walk (a0 : Option Addr) (len0 cap0 : Nat) (z0 : List Int) (a1 : Option Addr) (len1 cap1 : Nat) (z1 : List Int) (w : World) (w0 : IsRow8 w a0 len0 cap0 z0) (_w1 : IsRow8 w a1 len1 cap1 z1) :
    Calls Try.prog 10 #[.slice a0 len0 cap0, .slice a1 len1 cap1] w fun e w' => e = .returned (.bool true) ∧ Below w.heap.size w w' := by
  by_cases hl : 1048576 < len0
  · go_enter Try.func10, Try.ntmps10
    go_wp2
    go_ret
    exact ⟨rfl, Below.refl _ _⟩
  by_cases hl1 : 1048576 < len1
  · go_enter Try.func10, Try.ntmps10
    go_wp2
    go_ret
    exact ⟨rfl, Below.refl _ _⟩
  go_enter Try.func10, Try.ntmps10
  go_wp2_with fail
  refine (drawm_any a0 len0 cap0 z0 _ w0 (fun _ hb => w0.below hb)).mono ?_
  rintro e w1 ⟨D, n, c, ps, D2, n2, c2, ys, rfl, hV, hV2, hB⟩
  have n8 := hV.1
  have HL := hV.2.1
  have n82 := hV2.1
  have HL2 := hV2.2.1
  have r1 := hV.recs
  have r2 := hV2.recs
  clear w0 hV hV2
  rcases mv_or ps ys with h | ⟨hv1, hv2, hll, h⟩
  · have HM := Lib.hid h
    clear h
    go_wp2_with fail
    refine (moved_any D D2 n c n2 c2 ps ys _ r1 r2 HL.out HL2.out (by omega) (by omega)).mono ?_
    rintro e w2 ⟨rfl, hb⟩
    have hB := below_next hB hb
    have r1 := r1.on hb
    have r2 := r2.on hb
    rw [HM.out]
    clear hb
    go_wp2_with fail
    refine (smoved_any D D2 n c n2 c2 ps ys _ r1 r2 HL.out HL2.out (by omega) (by omega)).mono ?_
    rintro e w3 ⟨rfl, hb⟩
    have hB := below_next hB hb
    have r1 := r1.on hb
    have r2 := r2.on hb
    rw [HM.out]
    clear hb
    go_wp2_with fail
    go_ret
    exact ⟨by simp, hB⟩
  have hle := mvd_le ps ys
  have HLL := Lib.hid hll
  have HG := Lib.hid hv1
  obtain ⟨M, hM⟩ : ∃ M, M = mvd ps ys := ⟨_, rfl⟩
  rw [← hM] at h hle
  have HM := Lib.hid h
  have HMd := Lib.hid hM
  have hMn : M ≤ n := by have := HL.out; omega
  clear h hM hll hle hv1
  go_wp2_with fail
  refine (moved_any D D2 n c n2 c2 ps ys _ r1 r2 HL.out HL2.out (by omega) (by omega)).mono ?_
  rintro e w2 ⟨rfl, hb⟩
  have hB := below_next hB hb
  have r1 := r1.on hb
  have r2 := r2.on hb
  rw [HM.out]
  clear hb
  go_wp2_with fail
  refine (smoved_any D D2 n c n2 c2 ps ys _ r1 r2 HL.out HL2.out (by omega) (by omega)).mono ?_
  rintro e w3 ⟨rfl, hb⟩
  have hB := below_next hB hb
  have r1 := r1.on hb
  have r2 := r2.on hb
  rw [HM.out]
  clear hb
  by_cases hn0 : n = 0
  · subst hn0
    obtain rfl : M = 0 := by omega
    go_wp2_with fail
    go_ret
    exact ⟨by simp, hB⟩
  have hn1 : ((n : Int) == 0) = false := beq_eq_false_iff_ne.2 (by omega)
  obtain ⟨k, hk⟩ : ∃ k, k = len1 % n := ⟨_, rfl⟩
  have hkn : k < n := by rw [hk]; exact Nat.mod_lt _ (by omega)
  have hkz : (len1 : Int).tmod (n : Int) = (k : Int) := by rw [Int.tmod_eq_emod_of_nonneg (by omega), hk]; exact (Int.natCast_emod _ _).symm
  have hkz2 : (len1 : Int) % (n : Int) = (k : Int) := by rw [hk]; exact (Int.natCast_emod _ _).symm
  clear hk
  have zn : ¬ (n : Int) = 0 := by omega
  obtain ⟨i9, hi0, hz0, hz1, hz2⟩ := info_parts pn_info
  have hsrc := (r1.alloc (.cells #[] 31)).src pf_len HL.out
  have hown0 : (w3.alloc (.cells #[] 31)).ownsRow w3.heap.size 31 4 (.slice (some ⟨w3.heap.size, 0, none⟩) 0 0) 0 [] := World.ownsRow_made w3 #[] 0 (Nat.le_refl _) (by simp [maxLen]) rfl
  have q1 : 0 + n ≤ maxLen := by simp only [maxLen]; omega
  have q2 : (0 + n) * 32 ≤ 140737488355328 := by omega
  have q3 : w3.heap.size ≤ (w3.alloc (.cells #[] 31)).heap.size := by simp
  have q4 := flat_one_cell pf_one ps
  go_wp2_with (at_builtin; refine wpList_append_src _ rfl _ _ 23 rfl w3.heap.size 31 i9 (.agg #[.int .i64 0, .int .i64 0, .int .i64 0, .int .i64 0]) 4 32 Try.underlying23 hi0 hz0 hz1 hz2 rfl (by decide) _ 0 [] rfl hown0 _ n _ (flat pf ps) rfl hsrc q4 q1 q2 q3 ?_)
  intro v' w4 hown hg _
  obtain ⟨D5, c5, rfl⟩ := own_form hown
  have hb : Below w3.heap.size w3 w4 := ((Below.refl _ _).alloc (Nat.le_refl _) _).grown hg (by simp) (fun k hk => by have hk : some w3.heap.size = some k := hk; injection hk with hk; omega)
  have hZ := hB.size
  have hB := below_next hB hb
  have hz5 := hb.size
  have r1o := r1.below hb
  have r1 := r1.on hb
  have r2o := r2.below hb
  have r2 := r2.on hb
  clear hown0 hsrc hg hb q1 q2 q3 q4
  obtain ⟨g, xa, xj, xs, xp, rfl, hg0, hg1, HX, ⟨c0, -, -, -⟩, f0, -, -, -⟩ := own_at hown hkn
  obtain ⟨⟨a0', a1'⟩, -⟩ := pv_at (pvB_iff.1 HG.out) HX.out
  simp only at a0' a1'
  obtain ⟨y, y1, y2, y3, y4, y5⟩ := three_plain HG.out hv2 HLL.out HX.out
  rw [← HMd.out] at y3 y4
  have HY1 := Lib.hid y1
  have HY2 := Lib.hid y2
  have HY5 : y ≤ n := by have := HL.out; omega
  clear y1 y2 y5
  have hO := own_area hown HX.out (up xa)
  have hB := hB.setCell (p := ⟨g, k * 4, none⟩) (by show w.heap.size ≤ g; omega) (.int .i64 (up xa))
  have r1 := (r1o.keep_out (p := ⟨g, k * 4, none⟩) hg0 (.int .i64 (up xa))).more (B' := (w4.setCell ⟨g, k * 4, none⟩ (.int .i64 (up xa))).heap.size) (by simpa [World.setCell] using hz5)
  have r2 := (r2o.keep_out (p := ⟨g, k * 4, none⟩) hg0 (.int .i64 (up xa))).more (B' := (w4.setCell ⟨g, k * 4, none⟩ (.int .i64 (up xa))).heap.size) (by simpa [World.setCell] using hz5)
  have k0 : (0 : Int) ≤ (k : Int) := by omega
  have k1 : (k : Int) < (n : Int) := by omega
  have r3 := (Recs.of_own pf_len hO (by omega)).2
  have HL3 : Hid ((ps.set k ⟨up xa, xj, xs, xp⟩).length = n) := by show _ = _; rw [List.length_set]; exact HL.out
  have hup : up xa = (xa + 1) % 4 := rfl
  clear hown hO r1o r2o HX
  go_wp2_with fail
  refine (moved_any D _ n c n c5 ps _ _ r1 r3 HL.out HL3.out (by omega) (by omega)).mono ?_
  rintro e w5 ⟨rfl, hb⟩
  have hB := below_next hB hb
  have r1 := r1.on hb
  have r2 := r2.on hb
  have r3 := r3.on hb
  rw [HY1.out]
  clear hb
  go_wp2_with fail
  refine (moved_any _ D2 n c5 n2 c2 _ ys _ r3 r2 HL3.out HL2.out (by omega) (by omega)).mono ?_
  rintro e w6 ⟨rfl, hb⟩
  have hB := below_next hB hb
  have r1 := r1.on hb
  have r2 := r2.on hb
  have r3 := r3.on hb
  rw [HY2.out]
  clear hb
  go_wp2_with fail
  go_ret
  exact ⟨by simp; omega, hB⟩
end Go.Proofs.Ytdoomakadnfddaa
