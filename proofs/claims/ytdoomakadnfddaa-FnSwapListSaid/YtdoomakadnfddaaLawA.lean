/-
  FnSwapOk, FnSwapAgain, FnSwapDo: the walks of these laws.
-/
import Derived.Test.YtdoomakadnfddaaDraw
namespace Go.Proofs.Ytdoomakadnfddaa
open Go.RowKit
attribute [local go_sem ↓] Go.wp_at_zero Go.wp_at_succ

theorem so_symmB {ps : List Pn} {a b : Int} (h : soB ps a b = true) : soB ps b a = true := soB_t (so_symm (soB_iff.1 h))
theorem so_selfB (ps : List Pn) (a : Int) : soB ps a a = false := soB_f so_self
theorem so_againB {ps : List Pn} {i k : Nat} (h : soB ps (i : Nat) (k : Nat) = true) : soB (sw ps i k) (i : Nat) (k : Nat) = true := by
  have := so_again (soB_iff.1 h)
  rw [Int.toNat_natCast, Int.toNat_natCast] at this
  exact soB_t this
theorem sw_backN {ps : List Pn} {i k : Nat} (h : soB ps (i : Nat) (k : Nat) = true) : sw (sw ps i k) i k = ps := by
  have := sw_back (soB_iff.1 h)
  rwa [Int.toNat_natCast, Int.toNat_natCast] at this
theorem sw_commN {ps : List Pn} {i k : Nat} (h : soB ps (i : Nat) (k : Nat) = true) : sw ps k i = sw ps i k := by
  have := sw_comm (soB_iff.1 h)
  rwa [Int.toNat_natCast, Int.toNat_natCast] at this
theorem sw_pvB {ps : List Pn} {i k : Nat} (h : soB ps (i : Nat) (k : Nat) = true) : pvB (sw ps i k) = true := by
  have := so_sw (soB_iff.1 h)
  rw [Int.toNat_natCast, Int.toNat_natCast] at this
  exact pvB_t this
theorem so_pvB {ps : List Pn} {a b : Int} (h : soB ps a b = true) : pvB ps = true := pvB_t (soB_iff.1 h).1
theorem sw_mv {ps : List Pn} {i k : Nat} (h : soB ps (i : Nat) (k : Nat) = true) : mv ps (sw ps i k) = 2 := by
  rw [mv_t (so_pvB h) (sw_pvB h) (sw_len ps i k).symm]
  have := mvd_sw (soB_iff.1 h)
  rw [Int.toNat_natCast, Int.toNat_natCast] at this
  rw [this]; rfl
theorem sw_ln {ps : List Pn} {n : Nat} (h : ps.length = n) (i k : Nat) : (sw ps i k).length = n := by rw [sw_len]; exact h
/-- Another sex can not be swapped. -/
theorem so_sexB {ps : List Pn} {i k : Nat} {a j s p : Int} (h : soB ps (i : Nat) (k : Nat) = true) (hk : ps[k]? = some ⟨a, j, s, p⟩) : soB (ps.set k ⟨a, j, 1 - s, p⟩) (i : Nat) (k : Nat) = false := by
  obtain ⟨_, i', k', x, y, e1, e2, hx, hy, h5⟩ := soB_iff.1 h
  have e1 : i = i' := by omega
  have e2 : k = k' := by omega
  subst e1 e2
  have hne := alike_ne hx hy h5
  rw [hk] at hy
  injection hy with hy
  subst hy
  refine so_f (x := x) (y := ⟨a, j, 1 - s, p⟩) (by rw [List.getElem?_set_ne (by omega)]; exact hx) (set_at hk) (.inr (.inl ?_))
  have := h5.2.1
  show x.sex ≠ 1 - s
  simp only at this
  omega
theorem so_valid {ps : List Pn} {i k : Nat} {a j s p : Int} (h : soB ps (i : Nat) (k : Nat) = true) (hk : ps[k]? = some ⟨a, j, s, p⟩) : 0 ≤ s ∧ s ≤ 1 := (pv_at (soB_iff.1 h).1 hk).2.2.1
theorem Recs.keep_out {α : Type} {f : α → List Value} {sz : Nat} {w : World} {B : Nat} {A : Option Addr} {xs : List α} (h : Recs f sz w B A xs) {p : Addr} (hp : B ≤ p.block) (u : Value) : Recs f sz (w.setCell p u) B A xs :=
  h.keep fun q hq => World.cell?_setCell_other w p q u (fun e => by subst e; omega)
set_option maxHeartbeats 4000000 in
/-- laws.FnSwapOk. -/
theorem fnSwapOk_walk (a0 : Option Addr) (len0 cap0 : Nat) (z0 : List Int) (w : World) (w0 : IsRow8 w a0 len0 cap0 z0) :
    Calls Try.prog 3 #[.slice a0 len0 cap0] w fun e w' => e = .returned (.bool true) ∧ Below w.heap.size w w' := by
  by_cases hl : 1048576 < len0
  · go_enter Try.func3, Try.ntmps3
    go_wp2
    go_ret
    exact ⟨rfl, Below.refl _ _⟩
  go_enter Try.func3, Try.ntmps3
  go_wp2_with fail
  refine (drawok_any a0 len0 cap0 z0 _ w0).mono ?_
  rintro e w1 ⟨D, n, c, ps, a, b, rfl, hV, hB⟩
  have n8 := hV.1
  have HL := hV.2.1
  have r1 := hV.recs
  clear w0 hV
  go_wp2_with fail
  refine (swapok_any D n c ps a b _ r1 HL.out (by omega)).mono ?_
  rintro e w2 ⟨rfl, hb⟩
  have hB := below_next hB hb
  have r1 := r1.on hb
  clear hb
  go_wp2_with fail
  refine (sswapok_any D n c ps a b _ r1 HL.out (by omega)).mono ?_
  rintro e w3 ⟨rfl, hb⟩
  have hB := below_next hB hb
  have r1 := r1.on hb
  clear hb
  cases hs : soB ps a b
  · go_wp2_with fail
    go_ret
    exact ⟨by simp, hB⟩
  have s1 := so_symmB hs
  have s2 := so_selfB ps a
  have s3 := so_selfB ps b
  go_wp2_with fail
  refine (swapok_any D n c ps b a _ r1 HL.out (by omega)).mono ?_
  rintro e w4 ⟨rfl, hb⟩
  have hB := below_next hB hb
  have r1 := r1.on hb
  clear hb
  go_wp2_with fail
  refine (swapok_any D n c ps a a _ r1 HL.out (by omega)).mono ?_
  rintro e w5 ⟨rfl, hb⟩
  have hB := below_next hB hb
  have r1 := r1.on hb
  clear hb
  go_wp2_with fail
  refine (swapok_any D n c ps b b _ r1 HL.out (by omega)).mono ?_
  rintro e w6 ⟨rfl, hb⟩
  have hB := below_next hB hb
  have r1 := r1.on hb
  clear hb
  go_wp2_with fail
  go_ret
  exact ⟨by simp, hB⟩
set_option maxHeartbeats 4000000 in
/-- laws.FnSwapAgain. -/
theorem fnSwapAgain_walk (a0 : Option Addr) (len0 cap0 : Nat) (z0 : List Int) (w : World) (w0 : IsRow8 w a0 len0 cap0 z0) :
    Calls Try.prog 4 #[.slice a0 len0 cap0] w fun e w' => e = .returned (.bool true) ∧ Below w.heap.size w w' := by
  by_cases hl : 1048576 < len0
  · go_enter Try.func4, Try.ntmps4
    go_wp2
    go_ret
    exact ⟨rfl, Below.refl _ _⟩
  go_enter Try.func4, Try.ntmps4
  go_wp2_with fail
  refine (drawok_any a0 len0 cap0 z0 _ w0).mono ?_
  rintro e w1 ⟨D, n, c, ps, a, b, rfl, hV, hB⟩
  have n8 := hV.1
  have HL := hV.2.1
  have r1 := hV.recs
  clear w0 hV
  go_wp2_with fail
  refine (swapok_any D n c ps a b _ r1 HL.out (by omega)).mono ?_
  rintro e w2 ⟨rfl, hb⟩
  have hB := below_next hB hb
  have r1 := r1.on hb
  clear hb
  go_wp2_with fail
  refine (sswapok_any D n c ps a b _ r1 HL.out (by omega)).mono ?_
  rintro e w3 ⟨rfl, hb⟩
  have hB := below_next hB hb
  have r1 := r1.on hb
  clear hb
  cases hs : soB ps a b
  · go_wp2_with fail
    go_ret
    exact ⟨by simp, hB⟩
  obtain ⟨i, k, rfl, rfl⟩ : ∃ i k : Nat, a = i ∧ b = k := by obtain ⟨_, i, k, _, _, e1, e2, _⟩ := soB_iff.1 hs; exact ⟨i, k, e1, e2⟩
  obtain ⟨hi, hk, hne⟩ := so_parts HL.out hs
  go_wp2_with fail
  refine (do_t D n c ps i k _ r1 HL.out (by omega) hs).mono ?_
  rintro e w4 ⟨D2, c2, rfl, hown, hb⟩
  have hB := below_next hB hb
  have r1 := r1.on hb
  clear hb
  have r2 := (Recs.of_own pf_len hown (by omega)).2
  clear hown
  obtain ⟨i9, hi0, hz0, hz1, hz2⟩ := info_parts pn_info
  have hsrc := (r1.alloc (.cells #[] 31)).src pf_len HL.out
  have hown0 : (w4.alloc (.cells #[] 31)).ownsRow w4.heap.size 31 4 (.slice (some ⟨w4.heap.size, 0, none⟩) 0 0) 0 [] := World.ownsRow_made w4 #[] 0 (Nat.le_refl _) (by simp [maxLen]) rfl
  have q1 : 0 + n ≤ maxLen := by simp only [maxLen]; omega
  have q2 : (0 + n) * 32 ≤ 140737488355328 := by omega
  have q3 : w4.heap.size ≤ (w4.alloc (.cells #[] 31)).heap.size := by simp
  have q4 := flat_one_cell pf_one ps
  go_wp2_with (at_builtin; refine wpList_append_src _ rfl _ _ 23 rfl w4.heap.size 31 i9 (.agg #[.int .i64 0, .int .i64 0, .int .i64 0, .int .i64 0]) 4 32 Try.underlying23 hi0 hz0 hz1 hz2 rfl (by decide) _ 0 [] rfl hown0 _ n _ (flat pf ps) rfl hsrc q4 q1 q2 q3 ?_)
  intro v' w5 hown hg _
  obtain ⟨D5, c5, rfl⟩ := own_form hown
  have hb : Below w4.heap.size w4 w5 := ((Below.refl _ _).alloc (Nat.le_refl _) _).grown hg (by simp) (fun k hk => by have hk : some w4.heap.size = some k := hk; injection hk with hk; omega)
  have hZ := hB.size
  have hB := below_next hB hb
  have hz5 := hb.size
  have r1o := r1.below hb
  have r1 := r1.on hb
  have r2o := r2.below hb
  have r2 := r2.on hb
  clear hown0 hsrc hg hb q1 q2 q3 q4
  obtain ⟨g, ya, yj, ys, yp, rfl, hg0, hg1, HY, ⟨-, -, d2, -⟩, -, -, f2, -⟩ := own_at hown hk
  obtain ⟨s0, s1⟩ := so_valid hs HY.out
  have HF := Lib.hid (so_sexB hs HY.out)
  have hO := own_set (j := 2) (y := ⟨ya, yj, 1 - ys, yp⟩) (u := .int .i64 (1 - ys)) hown HY.out (by omega) rfl
  have hB := hB.setCell (p := ⟨g, k * 4 + 2, none⟩) (by show w.heap.size ≤ g; omega) (.int .i64 (1 - ys))
  have r2 := (r2o.keep_out (p := ⟨g, k * 4 + 2, none⟩) hg0 (.int .i64 (1 - ys))).more (B' := (w5.setCell ⟨g, k * 4 + 2, none⟩ (.int .i64 (1 - ys))).heap.size) (by simpa [World.setCell] using hz5)
  have k0 : (0 : Int) ≤ (k : Int) := by omega
  have k1 : (k : Int) < (n : Int) := by omega
  have HL2 := Lib.hid (sw_ln HL.out i k)
  have s3 := so_againB hs
  have r3 := (Recs.of_own pf_len hO (by omega)).2
  have HL3 : Hid ((ps.set k ⟨ya, yj, 1 - ys, yp⟩).length = n) := by show _ = _; rw [List.length_set]; exact HL.out
  clear hown hO r1 r1o r2o
  go_wp2_with fail
  refine (swapok_any D2 n c2 (sw ps i k) i k _ r2 HL2.out (by omega)).mono ?_
  rintro e w6 ⟨rfl, hb⟩
  have hB := below_next hB hb
  have r2 := r2.on hb
  have r3 := r3.on hb
  clear hb
  have s4 := HF.out
  go_wp2_with fail
  refine (swapok_any _ n c5 _ i k _ r3 HL3.out (by omega)).mono ?_
  rintro e w7 ⟨rfl, hb⟩
  have hB := below_next hB hb
  have r2 := r2.on hb
  have r3 := r3.on hb
  clear hb
  go_wp2_with fail
  go_ret
  exact ⟨by simp, hB⟩
set_option maxHeartbeats 4000000 in
/-- laws.FnSwapDo. -/
theorem fnSwapDo_walk (a0 : Option Addr) (len0 cap0 : Nat) (z0 : List Int) (w : World) (w0 : IsRow8 w a0 len0 cap0 z0) :
    Calls Try.prog 5 #[.slice a0 len0 cap0] w fun e w' => e = .returned (.bool true) ∧ Below w.heap.size w w' := by
  by_cases hl : 1048576 < len0
  · go_enter Try.func5, Try.ntmps5
    go_wp2
    go_ret
    exact ⟨rfl, Below.refl _ _⟩
  go_enter Try.func5, Try.ntmps5
  go_wp2_with fail
  refine (drawdo_any a0 len0 cap0 z0 _ w0).mono ?_
  rintro e w1 ⟨D, n, c, ps, a, b, rfl, hV, hB⟩
  have n8 := hV.1
  have HL := hV.2.1
  have r1 := hV.recs
  clear w0 hV
  cases hs : soB ps a b
  · skip
    go_wp2_with fail
    refine (do_n D n c ps a b _ r1 HL.out (by omega) hs).mono ?_
    rintro e w2 ⟨D2, c2, rfl, hown, hb⟩
    have hB := below_next hB hb
    have r1 := r1.on hb
    clear hb
    clear hown
    go_wp2_with fail
    refine (sdo_n D n c ps a b _ r1 HL.out (by omega) hs).mono ?_
    rintro e w3 ⟨D3, c3, rfl, hown, hb⟩
    have hB := below_next hB hb
    have r1 := r1.on hb
    clear hb
    clear hown
    go_wp2_with fail
    refine (samep_t D2 D3 0 c2 c3 [] _ Recs.nil Recs.nil rfl (by omega)).mono ?_
    rintro e w4 ⟨rfl, hb⟩
    have hB := below_next hB hb
    have r1 := r1.on hb
    clear hb
    go_wp2_with fail
    refine (samep_t D2 D3 0 c2 c3 [] _ Recs.nil Recs.nil rfl (by omega)).mono ?_
    rintro e w5 ⟨rfl, hb⟩
    have hB := below_next hB hb
    have r1 := r1.on hb
    clear hb
    go_wp2_with fail
    go_ret
    exact ⟨rfl, hB⟩
  obtain ⟨i, k, rfl, rfl⟩ : ∃ i k : Nat, a = i ∧ b = k := by obtain ⟨_, i, k, _, _, e1, e2, _⟩ := soB_iff.1 hs; exact ⟨i, k, e1, e2⟩
  have HL2 := Lib.hid (sw_ln HL.out i k)
  go_wp2_with fail
  refine (do_t D n c ps i k _ r1 HL.out (by omega) hs).mono ?_
  rintro e w2 ⟨D2, c2, rfl, hown, hb⟩
  have hB := below_next hB hb
  have r1 := r1.on hb
  clear hb
  have r2 := (Recs.of_own pf_len hown (by omega)).2
  clear hown
  go_wp2_with fail
  refine (sdo_t D n c ps i k _ r1 HL.out (by omega) hs).mono ?_
  rintro e w3 ⟨D3, c3, rfl, hown, hb⟩
  have hB := below_next hB hb
  have r1 := r1.on hb
  have r2 := r2.on hb
  clear hb
  have r3 := (Recs.of_own pf_len hown (by omega)).2
  clear hown
  go_wp2_with fail
  refine (samep_t D2 D3 n c2 c3 (sw ps i k) _ r2 r3 HL2.out (by omega)).mono ?_
  rintro e w4 ⟨rfl, hb⟩
  have hB := below_next hB hb
  have r1 := r1.on hb
  have r2 := r2.on hb
  have r3 := r3.on hb
  clear hb
  clear r3
  have s1 := so_againB hs
  have s2 := so_symmB hs
  have HB := Lib.hid (sw_backN hs)
  have HC := Lib.hid (sw_commN hs)
  have HM := Lib.hid (sw_mv hs)
  go_wp2_with fail
  refine (do_t D2 n c2 (sw ps i k) i k _ r2 HL2.out (by omega) s1).mono ?_
  rintro e w5 ⟨D4, c4, rfl, hown, hb⟩
  have hB := below_next hB hb
  have r1 := r1.on hb
  have r2 := r2.on hb
  rw [HB.out] at hown
  clear hb
  have r4 := (Recs.of_own pf_len hown (by omega)).2
  clear hown
  go_wp2_with fail
  refine (do_t D n c ps k i _ r1 HL.out (by omega) s2).mono ?_
  rintro e w6 ⟨D5, c5, rfl, hown, hb⟩
  have hB := below_next hB hb
  have r1 := r1.on hb
  have r2 := r2.on hb
  have r4 := r4.on hb
  rw [HC.out] at hown
  clear hb
  have r5 := (Recs.of_own pf_len hown (by omega)).2
  clear hown
  go_wp2_with fail
  refine (samep_t D4 D n c4 c ps _ r4 r1 HL.out (by omega)).mono ?_
  rintro e w7 ⟨rfl, hb⟩
  have hB := below_next hB hb
  have r1 := r1.on hb
  have r2 := r2.on hb
  have r4 := r4.on hb
  have r5 := r5.on hb
  clear hb
  go_wp2_with fail
  refine (samep_t D5 D2 n c5 c2 (sw ps i k) _ r5 r2 HL2.out (by omega)).mono ?_
  rintro e w8 ⟨rfl, hb⟩
  have hB := below_next hB hb
  have r1 := r1.on hb
  have r2 := r2.on hb
  have r4 := r4.on hb
  have r5 := r5.on hb
  clear hb
  go_wp2_with fail
  refine (moved_any D D2 n c n c2 ps (sw ps i k) _ r1 r2 HL.out HL2.out (by omega) (by omega)).mono ?_
  rintro e w9 ⟨rfl, hb⟩
  have hB := below_next hB hb
  have r1 := r1.on hb
  have r2 := r2.on hb
  have r4 := r4.on hb
  have r5 := r5.on hb
  rw [HM.out]
  clear hb
  go_wp2_with fail
  go_ret
  exact ⟨rfl, hB⟩
end Go.Proofs.Ytdoomakadnfddaa
