/-
  FnExactSwapDo: the walk of this law.
-/
import Derived.Test.YtpjiencegicjbaaExactA
import Derived.Test.YtpjiencegicjbaaList
namespace Go.Proofs.Ytpjiencegicjbaa
open Go.RowKit
attribute [local go_sem ↓] Go.wp_at_zero Go.wp_at_succ

set_option maxHeartbeats 4000000 in
/-- laws.FnExactSwapDo. -/
theorem fnExactSwapDo_walk (a0 : Option Addr) (n0 cap0 : Nat) (p0 : List Pn) (a1 : Int) (a2 : Int) (w : World) (h0 : IsRecsPerson w a0 n0 cap0 p0) :
    Calls Try.prog 4 #[.slice a0 n0 cap0, .int .i64 a1, .int .i64 a2] w fun e w' => e = .returned (.bool true) ∧ Below w.heap.size w w' := by
  obtain ⟨hl0, hc0, hm0, i0⟩ := h0
  have HL0 := Lib.hid hl0
  have hm0 := len_max hm0
  clear hl0
  have hB := Below.refl w.heap.size w
  go_enter Try.func4, Try.ntmps4
  go_wp2_with fail
  refine (szp_any a0 n0 cap0 _ _ (by omega) (by omega) (by omega)).mono ?_
  rintro e w' ⟨rfl, rfl⟩
  by_cases s0 : (n0 : Int) ≤ 1048576
  rotate_left
  · rw [if_neg s0]
    go_wp2_with fail
    go_ret
    exact ⟨rfl, hB⟩
  rw [if_pos s0]
  cases hs : soB p0 a1 a2
  · skip
    go_wp2_with fail
    refine (topers_any a0 n0 cap0 p0 _ (i0.on hB) HL0.out (by omega)).mono ?_
    rintro e w1 ⟨D1, c1, rfl, hown, hb⟩
    have r1 := own_base hown (base' := w.heap.size) hB.size
    clear hown
    have hB := below_next hB hb
    clear hb
    go_wp2_with fail
    refine (sdo_n D1 n0 c1 p0 a1 a2 _ ((Recs.of_own pf_len r1 (by omega)).2) HL0.out (by omega) hs).mono ?_
    rintro e w2 ⟨D2, c2, rfl, hown, hb⟩
    have a_r1_w0 := own_apart r1 hown
    have a_w0_r1 := own_apart2 r1 hown
    have w0 := own_base hown (base' := w.heap.size) hB.size
    clear hown
    have hB := below_next hB hb
    have r1 := own_below r1 hb
    clear hb
    clear r1
    go_wp2_with fail
    refine (topers_any a0 n0 cap0 p0 _ (i0.on hB) HL0.out (by omega)).mono ?_
    rintro e w3 ⟨D3, c3, rfl, hown, hb⟩
    have a_w0_x0 := own_apart w0 hown
    have a_x0_w0 := own_apart2 w0 hown
    have x0 := own_base hown (base' := w.heap.size) hB.size
    clear hown
    have hB := below_next hB hb
    have w0 := own_below w0 hb
    clear hb
    go_wp2_with fail
    refine (do_n D3 n0 c3 p0 a1 a2 _ ((Recs.of_own pf_len x0 (by omega)).2) HL0.out (by omega) hs).mono ?_
    rintro e w4 ⟨D4, c4, rfl, hown, hb⟩
    have a_w0_g0 := own_apart w0 hown
    have a_g0_w0 := own_apart2 w0 hown
    have a_x0_g0 := own_apart x0 hown
    have a_g0_x0 := own_apart2 x0 hown
    have g0 := own_base hown (base' := w.heap.size) hB.size
    clear hown
    have hB := below_next hB hb
    have w0 := own_below w0 hb
    have x0 := own_below x0 hb
    clear hb
    go_wp2_with fail
    refine (eqpers_t D4 D2 0 c4 c2 [] _ ((Recs.of_own pf_len g0 (by omega)).2) ((Recs.of_own pf_len w0 (by omega)).2) rfl (by omega)).mono ?_
    rintro e w5 ⟨rfl, hb⟩
    have hB := below_next hB hb
    have w0 := own_below w0 hb
    have x0 := own_below x0 hb
    have g0 := own_below g0 hb
    clear hb
    go_wp2_with fail
    refine (topers_any a0 n0 cap0 p0 _ (i0.on hB) HL0.out (by omega)).mono ?_
    rintro e w6 ⟨D5, c5, rfl, hown, hb⟩
    have a_w0_r5 := own_apart w0 hown
    have a_r5_w0 := own_apart2 w0 hown
    have a_x0_r5 := own_apart x0 hown
    have a_r5_x0 := own_apart2 x0 hown
    have a_g0_r5 := own_apart g0 hown
    have a_r5_g0 := own_apart2 g0 hown
    have r5 := own_base hown (base' := w.heap.size) hB.size
    clear hown
    have hB := below_next hB hb
    have w0 := own_below w0 hb
    have x0 := own_below x0 hb
    have g0 := own_below g0 hb
    clear hb
    go_wp2_with fail
    refine (eqpers_t D3 D5 n0 c3 c5 p0 _ ((Recs.of_own pf_len x0 (by omega)).2) ((Recs.of_own pf_len r5 (by omega)).2) HL0.out (by omega)).mono ?_
    rintro e w7 ⟨rfl, hb⟩
    have hB := below_next hB hb
    have w0 := own_below w0 hb
    have x0 := own_below x0 hb
    have g0 := own_below g0 hb
    have r5 := own_below r5 hb
    clear hb
    clear r5
    go_wp2_with fail
    refine (mark_any D3 n0 c3 w.heap.size p0 1 _ x0 (by omega) (by omega) (by omega)).mono ?_
    rintro e w8 ⟨rfl, hown, hg⟩
    have hB := hB.grown hg hB.size (fun k e => (x0.lt k e).1)
    have w0 := w0.kept hg a_w0_x0
    have g0 := g0.kept hg a_g0_x0
    have x0 := hown
    clear hown hg
    clear x0
    go_wp2_with fail
    refine (eqpers_t D4 D2 0 c4 c2 [] _ ((Recs.of_own pf_len g0 (by omega)).2) ((Recs.of_own pf_len w0 (by omega)).2) rfl (by omega)).mono ?_
    rintro e w9 ⟨rfl, hb⟩
    have hB := below_next hB hb
    have w0 := own_below w0 hb
    have g0 := own_below g0 hb
    clear hb
    go_wp2_with fail
    refine (mark_any D4 0 c4 w.heap.size [] 1 _ g0 (by omega) (by omega) (by omega)).mono ?_
    rintro e w10 ⟨rfl, hown, hg⟩
    have hB := hB.grown hg hB.size (fun k e => (g0.lt k e).1)
    have w0 := w0.kept hg a_w0_g0
    have g0 := hown
    clear hown hg
    go_wp2_with fail
    refine (held_any D4 0 c4 1 _ ((Recs.of_own pf_len g0 (by omega)).2) (by omega) (by omega) (by omega)).mono ?_
    rintro e w11 ⟨rfl, hb⟩
    have hB := below_next hB hb
    have w0 := own_below w0 hb
    have g0 := own_below g0 hb
    clear hb
    go_wp2_with fail
    refine (topers_any a0 n0 cap0 p0 _ (i0.on hB) HL0.out (by omega)).mono ?_
    rintro e w12 ⟨D6, c6, rfl, hown, hb⟩
    have a_w0_r6 := own_apart w0 hown
    have a_r6_w0 := own_apart2 w0 hown
    have a_g0_r6 := own_apart g0 hown
    have a_r6_g0 := own_apart2 g0 hown
    have r6 := own_base hown (base' := w.heap.size) hB.size
    clear hown
    have hB := below_next hB hb
    have w0 := own_below w0 hb
    have g0 := own_below g0 hb
    clear hb
    go_wp2_with fail
    refine (do_n D6 n0 c6 p0 a1 a2 _ ((Recs.of_own pf_len r6 (by omega)).2) HL0.out (by omega) hs).mono ?_
    rintro e w13 ⟨D7, c7, rfl, hown, hb⟩
    have a_w0_h0 := own_apart w0 hown
    have a_h0_w0 := own_apart2 w0 hown
    have a_g0_h0 := own_apart g0 hown
    have a_h0_g0 := own_apart2 g0 hown
    have a_r6_h0 := own_apart r6 hown
    have a_h0_r6 := own_apart2 r6 hown
    have h0 := own_base hown (base' := w.heap.size) hB.size
    clear hown
    have hB := below_next hB hb
    have w0 := own_below w0 hb
    have g0 := own_below g0 hb
    have r6 := own_below r6 hb
    clear hb
    clear r6
    go_wp2_with fail
    refine (eqpers_t D7 D2 0 c7 c2 [] _ ((Recs.of_own pf_len h0 (by omega)).2) ((Recs.of_own pf_len w0 (by omega)).2) rfl (by omega)).mono ?_
    rintro e w14 ⟨rfl, hb⟩
    have hB := below_next hB hb
    have w0 := own_below w0 hb
    have g0 := own_below g0 hb
    have h0 := own_below h0 hb
    clear hb
    go_wp2_with fail
    refine (held_any D4 0 c4 1 _ ((Recs.of_own pf_len g0 (by omega)).2) (by omega) (by omega) (by omega)).mono ?_
    rintro e w15 ⟨rfl, hb⟩
    have hB := below_next hB hb
    have w0 := own_below w0 hb
    have g0 := own_below g0 hb
    have h0 := own_below h0 hb
    clear hb
    go_wp2_with fail
    go_ret
    exact ⟨rfl, hB⟩
  · skip
    obtain ⟨i, k, rfl, rfl⟩ := so_nats hs
    have HQ : Hid ((sw p0 i k).length = n0) := by show _ = _; rw [sw_len]; exact HL0.out
    go_wp2_with fail
    refine (topers_any a0 n0 cap0 p0 _ (i0.on hB) HL0.out (by omega)).mono ?_
    rintro e w1 ⟨D1, c1, rfl, hown, hb⟩
    have r1 := own_base hown (base' := w.heap.size) hB.size
    clear hown
    have hB := below_next hB hb
    clear hb
    go_wp2_with fail
    refine (sdo_t D1 n0 c1 p0 i k _ ((Recs.of_own pf_len r1 (by omega)).2) HL0.out (by omega) hs).mono ?_
    rintro e w2 ⟨D2, c2, rfl, hown, hb⟩
    have a_r1_w0 := own_apart r1 hown
    have a_w0_r1 := own_apart2 r1 hown
    have w0 := own_base hown (base' := w.heap.size) hB.size
    clear hown
    have hB := below_next hB hb
    have r1 := own_below r1 hb
    clear hb
    clear r1
    go_wp2_with fail
    refine (topers_any a0 n0 cap0 p0 _ (i0.on hB) HL0.out (by omega)).mono ?_
    rintro e w3 ⟨D3, c3, rfl, hown, hb⟩
    have a_w0_x0 := own_apart w0 hown
    have a_x0_w0 := own_apart2 w0 hown
    have x0 := own_base hown (base' := w.heap.size) hB.size
    clear hown
    have hB := below_next hB hb
    have w0 := own_below w0 hb
    clear hb
    go_wp2_with fail
    refine (do_t D3 n0 c3 p0 i k _ ((Recs.of_own pf_len x0 (by omega)).2) HL0.out (by omega) hs).mono ?_
    rintro e w4 ⟨D4, c4, rfl, hown, hb⟩
    have a_w0_g0 := own_apart w0 hown
    have a_g0_w0 := own_apart2 w0 hown
    have a_x0_g0 := own_apart x0 hown
    have a_g0_x0 := own_apart2 x0 hown
    have g0 := own_base hown (base' := w.heap.size) hB.size
    clear hown
    have hB := below_next hB hb
    have w0 := own_below w0 hb
    have x0 := own_below x0 hb
    clear hb
    go_wp2_with fail
    refine (eqpers_t D4 D2 n0 c4 c2 (sw p0 i k) _ ((Recs.of_own pf_len g0 (by omega)).2) ((Recs.of_own pf_len w0 (by omega)).2) HQ.out (by omega)).mono ?_
    rintro e w5 ⟨rfl, hb⟩
    have hB := below_next hB hb
    have w0 := own_below w0 hb
    have x0 := own_below x0 hb
    have g0 := own_below g0 hb
    clear hb
    go_wp2_with fail
    refine (topers_any a0 n0 cap0 p0 _ (i0.on hB) HL0.out (by omega)).mono ?_
    rintro e w6 ⟨D5, c5, rfl, hown, hb⟩
    have a_w0_r5 := own_apart w0 hown
    have a_r5_w0 := own_apart2 w0 hown
    have a_x0_r5 := own_apart x0 hown
    have a_r5_x0 := own_apart2 x0 hown
    have a_g0_r5 := own_apart g0 hown
    have a_r5_g0 := own_apart2 g0 hown
    have r5 := own_base hown (base' := w.heap.size) hB.size
    clear hown
    have hB := below_next hB hb
    have w0 := own_below w0 hb
    have x0 := own_below x0 hb
    have g0 := own_below g0 hb
    clear hb
    go_wp2_with fail
    refine (eqpers_t D3 D5 n0 c3 c5 p0 _ ((Recs.of_own pf_len x0 (by omega)).2) ((Recs.of_own pf_len r5 (by omega)).2) HL0.out (by omega)).mono ?_
    rintro e w7 ⟨rfl, hb⟩
    have hB := below_next hB hb
    have w0 := own_below w0 hb
    have x0 := own_below x0 hb
    have g0 := own_below g0 hb
    have r5 := own_below r5 hb
    clear hb
    clear r5
    go_wp2_with fail
    refine (mark_any D3 n0 c3 w.heap.size p0 1 _ x0 (by omega) (by omega) (by omega)).mono ?_
    rintro e w8 ⟨rfl, hown, hg⟩
    have hB := hB.grown hg hB.size (fun k e => (x0.lt k e).1)
    have w0 := w0.kept hg a_w0_x0
    have g0 := g0.kept hg a_g0_x0
    have x0 := hown
    clear hown hg
    clear x0
    go_wp2_with fail
    refine (eqpers_t D4 D2 n0 c4 c2 (sw p0 i k) _ ((Recs.of_own pf_len g0 (by omega)).2) ((Recs.of_own pf_len w0 (by omega)).2) HQ.out (by omega)).mono ?_
    rintro e w9 ⟨rfl, hb⟩
    have hB := below_next hB hb
    have w0 := own_below w0 hb
    have g0 := own_below g0 hb
    clear hb
    go_wp2_with fail
    refine (mark_any D4 n0 c4 w.heap.size (sw p0 i k) 1 _ g0 (by omega) (by omega) (by omega)).mono ?_
    rintro e w10 ⟨rfl, hown, hg⟩
    have hB := hB.grown hg hB.size (fun k e => (g0.lt k e).1)
    have w0 := w0.kept hg a_w0_g0
    have g0 := hown
    clear hown hg
    go_wp2_with fail
    refine (held_any D4 n0 c4 1 _ ((Recs.of_own pf_len g0 (by omega)).2) (by omega) (by omega) (by omega)).mono ?_
    rintro e w11 ⟨rfl, hb⟩
    have hB := below_next hB hb
    have w0 := own_below w0 hb
    have g0 := own_below g0 hb
    clear hb
    go_wp2_with fail
    refine (topers_any a0 n0 cap0 p0 _ (i0.on hB) HL0.out (by omega)).mono ?_
    rintro e w12 ⟨D6, c6, rfl, hown, hb⟩
    have a_w0_r6 := own_apart w0 hown
    have a_r6_w0 := own_apart2 w0 hown
    have a_g0_r6 := own_apart g0 hown
    have a_r6_g0 := own_apart2 g0 hown
    have r6 := own_base hown (base' := w.heap.size) hB.size
    clear hown
    have hB := below_next hB hb
    have w0 := own_below w0 hb
    have g0 := own_below g0 hb
    clear hb
    go_wp2_with fail
    refine (do_t D6 n0 c6 p0 i k _ ((Recs.of_own pf_len r6 (by omega)).2) HL0.out (by omega) hs).mono ?_
    rintro e w13 ⟨D7, c7, rfl, hown, hb⟩
    have a_w0_h0 := own_apart w0 hown
    have a_h0_w0 := own_apart2 w0 hown
    have a_g0_h0 := own_apart g0 hown
    have a_h0_g0 := own_apart2 g0 hown
    have a_r6_h0 := own_apart r6 hown
    have a_h0_r6 := own_apart2 r6 hown
    have h0 := own_base hown (base' := w.heap.size) hB.size
    clear hown
    have hB := below_next hB hb
    have w0 := own_below w0 hb
    have g0 := own_below g0 hb
    have r6 := own_below r6 hb
    clear hb
    clear r6
    go_wp2_with fail
    refine (eqpers_t D7 D2 n0 c7 c2 (sw p0 i k) _ ((Recs.of_own pf_len h0 (by omega)).2) ((Recs.of_own pf_len w0 (by omega)).2) HQ.out (by omega)).mono ?_
    rintro e w14 ⟨rfl, hb⟩
    have hB := below_next hB hb
    have w0 := own_below w0 hb
    have g0 := own_below g0 hb
    have h0 := own_below h0 hb
    clear hb
    go_wp2_with fail
    refine (held_any D4 n0 c4 1 _ ((Recs.of_own pf_len g0 (by omega)).2) (by omega) (by omega) (by omega)).mono ?_
    rintro e w15 ⟨rfl, hb⟩
    have hB := below_next hB hb
    have w0 := own_below w0 hb
    have g0 := own_below g0 hb
    have h0 := own_below h0 hb
    clear hb
    go_wp2_with fail
    go_ret
    exact ⟨rfl, hB⟩
end Go.Proofs.Ytpjiencegicjbaa
