/-
  FnExactSwapList: the walk of this law.
-/
import Derived.Test.YtpjiencegicjbaaExactA
import Derived.Test.YtpjiencegicjbaaList
import Derived.Test.YtpjiencegicjbaaMarkI
namespace Go.Proofs.Ytpjiencegicjbaa
open Go.RowKit
attribute [local go_sem ↓] Go.wp_at_zero Go.wp_at_succ

theorem rows_on2 {w w' : World} {A : Option Addr} {rs : List (List Int)} (h : Rws w w.heap.size A rs) (hb : Below w.heap.size w w') : Rws w' w'.heap.size A rs := (h.below hb).more hb.size
theorem rws_of {w : World} {base n c : Nat} {D : Option Addr} {ts : List (Nat × List Int)} {rs : List (List Int)} (h : RwO w base (.slice D n c) n ts) (H : Hid (ts.map Prod.snd = rs)) : Rws w w.heap.size D rs := by rw [← H.out]; exact h.rws
theorem only_next {w w1 w2 : World} {lo hi : Nat} (h : Below w.heap.size w w1) (hO : OnlyIn lo hi w1 w2) (hl : w.heap.size ≤ lo) : Below w.heap.size w w2 := h.trans (hO.below hl h.size)
set_option maxHeartbeats 4000000 in
/-- laws.FnExactSwapList. -/
theorem fnExactSwapList_walk (a0 : Option Addr) (n0 cap0 : Nat) (p0 : List Pn) (a1 : Option Addr) (n1 cap1 : Nat) (p1 : List (List Int)) (w : World) (h0 : IsRecsPerson w a0 n0 cap0 p0) (h1 : IsRows w a1 n1 cap1 p1) :
    Calls Try.prog 6 #[.slice a0 n0 cap0, .slice a1 n1 cap1] w fun e w' => e = .returned (.bool true) ∧ Below w.heap.size w w' := by
  obtain ⟨hl0, hc0, hm0, i0⟩ := h0
  have HL0 := Lib.hid hl0
  have hm0 := len_max hm0
  clear hl0
  obtain ⟨hl1, hc1, hm1, i1⟩ := h1
  have HL1 := Lib.hid hl1
  have hm1 := len_max hm1
  clear hl1
  have hB := Below.refl w.heap.size w
  go_enter Try.func6, Try.ntmps6
  go_wp2_with fail
  refine (szp_any a0 n0 cap0 _ _ (by omega) (by omega) (by omega)).mono ?_
  rintro e w' ⟨rfl, rfl⟩
  by_cases s0 : (n0 : Int) ≤ 1048576
  rotate_left
  · rw [if_neg s0]
    go_wp2_with fail
    go_ret
    exact ⟨rfl, hB⟩
  rw [if_pos s0]
  go_wp2_with fail
  refine (szr_any a1 n1 cap1 p1 _ _ i1 HL1.out (by omega) (by omega) (by omega)).mono ?_
  rintro e w' ⟨z1, rfl, zlo, zhi, HZ, rfl⟩
  by_cases s1 : z1 < 0
  · go_wp2_with fail
    go_ret
    exact ⟨rfl, hB⟩
  have hz0 := HZ.out (by omega)
  have htl : tln p1 ≤ 1048576 := by omega
  have hn1 : n1 ≤ 1048576 := by have := HL1.out; omega
  have HRR : Hid (∀ r ∈ p1, r.length ≤ 1048576) := fun r hr => by have := tln_mem hr; omega
  clear hz0 HZ
  obtain ⟨qs, t, hrun⟩ : ∃ qs t, runR p0 p1 = (qs, t) := ⟨_, _, rfl⟩
  have HRun := Lib.hid hrun
  clear hrun
  cases hs : slB p0 p1
  · skip
    go_wp2_with fail
    refine (topers_any a0 n0 cap0 p0 _ (i0.on hB) HL0.out (by omega)).mono ?_
    rintro e w1 ⟨D1, c1, rfl, hown, hb⟩
    have r1 := own_base hown (base' := w.heap.size) hB.size
    clear hown
    have hB := below_next hB hb
    clear hb
    go_wp2_with fail
    refine (tor_any a1 n1 cap1 p1 _ (rows_on2 i1 hB) HL1.out (by omega) HRR.out).mono ?_
    rintro e w2 ⟨ts_q1, rfl, Hq1, q1, hb⟩
    have hz1 := hb.size
    have lo_q1 := hB.size
    have hB := below_next hB hb
    have r1 := own_below r1 hb
    clear hb
    go_wp2_with fail
    refine (slist_n D1 _ n0 c1 n1 n1 p0 p1 _ ((Recs.of_own pf_len r1 (by omega)).2) (rws_of q1 Hq1) HL0.out (by omega) HL1.out hs).mono ?_
    rintro e w3 ⟨D2, c2, rfl, hown, hb⟩
    have a_r1_w0 := own_apart r1 hown
    have a_w0_r1 := own_apart2 r1 hown
    have w0 := own_base hown (base' := w.heap.size) hB.size
    clear hown
    have hB := below_next hB hb
    have r1 := own_below r1 hb
    have q1 := q1.below hb
    clear hb
    clear r1
    clear q1
    go_wp2_with fail
    refine (topers_any a0 n0 cap0 p0 _ (i0.on hB) HL0.out (by omega)).mono ?_
    rintro e w4 ⟨D3, c3, rfl, hown, hb⟩
    have a_w0_x0 := own_apart w0 hown
    have a_x0_w0 := own_apart2 w0 hown
    have x0 := own_base hown (base' := w.heap.size) hB.size
    clear hown
    have hB := below_next hB hb
    have w0 := own_below w0 hb
    clear hb
    have lo_w0 : ∀ g, (Value.slice D2 0 c2).ownBlock = some g → g < w4.heap.size := fun g h => (w0.lt g h).2
    go_wp2_with fail
    refine (tor_any a1 n1 cap1 p1 _ (rows_on2 i1 hB) HL1.out (by omega) HRR.out).mono ?_
    rintro e w5 ⟨ts_x1, rfl, Hx1, x1, hb⟩
    have hz1 := hb.size
    have lo_x1 := hB.size
    have hB := below_next hB hb
    have w0 := own_below w0 hb
    have x0 := own_below x0 hb
    clear hb
    have hx1 : ∀ t ∈ ts_x1, t.1 < w5.heap.size := fun t ht => (x1.blk t ht).2.lt
    have hz7 : w4.heap.size ≤ w5.heap.size := hz1
    go_wp2_with fail
    refine (list_n D3 _ n0 c3 n1 n1 p0 p1 _ ((Recs.of_own pf_len x0 (by omega)).2) (rws_of x1 Hx1) HL0.out (by omega) HL1.out (by omega) hs).mono ?_
    rintro e w6 ⟨D4, c4, rfl, hown, hb⟩
    have hi_g0 : ∀ g, (Value.slice D4 0 c4).ownBlock = some g → w5.heap.size ≤ g := fun g h => (hown.lt g h).1
    have a_w0_g0 := own_apart w0 hown
    have a_g0_w0 := own_apart2 w0 hown
    have a_x0_g0 := own_apart x0 hown
    have a_g0_x0 := own_apart2 x0 hown
    have g0 := own_base hown (base' := w.heap.size) hB.size
    clear hown
    have hB := below_next hB hb
    have w0 := own_below w0 hb
    have x0 := own_below x0 hb
    have x1 := x1.below hb
    clear hb
    go_wp2_with fail
    refine (eqpers_t D4 D2 0 c4 c2 [] _ ((Recs.of_own pf_len g0 (by omega)).2) ((Recs.of_own pf_len w0 (by omega)).2) rfl (by omega)).mono ?_
    rintro e w7 ⟨rfl, hb⟩
    have hB := below_next hB hb
    have w0 := own_below w0 hb
    have x0 := own_below x0 hb
    have g0 := own_below g0 hb
    have x1 := x1.below hb
    clear hb
    go_wp2_with fail
    refine (topers_any a0 n0 cap0 p0 _ (i0.on hB) HL0.out (by omega)).mono ?_
    rintro e w8 ⟨D5, c5, rfl, hown, hb⟩
    have a_w0_r5 := own_apart w0 hown
    have a_r5_w0 := own_apart2 w0 hown
    have a_x0_r5 := own_apart x0 hown
    have a_r5_x0 := own_apart2 x0 hown
    have a_g0_r5 := own_apart g0 hown
    have a_r5_g0 := own_apart2 g0 hown
    have r5 := own_base hown (base' := w.heap.size) hB.size
    clear hown
    have hB := below_next hB hb
    have w0 := own_below w0 hb
    have x0 := own_below x0 hb
    have g0 := own_below g0 hb
    have x1 := x1.below hb
    clear hb
    go_wp2_with fail
    refine (eqpers_t D3 D5 n0 c3 c5 p0 _ ((Recs.of_own pf_len x0 (by omega)).2) ((Recs.of_own pf_len r5 (by omega)).2) HL0.out (by omega)).mono ?_
    rintro e w9 ⟨rfl, hb⟩
    have hB := below_next hB hb
    have w0 := own_below w0 hb
    have x0 := own_below x0 hb
    have g0 := own_below g0 hb
    have r5 := own_below r5 hb
    have x1 := x1.below hb
    clear hb
    clear r5
    go_wp2_with fail
    refine (tor_any a1 n1 cap1 p1 _ (rows_on2 i1 hB) HL1.out (by omega) HRR.out).mono ?_
    rintro e w10 ⟨ts_q5, rfl, Hq5, q5, hb⟩
    have hz1 := hb.size
    have lo_q5 := hB.size
    have hB := below_next hB hb
    have w0 := own_below w0 hb
    have x0 := own_below x0 hb
    have g0 := own_below g0 hb
    have x1 := x1.below hb
    clear hb
    go_wp2_with fail
    refine (eqr_t _ _ n1 n1 n1 p1 _ (rws_of x1 Hx1) (rws_of q5 Hq5) HL1.out (by omega) (fun r hr => by have := HRR.out r hr; omega)).mono ?_
    rintro e w11 ⟨rfl, hb⟩
    have hB := below_next hB hb
    have w0 := own_below w0 hb
    have x0 := own_below x0 hb
    have g0 := own_below g0 hb
    have x1 := x1.below hb
    have q5 := q5.below hb
    clear hb
    clear q5
    go_wp2_with fail
    refine (mark_any D3 n0 c3 w.heap.size p0 1 _ x0 (by omega) (by omega) (by omega)).mono ?_
    rintro e w12 ⟨rfl, hown, hg⟩
    have hB := hB.grown hg hB.size (fun k e => (x0.lt k e).1)
    have x1 := x1.mark x0 hg
    have w0 := w0.kept hg a_w0_x0
    have g0 := g0.kept hg a_g0_x0
    have x0 := hown
    clear hown hg
    clear x0
    go_wp2_with fail
    refine (mkr_any _ n1 n1 _ w5.heap.size ts_x1 _ _ x1 hx1 (by omega) (by rw [Hx1.out]; omega) (by omega) (by omega)).mono ?_
    rintro e w13 ⟨rfl, hO⟩
    rw [Hx1.out]
    have w0 := own_only w0 hO (fun g h => .inl (lo_w0 g h))
    have g0 := own_only g0 hO (fun g h => .inr (hi_g0 g h))
    have hB := only_next hB hO lo_x1
    clear x1 hO hx1 lo_w0 hi_g0
    go_wp2_with fail
    refine (eqpers_t D4 D2 0 c4 c2 [] _ ((Recs.of_own pf_len g0 (by omega)).2) ((Recs.of_own pf_len w0 (by omega)).2) rfl (by omega)).mono ?_
    rintro e w14 ⟨rfl, hb⟩
    have hB := below_next hB hb
    have w0 := own_below w0 hb
    have g0 := own_below g0 hb
    clear hb
    go_wp2_with fail
    refine (mark_any D4 0 c4 w.heap.size [] 1 _ g0 (by omega) (by omega) (by omega)).mono ?_
    rintro e w15 ⟨rfl, hown, hg⟩
    have hB := hB.grown hg hB.size (fun k e => (g0.lt k e).1)
    have w0 := w0.kept hg a_w0_g0
    have g0 := hown
    clear hown hg
    go_wp2_with fail
    refine (held_any D4 0 c4 1 _ ((Recs.of_own pf_len g0 (by omega)).2) (by omega) (by omega) (by omega)).mono ?_
    rintro e w16 ⟨rfl, hb⟩
    have hB := below_next hB hb
    have w0 := own_below w0 hb
    have g0 := own_below g0 hb
    clear hb
    go_wp2_with fail
    refine (topers_any a0 n0 cap0 p0 _ (i0.on hB) HL0.out (by omega)).mono ?_
    rintro e w17 ⟨D6, c6, rfl, hown, hb⟩
    have a_w0_r6 := own_apart w0 hown
    have a_r6_w0 := own_apart2 w0 hown
    have a_g0_r6 := own_apart g0 hown
    have a_r6_g0 := own_apart2 g0 hown
    have r6 := own_base hown (base' := w.heap.size) hB.size
    clear hown
    have hB := below_next hB hb
    have w0 := own_below w0 hb
    have g0 := own_below g0 hb
    clear hb
    go_wp2_with fail
    refine (tor_any a1 n1 cap1 p1 _ (rows_on2 i1 hB) HL1.out (by omega) HRR.out).mono ?_
    rintro e w18 ⟨ts_q6, rfl, Hq6, q6, hb⟩
    have hz1 := hb.size
    have lo_q6 := hB.size
    have hB := below_next hB hb
    have w0 := own_below w0 hb
    have g0 := own_below g0 hb
    have r6 := own_below r6 hb
    clear hb
    go_wp2_with fail
    refine (list_n D6 _ n0 c6 n1 n1 p0 p1 _ ((Recs.of_own pf_len r6 (by omega)).2) (rws_of q6 Hq6) HL0.out (by omega) HL1.out (by omega) hs).mono ?_
    rintro e w19 ⟨D7, c7, rfl, hown, hb⟩
    have a_w0_h0 := own_apart w0 hown
    have a_h0_w0 := own_apart2 w0 hown
    have a_g0_h0 := own_apart g0 hown
    have a_h0_g0 := own_apart2 g0 hown
    have a_r6_h0 := own_apart r6 hown
    have a_h0_r6 := own_apart2 r6 hown
    have h0 := own_base hown (base' := w.heap.size) hB.size
    clear hown
    have hB := below_next hB hb
    have w0 := own_below w0 hb
    have g0 := own_below g0 hb
    have r6 := own_below r6 hb
    have q6 := q6.below hb
    clear hb
    clear r6
    clear q6
    go_wp2_with fail
    refine (eqpers_t D7 D2 0 c7 c2 [] _ ((Recs.of_own pf_len h0 (by omega)).2) ((Recs.of_own pf_len w0 (by omega)).2) rfl (by omega)).mono ?_
    rintro e w20 ⟨rfl, hb⟩
    have hB := below_next hB hb
    have w0 := own_below w0 hb
    have g0 := own_below g0 hb
    have h0 := own_below h0 hb
    clear hb
    go_wp2_with fail
    refine (held_any D4 0 c4 1 _ ((Recs.of_own pf_len g0 (by omega)).2) (by omega) (by omega) (by omega)).mono ?_
    rintro e w21 ⟨rfl, hb⟩
    have hB := below_next hB hb
    have w0 := own_below w0 hb
    have g0 := own_below g0 hb
    have h0 := own_below h0 hb
    clear hb
    go_wp2_with fail
    go_ret
    exact ⟨rfl, hB⟩
  · skip
    have HQ : Hid (qs.length = n0) := by show _ = _; rw [runR_len HRun.out]; exact HL0.out
    go_wp2_with fail
    refine (topers_any a0 n0 cap0 p0 _ (i0.on hB) HL0.out (by omega)).mono ?_
    rintro e w1 ⟨D1, c1, rfl, hown, hb⟩
    have r1 := own_base hown (base' := w.heap.size) hB.size
    clear hown
    have hB := below_next hB hb
    clear hb
    go_wp2_with fail
    refine (tor_any a1 n1 cap1 p1 _ (rows_on2 i1 hB) HL1.out (by omega) HRR.out).mono ?_
    rintro e w2 ⟨ts_q1, rfl, Hq1, q1, hb⟩
    have hz1 := hb.size
    have lo_q1 := hB.size
    have hB := below_next hB hb
    have r1 := own_below r1 hb
    clear hb
    go_wp2_with fail
    refine (slist_t D1 _ n0 c1 n1 n1 p0 qs t p1 _ ((Recs.of_own pf_len r1 (by omega)).2) (rws_of q1 Hq1) HL0.out (by omega) HL1.out hs HRun.out).mono ?_
    rintro e w3 ⟨D2, c2, rfl, hown, hb⟩
    have a_r1_w0 := own_apart r1 hown
    have a_w0_r1 := own_apart2 r1 hown
    have w0 := own_base hown (base' := w.heap.size) hB.size
    clear hown
    have hB := below_next hB hb
    have r1 := own_below r1 hb
    have q1 := q1.below hb
    clear hb
    clear r1
    clear q1
    go_wp2_with fail
    refine (topers_any a0 n0 cap0 p0 _ (i0.on hB) HL0.out (by omega)).mono ?_
    rintro e w4 ⟨D3, c3, rfl, hown, hb⟩
    have a_w0_x0 := own_apart w0 hown
    have a_x0_w0 := own_apart2 w0 hown
    have x0 := own_base hown (base' := w.heap.size) hB.size
    clear hown
    have hB := below_next hB hb
    have w0 := own_below w0 hb
    clear hb
    have lo_w0 : ∀ g, (Value.slice D2 n0 c2).ownBlock = some g → g < w4.heap.size := fun g h => (w0.lt g h).2
    go_wp2_with fail
    refine (tor_any a1 n1 cap1 p1 _ (rows_on2 i1 hB) HL1.out (by omega) HRR.out).mono ?_
    rintro e w5 ⟨ts_x1, rfl, Hx1, x1, hb⟩
    have hz1 := hb.size
    have lo_x1 := hB.size
    have hB := below_next hB hb
    have w0 := own_below w0 hb
    have x0 := own_below x0 hb
    clear hb
    have hx1 : ∀ t ∈ ts_x1, t.1 < w5.heap.size := fun t ht => (x1.blk t ht).2.lt
    have hz7 : w4.heap.size ≤ w5.heap.size := hz1
    go_wp2_with fail
    refine (list_t D3 _ n0 c3 n1 n1 p0 qs t p1 _ ((Recs.of_own pf_len x0 (by omega)).2) (rws_of x1 Hx1) HL0.out (by omega) HL1.out hs HRun.out).mono ?_
    rintro e w6 ⟨D4, c4, rfl, hown, hb⟩
    have hi_g0 : ∀ g, (Value.slice D4 n0 c4).ownBlock = some g → w5.heap.size ≤ g := fun g h => (hown.lt g h).1
    have a_w0_g0 := own_apart w0 hown
    have a_g0_w0 := own_apart2 w0 hown
    have a_x0_g0 := own_apart x0 hown
    have a_g0_x0 := own_apart2 x0 hown
    have g0 := own_base hown (base' := w.heap.size) hB.size
    clear hown
    have hB := below_next hB hb
    have w0 := own_below w0 hb
    have x0 := own_below x0 hb
    have x1 := x1.below hb
    clear hb
    go_wp2_with fail
    refine (eqpers_t D4 D2 n0 c4 c2 qs _ ((Recs.of_own pf_len g0 (by omega)).2) ((Recs.of_own pf_len w0 (by omega)).2) HQ.out (by omega)).mono ?_
    rintro e w7 ⟨rfl, hb⟩
    have hB := below_next hB hb
    have w0 := own_below w0 hb
    have x0 := own_below x0 hb
    have g0 := own_below g0 hb
    have x1 := x1.below hb
    clear hb
    go_wp2_with fail
    refine (topers_any a0 n0 cap0 p0 _ (i0.on hB) HL0.out (by omega)).mono ?_
    rintro e w8 ⟨D5, c5, rfl, hown, hb⟩
    have a_w0_r5 := own_apart w0 hown
    have a_r5_w0 := own_apart2 w0 hown
    have a_x0_r5 := own_apart x0 hown
    have a_r5_x0 := own_apart2 x0 hown
    have a_g0_r5 := own_apart g0 hown
    have a_r5_g0 := own_apart2 g0 hown
    have r5 := own_base hown (base' := w.heap.size) hB.size
    clear hown
    have hB := below_next hB hb
    have w0 := own_below w0 hb
    have x0 := own_below x0 hb
    have g0 := own_below g0 hb
    have x1 := x1.below hb
    clear hb
    go_wp2_with fail
    refine (eqpers_t D3 D5 n0 c3 c5 p0 _ ((Recs.of_own pf_len x0 (by omega)).2) ((Recs.of_own pf_len r5 (by omega)).2) HL0.out (by omega)).mono ?_
    rintro e w9 ⟨rfl, hb⟩
    have hB := below_next hB hb
    have w0 := own_below w0 hb
    have x0 := own_below x0 hb
    have g0 := own_below g0 hb
    have r5 := own_below r5 hb
    have x1 := x1.below hb
    clear hb
    clear r5
    go_wp2_with fail
    refine (tor_any a1 n1 cap1 p1 _ (rows_on2 i1 hB) HL1.out (by omega) HRR.out).mono ?_
    rintro e w10 ⟨ts_q5, rfl, Hq5, q5, hb⟩
    have hz1 := hb.size
    have lo_q5 := hB.size
    have hB := below_next hB hb
    have w0 := own_below w0 hb
    have x0 := own_below x0 hb
    have g0 := own_below g0 hb
    have x1 := x1.below hb
    clear hb
    go_wp2_with fail
    refine (eqr_t _ _ n1 n1 n1 p1 _ (rws_of x1 Hx1) (rws_of q5 Hq5) HL1.out (by omega) (fun r hr => by have := HRR.out r hr; omega)).mono ?_
    rintro e w11 ⟨rfl, hb⟩
    have hB := below_next hB hb
    have w0 := own_below w0 hb
    have x0 := own_below x0 hb
    have g0 := own_below g0 hb
    have x1 := x1.below hb
    have q5 := q5.below hb
    clear hb
    clear q5
    go_wp2_with fail
    refine (mark_any D3 n0 c3 w.heap.size p0 1 _ x0 (by omega) (by omega) (by omega)).mono ?_
    rintro e w12 ⟨rfl, hown, hg⟩
    have hB := hB.grown hg hB.size (fun k e => (x0.lt k e).1)
    have x1 := x1.mark x0 hg
    have w0 := w0.kept hg a_w0_x0
    have g0 := g0.kept hg a_g0_x0
    have x0 := hown
    clear hown hg
    clear x0
    go_wp2_with fail
    refine (mkr_any _ n1 n1 _ w5.heap.size ts_x1 _ _ x1 hx1 (by omega) (by rw [Hx1.out]; omega) (by omega) (by omega)).mono ?_
    rintro e w13 ⟨rfl, hO⟩
    rw [Hx1.out]
    have w0 := own_only w0 hO (fun g h => .inl (lo_w0 g h))
    have g0 := own_only g0 hO (fun g h => .inr (hi_g0 g h))
    have hB := only_next hB hO lo_x1
    clear x1 hO hx1 lo_w0 hi_g0
    go_wp2_with fail
    refine (eqpers_t D4 D2 n0 c4 c2 qs _ ((Recs.of_own pf_len g0 (by omega)).2) ((Recs.of_own pf_len w0 (by omega)).2) HQ.out (by omega)).mono ?_
    rintro e w14 ⟨rfl, hb⟩
    have hB := below_next hB hb
    have w0 := own_below w0 hb
    have g0 := own_below g0 hb
    clear hb
    go_wp2_with fail
    refine (mark_any D4 n0 c4 w.heap.size qs 1 _ g0 (by omega) (by omega) (by omega)).mono ?_
    rintro e w15 ⟨rfl, hown, hg⟩
    have hB := hB.grown hg hB.size (fun k e => (g0.lt k e).1)
    have w0 := w0.kept hg a_w0_g0
    have g0 := hown
    clear hown hg
    go_wp2_with fail
    refine (held_any D4 n0 c4 1 _ ((Recs.of_own pf_len g0 (by omega)).2) (by omega) (by omega) (by omega)).mono ?_
    rintro e w16 ⟨rfl, hb⟩
    have hB := below_next hB hb
    have w0 := own_below w0 hb
    have g0 := own_below g0 hb
    clear hb
    go_wp2_with fail
    refine (topers_any a0 n0 cap0 p0 _ (i0.on hB) HL0.out (by omega)).mono ?_
    rintro e w17 ⟨D6, c6, rfl, hown, hb⟩
    have a_w0_r6 := own_apart w0 hown
    have a_r6_w0 := own_apart2 w0 hown
    have a_g0_r6 := own_apart g0 hown
    have a_r6_g0 := own_apart2 g0 hown
    have r6 := own_base hown (base' := w.heap.size) hB.size
    clear hown
    have hB := below_next hB hb
    have w0 := own_below w0 hb
    have g0 := own_below g0 hb
    clear hb
    go_wp2_with fail
    refine (tor_any a1 n1 cap1 p1 _ (rows_on2 i1 hB) HL1.out (by omega) HRR.out).mono ?_
    rintro e w18 ⟨ts_q6, rfl, Hq6, q6, hb⟩
    have hz1 := hb.size
    have lo_q6 := hB.size
    have hB := below_next hB hb
    have w0 := own_below w0 hb
    have g0 := own_below g0 hb
    have r6 := own_below r6 hb
    clear hb
    go_wp2_with fail
    refine (list_t D6 _ n0 c6 n1 n1 p0 qs t p1 _ ((Recs.of_own pf_len r6 (by omega)).2) (rws_of q6 Hq6) HL0.out (by omega) HL1.out hs HRun.out).mono ?_
    rintro e w19 ⟨D7, c7, rfl, hown, hb⟩
    have a_w0_h0 := own_apart w0 hown
    have a_h0_w0 := own_apart2 w0 hown
    have a_g0_h0 := own_apart g0 hown
    have a_h0_g0 := own_apart2 g0 hown
    have a_r6_h0 := own_apart r6 hown
    have a_h0_r6 := own_apart2 r6 hown
    have h0 := own_base hown (base' := w.heap.size) hB.size
    clear hown
    have hB := below_next hB hb
    have w0 := own_below w0 hb
    have g0 := own_below g0 hb
    have r6 := own_below r6 hb
    have q6 := q6.below hb
    clear hb
    clear r6
    clear q6
    go_wp2_with fail
    refine (eqpers_t D7 D2 n0 c7 c2 qs _ ((Recs.of_own pf_len h0 (by omega)).2) ((Recs.of_own pf_len w0 (by omega)).2) HQ.out (by omega)).mono ?_
    rintro e w20 ⟨rfl, hb⟩
    have hB := below_next hB hb
    have w0 := own_below w0 hb
    have g0 := own_below g0 hb
    have h0 := own_below h0 hb
    clear hb
    go_wp2_with fail
    refine (held_any D4 n0 c4 1 _ ((Recs.of_own pf_len g0 (by omega)).2) (by omega) (by omega) (by omega)).mono ?_
    rintro e w21 ⟨rfl, hb⟩
    have hB := below_next hB hb
    have w0 := own_below w0 hb
    have g0 := own_below g0 hb
    have h0 := own_below h0 hb
    clear hb
    go_wp2_with fail
    go_ret
    exact ⟨rfl, hB⟩
end Go.Proofs.Ytpjiencegicjbaa
