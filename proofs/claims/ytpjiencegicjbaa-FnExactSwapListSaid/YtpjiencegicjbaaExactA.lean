/-
  FnExactSwapOk, FnExactSwapMoved: the walks of these laws.
-/
import Derived.Test.YtpjiencegicjbaaTo
namespace Go.Proofs.Ytpjiencegicjbaa
open Go.RowKit
attribute [local go_sem ↓] Go.wp_at_zero Go.wp_at_succ

/-- .. and the other way. -/
theorem own_apart2 {w1 w2 : World} {b1 s1 s2 n1 n2 : Nat} {t1 t2 : TypeId} {v1 v2 : Value} {x1 x2 : List Value} (h1 : w1.ownsRow b1 t1 s1 v1 n1 x1) (h2 : w2.ownsRow w1.heap.size t2 s2 v2 n2 x2) : v2.ownBlock = none ∨ v2.ownBlock ≠ v1.ownBlock := by
  rcases e2 : v2.ownBlock with _ | g2
  · exact .inl rfl
  · right
    intro e
    have h3 := (h1.lt g2 e.symm).2
    have h4 := (h2.lt g2 e2).1
    omega
set_option maxHeartbeats 4000000 in
/-- laws.FnExactSwapOk. -/
theorem fnExactSwapOk_walk (a0 : Option Addr) (n0 cap0 : Nat) (p0 : List Pn) (a1 : Int) (a2 : Int) (w : World) (h0 : IsRecsPerson w a0 n0 cap0 p0) :
    Calls Try.prog 3 #[.slice a0 n0 cap0, .int .i64 a1, .int .i64 a2] w fun e w' => e = .returned (.bool true) ∧ Below w.heap.size w w' := by
  obtain ⟨hl0, hc0, hm0, i0⟩ := h0
  have HL0 := Lib.hid hl0
  have hm0 := len_max hm0
  clear hl0
  have hB := Below.refl w.heap.size w
  go_enter Try.func3, Try.ntmps3
  go_wp2_with fail
  refine (szp_any a0 n0 cap0 _ _ (by omega) (by omega) (by omega)).mono ?_
  rintro e w' ⟨rfl, rfl⟩
  by_cases s0 : (n0 : Int) ≤ 1048576
  rotate_left
  · rw [if_neg s0]
    go_wp2_with fail
    go_ret
    exact ⟨rfl, hB⟩
  rw [if_pos s0]
  go_wp2_with fail
  refine (topers_any a0 n0 cap0 p0 _ (i0.on hB) HL0.out (by omega)).mono ?_
  rintro e w1 ⟨D1, c1, rfl, hown, hb⟩
  have r1 := own_base hown (base' := w.heap.size) hB.size
  clear hown
  have hB := below_next hB hb
  clear hb
  go_wp2_with fail
  refine (sswapok_any D1 n0 c1 p0 a1 a2 _ (Recs.of_own pf_len r1 (by omega)).2 HL0.out (by omega)).mono ?_
  rintro e w2 ⟨rfl, hb⟩
  have hB := below_next hB hb
  have r1 := own_below r1 hb
  clear hb
  clear r1
  go_wp2_with fail
  refine (topers_any a0 n0 cap0 p0 _ (i0.on hB) HL0.out (by omega)).mono ?_
  rintro e w3 ⟨D2, c2, rfl, hown, hb⟩
  have r2 := own_base hown (base' := w.heap.size) hB.size
  clear hown
  have hB := below_next hB hb
  clear hb
  go_wp2_with fail
  refine (swapok_any D2 n0 c2 p0 a1 a2 _ (Recs.of_own pf_len r2 (by omega)).2 HL0.out (by omega)).mono ?_
  rintro e w4 ⟨rfl, hb⟩
  have hB := below_next hB hb
  have r2 := own_below r2 hb
  clear hb
  go_wp2_with fail
  refine (topers_any a0 n0 cap0 p0 _ (i0.on hB) HL0.out (by omega)).mono ?_
  rintro e w5 ⟨D3, c3, rfl, hown, hb⟩
  have a_r2_r3 := own_apart r2 hown
  have a_r3_r2 := own_apart2 r2 hown
  have r3 := own_base hown (base' := w.heap.size) hB.size
  clear hown
  have hB := below_next hB hb
  have r2 := own_below r2 hb
  clear hb
  go_wp2_with fail
  refine (eqpers_t D2 D3 n0 c2 c3 p0 _ ((Recs.of_own pf_len r2 (by omega)).2) ((Recs.of_own pf_len r3 (by omega)).2) HL0.out (by omega)).mono ?_
  rintro e w6 ⟨rfl, hb⟩
  have hB := below_next hB hb
  have r2 := own_below r2 hb
  have r3 := own_below r3 hb
  clear hb
  go_wp2_with fail
  go_ret
  exact ⟨rfl, hB⟩
set_option maxHeartbeats 4000000 in
/-- laws.FnExactSwapMoved. -/
theorem fnExactSwapMoved_walk (a0 : Option Addr) (n0 cap0 : Nat) (p0 : List Pn) (a1 : Option Addr) (n1 cap1 : Nat) (p1 : List Pn) (w : World) (h0 : IsRecsPerson w a0 n0 cap0 p0) (h1 : IsRecsPerson w a1 n1 cap1 p1) :
    Calls Try.prog 5 #[.slice a0 n0 cap0, .slice a1 n1 cap1] w fun e w' => e = .returned (.bool true) ∧ Below w.heap.size w w' := by
  obtain ⟨hl0, hc0, hm0, i0⟩ := h0
  have HL0 := Lib.hid hl0
  have hm0 := len_max hm0
  clear hl0
  obtain ⟨hl1, hc1, hm1, i1⟩ := h1
  have HL1 := Lib.hid hl1
  have hm1 := len_max hm1
  clear hl1
  have hB := Below.refl w.heap.size w
  go_enter Try.func5, Try.ntmps5
  go_wp2_with fail
  refine (szp_any a0 n0 cap0 _ _ (by omega) (by omega) (by omega)).mono ?_
  rintro e w' ⟨rfl, rfl⟩
  by_cases s0 : (n0 : Int) ≤ 1048576
  rotate_left
  · rw [if_neg s0]
    go_wp2_with fail
    go_ret
    exact ⟨rfl, hB⟩
  rw [if_pos s0]
  go_wp2_with fail
  refine (szp_any a1 n1 cap1 _ _ (by omega) (by omega) (by omega)).mono ?_
  rintro e w' ⟨rfl, rfl⟩
  by_cases s1 : (n1 : Int) ≤ 1048576 - n0
  rotate_left
  · rw [if_neg s1]
    go_wp2_with fail
    go_ret
    exact ⟨rfl, hB⟩
  rw [if_pos s1]
  go_wp2_with fail
  refine (topers_any a0 n0 cap0 p0 _ (i0.on hB) HL0.out (by omega)).mono ?_
  rintro e w1 ⟨D1, c1, rfl, hown, hb⟩
  have r1 := own_base hown (base' := w.heap.size) hB.size
  clear hown
  have hB := below_next hB hb
  clear hb
  go_wp2_with fail
  refine (topers_any a1 n1 cap1 p1 _ (i1.on hB) HL1.out (by omega)).mono ?_
  rintro e w2 ⟨D2, c2, rfl, hown, hb⟩
  have a_r1_r2 := own_apart r1 hown
  have a_r2_r1 := own_apart2 r1 hown
  have r2 := own_base hown (base' := w.heap.size) hB.size
  clear hown
  have hB := below_next hB hb
  have r1 := own_below r1 hb
  clear hb
  go_wp2_with fail
  refine (smoved_any D1 D2 n0 c1 n1 c2 p0 p1 _ ((Recs.of_own pf_len r1 (by omega)).2) ((Recs.of_own pf_len r2 (by omega)).2) HL0.out HL1.out (by omega) (by omega)).mono ?_
  rintro e w3 ⟨rfl, hb⟩
  have hB := below_next hB hb
  have r1 := own_below r1 hb
  have r2 := own_below r2 hb
  clear hb
  clear r1
  clear r2
  go_wp2_with fail
  refine (topers_any a0 n0 cap0 p0 _ (i0.on hB) HL0.out (by omega)).mono ?_
  rintro e w4 ⟨D3, c3, rfl, hown, hb⟩
  have r3 := own_base hown (base' := w.heap.size) hB.size
  clear hown
  have hB := below_next hB hb
  clear hb
  go_wp2_with fail
  refine (topers_any a1 n1 cap1 p1 _ (i1.on hB) HL1.out (by omega)).mono ?_
  rintro e w5 ⟨D4, c4, rfl, hown, hb⟩
  have a_r3_r4 := own_apart r3 hown
  have a_r4_r3 := own_apart2 r3 hown
  have r4 := own_base hown (base' := w.heap.size) hB.size
  clear hown
  have hB := below_next hB hb
  have r3 := own_below r3 hb
  clear hb
  go_wp2_with fail
  refine (moved_any D3 D4 n0 c3 n1 c4 p0 p1 _ ((Recs.of_own pf_len r3 (by omega)).2) ((Recs.of_own pf_len r4 (by omega)).2) HL0.out HL1.out (by omega) (by omega)).mono ?_
  rintro e w6 ⟨rfl, hb⟩
  have hB := below_next hB hb
  have r3 := own_below r3 hb
  have r4 := own_below r4 hb
  clear hb
  go_wp2_with fail
  refine (topers_any a0 n0 cap0 p0 _ (i0.on hB) HL0.out (by omega)).mono ?_
  rintro e w7 ⟨D5, c5, rfl, hown, hb⟩
  have a_r3_r5 := own_apart r3 hown
  have a_r5_r3 := own_apart2 r3 hown
  have a_r4_r5 := own_apart r4 hown
  have a_r5_r4 := own_apart2 r4 hown
  have r5 := own_base hown (base' := w.heap.size) hB.size
  clear hown
  have hB := below_next hB hb
  have r3 := own_below r3 hb
  have r4 := own_below r4 hb
  clear hb
  go_wp2_with fail
  refine (eqpers_t D3 D5 n0 c3 c5 p0 _ ((Recs.of_own pf_len r3 (by omega)).2) ((Recs.of_own pf_len r5 (by omega)).2) HL0.out (by omega)).mono ?_
  rintro e w8 ⟨rfl, hb⟩
  have hB := below_next hB hb
  have r3 := own_below r3 hb
  have r4 := own_below r4 hb
  have r5 := own_below r5 hb
  clear hb
  go_wp2_with fail
  refine (topers_any a1 n1 cap1 p1 _ (i1.on hB) HL1.out (by omega)).mono ?_
  rintro e w9 ⟨D6, c6, rfl, hown, hb⟩
  have a_r3_r6 := own_apart r3 hown
  have a_r6_r3 := own_apart2 r3 hown
  have a_r4_r6 := own_apart r4 hown
  have a_r6_r4 := own_apart2 r4 hown
  have a_r5_r6 := own_apart r5 hown
  have a_r6_r5 := own_apart2 r5 hown
  have r6 := own_base hown (base' := w.heap.size) hB.size
  clear hown
  have hB := below_next hB hb
  have r3 := own_below r3 hb
  have r4 := own_below r4 hb
  have r5 := own_below r5 hb
  clear hb
  go_wp2_with fail
  refine (eqpers_t D4 D6 n1 c4 c6 p1 _ ((Recs.of_own pf_len r4 (by omega)).2) ((Recs.of_own pf_len r6 (by omega)).2) HL1.out (by omega)).mono ?_
  rintro e w10 ⟨rfl, hb⟩
  have hB := below_next hB hb
  have r3 := own_below r3 hb
  have r4 := own_below r4 hb
  have r5 := own_below r5 hb
  have r6 := own_below r6 hb
  clear hb
  go_wp2_with fail
  go_ret
  exact ⟨rfl, hB⟩
end Go.Proofs.Ytpjiencegicjbaa
