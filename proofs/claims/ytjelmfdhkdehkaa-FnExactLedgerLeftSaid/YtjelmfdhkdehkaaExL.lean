/-
  FnExactLedgerValid, FnExactLedgerSpent, FnExactLedgerLeft: the walks of these laws.
-/
import Derived.Test.YtjelmfdhkdehkaaToL
namespace Go.Proofs.Ytjelmfdhkdehkaa
open Go.RowKit
attribute [local go_sem ↓] Go.wp_at_zero Go.wp_at_succ

set_option maxHeartbeats 4000000 in
/-- laws.FnExactLedgerValid. -/
theorem fnExactLedgerValid_walk (b0 : Int) (a0 : Option Addr) (n0 cap0 : Nat) (p0 : List (Int × Int)) (w : World) (h0 : IsRecsEntry w a0 n0 cap0 p0) :
    Calls Try.prog 6 #[.agg #[.int .i64 b0, .slice a0 n0 cap0]] w fun e w' => e = .returned (.bool true) ∧ Below w.heap.size w w' := by
  obtain ⟨hl0, hc0, hm0, i0⟩ := h0
  have HL0 := Lib.hid hl0
  have hm0 := len_max hm0
  clear hl0
  obtain ⟨W0, HW0⟩ : ∃ W, Hid ((w.alloc (.cells #[.int .i64 b0, .slice a0 n0 cap0] 36)) = W) := ⟨_, Lib.hid rfl⟩
  have hBW : Below w.heap.size w W0 := by rw [← HW0.out]; exact below_one _ _
  have bxi0 : EB W0 36 w.heap.size b0 (.slice a0 n0 cap0) := by rw [← HW0.out]; exact EB.new w 36 b0 (.slice a0 n0 cap0)
  have i0 : Recs ef 2 W0 W0.heap.size a0 p0 := i0.on hBW
  have hB := Below.refl W0.heap.size W0
  go_enter Try.func6, Try.ntmps6
  go_wp2_with fail
  rw [HW0.out]
  refine (szl_any b0 a0 n0 cap0 _ _ (by omega) (by omega) (by omega)).mono ?_
  rintro e w1 ⟨rfl, hb⟩
  have hB := below_next hB hb
  have bxi0 := bxi0.below hb
  clear hb
  obtain ⟨pi00, pi01, -, -⟩ := bxi0.facts
  by_cases s0 : (n0 : Int) ≤ 1048576
  rotate_left
  · rw [if_neg s0]
    go_wp2_with fail
    go_ret
    exact ⟨rfl, hBW.trans (hB.mono hBW.size)⟩
  rw [if_pos s0]
  go_wp2_with fail
  refine (toled_any b0 a0 n0 cap0 p0 _ (i0.on hB) HL0.out (by omega)).mono ?_
  rintro e w2 ⟨D1, c1, rfl, hown, hb⟩
  have r1 := own_base hown (base' := W0.heap.size) hB.size
  clear hown
  have hB := below_next hB hb
  have bxi0 := bxi0.below hb
  clear hb
  clear pi00 pi01
  obtain ⟨pi00, pi01, -, -⟩ := bxi0.facts
  go_wp2_with fail
  refine (svalid_any b0 D1 n0 c1 p0 _ ((Recs.of_own ef_len r1 (by omega)).2) HL0.out (by omega)).mono ?_
  rintro e w3 ⟨rfl, hb⟩
  have hB := below_next hB hb
  have bxi0 := bxi0.below hb
  have r1 := own_below r1 hb
  clear hb
  clear pi00 pi01
  obtain ⟨pi00, pi01, -, -⟩ := bxi0.facts
  clear r1
  go_wp2_with fail
  refine (toled_any b0 a0 n0 cap0 p0 _ (i0.on hB) HL0.out (by omega)).mono ?_
  rintro e w4 ⟨D2, c2, rfl, hown, hb⟩
  have r2 := own_base hown (base' := W0.heap.size) hB.size
  clear hown
  have hB := below_next hB hb
  have bxi0 := bxi0.below hb
  have bxx := EB.new w4 25 b0 (.slice D2 n0 c2)
  have hB := hB.alloc hB.size (.cells #[.int .i64 b0, .slice D2 n0 c2] 25)
  have bxi0 := bxi0.alloc (.cells #[.int .i64 b0, .slice D2 n0 c2] 25)
  have r2 := r2.alloc (.cells #[.int .i64 b0, .slice D2 n0 c2] 25)
  clear hb
  clear pi00 pi01
  obtain ⟨pi00, pi01, -, -⟩ := bxi0.facts
  obtain ⟨px0, px1, -, -⟩ := bxx.facts
  go_wp2_with fail
  refine (valid_any b0 D2 n0 c2 p0 _ ((Recs.of_own ef_len r2 (by omega)).2) HL0.out (by omega)).mono ?_
  rintro e w5 ⟨rfl, hb⟩
  have hB := below_next hB hb
  have bxi0 := bxi0.below hb
  have bxx := bxx.below hb
  have r2 := own_below r2 hb
  clear hb
  clear pi00 pi01 px0 px1
  obtain ⟨pi00, pi01, -, -⟩ := bxi0.facts
  obtain ⟨px0, px1, -, -⟩ := bxx.facts
  have hb := below_drew w5
  have hB := below_next hB hb
  have bxi0 := bxi0.below hb
  have bxx := bxx.below hb
  have r2 := own_below r2 hb
  clear hb
  go_wp2_with fail
  go_region_held3 (fun w' => w'.cell? ⟨w4.heap.size, 0, none⟩ = some (.int .i64 b0) ∧ w'.cell? ⟨w4.heap.size, 1, none⟩ = some (.slice D2 n0 c2) ∧ w'.cell? ⟨w.heap.size, 0, none⟩ = some (.int .i64 b0) ∧ w'.cell? ⟨w.heap.size, 1, none⟩ = some (.slice a0 n0 cap0)) (go_keep)
    (first
      | (go_at_call 18
         refine (toled_any b0 a0 n0 cap0 p0 _ (i0.on hB) HL0.out (by omega)).mono ?_
         rintro e w6 ⟨D3, c3, rfl, hown, hb⟩
         have a_r2_r3 := own_apart r2 hown
         have a_r3_r2 := own_apart2 r2 hown
         have r3 := own_base hown (base' := W0.heap.size) hB.size
         clear hown
         have hB := below_next hB hb
         have bxi0 := bxi0.below hb
         have bxx := bxx.below hb
         have r2 := own_below r2 hb
         clear hb
         clear pi00 pi01 px0 px1
         obtain ⟨pi00, pi01, -, -⟩ := bxi0.facts
         obtain ⟨px0, px1, -, -⟩ := bxx.facts)
      | (go_at_call 20
         refine (eqled_t b0 D2 D3 n0 c2 c3 p0 _ ((Recs.of_own ef_len r2 (by omega)).2) ((Recs.of_own ef_len r3 (by omega)).2) HL0.out (by omega)).mono ?_
         rintro e w7 ⟨rfl, hb⟩
         have hB := below_next hB hb
         have bxi0 := bxi0.below hb
         have bxx := bxx.below hb
         have r2 := own_below r2 hb
         have r3 := own_below r3 hb
         clear hb
         clear pi00 pi01 px0 px1
         obtain ⟨pi00, pi01, -, -⟩ := bxi0.facts
         obtain ⟨px0, px1, -, -⟩ := bxx.facts))
  go_wp2_with fail
  go_ret
  exact ⟨rfl, hBW.trans (hB.mono hBW.size)⟩
set_option maxHeartbeats 4000000 in
/-- laws.FnExactLedgerSpent. -/
theorem fnExactLedgerSpent_walk (b0 : Int) (a0 : Option Addr) (n0 cap0 : Nat) (p0 : List (Int × Int)) (a1 : Int) (w : World) (h0 : IsRecsEntry w a0 n0 cap0 p0) :
    Calls Try.prog 7 #[.agg #[.int .i64 b0, .slice a0 n0 cap0], .int .i64 a1] w fun e w' => e = .returned (.bool true) ∧ Below w.heap.size w w' := by
  obtain ⟨hl0, hc0, hm0, i0⟩ := h0
  have HL0 := Lib.hid hl0
  have hm0 := len_max hm0
  clear hl0
  obtain ⟨W0, HW0⟩ : ∃ W, Hid ((w.alloc (.cells #[.int .i64 b0, .slice a0 n0 cap0] 36)) = W) := ⟨_, Lib.hid rfl⟩
  have hBW : Below w.heap.size w W0 := by rw [← HW0.out]; exact below_one _ _
  have bxi0 : EB W0 36 w.heap.size b0 (.slice a0 n0 cap0) := by rw [← HW0.out]; exact EB.new w 36 b0 (.slice a0 n0 cap0)
  have i0 : Recs ef 2 W0 W0.heap.size a0 p0 := i0.on hBW
  have hB := Below.refl W0.heap.size W0
  go_enter Try.func7, Try.ntmps7
  go_wp2_with fail
  rw [HW0.out]
  refine (szl_any b0 a0 n0 cap0 _ _ (by omega) (by omega) (by omega)).mono ?_
  rintro e w1 ⟨rfl, hb⟩
  have hB := below_next hB hb
  have bxi0 := bxi0.below hb
  clear hb
  obtain ⟨pi00, pi01, -, -⟩ := bxi0.facts
  by_cases s0 : (n0 : Int) ≤ 1048576
  rotate_left
  · rw [if_neg s0]
    go_wp2_with fail
    go_ret
    exact ⟨rfl, hBW.trans (hB.mono hBW.size)⟩
  rw [if_pos s0]
  go_wp2_with fail
  refine (toled_any b0 a0 n0 cap0 p0 _ (i0.on hB) HL0.out (by omega)).mono ?_
  rintro e w2 ⟨D1, c1, rfl, hown, hb⟩
  have r1 := own_base hown (base' := W0.heap.size) hB.size
  clear hown
  have hB := below_next hB hb
  have bxi0 := bxi0.below hb
  clear hb
  clear pi00 pi01
  obtain ⟨pi00, pi01, -, -⟩ := bxi0.facts
  go_wp2_with fail
  refine (slspent_any b0 D1 n0 c1 p0 a1 _ ((Recs.of_own ef_len r1 (by omega)).2) HL0.out (by omega)).mono ?_
  rintro e w3 ⟨rfl, hb⟩
  have hB := below_next hB hb
  have bxi0 := bxi0.below hb
  have r1 := own_below r1 hb
  clear hb
  clear pi00 pi01
  obtain ⟨pi00, pi01, -, -⟩ := bxi0.facts
  clear r1
  go_wp2_with fail
  refine (toled_any b0 a0 n0 cap0 p0 _ (i0.on hB) HL0.out (by omega)).mono ?_
  rintro e w4 ⟨D2, c2, rfl, hown, hb⟩
  have r2 := own_base hown (base' := W0.heap.size) hB.size
  clear hown
  have hB := below_next hB hb
  have bxi0 := bxi0.below hb
  have bxx := EB.new w4 25 b0 (.slice D2 n0 c2)
  have hB := hB.alloc hB.size (.cells #[.int .i64 b0, .slice D2 n0 c2] 25)
  have bxi0 := bxi0.alloc (.cells #[.int .i64 b0, .slice D2 n0 c2] 25)
  have r2 := r2.alloc (.cells #[.int .i64 b0, .slice D2 n0 c2] 25)
  clear hb
  clear pi00 pi01
  obtain ⟨pi00, pi01, -, -⟩ := bxi0.facts
  obtain ⟨px0, px1, -, -⟩ := bxx.facts
  go_wp2_with fail
  refine (lspent_any b0 D2 n0 c2 p0 a1 _ ((Recs.of_own ef_len r2 (by omega)).2) HL0.out (by omega)).mono ?_
  rintro e w5 ⟨rfl, hb⟩
  have hB := below_next hB hb
  have bxi0 := bxi0.below hb
  have bxx := bxx.below hb
  have r2 := own_below r2 hb
  clear hb
  clear pi00 pi01 px0 px1
  obtain ⟨pi00, pi01, -, -⟩ := bxi0.facts
  obtain ⟨px0, px1, -, -⟩ := bxx.facts
  have hb := below_drew w5
  have hB := below_next hB hb
  have bxi0 := bxi0.below hb
  have bxx := bxx.below hb
  have r2 := own_below r2 hb
  clear hb
  go_wp2_with fail
  go_region_held3 (fun w' => w'.cell? ⟨w4.heap.size, 0, none⟩ = some (.int .i64 b0) ∧ w'.cell? ⟨w4.heap.size, 1, none⟩ = some (.slice D2 n0 c2) ∧ w'.cell? ⟨w.heap.size, 0, none⟩ = some (.int .i64 b0) ∧ w'.cell? ⟨w.heap.size, 1, none⟩ = some (.slice a0 n0 cap0)) (go_keep)
    (first
      | (go_at_call 18
         refine (toled_any b0 a0 n0 cap0 p0 _ (i0.on hB) HL0.out (by omega)).mono ?_
         rintro e w6 ⟨D3, c3, rfl, hown, hb⟩
         have a_r2_r3 := own_apart r2 hown
         have a_r3_r2 := own_apart2 r2 hown
         have r3 := own_base hown (base' := W0.heap.size) hB.size
         clear hown
         have hB := below_next hB hb
         have bxi0 := bxi0.below hb
         have bxx := bxx.below hb
         have r2 := own_below r2 hb
         clear hb
         clear pi00 pi01 px0 px1
         obtain ⟨pi00, pi01, -, -⟩ := bxi0.facts
         obtain ⟨px0, px1, -, -⟩ := bxx.facts)
      | (go_at_call 20
         refine (eqled_t b0 D2 D3 n0 c2 c3 p0 _ ((Recs.of_own ef_len r2 (by omega)).2) ((Recs.of_own ef_len r3 (by omega)).2) HL0.out (by omega)).mono ?_
         rintro e w7 ⟨rfl, hb⟩
         have hB := below_next hB hb
         have bxi0 := bxi0.below hb
         have bxx := bxx.below hb
         have r2 := own_below r2 hb
         have r3 := own_below r3 hb
         clear hb
         clear pi00 pi01 px0 px1
         obtain ⟨pi00, pi01, -, -⟩ := bxi0.facts
         obtain ⟨px0, px1, -, -⟩ := bxx.facts))
  go_wp2_with fail
  go_ret
  exact ⟨rfl, hBW.trans (hB.mono hBW.size)⟩
set_option maxHeartbeats 4000000 in
/-- laws.FnExactLedgerLeft. -/
theorem fnExactLedgerLeft_walk (b0 : Int) (a0 : Option Addr) (n0 cap0 : Nat) (p0 : List (Int × Int)) (a1 : Int) (w : World) (h0 : IsRecsEntry w a0 n0 cap0 p0) :
    Calls Try.prog 8 #[.agg #[.int .i64 b0, .slice a0 n0 cap0], .int .i64 a1] w fun e w' => e = .returned (.bool true) ∧ Below w.heap.size w w' := by
  obtain ⟨hl0, hc0, hm0, i0⟩ := h0
  have HL0 := Lib.hid hl0
  have hm0 := len_max hm0
  clear hl0
  obtain ⟨W0, HW0⟩ : ∃ W, Hid ((w.alloc (.cells #[.int .i64 b0, .slice a0 n0 cap0] 36)) = W) := ⟨_, Lib.hid rfl⟩
  have hBW : Below w.heap.size w W0 := by rw [← HW0.out]; exact below_one _ _
  have bxi0 : EB W0 36 w.heap.size b0 (.slice a0 n0 cap0) := by rw [← HW0.out]; exact EB.new w 36 b0 (.slice a0 n0 cap0)
  have i0 : Recs ef 2 W0 W0.heap.size a0 p0 := i0.on hBW
  have hB := Below.refl W0.heap.size W0
  go_enter Try.func8, Try.ntmps8
  go_wp2_with fail
  rw [HW0.out]
  refine (szl_any b0 a0 n0 cap0 _ _ (by omega) (by omega) (by omega)).mono ?_
  rintro e w1 ⟨rfl, hb⟩
  have hB := below_next hB hb
  have bxi0 := bxi0.below hb
  clear hb
  obtain ⟨pi00, pi01, -, -⟩ := bxi0.facts
  by_cases s0 : (n0 : Int) ≤ 1048576
  rotate_left
  · rw [if_neg s0]
    go_wp2_with fail
    go_ret
    exact ⟨rfl, hBW.trans (hB.mono hBW.size)⟩
  rw [if_pos s0]
  go_wp2_with fail
  refine (toled_any b0 a0 n0 cap0 p0 _ (i0.on hB) HL0.out (by omega)).mono ?_
  rintro e w2 ⟨D1, c1, rfl, hown, hb⟩
  have r1 := own_base hown (base' := W0.heap.size) hB.size
  clear hown
  have hB := below_next hB hb
  have bxi0 := bxi0.below hb
  clear hb
  clear pi00 pi01
  obtain ⟨pi00, pi01, -, -⟩ := bxi0.facts
  go_wp2_with fail
  refine (slleft_any b0 D1 n0 c1 p0 a1 _ ((Recs.of_own ef_len r1 (by omega)).2) HL0.out (by omega)).mono ?_
  rintro e w3 ⟨rfl, hb⟩
  have hB := below_next hB hb
  have bxi0 := bxi0.below hb
  have r1 := own_below r1 hb
  clear hb
  clear pi00 pi01
  obtain ⟨pi00, pi01, -, -⟩ := bxi0.facts
  clear r1
  go_wp2_with fail
  refine (toled_any b0 a0 n0 cap0 p0 _ (i0.on hB) HL0.out (by omega)).mono ?_
  rintro e w4 ⟨D2, c2, rfl, hown, hb⟩
  have r2 := own_base hown (base' := W0.heap.size) hB.size
  clear hown
  have hB := below_next hB hb
  have bxi0 := bxi0.below hb
  have bxx := EB.new w4 25 b0 (.slice D2 n0 c2)
  have hB := hB.alloc hB.size (.cells #[.int .i64 b0, .slice D2 n0 c2] 25)
  have bxi0 := bxi0.alloc (.cells #[.int .i64 b0, .slice D2 n0 c2] 25)
  have r2 := r2.alloc (.cells #[.int .i64 b0, .slice D2 n0 c2] 25)
  clear hb
  clear pi00 pi01
  obtain ⟨pi00, pi01, -, -⟩ := bxi0.facts
  obtain ⟨px0, px1, -, -⟩ := bxx.facts
  go_wp2_with fail
  refine (lleft_any b0 D2 n0 c2 p0 a1 _ ((Recs.of_own ef_len r2 (by omega)).2) HL0.out (by omega)).mono ?_
  rintro e w5 ⟨rfl, hb⟩
  have hB := below_next hB hb
  have bxi0 := bxi0.below hb
  have bxx := bxx.below hb
  have r2 := own_below r2 hb
  clear hb
  clear pi00 pi01 px0 px1
  obtain ⟨pi00, pi01, -, -⟩ := bxi0.facts
  obtain ⟨px0, px1, -, -⟩ := bxx.facts
  have hb := below_drew w5
  have hB := below_next hB hb
  have bxi0 := bxi0.below hb
  have bxx := bxx.below hb
  have r2 := own_below r2 hb
  clear hb
  go_wp2_with fail
  go_region_held3 (fun w' => w'.cell? ⟨w4.heap.size, 0, none⟩ = some (.int .i64 b0) ∧ w'.cell? ⟨w4.heap.size, 1, none⟩ = some (.slice D2 n0 c2) ∧ w'.cell? ⟨w.heap.size, 0, none⟩ = some (.int .i64 b0) ∧ w'.cell? ⟨w.heap.size, 1, none⟩ = some (.slice a0 n0 cap0)) (go_keep)
    (first
      | (go_at_call 18
         refine (toled_any b0 a0 n0 cap0 p0 _ (i0.on hB) HL0.out (by omega)).mono ?_
         rintro e w6 ⟨D3, c3, rfl, hown, hb⟩
         have a_r2_r3 := own_apart r2 hown
         have a_r3_r2 := own_apart2 r2 hown
         have r3 := own_base hown (base' := W0.heap.size) hB.size
         clear hown
         have hB := below_next hB hb
         have bxi0 := bxi0.below hb
         have bxx := bxx.below hb
         have r2 := own_below r2 hb
         clear hb
         clear pi00 pi01 px0 px1
         obtain ⟨pi00, pi01, -, -⟩ := bxi0.facts
         obtain ⟨px0, px1, -, -⟩ := bxx.facts)
      | (go_at_call 20
         refine (eqled_t b0 D2 D3 n0 c2 c3 p0 _ ((Recs.of_own ef_len r2 (by omega)).2) ((Recs.of_own ef_len r3 (by omega)).2) HL0.out (by omega)).mono ?_
         rintro e w7 ⟨rfl, hb⟩
         have hB := below_next hB hb
         have bxi0 := bxi0.below hb
         have bxx := bxx.below hb
         have r2 := own_below r2 hb
         have r3 := own_below r3 hb
         clear hb
         clear pi00 pi01 px0 px1
         obtain ⟨pi00, pi01, -, -⟩ := bxi0.facts
         obtain ⟨px0, px1, -, -⟩ := bxx.facts))
  go_wp2_with fail
  go_ret
  exact ⟨rfl, hBW.trans (hB.mono hBW.size)⟩
end Go.Proofs.Ytjelmfdhkdehkaa
