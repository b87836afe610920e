/-
  FnExactLedgerAsk: the walk of this law.
-/
import Derived.Test.YtjelmfdhkdehkaaToL
import Derived.Test.YtjelmfdhkdehkaaRes
namespace Go.Proofs.Ytjelmfdhkdehkaa
open Go.RowKit
attribute [local go_sem ↓] Go.wp_at_zero Go.wp_at_succ

set_option maxHeartbeats 4000000 in
/-- laws.FnExactLedgerAsk. -/
theorem fnExactLedgerAsk_walk (b0 : Int) (a0 : Option Addr) (n0 cap0 : Nat) (p0 : List (Int × Int)) (a1 : Int) (a2 : Int) (w : World) (h0 : IsRecsEntry w a0 n0 cap0 p0) :
    Calls Try.prog 9 #[.agg #[.int .i64 b0, .slice a0 n0 cap0], .int .i64 a1, .int .i64 a2] w fun e w' => e = .returned (.bool true) ∧ Below w.heap.size w w' := by
  obtain ⟨hl0, hc0, hm0, i0⟩ := h0
  have HL0 := Lib.hid hl0
  have hm0 := len_max hm0
  clear hl0
  obtain ⟨W0, HW0⟩ : ∃ W, Hid ((w.alloc (.cells #[.int .i64 b0, .slice a0 n0 cap0] 36)) = W) := ⟨_, Lib.hid rfl⟩
  have hBW : Below w.heap.size w W0 := by rw [← HW0.out]; exact below_one _ _
  have bxi0 : EB W0 36 w.heap.size b0 (.slice a0 n0 cap0) := by rw [← HW0.out]; exact EB.new w 36 b0 (.slice a0 n0 cap0)
  have i0 : Recs ef 2 W0 W0.heap.size a0 p0 := i0.on hBW
  have hB := Below.refl W0.heap.size W0
  go_enter Try.func9, Try.ntmps9
  go_wp2_with fail
  rw [HW0.out]
  refine (szl_any b0 a0 n0 cap0 _ _ (by omega) (by omega) (by omega)).mono ?_
  rintro e w1 ⟨rfl, hb⟩
  have hB := below_next hB hb
  have bxi0 := bxi0.below hb
  clear hb
  obtain ⟨pi00, pi01, -, -⟩ := bxi0.facts
  by_cases s0 : (n0 : Int) ≤ 1048576
  rotate_left
  · rw [if_neg s0]
    go_wp2_with fail
    go_ret
    exact ⟨rfl, hBW.trans (hB.mono hBW.size)⟩
  rw [if_pos s0]
  obtain ⟨rb, rs, ok, hres⟩ : ∃ rb rs ok, askR b0 p0 a1 a2 = (rb, rs, ok) := ⟨_, _, _, rfl⟩
  obtain ⟨nr, hnr⟩ : ∃ nr, rs.length = nr := ⟨_, rfl⟩
  have HR := Lib.hid hres
  have HN := Lib.hid hnr
  have h40 : nr ≤ 40 := by have := askR_len hres; omega
  clear hres hnr
  have okk : (ok != ok) = false := by simp
  go_wp2_with fail
  refine (toled_any b0 a0 n0 cap0 p0 _ (i0.on hB) HL0.out (by omega)).mono ?_
  rintro e w2 ⟨Dr0, cr0, rfl, hown, hb⟩
  have r0 := own_base hown (base' := W0.heap.size) hB.size
  clear hown
  have hB := below_next hB hb
  have bxi0 := bxi0.below hb
  clear hb
  clear pi00 pi01
  obtain ⟨pi00, pi01, -, -⟩ := bxi0.facts
  go_wp2_with fail
  refine (sask_r b0 Dr0 n0 cr0 p0 a1 a2 _ ((Recs.of_own ef_len r0 (by omega)).2) HL0.out (by omega) HR.out HN.out).mono ?_
  rintro e w3 ⟨Dw, cw, rfl, hown, hb⟩
  have a_r0_w0 := own_apart r0 hown
  have a_w0_r0 := own_apart2 r0 hown
  have w0 := own_base hown (base' := W0.heap.size) hB.size
  clear hown
  have hB := below_next hB hb
  have bxi0 := bxi0.below hb
  have r0 := own_below r0 hb
  have bxw0 := EB.new w3 25 rb (.slice Dw nr cw)
  have hB := hB.alloc hB.size (.cells #[.int .i64 rb, .slice Dw nr cw] 25)
  have bxi0 := bxi0.alloc (.cells #[.int .i64 rb, .slice Dw nr cw] 25)
  have r0 := r0.alloc (.cells #[.int .i64 rb, .slice Dw nr cw] 25)
  have w0 := w0.alloc (.cells #[.int .i64 rb, .slice Dw nr cw] 25)
  clear hb
  clear pi00 pi01
  obtain ⟨pi00, pi01, -, -⟩ := bxi0.facts
  obtain ⟨pw00, pw01, -, -⟩ := bxw0.facts
  clear r0
  go_wp2_with fail
  refine (toled_any b0 a0 n0 cap0 p0 _ (i0.on hB) HL0.out (by omega)).mono ?_
  rintro e w4 ⟨Dx0, cx0, rfl, hown, hb⟩
  have a_w0_x0 := own_apart w0 hown
  have a_x0_w0 := own_apart2 w0 hown
  have x0 := own_base hown (base' := W0.heap.size) hB.size
  clear hown
  have hB := below_next hB hb
  have bxi0 := bxi0.below hb
  have bxw0 := bxw0.below hb
  have w0 := own_below w0 hb
  have bxx0 := EB.new w4 25 b0 (.slice Dx0 n0 cx0)
  have hB := hB.alloc hB.size (.cells #[.int .i64 b0, .slice Dx0 n0 cx0] 25)
  have bxi0 := bxi0.alloc (.cells #[.int .i64 b0, .slice Dx0 n0 cx0] 25)
  have bxw0 := bxw0.alloc (.cells #[.int .i64 b0, .slice Dx0 n0 cx0] 25)
  have w0 := w0.alloc (.cells #[.int .i64 b0, .slice Dx0 n0 cx0] 25)
  have x0 := x0.alloc (.cells #[.int .i64 b0, .slice Dx0 n0 cx0] 25)
  clear hb
  clear pi00 pi01 pw00 pw01
  obtain ⟨pi00, pi01, -, -⟩ := bxi0.facts
  obtain ⟨pw00, pw01, -, -⟩ := bxw0.facts
  obtain ⟨px00, px01, -, -⟩ := bxx0.facts
  go_wp2_with fail
  refine (ask_r b0 Dx0 n0 cx0 p0 a1 a2 _ ((Recs.of_own ef_len x0 (by omega)).2) HL0.out (by omega) HR.out HN.out).mono ?_
  rintro e w5 ⟨Dg, cg, rfl, hown, hb⟩
  have a_w0_g0 := own_apart w0 hown
  have a_g0_w0 := own_apart2 w0 hown
  have a_x0_g0 := own_apart x0 hown
  have a_g0_x0 := own_apart2 x0 hown
  have g0 := own_base hown (base' := W0.heap.size) hB.size
  clear hown
  have hB := below_next hB hb
  have bxi0 := bxi0.below hb
  have bxw0 := bxw0.below hb
  have bxx0 := bxx0.below hb
  have w0 := own_below w0 hb
  have x0 := own_below x0 hb
  have bxg0 := EB.new w5 25 rb (.slice Dg nr cg)
  have hB := hB.alloc hB.size (.cells #[.int .i64 rb, .slice Dg nr cg] 25)
  have bxi0 := bxi0.alloc (.cells #[.int .i64 rb, .slice Dg nr cg] 25)
  have bxw0 := bxw0.alloc (.cells #[.int .i64 rb, .slice Dg nr cg] 25)
  have bxx0 := bxx0.alloc (.cells #[.int .i64 rb, .slice Dg nr cg] 25)
  have w0 := w0.alloc (.cells #[.int .i64 rb, .slice Dg nr cg] 25)
  have x0 := x0.alloc (.cells #[.int .i64 rb, .slice Dg nr cg] 25)
  have g0 := g0.alloc (.cells #[.int .i64 rb, .slice Dg nr cg] 25)
  clear hb
  clear pi00 pi01 pw00 pw01 px00 px01
  obtain ⟨pi00, pi01, -, -⟩ := bxi0.facts
  obtain ⟨pw00, pw01, -, -⟩ := bxw0.facts
  obtain ⟨px00, px01, -, -⟩ := bxx0.facts
  obtain ⟨pg00, pg01, -, -⟩ := bxg0.facts
  go_wp2_with fail
  refine (eqled_t rb Dg Dw nr cg cw rs _ ((Recs.of_own ef_len g0 (by omega)).2) ((Recs.of_own ef_len w0 (by omega)).2) HN.out (by omega)).mono ?_
  rintro e w6 ⟨rfl, hb⟩
  have hB := below_next hB hb
  have bxi0 := bxi0.below hb
  have bxw0 := bxw0.below hb
  have bxx0 := bxx0.below hb
  have bxg0 := bxg0.below hb
  have w0 := own_below w0 hb
  have x0 := own_below x0 hb
  have g0 := own_below g0 hb
  clear hb
  clear pi00 pi01 pw00 pw01 px00 px01 pg00 pg01
  obtain ⟨pi00, pi01, -, -⟩ := bxi0.facts
  obtain ⟨pw00, pw01, -, -⟩ := bxw0.facts
  obtain ⟨px00, px01, -, -⟩ := bxx0.facts
  obtain ⟨pg00, pg01, -, -⟩ := bxg0.facts
  have hb := below_drew w6
  have hB := below_next hB hb
  have bxi0 := bxi0.below hb
  have bxw0 := bxw0.below hb
  have bxx0 := bxx0.below hb
  have bxg0 := bxg0.below hb
  have w0 := own_below w0 hb
  have x0 := own_below x0 hb
  have g0 := own_below g0 hb
  clear hb
  go_wp2_with fail
  go_region_held3 (fun w' => w'.cell? ⟨w4.heap.size, 0, none⟩ = some (.int .i64 b0) ∧ w'.cell? ⟨w4.heap.size, 1, none⟩ = some (.slice Dx0 n0 cx0) ∧ w'.cell? ⟨w.heap.size, 0, none⟩ = some (.int .i64 b0) ∧ w'.cell? ⟨w.heap.size, 1, none⟩ = some (.slice a0 n0 cap0)) (go_keep)
    (first
      | (go_at_call 18
         refine (toled_any b0 a0 n0 cap0 p0 _ (i0.on hB) HL0.out (by omega)).mono ?_
         rintro e w7 ⟨Dy0, cy0, rfl, hown, hb⟩
         have a_w0_y0 := own_apart w0 hown
         have a_y0_w0 := own_apart2 w0 hown
         have a_x0_y0 := own_apart x0 hown
         have a_y0_x0 := own_apart2 x0 hown
         have a_g0_y0 := own_apart g0 hown
         have a_y0_g0 := own_apart2 g0 hown
         have y0 := own_base hown (base' := W0.heap.size) hB.size
         clear hown
         have hB := below_next hB hb
         have bxi0 := bxi0.below hb
         have bxw0 := bxw0.below hb
         have bxx0 := bxx0.below hb
         have bxg0 := bxg0.below hb
         have w0 := own_below w0 hb
         have x0 := own_below x0 hb
         have g0 := own_below g0 hb
         clear hb
         clear pi00 pi01 pw00 pw01 px00 px01 pg00 pg01
         obtain ⟨pi00, pi01, -, -⟩ := bxi0.facts
         obtain ⟨pw00, pw01, -, -⟩ := bxw0.facts
         obtain ⟨px00, px01, -, -⟩ := bxx0.facts
         obtain ⟨pg00, pg01, -, -⟩ := bxg0.facts)
      | (go_at_call 20
         refine (eqled_t b0 Dx0 Dy0 n0 cx0 cy0 p0 _ ((Recs.of_own ef_len x0 (by omega)).2) ((Recs.of_own ef_len y0 (by omega)).2) HL0.out (by omega)).mono ?_
         rintro e w8 ⟨rfl, hb⟩
         have hB := below_next hB hb
         have bxi0 := bxi0.below hb
         have bxw0 := bxw0.below hb
         have bxx0 := bxx0.below hb
         have bxg0 := bxg0.below hb
         have w0 := own_below w0 hb
         have x0 := own_below x0 hb
         have g0 := own_below g0 hb
         have y0 := own_below y0 hb
         clear hb
         clear pi00 pi01 pw00 pw01 px00 px01 pg00 pg01
         obtain ⟨pi00, pi01, -, -⟩ := bxi0.facts
         obtain ⟨pw00, pw01, -, -⟩ := bxw0.facts
         obtain ⟨px00, px01, -, -⟩ := bxx0.facts
         obtain ⟨pg00, pg01, -, -⟩ := bxg0.facts))
  clear y0
  go_wp2_with fail
  refine (markl_any b0 Dx0 n0 cx0 W0.heap.size p0 (1) _ x0 (by omega) (by omega) (by omega)).mono ?_
  rintro e w9 ⟨rfl, hown, hg⟩
  have hB := hB.grown hg hB.size (fun k e => (x0.lt k e).1)
  have bxi0 := bxi0.mark x0 hg (by decide)
  have bxw0 := bxw0.mark x0 hg (by decide)
  have bxx0 := bxx0.mark x0 hg (by decide)
  have bxg0 := bxg0.mark x0 hg (by decide)
  have w0 := w0.kept hg a_w0_x0
  have g0 := g0.kept hg a_g0_x0
  have x0 := hown
  clear hown hg
  clear pi00 pi01 pw00 pw01 px00 px01 pg00 pg01
  obtain ⟨pi00, pi01, -, -⟩ := bxi0.facts
  obtain ⟨pw00, pw01, -, -⟩ := bxw0.facts
  obtain ⟨px00, px01, -, -⟩ := bxx0.facts
  obtain ⟨pg00, pg01, -, -⟩ := bxg0.facts
  clear x0
  go_wp2_with fail
  refine (eqled_t rb Dg Dw nr cg cw rs _ ((Recs.of_own ef_len g0 (by omega)).2) ((Recs.of_own ef_len w0 (by omega)).2) HN.out (by omega)).mono ?_
  rintro e w10 ⟨rfl, hb⟩
  have hB := below_next hB hb
  have bxi0 := bxi0.below hb
  have bxw0 := bxw0.below hb
  have bxx0 := bxx0.below hb
  have bxg0 := bxg0.below hb
  have w0 := own_below w0 hb
  have g0 := own_below g0 hb
  clear hb
  clear pi00 pi01 pw00 pw01 px00 px01 pg00 pg01
  obtain ⟨pi00, pi01, -, -⟩ := bxi0.facts
  obtain ⟨pw00, pw01, -, -⟩ := bxw0.facts
  obtain ⟨px00, px01, -, -⟩ := bxx0.facts
  obtain ⟨pg00, pg01, -, -⟩ := bxg0.facts
  go_wp2_with fail
  refine (markl_any rb Dg nr cg W0.heap.size rs 1 _ g0 (by omega) (by omega) (by omega)).mono ?_
  rintro e w11 ⟨rfl, hown, hg⟩
  have hB := hB.grown hg hB.size (fun k e => (g0.lt k e).1)
  have bxi0 := bxi0.mark g0 hg (by decide)
  have bxw0 := bxw0.mark g0 hg (by decide)
  have bxx0 := bxx0.mark g0 hg (by decide)
  have bxg0 := bxg0.mark g0 hg (by decide)
  have w0 := w0.kept hg a_w0_g0
  have g0 := hown
  clear hown hg
  clear pi00 pi01 pw00 pw01 px00 px01 pg00 pg01
  obtain ⟨pi00, pi01, -, -⟩ := bxi0.facts
  obtain ⟨pw00, pw01, -, -⟩ := bxw0.facts
  obtain ⟨px00, px01, -, -⟩ := bxx0.facts
  obtain ⟨pg00, pg01, -, -⟩ := bxg0.facts
  go_wp2_with fail
  refine (heldl_any rb Dg nr cg 1 _ ((Recs.of_own ef_len g0 (by omega)).2) (by omega) (by omega) (by omega)).mono ?_
  rintro e w12 ⟨rfl, hb⟩
  have hB := below_next hB hb
  have bxi0 := bxi0.below hb
  have bxw0 := bxw0.below hb
  have bxx0 := bxx0.below hb
  have bxg0 := bxg0.below hb
  have w0 := own_below w0 hb
  have g0 := own_below g0 hb
  clear hb
  clear pi00 pi01 pw00 pw01 px00 px01 pg00 pg01
  obtain ⟨pi00, pi01, -, -⟩ := bxi0.facts
  obtain ⟨pw00, pw01, -, -⟩ := bxw0.facts
  obtain ⟨px00, px01, -, -⟩ := bxx0.facts
  obtain ⟨pg00, pg01, -, -⟩ := bxg0.facts
  go_wp2_with fail
  refine (toled_any b0 a0 n0 cap0 p0 _ (i0.on hB) HL0.out (by omega)).mono ?_
  rintro e w13 ⟨Dz0, cz0, rfl, hown, hb⟩
  have a_w0_z0 := own_apart w0 hown
  have a_z0_w0 := own_apart2 w0 hown
  have a_g0_z0 := own_apart g0 hown
  have a_z0_g0 := own_apart2 g0 hown
  have z0 := own_base hown (base' := W0.heap.size) hB.size
  clear hown
  have hB := below_next hB hb
  have bxi0 := bxi0.below hb
  have bxw0 := bxw0.below hb
  have bxx0 := bxx0.below hb
  have bxg0 := bxg0.below hb
  have w0 := own_below w0 hb
  have g0 := own_below g0 hb
  clear hb
  clear pi00 pi01 pw00 pw01 px00 px01 pg00 pg01
  obtain ⟨pi00, pi01, -, -⟩ := bxi0.facts
  obtain ⟨pw00, pw01, -, -⟩ := bxw0.facts
  obtain ⟨px00, px01, -, -⟩ := bxx0.facts
  obtain ⟨pg00, pg01, -, -⟩ := bxg0.facts
  go_wp2_with fail
  refine (ask_r b0 Dz0 n0 cz0 p0 a1 a2 _ ((Recs.of_own ef_len z0 (by omega)).2) HL0.out (by omega) HR.out HN.out).mono ?_
  rintro e w14 ⟨Dh, ch, rfl, hown, hb⟩
  have a_w0_h0 := own_apart w0 hown
  have a_h0_w0 := own_apart2 w0 hown
  have a_g0_h0 := own_apart g0 hown
  have a_h0_g0 := own_apart2 g0 hown
  have a_z0_h0 := own_apart z0 hown
  have a_h0_z0 := own_apart2 z0 hown
  have h0 := own_base hown (base' := W0.heap.size) hB.size
  clear hown
  have hB := below_next hB hb
  have bxi0 := bxi0.below hb
  have bxw0 := bxw0.below hb
  have bxx0 := bxx0.below hb
  have bxg0 := bxg0.below hb
  have w0 := own_below w0 hb
  have g0 := own_below g0 hb
  have z0 := own_below z0 hb
  have bxh0 := EB.new w14 25 rb (.slice Dh nr ch)
  have hB := hB.alloc hB.size (.cells #[.int .i64 rb, .slice Dh nr ch] 25)
  have bxi0 := bxi0.alloc (.cells #[.int .i64 rb, .slice Dh nr ch] 25)
  have bxw0 := bxw0.alloc (.cells #[.int .i64 rb, .slice Dh nr ch] 25)
  have bxx0 := bxx0.alloc (.cells #[.int .i64 rb, .slice Dh nr ch] 25)
  have bxg0 := bxg0.alloc (.cells #[.int .i64 rb, .slice Dh nr ch] 25)
  have w0 := w0.alloc (.cells #[.int .i64 rb, .slice Dh nr ch] 25)
  have g0 := g0.alloc (.cells #[.int .i64 rb, .slice Dh nr ch] 25)
  have z0 := z0.alloc (.cells #[.int .i64 rb, .slice Dh nr ch] 25)
  have h0 := h0.alloc (.cells #[.int .i64 rb, .slice Dh nr ch] 25)
  clear hb
  clear pi00 pi01 pw00 pw01 px00 px01 pg00 pg01
  obtain ⟨pi00, pi01, -, -⟩ := bxi0.facts
  obtain ⟨pw00, pw01, -, -⟩ := bxw0.facts
  obtain ⟨px00, px01, -, -⟩ := bxx0.facts
  obtain ⟨pg00, pg01, -, -⟩ := bxg0.facts
  obtain ⟨ph00, ph01, -, -⟩ := bxh0.facts
  clear z0
  go_wp2_with fail
  refine (eqled_t rb Dh Dw nr ch cw rs _ ((Recs.of_own ef_len h0 (by omega)).2) ((Recs.of_own ef_len w0 (by omega)).2) HN.out (by omega)).mono ?_
  rintro e w15 ⟨rfl, hb⟩
  have hB := below_next hB hb
  have bxi0 := bxi0.below hb
  have bxw0 := bxw0.below hb
  have bxx0 := bxx0.below hb
  have bxg0 := bxg0.below hb
  have bxh0 := bxh0.below hb
  have w0 := own_below w0 hb
  have g0 := own_below g0 hb
  have h0 := own_below h0 hb
  clear hb
  clear pi00 pi01 pw00 pw01 px00 px01 pg00 pg01 ph00 ph01
  obtain ⟨pi00, pi01, -, -⟩ := bxi0.facts
  obtain ⟨pw00, pw01, -, -⟩ := bxw0.facts
  obtain ⟨px00, px01, -, -⟩ := bxx0.facts
  obtain ⟨pg00, pg01, -, -⟩ := bxg0.facts
  obtain ⟨ph00, ph01, -, -⟩ := bxh0.facts
  go_wp2_with fail
  refine (heldl_any rb Dg nr cg 1 _ ((Recs.of_own ef_len g0 (by omega)).2) (by omega) (by omega) (by omega)).mono ?_
  rintro e w16 ⟨rfl, hb⟩
  have hB := below_next hB hb
  have bxi0 := bxi0.below hb
  have bxw0 := bxw0.below hb
  have bxx0 := bxx0.below hb
  have bxg0 := bxg0.below hb
  have bxh0 := bxh0.below hb
  have w0 := own_below w0 hb
  have g0 := own_below g0 hb
  have h0 := own_below h0 hb
  clear hb
  clear pi00 pi01 pw00 pw01 px00 px01 pg00 pg01 ph00 ph01
  obtain ⟨pi00, pi01, -, -⟩ := bxi0.facts
  obtain ⟨pw00, pw01, -, -⟩ := bxw0.facts
  obtain ⟨px00, px01, -, -⟩ := bxx0.facts
  obtain ⟨pg00, pg01, -, -⟩ := bxg0.facts
  obtain ⟨ph00, ph01, -, -⟩ := bxh0.facts
  go_wp2_with fail
  go_ret
  exact ⟨rfl, hBW.trans (hB.mono hBW.size)⟩
end Go.Proofs.Ytjelmfdhkdehkaa
