/-
  FnLedger, FnLeftNone, FnLeftParts, FnLeft: the walks of these laws.
-/
import Derived.Test.YtllnmgadaodieaaLawS
import Derived.IntWalk
namespace Go.Proofs.Ytllnmgadaodieaa
open Go.RowKit
attribute [local go_sem ↓] Go.wp_at_zero Go.wp_at_succ

theorem take_len {α : Type} {xs : List α} {n k : Nat} (h : xs.length = n) (hk : k ≤ n) : (xs.take k).length = k := by rw [List.length_take]; omega
theorem rem_nat (m n : Nat) : ((m : Int)).tmod ((n : Int) + 1) = ((m % (n + 1) : Nat) : Int) := by
  rw [Int.tmod_eq_emod_of_nonneg (by omega)]; rfl

set_option maxHeartbeats 4000000 in
/-- laws.FnLeft. -/
theorem fnLeft_walk (a0 : Option Addr) (len0 cap0 : Nat) (z0 : List Int) (w : World) (w0 : IsRow8 w a0 len0 cap0 z0) :
    Calls Try.prog 10 #[.slice a0 len0 cap0] w fun e w' => e = .returned (.bool true) ∧ Below w.heap.size w w' := by
  by_cases hl : 1048576 < len0
  · go_enter Try.func10, Try.ntmps10
    go_wp2
    go_ret
    exact ⟨rfl, Below.refl _ _⟩
  go_enter Try.func10, Try.ntmps10
  go_wp2_with fail
  refine (drawl_any a0 len0 cap0 z0 _ w0).mono ?_
  rintro e w1 ⟨b, D, n, c, es, area, rfl, ar0, ar1, hv, hb⟩
  have b0 := hv.1
  have b1 := hv.2.1
  have n9 := hv.2.2.1
  have HL := hv.2.2.2.1
  clear w0
  have hB1 := box_refl w1 (.cells #[.int .i64 b, .slice D n c] 25)
  obtain ⟨c10, c11, hx1⟩ := law_facts hv hB1
  go_wp2_with fail
  refine (lleft_any b D n c es area _ hx1 HL.out (by omega)).mono ?_
  rintro e w2 ⟨rfl, hb2⟩
  have hB2 := box_next hB1 hb2
  obtain ⟨c20, c21, hx2⟩ := law_facts hv hB2
  go_wp2_with fail
  refine (slleft_any b D n c es area _ hx2 HL.out (by omega)).mono ?_
  rintro e w3 ⟨rfl, hb3⟩
  have hB3 := box_next hB2 hb3
  obtain ⟨c30, c31, hx3⟩ := law_facts hv hB3
  have hE3 := law_end hb hB3
  clear hb2 hb3 hx1 hx2 hB1 hB2 c10 c11 c20 c21
  obtain ⟨lv0, lv1⟩ := lv_rng b es area
  by_cases hs : lv b es area < 0
  · go_wp2_with fail
    go_ret
    exact ⟨by simp, hE3⟩
  obtain ⟨hld, hpa⟩ := lv_ok hs
  have HLD := Lib.hid hld
  have HALL := Lib.hid hld.2.2.2.1
  have bb0 := hld.1
  have bb1 := hld.2.1
  obtain ⟨sa0, sa1⟩ := lv_bd hld hpa
  clear hld
  have hld := ldB_t HLD.out
  have hy := ldB_t (left_ask HLD.out hpa (by have := HL.out; omega))
  have hno := ldB_f (left_over HLD.out hpa)
  have HSV := Lib.hid (lv_t HLD.out hpa)
  clear hpa
  go_wp2_with fail
  refine (ask_t b D n c es area (lv b es area) _ hx3 HL.out (by omega) hld hy).mono ?_
  rintro e w4 ⟨D4, n4, c4, rfl, -, -, hb4⟩
  have hB4 := box_next hB3 hb4
  have hB4 := box_alloc hB4 (.cells #[.int .i64 b, .slice D4 n4 c4] 25)
  obtain ⟨c40, c41, hx4⟩ := law_facts hv hB4
  clear hb4 hx3 hB3 c30 c31
  go_wp2_with fail
  refine (ask_f b D n c es area (lv b es area + 1) _ hx4 HL.out (by omega) hld hno).mono ?_
  rintro e w5 ⟨rfl, hb5⟩
  have hB := box_next hB4 hb5
  have hB := box_alloc hB (.cells #[.int .i64 0, .slice none 0 0] 25)
  obtain ⟨c50, c51, hx5⟩ := law_facts hv hB
  obtain ⟨s0, s1⟩ := sv_rng b es area
  have hw : IntKind.i64.wrap (lv b es area + sv b es area) = lv b es area + sv b es area := IntWalk.i64_in _ (by omega)
  have he : (lv b es area + sv b es area == b) = true := by rw [HSV.out]; simp
  clear hb5 hx4 hx5 hB4 c40 c41
  go_wp2_with fail
  go_region_with (first
      | (go_at_call 18
         first
           | (with_reducible refine (lspent_any b D n c es _ _ (law_facts hv (hB.drew)).2.2 HL.out (by omega)).mono ?_
              rintro e w6 ⟨rfl, hbn⟩
              have hB := box_next (hB.drew) hbn)
           | (with_reducible refine (lspent_any b D n c es _ _ (law_facts hv (hB)).2.2 HL.out (by omega)).mono ?_
              rintro e w6 ⟨rfl, hbn⟩
              have hB := box_next (hB) hbn)
         obtain ⟨y0, y1⟩ := box_cells hB
         clear hbn))
  all_goals
    go_wp2_with fail
    go_ret
    exact ⟨by simp, law_end hb hB⟩
end Go.Proofs.Ytllnmgadaodieaa
