/-
  FnLeftParts: the walk of this law.
-/
import Derived.Test.YtllnmgadaodieaaLawS
namespace Go.Proofs.Ytllnmgadaodieaa
open Go.RowKit
attribute [local go_sem ↓] Go.wp_at_zero Go.wp_at_succ

set_option maxHeartbeats 4000000 in
/-- laws.FnLeftParts. -/
theorem fnLeftParts_walk (a0 : Option Addr) (len0 cap0 : Nat) (z0 : List Int) (w : World) (w0 : IsRow8 w a0 len0 cap0 z0) :
    Calls Try.prog 9 #[.slice a0 len0 cap0] w fun e w' => e = .returned (.bool true) ∧ Below w.heap.size w w' := by
  by_cases hl : 1048576 < len0
  · go_enter Try.func9, Try.ntmps9
    go_wp2
    go_ret
    exact ⟨rfl, Below.refl _ _⟩
  go_enter Try.func9, Try.ntmps9
  go_wp2_with fail
  refine (drawl_any a0 len0 cap0 z0 _ w0).mono ?_
  rintro e w1 ⟨b, D, n, c, es, area, rfl, ar0, ar1, hv, hb⟩
  have b0 := hv.1
  have b1 := hv.2.1
  have n9 := hv.2.2.1
  have HL := hv.2.2.2.1
  clear w0
  have hB1 := box_refl w1 (.cells #[.int .i64 b, .slice D n c] 25)
  obtain ⟨c10, c11, hx1⟩ := law_facts hv hB1
  go_wp2_with fail
  refine (lleft_any b D n c es area _ hx1 HL.out (by omega)).mono ?_
  rintro e w2 ⟨rfl, hb2⟩
  have hB2 := box_next hB1 hb2
  obtain ⟨c20, c21, hx2⟩ := law_facts hv hB2
  go_wp2_with fail
  refine (slleft_any b D n c es area _ hx2 HL.out (by omega)).mono ?_
  rintro e w3 ⟨rfl, hb3⟩
  have hB3 := box_next hB2 hb3
  obtain ⟨c30, c31, hx3⟩ := law_facts hv hB3
  have hE3 := law_end hb hB3
  clear hb2 hb3 hx1 hx2 hB1 hB2 c10 c11 c20 c21
  obtain ⟨lv0, lv1⟩ := lv_rng b es area
  by_cases hs : lv b es area < 0
  · go_wp2_with fail
    go_ret
    exact ⟨by simp, hE3⟩
  obtain ⟨hld, hpa⟩ := lv_ok hs
  have HLD := Lib.hid hld
  have HALL := Lib.hid hld.2.2.2.1
  have bb0 := hld.1
  have bb1 := hld.2.1
  obtain ⟨sa0, sa1⟩ := lv_bd hld hpa
  clear hld
  have HM := Lib.hid (show lv b es (-1) = least b es 4 by rw [least_four, lv_t HLD.out (.inl rfl), sv_all HLD.out])
  have hge : least b es 4 ≤ lv b es area := by
    rw [least_four, lv_t HLD.out hpa]
    rcases hpa with rfl | ⟨p0, p1⟩
    · rw [sv_all HLD.out]; omega
    · rw [sv_at HLD.out p0 p1]; have := le_most_at es p0 p1; omega
  clear hpa
  go_wp2_with fail
  go_loopw [7, 8] (fun s i wr => ∃ k : Nat, k ≤ 4 ∧ i = .int .i64 (k : Int) ∧ s = .int .i64 (least b es k) ∧ Below (w1.heap.size + 1) (w1.alloc (.cells #[.int .i64 b, .slice D n c] 25)) wr) (fun _ i _ => 4 - (intOf i).toNat)
  case atStart => exact ⟨0, by omega, rfl, rfl, hB3⟩
  case round =>
    obtain ⟨k, hk, rfl, rfl, hB5⟩ := hrel
    obtain ⟨c50, c51, hx5⟩ := law_facts hv hB5
    by_cases hlt : k < 4
    · have HS := Lib.hid (show least b es (k + 1) = min (least b es k) (lv b es (k : Int)) by rw [lv_t HLD.out (.inr ⟨by omega, by omega⟩), sv_at HLD.out (by omega) (by omega)]; rfl)
      by_cases hle : lv b es (k : Int) < least b es k
      · go_wp2_with fail
        refine (lleft_any b D n c es _ _ hx5 HL.out (by omega)).mono ?_
        rintro e w6 ⟨rfl, hb6⟩
        have hB6 := box_next hB5 hb6
        go_wp2_with fail
        go_roundw
        case rel => exact ⟨k + 1, by omega, by go_num, by rw [HS.out, Int.min_eq_right (by omega)], hB6⟩
        case measure => simp [intOf]; omega
      · go_wp2_with fail
        refine (lleft_any b D n c es _ _ hx5 HL.out (by omega)).mono ?_
        rintro e w6 ⟨rfl, hb6⟩
        have hB6 := box_next hB5 hb6
        go_wp2_with fail
        go_roundw
        case rel => exact ⟨k + 1, by omega, by go_num, by rw [HS.out, Int.min_eq_left (by omega)], hB6⟩
        case measure => simp [intOf]; omega
    · obtain rfl : k = 4 := by omega
      have hm4 : (lv b es (-1) == least b es 4) = true := by rw [HM.out]; simp
      go_wp2_with fail
      refine (lleft_any b D n c es _ _ hx5 HL.out (by omega)).mono ?_
      rintro e w6 ⟨rfl, hb6⟩
      have hB6 := box_next hB5 hb6
      go_wp2_with fail
      go_ret
      exact ⟨by simp, law_end hb hB6⟩
end Go.Proofs.Ytllnmgadaodieaa
