/-
  FnLedger, FnLeftNone, FnLeftParts, FnLeft: the walks of these laws.
-/
import Derived.Test.YtllnmgadaodieaaLawS
import Derived.IntWalk
namespace Go.Proofs.Ytllnmgadaodieaa
open Go.RowKit
attribute [local go_sem ↓] Go.wp_at_zero Go.wp_at_succ

theorem take_len {α : Type} {xs : List α} {n k : Nat} (h : xs.length = n) (hk : k ≤ n) : (xs.take k).length = k := by rw [List.length_take]; omega
theorem rem_nat (m n : Nat) : ((m : Int)).tmod ((n : Int) + 1) = ((m % (n + 1) : Nat) : Int) := by
  rw [Int.tmod_eq_emod_of_nonneg (by omega)]; rfl

set_option maxHeartbeats 4000000 in
/-- laws.FnLeftNone. -/
theorem fnLeftNone_walk (a0 : Option Addr) (len0 cap0 : Nat) (z0 : List Int) (a1 : Option Addr) (len1 cap1 : Nat) (z1 : List Int) (w : World) (w0 : IsRow8 w a0 len0 cap0 z0) (_w1 : IsRow8 w a1 len1 cap1 z1) :
    Calls Try.prog 5 #[.slice a0 len0 cap0, .slice a1 len1 cap1] w fun e w' => e = .returned (.bool true) ∧ Below w.heap.size w w' := by
  by_cases hl : 1048576 < len0
  · go_enter Try.func5, Try.ntmps5
    go_wp2
    go_ret
    exact ⟨rfl, Below.refl _ _⟩
  by_cases hl1 : 1048576 < len1
  · go_enter Try.func5, Try.ntmps5
    go_wp2
    go_ret
    exact ⟨rfl, Below.refl _ _⟩
  go_enter Try.func5, Try.ntmps5
  go_wp2_with fail
  refine (drawv_any a0 len0 cap0 z0 _ w0).mono ?_
  rintro e w1 ⟨b, D, n, c, es, rfl, hv, hb⟩
  have b0 := hv.1
  have b1 := hv.2.1
  have n9 := hv.2.2.1
  have HL := hv.2.2.2.1
  clear w0
  have hB1 := box_refl w1 (.cells #[.int .i64 b, .slice D n c] 25)
  obtain ⟨c10, c11, hx1⟩ := law_facts hv hB1
  go_wp2_with fail
  refine (valid_any b D n c es _ hx1 HL.out (by omega)).mono ?_
  rintro e w2 ⟨rfl, hb2⟩
  have hB2 := box_next hB1 hb2
  obtain ⟨c20, c21, hx2⟩ := law_facts hv hB2
  go_wp2_with fail
  refine (svalid_any b D n c es _ hx2 HL.out (by omega)).mono ?_
  rintro e w3 ⟨rfl, hb3⟩
  have hB3 := box_next hB2 hb3
  obtain ⟨c30, c31, hx3⟩ := law_facts hv hB3
  have hE3 := law_end hb hB3
  clear hb2 hb3 hx1 hx2 hB1 hB2 c10 c11 c20 c21
  cases hldb : ldB b es
  · go_wp2_with fail
    go_ret
    exact ⟨by simp, hE3⟩
  have hld := ldB_iff.1 hldb
  have HLD := Lib.hid hld
  have HALL := Lib.hid hld.2.2.2.1
  have bb0 := hld.1
  have bb1 := hld.2.1
  clear hld
  have t5 : ((len1 : Int)).tmod 5 = ((len1 % 5 : Nat) : Int) := by rw [Int.tmod_eq_emod_of_nonneg (by omega)]; rfl
  obtain ⟨k0, hk0⟩ : ∃ k0, k0 = len1 % 5 := ⟨_, rfl⟩
  rw [← hk0] at t5
  have hk1 : k0 < 5 := by have := Nat.mod_lt len1 (show 0 < 5 by omega); omega
  have t6 : (len1 : Int) % 5 = (k0 : Int) := by rw [hk0]; rfl
  clear hk0
  have hpk : partP ((k0 : Int) - 1) := by unfold partP; omega
  have hn1 := lv_none bb0 bb1 hpk
  obtain ⟨hm0, hm1⟩ := lv_bd HLD.out hpk
  clear hpk
  have hB := hB3
  clear hB3 hx3
  go_wp2_with fail
  go_region_held3 (fun w' => w'.cell? ⟨w1.heap.size, 0, none⟩ = some (.int .i64 b) ∧ w'.cell? ⟨w1.heap.size, 1, none⟩ = some (.slice D n c)) (go_keep)
    (first
      | (go_at_call 19
         first
           | (with_reducible refine (lleft_any b D n c es _ _ (law_facts hv (hB.drew)).2.2 HL.out (by omega)).mono ?_
              rintro e w5 ⟨rfl, hbn⟩
              have hB := box_next (hB.drew) hbn)
           | (with_reducible refine (lleft_any b D n c es _ _ (law_facts hv (hB)).2.2 HL.out (by omega)).mono ?_
              rintro e w5 ⟨rfl, hbn⟩
              have hB := box_next (hB) hbn)
         obtain ⟨y0, y1⟩ := box_cells hB
         clear hbn)
      | (go_at_call 19
         with_reducible refine (lleft_any b _ 0 0 [] _ _ Recs.nil (Eq.refl 0) (by omega)).mono ?_
         rintro e w5 ⟨rfl, hbn⟩
         have hB := box_next ((box_alloc hB _).drew) hbn
         obtain ⟨y0, y1⟩ := box_cells hB
         clear hbn))
  go_wp2_with fail
  go_ret
  exact ⟨by simp, law_end hb hB⟩
end Go.Proofs.Ytllnmgadaodieaa
