/-
  The walks of slices.ContainsFunc at pairs: whether a pair has another length than two.
-/
import Derived.Test.YtpjiencegicjbaaSwapOk
import Derived.Test.YtpjiencegicjbaaRun
namespace Go.Proofs.Ytpjiencegicjbaa
open Go.RowKit
attribute [local go_sem ↓] Go.wp_at_zero Go.wp_at_succ

theorem pair_any (A : Option Addr) (m c : Nat) (w : World) : Calls Try.prog 39 #[.slice A m c] w fun e w' => e = .returned (.bool ((m : Int) != 2)) ∧ w = w' := by
  go_enter Try.func39, Try.ntmps39
  go_wp2
  go_ret
  exact ⟨rfl, rfl⟩
/-- What IndexFunc returns. -/
def IdxQ (rs : List (List Int)) (w : World) (e : Ending) (w' : World) : Prop := ∃ k : Int, e = .returned (.int .i64 k) ∧ -1 ≤ k ∧ Hid (badB rs = decide (0 ≤ k)) ∧ w = w'
set_option maxHeartbeats 1000000 in
theorem idxf_any (A : Option Addr) (n c : Nat) (rs : List (List Int)) (w : World) (hx : Rws w w.heap.size A rs) (hn : rs.length = n) (hm : n ≤ 4194304) :
    Calls Try.prog 47 #[.slice A n c, .func (.func 39) #[] #[]] w (IdxQ rs w) := by
  have HN := Lib.hid hn
  clear hn
  go_enter Try.func47, Try.ntmps47
  go_wp2_with fail
  go_loop [8] (fun i => ∃ k : Nat, k ≤ n ∧ i = .int .i64 k ∧ Hid (∀ r ∈ rs.take k, r.length = 2)) (fun i => n - (intOf i).toNat)
  case atStart => exact ⟨0, by omega, rfl, by simp [Hid]⟩
  case round =>
    obtain ⟨k, hk, rfl, HA⟩ := hrel
    by_cases hlt : k < n
    · obtain ⟨b, o, r, Ai, ci, rfl, hb, HX, hc, -, -, -⟩ := hx.at_ (k := k) (by have := HN.out; omega)
      have k0 : (0 : Int) ≤ (k : Int) := by omega
      have k1 : (k : Int) < (n : Int) := by omega
      by_cases h2 : r.length = 2
      · have HB := Lib.hid (bad_next HA.out HX.out h2)
        have e2 : ((r.length : Int) != 2) = false := by simp [bne]; omega
        clear h2
        go_wp2_with (go_at_call 39; refine (pair_any _ _ _ _).mono ?_; rintro e w' ⟨rfl, rfl⟩)
        go_round
        case rel => exact ⟨k + 1, by omega, by go_num, HB⟩
        case measure => simp [intOf]; omega
      · have HB := Lib.hid (bad_at HX.out h2)
        have e2 : ((r.length : Int) != 2) = true := by simp [bne]; omega
        clear h2
        go_wp2_with (go_at_call 39; refine (pair_any _ _ _ _).mono ?_; rintro e w' ⟨rfl, rfl⟩)
        go_ret
        exact ⟨_, rfl, by omega, by show _ = _; rw [HB.out]; simp, rfl⟩
    · go_wp2_with fail
      go_ret
      refine ⟨_, rfl, by omega, ?_, rfl⟩
      have hall := HA.out
      rw [List.take_of_length_le (by have := HN.out; omega)] at hall
      show _ = _
      rw [bad_f.2 hall]; rfl
set_option maxHeartbeats 400000 in
theorem contf_any (A : Option Addr) (n c : Nat) (rs : List (List Int)) (w : World) (hx : Rws w w.heap.size A rs) (hn : rs.length = n) (hm : n ≤ 4194304) :
    Calls Try.prog 38 #[.slice A n c, .func (.func 39) #[] #[]] w fun e w' => e = .returned (.bool (badB rs)) ∧ w = w' := by
  have HN := Lib.hid hn
  clear hn
  go_enter Try.func38, Try.ntmps38
  go_wp2_with fail
  refine (idxf_any A n c rs _ hx HN.out hm).mono ?_
  rintro e w1 ⟨k, rfl, hk, HB, rfl⟩
  go_wp2_with fail
  go_ret
  exact ⟨ret_bool HB.out.symm, rfl⟩
end Go.Proofs.Ytpjiencegicjbaa
