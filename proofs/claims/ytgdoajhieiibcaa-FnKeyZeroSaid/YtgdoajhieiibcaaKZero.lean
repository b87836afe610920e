/-
  The laws of cell keys over drawn rows and keys: each returns true for every code, and turns nothing that was there.
-/
import Derived.Test.YtgdoajhieiibcaaKDraw
namespace Go.Proofs.Ytgdoajhieiibcaa
open Go.RowKit

set_option maxHeartbeats 1000000 in
/-- laws.FnKeyZero. -/
theorem fnKeyZero_walk (a0 : Option Addr) (len0 cap0 : Nat) (z0 : List Int) (w : World) (w0 : IsRow8 w a0 len0 cap0 z0) :
    Calls Try.prog 7 #[.slice a0 len0 cap0] w fun e w' => e = .returned (.bool true) ∧ Below w.heap.size w w' := by
  by_cases hl : 1048576 < len0
  · go_enter Try.func7, Try.ntmps7
    go_wp2
    go_ret
    exact ⟨rfl, Below.refl _ _⟩
  go_enter Try.func7, Try.ntmps7
  go_wp2_with fail
  refine (drawk_any a0 len0 cap0 z0 _ w0).mono ?_
  rintro e w1 ⟨D, n, c, rs, D', m, c', xs, rfl, ⟨n8, nc, cm, HN, hrs⟩, ⟨m6, mc, cm', HX, hxs⟩, hb⟩
  clear w0
  go_wp2_with fail
  refine (impl_change D n c rs D' m c' xs _ hrs HN.out (by omega) hxs HX.out (by simp only [maxLen]; omega)).mono ?_
  rintro e w' ⟨rfl, rfl⟩
  go_wp2_with fail
  refine (spec_change D n c rs D' m c' xs _ hrs HN.out (by omega) hxs HX.out (by simp only [maxLen]; omega)).mono ?_
  rintro e w' ⟨rfl, rfl⟩
  cases hB : kcB rs xs
  · go_wp2_with fail
    go_ret
    exact ⟨rfl, hb⟩
  have hB2 := hB
  rw [kcB, Bool.and_eq_true] at hB2
  have hn1 : 1 ≤ n := by have := (krB_iff.1 hB2.2).1; have := HN.out; omega
  have hcm := len_max cm
  obtain ⟨z1, z2⟩ := kc_none hB2.2
  obtain ⟨o1, o2⟩ := kc_one hB2.2 hB2.1
  rw [HX.out] at o2
  have HT := Lib.hid (show (rs.take 1).length = 1 by rw [List.length_take]; have := HN.out; omega)
  clear hB2
  go_wp2_with fail
  refine (impl_change D n c rs _ 0 _ [] _ (hrs.alloc _) HN.out (by omega) (Ints.nil _ _ _) rfl (by simp [maxLen])).mono ?_
  rintro e w' ⟨rfl, rfl⟩
  have hrs1 := hrs.alloc (.cells #[] 3)
  have hxs1 := hxs.alloc (.cells #[] 3)
  go_wp2_with fail
  refine (impl_change _ 1 _ (rs.take 1) D' m c' xs _ (hrs1.take 1) HT.out (by omega) hxs1 HX.out (by simp only [maxLen]; omega)).mono ?_
  rintro e w' ⟨rfl, rfl⟩
  go_wp2_with fail
  go_ret
  exact ⟨by simp, hb.alloc hb.size _⟩
end Go.Proofs.Ytgdoajhieiibcaa
