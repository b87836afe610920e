/-
  FnExactKeyChange: the walk of this law.
-/
import Derived.Test.YtgdoajhieiibcaaChange
import Derived.Test.YtgdoajhieiibcaaToI
namespace Go.Proofs.Ytgdoajhieiibcaa
open Go.RowKit
attribute [local go_sem ↓] Go.wp_at_zero Go.wp_at_succ

theorem rows_on {w w' : World} {A : Option Addr} {rs : List (List Int)} (h : Rws w w.heap.size A rs) (hb : Below w.heap.size w w') : Rws w' w'.heap.size A rs := (h.below hb).more hb.size
theorem rws_of {w : World} {base n c : Nat} {D : Option Addr} {ts : List (Nat × List Int)} {rs : List (List Int)} (h : RwO w base (.slice D n c) n ts) (H : Hid (ts.map Prod.snd = rs)) : Rws w w.heap.size D rs := by rw [← H.out]; exact h.rws
set_option maxHeartbeats 4000000 in
/-- laws.FnExactKeyChange. -/
theorem fnExactKeyChange_walk (a0 : Option Addr) (n0 cap0 : Nat) (p0 : List (List Int)) (a1 : Option Addr) (n1 cap1 : Nat) (p1 : List Int) (w : World) (h0 : IsRows w a0 n0 cap0 p0) (h1 : IsInts w a1 n1 cap1 p1) :
    Calls Try.prog 3 #[.slice a0 n0 cap0, .slice a1 n1 cap1] w fun e w' => e = .returned (.bool true) ∧ Below w.heap.size w w' := by
  obtain ⟨hl0, hc0, hm0, i0⟩ := h0
  obtain ⟨hl1, hc1, hm1, i1⟩ := h1
  have HL0 := Lib.hid hl0
  have HL1 := Lib.hid hl1
  have hm0 := len_max hm0
  have hm1 := len_max hm1
  clear hl0 hl1
  have hB := Below.refl w.heap.size w
  by_cases s1 : 1048576 < n1
  · go_enter Try.func3, Try.ntmps3
    go_wp2_with fail
    go_ret
    exact ⟨rfl, hB⟩
  go_enter Try.func3, Try.ntmps3
  go_wp2_with fail
  refine (szr_any a0 n0 cap0 p0 _ _ i0 HL0.out (by omega) (by omega) (by omega)).mono ?_
  rintro e w' ⟨z, rfl, zlo, zhi, HZ, rfl⟩
  by_cases s0 : z < 0
  · go_wp2_with fail
    go_ret
    exact ⟨rfl, hB⟩
  have hz0 := HZ.out (by omega)
  have htl : tln p0 ≤ 1048576 := by omega
  have hn0 : n0 ≤ 1048576 := by have := HL0.out; omega
  have HRR : Hid (∀ r ∈ p0, r.length ≤ 1048576) := fun r hr => by have := tln_mem hr; omega
  have hx1 : n1 ≤ maxLen := by simp only [maxLen]; omega
  clear hz0 HZ
  obtain ⟨V, HV⟩ : ∃ V, Hid (kcV p0 p1 = V) := ⟨_, Lib.hid rfl⟩
  obtain ⟨G, HG⟩ : ∃ G, Hid (kcB p0 p1 = G) := ⟨_, Lib.hid rfl⟩
  go_wp2_with fail
  refine (tor_any a0 n0 cap0 p0 _ (rows_on i0 hB) HL0.out (by omega) HRR.out).mono ?_
  rintro e w1 ⟨t1, rfl, H1, q1, hb⟩
  have hB := ti_next hB hb
  clear hb
  go_wp2_with fail
  refine (toi_any a1 n1 cap1 p1 _ (ints_on i1 hB) HL1.out (by omega)).mono ?_
  rintro e w2 ⟨rfl, k1, hb⟩
  have hB := ti_next hB hb
  have q1 := q1.below hb
  clear hb
  go_wp2_with fail
  have hcl := spec_change (some ⟨w.heap.size, 0, none⟩) n0 n0 p0 (some ⟨w1.heap.size, 0, none⟩) n1 n1 p1 w2 (rws_of q1 H1) HL0.out (by omega) k1.ints HL1.out hx1
  rw [HV.out, HG.out] at hcl
  refine hcl.mono ?_
  clear hcl
  rintro e w' ⟨rfl, rfl⟩
  clear q1 k1 H1
  go_wp2_with fail
  refine (tor_any a0 n0 cap0 p0 _ (rows_on i0 hB) HL0.out (by omega) HRR.out).mono ?_
  rintro e w3 ⟨t3, rfl, H3, q3, hb⟩
  have hB := ti_next hB hb
  clear hb
  go_wp2_with fail
  refine (toi_any a1 n1 cap1 p1 _ (ints_on i1 hB) HL1.out (by omega)).mono ?_
  rintro e w4 ⟨rfl, k3, hb⟩
  have hB := ti_next hB hb
  have q3 := q3.below hb
  clear hb
  go_wp2_with fail
  have hcl := impl_change (some ⟨w2.heap.size, 0, none⟩) n0 n0 p0 (some ⟨w3.heap.size, 0, none⟩) n1 n1 p1 w4 (rws_of q3 H3) HL0.out (by omega) k3.ints HL1.out hx1
  rw [HV.out, HG.out] at hcl
  refine hcl.mono ?_
  clear hcl
  rintro e w' ⟨rfl, rfl⟩
  go_wp2_with fail
  refine (tor_any a0 n0 cap0 p0 _ (rows_on i0 hB) HL0.out (by omega) HRR.out).mono ?_
  rintro e w5 ⟨t5, rfl, H5, q5, hb⟩
  have hB := ti_next hB hb
  have q3 := q3.below hb
  have k3 := k3.below hb
  clear hb
  go_wp2_with fail
  refine (eqr_t _ _ n0 n0 n0 p0 _ (rws_of q3 H3) (rws_of q5 H5) HL0.out (by omega) (fun r hr => by have := HRR.out r hr; omega)).mono ?_
  rintro e w6 ⟨rfl, hb⟩
  have hB := ti_next hB hb
  have k3 := k3.below hb
  clear hb q3 q5 H3 H5
  go_wp2_with fail
  refine (toi_any a1 n1 cap1 p1 _ (ints_on i1 hB) HL1.out (by omega)).mono ?_
  rintro e w7 ⟨rfl, k7, hb⟩
  have hB := ti_next hB hb
  have k3 := k3.below hb
  clear hb
  go_wp2_with fail
  refine (eqi_t _ _ n1 n1 n1 p1 _ k3.ints k7.ints HL1.out (by omega)).mono ?_
  rintro e w8 ⟨rfl, hb⟩
  have hB := ti_next hB hb
  clear hb k3 k7
  go_wp2_with fail
  go_ret
  exact ⟨rfl, hB⟩
end Go.Proofs.Ytgdoajhieiibcaa
