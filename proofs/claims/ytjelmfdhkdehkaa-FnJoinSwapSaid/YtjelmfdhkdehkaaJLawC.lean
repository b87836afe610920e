/-
  FnJoinSwap: the walk of this law.
-/
import Derived.Test.YtjelmfdhkdehkaaJLaw
namespace Go.Proofs.Ytjelmfdhkdehkaa
open Go.RowKit
attribute [local go_sem ↓] Go.wp_at_zero Go.wp_at_succ

set_option maxRecDepth 100000 in
set_option maxHeartbeats 4000000 in
/-- laws.FnJoinSwap. -/
theorem fnJoinSwap_walk (a0 : Option Addr) (len0 cap0 : Nat) (z0 : List Int) (a1 : Option Addr) (len1 cap1 : Nat) (z1 : List Int) (w : World) (w0 : IsRow8 w a0 len0 cap0 z0) (_w1 : IsRow8 w a1 len1 cap1 z1) :
    Calls Try.prog 5 #[.slice a0 len0 cap0, .slice a1 len1 cap1] w fun e w' => e = .returned (.bool true) ∧ Below w.heap.size w w' := by
  by_cases hl0 : 1048576 < len0
  · go_enter Try.func5, Try.ntmps5
    go_wp2
    go_ret
    exact ⟨rfl, Below.refl _ _⟩
  by_cases hl1 : 1048576 < len1
  · go_enter Try.func5, Try.ntmps5
    go_wp2
    go_ret
    exact ⟨rfl, Below.refl _ _⟩
  go_enter Try.func5, Try.ntmps5
  go_wp2_with fail
  refine (drawj_any a0 len0 cap0 z0 _ w0).mono ?_
  rintro e w1 ⟨b0, D0, n0, c0, e0, b1, D1, n1, c1, e1, rfl, hv0, hv1, hb⟩
  clear w0
  have x0 := hv0.1
  have y0 := hv0.2.1
  have m0 := hv0.2.2.1
  have L0 := hv0.2.2.2.1
  have hk0 := own_caps hv0.2.2.2.2
  have hcap0 := len_max hk0.2
  have hcap0' := hk0.1
  clear hk0
  have x1 := hv1.1
  have y1 := hv1.2.1
  have m1 := hv1.2.2.1
  have L1 := hv1.2.2.2.1
  have hk1 := own_caps hv1.2.2.2.2
  have hcap1 := len_max hk1.2
  have hcap1' := hk1.1
  clear hk1
  obtain ⟨W, HW⟩ : ∃ W, Hid ((w1.alloc (.cells #[.int .i64 b0, .slice D0 n0 c0] 25)).alloc (.cells #[.int .i64 b1, .slice D1 n1 c1] 25) = W) := ⟨_, Lib.hid rfl⟩
  have hbW : Below w1.heap.size w1 W := by rw [← HW.out]; exact below_two _ _ _
  have bxa : EB W 25 w1.heap.size b0 (.slice D0 n0 c0) := by rw [← HW.out]; exact (EB.new w1 _ _ _).alloc _
  have bxb : EB W 25 (w1.heap.size + 1) b1 (.slice D1 n1 c1) := by rw [← HW.out]; have := EB.new (w1.alloc (.cells #[.int .i64 b0, .slice D0 n0 c0] 25)) 25 b1 (.slice D1 n1 c1); simpa using this
  have hxa := (Recs.of_own ef_len hv0.2.2.2.2 (by omega)).2.on hbW
  have hxb := (Recs.of_own ef_len hv1.2.2.2.2 (by omega)).2.on hbW
  have hE := hb.trans (hbW.mono hb.size)
  clear hb hv0 hv1 hbW
  obtain ⟨rb, rs, ok, hres⟩ : ∃ rb rs ok, joinR b0 e0 b1 e1 = (rb, rs, ok) := ⟨_, _, _, rfl⟩
  obtain ⟨nr, hnr⟩ : ∃ nr, rs.length = nr := ⟨_, rfl⟩
  have HR := Lib.hid hres
  have HN := Lib.hid hnr
  have h40 : nr ≤ 40 := by have := joinR_len hres; omega
  clear hres hnr
  have okk : (ok != ok) = false := by simp
  go_wp2_with fail
  rw [HW.out]
  refine (join_r b0 D0 n0 c0 e0 b1 D1 n1 c1 e1 _ hxa hxb L0.out (by omega) L1.out (by omega) HR.out HN.out).mono ?_
  rintro e w2 ⟨Dg, cg, rfl, hown, hb⟩
  replace hE := hE.trans (hb.mono hE.size)
  replace bxa := bxa.below hb
  replace bxb := bxb.below hb
  replace hxa := hxa.on hb
  replace hxb := hxb.on hb
  have bxo := EB.new w2 25 rb (.slice Dg nr cg)
  have hxo := (Recs.of_own ef_len hown (by omega)).2.alloc (.cells #[.int .i64 rb, .slice Dg nr cg] 25)
  replace hE := hE.alloc hE.size (.cells #[.int .i64 rb, .slice Dg nr cg] 25)
  replace bxa := bxa.alloc (.cells #[.int .i64 rb, .slice Dg nr cg] 25)
  replace bxb := bxb.alloc (.cells #[.int .i64 rb, .slice Dg nr cg] 25)
  replace hxa := hxa.alloc (.cells #[.int .i64 rb, .slice Dg nr cg] 25)
  replace hxb := hxb.alloc (.cells #[.int .i64 rb, .slice Dg nr cg] 25)
  clear hown
  clear hb
  obtain ⟨fa0, fa1, -, -⟩ := bxa.facts
  obtain ⟨fb0, fb1, -, -⟩ := bxb.facts
  obtain ⟨fo0, fo1, -, -⟩ := bxo.facts
  go_wp2_with fail
  refine (sjoin_r b0 D0 n0 c0 e0 b1 D1 n1 c1 e1 _ hxa hxb L0.out (by omega) L1.out (by omega) HR.out HN.out).mono ?_
  rintro e w3 ⟨Dw, cw, rfl, hown, hb⟩
  replace hE := hE.trans (hb.mono hE.size)
  replace bxa := bxa.below hb
  replace bxb := bxb.below hb
  replace bxo := bxo.below hb
  replace hxa := hxa.on hb
  replace hxb := hxb.on hb
  replace hxo := hxo.on hb
  have bxt := EB.new w3 25 rb (.slice Dw nr cw)
  have hxt := (Recs.of_own ef_len hown (by omega)).2.alloc (.cells #[.int .i64 rb, .slice Dw nr cw] 25)
  replace hE := hE.alloc hE.size (.cells #[.int .i64 rb, .slice Dw nr cw] 25)
  replace bxa := bxa.alloc (.cells #[.int .i64 rb, .slice Dw nr cw] 25)
  replace bxb := bxb.alloc (.cells #[.int .i64 rb, .slice Dw nr cw] 25)
  replace bxo := bxo.alloc (.cells #[.int .i64 rb, .slice Dw nr cw] 25)
  replace hxa := hxa.alloc (.cells #[.int .i64 rb, .slice Dw nr cw] 25)
  replace hxb := hxb.alloc (.cells #[.int .i64 rb, .slice Dw nr cw] 25)
  replace hxo := hxo.alloc (.cells #[.int .i64 rb, .slice Dw nr cw] 25)
  clear hown
  clear hb
  clear fa0 fa1 fb0 fb1 fo0 fo1
  obtain ⟨fa0, fa1, -, -⟩ := bxa.facts
  obtain ⟨fb0, fb1, -, -⟩ := bxb.facts
  obtain ⟨fo0, fo1, -, -⟩ := bxo.facts
  obtain ⟨ft0, ft1, -, -⟩ := bxt.facts
  go_wp2_with fail
  refine (same_t rb Dg Dw nr cg cw rs _ hxo hxt HN.out (by omega)).mono ?_
  rintro e w4 ⟨rfl, hb⟩
  replace hE := hE.trans (hb.mono hE.size)
  replace bxa := bxa.below hb
  replace bxb := bxb.below hb
  replace bxo := bxo.below hb
  replace bxt := bxt.below hb
  replace hxa := hxa.on hb
  replace hxb := hxb.on hb
  replace hxo := hxo.on hb
  replace hxt := hxt.on hb
  clear hb
  clear fa0 fa1 fb0 fb1 fo0 fo1 ft0 ft1
  obtain ⟨fa0, fa1, -, -⟩ := bxa.facts
  obtain ⟨fb0, fb1, -, -⟩ := bxb.facts
  obtain ⟨fo0, fo1, -, -⟩ := bxo.facts
  obtain ⟨ft0, ft1, -, -⟩ := bxt.facts
  cases ok
  · skip
    go_wp2_with fail
    refine (same_t rb Dg Dw nr cg cw rs _ hxo hxt HN.out (by omega)).mono ?_
    rintro e w5 ⟨rfl, hb⟩
    replace hE := hE.trans (hb.mono hE.size)
    replace bxa := bxa.below hb
    replace bxb := bxb.below hb
    replace bxo := bxo.below hb
    replace bxt := bxt.below hb
    replace hxa := hxa.on hb
    replace hxb := hxb.on hb
    replace hxo := hxo.on hb
    replace hxt := hxt.on hb
    clear hb
    clear fa0 fa1 fb0 fb1 fo0 fo1 ft0 ft1
    obtain ⟨fa0, fa1, -, -⟩ := bxa.facts
    obtain ⟨fb0, fb1, -, -⟩ := bxb.facts
    obtain ⟨fo0, fo1, -, -⟩ := bxo.facts
    obtain ⟨ft0, ft1, -, -⟩ := bxt.facts
    go_wp2_with fail
    go_ret
    exact ⟨by simp, hE⟩
  obtain ⟨hl0, hl1, hlj, hrb, hrs⟩ := joinR_t HR.out
  subst hrs
  have HL0 := Lib.hid hl0
  have HL1 := Lib.hid hl1
  have HLJ := Lib.hid hlj
  have HMB := Lib.hid hrb
  have z0 := hl0.1
  have z0' := hl0.2.1
  have z1 := hl1.1
  have z1' := hl1.2.1
  have zr : 0 ≤ rb ∧ rb ≤ 1000 := by rw [hrb]; omega
  clear hl0 hl1 hlj hrb HR
  obtain rfl : nr = n0 + n1 := by have h := HN.out; rw [List.length_append, L0.out, L1.out] at h; exact h.symm
  clear bxt hxt ft0 ft1
  have hj := join_comm HL0.out HL1.out HLJ.out
  rw [← HMB.out] at hj
  have HJ := Lib.hid hj
  have HNJ := Lib.hid (show (e1 ++ e0).length = n0 + n1 by rw [List.length_append, L0.out, L1.out]; omega)
  have HC := Lib.hid (fun k => sv_comm (b := rb) (es := e0) (fs := e1) (by rw [HMB.out]; exact HLJ.out) (by obtain ⟨_, _, hj2, _, _⟩ := joinR_t hj; rw [show min b1 b0 = rb by rw [HMB.out]; omega] at hj2; exact hj2) k)
  clear hj
  go_wp2_with fail
  refine (join_r b1 D1 n1 c1 e1 b0 D0 n0 c0 e0 _ hxb hxa L1.out (by omega) L0.out (by omega) HJ.out HNJ.out).mono ?_
  rintro e w5 ⟨Dx, cx, rfl, hown, hb⟩
  replace hE := hE.trans (hb.mono hE.size)
  replace bxa := bxa.below hb
  replace bxb := bxb.below hb
  replace bxo := bxo.below hb
  replace hxa := hxa.on hb
  replace hxb := hxb.on hb
  replace hxo := hxo.on hb
  have bxx := EB.new w5 25 rb (.slice Dx (n0 + n1) cx)
  have hxx := (Recs.of_own ef_len hown (by omega)).2.alloc (.cells #[.int .i64 rb, .slice Dx (n0 + n1) cx] 25)
  replace hE := hE.alloc hE.size (.cells #[.int .i64 rb, .slice Dx (n0 + n1) cx] 25)
  replace bxa := bxa.alloc (.cells #[.int .i64 rb, .slice Dx (n0 + n1) cx] 25)
  replace bxb := bxb.alloc (.cells #[.int .i64 rb, .slice Dx (n0 + n1) cx] 25)
  replace bxo := bxo.alloc (.cells #[.int .i64 rb, .slice Dx (n0 + n1) cx] 25)
  replace hxa := hxa.alloc (.cells #[.int .i64 rb, .slice Dx (n0 + n1) cx] 25)
  replace hxb := hxb.alloc (.cells #[.int .i64 rb, .slice Dx (n0 + n1) cx] 25)
  replace hxo := hxo.alloc (.cells #[.int .i64 rb, .slice Dx (n0 + n1) cx] 25)
  clear hown
  clear hb
  clear fa0 fa1 fb0 fb1 fo0 fo1
  obtain ⟨fa0, fa1, -, -⟩ := bxa.facts
  obtain ⟨fb0, fb1, -, -⟩ := bxb.facts
  obtain ⟨fo0, fo1, -, -⟩ := bxo.facts
  obtain ⟨fx0, fx1, -, -⟩ := bxx.facts
  have t5 : ((len1 : Int)).tmod 5 = ((len1 % 5 : Nat) : Int) := by rw [Int.tmod_eq_emod_of_nonneg (by omega)]; rfl
  obtain ⟨k0, hk0⟩ : ∃ k0, k0 = len1 % 5 := ⟨_, rfl⟩
  rw [← hk0] at t5
  have hk1 : k0 < 5 := by have := Nat.mod_lt len1 (show 0 < 5 by omega); omega
  have t6 : (len1 : Int) % 5 = (k0 : Int) := by rw [hk0]; rfl
  clear hk0
  have k3 : (sv rb (e1 ++ e0) ((k0 : Int) - 1) == sv rb (e0 ++ e1) ((k0 : Int) - 1)) = true := by rw [HC.out]; simp
  have k2 : ((n0 : Int) + (n1 : Int) == (n0 : Int) + (n1 : Int)) = true := by simp
  go_wp2_with fail
  go_region_held3 (fun w' => w'.cell? ⟨w5.heap.size, 0, none⟩ = some (.int .i64 rb) ∧ w'.cell? ⟨w5.heap.size, 1, none⟩ = some (.slice Dx (n0 + n1) cx) ∧ w'.cell? ⟨w2.heap.size, 0, none⟩ = some (.int .i64 rb) ∧ w'.cell? ⟨w2.heap.size, 1, none⟩ = some (.slice Dg (n0 + n1) cg)) (go_keep)
    (first
      | (go_at_call 15
         with_reducible show Calls _ _ #[.agg #[.int .i64 rb, .slice Dx (n0 + n1) cx], .int .i64 ((k0 : Int) - 1)] ((w5.alloc (.cells #[.int .i64 rb, .slice Dx (n0 + n1) cx] 25)).drew) _
         have hd := below_drew (w5.alloc (.cells #[.int .i64 rb, .slice Dx (n0 + n1) cx] 25))
         refine (lspent_any rb Dx (n0 + n1) cx (e1 ++ e0) _ _ (hxx.on hd) HNJ.out (by omega)).mono ?_
         rintro e v1 ⟨rfl, hb⟩
         have hb := hd.trans (hb.mono hd.size)
         replace hE := hE.trans (hb.mono hE.size)
         replace bxa := bxa.below hb
         replace bxb := bxb.below hb
         replace bxo := bxo.below hb
         replace bxx := bxx.below hb
         replace hxa := hxa.on hb
         replace hxb := hxb.on hb
         replace hxo := hxo.on hb
         replace hxx := hxx.on hb
         obtain ⟨y00, y01, -, -⟩ := bxx.facts
         obtain ⟨y10, y11, -, -⟩ := bxo.facts)
      | (go_at_call 15
         with_reducible show Calls _ _ #[.agg #[.int .i64 rb, .slice Dx (n0 + n1) cx], .int .i64 ((k0 : Int) - 1)] (w5.alloc (.cells #[.int .i64 rb, .slice Dx (n0 + n1) cx] 25)) _
         refine (lspent_any rb Dx (n0 + n1) cx (e1 ++ e0) _ _ hxx HNJ.out (by omega)).mono ?_
         rintro e v1 ⟨rfl, hb⟩
         replace hE := hE.trans (hb.mono hE.size)
         replace bxa := bxa.below hb
         replace bxb := bxb.below hb
         replace bxo := bxo.below hb
         replace bxx := bxx.below hb
         replace hxa := hxa.on hb
         replace hxb := hxb.on hb
         replace hxo := hxo.on hb
         replace hxx := hxx.on hb
         obtain ⟨y00, y01, -, -⟩ := bxx.facts
         obtain ⟨y10, y11, -, -⟩ := bxo.facts)
      | (go_at_call 15
         with_reducible show Calls _ _ #[.agg #[.int .i64 rb, .slice Dg (n0 + n1) cg], .int .i64 ((k0 : Int) - 1)] (v1.drew) _
         have hd := below_drew v1
         refine (lspent_any rb Dg (n0 + n1) cg (e0 ++ e1) _ _ (hxo.on hd) HN.out (by omega)).mono ?_
         rintro e v2 ⟨rfl, hb⟩
         have hb := hd.trans (hb.mono hd.size)
         replace hE := hE.trans (hb.mono hE.size)
         replace bxa := bxa.below hb
         replace bxb := bxb.below hb
         replace bxo := bxo.below hb
         replace bxx := bxx.below hb
         replace hxa := hxa.on hb
         replace hxb := hxb.on hb
         replace hxo := hxo.on hb
         replace hxx := hxx.on hb
         obtain ⟨y00, y01, -, -⟩ := bxx.facts
         obtain ⟨y10, y11, -, -⟩ := bxo.facts)
      | (go_at_call 15
         with_reducible show Calls _ _ #[.agg #[.int .i64 rb, .slice Dg (n0 + n1) cg], .int .i64 ((k0 : Int) - 1)] (v1) _
         refine (lspent_any rb Dg (n0 + n1) cg (e0 ++ e1) _ _ hxo HN.out (by omega)).mono ?_
         rintro e v2 ⟨rfl, hb⟩
         replace hE := hE.trans (hb.mono hE.size)
         replace bxa := bxa.below hb
         replace bxb := bxb.below hb
         replace bxo := bxo.below hb
         replace bxx := bxx.below hb
         replace hxa := hxa.on hb
         replace hxb := hxb.on hb
         replace hxo := hxo.on hb
         replace hxx := hxx.on hb
         obtain ⟨y00, y01, -, -⟩ := bxx.facts
         obtain ⟨y10, y11, -, -⟩ := bxo.facts))
  all_goals
    go_wp2_with fail
    go_ret
    exact ⟨by simp, hE⟩
end Go.Proofs.Ytjelmfdhkdehkaa
