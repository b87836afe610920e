/-
  FnJoin: the walk of this law.
-/
import Derived.Test.YtjelmfdhkdehkaaJLaw
namespace Go.Proofs.Ytjelmfdhkdehkaa
open Go.RowKit
attribute [local go_sem ↓] Go.wp_at_zero Go.wp_at_succ

set_option maxRecDepth 100000 in
set_option maxHeartbeats 4000000 in
/-- laws.FnJoin. -/
theorem fnJoin_walk (a0 : Option Addr) (len0 cap0 : Nat) (z0 : List Int) (w : World) (w0 : IsRow8 w a0 len0 cap0 z0) :
    Calls Try.prog 4 #[.slice a0 len0 cap0] w fun e w' => e = .returned (.bool true) ∧ Below w.heap.size w w' := by
  by_cases hl0 : 1048576 < len0
  · go_enter Try.func4, Try.ntmps4
    go_wp2
    go_ret
    exact ⟨rfl, Below.refl _ _⟩
  go_enter Try.func4, Try.ntmps4
  go_wp2_with fail
  refine (drawj_any a0 len0 cap0 z0 _ w0).mono ?_
  rintro e w1 ⟨b0, D0, n0, c0, e0, b1, D1, n1, c1, e1, rfl, hv0, hv1, hb⟩
  clear w0
  have x0 := hv0.1
  have y0 := hv0.2.1
  have m0 := hv0.2.2.1
  have L0 := hv0.2.2.2.1
  have hk0 := own_caps hv0.2.2.2.2
  have hcap0 := len_max hk0.2
  have hcap0' := hk0.1
  clear hk0
  have x1 := hv1.1
  have y1 := hv1.2.1
  have m1 := hv1.2.2.1
  have L1 := hv1.2.2.2.1
  have hk1 := own_caps hv1.2.2.2.2
  have hcap1 := len_max hk1.2
  have hcap1' := hk1.1
  clear hk1
  obtain ⟨W, HW⟩ : ∃ W, Hid ((w1.alloc (.cells #[.int .i64 b0, .slice D0 n0 c0] 25)).alloc (.cells #[.int .i64 b1, .slice D1 n1 c1] 25) = W) := ⟨_, Lib.hid rfl⟩
  have hbW : Below w1.heap.size w1 W := by rw [← HW.out]; exact below_two _ _ _
  have bxa : EB W 25 w1.heap.size b0 (.slice D0 n0 c0) := by rw [← HW.out]; exact (EB.new w1 _ _ _).alloc _
  have bxb : EB W 25 (w1.heap.size + 1) b1 (.slice D1 n1 c1) := by rw [← HW.out]; have := EB.new (w1.alloc (.cells #[.int .i64 b0, .slice D0 n0 c0] 25)) 25 b1 (.slice D1 n1 c1); simpa using this
  have hxa := (Recs.of_own ef_len hv0.2.2.2.2 (by omega)).2.on hbW
  have hxb := (Recs.of_own ef_len hv1.2.2.2.2 (by omega)).2.on hbW
  have hE := hb.trans (hbW.mono hb.size)
  clear hb hv0 hv1 hbW
  obtain ⟨rb, rs, ok, hres⟩ : ∃ rb rs ok, joinR b0 e0 b1 e1 = (rb, rs, ok) := ⟨_, _, _, rfl⟩
  obtain ⟨nr, hnr⟩ : ∃ nr, rs.length = nr := ⟨_, rfl⟩
  have HR := Lib.hid hres
  have HN := Lib.hid hnr
  have h40 : nr ≤ 40 := by have := joinR_len hres; omega
  clear hres hnr
  have okk : (ok != ok) = false := by simp
  go_wp2_with fail
  rw [HW.out]
  refine (join_r b0 D0 n0 c0 e0 b1 D1 n1 c1 e1 _ hxa hxb L0.out (by omega) L1.out (by omega) HR.out HN.out).mono ?_
  rintro e w2 ⟨Dg, cg, rfl, hown, hb⟩
  replace hE := hE.trans (hb.mono hE.size)
  replace bxa := bxa.below hb
  replace bxb := bxb.below hb
  replace hxa := hxa.on hb
  replace hxb := hxb.on hb
  have bxo := EB.new w2 25 rb (.slice Dg nr cg)
  have hxo := (Recs.of_own ef_len hown (by omega)).2.alloc (.cells #[.int .i64 rb, .slice Dg nr cg] 25)
  replace hE := hE.alloc hE.size (.cells #[.int .i64 rb, .slice Dg nr cg] 25)
  replace bxa := bxa.alloc (.cells #[.int .i64 rb, .slice Dg nr cg] 25)
  replace bxb := bxb.alloc (.cells #[.int .i64 rb, .slice Dg nr cg] 25)
  replace hxa := hxa.alloc (.cells #[.int .i64 rb, .slice Dg nr cg] 25)
  replace hxb := hxb.alloc (.cells #[.int .i64 rb, .slice Dg nr cg] 25)
  clear hown
  clear hb
  obtain ⟨fa0, fa1, -, -⟩ := bxa.facts
  obtain ⟨fb0, fb1, -, -⟩ := bxb.facts
  obtain ⟨fo0, fo1, -, -⟩ := bxo.facts
  go_wp2_with fail
  refine (sjoin_r b0 D0 n0 c0 e0 b1 D1 n1 c1 e1 _ hxa hxb L0.out (by omega) L1.out (by omega) HR.out HN.out).mono ?_
  rintro e w3 ⟨Dw, cw, rfl, hown, hb⟩
  replace hE := hE.trans (hb.mono hE.size)
  replace bxa := bxa.below hb
  replace bxb := bxb.below hb
  replace bxo := bxo.below hb
  replace hxa := hxa.on hb
  replace hxb := hxb.on hb
  replace hxo := hxo.on hb
  have bxt := EB.new w3 25 rb (.slice Dw nr cw)
  have hxt := (Recs.of_own ef_len hown (by omega)).2.alloc (.cells #[.int .i64 rb, .slice Dw nr cw] 25)
  replace hE := hE.alloc hE.size (.cells #[.int .i64 rb, .slice Dw nr cw] 25)
  replace bxa := bxa.alloc (.cells #[.int .i64 rb, .slice Dw nr cw] 25)
  replace bxb := bxb.alloc (.cells #[.int .i64 rb, .slice Dw nr cw] 25)
  replace bxo := bxo.alloc (.cells #[.int .i64 rb, .slice Dw nr cw] 25)
  replace hxa := hxa.alloc (.cells #[.int .i64 rb, .slice Dw nr cw] 25)
  replace hxb := hxb.alloc (.cells #[.int .i64 rb, .slice Dw nr cw] 25)
  replace hxo := hxo.alloc (.cells #[.int .i64 rb, .slice Dw nr cw] 25)
  clear hown
  clear hb
  clear fa0 fa1 fb0 fb1 fo0 fo1
  obtain ⟨fa0, fa1, -, -⟩ := bxa.facts
  obtain ⟨fb0, fb1, -, -⟩ := bxb.facts
  obtain ⟨fo0, fo1, -, -⟩ := bxo.facts
  obtain ⟨ft0, ft1, -, -⟩ := bxt.facts
  go_wp2_with fail
  refine (same_t rb Dg Dw nr cg cw rs _ hxo hxt HN.out (by omega)).mono ?_
  rintro e w4 ⟨rfl, hb⟩
  replace hE := hE.trans (hb.mono hE.size)
  replace bxa := bxa.below hb
  replace bxb := bxb.below hb
  replace bxo := bxo.below hb
  replace bxt := bxt.below hb
  replace hxa := hxa.on hb
  replace hxb := hxb.on hb
  replace hxo := hxo.on hb
  replace hxt := hxt.on hb
  clear hb
  clear fa0 fa1 fb0 fb1 fo0 fo1 ft0 ft1
  obtain ⟨fa0, fa1, -, -⟩ := bxa.facts
  obtain ⟨fb0, fb1, -, -⟩ := bxb.facts
  obtain ⟨fo0, fo1, -, -⟩ := bxo.facts
  obtain ⟨ft0, ft1, -, -⟩ := bxt.facts
  cases ok
  · skip
    go_wp2_with fail
    refine (same_t rb Dg Dw nr cg cw rs _ hxo hxt HN.out (by omega)).mono ?_
    rintro e w5 ⟨rfl, hb⟩
    replace hE := hE.trans (hb.mono hE.size)
    replace bxa := bxa.below hb
    replace bxb := bxb.below hb
    replace bxo := bxo.below hb
    replace bxt := bxt.below hb
    replace hxa := hxa.on hb
    replace hxb := hxb.on hb
    replace hxo := hxo.on hb
    replace hxt := hxt.on hb
    clear hb
    clear fa0 fa1 fb0 fb1 fo0 fo1 ft0 ft1
    obtain ⟨fa0, fa1, -, -⟩ := bxa.facts
    obtain ⟨fb0, fb1, -, -⟩ := bxb.facts
    obtain ⟨fo0, fo1, -, -⟩ := bxo.facts
    obtain ⟨ft0, ft1, -, -⟩ := bxt.facts
    go_wp2_with fail
    go_ret
    exact ⟨by simp, hE⟩
  obtain ⟨hl0, hl1, hlj, hrb, hrs⟩ := joinR_t HR.out
  subst hrs
  have HL0 := Lib.hid hl0
  have HL1 := Lib.hid hl1
  have HLJ := Lib.hid hlj
  have HMB := Lib.hid hrb
  have z0 := hl0.1
  have z0' := hl0.2.1
  have z1 := hl1.1
  have z1' := hl1.2.1
  have zr : 0 ≤ rb ∧ rb ≤ 1000 := by rw [hrb]; omega
  clear hl0 hl1 hlj hrb HR
  obtain rfl : nr = n0 + n1 := by have h := HN.out; rw [List.length_append, L0.out, L1.out] at h; exact h.symm
  clear bxt hxt ft0 ft1
  have HSV := Lib.hid (fun (p : Int) (h0 : 0 ≤ p) (h1 : p < 4) => sv_join' HL0.out HL1.out (m := rb) (by rw [HMB.out]; exact HLJ.out) h0 h1)
  have HSA := Lib.hid (sv_join_all' HL0.out HL1.out (m := rb) (by rw [HMB.out]; exact HLJ.out))
  go_wp2_with fail
  go_loopw [9] (fun i wr => ∃ k : Nat, k ≤ 4 ∧ i = .int .i64 (k : Int) ∧ EB wr 25 (w1.heap.size) b0 (.slice D0 n0 c0) ∧ EB wr 25 (w1.heap.size + 1) b1 (.slice D1 n1 c1) ∧ EB wr 25 (w2.heap.size) rb (.slice Dg (n0 + n1) cg) ∧ Recs ef 2 wr wr.heap.size D0 e0 ∧ Recs ef 2 wr wr.heap.size D1 e1 ∧ Recs ef 2 wr wr.heap.size Dg (e0 ++ e1) ∧ Below w.heap.size w wr) (fun i _ => 4 - (intOf i).toNat)
  case atStart => exact ⟨0, by omega, rfl, bxa, bxb, bxo, hxa, hxb, hxo, hE⟩
  case round =>
    clear fa0 fa1 fb0 fb1 fo0 fo1 bxa bxb bxo hxa hxb hxo hE
    obtain ⟨k, hk, rfl, bxa, bxb, bxo, hxa, hxb, hxo, hE⟩ := hrel
    obtain ⟨fa0, fa1, -, -⟩ := bxa.facts
    obtain ⟨fb0, fb1, -, -⟩ := bxb.facts
    obtain ⟨fo0, fo1, -, -⟩ := bxo.facts
    by_cases hlt : k < 4
    · skip
      have hs := HSV.out (k : Int) (by omega) (by omega)
      obtain ⟨u0, u1⟩ := sv_rng b0 e0 (k : Int)
      obtain ⟨v0, v1⟩ := sv_rng b1 e1 (k : Int)
      have hw0 : IntKind.i64.wrap (sv b0 e0 (k : Int) + sv b1 e1 (k : Int)) = sv rb (e0 ++ e1) (k : Int) := by rw [hs]; exact IntWalk.i64_in _ (by omega)
      have k3 : (sv rb (e0 ++ e1) (k : Int) != sv rb (e0 ++ e1) (k : Int)) = false := by simp
      clear hs
      go_wp2_with fail
      go_region_held3 (fun w' => w'.cell? ⟨w2.heap.size, 0, none⟩ = some (.int .i64 rb) ∧ w'.cell? ⟨w2.heap.size, 1, none⟩ = some (.slice Dg (n0 + n1) cg) ∧ w'.cell? ⟨w1.heap.size, 0, none⟩ = some (.int .i64 b0) ∧ w'.cell? ⟨w1.heap.size, 1, none⟩ = some (.slice D0 n0 c0) ∧ w'.cell? ⟨w1.heap.size + 1, 0, none⟩ = some (.int .i64 b1) ∧ w'.cell? ⟨w1.heap.size + 1, 1, none⟩ = some (.slice D1 n1 c1)) (go_keep)
        (first
          | (go_at_call 15
             with_reducible show Calls _ _ #[.agg #[.int .i64 rb, .slice Dg (n0 + n1) cg], .int .i64 (k : Int)] (wr.drew) _
             have hd := below_drew wr
             refine (lspent_any rb Dg (n0 + n1) cg (e0 ++ e1) _ _ (hxo.on hd) HN.out (by omega)).mono ?_
             rintro e q1 ⟨rfl, hb⟩
             have hb := hd.trans (hb.mono hd.size)
             replace hE := hE.trans (hb.mono hE.size)
             replace bxa := bxa.below hb
             replace bxb := bxb.below hb
             replace bxo := bxo.below hb
             replace hxa := hxa.on hb
             replace hxb := hxb.on hb
             replace hxo := hxo.on hb
             obtain ⟨y00, y01, -, -⟩ := bxa.facts
             obtain ⟨y10, y11, -, -⟩ := bxb.facts
             obtain ⟨y20, y21, -, -⟩ := bxo.facts)
          | (go_at_call 15
             with_reducible show Calls _ _ #[.agg #[.int .i64 rb, .slice Dg (n0 + n1) cg], .int .i64 (k : Int)] (wr) _
             refine (lspent_any rb Dg (n0 + n1) cg (e0 ++ e1) _ _ hxo HN.out (by omega)).mono ?_
             rintro e q1 ⟨rfl, hb⟩
             replace hE := hE.trans (hb.mono hE.size)
             replace bxa := bxa.below hb
             replace bxb := bxb.below hb
             replace bxo := bxo.below hb
             replace hxa := hxa.on hb
             replace hxb := hxb.on hb
             replace hxo := hxo.on hb
             obtain ⟨y00, y01, -, -⟩ := bxa.facts
             obtain ⟨y10, y11, -, -⟩ := bxb.facts
             obtain ⟨y20, y21, -, -⟩ := bxo.facts)
          | (go_at_call 15
             with_reducible show Calls _ _ #[.agg #[.int .i64 b0, .slice D0 n0 c0], .int .i64 (k : Int)] (q1.drew) _
             have hd := below_drew q1
             refine (lspent_any b0 D0 n0 c0 e0 _ _ (hxa.on hd) L0.out (by omega)).mono ?_
             rintro e q2 ⟨rfl, hb⟩
             have hb := hd.trans (hb.mono hd.size)
             replace hE := hE.trans (hb.mono hE.size)
             replace bxa := bxa.below hb
             replace bxb := bxb.below hb
             replace bxo := bxo.below hb
             replace hxa := hxa.on hb
             replace hxb := hxb.on hb
             replace hxo := hxo.on hb
             obtain ⟨y00, y01, -, -⟩ := bxa.facts
             obtain ⟨y10, y11, -, -⟩ := bxb.facts
             obtain ⟨y20, y21, -, -⟩ := bxo.facts)
          | (go_at_call 15
             with_reducible show Calls _ _ #[.agg #[.int .i64 b0, .slice D0 n0 c0], .int .i64 (k : Int)] (q1) _
             refine (lspent_any b0 D0 n0 c0 e0 _ _ hxa L0.out (by omega)).mono ?_
             rintro e q2 ⟨rfl, hb⟩
             replace hE := hE.trans (hb.mono hE.size)
             replace bxa := bxa.below hb
             replace bxb := bxb.below hb
             replace bxo := bxo.below hb
             replace hxa := hxa.on hb
             replace hxb := hxb.on hb
             replace hxo := hxo.on hb
             obtain ⟨y00, y01, -, -⟩ := bxa.facts
             obtain ⟨y10, y11, -, -⟩ := bxb.facts
             obtain ⟨y20, y21, -, -⟩ := bxo.facts)
          | (go_at_call 15
             with_reducible show Calls _ _ #[.agg #[.int .i64 b1, .slice D1 n1 c1], .int .i64 (k : Int)] (q2.drew) _
             have hd := below_drew q2
             refine (lspent_any b1 D1 n1 c1 e1 _ _ (hxb.on hd) L1.out (by omega)).mono ?_
             rintro e q3 ⟨rfl, hb⟩
             have hb := hd.trans (hb.mono hd.size)
             replace hE := hE.trans (hb.mono hE.size)
             replace bxa := bxa.below hb
             replace bxb := bxb.below hb
             replace bxo := bxo.below hb
             replace hxa := hxa.on hb
             replace hxb := hxb.on hb
             replace hxo := hxo.on hb
             obtain ⟨y00, y01, -, -⟩ := bxa.facts
             obtain ⟨y10, y11, -, -⟩ := bxb.facts
             obtain ⟨y20, y21, -, -⟩ := bxo.facts)
          | (go_at_call 15
             with_reducible show Calls _ _ #[.agg #[.int .i64 b1, .slice D1 n1 c1], .int .i64 (k : Int)] (q2) _
             refine (lspent_any b1 D1 n1 c1 e1 _ _ hxb L1.out (by omega)).mono ?_
             rintro e q3 ⟨rfl, hb⟩
             replace hE := hE.trans (hb.mono hE.size)
             replace bxa := bxa.below hb
             replace bxb := bxb.below hb
             replace bxo := bxo.below hb
             replace hxa := hxa.on hb
             replace hxb := hxb.on hb
             replace hxo := hxo.on hb
             obtain ⟨y00, y01, -, -⟩ := bxa.facts
             obtain ⟨y10, y11, -, -⟩ := bxb.facts
             obtain ⟨y20, y21, -, -⟩ := bxo.facts))
      all_goals
        go_wp2_with fail
        go_roundw
        case rel => exact ⟨k + 1, by omega, by go_num, bxa, bxb, bxo, hxa, hxb, hxo, hE⟩
        case measure => simp [intOf]; omega
    · skip
      obtain ⟨u0, u1⟩ := sv_rng b0 e0 (-1)
      obtain ⟨v0, v1⟩ := sv_rng b1 e1 (-1)
      obtain ⟨s, hs⟩ : ∃ s, s = sv b0 e0 (-1) + sv b1 e1 (-1) := ⟨_, rfl⟩
      have hw0 : IntKind.i64.wrap (sv b0 e0 (-1) + sv b1 e1 (-1)) = s := by rw [hs]; exact IntWalk.i64_in _ (by omega)
      have k3 : sv rb (e0 ++ e1) (-1) ≤ s := by rw [hs]; exact HSA.out
      clear hs u0 u1 v0 v1
      by_cases hmn : b1 < b0
      · obtain rfl : rb = b1 := by rw [HMB.out]; omega
        have k4 : (rb == rb) = true := by simp
        go_wp2_with fail
        go_region_held3 (fun w' => w'.cell? ⟨w2.heap.size, 0, none⟩ = some (.int .i64 rb) ∧ w'.cell? ⟨w2.heap.size, 1, none⟩ = some (.slice Dg (n0 + n1) cg) ∧ w'.cell? ⟨w1.heap.size, 0, none⟩ = some (.int .i64 b0) ∧ w'.cell? ⟨w1.heap.size, 1, none⟩ = some (.slice D0 n0 c0) ∧ w'.cell? ⟨w1.heap.size + 1, 0, none⟩ = some (.int .i64 rb) ∧ w'.cell? ⟨w1.heap.size + 1, 1, none⟩ = some (.slice D1 n1 c1)) (go_keep)
          (first
            | (go_at_call 15
               with_reducible show Calls _ _ #[.agg #[.int .i64 rb, .slice Dg (n0 + n1) cg], .int .i64 (-1)] (wr.drew) _
               have hd := below_drew wr
               refine (lspent_any rb Dg (n0 + n1) cg (e0 ++ e1) _ _ (hxo.on hd) HN.out (by omega)).mono ?_
               rintro e q1 ⟨rfl, hb⟩
               have hb := hd.trans (hb.mono hd.size)
               replace hE := hE.trans (hb.mono hE.size)
               replace bxa := bxa.below hb
               replace bxb := bxb.below hb
               replace bxo := bxo.below hb
               replace hxa := hxa.on hb
               replace hxb := hxb.on hb
               replace hxo := hxo.on hb
               obtain ⟨y00, y01, -, -⟩ := bxa.facts
               obtain ⟨y10, y11, -, -⟩ := bxb.facts
               obtain ⟨y20, y21, -, -⟩ := bxo.facts)
            | (go_at_call 15
               with_reducible show Calls _ _ #[.agg #[.int .i64 rb, .slice Dg (n0 + n1) cg], .int .i64 (-1)] (wr) _
               refine (lspent_any rb Dg (n0 + n1) cg (e0 ++ e1) _ _ hxo HN.out (by omega)).mono ?_
               rintro e q1 ⟨rfl, hb⟩
               replace hE := hE.trans (hb.mono hE.size)
               replace bxa := bxa.below hb
               replace bxb := bxb.below hb
               replace bxo := bxo.below hb
               replace hxa := hxa.on hb
               replace hxb := hxb.on hb
               replace hxo := hxo.on hb
               obtain ⟨y00, y01, -, -⟩ := bxa.facts
               obtain ⟨y10, y11, -, -⟩ := bxb.facts
               obtain ⟨y20, y21, -, -⟩ := bxo.facts)
            | (go_at_call 15
               with_reducible show Calls _ _ #[.agg #[.int .i64 b0, .slice D0 n0 c0], .int .i64 (-1)] (q1.drew) _
               have hd := below_drew q1
               refine (lspent_any b0 D0 n0 c0 e0 _ _ (hxa.on hd) L0.out (by omega)).mono ?_
               rintro e q2 ⟨rfl, hb⟩
               have hb := hd.trans (hb.mono hd.size)
               replace hE := hE.trans (hb.mono hE.size)
               replace bxa := bxa.below hb
               replace bxb := bxb.below hb
               replace bxo := bxo.below hb
               replace hxa := hxa.on hb
               replace hxb := hxb.on hb
               replace hxo := hxo.on hb
               obtain ⟨y00, y01, -, -⟩ := bxa.facts
               obtain ⟨y10, y11, -, -⟩ := bxb.facts
               obtain ⟨y20, y21, -, -⟩ := bxo.facts)
            | (go_at_call 15
               with_reducible show Calls _ _ #[.agg #[.int .i64 b0, .slice D0 n0 c0], .int .i64 (-1)] (q1) _
               refine (lspent_any b0 D0 n0 c0 e0 _ _ hxa L0.out (by omega)).mono ?_
               rintro e q2 ⟨rfl, hb⟩
               replace hE := hE.trans (hb.mono hE.size)
               replace bxa := bxa.below hb
               replace bxb := bxb.below hb
               replace bxo := bxo.below hb
               replace hxa := hxa.on hb
               replace hxb := hxb.on hb
               replace hxo := hxo.on hb
               obtain ⟨y00, y01, -, -⟩ := bxa.facts
               obtain ⟨y10, y11, -, -⟩ := bxb.facts
               obtain ⟨y20, y21, -, -⟩ := bxo.facts)
            | (go_at_call 15
               with_reducible show Calls _ _ #[.agg #[.int .i64 rb, .slice D1 n1 c1], .int .i64 (-1)] (q2.drew) _
               have hd := below_drew q2
               refine (lspent_any rb D1 n1 c1 e1 _ _ (hxb.on hd) L1.out (by omega)).mono ?_
               rintro e q3 ⟨rfl, hb⟩
               have hb := hd.trans (hb.mono hd.size)
               replace hE := hE.trans (hb.mono hE.size)
               replace bxa := bxa.below hb
               replace bxb := bxb.below hb
               replace bxo := bxo.below hb
               replace hxa := hxa.on hb
               replace hxb := hxb.on hb
               replace hxo := hxo.on hb
               obtain ⟨y00, y01, -, -⟩ := bxa.facts
               obtain ⟨y10, y11, -, -⟩ := bxb.facts
               obtain ⟨y20, y21, -, -⟩ := bxo.facts)
            | (go_at_call 15
               with_reducible show Calls _ _ #[.agg #[.int .i64 rb, .slice D1 n1 c1], .int .i64 (-1)] (q2) _
               refine (lspent_any rb D1 n1 c1 e1 _ _ hxb L1.out (by omega)).mono ?_
               rintro e q3 ⟨rfl, hb⟩
               replace hE := hE.trans (hb.mono hE.size)
               replace bxa := bxa.below hb
               replace bxb := bxb.below hb
               replace bxo := bxo.below hb
               replace hxa := hxa.on hb
               replace hxb := hxb.on hb
               replace hxo := hxo.on hb
               obtain ⟨y00, y01, -, -⟩ := bxa.facts
               obtain ⟨y10, y11, -, -⟩ := bxb.facts
               obtain ⟨y20, y21, -, -⟩ := bxo.facts))
        all_goals
          go_wp2_with fail
          go_ret
          exact ⟨by simp, hE⟩
      · obtain rfl : rb = b0 := by rw [HMB.out]; omega
        have k4 : (rb == rb) = true := by simp
        go_wp2_with fail
        go_region_held3 (fun w' => w'.cell? ⟨w2.heap.size, 0, none⟩ = some (.int .i64 rb) ∧ w'.cell? ⟨w2.heap.size, 1, none⟩ = some (.slice Dg (n0 + n1) cg) ∧ w'.cell? ⟨w1.heap.size, 0, none⟩ = some (.int .i64 rb) ∧ w'.cell? ⟨w1.heap.size, 1, none⟩ = some (.slice D0 n0 c0) ∧ w'.cell? ⟨w1.heap.size + 1, 0, none⟩ = some (.int .i64 b1) ∧ w'.cell? ⟨w1.heap.size + 1, 1, none⟩ = some (.slice D1 n1 c1)) (go_keep)
          (first
            | (go_at_call 15
               with_reducible show Calls _ _ #[.agg #[.int .i64 rb, .slice Dg (n0 + n1) cg], .int .i64 (-1)] (wr.drew) _
               have hd := below_drew wr
               refine (lspent_any rb Dg (n0 + n1) cg (e0 ++ e1) _ _ (hxo.on hd) HN.out (by omega)).mono ?_
               rintro e q1 ⟨rfl, hb⟩
               have hb := hd.trans (hb.mono hd.size)
               replace hE := hE.trans (hb.mono hE.size)
               replace bxa := bxa.below hb
               replace bxb := bxb.below hb
               replace bxo := bxo.below hb
               replace hxa := hxa.on hb
               replace hxb := hxb.on hb
               replace hxo := hxo.on hb
               obtain ⟨y00, y01, -, -⟩ := bxa.facts
               obtain ⟨y10, y11, -, -⟩ := bxb.facts
               obtain ⟨y20, y21, -, -⟩ := bxo.facts)
            | (go_at_call 15
               with_reducible show Calls _ _ #[.agg #[.int .i64 rb, .slice Dg (n0 + n1) cg], .int .i64 (-1)] (wr) _
               refine (lspent_any rb Dg (n0 + n1) cg (e0 ++ e1) _ _ hxo HN.out (by omega)).mono ?_
               rintro e q1 ⟨rfl, hb⟩
               replace hE := hE.trans (hb.mono hE.size)
               replace bxa := bxa.below hb
               replace bxb := bxb.below hb
               replace bxo := bxo.below hb
               replace hxa := hxa.on hb
               replace hxb := hxb.on hb
               replace hxo := hxo.on hb
               obtain ⟨y00, y01, -, -⟩ := bxa.facts
               obtain ⟨y10, y11, -, -⟩ := bxb.facts
               obtain ⟨y20, y21, -, -⟩ := bxo.facts)
            | (go_at_call 15
               with_reducible show Calls _ _ #[.agg #[.int .i64 rb, .slice D0 n0 c0], .int .i64 (-1)] (q1.drew) _
               have hd := below_drew q1
               refine (lspent_any rb D0 n0 c0 e0 _ _ (hxa.on hd) L0.out (by omega)).mono ?_
               rintro e q2 ⟨rfl, hb⟩
               have hb := hd.trans (hb.mono hd.size)
               replace hE := hE.trans (hb.mono hE.size)
               replace bxa := bxa.below hb
               replace bxb := bxb.below hb
               replace bxo := bxo.below hb
               replace hxa := hxa.on hb
               replace hxb := hxb.on hb
               replace hxo := hxo.on hb
               obtain ⟨y00, y01, -, -⟩ := bxa.facts
               obtain ⟨y10, y11, -, -⟩ := bxb.facts
               obtain ⟨y20, y21, -, -⟩ := bxo.facts)
            | (go_at_call 15
               with_reducible show Calls _ _ #[.agg #[.int .i64 rb, .slice D0 n0 c0], .int .i64 (-1)] (q1) _
               refine (lspent_any rb D0 n0 c0 e0 _ _ hxa L0.out (by omega)).mono ?_
               rintro e q2 ⟨rfl, hb⟩
               replace hE := hE.trans (hb.mono hE.size)
               replace bxa := bxa.below hb
               replace bxb := bxb.below hb
               replace bxo := bxo.below hb
               replace hxa := hxa.on hb
               replace hxb := hxb.on hb
               replace hxo := hxo.on hb
               obtain ⟨y00, y01, -, -⟩ := bxa.facts
               obtain ⟨y10, y11, -, -⟩ := bxb.facts
               obtain ⟨y20, y21, -, -⟩ := bxo.facts)
            | (go_at_call 15
               with_reducible show Calls _ _ #[.agg #[.int .i64 b1, .slice D1 n1 c1], .int .i64 (-1)] (q2.drew) _
               have hd := below_drew q2
               refine (lspent_any b1 D1 n1 c1 e1 _ _ (hxb.on hd) L1.out (by omega)).mono ?_
               rintro e q3 ⟨rfl, hb⟩
               have hb := hd.trans (hb.mono hd.size)
               replace hE := hE.trans (hb.mono hE.size)
               replace bxa := bxa.below hb
               replace bxb := bxb.below hb
               replace bxo := bxo.below hb
               replace hxa := hxa.on hb
               replace hxb := hxb.on hb
               replace hxo := hxo.on hb
               obtain ⟨y00, y01, -, -⟩ := bxa.facts
               obtain ⟨y10, y11, -, -⟩ := bxb.facts
               obtain ⟨y20, y21, -, -⟩ := bxo.facts)
            | (go_at_call 15
               with_reducible show Calls _ _ #[.agg #[.int .i64 b1, .slice D1 n1 c1], .int .i64 (-1)] (q2) _
               refine (lspent_any b1 D1 n1 c1 e1 _ _ hxb L1.out (by omega)).mono ?_
               rintro e q3 ⟨rfl, hb⟩
               replace hE := hE.trans (hb.mono hE.size)
               replace bxa := bxa.below hb
               replace bxb := bxb.below hb
               replace bxo := bxo.below hb
               replace hxa := hxa.on hb
               replace hxb := hxb.on hb
               replace hxo := hxo.on hb
               obtain ⟨y00, y01, -, -⟩ := bxa.facts
               obtain ⟨y10, y11, -, -⟩ := bxb.facts
               obtain ⟨y20, y21, -, -⟩ := bxo.facts))
        all_goals
          go_wp2_with fail
          go_ret
          exact ⟨by simp, hE⟩
end Go.Proofs.Ytjelmfdhkdehkaa
