/-
  FnJoinNone: the walk of this law; plain laws of joined ledgers.
-/
import Derived.Test.YtjelmfdhkdehkaaJDraw
namespace Go.Proofs.Ytjelmfdhkdehkaa
open Go.RowKit
attribute [local go_sem ↓] Go.wp_at_zero Go.wp_at_succ

set_option maxHeartbeats 1000000 in
theorem same_t (b : Int) (D1 D2 : Option Addr) (n c1 c2 : Nat) (es : List (Int × Int)) (w : World) (hx1 : Recs ef 2 w w.heap.size D1 es) (hx2 : Recs ef 2 w w.heap.size D2 es) (hn : es.length = n) (hm : n ≤ 4194304) :
    Calls Try.prog 14 #[.agg #[.int .i64 b, .slice D1 n c1], .agg #[.int .i64 b, .slice D2 n c2]] w fun e w' => e = .returned (.bool true) ∧ Below w.heap.size w w' := by
  have HN := Lib.hid hn
  clear hn
  have hb0 := box2 w (.cells #[.int .i64 b, .slice D1 n c1] 25) (.cells #[.int .i64 b, .slice D2 n c2] 25)
  go_enter Try.func14, Try.ntmps14
  go_wp2_with fail
  go_loopw [5] (fun i wr => ∃ k : Nat, k ≤ n ∧ i = .int .i64 (k : Int) ∧ Below (w.heap.size + 2) ((w.alloc (.cells #[.int .i64 b, .slice D1 n c1] 25)).alloc (.cells #[.int .i64 b, .slice D2 n c2] 25)) wr) (fun i _ => n - (intOf i).toNat)
  case atStart => exact ⟨0, by omega, rfl, Below.refl _ _⟩
  case round =>
    obtain ⟨k, hk, rfl, hB⟩ := hrel
    obtain ⟨hc, hf⟩ := bcell hB
    have y0 : wr.cell? ⟨w.heap.size, 1, none⟩ = some (.slice D1 n c1) := by rw [hc _ _ (by omega)]; simp
    have y1 : wr.cell? ⟨w.heap.size + 1, 1, none⟩ = some (.slice D2 n c2) := by rw [hc _ _ (by omega)]; simp
    have hbw : Below w.heap.size w wr := hb0.trans (hB.mono (by omega))
    clear hc hf
    by_cases hlt : k < n
    · obtain ⟨ob, o, p, q, rfl, hbb, HX, hc1, hc2⟩ := ents_at (hx1.on hbw) (k := k) (by have := HN.out; omega)
      obtain ⟨ob', o', p', q', rfl, hbb', HX', hc3, hc4⟩ := ents_at (hx2.on hbw) (k := k) (by have := HN.out; omega)
      obtain ⟨rfl, rfl⟩ : p = p' ∧ q = q' := by
        have h := HX.out
        rw [HX'.out] at h
        injection h with h
        injection h with h1 h2
        exact ⟨h1.symm, h2.symm⟩
      have i1 : (0 : Int) ≤ (k : Int) := by omega
      have i2 : (k : Int) < (n : Int) := by omega
      go_wp2_with fail
      go_quiet (fail)
      go_wp2_with fail
      go_roundw
      case rel => exact ⟨k + 1, by omega, by go_num, below_drewN hB _⟩
      case measure => simp [intOf]; omega
    · go_wp2_with fail
      go_ret
      exact ⟨rfl, hbw⟩
theorem joinR_t {a b rb : Int} {es fs rs : List (Int × Int)} (h : joinR a es b fs = (rb, rs, true)) : ldP a es ∧ ldP b fs ∧ ldP (min a b) (es ++ fs) ∧ rb = min a b ∧ rs = es ++ fs := by
  unfold joinR at h
  split at h
  · rename_i h1
    rw [Bool.and_eq_true, Bool.and_eq_true, ldB_iff, ldB_iff, ldB_iff] at h1
    obtain ⟨h2, h3⟩ : min a b = rb ∧ es ++ fs = rs := by simpa using h
    exact ⟨h1.1.1, h1.1.2, h1.2, h2.symm, h3.symm⟩
  · simp at h
theorem joinR_ok {a b : Int} {es fs : List (Int × Int)} (h1 : ldP a es) (h2 : ldP b fs) (h3 : ldP (min a b) (es ++ fs)) : joinR a es b fs = (min a b, es ++ fs, true) := by
  unfold joinR; rw [ldB_t h1, ldB_t h2, ldB_t h3]; rfl
theorem ld_nil {b : Int} (h0 : 0 ≤ b) (h1 : b ≤ 1000) : ldP b [] := ⟨h0, h1, by simp, allE_nil, by simp [most, spent]; omega⟩
theorem join_none {a : Int} {es : List (Int × Int)} (h : ldP a es) : joinR a es 1000 [] = (a, es, true) := by
  have hm : min a 1000 = a := by have := h.2.1; omega
  have := joinR_ok h (ld_nil (b := 1000) (by omega) (by omega)) (by rw [hm, List.append_nil]; exact h)
  rwa [hm, List.append_nil] at this
theorem join_comm {a b : Int} {es fs : List (Int × Int)} (h1 : ldP a es) (h2 : ldP b fs) (h3 : ldP (min a b) (es ++ fs)) : joinR b fs a es = (min a b, fs ++ es, true) := by
  have hm : min b a = min a b := by omega
  have h4 : ldP (min b a) (fs ++ es) := by
    rw [hm]
    obtain ⟨q0, q1, q2, q3, q4⟩ := h3
    refine ⟨q0, q1, by rw [List.length_append] at q2 ⊢; omega, allE_append.2 ⟨(allE_append.1 q3).2, (allE_append.1 q3).1⟩, ?_⟩
    rw [most_congr (ys := es ++ fs) (fun a => by rw [spent_append, spent_append]; omega)]; exact q4
  have := joinR_ok h2 h1 h4
  rwa [hm] at this
theorem sv_comm {b : Int} {es fs : List (Int × Int)} (h : ldP b (es ++ fs)) (h' : ldP b (fs ++ es)) (a : Int) : sv b (fs ++ es) a = sv b (es ++ fs) a := by
  by_cases ha : partP a
  · rcases ha with rfl | ⟨h0, h1⟩
    · rw [sv_all h, sv_all h', most_congr (xs := fs ++ es) (ys := es ++ fs) (fun a => by rw [spent_append fs es, spent_append es fs]; omega)]
    · rw [sv_at h h0 h1, sv_at h' h0 h1, spent_append, spent_append]; omega
  · rw [sv_f (fun h => ha h.2), sv_f (fun h => ha h.2)]
theorem sv_join' {a b m : Int} {es fs : List (Int × Int)} (h1 : ldP a es) (h2 : ldP b fs) (h3 : ldP m (es ++ fs)) {p : Int} (h0 : 0 ≤ p) (h4 : p < 4) : sv m (es ++ fs) p = sv a es p + sv b fs p := by
  rw [sv_at h1 h0 h4, sv_at h2 h0 h4, sv_at h3 h0 h4, spent_append]
theorem sv_join_all' {a b m : Int} {es fs : List (Int × Int)} (h1 : ldP a es) (h2 : ldP b fs) (h3 : ldP m (es ++ fs)) : sv m (es ++ fs) (-1) ≤ sv a es (-1) + sv b fs (-1) := by
  rw [sv_all h1, sv_all h2, sv_all h3]
  have e0 := spent_append es fs 0
  have e1 := spent_append es fs 1
  have e2 := spent_append es fs 2
  have e3 := spent_append es fs 3
  unfold most
  omega
set_option maxRecDepth 100000 in
set_option maxHeartbeats 4000000 in
/-- laws.FnJoinNone. -/
theorem fnJoinNone_walk (a0 : Option Addr) (len0 cap0 : Nat) (z0 : List Int) (w : World) (w0 : IsRow8 w a0 len0 cap0 z0) :
    Calls Try.prog 3 #[.slice a0 len0 cap0] w fun e w' => e = .returned (.bool true) ∧ Below w.heap.size w w' := by
  by_cases hl0 : 1048576 < len0
  · go_enter Try.func3, Try.ntmps3
    go_wp2
    go_ret
    exact ⟨rfl, Below.refl _ _⟩
  go_enter Try.func3, Try.ntmps3
  go_wp2_with fail
  refine (drawj_any a0 len0 cap0 z0 _ w0).mono ?_
  rintro e w1 ⟨b0, D0, n0, c0, e0, b1, D1, n1, c1, e1, rfl, hv0, hv1, hb⟩
  clear w0
  have x0 := hv0.1
  have y0 := hv0.2.1
  have m0 := hv0.2.2.1
  have L0 := hv0.2.2.2.1
  have hk0 := own_caps hv0.2.2.2.2
  have hcap0 := len_max hk0.2
  have hcap0' := hk0.1
  clear hk0
  have x1 := hv1.1
  have y1 := hv1.2.1
  have m1 := hv1.2.2.1
  have L1 := hv1.2.2.2.1
  have hk1 := own_caps hv1.2.2.2.2
  have hcap1 := len_max hk1.2
  have hcap1' := hk1.1
  clear hk1
  obtain ⟨W, HW⟩ : ∃ W, Hid ((w1.alloc (.cells #[.int .i64 b0, .slice D0 n0 c0] 25)).alloc (.cells #[.int .i64 b1, .slice D1 n1 c1] 25) = W) := ⟨_, Lib.hid rfl⟩
  have hbW : Below w1.heap.size w1 W := by rw [← HW.out]; exact below_two _ _ _
  have bxa : EB W 25 w1.heap.size b0 (.slice D0 n0 c0) := by rw [← HW.out]; exact (EB.new w1 _ _ _).alloc _
  have bxb : EB W 25 (w1.heap.size + 1) b1 (.slice D1 n1 c1) := by rw [← HW.out]; have := EB.new (w1.alloc (.cells #[.int .i64 b0, .slice D0 n0 c0] 25)) 25 b1 (.slice D1 n1 c1); simpa using this
  have hxa := (Recs.of_own ef_len hv0.2.2.2.2 (by omega)).2.on hbW
  have hxb := (Recs.of_own ef_len hv1.2.2.2.2 (by omega)).2.on hbW
  have hE := hb.trans (hbW.mono hb.size)
  clear hb hv0 hv1 hbW
  obtain ⟨rb, rs, ok, hres⟩ : ∃ rb rs ok, joinR b0 e0 b1 e1 = (rb, rs, ok) := ⟨_, _, _, rfl⟩
  obtain ⟨nr, hnr⟩ : ∃ nr, rs.length = nr := ⟨_, rfl⟩
  have HR := Lib.hid hres
  have HN := Lib.hid hnr
  have h40 : nr ≤ 40 := by have := joinR_len hres; omega
  clear hres hnr
  have okk : (ok != ok) = false := by simp
  go_wp2_with fail
  rw [HW.out]
  refine (join_r b0 D0 n0 c0 e0 b1 D1 n1 c1 e1 _ hxa hxb L0.out (by omega) L1.out (by omega) HR.out HN.out).mono ?_
  rintro e w2 ⟨Dg, cg, rfl, hown, hb⟩
  replace hE := hE.trans (hb.mono hE.size)
  replace bxa := bxa.below hb
  replace bxb := bxb.below hb
  replace hxa := hxa.on hb
  replace hxb := hxb.on hb
  have bxo := EB.new w2 25 rb (.slice Dg nr cg)
  have hxo := (Recs.of_own ef_len hown (by omega)).2.alloc (.cells #[.int .i64 rb, .slice Dg nr cg] 25)
  replace hE := hE.alloc hE.size (.cells #[.int .i64 rb, .slice Dg nr cg] 25)
  replace bxa := bxa.alloc (.cells #[.int .i64 rb, .slice Dg nr cg] 25)
  replace bxb := bxb.alloc (.cells #[.int .i64 rb, .slice Dg nr cg] 25)
  replace hxa := hxa.alloc (.cells #[.int .i64 rb, .slice Dg nr cg] 25)
  replace hxb := hxb.alloc (.cells #[.int .i64 rb, .slice Dg nr cg] 25)
  clear hown
  clear hb
  obtain ⟨fa0, fa1, -, -⟩ := bxa.facts
  obtain ⟨fb0, fb1, -, -⟩ := bxb.facts
  obtain ⟨fo0, fo1, -, -⟩ := bxo.facts
  go_wp2_with fail
  refine (sjoin_r b0 D0 n0 c0 e0 b1 D1 n1 c1 e1 _ hxa hxb L0.out (by omega) L1.out (by omega) HR.out HN.out).mono ?_
  rintro e w3 ⟨Dw, cw, rfl, hown, hb⟩
  replace hE := hE.trans (hb.mono hE.size)
  replace bxa := bxa.below hb
  replace bxb := bxb.below hb
  replace bxo := bxo.below hb
  replace hxa := hxa.on hb
  replace hxb := hxb.on hb
  replace hxo := hxo.on hb
  have bxt := EB.new w3 25 rb (.slice Dw nr cw)
  have hxt := (Recs.of_own ef_len hown (by omega)).2.alloc (.cells #[.int .i64 rb, .slice Dw nr cw] 25)
  replace hE := hE.alloc hE.size (.cells #[.int .i64 rb, .slice Dw nr cw] 25)
  replace bxa := bxa.alloc (.cells #[.int .i64 rb, .slice Dw nr cw] 25)
  replace bxb := bxb.alloc (.cells #[.int .i64 rb, .slice Dw nr cw] 25)
  replace bxo := bxo.alloc (.cells #[.int .i64 rb, .slice Dw nr cw] 25)
  replace hxa := hxa.alloc (.cells #[.int .i64 rb, .slice Dw nr cw] 25)
  replace hxb := hxb.alloc (.cells #[.int .i64 rb, .slice Dw nr cw] 25)
  replace hxo := hxo.alloc (.cells #[.int .i64 rb, .slice Dw nr cw] 25)
  clear hown
  clear hb
  clear fa0 fa1 fb0 fb1 fo0 fo1
  obtain ⟨fa0, fa1, -, -⟩ := bxa.facts
  obtain ⟨fb0, fb1, -, -⟩ := bxb.facts
  obtain ⟨fo0, fo1, -, -⟩ := bxo.facts
  obtain ⟨ft0, ft1, -, -⟩ := bxt.facts
  go_wp2_with fail
  refine (same_t rb Dg Dw nr cg cw rs _ hxo hxt HN.out (by omega)).mono ?_
  rintro e w4 ⟨rfl, hb⟩
  replace hE := hE.trans (hb.mono hE.size)
  replace bxa := bxa.below hb
  replace bxb := bxb.below hb
  replace bxo := bxo.below hb
  replace bxt := bxt.below hb
  replace hxa := hxa.on hb
  replace hxb := hxb.on hb
  replace hxo := hxo.on hb
  replace hxt := hxt.on hb
  clear hb
  clear fa0 fa1 fb0 fb1 fo0 fo1 ft0 ft1
  obtain ⟨fa0, fa1, -, -⟩ := bxa.facts
  obtain ⟨fb0, fb1, -, -⟩ := bxb.facts
  obtain ⟨fo0, fo1, -, -⟩ := bxo.facts
  obtain ⟨ft0, ft1, -, -⟩ := bxt.facts
  cases ok
  · skip
    go_wp2_with fail
    refine (same_t rb Dg Dw nr cg cw rs _ hxo hxt HN.out (by omega)).mono ?_
    rintro e w5 ⟨rfl, hb⟩
    replace hE := hE.trans (hb.mono hE.size)
    replace bxa := bxa.below hb
    replace bxb := bxb.below hb
    replace bxo := bxo.below hb
    replace bxt := bxt.below hb
    replace hxa := hxa.on hb
    replace hxb := hxb.on hb
    replace hxo := hxo.on hb
    replace hxt := hxt.on hb
    clear hb
    clear fa0 fa1 fb0 fb1 fo0 fo1 ft0 ft1
    obtain ⟨fa0, fa1, -, -⟩ := bxa.facts
    obtain ⟨fb0, fb1, -, -⟩ := bxb.facts
    obtain ⟨fo0, fo1, -, -⟩ := bxo.facts
    obtain ⟨ft0, ft1, -, -⟩ := bxt.facts
    go_wp2_with fail
    go_ret
    exact ⟨by simp, hE⟩
  obtain ⟨hl0, hl1, hlj, hrb, hrs⟩ := joinR_t HR.out
  subst hrs
  have HL0 := Lib.hid hl0
  have HL1 := Lib.hid hl1
  have HLJ := Lib.hid hlj
  have HMB := Lib.hid hrb
  have z0 := hl0.1
  have z0' := hl0.2.1
  have z1 := hl1.1
  have z1' := hl1.2.1
  have zr : 0 ≤ rb ∧ rb ≤ 1000 := by rw [hrb]; omega
  clear hl0 hl1 hlj hrb HR
  obtain rfl : nr = n0 + n1 := by have h := HN.out; rw [List.length_append, L0.out, L1.out] at h; exact h.symm
  clear bxt hxt ft0 ft1
  have HJ := Lib.hid (join_none HL0.out)
  have k1 : (((n0 + n1 : Nat) : Int) == (n0 : Int) + (n1 : Int)) = true := by simp
  have k2 : ((n0 : Int) + (n1 : Int) == (n0 : Int) + (n1 : Int)) = true := by simp
  have hb := below_one w4 (.cells #[] 52)
  replace hE := hE.trans (hb.mono hE.size)
  replace bxa := bxa.below hb
  replace bxb := bxb.below hb
  replace bxo := bxo.below hb
  replace hxa := hxa.on hb
  replace hxb := hxb.on hb
  replace hxo := hxo.on hb
  clear hb
  go_wp2_with fail
  refine (join_r b0 D0 n0 c0 e0 1000 _ 0 0 [] _ hxa Recs.nil L0.out (by omega) rfl (by omega) HJ.out L0.out).mono ?_
  rintro e w5 ⟨Dx, cx, rfl, hown, hb⟩
  replace hE := hE.trans (hb.mono hE.size)
  replace bxa := bxa.below hb
  replace bxb := bxb.below hb
  replace bxo := bxo.below hb
  replace hxa := hxa.on hb
  replace hxb := hxb.on hb
  replace hxo := hxo.on hb
  have bxx := EB.new w5 25 b0 (.slice Dx n0 cx)
  have hxx := (Recs.of_own ef_len hown (by omega)).2.alloc (.cells #[.int .i64 b0, .slice Dx n0 cx] 25)
  replace hE := hE.alloc hE.size (.cells #[.int .i64 b0, .slice Dx n0 cx] 25)
  replace bxa := bxa.alloc (.cells #[.int .i64 b0, .slice Dx n0 cx] 25)
  replace bxb := bxb.alloc (.cells #[.int .i64 b0, .slice Dx n0 cx] 25)
  replace bxo := bxo.alloc (.cells #[.int .i64 b0, .slice Dx n0 cx] 25)
  replace hxa := hxa.alloc (.cells #[.int .i64 b0, .slice Dx n0 cx] 25)
  replace hxb := hxb.alloc (.cells #[.int .i64 b0, .slice Dx n0 cx] 25)
  replace hxo := hxo.alloc (.cells #[.int .i64 b0, .slice Dx n0 cx] 25)
  clear hown
  clear hb
  clear fa0 fa1 fb0 fb1 fo0 fo1
  obtain ⟨fa0, fa1, -, -⟩ := bxa.facts
  obtain ⟨fb0, fb1, -, -⟩ := bxb.facts
  obtain ⟨fo0, fo1, -, -⟩ := bxo.facts
  obtain ⟨fx0, fx1, -, -⟩ := bxx.facts
  go_wp2_with fail
  refine (same_t b0 Dx D0 n0 cx c0 e0 _ hxx hxa L0.out (by omega)).mono ?_
  rintro e w6 ⟨rfl, hb⟩
  replace hE := hE.trans (hb.mono hE.size)
  replace bxa := bxa.below hb
  replace bxb := bxb.below hb
  replace bxo := bxo.below hb
  replace bxx := bxx.below hb
  replace hxa := hxa.on hb
  replace hxb := hxb.on hb
  replace hxo := hxo.on hb
  replace hxx := hxx.on hb
  clear hb
  clear fa0 fa1 fb0 fb1 fo0 fo1 fx0 fx1
  obtain ⟨fa0, fa1, -, -⟩ := bxa.facts
  obtain ⟨fb0, fb1, -, -⟩ := bxb.facts
  obtain ⟨fo0, fo1, -, -⟩ := bxo.facts
  obtain ⟨fx0, fx1, -, -⟩ := bxx.facts
  go_wp2_with fail
  go_ret
  exact ⟨by simp, hE⟩
end Go.Proofs.Ytjelmfdhkdehkaa
