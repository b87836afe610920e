/-
  FnAsk, FnAskOrder, FnAskParts, FnAskNothing: the walks of these laws.
-/
import Derived.Test.YtllnmgadaodieaaSame
namespace Go.Proofs.Ytllnmgadaodieaa
open Go.RowKit
attribute [local go_sem ↓] Go.wp_at_zero Go.wp_at_succ

set_option maxHeartbeats 4000000 in
/-- laws.FnAskOrder. -/
theorem fnAskOrder_walk (a0 : Option Addr) (len0 cap0 : Nat) (z0 : List Int) (a1 : Option Addr) (len1 cap1 : Nat) (z1 : List Int) (w : World) (w0 : IsRow8 w a0 len0 cap0 z0) (_w1 : IsRow8 w a1 len1 cap1 z1) :
    Calls Try.prog 12 #[.slice a0 len0 cap0, .slice a1 len1 cap1] w fun e w' => e = .returned (.bool true) ∧ Below w.heap.size w w' := by
  by_cases hl : 1048576 < len0
  · go_enter Try.func12, Try.ntmps12
    go_wp2
    go_ret
    exact ⟨rfl, Below.refl _ _⟩
  by_cases hl1 : 1048576 < len1
  · go_enter Try.func12, Try.ntmps12
    go_wp2
    go_ret
    exact ⟨rfl, Below.refl _ _⟩
  go_enter Try.func12, Try.ntmps12
  go_wp2_with fail
  refine (drawa_any a0 len0 cap0 z0 _ w0).mono ?_
  rintro e w1 ⟨b, D, n, c, es, part, cost, rfl, pa0, pa1, co0, co1, hv, hb⟩
  have b0 := hv.1
  have b1 := hv.2.1
  have n9 := hv.2.2.1
  have HL := hv.2.2.2.1
  clear w0
  have hB1 := box_refl w1 (.cells #[.int .i64 b, .slice D n c] 25)
  obtain ⟨c10, c11, hx1⟩ := law_facts hv hB1
  go_wp2_with fail
  by_cases hboth : ldB b es = true ∧ ldB b (es ++ [(part, cost)]) = true
  · obtain ⟨hldb, hldb2⟩ := hboth
    have HLD := Lib.hid (ldB_iff.1 hldb)
    have HLD2 := Lib.hid (ldB_iff.1 hldb2)
    have bb0 := HLD.out.1
    have bb1 := HLD.out.2.1
    obtain ⟨-, HPA, cc0, cc1⟩ := ld_of_ask HLD2.out
    have HPA := Lib.hid HPA
    refine (ask_t b D n c es part cost _ hx1 HL.out (by omega) hldb hldb2).mono ?_
    rintro e w2 ⟨D1, n1, c1, rfl, HN1, hown1, hb2⟩
    have HL1 := Lib.hid (show (es ++ [(part, cost)]).length = n1 by have := HN1.out; simp; omega)
    have hn1 : n1 = n + 1 := by have := HN1.out; have := HL.out; omega
    subst hn1
    have hcap1 := own_caps hown1
    obtain ⟨hcc1, hcc2⟩ := hcap1
    have hcc3 := len_max hcc2
    have hB2 := box_next hB1 hb2
    have hf2 := law_facts hv hB2
    have hA : AF w1.heap.size w2.heap.size b D n c es b D1 (n + 1) c1 (es ++ [(part, cost)]) (w2.alloc (.cells #[.int .i64 b, .slice D1 (n + 1) c1] 25)) := by
      have h2 := law_facts hv (box_alloc hB2 (.cells #[.int .i64 b, .slice D1 (n + 1) c1] 25))
      exact ⟨h2.1, h2.2.1, by simp, by simp, h2.2.2, (Recs.of_own ef_len hown1 (by omega)).2.alloc _⟩
    have hE := law_end hb (box_alloc hB2 (.cells #[.int .i64 b, .slice D1 (n + 1) c1] 25))
    have hO1 := own_base (hown1.alloc (.cells #[.int .i64 b, .slice D1 (n + 1) c1] 25)) (Nat.zero_le _)
    have hW := below_box (box_alloc hB2 (.cells #[.int .i64 b, .slice D1 (n + 1) c1] 25))
    clear hb2 hown1 hB1 hx1 c10 c11 hf2 hB2
    obtain ⟨p0, p1, q0, q1, -, -⟩ := id hA
    go_wp2_with fail
    refine (sask_t b D n c es part cost _ hA.hx HL.out (by omega) hldb hldb2).mono ?_
    rintro e w3 ⟨D2, n2, c2, rfl, HN2, hown2, hb3⟩
    have hn2 : n2 = n + 1 := by have := HN2.out; have := HL.out; omega
    subst hn2
    have hA := (hA.on hb3).alloc (.cells #[.int .i64 b, .slice D2 (n + 1) c2] 25)
    have hE := (hE.trans (hb3.mono hE.size)).alloc (Nat.le_trans hE.size hb3.size) (.cells #[.int .i64 b, .slice D2 (n + 1) c2] 25)
    have hO1 := (own_below hO1 hb3).alloc (.cells #[.int .i64 b, .slice D2 (n + 1) c2] 25)
    have hW := (hW.trans (hb3.mono hW.size)).alloc (Nat.le_trans hW.size hb3.size) (.cells #[.int .i64 b, .slice D2 (n + 1) c2] 25)
    have hz := (Recs.of_own ef_len hown2 (by omega)).2.alloc (.cells #[.int .i64 b, .slice D2 (n + 1) c2] 25)
    clear p0 p1 q0 q1
    obtain ⟨p0, p1, q0, q1, -, -⟩ := id hA
    clear hb3 hown2 HN1 HN2
    go_wp2_with fail
    refine (same_t b D1 D2 (n + 1) c1 c2 (es ++ [(part, cost)]) _ hA.hy hz HL1.out (by omega)).mono ?_
    rintro e w4 ⟨rfl, hb4⟩
    have hA := hA.on hb4
    have hE := hE.trans (hb4.mono hE.size)
    have hO1 := own_below hO1 hb4
    have hW := hW.trans (hb4.mono hW.size)
    clear p0 p1 q0 q1
    obtain ⟨p0, p1, q0, q1, -, -⟩ := id hA
    clear hb4 hz
    go_wp2_with fail
    have m0 : 0 ≤ (len1 : Int) % 5 := by omega
    have m1 : (len1 : Int) % 5 < 5 := by omega
    clear hO1 hW
    cases hq : ldB b (es ++ [(part, cost)] ++ [((len1 : Int) % 5 - 1, 1)])
    · refine (ask_f b D1 (n + 1) c1 (es ++ [(part, cost)]) ((len1 : Int) % 5 - 1) 1 _ hA.hy HL1.out (by omega) hldb2 hq).mono ?_
      rintro e w5 ⟨rfl, hb5⟩
      have hA := (hA.on hb5).alloc (.cells #[.int .i64 0, .slice none 0 0] 25)
      have hE := (hE.trans (hb5.mono hE.size)).alloc (Nat.le_trans hE.size hb5.size) (.cells #[.int .i64 0, .slice none 0 0] 25)
      clear p0 p1 q0 q1 hb5
      obtain ⟨p0, p1, q0, q1, -, -⟩ := id hA
      go_wp2_with fail
      refine (ask_any b D n c es ((len1 : Int) % 5 - 1) 1 _ hA.hx HL.out (by omega)).mono ?_
      rintro e w6 ⟨b6, D6, n6, c6, es6, ok6, rfl, -, hn6, HL6, hown6, hb6⟩
      have hA := (hA.on hb6).alloc (.cells #[.int .i64 b6, .slice D6 n6 c6] 25)
      have hE := (hE.trans (hb6.mono hE.size)).alloc (Nat.le_trans hE.size hb6.size) (.cells #[.int .i64 b6, .slice D6 n6 c6] 25)
      have hx6 := (Recs.of_own ef_len hown6 (by omega)).2.alloc (.cells #[.int .i64 b6, .slice D6 n6 c6] 25)
      clear p0 p1 q0 q1 hb6 hown6
      obtain ⟨p0, p1, q0, q1, -, -⟩ := id hA
      go_wp2_with fail
      refine (ask_any b6 D6 n6 c6 es6 part cost _ hx6 HL6.out (by omega)).mono ?_
      rintro e w7 ⟨b7, D7, n7, c7, es7, ok7, rfl, -, hn7, HL7, hown7, hb7⟩
      have hA := (hA.on hb7).alloc (.cells #[.int .i64 b7, .slice D7 n7 c7] 25)
      have hE := (hE.trans (hb7.mono hE.size)).alloc (Nat.le_trans hE.size hb7.size) (.cells #[.int .i64 b7, .slice D7 n7 c7] 25)
      clear p0 p1 q0 q1 hb7 hown7 hx6
      obtain ⟨p0, p1, q0, q1, -, -⟩ := id hA
      go_wp2_with fail
      refine (valid_any b D1 (n + 1) c1 (es ++ [(part, cost)]) _ hA.hy HL1.out (by omega)).mono ?_
      rintro e w8 ⟨rfl, hb8⟩
      go_wp2_with fail
      go_ret
      exact ⟨by simp, hE.trans (hb8.mono hE.size)⟩
    · obtain ⟨o1, o2, o3⟩ := ask_order (ldB_iff.1 hq)
      have o1 := ldB_t o1
      have o2 := ldB_t o2
      have HL5' := (show (es ++ [(part, cost)] ++ [((len1 : Int) % 5 - 1, 1)]).length = n + 2 by have := HL.out; simp; omega)
      have HL6 := Lib.hid (show (es ++ [((len1 : Int) % 5 - 1, (1 : Int))]).length = n + 1 by have := HL.out; simp; omega)
      have HL7' := (show (es ++ [((len1 : Int) % 5 - 1, (1 : Int))] ++ [(part, cost)]).length = n + 2 by have := HL.out; simp; omega)
      obtain ⟨E5, HE5⟩ : ∃ E, Hid (es ++ [(part, cost)] ++ [((len1 : Int) % 5 - 1, 1)] = E) := ⟨_, Lib.hid rfl⟩
      obtain ⟨E7, HE7⟩ : ∃ E, Hid (es ++ [((len1 : Int) % 5 - 1, 1)] ++ [(part, cost)] = E) := ⟨_, Lib.hid rfl⟩
      rw [HE5.out] at HL5'
      rw [HE7.out] at HL7'
      have HL5 := Lib.hid HL5'
      have HL7 := Lib.hid HL7'
      simp only [HE5.out, HE7.out] at o3
      have HO := Lib.hid o3
      clear o3 HL5' HL7'
      refine (ask_t b D1 (n + 1) c1 (es ++ [(part, cost)]) ((len1 : Int) % 5 - 1) 1 _ hA.hy HL1.out (by omega) hldb2 hq).mono ?_
      rintro e w5 ⟨D5, n5, c5, rfl, HN5, hown5, hb5⟩
      rw [HE5.out] at hown5
      have hn5 : n5 = n + 2 := by have := HN5.out; have := HL1.out; omega
      subst hn5
      have hA := (hA.on hb5).alloc (.cells #[.int .i64 b, .slice D5 (n + 2) c5] 25)
      have hE := (hE.trans (hb5.mono hE.size)).alloc (Nat.le_trans hE.size hb5.size) (.cells #[.int .i64 b, .slice D5 (n + 2) c5] 25)
      have hC : AF w1.heap.size w5.heap.size b D n c es b D5 (n + 2) c5 E5 (w5.alloc (.cells #[.int .i64 b, .slice D5 (n + 2) c5] 25)) := ⟨hA.p0, hA.p1, by simp, by simp, hA.hx, (Recs.of_own ef_len hown5 (by omega)).2.alloc _⟩
      clear p0 p1 q0 q1 hb5 hown5 HN5 hA
      obtain ⟨p0, p1, q0, q1, -, -⟩ := id hC
      go_wp2_with fail
      refine (ask_t b D n c es ((len1 : Int) % 5 - 1) 1 _ hC.hx HL.out (by omega) hldb o1).mono ?_
      rintro e w6 ⟨D6, n6, c6, rfl, HN6, hown6, hb6⟩
      have hn6 : n6 = n + 1 := by have := HN6.out; have := HL.out; omega
      subst hn6
      have hC := (hC.on hb6).alloc (.cells #[.int .i64 b, .slice D6 (n + 1) c6] 25)
      have hE := (hE.trans (hb6.mono hE.size)).alloc (Nat.le_trans hE.size hb6.size) (.cells #[.int .i64 b, .slice D6 (n + 1) c6] 25)
      have hx6 := (Recs.of_own ef_len hown6 (by omega)).2.alloc (.cells #[.int .i64 b, .slice D6 (n + 1) c6] 25)
      clear p0 p1 q0 q1 hb6 hown6 HN6
      obtain ⟨p0, p1, q0, q1, -, -⟩ := id hC
      go_wp2_with fail
      refine (ask_t b D6 (n + 1) c6 (es ++ [((len1 : Int) % 5 - 1, 1)]) part cost _ hx6 HL6.out (by omega) o1 o2).mono ?_
      rintro e w7 ⟨D7, n7, c7, rfl, HN7, hown7, hb7⟩
      rw [HE7.out] at hown7
      have hn7 : n7 = n + 2 := by have := HN7.out; have := HL6.out; omega
      subst hn7
      have hC := (hC.on hb7).alloc (.cells #[.int .i64 b, .slice D7 (n + 2) c7] 25)
      have hE := (hE.trans (hb7.mono hE.size)).alloc (Nat.le_trans hE.size hb7.size) (.cells #[.int .i64 b, .slice D7 (n + 2) c7] 25)
      have hA : AF w5.heap.size w7.heap.size b D5 (n + 2) c5 E5 b D7 (n + 2) c7 E7 (w7.alloc (.cells #[.int .i64 b, .slice D7 (n + 2) c7] 25)) := ⟨hC.q0, hC.q1, by simp, by simp, hC.hy, (Recs.of_own ef_len hown7 (by omega)).2.alloc _⟩
      clear p0 p1 q0 q1 hb7 hown7 HN7 hC hx6
      obtain ⟨p0, p1, q0, q1, -, -⟩ := id hA
      go_wp2_with fail
      go_loopw [19] (fun i wr => ∃ k : Nat, k ≤ 5 ∧ i = .int .i64 ((k : Int) - 1) ∧ AF w5.heap.size w7.heap.size b D5 (n + 2) c5 E5 b D7 (n + 2) c7 E7 wr ∧ Below w.heap.size w wr) (fun i _ => (4 - intOf i).toNat)
      case atStart => exact ⟨0, by omega, rfl, hA, hE⟩
      case round =>
        clear hA hE p0 p1 q0 q1
        obtain ⟨k, hk, rfl, hA, hE⟩ := hrel
        obtain ⟨p0, p1, q0, q1, -, -⟩ := id hA
        by_cases hlt : k < 5
        · have HO' := HO.out ((k : Int) - 1)
          have he : (sv b E5 ((k : Int) - 1) != sv b E7 ((k : Int) - 1)) = false := by rw [HO']; simp
          clear HO'
          go_wp2_with fail
          go_region_held3 (fun w' => w'.cell? ⟨w5.heap.size, 0, none⟩ = some (.int .i64 b) ∧ w'.cell? ⟨w5.heap.size, 1, none⟩ = some (.slice D5 (n + 2) c5) ∧ w'.cell? ⟨w7.heap.size, 0, none⟩ = some (.int .i64 b) ∧ w'.cell? ⟨w7.heap.size, 1, none⟩ = some (.slice D7 (n + 2) c7)) (go_keep)
            (first
              | (go_at_call 18; (first | ((with_reducible refine (lspent_any b D5 (n + 2) c5 _ _ _ (hA.drew).hx HL5.out (by omega)).mono ?_); rintro e w9 ⟨rfl, hbn⟩; have hA := (hA.drew).on hbn; have hE := (hE.drew).trans (hbn.mono (hE.drew).size)) | ((with_reducible refine (lspent_any b D5 (n + 2) c5 _ _ _ (hA).hx HL5.out (by omega)).mono ?_); rintro e w9 ⟨rfl, hbn⟩; have hA := (hA).on hbn; have hE := (hE).trans (hbn.mono (hE).size))); obtain ⟨y0, y1, y2, y3, -, -⟩ := id hA; clear hbn)
              | (go_at_call 18; (first | ((with_reducible refine (lspent_any b D7 (n + 2) c7 _ _ _ (hA.drew).hy HL7.out (by omega)).mono ?_); rintro e w9 ⟨rfl, hbn⟩; have hA := (hA.drew).on hbn; have hE := (hE.drew).trans (hbn.mono (hE.drew).size)) | ((with_reducible refine (lspent_any b D7 (n + 2) c7 _ _ _ (hA).hy HL7.out (by omega)).mono ?_); rintro e w9 ⟨rfl, hbn⟩; have hA := (hA).on hbn; have hE := (hE).trans (hbn.mono (hE).size))); obtain ⟨y0, y1, y2, y3, -, -⟩ := id hA; clear hbn))
          go_wp2_with fail
          exact ⟨⟨k + 1, by omega, by rw [show ((k + 1 : Nat) : Int) - 1 = (k : Int) by omega], hA, hE⟩, by simp only [intOf]; omega⟩
        · go_wp2_with fail
          go_ret
          exact ⟨by simp, hE⟩
  · have hboth : ∀ v, v = ldB b es → (ldB b es = false ∨ ldB b es = true ∧ ldB b (es ++ [(part, cost)]) = false) := fun _ _ => by
      cases h1 : ldB b es
      · exact .inl rfl
      · refine .inr ⟨rfl, ?_⟩
        cases h2 : ldB b (es ++ [(part, cost)])
        · rfl
        · exact absurd ⟨h1, h2⟩ hboth
    have hboth := hboth _ rfl
    refine Calls.mono (R := fun e w' => e = .returned (.tuple #[.agg #[.int .i64 0, .slice none 0 0], .bool false]) ∧ Below (w1.alloc (.cells #[.int .i64 b, .slice D n c] 25)).heap.size (w1.alloc (.cells #[.int .i64 b, .slice D n c] 25)) w') (by
      rcases hboth with h1 | ⟨h1, h2⟩
      · exact ask_n b D n c es part cost _ hx1 HL.out (by omega) h1
      · exact ask_f b D n c es part cost _ hx1 HL.out (by omega) h1 h2) ?_
    rintro e w2 ⟨rfl, hb2⟩
    have hB2 := box_alloc (box_next hB1 hb2) (.cells #[.int .i64 0, .slice none 0 0] 25)
    obtain ⟨c20, c21, hx2⟩ := law_facts hv hB2
    have r0 : (w2.alloc (.cells #[.int .i64 0, .slice none 0 0] 25)).cell? ⟨w2.heap.size, 0, none⟩ = some (.int .i64 0) := by simp
    have r1 : (w2.alloc (.cells #[.int .i64 0, .slice none 0 0] 25)).cell? ⟨w2.heap.size, 1, none⟩ = some (.slice none 0 0) := by simp
    go_wp2_with fail
    refine Calls.mono (R := fun e w' => e = .returned (.tuple #[.agg #[.int .i64 0, .slice none 0 0], .bool false]) ∧ Below (w2.alloc (.cells #[.int .i64 0, .slice none 0 0] 25)).heap.size (w2.alloc (.cells #[.int .i64 0, .slice none 0 0] 25)) w') (by
      rcases hboth with h1 | ⟨h1, h2⟩
      · exact sask_n b D n c es part cost _ hx2 HL.out (by omega) h1
      · exact sask_f b D n c es part cost _ hx2 HL.out (by omega) h1 h2) ?_
    rintro e w3 ⟨rfl, hb3⟩
    have hB3 := box_alloc (box_next hB2 hb3) (.cells #[.int .i64 0, .slice none 0 0] 25)
    have r0 := (hb3.cell (World.block_lt_of_cell? _ _ r0)).trans r0
    have r1 := (hb3.cell (World.block_lt_of_cell? _ _ r1)).trans r1
    have r2 : w2.heap.size < w3.heap.size := by have := hb3.size; simp at this; omega
    clear hb2 hb3 hx1 hx2 c10 c11 c20 c21 hB1 hB2 hboth
    go_wp2_with fail
    refine (same_t 0 none none 0 0 0 [] _ Recs.nil Recs.nil rfl (by omega)).mono ?_
    rintro e w4 ⟨rfl, hb4⟩
    have hB4 := box_next hB3 hb4
    obtain ⟨hc4, -⟩ := bcell hb4
    have r3 : w4.cell? ⟨w2.heap.size, 0, none⟩ = some (.int .i64 0) := by rw [hc4 _ _ (by simp; omega), World.cell?_alloc_lt _ _ _ (by exact r2)]; exact r0
    have r4 : w4.cell? ⟨w2.heap.size, 1, none⟩ = some (.slice none 0 0) := by rw [hc4 _ _ (by simp; omega), World.cell?_alloc_lt _ _ _ (by exact r2)]; exact r1
    have r5 : w4.cell? ⟨w3.heap.size, 0, none⟩ = some (.int .i64 0) := by rw [hc4 _ _ (by simp)]; simp
    have r6 : w4.cell? ⟨w3.heap.size, 1, none⟩ = some (.slice none 0 0) := by rw [hc4 _ _ (by simp)]; simp
    clear hc4 hb4 hB3 r0 r1
    go_wp2_with fail
    refine (same_t 0 none none 0 0 0 [] _ Recs.nil Recs.nil rfl (by omega)).mono ?_
    rintro e w5 ⟨rfl, hb5⟩
    go_wp2_with fail
    go_ret
    exact ⟨by simp, law_end hb (box_next hB4 hb5)⟩
end Go.Proofs.Ytllnmgadaodieaa
