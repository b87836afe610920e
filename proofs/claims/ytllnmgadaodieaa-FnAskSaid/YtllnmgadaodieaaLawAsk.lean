/-
  FnAsk, FnAskOrder, FnAskParts, FnAskNothing: the walks of these laws.
-/
import Derived.Test.YtllnmgadaodieaaSame
namespace Go.Proofs.Ytllnmgadaodieaa
open Go.RowKit
attribute [local go_sem ↓] Go.wp_at_zero Go.wp_at_succ

set_option maxHeartbeats 4000000 in
/-- laws.FnAsk. -/
theorem fnAsk_walk (a0 : Option Addr) (len0 cap0 : Nat) (z0 : List Int) (w : World) (w0 : IsRow8 w a0 len0 cap0 z0) :
    Calls Try.prog 11 #[.slice a0 len0 cap0] w fun e w' => e = .returned (.bool true) ∧ Below w.heap.size w w' := by
  by_cases hl : 1048576 < len0
  · go_enter Try.func11, Try.ntmps11
    go_wp2
    go_ret
    exact ⟨rfl, Below.refl _ _⟩
  go_enter Try.func11, Try.ntmps11
  go_wp2_with fail
  refine (drawa_any a0 len0 cap0 z0 _ w0).mono ?_
  rintro e w1 ⟨b, D, n, c, es, part, cost, rfl, pa0, pa1, co0, co1, hv, hb⟩
  have b0 := hv.1
  have b1 := hv.2.1
  have n9 := hv.2.2.1
  have HL := hv.2.2.2.1
  clear w0
  have hB1 := box_refl w1 (.cells #[.int .i64 b, .slice D n c] 25)
  obtain ⟨c10, c11, hx1⟩ := law_facts hv hB1
  go_wp2_with fail
  by_cases hboth : ldB b es = true ∧ ldB b (es ++ [(part, cost)]) = true
  · obtain ⟨hldb, hldb2⟩ := hboth
    have HLD := Lib.hid (ldB_iff.1 hldb)
    have HLD2 := Lib.hid (ldB_iff.1 hldb2)
    have bb0 := HLD.out.1
    have bb1 := HLD.out.2.1
    obtain ⟨-, HPA, cc0, cc1⟩ := ld_of_ask HLD2.out
    have HPA := Lib.hid HPA
    refine (ask_t b D n c es part cost _ hx1 HL.out (by omega) hldb hldb2).mono ?_
    rintro e w2 ⟨D1, n1, c1, rfl, HN1, hown1, hb2⟩
    have HL1 := Lib.hid (show (es ++ [(part, cost)]).length = n1 by have := HN1.out; simp; omega)
    have hn1 : n1 = n + 1 := by have := HN1.out; have := HL.out; omega
    subst hn1
    have hcap1 := own_caps hown1
    obtain ⟨hcc1, hcc2⟩ := hcap1
    have hcc3 := len_max hcc2
    have hB2 := box_next hB1 hb2
    have hf2 := law_facts hv hB2
    have hA : AF w1.heap.size w2.heap.size b D n c es b D1 (n + 1) c1 (es ++ [(part, cost)]) (w2.alloc (.cells #[.int .i64 b, .slice D1 (n + 1) c1] 25)) := by
      have h2 := law_facts hv (box_alloc hB2 (.cells #[.int .i64 b, .slice D1 (n + 1) c1] 25))
      exact ⟨h2.1, h2.2.1, by simp, by simp, h2.2.2, (Recs.of_own ef_len hown1 (by omega)).2.alloc _⟩
    have hE := law_end hb (box_alloc hB2 (.cells #[.int .i64 b, .slice D1 (n + 1) c1] 25))
    clear hb2 hown1 hB1 hx1 c10 c11 hf2 hB2
    obtain ⟨p0, p1, q0, q1, -, -⟩ := id hA
    go_wp2_with fail
    refine (sask_t b D n c es part cost _ hA.hx HL.out (by omega) hldb hldb2).mono ?_
    rintro e w3 ⟨D2, n2, c2, rfl, HN2, hown2, hb3⟩
    have hn2 : n2 = n + 1 := by have := HN2.out; have := HL.out; omega
    subst hn2
    have hA := (hA.on hb3).alloc (.cells #[.int .i64 b, .slice D2 (n + 1) c2] 25)
    have hE := (hE.trans (hb3.mono hE.size)).alloc (Nat.le_trans hE.size hb3.size) (.cells #[.int .i64 b, .slice D2 (n + 1) c2] 25)
    have hz := (Recs.of_own ef_len hown2 (by omega)).2.alloc (.cells #[.int .i64 b, .slice D2 (n + 1) c2] 25)
    clear p0 p1 q0 q1
    obtain ⟨p0, p1, q0, q1, -, -⟩ := id hA
    clear hb3 hown2 HN1 HN2
    go_wp2_with fail
    refine (same_t b D1 D2 (n + 1) c1 c2 (es ++ [(part, cost)]) _ hA.hy hz HL1.out (by omega)).mono ?_
    rintro e w4 ⟨rfl, hb4⟩
    have hA := hA.on hb4
    have hE := hE.trans (hb4.mono hE.size)
    clear p0 p1 q0 q1
    obtain ⟨p0, p1, q0, q1, -, -⟩ := id hA
    clear hb4 hz
    go_wp2_with fail
    have HSS := Lib.hid (sv_ask_same HLD2.out)
    have HSA := Lib.hid (fun (k : Int) (h0 : 0 ≤ k) (h1 : k < 4) => sv_ask_at (a := k) HLD2.out h0 h1)
    have hw0 : IntKind.i64.wrap (sv b (es ++ [(part, cost)]) part - sv b es part) = cost := by rw [HSS.out]; exact IntWalk.i64_in _ (by omega)
    go_region_held3 (fun w' => w'.cell? ⟨w1.heap.size, 0, none⟩ = some (.int .i64 b) ∧ w'.cell? ⟨w1.heap.size, 1, none⟩ = some (.slice D n c) ∧ w'.cell? ⟨w2.heap.size, 0, none⟩ = some (.int .i64 b) ∧ w'.cell? ⟨w2.heap.size, 1, none⟩ = some (.slice D1 (n + 1) c1)) (go_keep)
      (first
        | (go_at_call 18; (first | ((with_reducible refine (lspent_any b D1 (n + 1) c1 (es ++ [(part, cost)]) _ _ (hA.drew).hy HL1.out (by omega)).mono ?_); rintro e w5 ⟨rfl, hbn⟩; have hA := (hA.drew).on hbn; have hE := (hE.drew).trans (hbn.mono (hE.drew).size)) | ((with_reducible refine (lspent_any b D1 (n + 1) c1 (es ++ [(part, cost)]) _ _ (hA).hy HL1.out (by omega)).mono ?_); rintro e w5 ⟨rfl, hbn⟩; have hA := (hA).on hbn; have hE := (hE).trans (hbn.mono (hE).size))); obtain ⟨y0, y1, y2, y3, -, -⟩ := id hA; clear hbn)
        | (go_at_call 18; (first | ((with_reducible refine (lspent_any b D n c es _ _ (hA.drew).hx HL.out (by omega)).mono ?_); rintro e w5 ⟨rfl, hbn⟩; have hA := (hA.drew).on hbn; have hE := (hE.drew).trans (hbn.mono (hE.drew).size)) | ((with_reducible refine (lspent_any b D n c es _ _ (hA).hx HL.out (by omega)).mono ?_); rintro e w5 ⟨rfl, hbn⟩; have hA := (hA).on hbn; have hE := (hE).trans (hbn.mono (hE).size))); obtain ⟨y0, y1, y2, y3, -, -⟩ := id hA; clear hbn))
    clear hw0
    go_wp2_with fail
    go_loopw [11] (fun i wr => ∃ k : Nat, k ≤ 4 ∧ i = .int .i64 (k : Int) ∧ AF w1.heap.size w2.heap.size b D n c es b D1 (n + 1) c1 (es ++ [(part, cost)]) wr ∧ Below w.heap.size w wr) (fun i _ => 4 - (intOf i).toNat)
    case atStart => exact ⟨0, by omega, rfl, hA, hE⟩
    case round =>
      clear hA hE y0 y1 y2 y3 p0 p1 q0 q1
      obtain ⟨k, hk, rfl, hA, hE⟩ := hrel
      obtain ⟨p0, p1, q0, q1, -, -⟩ := id hA
      by_cases hlt : k < 4
      · obtain ⟨d1, d2⟩ := HSA.out (k : Int) (by omega) (by omega)
        obtain ⟨d, hd⟩ : ∃ d, d = sv b (es ++ [(part, cost)]) (k : Int) - sv b es (k : Int) := ⟨_, rfl⟩
        rw [← hd] at d1 d2
        have hw0 : IntKind.i64.wrap (sv b (es ++ [(part, cost)]) (k : Int) - sv b es (k : Int)) = d := by rw [← hd]; exact IntWalk.i64_in _ (by omega)
        clear hd
        go_wp2_with fail
        go_region_held3 (fun w' => w'.cell? ⟨w1.heap.size, 0, none⟩ = some (.int .i64 b) ∧ w'.cell? ⟨w1.heap.size, 1, none⟩ = some (.slice D n c) ∧ w'.cell? ⟨w2.heap.size, 0, none⟩ = some (.int .i64 b) ∧ w'.cell? ⟨w2.heap.size, 1, none⟩ = some (.slice D1 (n + 1) c1)) (go_keep)
          (first
            | (go_at_call 18; (first | ((with_reducible refine (lspent_any b D1 (n + 1) c1 (es ++ [(part, cost)]) _ _ (hA.drew).hy HL1.out (by omega)).mono ?_); rintro e w6 ⟨rfl, hbn⟩; have hA := (hA.drew).on hbn; have hE := (hE.drew).trans (hbn.mono (hE.drew).size)) | ((with_reducible refine (lspent_any b D1 (n + 1) c1 (es ++ [(part, cost)]) _ _ (hA).hy HL1.out (by omega)).mono ?_); rintro e w6 ⟨rfl, hbn⟩; have hA := (hA).on hbn; have hE := (hE).trans (hbn.mono (hE).size))); obtain ⟨y0, y1, y2, y3, -, -⟩ := id hA; clear hbn)
            | (go_at_call 18; (first | ((with_reducible refine (lspent_any b D n c es _ _ (hA.drew).hx HL.out (by omega)).mono ?_); rintro e w6 ⟨rfl, hbn⟩; have hA := (hA.drew).on hbn; have hE := (hE.drew).trans (hbn.mono (hE.drew).size)) | ((with_reducible refine (lspent_any b D n c es _ _ (hA).hx HL.out (by omega)).mono ?_); rintro e w6 ⟨rfl, hbn⟩; have hA := (hA).on hbn; have hE := (hE).trans (hbn.mono (hE).size))); obtain ⟨y0, y1, y2, y3, -, -⟩ := id hA; clear hbn))
        clear hw0 p0 p1 q0 q1
        by_cases g0 : d = 0
        · subst g0
          clear d1 d2
          by_cases g1 : 0 ≤ part
          · cases g2 : ((k : Int) != part)
            all_goals
              go_wp2_with fail
              go_roundw
              case rel => exact ⟨k + 1, by omega, by go_num, hA, hE⟩
              case measure => simp [intOf]; omega
          · go_wp2_with fail
            go_roundw
            case rel => exact ⟨k + 1, by omega, by go_num, hA, hE⟩
            case measure => simp [intOf]; omega
        · have e1 : (d != 0) = true := by rw [bne_iff_ne]; exact g0
          have e2 : (d != cost) = false := by rw [bne_eq_false_iff_eq]; omega
          by_cases g1 : 0 ≤ part
          · have e3 : ((k : Int) != part) = false := by
              rw [bne_eq_false_iff_eq]
              by_cases g2 : (k : Int) = part
              · exact g2
              · exact absurd (d2 g1 g2) g0
            clear d1 d2 g0
            go_wp2_with fail
            go_roundw
            case rel => exact ⟨k + 1, by omega, by go_num, hA, hE⟩
            case measure => simp [intOf]; omega
          · clear d1 d2 g0
            go_wp2_with fail
            go_roundw
            case rel => exact ⟨k + 1, by omega, by go_num, hA, hE⟩
            case measure => simp [intOf]; omega
      · have HT := Lib.hid (show (es ++ [(part, cost)]).take n = es by rw [← HL.out, List.take_left])
        have n0 : (0 : Int) ≤ (n : Int) := by omega
        have n1 : (n : Int) ≤ (c1 : Int) := by omega
        have n2 : ((n : Int) + 1 == (n : Int) + 1) = true := by simp
        have n3 : (((n + 1 : Nat) : Int) == (n : Int) + 1) = true := by simp
        have hw1 : IntKind.i64.wrap ((n : Int) + 1) = (n : Int) + 1 := IntWalk.i64_in _ (by omega)
        go_wp2_with fail
        go_region_held3 (fun w' => w'.cell? ⟨w1.heap.size, 0, none⟩ = some (.int .i64 b) ∧ w'.cell? ⟨w1.heap.size, 1, none⟩ = some (.slice D n c) ∧ w'.cell? ⟨w2.heap.size, 0, none⟩ = some (.int .i64 b) ∧ w'.cell? ⟨w2.heap.size, 1, none⟩ = some (.slice D1 (n + 1) c1)) (go_keep)
          (first
            | (go_at_call 27; (first | ((with_reducible refine (same_t b D1 D n c1 c es _ (HT.out ▸ (hA.drew).hy.take n) (hA.drew).hx HL.out (by omega)).mono ?_); rintro e w6 ⟨rfl, hbn⟩; have hA := (hA.drew).on hbn; have hE := (hE.drew).trans (hbn.mono (hE.drew).size)) | ((with_reducible refine (same_t b D1 D n c1 c es _ (HT.out ▸ (hA).hy.take n) (hA).hx HL.out (by omega)).mono ?_); rintro e w6 ⟨rfl, hbn⟩; have hA := (hA).on hbn; have hE := (hE).trans (hbn.mono (hE).size))); obtain ⟨y0, y1, y2, y3, -, -⟩ := id hA; clear hbn))
        go_wp2_with fail
        go_ret
        exact ⟨by simp, hE⟩
  · have hboth : ∀ v, v = ldB b es → (ldB b es = false ∨ ldB b es = true ∧ ldB b (es ++ [(part, cost)]) = false) := fun _ _ => by
      cases h1 : ldB b es
      · exact .inl rfl
      · refine .inr ⟨rfl, ?_⟩
        cases h2 : ldB b (es ++ [(part, cost)])
        · rfl
        · exact absurd ⟨h1, h2⟩ hboth
    have hboth := hboth _ rfl
    refine Calls.mono (R := fun e w' => e = .returned (.tuple #[.agg #[.int .i64 0, .slice none 0 0], .bool false]) ∧ Below (w1.alloc (.cells #[.int .i64 b, .slice D n c] 25)).heap.size (w1.alloc (.cells #[.int .i64 b, .slice D n c] 25)) w') (by
      rcases hboth with h1 | ⟨h1, h2⟩
      · exact ask_n b D n c es part cost _ hx1 HL.out (by omega) h1
      · exact ask_f b D n c es part cost _ hx1 HL.out (by omega) h1 h2) ?_
    rintro e w2 ⟨rfl, hb2⟩
    have hB2 := box_alloc (box_next hB1 hb2) (.cells #[.int .i64 0, .slice none 0 0] 25)
    obtain ⟨c20, c21, hx2⟩ := law_facts hv hB2
    have r0 : (w2.alloc (.cells #[.int .i64 0, .slice none 0 0] 25)).cell? ⟨w2.heap.size, 0, none⟩ = some (.int .i64 0) := by simp
    have r1 : (w2.alloc (.cells #[.int .i64 0, .slice none 0 0] 25)).cell? ⟨w2.heap.size, 1, none⟩ = some (.slice none 0 0) := by simp
    go_wp2_with fail
    refine Calls.mono (R := fun e w' => e = .returned (.tuple #[.agg #[.int .i64 0, .slice none 0 0], .bool false]) ∧ Below (w2.alloc (.cells #[.int .i64 0, .slice none 0 0] 25)).heap.size (w2.alloc (.cells #[.int .i64 0, .slice none 0 0] 25)) w') (by
      rcases hboth with h1 | ⟨h1, h2⟩
      · exact sask_n b D n c es part cost _ hx2 HL.out (by omega) h1
      · exact sask_f b D n c es part cost _ hx2 HL.out (by omega) h1 h2) ?_
    rintro e w3 ⟨rfl, hb3⟩
    have hB3 := box_alloc (box_next hB2 hb3) (.cells #[.int .i64 0, .slice none 0 0] 25)
    have r0 := (hb3.cell (World.block_lt_of_cell? _ _ r0)).trans r0
    have r1 := (hb3.cell (World.block_lt_of_cell? _ _ r1)).trans r1
    have r2 : w2.heap.size < w3.heap.size := by have := hb3.size; simp at this; omega
    clear hb2 hb3 hx1 hx2 c10 c11 c20 c21 hB1 hB2 hboth
    go_wp2_with fail
    refine (same_t 0 none none 0 0 0 [] _ Recs.nil Recs.nil rfl (by omega)).mono ?_
    rintro e w4 ⟨rfl, hb4⟩
    have hB4 := box_next hB3 hb4
    obtain ⟨hc4, -⟩ := bcell hb4
    have r3 : w4.cell? ⟨w2.heap.size, 0, none⟩ = some (.int .i64 0) := by rw [hc4 _ _ (by simp; omega), World.cell?_alloc_lt _ _ _ (by exact r2)]; exact r0
    have r4 : w4.cell? ⟨w2.heap.size, 1, none⟩ = some (.slice none 0 0) := by rw [hc4 _ _ (by simp; omega), World.cell?_alloc_lt _ _ _ (by exact r2)]; exact r1
    have r5 : w4.cell? ⟨w3.heap.size, 0, none⟩ = some (.int .i64 0) := by rw [hc4 _ _ (by simp)]; simp
    have r6 : w4.cell? ⟨w3.heap.size, 1, none⟩ = some (.slice none 0 0) := by rw [hc4 _ _ (by simp)]; simp
    clear hc4 hb4 hB3 r0 r1
    go_wp2_with fail
    refine (same_t 0 none none 0 0 0 [] _ Recs.nil Recs.nil rfl (by omega)).mono ?_
    rintro e w5 ⟨rfl, hb5⟩
    go_wp2_with fail
    go_ret
    exact ⟨by simp, law_end hb (box_next hB4 hb5)⟩
end Go.Proofs.Ytllnmgadaodieaa
