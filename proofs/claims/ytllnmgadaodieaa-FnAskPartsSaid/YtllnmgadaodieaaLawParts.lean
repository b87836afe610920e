/-
  FnAsk, FnAskOrder, FnAskParts, FnAskNothing: the walks of these laws.
-/
import Derived.Test.YtllnmgadaodieaaSame
namespace Go.Proofs.Ytllnmgadaodieaa
open Go.RowKit
attribute [local go_sem ↓] Go.wp_at_zero Go.wp_at_succ
theorem cells_on {w w' : World} {g : Nat} {v0 v1 : Value} (h0 : w.cell? ⟨g, 0, none⟩ = some v0) (h1 : w.cell? ⟨g, 1, none⟩ = some v1) (hb : Below w.heap.size w w') : w'.cell? ⟨g, 0, none⟩ = some v0 ∧ w'.cell? ⟨g, 1, none⟩ = some v1 :=
  ⟨(hb.cell (World.block_lt_of_cell? _ _ h0)).trans h0, (hb.cell (World.block_lt_of_cell? _ _ h1)).trans h1⟩

set_option maxHeartbeats 4000000 in
/-- laws.FnAskParts. -/
theorem fnAskParts_walk (a0 : Option Addr) (len0 cap0 : Nat) (z0 : List Int) (w : World) (w0 : IsRow8 w a0 len0 cap0 z0) :
    Calls Try.prog 13 #[.slice a0 len0 cap0] w fun e w' => e = .returned (.bool true) ∧ Below w.heap.size w w' := by
  by_cases hl : 1048576 < len0
  · go_enter Try.func13, Try.ntmps13
    go_wp2
    go_ret
    exact ⟨rfl, Below.refl _ _⟩
  go_enter Try.func13, Try.ntmps13
  go_wp2_with fail
  refine (drawa_any a0 len0 cap0 z0 _ w0).mono ?_
  rintro e w1 ⟨b, D, n, c, es, part, cost, rfl, pa0, pa1, co0, co1, hv, hb⟩
  have b0 := hv.1
  have b1 := hv.2.1
  have n9 := hv.2.2.1
  have HL := hv.2.2.2.1
  clear w0
  have hB1 := box_refl w1 (.cells #[.int .i64 b, .slice D n c] 25)
  obtain ⟨c10, c11, hx1⟩ := law_facts hv hB1
  go_wp2_with fail
  by_cases hboth : ldB b es = true ∧ ldB b (es ++ [(part, cost)]) = true
  · obtain ⟨hldb, hldb2⟩ := hboth
    have HLD := Lib.hid (ldB_iff.1 hldb)
    have HLD2 := Lib.hid (ldB_iff.1 hldb2)
    have bb0 := HLD.out.1
    have bb1 := HLD.out.2.1
    obtain ⟨-, HPA, cc0, cc1⟩ := ld_of_ask HLD2.out
    have HPA := Lib.hid HPA
    refine (ask_t b D n c es part cost _ hx1 HL.out (by omega) hldb hldb2).mono ?_
    rintro e w2 ⟨D1, n1, c1, rfl, HN1, hown1, hb2⟩
    have HL1 := Lib.hid (show (es ++ [(part, cost)]).length = n1 by have := HN1.out; simp; omega)
    have hn1 : n1 = n + 1 := by have := HN1.out; have := HL.out; omega
    subst hn1
    have hcap1 := own_caps hown1
    obtain ⟨hcc1, hcc2⟩ := hcap1
    have hcc3 := len_max hcc2
    have hB2 := box_next hB1 hb2
    have hf2 := law_facts hv hB2
    have hA : AF w1.heap.size w2.heap.size b D n c es b D1 (n + 1) c1 (es ++ [(part, cost)]) (w2.alloc (.cells #[.int .i64 b, .slice D1 (n + 1) c1] 25)) := by
      have h2 := law_facts hv (box_alloc hB2 (.cells #[.int .i64 b, .slice D1 (n + 1) c1] 25))
      exact ⟨h2.1, h2.2.1, by simp, by simp, h2.2.2, (Recs.of_own ef_len hown1 (by omega)).2.alloc _⟩
    have hE := law_end hb (box_alloc hB2 (.cells #[.int .i64 b, .slice D1 (n + 1) c1] 25))
    have hO1 := own_base (hown1.alloc (.cells #[.int .i64 b, .slice D1 (n + 1) c1] 25)) (Nat.zero_le _)
    have hW := below_box (box_alloc hB2 (.cells #[.int .i64 b, .slice D1 (n + 1) c1] 25))
    clear hb2 hown1 hB1 hx1 c10 c11 hf2 hB2
    obtain ⟨p0, p1, q0, q1, -, -⟩ := id hA
    go_wp2_with fail
    refine (sask_t b D n c es part cost _ hA.hx HL.out (by omega) hldb hldb2).mono ?_
    rintro e w3 ⟨D2, n2, c2, rfl, HN2, hown2, hb3⟩
    have hn2 : n2 = n + 1 := by have := HN2.out; have := HL.out; omega
    subst hn2
    have hA := (hA.on hb3).alloc (.cells #[.int .i64 b, .slice D2 (n + 1) c2] 25)
    have hE := (hE.trans (hb3.mono hE.size)).alloc (Nat.le_trans hE.size hb3.size) (.cells #[.int .i64 b, .slice D2 (n + 1) c2] 25)
    have hO1 := (own_below hO1 hb3).alloc (.cells #[.int .i64 b, .slice D2 (n + 1) c2] 25)
    have hW := (hW.trans (hb3.mono hW.size)).alloc (Nat.le_trans hW.size hb3.size) (.cells #[.int .i64 b, .slice D2 (n + 1) c2] 25)
    have hz := (Recs.of_own ef_len hown2 (by omega)).2.alloc (.cells #[.int .i64 b, .slice D2 (n + 1) c2] 25)
    clear p0 p1 q0 q1
    obtain ⟨p0, p1, q0, q1, -, -⟩ := id hA
    clear hb3 hown2 HN1 HN2
    go_wp2_with fail
    refine (same_t b D1 D2 (n + 1) c1 c2 (es ++ [(part, cost)]) _ hA.hy hz HL1.out (by omega)).mono ?_
    rintro e w4 ⟨rfl, hb4⟩
    have hA := hA.on hb4
    have hE := hE.trans (hb4.mono hE.size)
    have hO1 := own_below hO1 hb4
    have hW := hW.trans (hb4.mono hW.size)
    clear p0 p1 q0 q1
    obtain ⟨p0, p1, q0, q1, -, -⟩ := id hA
    clear hb4 hz
    have hlv := hv.on hW
    have oX : w4.ownsRow 0 34 2 (.slice D n c) n (flat ef es) := own_base hlv.2.2.2.2 (Nat.zero_le _)
    have oO := hO1
    have hcaps := own_caps oX
    have hcaps1 := len_max hcaps.2
    have hcaps0 := hcaps.1
    have hlt2 : w2.heap.size < w4.heap.size := World.block_lt_of_cell? _ _ q0
    have hlt1 : w1.heap.size < w4.heap.size := World.block_lt_of_cell? _ _ p0
    clear hO1 hW hlv hcaps
    by_cases hp0 : 0 ≤ part
    · go_wp2_with fail
      refine (valid_any b D1 (n + 1) c1 (es ++ [(part, cost)]) _ hA.hy HL1.out (by omega)).mono ?_
      rintro e w5 ⟨rfl, hb5⟩
      go_wp2_with fail
      go_ret
      exact ⟨by simp, hE.trans (hb5.mono hE.size)⟩
    obtain rfl : part = -1 := by have := HPA.out; unfold partP at this; omega
    have h40 : es.length + 4 ≤ 40 := by have := HL.out; omega
    have HK := Lib.hid (fun (k : Nat) (hk : k ≤ 4) => ldB_t (askK_ld HLD2.out h40 k hk))
    have HKS := Lib.hid (askK_sv HLD2.out h40)
    clear h40
    go_wp2_with fail
    go_loopw [11] (fun i wr => ∃ (k : Nat) (D' : Option Addr) (c' : Nat), k ≤ 4 ∧ i = .int .i64 (k : Int) ∧ LedB wr w4.heap.size b (.slice D' (n + k) c') ∧ wr.ownsRow 0 34 2 (.slice D' (n + k) c') (n + k) (flat ef (askK es cost k)) ∧ wr.cell? ⟨w2.heap.size, 0, none⟩ = some (.int .i64 b) ∧ wr.cell? ⟨w2.heap.size, 1, none⟩ = some (.slice D1 (n + 1) c1) ∧ wr.ownsRow 0 34 2 (.slice D1 (n + 1) c1) (n + 1) (flat ef (es ++ [(-1, cost)])) ∧ Below w.heap.size w wr) (fun i _ => 4 - (intOf i).toNat)
    case atStart =>
      have hq := cells_on q0 q1 ((Below.refl _ w4).alloc (Nat.le_refl _) (.cells #[.int .i64 b, .slice D n c] 25))
      exact ⟨0, D, c, by omega, rfl, LedB.new _ _ _, oX.alloc _, hq.1, hq.2, oO.alloc _, hE.alloc hE.size _⟩
    case round =>
      have hEs := hE.size
      clear hA hE p0 p1 q0 q1 oX oO
      obtain ⟨k, D', c', hk, rfl, hX, oX, q0, q1, oO, hE⟩ := hrel
      obtain ⟨u0, u1, u2, u3⟩ := hX.facts
      by_cases hlt : k < 4
      · have HLk := Lib.hid (show (askK es cost k).length = n + k by rw [askK_len]; have := HL.out; omega)
        have hk1 := HK.out k (by omega)
        have hk2 := HK.out (k + 1) (by omega)
        go_wp2_with fail
        refine (ask_t b D' (n + k) c' (askK es cost k) (k : Int) cost _ (Recs.of_own ef_len oX (by omega)).2 HLk.out (by omega) hk1 hk2).mono ?_
        rintro e v ⟨D5, n5, c5, rfl, HN5, hown5, hb5⟩
        have hn5 : n5 = n + (k + 1) := by have := HN5.out; have := HLk.out; omega
        subst hn5
        have hX := hX.below hb5
        have o5 := own_base hown5 (Nat.zero_le _)
        have oO := own_below oO hb5
        have hE := hE.trans (hb5.mono hE.size)
        have hEs5 := hE.size
        obtain ⟨q0, q1⟩ := cells_on q0 q1 hb5
        have hvX : w4.heap.size < v.heap.size := Nat.lt_of_lt_of_le (World.block_lt_of_cell? _ _ u0) hb5.size
        have hneX : ¬ w4.heap.size = v.heap.size := by omega
        have hneX2 : ¬ v.heap.size = w4.heap.size := by omega
        clear u0 u1 u2 u3 hb5 hown5 oX hk1 hk2
        obtain ⟨u0, u1, u2, u3⟩ := hX.facts
        have hF := keep_far (u0 := .int .i64 b) (u1 := .slice D5 (n + (k + 1)) c5) q0 q1 (g := w4.heap.size) (by omega)
        have hX2 := (hX.set b (.slice D5 (n + (k + 1)) c5)).alloc (.cells #[.int .i64 b, .slice D5 (n + (k + 1)) c5] 25)
        have o52 := (own_store (i := 1) (u := .slice D5 (n + (k + 1)) c5) (own_store (i := 0) (u := .int .i64 b) o5 hX (by decide)) (hX.set0 b) (by decide)).alloc (.cells #[.int .i64 b, .slice D5 (n + (k + 1)) c5] 25)
        have oO2 := (own_store (i := 1) (u := .slice D5 (n + (k + 1)) c5) (own_store (i := 0) (u := .int .i64 b) oO hX (by decide)) (hX.set0 b) (by decide)).alloc (.cells #[.int .i64 b, .slice D5 (n + (k + 1)) c5] 25)
        have hE2 := (hE.setCell (p := ⟨w4.heap.size, 0, none⟩) hEs (.int .i64 b)).setCell (p := ⟨w4.heap.size, 1, none⟩) hEs (.slice D5 (n + (k + 1)) c5)
        have hE2 := hE2.alloc hE2.size (.cells #[.int .i64 b, .slice D5 (n + (k + 1)) c5] 25)
        have hF := cells_on hF.1 hF.2 ((Below.refl _ _).alloc (Nat.le_refl _) (.cells #[.int .i64 b, .slice D5 (n + (k + 1)) c5] 25))
        clear hX o5 oO hE
        go_wp2_with fail
        go_roundw
        case rel => exact ⟨k + 1, D5, c5, by omega, by go_num, hX2, o52, hF.1, hF.2, oO2, hE2⟩
        case measure => simp [intOf]; omega
      · obtain rfl : k = 4 := by omega
        have HL4 := Lib.hid (show (askK es cost 4).length = n + 4 by rw [askK_len]; have := HL.out; omega)
        have k3 : (sv b (askK es cost 4) (-1) == sv b (es ++ [(-1, cost)]) (-1)) = true := by rw [HKS.out]; simp
        clear u2 u3 hX
        go_wp2_with fail
        go_region_held3 (fun w' => w'.cell? ⟨w4.heap.size, 0, none⟩ = some (.int .i64 b) ∧ w'.cell? ⟨w4.heap.size, 1, none⟩ = some (.slice D' (n + 4) c') ∧ w'.cell? ⟨w2.heap.size, 0, none⟩ = some (.int .i64 b) ∧ w'.cell? ⟨w2.heap.size, 1, none⟩ = some (.slice D1 (n + 1) c1)) (go_keep)
          (first
          | (go_at_call 18
             with_reducible show Calls _ _ #[.agg #[.int .i64 b, .slice D' (n + 4) c'], .int .i64 (-1)] (wr.drew) _
             have hd : Below wr.heap.size wr wr.drew := (Below.refl _ _).drew
             refine (lspent_any b D' (n + 4) c' (askK es cost 4) _ _ (Recs.of_own ef_len (own_below oX hd) (by omega)).2 HL4.out (by omega)).mono ?_
             rintro e v1 ⟨rfl, hbn⟩
             have hs := hd.trans (hbn.mono hd.size)
             have oX := own_below oX hs
             have oO := own_below oO hs
             have hE := hE.trans (hs.mono hE.size)
             obtain ⟨u0, u1⟩ := cells_on u0 u1 hs
             obtain ⟨q0, q1⟩ := cells_on q0 q1 hs
             clear hbn hd hs)
          | (go_at_call 18
             with_reducible show Calls _ _ #[.agg #[.int .i64 b, .slice D' (n + 4) c'], .int .i64 (-1)] (wr) _
             have hd : Below wr.heap.size wr wr := Below.refl _ _
             refine (lspent_any b D' (n + 4) c' (askK es cost 4) _ _ (Recs.of_own ef_len (own_below oX hd) (by omega)).2 HL4.out (by omega)).mono ?_
             rintro e v1 ⟨rfl, hbn⟩
             have hs := hd.trans (hbn.mono hd.size)
             have oX := own_below oX hs
             have oO := own_below oO hs
             have hE := hE.trans (hs.mono hE.size)
             obtain ⟨u0, u1⟩ := cells_on u0 u1 hs
             obtain ⟨q0, q1⟩ := cells_on q0 q1 hs
             clear hbn hd hs)
          | (go_at_call 18
             with_reducible show Calls _ _ #[.agg #[.int .i64 b, .slice D1 (n + 1) c1], .int .i64 (-1)] (v1.drew) _
             have hd : Below v1.heap.size v1 v1.drew := (Below.refl _ _).drew
             refine (lspent_any b D1 (n + 1) c1 (es ++ [(-1, cost)]) _ _ (Recs.of_own ef_len (own_below oO hd) (by omega)).2 HL1.out (by omega)).mono ?_
             rintro e v2 ⟨rfl, hbn⟩
             have hs := hd.trans (hbn.mono hd.size)
             have oX := own_below oX hs
             have oO := own_below oO hs
             have hE := hE.trans (hs.mono hE.size)
             obtain ⟨u0, u1⟩ := cells_on u0 u1 hs
             obtain ⟨q0, q1⟩ := cells_on q0 q1 hs
             clear hbn hd hs)
          | (go_at_call 18
             with_reducible show Calls _ _ #[.agg #[.int .i64 b, .slice D1 (n + 1) c1], .int .i64 (-1)] (v1) _
             have hd : Below v1.heap.size v1 v1 := Below.refl _ _
             refine (lspent_any b D1 (n + 1) c1 (es ++ [(-1, cost)]) _ _ (Recs.of_own ef_len (own_below oO hd) (by omega)).2 HL1.out (by omega)).mono ?_
             rintro e v2 ⟨rfl, hbn⟩
             have hs := hd.trans (hbn.mono hd.size)
             have oX := own_below oX hs
             have oO := own_below oO hs
             have hE := hE.trans (hs.mono hE.size)
             obtain ⟨u0, u1⟩ := cells_on u0 u1 hs
             obtain ⟨q0, q1⟩ := cells_on q0 q1 hs
             clear hbn hd hs))
        all_goals
          go_wp2_with fail
          go_ret
          exact ⟨by simp, hE⟩
  · have hboth : ∀ v, v = ldB b es → (ldB b es = false ∨ ldB b es = true ∧ ldB b (es ++ [(part, cost)]) = false) := fun _ _ => by
      cases h1 : ldB b es
      · exact .inl rfl
      · refine .inr ⟨rfl, ?_⟩
        cases h2 : ldB b (es ++ [(part, cost)])
        · rfl
        · exact absurd ⟨h1, h2⟩ hboth
    have hboth := hboth _ rfl
    refine Calls.mono (R := fun e w' => e = .returned (.tuple #[.agg #[.int .i64 0, .slice none 0 0], .bool false]) ∧ Below (w1.alloc (.cells #[.int .i64 b, .slice D n c] 25)).heap.size (w1.alloc (.cells #[.int .i64 b, .slice D n c] 25)) w') (by
      rcases hboth with h1 | ⟨h1, h2⟩
      · exact ask_n b D n c es part cost _ hx1 HL.out (by omega) h1
      · exact ask_f b D n c es part cost _ hx1 HL.out (by omega) h1 h2) ?_
    rintro e w2 ⟨rfl, hb2⟩
    have hB2 := box_alloc (box_next hB1 hb2) (.cells #[.int .i64 0, .slice none 0 0] 25)
    obtain ⟨c20, c21, hx2⟩ := law_facts hv hB2
    have r0 : (w2.alloc (.cells #[.int .i64 0, .slice none 0 0] 25)).cell? ⟨w2.heap.size, 0, none⟩ = some (.int .i64 0) := by simp
    have r1 : (w2.alloc (.cells #[.int .i64 0, .slice none 0 0] 25)).cell? ⟨w2.heap.size, 1, none⟩ = some (.slice none 0 0) := by simp
    go_wp2_with fail
    refine Calls.mono (R := fun e w' => e = .returned (.tuple #[.agg #[.int .i64 0, .slice none 0 0], .bool false]) ∧ Below (w2.alloc (.cells #[.int .i64 0, .slice none 0 0] 25)).heap.size (w2.alloc (.cells #[.int .i64 0, .slice none 0 0] 25)) w') (by
      rcases hboth with h1 | ⟨h1, h2⟩
      · exact sask_n b D n c es part cost _ hx2 HL.out (by omega) h1
      · exact sask_f b D n c es part cost _ hx2 HL.out (by omega) h1 h2) ?_
    rintro e w3 ⟨rfl, hb3⟩
    have hB3 := box_alloc (box_next hB2 hb3) (.cells #[.int .i64 0, .slice none 0 0] 25)
    have r0 := (hb3.cell (World.block_lt_of_cell? _ _ r0)).trans r0
    have r1 := (hb3.cell (World.block_lt_of_cell? _ _ r1)).trans r1
    have r2 : w2.heap.size < w3.heap.size := by have := hb3.size; simp at this; omega
    clear hb2 hb3 hx1 hx2 c10 c11 c20 c21 hB1 hB2 hboth
    go_wp2_with fail
    refine (same_t 0 none none 0 0 0 [] _ Recs.nil Recs.nil rfl (by omega)).mono ?_
    rintro e w4 ⟨rfl, hb4⟩
    have hB4 := box_next hB3 hb4
    obtain ⟨hc4, -⟩ := bcell hb4
    have r3 : w4.cell? ⟨w2.heap.size, 0, none⟩ = some (.int .i64 0) := by rw [hc4 _ _ (by simp; omega), World.cell?_alloc_lt _ _ _ (by exact r2)]; exact r0
    have r4 : w4.cell? ⟨w2.heap.size, 1, none⟩ = some (.slice none 0 0) := by rw [hc4 _ _ (by simp; omega), World.cell?_alloc_lt _ _ _ (by exact r2)]; exact r1
    have r5 : w4.cell? ⟨w3.heap.size, 0, none⟩ = some (.int .i64 0) := by rw [hc4 _ _ (by simp)]; simp
    have r6 : w4.cell? ⟨w3.heap.size, 1, none⟩ = some (.slice none 0 0) := by rw [hc4 _ _ (by simp)]; simp
    clear hc4 hb4 hB3 r0 r1
    go_wp2_with fail
    refine (same_t 0 none none 0 0 0 [] _ Recs.nil Recs.nil rfl (by omega)).mono ?_
    rintro e w5 ⟨rfl, hb5⟩
    go_wp2_with fail
    go_ret
    exact ⟨by simp, law_end hb (box_next hB4 hb5)⟩
end Go.Proofs.Ytllnmgadaodieaa
