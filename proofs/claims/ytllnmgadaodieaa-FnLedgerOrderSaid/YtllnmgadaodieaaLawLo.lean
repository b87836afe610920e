/-
  FnAsk, FnAskOrder, FnAskParts, FnAskNothing: the walks of these laws.
-/
import Derived.Test.YtllnmgadaodieaaSame
namespace Go.Proofs.Ytllnmgadaodieaa
open Go.RowKit
attribute [local go_sem ↓] Go.wp_at_zero Go.wp_at_succ
theorem cells_on {w w' : World} {g : Nat} {v0 v1 : Value} (h0 : w.cell? ⟨g, 0, none⟩ = some v0) (h1 : w.cell? ⟨g, 1, none⟩ = some v1) (hb : Below w.heap.size w w') : w'.cell? ⟨g, 0, none⟩ = some v0 ∧ w'.cell? ⟨g, 1, none⟩ = some v1 :=
  ⟨(hb.cell (World.block_lt_of_cell? _ _ h0)).trans h0, (hb.cell (World.block_lt_of_cell? _ _ h1)).trans h1⟩
theorem rem_nat (m n : Nat) : ((m : Int)).tmod ((n : Int) + 1) = ((m % (n + 1) : Nat) : Int) := by
  rw [Int.tmod_eq_emod_of_nonneg (by omega)]; rfl
/-- What the statement that makes the turned ledger leaves. -/
def CutO (b : Int) (E : List (Int × Int)) (n : Nat) (w3 : World) (s9 : Value) (wx : World) : Prop :=
  ∃ (g : Nat) (D : Option Addr) (c : Nat), s9 = .pointer (some ⟨g, 0, none⟩) ∧ wx.cell? ⟨g, 0, none⟩ = some (.int .i64 b) ∧ wx.cell? ⟨g, 1, none⟩ = some (.slice D n c) ∧ Recs ef 2 wx wx.heap.size D E ∧ Below w3.heap.size w3 wx
theorem cuto_1 {b : Int} {E : List (Int × Int)} {n g c : Nat} {w3 v : World} {D : Option Addr} (h : NewL v g) (ho : v.ownsRow w3.heap.size 34 2 (.slice D n c) n (flat ef E)) (hb : Below w3.heap.size w3 v) (hg : w3.heap.size ≤ g) :
    CutO b E n w3 (.pointer (some ⟨g, 0, none⟩)) ((v.setCell ⟨g, 0, none⟩ (.int .i64 b)).setCell ⟨g, 1, none⟩ (.slice D n c)) := by
  have h1 := heap_setCell_same v g 0 _ _ (.int .i64 b) h
  have h2 := heap_setCell_same (v.setCell ⟨g, 0, none⟩ (.int .i64 b)) g 1 _ _ (.slice D n c) h1
  exact ⟨g, D, c, rfl, by rw [cell_of_row _ g 0 _ _ _ h2]; rfl, by rw [cell_of_row _ g 1 _ _ _ h2]; rfl, (Recs.of_own ef_len (own_store (own_store ho h (by decide)) h1 (by decide)) (by omega)).2, (hb.setCell hg _).setCell hg _⟩
theorem cuto_2 {b : Int} {E : List (Int × Int)} {n c : Nat} {w3 v : World} {D : Option Addr} (ho : v.ownsRow w3.heap.size 34 2 (.slice D n c) n (flat ef E)) (hb : Below w3.heap.size w3 v) :
    CutO b E n w3 (.pointer (some ⟨v.heap.size, 0, none⟩)) (v.alloc (.cells #[.int .i64 b, .slice D n c] 25)) :=
  ⟨v.heap.size, D, c, rfl, by simp, by simp, (Recs.of_own ef_len (ho.alloc _) (by omega)).2, hb.alloc hb.size _⟩

set_option maxHeartbeats 4000000 in
/-- laws.FnLedgerOrder. -/
theorem fnLedgerOrder_walk (a0 : Option Addr) (len0 cap0 : Nat) (z0 : List Int) (a1 : Option Addr) (len1 cap1 : Nat) (z1 : List Int) (w : World) (w0 : IsRow8 w a0 len0 cap0 z0) (_w1 : IsRow8 w a1 len1 cap1 z1) :
    Calls Try.prog 4 #[.slice a0 len0 cap0, .slice a1 len1 cap1] w fun e w' => e = .returned (.bool true) ∧ Below w.heap.size w w' := by
  by_cases hl : 1048576 < len0
  · go_enter Try.func4, Try.ntmps4
    go_wp2
    go_ret
    exact ⟨rfl, Below.refl _ _⟩
  by_cases hl1 : 1048576 < len1
  · go_enter Try.func4, Try.ntmps4
    go_wp2
    go_ret
    exact ⟨rfl, Below.refl _ _⟩
  go_enter Try.func4, Try.ntmps4
  go_wp2_with fail
  refine (drawv_any a0 len0 cap0 z0 _ w0).mono ?_
  rintro e w1 ⟨b, D, n, c, es, rfl, hv, hb⟩
  have b0 := hv.1
  have b1 := hv.2.1
  have n9 := hv.2.2.1
  have HL := hv.2.2.2.1
  clear w0
  have hB1 := box_refl w1 (.cells #[.int .i64 b, .slice D n c] 25)
  obtain ⟨c10, c11, hx1⟩ := law_facts hv hB1
  go_wp2_with fail
  refine (valid_any b D n c es _ hx1 HL.out (by omega)).mono ?_
  rintro e w2 ⟨rfl, hb2⟩
  have hB2 := box_next hB1 hb2
  obtain ⟨c20, c21, hx2⟩ := law_facts hv hB2
  go_wp2_with fail
  refine (svalid_any b D n c es _ hx2 HL.out (by omega)).mono ?_
  rintro e w3 ⟨rfl, hb3⟩
  have hB3 := box_next hB2 hb3
  obtain ⟨c30, c31, hx3⟩ := law_facts hv hB3
  have hE3 := law_end hb hB3
  clear hb2 hb3 hx1 hx2 hB1 hB2 c10 c11 c20 c21
  cases hldb : ldB b es
  · go_wp2_with fail
    go_ret
    exact ⟨by simp, hE3⟩
  have hld := ldB_iff.1 hldb
  have HLD := Lib.hid hld
  have HALL := Lib.hid hld.2.2.2.1
  have bb0 := hld.1
  have bb1 := hld.2.1
  clear hld
  have hcaps := hv.caps
  have hc1 : n ≤ c := hcaps.1
  have hc2 := len_max hcaps.2
  clear hcaps
  have z1 : ¬ ((n : Int) + 1 = 0) := by omega
  have t1 := rem_nat len1 n
  obtain ⟨k0, hk0⟩ : ∃ k0, k0 = len1 % (n + 1) := ⟨_, rfl⟩
  rw [← hk0] at t1
  have hk1 : k0 ≤ n := by have := Nat.mod_lt len1 (show 0 < n + 1 by omega); omega
  have hk2 : (k0 : Int) ≤ (c : Int) := by omega
  have hk3 : (0 : Int) ≤ (k0 : Int) := by omega
  have hk4 : (k0 : Int) ≤ (n : Int) := by omega
  have hk5 : (n : Int) ≤ (c : Int) := by omega
  clear hk0
  obtain ⟨i0, hi0, hz0, hz1, hz2⟩ := info_parts en_info
  have HE := Lib.hid (show (es.drop k0 ++ es.take k0).length = n by rw [List.length_append, List.length_drop, List.length_take]; have := HL.out; omega)
  have HT := Lib.hid (fun a => sv_turn HLD.out k0 a)
  have HV := Lib.hid (ldB_t (ld_turn HLD.out k0))
  have hlt1 : w1.heap.size < w3.heap.size := World.block_lt_of_cell? _ _ c30
  have q1 : n ≤ maxLen := by simp only [maxLen]; omega
  have q2 : n * 16 ≤ 140737488355328 := by omega
  have hz : w3.heap.size ≤ w3.heap.size := Nat.le_refl _
  go_upto_region 9 with fail
  go_cut [9] (fun s9 wx => CutO b (es.drop k0 ++ es.take k0) n w3 s9 wx)
  case first =>
    by_cases hck : c = k0
    · have hkn : n = k0 := by omega
      have hcn : n = c := by omega
      clear hck
      subst hkn
      subst hcn
      have q5 : 0 ≤ maxLen := by simp only [maxLen]; omega
      have q6 : 0 * 16 ≤ 140737488355328 := by omega
      have qa : ∀ u ∈ ([] : List Value), u.oneCell' = true := by intro u hu; cases hu
      have qb := flat_one_cell ef_one es
      have sa : Src w3 2 D 0 [] := ⟨rfl, fun h => absurd h (by omega)⟩
      have sb := hx3.src ef_len HL.out
      have HA := Lib.hid (show [] ++ flat ef es = flat ef (es.drop n ++ es.take n) by rw [List.drop_of_length_le (by have := HL.out; omega), List.take_of_length_le (by have := HL.out; omega)]; rfl)
      go_region_held3 (fun w' => w'.cell? ⟨w1.heap.size, 0, none⟩ = some (.int .i64 b) ∧ w'.cell? ⟨w1.heap.size, 1, none⟩ = some (.slice D n n)) (first | (go_keep; done) | exact keep_far (by assumption) (by assumption) (by omega) | exact keep_below ((((Below.refl _ w3).alloc (Nat.le_refl _) _).alloc (by simp) _).drew) c30 c31 (by omega) | exact keep_below (((Below.refl _ w3).alloc (Nat.le_refl _) _).drew) c30 c31 (by omega) | exact keep_below (hbc.alloc hbc.size _) c30 c31 (by omega) | exact keep_below (hbd.alloc hbd.size _) c30 c31 (by omega))
        (first
        | (with_reducible show @ite _ (Region.wanted ⟨some 49, _, _, _, _, _⟩ _ = true) _ (Oper.wp _ _ _ ((w3.alloc (.cells #[] 34)).drew) _ _) _
           refine step_app (o := ⟨some 49, _, _, _, _, _⟩) ((w3.alloc (.cells #[] 34)).drew) (by rfl) (.tmp 44) (.tmp 48) 23 (by rfl) 34 i0 (.agg #[.int .i64 0, .int .i64 0]) 2 16 Try.underlying23 hi0 hz0 hz1 hz2 rfl (by decide) (((Below.refl w3.heap.size w3).alloc (Nat.le_refl _) _).drew) _ 0 [] (by rfl) ((made_at (w := w3) (g := w3.heap.size) rfl (Nat.le_refl _)).drew) _ 0 _ [] (by rfl) (src_kept sa (((Below.refl w3.heap.size w3).alloc (Nat.le_refl _) _).drew)) qa 0 (Nat.zero_add _) q5 q6 _ rfl ?_
           intro D2 c3 v3 ho18 hg3 hown3 hbc
           have hz3 := hbc.size
           obtain ⟨x0, x1⟩ := cells_on c30 c31 hbc
           clear hg3 ho18)
        | (with_reducible show @ite _ (Region.wanted ⟨some 49, _, _, _, _, _⟩ _ = true) _ (Oper.wp _ _ _ (((w3.alloc (.cells #[] 34)).alloc (.cells #[.int .i64 0, .slice none 0 0] 25)).drew) _ _) _
           refine step_app (o := ⟨some 49, _, _, _, _, _⟩) (((w3.alloc (.cells #[] 34)).alloc (.cells #[.int .i64 0, .slice none 0 0] 25)).drew) (by rfl) (.tmp 44) (.tmp 48) 23 (by rfl) 34 i0 (.agg #[.int .i64 0, .int .i64 0]) 2 16 Try.underlying23 hi0 hz0 hz1 hz2 rfl (by decide) ((((Below.refl w3.heap.size w3).alloc (Nat.le_refl _) _).alloc (by simp) _).drew) _ 0 [] (by rfl) (((made_at (w := w3) (g := w3.heap.size) rfl (Nat.le_refl _)).alloc _).drew) _ 0 _ [] (by rfl) (src_kept sa ((((Below.refl w3.heap.size w3).alloc (Nat.le_refl _) _).alloc (by simp) _).drew)) qa 0 (Nat.zero_add _) q5 q6 _ rfl ?_
           intro D2 c3 v3 ho18 hg3 hown3 hbc
           have h8 : NewL v3 (w3.heap.size + 1) := NewL.app (w := (((w3.alloc (.cells #[] 34)).alloc (.cells #[.int .i64 0, .slice none 0 0] 25)).drew)) (by have h := NewL.new (w3.alloc (.cells #[] 34)); rw [World.size_alloc] at h; exact h) ho18 hg3
           have hz3 := hbc.size
           obtain ⟨x0, x1⟩ := cells_on c30 c31 hbc
           clear hg3 ho18)
        | (with_reducible show @ite _ (Region.wanted ⟨some 49, _, _, _, _, _⟩ _ = true) _ (Oper.wp _ _ _ (((w3.alloc (.cells #[.int .i64 0, .slice none 0 0] 25)).alloc (.cells #[] 34)).drew) _ _) _
           refine step_app (o := ⟨some 49, _, _, _, _, _⟩) (((w3.alloc (.cells #[.int .i64 0, .slice none 0 0] 25)).alloc (.cells #[] 34)).drew) (by rfl) (.tmp 44) (.tmp 48) 23 (by rfl) 34 i0 (.agg #[.int .i64 0, .int .i64 0]) 2 16 Try.underlying23 hi0 hz0 hz1 hz2 rfl (by decide) ((((Below.refl w3.heap.size w3).alloc (Nat.le_refl _) _).alloc (by simp) _).drew) _ 0 [] (by rfl) ((made_at (w := w3.alloc (.cells #[.int .i64 0, .slice none 0 0] 25)) (g := w3.heap.size + 1) (by simp) (by omega)).drew) _ 0 _ [] (by rfl) (src_kept sa ((((Below.refl w3.heap.size w3).alloc (Nat.le_refl _) _).alloc (by simp) _).drew)) qa 0 (Nat.zero_add _) q5 q6 _ rfl ?_
           intro D2 c3 v3 ho18 hg3 hown3 hbc
           have h8 : NewL v3 w3.heap.size := NewL.app (w := (((w3.alloc (.cells #[.int .i64 0, .slice none 0 0] 25)).alloc (.cells #[] 34)).drew)) ((NewL.new w3).alloc _) ho18 hg3
           have hz3 := hbc.size
           obtain ⟨x0, x1⟩ := cells_on c30 c31 hbc
           clear hg3 ho18)
        | (with_reducible show @ite _ (Region.wanted ⟨some 49, _, _, _, _, _⟩ _ = true) _ (Oper.wp _ _ _ (w3.alloc (.cells #[] 34)) _ _) _
           refine step_app (o := ⟨some 49, _, _, _, _, _⟩) (w3.alloc (.cells #[] 34)) (by rfl) (.tmp 44) (.tmp 48) 23 (by rfl) 34 i0 (.agg #[.int .i64 0, .int .i64 0]) 2 16 Try.underlying23 hi0 hz0 hz1 hz2 rfl (by decide) ((Below.refl w3.heap.size w3).alloc (Nat.le_refl _) _) _ 0 [] (by rfl) (made_at (w := w3) (g := w3.heap.size) rfl (Nat.le_refl _)) _ 0 _ [] (by rfl) (src_kept sa ((Below.refl w3.heap.size w3).alloc (Nat.le_refl _) _)) qa 0 (Nat.zero_add _) q5 q6 _ rfl ?_
           intro D2 c3 v3 ho18 hg3 hown3 hbc
           have hz3 := hbc.size
           obtain ⟨x0, x1⟩ := cells_on c30 c31 hbc
           clear hg3 ho18)
        | (with_reducible show @ite _ (Region.wanted ⟨some 49, _, _, _, _, _⟩ _ = true) _ (Oper.wp _ _ _ ((w3.alloc (.cells #[] 34)).alloc (.cells #[.int .i64 0, .slice none 0 0] 25)) _ _) _
           refine step_app (o := ⟨some 49, _, _, _, _, _⟩) ((w3.alloc (.cells #[] 34)).alloc (.cells #[.int .i64 0, .slice none 0 0] 25)) (by rfl) (.tmp 44) (.tmp 48) 23 (by rfl) 34 i0 (.agg #[.int .i64 0, .int .i64 0]) 2 16 Try.underlying23 hi0 hz0 hz1 hz2 rfl (by decide) (((Below.refl w3.heap.size w3).alloc (Nat.le_refl _) _).alloc (by simp) _) _ 0 [] (by rfl) ((made_at (w := w3) (g := w3.heap.size) rfl (Nat.le_refl _)).alloc _) _ 0 _ [] (by rfl) (src_kept sa (((Below.refl w3.heap.size w3).alloc (Nat.le_refl _) _).alloc (by simp) _)) qa 0 (Nat.zero_add _) q5 q6 _ rfl ?_
           intro D2 c3 v3 ho18 hg3 hown3 hbc
           have h8 : NewL v3 (w3.heap.size + 1) := NewL.app (w := ((w3.alloc (.cells #[] 34)).alloc (.cells #[.int .i64 0, .slice none 0 0] 25))) (by have h := NewL.new (w3.alloc (.cells #[] 34)); rw [World.size_alloc] at h; exact h) ho18 hg3
           have hz3 := hbc.size
           obtain ⟨x0, x1⟩ := cells_on c30 c31 hbc
           clear hg3 ho18)
        | (with_reducible show @ite _ (Region.wanted ⟨some 49, _, _, _, _, _⟩ _ = true) _ (Oper.wp _ _ _ ((w3.alloc (.cells #[.int .i64 0, .slice none 0 0] 25)).alloc (.cells #[] 34)) _ _) _
           refine step_app (o := ⟨some 49, _, _, _, _, _⟩) ((w3.alloc (.cells #[.int .i64 0, .slice none 0 0] 25)).alloc (.cells #[] 34)) (by rfl) (.tmp 44) (.tmp 48) 23 (by rfl) 34 i0 (.agg #[.int .i64 0, .int .i64 0]) 2 16 Try.underlying23 hi0 hz0 hz1 hz2 rfl (by decide) (((Below.refl w3.heap.size w3).alloc (Nat.le_refl _) _).alloc (by simp) _) _ 0 [] (by rfl) (made_at (w := w3.alloc (.cells #[.int .i64 0, .slice none 0 0] 25)) (g := w3.heap.size + 1) (by simp) (by omega)) _ 0 _ [] (by rfl) (src_kept sa (((Below.refl w3.heap.size w3).alloc (Nat.le_refl _) _).alloc (by simp) _)) qa 0 (Nat.zero_add _) q5 q6 _ rfl ?_
           intro D2 c3 v3 ho18 hg3 hown3 hbc
           have h8 : NewL v3 w3.heap.size := NewL.app (w := ((w3.alloc (.cells #[.int .i64 0, .slice none 0 0] 25)).alloc (.cells #[] 34))) ((NewL.new w3).alloc _) ho18 hg3
           have hz3 := hbc.size
           obtain ⟨x0, x1⟩ := cells_on c30 c31 hbc
           clear hg3 ho18)
        | (with_reducible show @ite _ (Region.wanted ⟨some 54, _, _, _, _, _⟩ _ = true) _ (Oper.wp _ _ _ ((v3.alloc (.cells #[.int .i64 0, .slice none 0 0] 25)).drew) _ _) _
           refine step_app (o := ⟨some 54, _, _, _, _, _⟩) ((v3.alloc (.cells #[.int .i64 0, .slice none 0 0] 25)).drew) (by rfl) (.tmp 49) (.tmp 53) 23 (by rfl) 34 i0 (.agg #[.int .i64 0, .int .i64 0]) 2 16 Try.underlying23 hi0 hz0 hz1 hz2 rfl (by decide) ((hbc.alloc hbc.size _).drew) _ 0 [] (by rfl) ((hown3.alloc _).drew) _ n _ (flat ef es) (by rfl) (src_kept sb ((hbc.alloc hbc.size _).drew)) qb n (by omega) q1 q2 _ HA.out ?_
           intro D3 c4 v4 ho23 hg4 hown4 hbd
           have h9 : NewL v4 v3.heap.size := NewL.app (w := ((v3.alloc (.cells #[.int .i64 0, .slice none 0 0] 25)).drew)) (NewL.new v3) ho23 hg4
           (first | (obtain ⟨s0, s1, s2, s3⟩ := h9.facts) | skip)
           obtain ⟨x0, x1⟩ := cells_on c30 c31 hbd
           clear hg4 ho23)
        | (with_reducible show @ite _ (Region.wanted ⟨some 54, _, _, _, _, _⟩ _ = true) _ (Oper.wp _ _ _ (v3.drew) _ _) _
           refine step_app (o := ⟨some 54, _, _, _, _, _⟩) (v3.drew) (by rfl) (.tmp 49) (.tmp 53) 23 (by rfl) 34 i0 (.agg #[.int .i64 0, .int .i64 0]) 2 16 Try.underlying23 hi0 hz0 hz1 hz2 rfl (by decide) (hbc.drew) _ 0 [] (by rfl) (hown3.drew) _ n _ (flat ef es) (by rfl) (src_kept sb (hbc.drew)) qb n (by omega) q1 q2 _ HA.out ?_
           intro D3 c4 v4 ho23 hg4 hown4 hbd
           (first | (have h9 := NewL.app (w := (v3.drew)) h8 ho23 hg4) | skip)
           (first | (obtain ⟨s0, s1, s2, s3⟩ := h9.facts) | skip)
           obtain ⟨x0, x1⟩ := cells_on c30 c31 hbd
           clear hg4 ho23)
        | (with_reducible show @ite _ (Region.wanted ⟨some 54, _, _, _, _, _⟩ _ = true) _ (Oper.wp _ _ _ (v3.alloc (.cells #[.int .i64 0, .slice none 0 0] 25)) _ _) _
           refine step_app (o := ⟨some 54, _, _, _, _, _⟩) (v3.alloc (.cells #[.int .i64 0, .slice none 0 0] 25)) (by rfl) (.tmp 49) (.tmp 53) 23 (by rfl) 34 i0 (.agg #[.int .i64 0, .int .i64 0]) 2 16 Try.underlying23 hi0 hz0 hz1 hz2 rfl (by decide) (hbc.alloc hbc.size _) _ 0 [] (by rfl) (hown3.alloc _) _ n _ (flat ef es) (by rfl) (src_kept sb (hbc.alloc hbc.size _)) qb n (by omega) q1 q2 _ HA.out ?_
           intro D3 c4 v4 ho23 hg4 hown4 hbd
           have h9 : NewL v4 v3.heap.size := NewL.app (w := (v3.alloc (.cells #[.int .i64 0, .slice none 0 0] 25))) (NewL.new v3) ho23 hg4
           (first | (obtain ⟨s0, s1, s2, s3⟩ := h9.facts) | skip)
           obtain ⟨x0, x1⟩ := cells_on c30 c31 hbd
           clear hg4 ho23)
        | (with_reducible show @ite _ (Region.wanted ⟨some 54, _, _, _, _, _⟩ _ = true) _ (Oper.wp _ _ _ v3 _ _) _
           refine step_app (o := ⟨some 54, _, _, _, _, _⟩) v3 (by rfl) (.tmp 49) (.tmp 53) 23 (by rfl) 34 i0 (.agg #[.int .i64 0, .int .i64 0]) 2 16 Try.underlying23 hi0 hz0 hz1 hz2 rfl (by decide) hbc _ 0 [] (by rfl) hown3 _ n _ (flat ef es) (by rfl) (src_kept sb hbc) qb n (by omega) q1 q2 _ HA.out ?_
           intro D3 c4 v4 ho23 hg4 hown4 hbd
           (first | (have h9 := NewL.app (w := v3) h8 ho23 hg4) | skip)
           (first | (obtain ⟨s0, s1, s2, s3⟩ := h9.facts) | skip)
           obtain ⟨x0, x1⟩ := cells_on c30 c31 hbd
           clear hg4 ho23))
      all_goals
        go_wp2_with fail
        go_meet
        first
          | exact cuto_1 h9 hown4 hbd (by omega)
          | exact cuto_2 hown4 hbd
    · have q5 : n - k0 ≤ maxLen := by simp only [maxLen]; omega
      have q6 : (n - k0) * 16 ≤ 140737488355328 := by omega
      have qa := flat_one_cell ef_one (es.drop k0)
      have qb := flat_one_cell ef_one (es.take k0)
      have sa := hx3.src_drop ef_len HL.out hk1 hc1
      rw [if_neg hck] at sa
      have sb := (hx3.take k0).src ef_len (show (es.take k0).length = k0 by rw [List.length_take]; have := HL.out; omega)
      have HA := Lib.hid (flat_append ef (es.drop k0) (es.take k0)).symm
      go_region_held3 (fun w' => w'.cell? ⟨w1.heap.size, 0, none⟩ = some (.int .i64 b) ∧ w'.cell? ⟨w1.heap.size, 1, none⟩ = some (.slice D n c)) (first | (go_keep; done) | exact keep_far (by assumption) (by assumption) (by omega) | exact keep_below ((((Below.refl _ w3).alloc (Nat.le_refl _) _).alloc (by simp) _).drew) c30 c31 (by omega) | exact keep_below (((Below.refl _ w3).alloc (Nat.le_refl _) _).drew) c30 c31 (by omega) | exact keep_below (hbc.alloc hbc.size _) c30 c31 (by omega) | exact keep_below (hbd.alloc hbd.size _) c30 c31 (by omega))
        (first
        | (with_reducible show @ite _ (Region.wanted ⟨some 49, _, _, _, _, _⟩ _ = true) _ (Oper.wp _ _ _ ((w3.alloc (.cells #[] 34)).drew) _ _) _
           refine step_app (o := ⟨some 49, _, _, _, _, _⟩) ((w3.alloc (.cells #[] 34)).drew) (by rfl) (.tmp 44) (.tmp 48) 23 (by rfl) 34 i0 (.agg #[.int .i64 0, .int .i64 0]) 2 16 Try.underlying23 hi0 hz0 hz1 hz2 rfl (by decide) (((Below.refl w3.heap.size w3).alloc (Nat.le_refl _) _).drew) _ 0 [] (by rfl) ((made_at (w := w3) (g := w3.heap.size) rfl (Nat.le_refl _)).drew) _ (n - k0) _ (flat ef (es.drop k0)) (by rfl) (src_kept sa (((Below.refl w3.heap.size w3).alloc (Nat.le_refl _) _).drew)) qa (n - k0) (Nat.zero_add _) q5 q6 _ rfl ?_
           intro D2 c3 v3 ho18 hg3 hown3 hbc
           have hz3 := hbc.size
           obtain ⟨x0, x1⟩ := cells_on c30 c31 hbc
           clear hg3 ho18)
        | (with_reducible show @ite _ (Region.wanted ⟨some 49, _, _, _, _, _⟩ _ = true) _ (Oper.wp _ _ _ (((w3.alloc (.cells #[] 34)).alloc (.cells #[.int .i64 0, .slice none 0 0] 25)).drew) _ _) _
           refine step_app (o := ⟨some 49, _, _, _, _, _⟩) (((w3.alloc (.cells #[] 34)).alloc (.cells #[.int .i64 0, .slice none 0 0] 25)).drew) (by rfl) (.tmp 44) (.tmp 48) 23 (by rfl) 34 i0 (.agg #[.int .i64 0, .int .i64 0]) 2 16 Try.underlying23 hi0 hz0 hz1 hz2 rfl (by decide) ((((Below.refl w3.heap.size w3).alloc (Nat.le_refl _) _).alloc (by simp) _).drew) _ 0 [] (by rfl) (((made_at (w := w3) (g := w3.heap.size) rfl (Nat.le_refl _)).alloc _).drew) _ (n - k0) _ (flat ef (es.drop k0)) (by rfl) (src_kept sa ((((Below.refl w3.heap.size w3).alloc (Nat.le_refl _) _).alloc (by simp) _).drew)) qa (n - k0) (Nat.zero_add _) q5 q6 _ rfl ?_
           intro D2 c3 v3 ho18 hg3 hown3 hbc
           have h8 : NewL v3 (w3.heap.size + 1) := NewL.app (w := (((w3.alloc (.cells #[] 34)).alloc (.cells #[.int .i64 0, .slice none 0 0] 25)).drew)) (by have h := NewL.new (w3.alloc (.cells #[] 34)); rw [World.size_alloc] at h; exact h) ho18 hg3
           have hz3 := hbc.size
           obtain ⟨x0, x1⟩ := cells_on c30 c31 hbc
           clear hg3 ho18)
        | (with_reducible show @ite _ (Region.wanted ⟨some 49, _, _, _, _, _⟩ _ = true) _ (Oper.wp _ _ _ (((w3.alloc (.cells #[.int .i64 0, .slice none 0 0] 25)).alloc (.cells #[] 34)).drew) _ _) _
           refine step_app (o := ⟨some 49, _, _, _, _, _⟩) (((w3.alloc (.cells #[.int .i64 0, .slice none 0 0] 25)).alloc (.cells #[] 34)).drew) (by rfl) (.tmp 44) (.tmp 48) 23 (by rfl) 34 i0 (.agg #[.int .i64 0, .int .i64 0]) 2 16 Try.underlying23 hi0 hz0 hz1 hz2 rfl (by decide) ((((Below.refl w3.heap.size w3).alloc (Nat.le_refl _) _).alloc (by simp) _).drew) _ 0 [] (by rfl) ((made_at (w := w3.alloc (.cells #[.int .i64 0, .slice none 0 0] 25)) (g := w3.heap.size + 1) (by simp) (by omega)).drew) _ (n - k0) _ (flat ef (es.drop k0)) (by rfl) (src_kept sa ((((Below.refl w3.heap.size w3).alloc (Nat.le_refl _) _).alloc (by simp) _).drew)) qa (n - k0) (Nat.zero_add _) q5 q6 _ rfl ?_
           intro D2 c3 v3 ho18 hg3 hown3 hbc
           have h8 : NewL v3 w3.heap.size := NewL.app (w := (((w3.alloc (.cells #[.int .i64 0, .slice none 0 0] 25)).alloc (.cells #[] 34)).drew)) ((NewL.new w3).alloc _) ho18 hg3
           have hz3 := hbc.size
           obtain ⟨x0, x1⟩ := cells_on c30 c31 hbc
           clear hg3 ho18)
        | (with_reducible show @ite _ (Region.wanted ⟨some 49, _, _, _, _, _⟩ _ = true) _ (Oper.wp _ _ _ (w3.alloc (.cells #[] 34)) _ _) _
           refine step_app (o := ⟨some 49, _, _, _, _, _⟩) (w3.alloc (.cells #[] 34)) (by rfl) (.tmp 44) (.tmp 48) 23 (by rfl) 34 i0 (.agg #[.int .i64 0, .int .i64 0]) 2 16 Try.underlying23 hi0 hz0 hz1 hz2 rfl (by decide) ((Below.refl w3.heap.size w3).alloc (Nat.le_refl _) _) _ 0 [] (by rfl) (made_at (w := w3) (g := w3.heap.size) rfl (Nat.le_refl _)) _ (n - k0) _ (flat ef (es.drop k0)) (by rfl) (src_kept sa ((Below.refl w3.heap.size w3).alloc (Nat.le_refl _) _)) qa (n - k0) (Nat.zero_add _) q5 q6 _ rfl ?_
           intro D2 c3 v3 ho18 hg3 hown3 hbc
           have hz3 := hbc.size
           obtain ⟨x0, x1⟩ := cells_on c30 c31 hbc
           clear hg3 ho18)
        | (with_reducible show @ite _ (Region.wanted ⟨some 49, _, _, _, _, _⟩ _ = true) _ (Oper.wp _ _ _ ((w3.alloc (.cells #[] 34)).alloc (.cells #[.int .i64 0, .slice none 0 0] 25)) _ _) _
           refine step_app (o := ⟨some 49, _, _, _, _, _⟩) ((w3.alloc (.cells #[] 34)).alloc (.cells #[.int .i64 0, .slice none 0 0] 25)) (by rfl) (.tmp 44) (.tmp 48) 23 (by rfl) 34 i0 (.agg #[.int .i64 0, .int .i64 0]) 2 16 Try.underlying23 hi0 hz0 hz1 hz2 rfl (by decide) (((Below.refl w3.heap.size w3).alloc (Nat.le_refl _) _).alloc (by simp) _) _ 0 [] (by rfl) ((made_at (w := w3) (g := w3.heap.size) rfl (Nat.le_refl _)).alloc _) _ (n - k0) _ (flat ef (es.drop k0)) (by rfl) (src_kept sa (((Below.refl w3.heap.size w3).alloc (Nat.le_refl _) _).alloc (by simp) _)) qa (n - k0) (Nat.zero_add _) q5 q6 _ rfl ?_
           intro D2 c3 v3 ho18 hg3 hown3 hbc
           have h8 : NewL v3 (w3.heap.size + 1) := NewL.app (w := ((w3.alloc (.cells #[] 34)).alloc (.cells #[.int .i64 0, .slice none 0 0] 25))) (by have h := NewL.new (w3.alloc (.cells #[] 34)); rw [World.size_alloc] at h; exact h) ho18 hg3
           have hz3 := hbc.size
           obtain ⟨x0, x1⟩ := cells_on c30 c31 hbc
           clear hg3 ho18)
        | (with_reducible show @ite _ (Region.wanted ⟨some 49, _, _, _, _, _⟩ _ = true) _ (Oper.wp _ _ _ ((w3.alloc (.cells #[.int .i64 0, .slice none 0 0] 25)).alloc (.cells #[] 34)) _ _) _
           refine step_app (o := ⟨some 49, _, _, _, _, _⟩) ((w3.alloc (.cells #[.int .i64 0, .slice none 0 0] 25)).alloc (.cells #[] 34)) (by rfl) (.tmp 44) (.tmp 48) 23 (by rfl) 34 i0 (.agg #[.int .i64 0, .int .i64 0]) 2 16 Try.underlying23 hi0 hz0 hz1 hz2 rfl (by decide) (((Below.refl w3.heap.size w3).alloc (Nat.le_refl _) _).alloc (by simp) _) _ 0 [] (by rfl) (made_at (w := w3.alloc (.cells #[.int .i64 0, .slice none 0 0] 25)) (g := w3.heap.size + 1) (by simp) (by omega)) _ (n - k0) _ (flat ef (es.drop k0)) (by rfl) (src_kept sa (((Below.refl w3.heap.size w3).alloc (Nat.le_refl _) _).alloc (by simp) _)) qa (n - k0) (Nat.zero_add _) q5 q6 _ rfl ?_
           intro D2 c3 v3 ho18 hg3 hown3 hbc
           have h8 : NewL v3 w3.heap.size := NewL.app (w := ((w3.alloc (.cells #[.int .i64 0, .slice none 0 0] 25)).alloc (.cells #[] 34))) ((NewL.new w3).alloc _) ho18 hg3
           have hz3 := hbc.size
           obtain ⟨x0, x1⟩ := cells_on c30 c31 hbc
           clear hg3 ho18)
        | (with_reducible show @ite _ (Region.wanted ⟨some 54, _, _, _, _, _⟩ _ = true) _ (Oper.wp _ _ _ ((v3.alloc (.cells #[.int .i64 0, .slice none 0 0] 25)).drew) _ _) _
           refine step_app (o := ⟨some 54, _, _, _, _, _⟩) ((v3.alloc (.cells #[.int .i64 0, .slice none 0 0] 25)).drew) (by rfl) (.tmp 49) (.tmp 53) 23 (by rfl) 34 i0 (.agg #[.int .i64 0, .int .i64 0]) 2 16 Try.underlying23 hi0 hz0 hz1 hz2 rfl (by decide) ((hbc.alloc hbc.size _).drew) _ (n - k0) (flat ef (es.drop k0)) (by rfl) ((hown3.alloc _).drew) _ k0 _ (flat ef (es.take k0)) (by rfl) (src_kept sb ((hbc.alloc hbc.size _).drew)) qb n (by omega) q1 q2 _ HA.out ?_
           intro D3 c4 v4 ho23 hg4 hown4 hbd
           have h9 : NewL v4 v3.heap.size := NewL.app (w := ((v3.alloc (.cells #[.int .i64 0, .slice none 0 0] 25)).drew)) (NewL.new v3) ho23 hg4
           (first | (obtain ⟨s0, s1, s2, s3⟩ := h9.facts) | skip)
           obtain ⟨x0, x1⟩ := cells_on c30 c31 hbd
           clear hg4 ho23)
        | (with_reducible show @ite _ (Region.wanted ⟨some 54, _, _, _, _, _⟩ _ = true) _ (Oper.wp _ _ _ (v3.drew) _ _) _
           refine step_app (o := ⟨some 54, _, _, _, _, _⟩) (v3.drew) (by rfl) (.tmp 49) (.tmp 53) 23 (by rfl) 34 i0 (.agg #[.int .i64 0, .int .i64 0]) 2 16 Try.underlying23 hi0 hz0 hz1 hz2 rfl (by decide) (hbc.drew) _ (n - k0) (flat ef (es.drop k0)) (by rfl) (hown3.drew) _ k0 _ (flat ef (es.take k0)) (by rfl) (src_kept sb (hbc.drew)) qb n (by omega) q1 q2 _ HA.out ?_
           intro D3 c4 v4 ho23 hg4 hown4 hbd
           (first | (have h9 := NewL.app (w := (v3.drew)) h8 ho23 hg4) | skip)
           (first | (obtain ⟨s0, s1, s2, s3⟩ := h9.facts) | skip)
           obtain ⟨x0, x1⟩ := cells_on c30 c31 hbd
           clear hg4 ho23)
        | (with_reducible show @ite _ (Region.wanted ⟨some 54, _, _, _, _, _⟩ _ = true) _ (Oper.wp _ _ _ (v3.alloc (.cells #[.int .i64 0, .slice none 0 0] 25)) _ _) _
           refine step_app (o := ⟨some 54, _, _, _, _, _⟩) (v3.alloc (.cells #[.int .i64 0, .slice none 0 0] 25)) (by rfl) (.tmp 49) (.tmp 53) 23 (by rfl) 34 i0 (.agg #[.int .i64 0, .int .i64 0]) 2 16 Try.underlying23 hi0 hz0 hz1 hz2 rfl (by decide) (hbc.alloc hbc.size _) _ (n - k0) (flat ef (es.drop k0)) (by rfl) (hown3.alloc _) _ k0 _ (flat ef (es.take k0)) (by rfl) (src_kept sb (hbc.alloc hbc.size _)) qb n (by omega) q1 q2 _ HA.out ?_
           intro D3 c4 v4 ho23 hg4 hown4 hbd
           have h9 : NewL v4 v3.heap.size := NewL.app (w := (v3.alloc (.cells #[.int .i64 0, .slice none 0 0] 25))) (NewL.new v3) ho23 hg4
           (first | (obtain ⟨s0, s1, s2, s3⟩ := h9.facts) | skip)
           obtain ⟨x0, x1⟩ := cells_on c30 c31 hbd
           clear hg4 ho23)
        | (with_reducible show @ite _ (Region.wanted ⟨some 54, _, _, _, _, _⟩ _ = true) _ (Oper.wp _ _ _ v3 _ _) _
           refine step_app (o := ⟨some 54, _, _, _, _, _⟩) v3 (by rfl) (.tmp 49) (.tmp 53) 23 (by rfl) 34 i0 (.agg #[.int .i64 0, .int .i64 0]) 2 16 Try.underlying23 hi0 hz0 hz1 hz2 rfl (by decide) hbc _ (n - k0) (flat ef (es.drop k0)) (by rfl) hown3 _ k0 _ (flat ef (es.take k0)) (by rfl) (src_kept sb hbc) qb n (by omega) q1 q2 _ HA.out ?_
           intro D3 c4 v4 ho23 hg4 hown4 hbd
           (first | (have h9 := NewL.app (w := v3) h8 ho23 hg4) | skip)
           (first | (obtain ⟨s0, s1, s2, s3⟩ := h9.facts) | skip)
           obtain ⟨x0, x1⟩ := cells_on c30 c31 hbd
           clear hg4 ho23))
      all_goals
        go_wp2_with fail
        go_meet
        first
          | exact cuto_1 h9 hown4 hbd (by omega)
          | exact cuto_2 hown4 hbd
  case rest =>
    obtain ⟨g, Dx, cx, rfl, g0, g1, hrx, hbx⟩ := hcut
    obtain ⟨E, hE'⟩ : ∃ E, E = es.drop k0 ++ es.take k0 := ⟨_, rfl⟩
    rw [← hE'] at HE HT HV hrx
    clear hE'
    obtain ⟨x0, x1⟩ := cells_on c30 c31 hbx
    have hA := (⟨x0, x1, g0, g1, hx3.on hbx, hrx⟩ : AF w1.heap.size g b D n c es b Dx n cx E _)
    have hE := hE3.trans (hbx.mono hE3.size)
    clear x0 x1 g0 g1 hrx hbx hx3 hE3 c30 c31
    obtain ⟨p0, p1, q0, q1', -, -⟩ := id hA
    go_wp2_with fail
    go_loopw [10] (fun i wr => ∃ k : Nat, k ≤ 5 ∧ i = .int .i64 ((k : Int) - 1) ∧ AF w1.heap.size g b D n c es b Dx n cx E wr ∧ Below w.heap.size w wr) (fun i _ => (4 - intOf i).toNat)
    case atStart => exact ⟨0, by omega, rfl, hA, hE⟩
    case round =>
      clear hA hE p0 p1 q0 q1'
      obtain ⟨k, hk, rfl, hA, hE⟩ := hrel
      obtain ⟨p0, p1, q0, q1', -, -⟩ := id hA
      by_cases hlt : k < 5
      · have he : (sv b E ((k : Int) - 1) != sv b es ((k : Int) - 1)) = false := by rw [HT.out]; simp
        go_wp2_with fail
        go_region_held3 (fun w' => w'.cell? ⟨w1.heap.size, 0, none⟩ = some (.int .i64 b) ∧ w'.cell? ⟨w1.heap.size, 1, none⟩ = some (.slice D n c) ∧ w'.cell? ⟨g, 0, none⟩ = some (.int .i64 b) ∧ w'.cell? ⟨g, 1, none⟩ = some (.slice Dx n cx)) (go_keep)
          (first
            | (go_at_call 18; (first | ((with_reducible refine (lspent_any b Dx n cx E _ _ (hA.drew).hy HE.out (by omega)).mono ?_); rintro e w9 ⟨rfl, hbn⟩; have hA := (hA.drew).on hbn; have hE := (hE.drew).trans (hbn.mono (hE.drew).size)) | ((with_reducible refine (lspent_any b Dx n cx E _ _ (hA).hy HE.out (by omega)).mono ?_); rintro e w9 ⟨rfl, hbn⟩; have hA := (hA).on hbn; have hE := (hE).trans (hbn.mono (hE).size))); obtain ⟨y0, y1, y2, y3, -, -⟩ := id hA; clear hbn)
            | (go_at_call 18; (first | ((with_reducible refine (lspent_any b D n c es _ _ (hA.drew).hx HL.out (by omega)).mono ?_); rintro e w9 ⟨rfl, hbn⟩; have hA := (hA.drew).on hbn; have hE := (hE.drew).trans (hbn.mono (hE.drew).size)) | ((with_reducible refine (lspent_any b D n c es _ _ (hA).hx HL.out (by omega)).mono ?_); rintro e w9 ⟨rfl, hbn⟩; have hA := (hA).on hbn; have hE := (hE).trans (hbn.mono (hE).size))); obtain ⟨y0, y1, y2, y3, -, -⟩ := id hA; clear hbn))
        go_wp2_with fail
        exact ⟨⟨k + 1, by omega, by rw [show ((k + 1 : Nat) : Int) - 1 = (k : Int) by omega], hA, hE⟩, by simp only [intOf]; omega⟩
      · have hvv := HV.out
        go_wp2_with fail
        refine (valid_any b Dx n cx E _ hA.hy HE.out (by omega)).mono ?_
        rintro e w9 ⟨rfl, hb9⟩
        go_wp2_with fail
        go_ret
        exact ⟨by simp, hE.trans (hb9.mono hE.size)⟩
end Go.Proofs.Ytllnmgadaodieaa
