/-
  FnSwapGroups: the walk of this law.
-/
import Derived.Test.YtpjiencegicjbaaLeast
import Derived.Test.YtpjiencegicjbaaDraw
import Derived.Deep.DeepCutAuto
namespace Go.Proofs.Ytpjiencegicjbaa
open Go.RowKit
attribute [local go_sem ↓] Go.wp_at_zero Go.wp_at_succ

theorem sw_ln {ps : List Pn} {n : Nat} (h : ps.length = n) (i k : Nat) : (sw ps i k).length = n := by rw [sw_len]; exact h
set_option maxRecDepth 100000 in
set_option maxHeartbeats 4000000 in
/-- laws.FnSwapGroups. -/
theorem fnSwapGroups_walk (a0 : Option Addr) (len0 cap0 : Nat) (z0 : List Int) (a1 : Option Addr) (len1 cap1 : Nat) (z1 : List Int) (w : World) (w0 : IsRow8 w a0 len0 cap0 z0) (_w1 : IsRow8 w a1 len1 cap1 z1) :
    Calls Try.prog 7 #[.slice a0 len0 cap0, .slice a1 len1 cap1] w fun e w' => e = .returned (.bool true) ∧ Below w.heap.size w w' := by
  by_cases hl : 1048576 < len0
  · go_enter Try.func7, Try.ntmps7
    go_wp2
    go_ret
    exact ⟨rfl, Below.refl _ _⟩
  by_cases hl1 : 1048576 < len1
  · go_enter Try.func7, Try.ntmps7
    go_wp2
    go_ret
    exact ⟨rfl, Below.refl _ _⟩
  go_enter Try.func7, Try.ntmps7
  go_wp2_with fail
  refine (drawdo_any a0 len0 cap0 z0 _ w0).mono ?_
  rintro e w1 ⟨D, n, c, ps, a, b, rfl, hV, hB⟩
  have n8 := hV.1
  have HL := hV.2.1
  have r1 := hV.recs
  clear w0 hV
  cases hs : soB ps a b
  · skip
    go_wp2_with fail
    refine (do_n D n c ps a b _ r1 HL.out (by omega) hs).mono ?_
    rintro e w2 ⟨D2, c2, rfl, hown, hb⟩
    have hB := below_next hB hb
    have r1 := r1.on hb
    clear hb
    clear hown
    go_wp2_with fail
    refine (sdo_n D n c ps a b _ r1 HL.out (by omega) hs).mono ?_
    rintro e w3 ⟨D3, c3, rfl, hown, hb⟩
    have hB := below_next hB hb
    have r1 := r1.on hb
    clear hb
    clear hown
    go_wp2_with fail
    refine (samep_t D2 D3 0 c2 c3 [] _ Recs.nil Recs.nil rfl (by omega)).mono ?_
    rintro e w4 ⟨rfl, hb⟩
    have hB := below_next hB hb
    have r1 := r1.on hb
    clear hb
    go_wp2_with fail
    refine (samep_t D2 D3 0 c2 c3 [] _ Recs.nil Recs.nil rfl (by omega)).mono ?_
    rintro e w5 ⟨rfl, hb⟩
    have hB := below_next hB hb
    have r1 := r1.on hb
    clear hb
    go_wp2_with fail
    go_ret
    exact ⟨rfl, hB⟩
  obtain ⟨i, k, rfl, rfl⟩ : ∃ i k : Nat, a = i ∧ b = k := by obtain ⟨_, i, k, _, _, e1, e2, _⟩ := soB_iff.1 hs; exact ⟨i, k, e1, e2⟩
  have HL2 := Lib.hid (sw_ln HL.out i k)
  go_wp2_with fail
  refine (do_t D n c ps i k _ r1 HL.out (by omega) hs).mono ?_
  rintro e w2 ⟨D2, c2, rfl, hown, hb⟩
  have hB := below_next hB hb
  have r1 := r1.on hb
  clear hb
  have r2 := (Recs.of_own pf_len hown (by omega)).2
  clear hown
  go_wp2_with fail
  refine (sdo_t D n c ps i k _ r1 HL.out (by omega) hs).mono ?_
  rintro e w3 ⟨D3, c3, rfl, hown, hb⟩
  have hB := below_next hB hb
  have r1 := r1.on hb
  have r2 := r2.on hb
  clear hb
  have r3 := (Recs.of_own pf_len hown (by omega)).2
  clear hown
  go_wp2_with fail
  refine (samep_t D2 D3 n c2 c3 (sw ps i k) _ r2 r3 HL2.out (by omega)).mono ?_
  rintro e w4 ⟨rfl, hb⟩
  have hB := below_next hB hb
  have r1 := r1.on hb
  have r2 := r2.on hb
  have r3 := r3.on hb
  clear hb
  clear r3
  obtain ⟨rj, hrj⟩ : ∃ rj, rj = len1 % 2 := ⟨_, rfl⟩
  obtain ⟨hf, hhf⟩ : ∃ hf, hf = len1 / 2 := ⟨_, rfl⟩
  obtain ⟨rs, hrs⟩ : ∃ rs, rs = hf % 2 := ⟨_, rfl⟩
  have g1 : ((len1 : Int)).tmod 2 = (rj : Int) := by rw [hrj, Int.tmod_eq_emod_of_nonneg (by omega)]; rfl
  have g2 : (len1 : Int) % 2 = (rj : Int) := by rw [hrj]; rfl
  have g3 : ((len1 : Int)).tdiv 2 = (hf : Int) := by rw [hhf, Int.tdiv_eq_ediv_of_nonneg (by omega)]; rfl
  have g4 : (len1 : Int) / 2 = (hf : Int) := by rw [hhf]; rfl
  have g5 : ((hf : Int)).tmod 2 = (rs : Int) := by rw [hrs, Int.tmod_eq_emod_of_nonneg (by omega)]; rfl
  have g6 : (hf : Int) % 2 = (rs : Int) := by rw [hrs]; rfl
  have hj : inB (rj : Int) 0 1 = true := inB_iff.2 (by omega)
  have hs' : inB (rs : Int) 0 1 = true := inB_iff.2 (by omega)
  have HSO := Lib.hid (soB_iff.1 hs)
  have hp1 : pvB ps = true := pvB_iff.2 HSO.out.1
  have hp2 : pvB (sw ps i k) = true := pvB_iff.2 (so_sw HSO.out)
  have HCN := Lib.hid (fun (q : Lit) => cnt_sw HSO.out (rj : Int) (rs : Int) q)
  have HLEN := Lib.hid (show (ps.map (rcd (rj : Int) (rs : Int))).length = ((sw ps i k).map (rcd (rj : Int) (rs : Int))).length by rw [List.length_map, List.length_map, sw_len])
  clear hrj hhf hrs
  go_upto_region 10 with fail
  obtain ⟨W5, HW5⟩ : ∃ W, Hid ((w4.alloc (.cells #[.int .i64 0, .int .i64 (rj : Int), .int .i64 (rs : Int)] 45)).alloc (.cells #[] 58) = W) := ⟨_, Lib.hid rfl⟩
  have hb : Below w4.heap.size w4 W5 := by rw [← HW5.out]; exact below_two _ _ _
  have e0 : W5.cell? ⟨w4.heap.size, 0, none⟩ = some (.int .i64 0) := by rw [← HW5.out, World.cell?_alloc_lt _ _ _ (by simp)]; simp
  have e1 : W5.cell? ⟨w4.heap.size, 1, none⟩ = some (.int .i64 (rj : Int)) := by rw [← HW5.out, World.cell?_alloc_lt _ _ _ (by simp)]; simp
  have e2 : W5.cell? ⟨w4.heap.size, 2, none⟩ = some (.int .i64 (rs : Int)) := by rw [← HW5.out, World.cell?_alloc_lt _ _ _ (by simp)]; simp
  rw [HW5.out]
  have hB := below_next hB hb
  have r1 := r1.on hb
  have r2 := r2.on hb
  clear hb g1 g2 g3 g4 g5 g6
  go_region_held3 (fun w' => w'.cell? ⟨w4.heap.size, 0, none⟩ = some (.int .i64 0) ∧ w'.cell? ⟨w4.heap.size, 1, none⟩ = some (.int .i64 (rj : Int)) ∧ w'.cell? ⟨w4.heap.size, 2, none⟩ = some (.int .i64 (rs : Int))) (go_keep)
    (first
    | (go_at_call 27
       with_reducible show Calls _ _ #[.slice D n c, .slice (some ⟨w4.heap.size + 1, 0, none⟩) 0 0, .agg #[.int .i64 0, .int .i64 (rj : Int), .int .i64 (rs : Int)]] (W5.drew) _
       have hd : Below W5.heap.size W5 W5.drew := (Below.refl _ _).drew
       refine (least_t D _ n c 0 ps _ _ hj hs' _ (r1.on hd) HL.out (by omega) hp1).mono ?_
       rintro e v1 ⟨M1, rfl, hM1, hb⟩
       have hb := hd.trans (hb.mono hd.size)
       have hB := below_next hB hb
       have r1 := r1.on hb
       have r2 := r2.on hb
       have e0 := (hb.cell (World.block_lt_of_cell? _ _ e0)).trans e0
       have e1 := (hb.cell (World.block_lt_of_cell? _ _ e1)).trans e1
       have e2 := (hb.cell (World.block_lt_of_cell? _ _ e2)).trans e2
       clear hb hd)
    | (go_at_call 27
       with_reducible show Calls _ _ #[.slice D n c, .slice (some ⟨w4.heap.size + 1, 0, none⟩) 0 0, .agg #[.int .i64 0, .int .i64 (rj : Int), .int .i64 (rs : Int)]] (W5) _
       have hd : Below W5.heap.size W5 W5 := Below.refl _ _
       refine (least_t D _ n c 0 ps _ _ hj hs' _ (r1.on hd) HL.out (by omega) hp1).mono ?_
       rintro e v1 ⟨M1, rfl, hM1, hb⟩
       have hb := hd.trans (hb.mono hd.size)
       have hB := below_next hB hb
       have r1 := r1.on hb
       have r2 := r2.on hb
       have e0 := (hb.cell (World.block_lt_of_cell? _ _ e0)).trans e0
       have e1 := (hb.cell (World.block_lt_of_cell? _ _ e1)).trans e1
       have e2 := (hb.cell (World.block_lt_of_cell? _ _ e2)).trans e2
       clear hb hd)
    | (go_at_call 27
       with_reducible show Calls _ _ #[.slice D2 n c2, .slice (some ⟨w4.heap.size + 1, 0, none⟩) 0 0, .agg #[.int .i64 0, .int .i64 (rj : Int), .int .i64 (rs : Int)]] (v1.drew) _
       have hd : Below v1.heap.size v1 v1.drew := (Below.refl _ _).drew
       refine (least_t D2 _ n c2 0 (sw ps i k) _ _ hj hs' _ (r2.on hd) HL2.out (by omega) hp2).mono ?_
       rintro e v2 ⟨M2, rfl, hM2, hb⟩
       have hb := hd.trans (hb.mono hd.size)
       have hB := below_next hB hb
       have r1 := r1.on hb
       have r2 := r2.on hb
       have e0 := (hb.cell (World.block_lt_of_cell? _ _ e0)).trans e0
       have e1 := (hb.cell (World.block_lt_of_cell? _ _ e1)).trans e1
       have e2 := (hb.cell (World.block_lt_of_cell? _ _ e2)).trans e2
       obtain rfl : M1 = M2 := least_one HLEN.out (fun q => (HCN.out q).symm) hM1 hM2
       have kk : (M1 == M1) = true := by simp
       clear hb hd)
    | (go_at_call 27
       with_reducible show Calls _ _ #[.slice D2 n c2, .slice (some ⟨w4.heap.size + 1, 0, none⟩) 0 0, .agg #[.int .i64 0, .int .i64 (rj : Int), .int .i64 (rs : Int)]] (v1) _
       have hd : Below v1.heap.size v1 v1 := Below.refl _ _
       refine (least_t D2 _ n c2 0 (sw ps i k) _ _ hj hs' _ (r2.on hd) HL2.out (by omega) hp2).mono ?_
       rintro e v2 ⟨M2, rfl, hM2, hb⟩
       have hb := hd.trans (hb.mono hd.size)
       have hB := below_next hB hb
       have r1 := r1.on hb
       have r2 := r2.on hb
       have e0 := (hb.cell (World.block_lt_of_cell? _ _ e0)).trans e0
       have e1 := (hb.cell (World.block_lt_of_cell? _ _ e1)).trans e1
       have e2 := (hb.cell (World.block_lt_of_cell? _ _ e2)).trans e2
       obtain rfl : M1 = M2 := least_one HLEN.out (fun q => (HCN.out q).symm) hM1 hM2
       have kk : (M1 == M1) = true := by simp
       clear hb hd)
    | (go_at_call 28
       with_reducible show Calls _ _ #[.slice D n c, .slice (some ⟨w4.heap.size + 1, 0, none⟩) 0 0, .agg #[.int .i64 0, .int .i64 (rj : Int), .int .i64 (rs : Int)]] (v2.drew) _
       have hd : Below v2.heap.size v2 v2.drew := (Below.refl _ _).drew
       refine (many_t D _ n c 0 ps _ _ hj hs' _ (r1.on hd) HL.out (by omega) hp1).mono ?_
       rintro e v3 ⟨G1, rfl, hG1, hG2, hb⟩
       have hb := hd.trans (hb.mono hd.size)
       have hB := below_next hB hb
       have r1 := r1.on hb
       have r2 := r2.on hb
       have e0 := (hb.cell (World.block_lt_of_cell? _ _ e0)).trans e0
       have e1 := (hb.cell (World.block_lt_of_cell? _ _ e1)).trans e1
       have e2 := (hb.cell (World.block_lt_of_cell? _ _ e2)).trans e2
       clear hb hd)
    | (go_at_call 28
       with_reducible show Calls _ _ #[.slice D n c, .slice (some ⟨w4.heap.size + 1, 0, none⟩) 0 0, .agg #[.int .i64 0, .int .i64 (rj : Int), .int .i64 (rs : Int)]] (v2) _
       have hd : Below v2.heap.size v2 v2 := Below.refl _ _
       refine (many_t D _ n c 0 ps _ _ hj hs' _ (r1.on hd) HL.out (by omega) hp1).mono ?_
       rintro e v3 ⟨G1, rfl, hG1, hG2, hb⟩
       have hb := hd.trans (hb.mono hd.size)
       have hB := below_next hB hb
       have r1 := r1.on hb
       have r2 := r2.on hb
       have e0 := (hb.cell (World.block_lt_of_cell? _ _ e0)).trans e0
       have e1 := (hb.cell (World.block_lt_of_cell? _ _ e1)).trans e1
       have e2 := (hb.cell (World.block_lt_of_cell? _ _ e2)).trans e2
       clear hb hd)
    | (go_at_call 28
       with_reducible show Calls _ _ #[.slice D2 n c2, .slice (some ⟨w4.heap.size + 1, 0, none⟩) 0 0, .agg #[.int .i64 0, .int .i64 (rj : Int), .int .i64 (rs : Int)]] (v3.drew) _
       have hd : Below v3.heap.size v3 v3.drew := (Below.refl _ _).drew
       refine (many_t D2 _ n c2 0 (sw ps i k) _ _ hj hs' _ (r2.on hd) HL2.out (by omega) hp2).mono ?_
       rintro e v4 ⟨G3, rfl, hG3, hG4, hb⟩
       have hb := hd.trans (hb.mono hd.size)
       have hB := below_next hB hb
       have r1 := r1.on hb
       have r2 := r2.on hb
       have e0 := (hb.cell (World.block_lt_of_cell? _ _ e0)).trans e0
       have e1 := (hb.cell (World.block_lt_of_cell? _ _ e1)).trans e1
       have e2 := (hb.cell (World.block_lt_of_cell? _ _ e2)).trans e2
       obtain rfl : G1 = G3 := hG1.one hG3 hG2 hG4 (fun q => (HCN.out q).symm)
       have kk2 : (((Maps.size G1 : Nat) : Int) == ((Maps.size G1 : Nat) : Int)) = true := by simp
       clear hb hd)
    | (go_at_call 28
       with_reducible show Calls _ _ #[.slice D2 n c2, .slice (some ⟨w4.heap.size + 1, 0, none⟩) 0 0, .agg #[.int .i64 0, .int .i64 (rj : Int), .int .i64 (rs : Int)]] (v3) _
       have hd : Below v3.heap.size v3 v3 := Below.refl _ _
       refine (many_t D2 _ n c2 0 (sw ps i k) _ _ hj hs' _ (r2.on hd) HL2.out (by omega) hp2).mono ?_
       rintro e v4 ⟨G3, rfl, hG3, hG4, hb⟩
       have hb := hd.trans (hb.mono hd.size)
       have hB := below_next hB hb
       have r1 := r1.on hb
       have r2 := r2.on hb
       have e0 := (hb.cell (World.block_lt_of_cell? _ _ e0)).trans e0
       have e1 := (hb.cell (World.block_lt_of_cell? _ _ e1)).trans e1
       have e2 := (hb.cell (World.block_lt_of_cell? _ _ e2)).trans e2
       obtain rfl : G1 = G3 := hG1.one hG3 hG2 hG4 (fun q => (HCN.out q).symm)
       have kk2 : (((Maps.size G1 : Nat) : Int) == ((Maps.size G1 : Nat) : Int)) = true := by simp
       clear hb hd))
  all_goals
    go_wp2_with fail
    go_ret
    exact ⟨by simp, hB⟩
end Go.Proofs.Ytpjiencegicjbaa
