/-
  FnSpent, FnSpentAll, FnSpentSum: the walks of these laws.
-/
import Derived.Test.YtllnmgadaodieaaDraw2
namespace Go.Proofs.Ytllnmgadaodieaa
open Go.RowKit
attribute [local go_sem ↓] Go.wp_at_zero Go.wp_at_succ

/-- What is known of the drawn ledger behind calls. -/
theorem law_facts {w wk : World} {B : Nat} {b : Int} {D : Option Addr} {n c : Nat} {es : List (Int × Int)} (hv : LedV w B b D n c es) (hB : Below (w.heap.size + 1) (w.alloc (.cells #[.int .i64 b, .slice D n c] 25)) wk) :
    wk.cell? ⟨w.heap.size, 0, none⟩ = some (.int .i64 b) ∧ wk.cell? ⟨w.heap.size, 1, none⟩ = some (.slice D n c) ∧ Recs ef 2 wk wk.heap.size D es := by
  obtain ⟨c0, c1⟩ := box_cells hB
  exact ⟨c0, c1, (hv.recs.alloc _).on (hB.mono (by simp))⟩
theorem law_end {w w1 wk : World} {o : Obj} (hb : Below w.heap.size w w1) (hB : Below (w1.heap.size + 1) (w1.alloc o) wk) : Below w.heap.size w wk := hb.trans ((below_box hB).mono hb.size)
theorem sv_ok {b : Int} {es : List (Int × Int)} {a : Int} (h : ¬ sv b es a < 0) : ldP b es ∧ partP a := by
  by_cases hh : ldP b es ∧ partP a
  · exact hh
  · rw [sv_f hh] at h; omega
theorem lv_ok {b : Int} {es : List (Int × Int)} {a : Int} (h : ¬ lv b es a < 0) : ldP b es ∧ partP a := by
  by_cases hh : ldP b es ∧ partP a
  · exact hh
  · rw [lv_f hh] at h; omega

set_option maxHeartbeats 4000000 in
/-- laws.FnSpent. -/
theorem fnSpent_walk (a0 : Option Addr) (len0 cap0 : Nat) (z0 : List Int) (w : World) (w0 : IsRow8 w a0 len0 cap0 z0) :
    Calls Try.prog 6 #[.slice a0 len0 cap0] w fun e w' => e = .returned (.bool true) ∧ Below w.heap.size w w' := by
  by_cases hl : 1048576 < len0
  · go_enter Try.func6, Try.ntmps6
    go_wp2
    go_ret
    exact ⟨rfl, Below.refl _ _⟩
  go_enter Try.func6, Try.ntmps6
  go_wp2_with fail
  refine (draws_any a0 len0 cap0 z0 _ w0).mono ?_
  rintro e w1 ⟨b, D, n, c, es, area, rfl, ar0, ar1, hv, hb⟩
  have b0 := hv.1
  have b1 := hv.2.1
  have n9 := hv.2.2.1
  have HL := hv.2.2.2.1
  clear w0
  have hB1 := box_refl w1 (.cells #[.int .i64 b, .slice D n c] 25)
  obtain ⟨c10, c11, hx1⟩ := law_facts hv hB1
  go_wp2_with fail
  refine (lspent_any b D n c es area _ hx1 HL.out (by omega)).mono ?_
  rintro e w2 ⟨rfl, hb2⟩
  have hB2 := box_next hB1 hb2
  obtain ⟨c20, c21, hx2⟩ := law_facts hv hB2
  go_wp2_with fail
  refine (slspent_any b D n c es area _ hx2 HL.out (by omega)).mono ?_
  rintro e w3 ⟨rfl, hb3⟩
  have hB3 := box_next hB2 hb3
  obtain ⟨c30, c31, hx3⟩ := law_facts hv hB3
  have hE3 := law_end hb hB3
  clear hb2 hb3 hx1 hx2 hB1 hB2 c10 c11 c20 c21
  obtain ⟨sv0, sv1⟩ := sv_rng b es area
  by_cases hs : sv b es area < 0
  · go_wp2_with fail
    go_ret
    exact ⟨by simp, hE3⟩
  obtain ⟨hld, hpa⟩ := sv_ok hs
  have HLD := Lib.hid hld
  have HALL := Lib.hid hld.2.2.2.1
  have bb0 := hld.1
  have bb1 := hld.2.1
  obtain ⟨sa0, sa1⟩ := sv_bd hld hpa
  clear hld
  clear hpa
  have hm1 := sv_bd HLD.out (.inl rfl : partP (-1))
  obtain ⟨hm0, hm1⟩ := hm1
  have hle : sv b es area ≤ sv b es (-1) := by
    have hp := (sv_ok hs).2
    rcases hp with rfl | ⟨p0, p1⟩
    · exact Int.le_refl _
    · rw [sv_all HLD.out, sv_at HLD.out p0 p1]; exact le_most_at es p0 p1
  go_wp2_with fail
  refine (lspent_any b D n c es _ _ hx3 HL.out (by omega)).mono ?_
  rintro e w4 ⟨rfl, hb4⟩
  have hB4 := box_next hB3 hb4
  clear hb4
  go_wp2_with fail
  go_loopw [8, 9] (fun f i wr => ∃ k : Nat, k ≤ 4 ∧ i = .int .i64 (k : Int) ∧ f = .bool (fnd es k) ∧ Below (w1.heap.size + 1) (w1.alloc (.cells #[.int .i64 b, .slice D n c] 25)) wr) (fun _ i _ => 4 - (intOf i).toNat)
  case atStart => exact ⟨0, by omega, rfl, rfl, hB4⟩
  case round =>
    obtain ⟨k, hk, rfl, rfl, hB5⟩ := hrel
    obtain ⟨c50, c51, hx5⟩ := law_facts hv hB5
    by_cases hlt : k < 4
    · have hks := sv_at HLD.out (a := (k : Int)) (by omega) (by omega)
      have hkm : sv b es (k : Int) ≤ sv b es (-1) := by rw [hks, sv_all HLD.out]; exact le_most_at es (by omega) (by omega)
      have HF := Lib.hid (show fnd es (k + 1) = (fnd es k || (sv b es (k : Int) == sv b es (-1))) by rw [hks, sv_all HLD.out]; rfl)
      clear hks
      go_wp2_with fail
      refine (lspent_any b D n c es _ _ hx5 HL.out (by omega)).mono ?_
      rintro e w6 ⟨rfl, hb6⟩
      have hB6 := box_next hB5 hb6
      cases hf : fnd es k
      · cases he : sv b es (k : Int) == sv b es (-1)
        · go_wp2_with fail
          go_roundw
          case rel => exact ⟨k + 1, by omega, by go_num, by rw [HF.out, hf, he]; rfl, hB6⟩
          case measure => simp [intOf]; omega
        · go_wp2_with fail
          go_roundw
          case rel => exact ⟨k + 1, by omega, by go_num, by rw [HF.out, hf, he]; rfl, hB6⟩
          case measure => simp [intOf]; omega
      · go_wp2_with fail
        go_roundw
        case rel => exact ⟨k + 1, by omega, by go_num, by rw [HF.out, hf]; rfl, hB6⟩
        case measure => simp [intOf]; omega
    · obtain rfl : k = 4 := by omega
      have hf4 := fnd_four HALL.out
      go_wp2_with fail
      go_ret
      exact ⟨by simp, law_end hb hB5⟩

set_option maxHeartbeats 4000000 in
/-- laws.FnSpentAll. -/
theorem fnSpentAll_walk (a0 : Option Addr) (len0 cap0 : Nat) (z0 : List Int) (w : World) (w0 : IsRow8 w a0 len0 cap0 z0) :
    Calls Try.prog 7 #[.slice a0 len0 cap0] w fun e w' => e = .returned (.bool true) ∧ Below w.heap.size w w' := by
  by_cases hl : 1048576 < len0
  · go_enter Try.func7, Try.ntmps7
    go_wp2
    go_ret
    exact ⟨rfl, Below.refl _ _⟩
  go_enter Try.func7, Try.ntmps7
  go_wp2_with fail
  refine (draws_any a0 len0 cap0 z0 _ w0).mono ?_
  rintro e w1 ⟨b, D, n, c, es, area, rfl, ar0, ar1, hv, hb⟩
  have b0 := hv.1
  have b1 := hv.2.1
  have n9 := hv.2.2.1
  have HL := hv.2.2.2.1
  clear w0
  have hB1 := box_refl w1 (.cells #[.int .i64 b, .slice D n c] 25)
  obtain ⟨c10, c11, hx1⟩ := law_facts hv hB1
  go_wp2_with fail
  refine (lspent_any b D n c es area _ hx1 HL.out (by omega)).mono ?_
  rintro e w2 ⟨rfl, hb2⟩
  have hB2 := box_next hB1 hb2
  obtain ⟨c20, c21, hx2⟩ := law_facts hv hB2
  go_wp2_with fail
  refine (slspent_any b D n c es area _ hx2 HL.out (by omega)).mono ?_
  rintro e w3 ⟨rfl, hb3⟩
  have hB3 := box_next hB2 hb3
  obtain ⟨c30, c31, hx3⟩ := law_facts hv hB3
  have hE3 := law_end hb hB3
  clear hb2 hb3 hx1 hx2 hB1 hB2 c10 c11 c20 c21
  obtain ⟨sv0, sv1⟩ := sv_rng b es area
  by_cases hs : sv b es area < 0
  · go_wp2_with fail
    go_ret
    exact ⟨by simp, hE3⟩
  obtain ⟨hld, hpa⟩ := sv_ok hs
  have HLD := Lib.hid hld
  have HALL := Lib.hid hld.2.2.2.1
  have bb0 := hld.1
  have bb1 := hld.2.1
  obtain ⟨sa0, sa1⟩ := sv_bd hld hpa
  clear hld
  clear hpa
  go_wp2_with fail
  go_loop [7, 8] (fun s i => ∃ k : Nat, k ≤ n ∧ i = .int .i64 (k : Int) ∧ s = .int .i64 (tot (es.take k))) (fun _ i => n - (intOf i).toNat)
  case atStart => exact ⟨0, by omega, rfl, rfl⟩
  case round =>
    obtain ⟨k, hk, rfl, rfl⟩ := hrel
    have ht := tot_bd (allE_take HALL.out k)
    have htl : (es.take k).length ≤ 9 := by rw [List.length_take]; have := HL.out; omega
    have ht0 : 0 ≤ tot (es.take k) := by omega
    have ht1 : tot (es.take k) ≤ 40000 := by omega
    clear ht htl
    by_cases hlt : k < n
    · obtain ⟨ob, o, p, q, rfl, hbb, HX, hc1, hc2⟩ := ents_at hx3 (k := k) (by have := HL.out; omega)
      obtain ⟨-, q0, q1⟩ := all_at HALL.out HX.out
      have HS := Lib.hid (show tot (es.take (k + 1)) = tot (es.take k) + if p < 0 then 4 * q else q by rw [take_next HX.out, tot_append, tot_one])
      by_cases g1 : p < 0
      · have HI := Lib.hid (show tot (es.take (k + 1)) = tot (es.take k) + 4 * q by rw [HS.out, if_pos g1])
        go_wp2_with fail
        go_round
        case rel => exact ⟨k + 1, by omega, by go_num, by rw [HI.out]⟩
        case measure => simp [intOf]; omega
      · have HI := Lib.hid (show tot (es.take (k + 1)) = tot (es.take k) + q by rw [HS.out, if_neg g1])
        go_wp2_with fail
        go_round
        case rel => exact ⟨k + 1, by omega, by go_num, by rw [HI.out]⟩
        case measure => simp [intOf]; omega
    · have HT := Lib.hid (show tot (es.take k) = rest es 0 by rw [List.take_of_length_le (by have := HL.out; omega)]; rfl)
      go_wp2_with fail
      go_loopw [7, 9] (fun s i wr => ∃ k : Nat, k ≤ 4 ∧ i = .int .i64 (k : Int) ∧ s = .int .i64 (rest es k) ∧ Below (w1.heap.size + 1) (w1.alloc (.cells #[.int .i64 b, .slice D n c] 25)) wr) (fun _ i _ => 4 - (intOf i).toNat)
      case atStart => exact ⟨0, by omega, rfl, by rw [HT.out], hB3⟩
      case round =>
        obtain ⟨k, hk, rfl, rfl, hB5⟩ := hrel
        obtain ⟨c50, c51, hx5⟩ := law_facts hv hB5
        obtain ⟨r0, r1⟩ := rest_bd HALL.out (by have := HL.out; omega) k hk
        by_cases hlt : k < 4
        · have hks := sv_at HLD.out (a := (k : Int)) (by omega) (by omega)
          have HF := Lib.hid (show rest es (k + 1) = rest es k - sv b es (k : Int) by rw [hks]; rfl)
          obtain ⟨t0, t1⟩ := sv_rng b es (k : Int)
          clear hks
          go_wp2_with fail
          refine (lspent_any b D n c es _ _ hx5 HL.out (by omega)).mono ?_
          rintro e w6 ⟨rfl, hb6⟩
          have hB6 := box_next hB5 hb6
          go_wp2_with fail
          go_roundw
          case rel => exact ⟨k + 1, by omega, by go_num, by rw [HF.out], hB6⟩
          case measure => simp [intOf]; omega
        · obtain rfl : k = 4 := by omega
          have hr4 := rest_four HALL.out
          go_wp2_with fail
          go_ret
          exact ⟨by simp, law_end hb hB5⟩

set_option maxHeartbeats 4000000 in
/-- laws.FnSpentSum. -/
theorem fnSpentSum_walk (a0 : Option Addr) (len0 cap0 : Nat) (z0 : List Int) (w : World) (w0 : IsRow8 w a0 len0 cap0 z0) :
    Calls Try.prog 8 #[.slice a0 len0 cap0] w fun e w' => e = .returned (.bool true) ∧ Below w.heap.size w w' := by
  by_cases hl : 1048576 < len0
  · go_enter Try.func8, Try.ntmps8
    go_wp2
    go_ret
    exact ⟨rfl, Below.refl _ _⟩
  go_enter Try.func8, Try.ntmps8
  go_wp2_with fail
  refine (draws_any a0 len0 cap0 z0 _ w0).mono ?_
  rintro e w1 ⟨b, D, n, c, es, area, rfl, ar0, ar1, hv, hb⟩
  have b0 := hv.1
  have b1 := hv.2.1
  have n9 := hv.2.2.1
  have HL := hv.2.2.2.1
  clear w0
  have hB1 := box_refl w1 (.cells #[.int .i64 b, .slice D n c] 25)
  obtain ⟨c10, c11, hx1⟩ := law_facts hv hB1
  go_wp2_with fail
  refine (lspent_any b D n c es area _ hx1 HL.out (by omega)).mono ?_
  rintro e w2 ⟨rfl, hb2⟩
  have hB2 := box_next hB1 hb2
  obtain ⟨c20, c21, hx2⟩ := law_facts hv hB2
  go_wp2_with fail
  refine (slspent_any b D n c es area _ hx2 HL.out (by omega)).mono ?_
  rintro e w3 ⟨rfl, hb3⟩
  have hB3 := box_next hB2 hb3
  obtain ⟨c30, c31, hx3⟩ := law_facts hv hB3
  have hE3 := law_end hb hB3
  clear hb2 hb3 hx1 hx2 hB1 hB2 c10 c11 c20 c21
  obtain ⟨sv0, sv1⟩ := sv_rng b es area
  by_cases hs : sv b es area < 0
  · go_wp2_with fail
    go_ret
    exact ⟨by simp, hE3⟩
  obtain ⟨hld, hpa⟩ := sv_ok hs
  have HLD := Lib.hid hld
  have HALL := Lib.hid hld.2.2.2.1
  have bb0 := hld.1
  have bb1 := hld.2.1
  obtain ⟨sa0, sa1⟩ := sv_bd hld hpa
  clear hld
  by_cases han : area < 0
  · go_wp2_with fail
    go_ret
    exact ⟨by simp, hE3⟩
  have HS := Lib.hid (show sv b es area = spent es area by
    unfold partP at hpa
    exact sv_at HLD.out (by omega) (by omega))
  clear hpa
  go_wp2_with fail
  go_loop [7, 8] (fun s i => ∃ k : Nat, k ≤ n ∧ i = .int .i64 (k : Int) ∧ s = .int .i64 (spent (es.take k) area)) (fun _ i => n - (intOf i).toNat)
  case atStart => exact ⟨0, by omega, rfl, rfl⟩
  case round =>
    obtain ⟨k, hk, rfl, rfl⟩ := hrel
    obtain ⟨s0, s1⟩ := spent_part HALL.out (by have := HL.out; omega) area k
    by_cases hlt : k < n
    · obtain ⟨ob, o, p, q, rfl, hbb, HX, hc1, hc2⟩ := ents_at hx3 (k := k) (by have := HL.out; omega)
      obtain ⟨-, q0, q1⟩ := all_at HALL.out HX.out
      have HS2 := Lib.hid (spent_step HX.out area)
      by_cases g1 : p = area
      · have HI := Lib.hid (show spent (es.take (k + 1)) area = spent (es.take k) area + q by rw [HS2.out, if_pos (.inr g1)])
        have b1' : (p == area) = true := beq_iff_eq.2 g1
        clear g1
        go_wp2_with fail
        go_round
        case rel => exact ⟨k + 1, by omega, by go_num, by rw [HI.out]⟩
        case measure => simp [intOf]; omega
      · have b1' : (p == area) = false := beq_eq_false_iff_ne.2 g1
        by_cases g2 : p = -1
        · have HI := Lib.hid (show spent (es.take (k + 1)) area = spent (es.take k) area + q by rw [HS2.out, if_pos (.inl g2)])
          have b2' : (p == -1) = true := beq_iff_eq.2 g2
          clear g1 g2
          go_wp2_with fail
          go_round
          case rel => exact ⟨k + 1, by omega, by go_num, by rw [HI.out]⟩
          case measure => simp [intOf]; omega
        · have HI := Lib.hid (show spent (es.take (k + 1)) area = spent (es.take k) area by rw [HS2.out, if_neg (by omega)]; omega)
          have b2' : (p == -1) = false := beq_eq_false_iff_ne.2 g2
          clear g1 g2
          go_wp2_with fail
          go_round
          case rel => exact ⟨k + 1, by omega, by go_num, by rw [HI.out]⟩
          case measure => simp [intOf]; omega
    · have HT := Lib.hid (show (spent (es.take k) area == sv b es area) = true by rw [List.take_of_length_le (by have := HL.out; omega), HS.out]; simp)
      have ht := HT.out
      go_wp2_with fail
      go_ret
      exact ⟨by simp, hE3⟩
end Go.Proofs.Ytllnmgadaodieaa
