/-
  The walks of KeyRows, the program's and the reference's: both tell whether lists are a table of changes, for all lists.
-/
import Derived.Test.YtgdoajhieiibcaaRead
namespace Go.Proofs.Ytgdoajhieiibcaa
open Go.RowKit

theorem row_sum {i : Nat} {r : List Int} (h : ∀ x ∈ r, elP i x) (hl : r.length = 16) : wsum r = sumI r := by
  have h1 := wsum_eq (xs := r) (fun x hx => by have := h x hx; unfold elP at this; omega) (by omega) r.length
  rwa [List.take_length] at h1
theorem rows_no {rs : List (List Int)} {k : Nat} {r : List Int} (h : rs[k]? = some r) (hr : ¬ rowP k r) : krB rs = false := krB_f fun H => hr (H.2.2 k r h)

set_option maxHeartbeats 1000000 in
/-- impl.KeyRows. -/
theorem krows_any (A : Option Addr) (n c : Nat) (rs : List (List Int)) (w : World) (hx : Rws w w.heap.size A rs) (hn : rs.length = n) (hm : n ≤ 4194304) :
    Calls Try.prog 22 #[.slice A n c] w fun e w' => e = .returned (.bool (krB rs)) ∧ w = w' := by
  have HN := Lib.hid hn
  clear hn
  go_enter Try.func22, Try.ntmps22
  go_wp2
  go_loop [9] (fun i => ∃ k : Nat, k ≤ n ∧ i = .int .i64 k ∧ Hid (∀ j r, j < k → rs[j]? = some r → rowP j r)) (fun i => n - (intOf i).toNat)
  case atStart => exact ⟨0, by omega, rfl, fun j r hj => absurd hj (by omega)⟩
  case round =>
    obtain ⟨k, hk, rfl, HA⟩ := hrel
    by_cases hlt : k < n
    · obtain ⟨b, o, r, Ar, cr, rfl, hb, HX, hc, hrc, hcm, hri⟩ := hx.at_ (k := k) (by have := HN.out; omega)
      by_cases h16 : r.length = 16
      · rw [h16] at hc hrc
        have HL := Lib.hid h16
        clear h16
        by_cases ht : wsum r = 0
        · have b1 : (wsum r == 0) = true := beq_iff_eq.2 ht
          have b2 : (wsum r != 0) = false := by rw [bne_eq_false_iff_eq]; exact ht
          have HT := Lib.hid ht
          clear ht
          go_wp2_with (go_at_call 28; refine (total_any _ _ _ r _ hri HL.out (by simp [maxLen])).mono ?_; rintro e w' ⟨rfl, rfl⟩)
          go_loop [6, 24] (fun _ i => ∃ t : Nat, t ≤ 16 ∧ i = .int .i64 t ∧ Hid (∀ x ∈ r.take t, elP k x)) (fun _ i => 16 - (intOf i).toNat)
          case atStart => exact ⟨0, by omega, rfl, fun x hx => by simp at hx⟩
          case round =>
            obtain ⟨t, ht, rfl, HB⟩ := hrel
            by_cases htl : t < 16
            · obtain ⟨b', o', x, rfl, hb', HY, hc'⟩ := hri.at_ (k := t) (by have := HL.out; omega)
              by_cases g1 : x < -10
              · have hno := rows_no HX.out (fun h => by have := h.2.2 x (mem_of_at HY.out); unfold elP at this; omega)
                go_wp2
                go_ret
                exact ⟨ret_bool (by first | rfl | rw [hno] | (simp; omega)), rfl⟩
              by_cases g2 : 10 < x
              · have hno := rows_no HX.out (fun h => by have := h.2.2 x (mem_of_at HY.out); unfold elP at this; omega)
                go_wp2
                go_ret
                exact ⟨ret_bool (by first | rfl | rw [hno] | (simp; omega)), rfl⟩
              by_cases g3 : (k : Int) + x < 0
              · have hno := rows_no HX.out (fun h => by have := h.2.2 x (mem_of_at HY.out); unfold elP at this; omega)
                go_wp2
                go_ret
                exact ⟨ret_bool (by first | rfl | rw [hno] | (simp; omega)), rfl⟩
              by_cases g4 : k = 0 ∧ ¬ x = 0
              · have hno := rows_no HX.out (fun h => by have := h.2.2 x (mem_of_at HY.out); unfold elP at this; omega)
                obtain ⟨rfl, g5⟩ := g4
                have b3 : (x != 0) = true := by rw [bne_iff_ne]; exact g5
                go_wp2
                go_ret
                exact ⟨ret_bool (by first | rfl | rw [hno] | (simp; omega)), rfl⟩
              have hel : elP k x := ⟨by omega, by omega, by omega, fun h => by omega⟩
              by_cases g6 : k = 0
              · have g7 : x = 0 := by omega
                subst g6
                subst g7
                go_wp2
                go_round
                case rel =>
                  refine ⟨t + 1, by omega, by go_num, fun y hy => ?_⟩
                  rw [take_next HY.out, List.mem_append, List.mem_singleton] at hy
                  rcases hy with hy | rfl
                  · exact HB.out y hy
                  · exact hel
                case measure => simp [intOf]; omega
              · have b4 : ((k : Int) == 0) = false := beq_eq_false_iff_ne.2 (by omega)
                go_wp2
                go_round
                case rel =>
                  refine ⟨t + 1, by omega, by go_num, fun y hy => ?_⟩
                  rw [take_next HY.out, List.mem_append, List.mem_singleton] at hy
                  rcases hy with hy | rfl
                  · exact HB.out y hy
                  · exact hel
                case measure => simp [intOf]; omega
            · have hall := HB.out
              rw [List.take_of_length_le (by have := HL.out; omega)] at hall
              have hrow : Hid (rowP k r) := ⟨HL.out, by rw [← row_sum hall HL.out]; exact HT.out, hall⟩
              clear hall
              go_wp2
              go_round
              case rel =>
                refine ⟨k + 1, by omega, by go_num, fun j q hj hq => ?_⟩
                by_cases hjk : j = k
                · subst hjk
                  have := HX.out
                  rw [hq] at this
                  injection this with this
                  rw [this]; exact hrow.out
                · exact HA.out j q (by omega) hq
              case measure => simp [intOf]; omega
        · have b2 : (wsum r != 0) = true := by rw [bne_iff_ne]; exact ht
          have hno := rows_no HX.out (fun h => ht (by rw [row_sum h.2.2 h.1]; exact h.2.1))
          clear ht
          go_wp2_with (go_at_call 28; refine (total_any _ _ _ r _ hri HL.out (by simp [maxLen])).mono ?_; rintro e w' ⟨rfl, rfl⟩)
          go_ret
          exact ⟨ret_bool (by first | rfl | rw [hno] | (simp; omega)), rfl⟩
      · have hno := rows_no HX.out (fun h => h16 h.1)
        have hrm := len_max (Nat.le_trans hrc hcm)
        have b1 : ((r.length : Int) != 16) = true := by rw [bne_iff_ne]; omega
        clear h16
        go_wp2
        go_ret
        exact ⟨ret_bool (by first | rfl | rw [hno] | (simp; omega)), rfl⟩
    · have hall : ∀ i r, rs[i]? = some r → rowP i r := fun i r hr => HA.out i r (by have := lt_of_at hr; have := HN.out; omega) hr
      by_cases h1 : 1 ≤ n
      · by_cases h8 : n ≤ 8
        · have hyes : krB rs = true := krB_t ⟨by have := HN.out; omega, by have := HN.out; omega, hall⟩
          clear hall
          go_wp2
          go_ret
          exact ⟨ret_bool (by first | rfl | rw [hyes] | (simp; omega)), rfl⟩
        · have hno : krB rs = false := krB_f fun h => by have := h.2.1; have := HN.out; omega
          clear hall
          go_wp2
          go_ret
          exact ⟨ret_bool (by first | rfl | rw [hno] | (simp; omega)), rfl⟩
      · have hno : krB rs = false := krB_f fun h => by have := h.1; have := HN.out; omega
        clear hall
        go_wp2
        go_ret
        exact ⟨ret_bool (by first | rfl | rw [hno] | (simp; omega)), rfl⟩

set_option maxHeartbeats 1000000 in
/-- spec.l23Row. -/
theorem srow_any (A : Option Addr) (c at_ : Nat) (r : List Int) (w : World) (hx : Ints w w.heap.size A r) (hm' : r.length ≤ maxLen) (hat : at_ ≤ 4194304) :
    Calls Try.prog 27 #[.slice A r.length c, .int .i64 (at_ : Int)] w fun e w' => e = .returned (.bool (rwB at_ r)) ∧ w = w' := by
  have hm := len_max hm'
  by_cases h16 : r.length = 16
  · rw [h16]
    have HL := Lib.hid h16
    clear h16 hm hm'
    go_enter Try.func27, Try.ntmps27
    go_wp2
    go_loop [5, 6] (fun s i => ∃ t : Nat, t ≤ 16 ∧ i = .int .i64 t ∧ s = .int .i64 (sumI (r.take t)) ∧ Hid (∀ x ∈ r.take t, elP at_ x)) (fun _ i => 16 - (intOf i).toNat)
    case atStart => exact ⟨0, by omega, rfl, rfl, fun x hx => by simp at hx⟩
    case round =>
      obtain ⟨t, ht, rfl, rfl, HB⟩ := hrel
      have hs := sumI_bd (xs := r.take t) (lo := -10) (hi := 10) (fun x hx => by have := HB.out x hx; unfold elP at this; omega)
      have hs3 : (r.take t).length ≤ 16 := by rw [List.length_take]; omega
      have hs0 : -160 ≤ sumI (r.take t) := by omega
      have hs1 : sumI (r.take t) ≤ 160 := by omega
      clear hs hs3
      by_cases htl : t < 16
      · obtain ⟨b, o, x, rfl, hb, HY, hc⟩ := hx.at_ (k := t) (by have := HL.out; omega)
        by_cases g1 : -10 ≤ x ∧ x ≤ 10
        · have hi : inB x (-10) 10 = true := inB_t g1.1 g1.2
          obtain ⟨g10, g11⟩ := g1
          by_cases g3 : (at_ : Int) + x < 0
          · have hno : rwB at_ r = false := rwB_f fun h => by have := h.2.2 x (mem_of_at HY.out); unfold elP at this; omega
            go_wp2_with (go_at_call 26; refine (l6In_any _ _ _ _).mono ?_; rintro e w' ⟨rfl, rfl⟩)
            go_ret
            exact ⟨ret_bool (by first | rfl | rw [hno]), rfl⟩
          by_cases g4 : at_ = 0
          · have b4 : ((at_ : Int) == 0) = true := beq_iff_eq.2 (by omega)
            by_cases g5 : x = 0
            · have hel : elP at_ x := ⟨by omega, by omega, by omega, fun h => g5⟩
              have b5 : (x != 0) = false := by rw [bne_eq_false_iff_eq]; exact g5
              clear g4 g5
              go_wp2_with (go_at_call 26; refine (l6In_any _ _ _ _).mono ?_; rintro e w' ⟨rfl, rfl⟩)
              go_round
              case rel =>
                refine ⟨t + 1, by omega, by go_num, by rw [take_next HY.out, sumI_append, sumI_one], fun y hy => ?_⟩
                rw [take_next HY.out, List.mem_append, List.mem_singleton] at hy
                rcases hy with hy | rfl
                · exact HB.out y hy
                · exact hel
              case measure => simp [intOf]; omega
            · have hno : rwB at_ r = false := rwB_f fun h => by have := h.2.2 x (mem_of_at HY.out); unfold elP at this; omega
              have b3 : (x != 0) = true := by rw [bne_iff_ne]; exact g5
              clear g4 g5
              go_wp2_with (go_at_call 26; refine (l6In_any _ _ _ _).mono ?_; rintro e w' ⟨rfl, rfl⟩)
              go_ret
              exact ⟨ret_bool (by first | rfl | rw [hno]), rfl⟩
          · have hel : elP at_ x := ⟨by omega, by omega, by omega, fun h => by omega⟩
            have b4 : ((at_ : Int) == 0) = false := beq_eq_false_iff_ne.2 (by omega)
            go_wp2_with (go_at_call 26; refine (l6In_any _ _ _ _).mono ?_; rintro e w' ⟨rfl, rfl⟩)
            go_round
            case rel =>
              refine ⟨t + 1, by omega, by go_num, by rw [take_next HY.out, sumI_append, sumI_one], fun y hy => ?_⟩
              rw [take_next HY.out, List.mem_append, List.mem_singleton] at hy
              rcases hy with hy | rfl
              · exact HB.out y hy
              · exact hel
            case measure => simp [intOf]; omega
        · have hi : inB x (-10) 10 = false := inB_f g1
          have hno : rwB at_ r = false := rwB_f fun h => by have := h.2.2 x (mem_of_at HY.out); unfold elP at this; omega
          go_wp2_with (go_at_call 26; refine (l6In_any _ _ _ _).mono ?_; rintro e w' ⟨rfl, rfl⟩)
          go_ret
          exact ⟨ret_bool (by first | rfl | rw [hno]), rfl⟩
      · have hall := HB.out
        have HT := Lib.hid (List.take_of_length_le (l := r) (i := t) (by have := HL.out; omega))
        rw [HT.out] at hall
        have HALL := Lib.hid hall
        clear hall
        go_wp2
        go_ret
        refine ⟨ret_bool ?_, rfl⟩
        rw [HT.out, Bool.eq_iff_iff, rwB_iff, beq_iff_eq]
        exact ⟨fun h => ⟨HL.out, h, HALL.out⟩, fun h => h.2.1⟩
  · have hno : rwB at_ r = false := rwB_f fun h => h16 h.1
    have b1 : ((r.length : Int) != 16) = true := by rw [bne_iff_ne]; omega
    clear h16
    go_enter Try.func27, Try.ntmps27
    go_wp2
    go_ret
    exact ⟨ret_bool (by first | rfl | rw [hno]), rfl⟩

set_option maxHeartbeats 1000000 in
/-- spec.KeyRows. -/
theorem skrows_any (A : Option Addr) (n c : Nat) (rs : List (List Int)) (w : World) (hx : Rws w w.heap.size A rs) (hn : rs.length = n) (hm : n ≤ 4194304) :
    Calls Try.prog 20 #[.slice A n c] w fun e w' => e = .returned (.bool (krB rs)) ∧ w = w' := by
  have HN := Lib.hid hn
  clear hn
  go_enter Try.func20, Try.ntmps20
  go_wp2
  go_loop [3] (fun i => ∃ k : Nat, k ≤ n ∧ i = .int .i64 k ∧ Hid (∀ j r, j < k → rs[j]? = some r → rowP j r)) (fun i => n - (intOf i).toNat)
  case atStart => exact ⟨0, by omega, rfl, fun j r hj => absurd hj (by omega)⟩
  case round =>
    obtain ⟨k, hk, rfl, HA⟩ := hrel
    by_cases hlt : k < n
    · obtain ⟨b, o, r, Ar, cr, rfl, hb, HX, hc, hrc, hcm, hri⟩ := hx.at_ (k := k) (by have := HN.out; omega)
      cases hrw : rwB k r
      · have hno := rows_no HX.out (fun h => by rw [rwB_t h] at hrw; cases hrw)
        go_wp2_with (go_at_call 27; refine (srow_any _ _ _ r _ hri (Nat.le_trans hrc hcm) (by omega)).mono ?_; rintro e w' ⟨rfl, rfl⟩)
        go_ret
        exact ⟨ret_bool (by first | rfl | rw [hno]), rfl⟩
      · have hrow := Lib.hid (rwB_iff.1 hrw)
        go_wp2_with (go_at_call 27; refine (srow_any _ _ _ r _ hri (Nat.le_trans hrc hcm) (by omega)).mono ?_; rintro e w' ⟨rfl, rfl⟩)
        go_round
        case rel =>
          refine ⟨k + 1, by omega, by go_num, fun j q hj hq => ?_⟩
          by_cases hjk : j = k
          · subst hjk
            have := HX.out
            rw [hq] at this
            injection this with this
            rw [this]; exact hrow.out
          · exact HA.out j q (by omega) hq
        case measure => simp [intOf]; omega
    · have hall : ∀ i r, rs[i]? = some r → rowP i r := fun i r hr => HA.out i r (by have := lt_of_at hr; have := HN.out; omega) hr
      by_cases h1 : 1 ≤ (n : Int) ∧ (n : Int) ≤ 8
      · have hyes : krB rs = true := krB_t ⟨by have := HN.out; omega, by have := HN.out; omega, hall⟩
        have hi : inB (n : Int) 1 8 = true := inB_t h1.1 h1.2
        clear hall h1
        go_wp2_with (go_at_call 26; refine (l6In_any _ _ _ _).mono ?_; rintro e w' ⟨rfl, rfl⟩)
        go_ret
        exact ⟨ret_bool (by first | rfl | rw [hyes]), rfl⟩
      · have hno : krB rs = false := krB_f fun h => by have := h.1; have := h.2.1; have := HN.out; omega
        have hi : inB (n : Int) 1 8 = false := inB_f h1
        clear hall h1
        go_wp2_with (go_at_call 26; refine (l6In_any _ _ _ _).mono ?_; rintro e w' ⟨rfl, rfl⟩)
        go_ret
        exact ⟨ret_bool (by first | rfl | rw [hno]), rfl⟩
end Go.Proofs.Ytgdoajhieiibcaa
