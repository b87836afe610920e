/-
  impl.KeySpread at a table of changes: no less than any change.
-/
import Derived.Test.YtgdoajhieiibcaaChange
import Derived.Deep.DrawnRows
namespace Go.Proofs.Ytgdoajhieiibcaa
open Go.RowKit
attribute [local go_sem ↓] Go.wp_at_zero Go.wp_at_succ

/-- No integer of rows is greater. -/
def under (rs : List (List Int)) (S : Int) : Prop := ∀ r ∈ rs, ∀ x ∈ r, -S ≤ x ∧ x ≤ S
theorem under_nil (S : Int) : under [] S := fun r hr => by simp at hr
theorem under_le {rs : List (List Int)} {S T : Int} (h : under rs S) (hS : S ≤ T) : under rs T := fun r hr x hx => by have := h r hr x hx; omega
theorem under_next {rs : List (List Int)} {k : Nat} {r : List Int} {S : Int} (hk : rs[k]? = some r) (h : under (rs.take k) S) (hr : ∀ x ∈ r, -S ≤ x ∧ x ≤ S) : under (rs.take (k + 1)) S := by
  rw [take_next hk]
  intro q hq
  rcases List.mem_append.1 hq with hq | hq
  · exact h q hq
  · rw [List.mem_singleton.1 hq]; exact hr
theorem row_next {r : List Int} {t : Nat} {x S : Int} (ht : r[t]? = some x) (h : ∀ y ∈ r.take t, -S ≤ y ∧ y ≤ S) (hx : -S ≤ x ∧ x ≤ S) : ∀ y ∈ r.take (t + 1), -S ≤ y ∧ y ≤ S := by
  rw [take_next ht]
  intro y hy
  rcases List.mem_append.1 hy with hy | hy
  · exact h y hy
  · rw [List.mem_singleton.1 hy]; exact hx
/-- What KeySpread leaves. -/
def SpQ (rs : List (List Int)) (w : World) (e : Ending) (w' : World) : Prop := ∃ S : Int, e = .returned (.int .i64 S) ∧ 0 ≤ S ∧ S ≤ 10 ∧ Hid (under rs S) ∧ w = w'
set_option maxHeartbeats 2000000 in
theorem spread_t (A : Option Addr) (n c : Nat) (rs : List (List Int)) (w : World) (hx : Rws w w.heap.size A rs) (hn : rs.length = n) (hm : n ≤ 4194304) (hv : krB rs = true) :
    Calls Try.prog 17 #[.slice A n c] w (SpQ rs w) := by
  have HN := Lib.hid hn
  have HV := Lib.hid (krB_iff.1 hv)
  clear hn
  go_enter Try.func17, Try.ntmps17
  go_wp2_with fail
  refine (krows_any A n c rs _ hx HN.out hm).mono ?_
  rintro e w' ⟨rfl, rfl⟩
  rw [hv]
  go_wp2_with fail
  go_loop [3, 5, 7, 13] (fun s _ _ i => ∃ (k : Nat) (S : Int), k ≤ n ∧ i = .int .i64 (k : Int) ∧ s = .int .i64 S ∧ 0 ≤ S ∧ S ≤ 10 ∧ Hid (under (rs.take k) S)) (fun _ _ _ i => n - (intOf i).toNat)
  case atStart => exact ⟨0, 0, by omega, rfl, rfl, by omega, by omega, under_nil 0⟩
  case round =>
    obtain ⟨k, S, hk, rfl, rfl, S0, S1, HU⟩ := hrel
    by_cases hlt : k < n
    · obtain ⟨b, o, r, Ar, cr, rfl, hb, HX, hc, hrc, hcm, hri⟩ := hx.at_ (k := k) (by have := HN.out; omega)
      have hrow := HV.out.2.2 k r HX.out
      have hcm := len_max hcm
      have h16 := hrow.1
      rw [h16] at hc hrc
      have HL := Lib.hid h16
      have HE := Lib.hid hrow.2.2
      clear h16 hrow
      have i1 : (0 : Int) ≤ (k : Int) := by omega
      have i2 : (k : Int) < (n : Int) := by omega
      go_wp2_with fail
      go_loop [3, 7, 19] (fun s _ i => ∃ (t : Nat) (S : Int), t ≤ 16 ∧ i = .int .i64 (t : Int) ∧ s = .int .i64 S ∧ 0 ≤ S ∧ S ≤ 10 ∧ Hid (under (rs.take k) S) ∧ Hid (∀ y ∈ r.take t, -S ≤ y ∧ y ≤ S)) (fun _ _ i => 16 - (intOf i).toNat)
      case atStart => exact ⟨0, S, by omega, rfl, rfl, S0, S1, HU, fun y hy => by simp at hy⟩
      case round =>
        clear HU S0 S1
        obtain ⟨t, S, ht, rfl, rfl, S0, S1, HU, HT⟩ := hrel
        by_cases htl : t < 16
        · obtain ⟨b', o', x, rfl, hb', HY, hc'⟩ := hri.at_ (k := t) (by have := HL.out; omega)
          have hel := HE.out x (mem_of_at HY.out)
          unfold elP at hel
          obtain ⟨x0, x1, -, -⟩ := hel
          have j1 : (0 : Int) ≤ (t : Int) := by omega
          have j2 : (t : Int) < (16 : Int) := by omega
          by_cases g1 : S < x
          · have g2 : ¬ x < -x := by omega
            have HU2 := Lib.hid (under_le HU.out (show S ≤ x by omega))
            have HT2 := Lib.hid (row_next HY.out (S := x) (fun y hy => by have := HT.out y hy; omega) (by omega))
            go_wp2_with fail
            go_round
            case rel => exact ⟨t + 1, x, by omega, by go_num, rfl, by omega, by omega, HU2, HT2⟩
            case measure => simp [intOf]; omega
          · by_cases g3 : S < -x
            · have HU2 := Lib.hid (under_le HU.out (show S ≤ -x by omega))
              have HT2 := Lib.hid (row_next HY.out (S := -x) (fun y hy => by have := HT.out y hy; omega) (by omega))
              go_wp2_with fail
              go_round
              case rel => exact ⟨t + 1, -x, by omega, by go_num, rfl, by omega, by omega, HU2, HT2⟩
              case measure => simp [intOf]; omega
            · have HT2 := Lib.hid (row_next HY.out (S := S) (fun y hy => HT.out y hy) (by omega))
              go_wp2_with fail
              go_round
              case rel => exact ⟨t + 1, S, by omega, by go_num, rfl, by omega, by omega, HU, HT2⟩
              case measure => simp [intOf]; omega
        · have HN2 : Hid (under (rs.take (k + 1)) S) := under_next HX.out HU.out (fun y hy => HT.out y (by rw [List.take_of_length_le (by have := HL.out; omega)]; exact hy))
          go_wp2_with fail
          go_round
          case rel => exact ⟨k + 1, S, by omega, by go_num, rfl, S0, S1, HN2⟩
          case measure => simp [intOf]; omega
    · have HA : Hid (under rs S) := by
        have h := HU.out
        rw [List.take_of_length_le (by have := HN.out; omega)] at h
        exact h
      go_wp2_with fail
      go_ret
      exact ⟨S, rfl, S0, S1, HA, rfl⟩
end Go.Proofs.Ytgdoajhieiibcaa
