/-
  The walks of the functions that only read keys and tables of changes: total, KeySum, KeyRows, KeyChange, the program's and the reference's.
-/
import Derived.Test.YtgdoajhieiibcaaMem
import Derived.Test.YtgdoajhieiibcaaPlain
namespace Go.Proofs.Ytgdoajhieiibcaa
open Go.RowKit

def inB (n lo hi : Int) : Bool := decide (lo ≤ n ∧ n ≤ hi)
theorem inB_t {n lo hi : Int} (h1 : lo ≤ n) (h2 : n ≤ hi) : inB n lo hi = true := by simp [inB, h1, h2]
theorem inB_f {n lo hi : Int} (h : ¬ (lo ≤ n ∧ n ≤ hi)) : inB n lo hi = false := by simp only [inB, decide_eq_false_iff_not]; exact h
/-- spec.l6In. -/
theorem l6In_any (n lo hi : Int) (w : World) : Calls Try.prog 26 #[.int .i64 n, .int .i64 lo, .int .i64 hi] w fun e w' => e = .returned (.bool (inB n lo hi)) ∧ w = w' := by
  by_cases h1 : lo ≤ n
  · by_cases h2 : n ≤ hi
    · rw [inB_t h1 h2]
      go_enter Try.func26, Try.ntmps26
      go_wp2
      go_ret
      exact ⟨rfl, rfl⟩
    · rw [inB_f (by omega)]
      go_enter Try.func26, Try.ntmps26
      go_wp2
      go_ret
      exact ⟨rfl, rfl⟩
  · rw [inB_f (by omega)]
    go_enter Try.func26, Try.ntmps26
    go_wp2
    go_ret
    exact ⟨rfl, rfl⟩

set_option maxHeartbeats 400000 in
/-- impl.total. -/
theorem total_any (A : Option Addr) (n c : Nat) (xs : List Int) (w : World) (hx : Ints w w.heap.size A xs) (hn : xs.length = n) (hm : n ≤ maxLen) :
    Calls Try.prog 28 #[.slice A n c] w fun e w' => e = .returned (.int .i64 (wsum xs)) ∧ w = w' := by
  have hm := len_max hm
  have HN := Lib.hid hn
  clear hn
  go_enter Try.func28, Try.ntmps28
  go_wp2
  go_loop [3, 5, 8] (fun s _ i => ∃ k : Nat, k ≤ n ∧ i = .int .i64 k ∧ s = .int .i64 (wsum (xs.take k))) (fun _ _ i => n - (intOf i).toNat)
  case atStart => exact ⟨0, by omega, rfl, rfl⟩
  case round =>
    obtain ⟨k, hk, rfl, rfl⟩ := hrel
    by_cases hlt : k < n
    · obtain ⟨b, o, x, rfl, hb, HX, hc⟩ := hx.at_ (k := k) (by have := HN.out; omega)
      have H := Lib.hid (wsum_snoc (xs.take k) x)
      go_wp2
      go_round
      case rel => exact ⟨k + 1, by omega, by go_num, by rw [take_next HX.out, H.out]⟩
      case measure => simp [intOf]; omega
    · go_wp2
      go_ret
      exact ⟨ret_int (by rw [List.take_of_length_le (by have := HN.out; omega)]), rfl⟩

theorem ret_two {a b : Int} {c d : Bool} (h : a = b) (h' : c = d) : Ending.returned (.tuple #[.int .i64 a, .bool c]) = .returned (.tuple #[.int .i64 b, .bool d]) := by rw [h, h']

set_option maxHeartbeats 400000 in
/-- impl.KeySum. -/
theorem ksum_any (A : Option Addr) (n c : Nat) (xs : List Int) (w : World) (hx : Ints w w.heap.size A xs) (hn : xs.length = n) (hm' : n ≤ maxLen) :
    Calls Try.prog 21 #[.slice A n c] w fun e w' => e = .returned (.tuple #[.int .i64 (ksV xs), .bool (ksB xs)]) ∧ w = w' := by
  have hm := len_max hm'
  have HN := Lib.hid hn
  clear hn
  by_cases hp : keysP xs
  · obtain ⟨e1, e2, e3⟩ := keys_sum hp
    have E1 := Lib.hid e1
    have hs : 0 ≤ wsum xs := by omega
    have hl : n ≤ 40 := by have := hp.1; have := HN.out; omega
    clear e1 e2 e3
    go_enter Try.func21, Try.ntmps21
    go_wp2
    go_loop [5, 8] (fun _ i => ∃ k : Nat, k ≤ n ∧ i = .int .i64 k) (fun _ i => n - (intOf i).toNat)
    case atStart => exact ⟨0, by omega, rfl⟩
    case round =>
      obtain ⟨k, hk, rfl⟩ := hrel
      by_cases hlt : k < n
      · obtain ⟨b, o, x, rfl, hb, HX, hc⟩ := hx.at_ (k := k) (by have := HN.out; omega)
        have hr := hp.2 x (mem_of_at HX.out)
        obtain ⟨hr0, hr1⟩ := hr
        go_wp2
        go_round
        case rel => exact ⟨k + 1, by omega, by go_num⟩
        case measure => simp [intOf]; omega
      · go_wp2_with (go_at_call 28; refine (total_any _ _ _ xs _ hx HN.out hm').mono ?_; rintro e w' ⟨rfl, rfl⟩)
        go_ret2
        exact ⟨ret_two (by rw [ksV_t hp, E1.out]) (by rw [ksB_t hp]), rfl⟩
  · go_enter Try.func21, Try.ntmps21
    go_wp2
    go_loop [5, 8] (fun _ i => ∃ k : Nat, k ≤ n ∧ i = .int .i64 k ∧ ∀ x ∈ xs.take k, 0 ≤ x ∧ x < 16) (fun _ i => n - (intOf i).toNat)
    case atStart => exact ⟨0, by omega, rfl, by simp⟩
    case round =>
      obtain ⟨k, hk, rfl, hall⟩ := hrel
      have HA := Lib.hid hall
      clear hall
      by_cases hlt : k < n
      · obtain ⟨b, o, x, rfl, hb, HX, hc⟩ := hx.at_ (k := k) (by have := HN.out; omega)
        by_cases h0 : x < 0
        · go_wp2
          go_ret2
          exact ⟨ret_two (by rw [ksV_f hp]) (by rw [ksB_f hp]), rfl⟩
        by_cases h1 : 16 ≤ x
        · go_wp2
          go_ret2
          exact ⟨ret_two (by rw [ksV_f hp]) (by rw [ksB_f hp]), rfl⟩
        go_wp2
        go_round
        case rel =>
          refine ⟨k + 1, by omega, by go_num, fun y hy => ?_⟩
          rw [take_next HX.out, List.mem_append, List.mem_singleton] at hy
          rcases hy with hy | rfl
          · exact HA.out y hy
          · omega
        case measure => simp [intOf]; omega
      · have hl : 40 < n := by
          have hall := HA.out
          rw [List.take_of_length_le (by have := HN.out; omega)] at hall
          have := HN.out
          rcases Nat.lt_or_ge 40 n with h | h
          · exact h
          · exact absurd ⟨by omega, hall⟩ hp
        go_wp2
        go_ret2
        exact ⟨ret_two (by rw [ksV_f hp]) (by rw [ksB_f hp]), rfl⟩

set_option maxHeartbeats 400000 in
/-- spec.KeySum. -/
theorem sksum_any (A : Option Addr) (n c : Nat) (xs : List Int) (w : World) (hx : Ints w w.heap.size A xs) (hn : xs.length = n) (hm' : n ≤ maxLen) :
    Calls Try.prog 19 #[.slice A n c] w fun e w' => e = .returned (.tuple #[.int .i64 (ksV xs), .bool (ksB xs)]) ∧ w = w' := by
  have hm := len_max hm'
  have HN := Lib.hid hn
  clear hn
  go_enter Try.func19, Try.ntmps19
  go_wp2
  go_loop [4, 5] (fun s i => ∃ k : Nat, k ≤ n ∧ i = .int .i64 k ∧ s = .int .i64 (sumI (xs.take k)) ∧ keysP (xs.take k)) (fun _ i => n - (intOf i).toNat)
  case atStart => exact ⟨0, by omega, rfl, rfl, by simp [keysP]⟩
  case round =>
    obtain ⟨k, hk, rfl, rfl, hall⟩ := hrel
    obtain ⟨-, s1, s2⟩ := keys_sum hall
    by_cases hlt : k < n
    · obtain ⟨b, o, x, rfl, hb, HX, hc⟩ := hx.at_ (k := k) (by have := HN.out; omega)
      by_cases h0 : 0 ≤ x ∧ x ≤ 15
      · have hi : inB x 0 15 = true := inB_t h0.1 h0.2
        obtain ⟨h00, h01⟩ := h0
        by_cases h4 : 40 ≤ k
        · have hno : ¬ keysP xs := fun h => by have := h.1; have := HN.out; omega
          go_wp2_with (go_at_call 26; refine (l6In_any _ _ _ _).mono ?_; rintro e w' ⟨rfl, rfl⟩)
          go_ret2
          exact ⟨ret_two (by rw [ksV_f hno]) (by rw [ksB_f hno]), rfl⟩
        · go_wp2_with (go_at_call 26; refine (l6In_any _ _ _ _).mono ?_; rintro e w' ⟨rfl, rfl⟩)
          go_round
          case rel =>
            refine ⟨k + 1, by omega, by go_num, by rw [take_next HX.out, sumI_append, sumI_one], ?_⟩
            rw [take_next HX.out]
            refine ⟨by rw [List.length_append, List.length_take]; simp; omega, fun y hy => ?_⟩
            rw [List.mem_append, List.mem_singleton] at hy
            rcases hy with hy | rfl
            · exact hall.2 y hy
            · omega
          case measure => simp [intOf]; omega
      · have hi : inB x 0 15 = false := inB_f h0
        have hno : ¬ keysP xs := fun h => by have := h.2 x (mem_of_at HX.out); omega
        go_wp2_with (go_at_call 26; refine (l6In_any _ _ _ _).mono ?_; rintro e w' ⟨rfl, rfl⟩)
        go_ret2
        exact ⟨ret_two (by rw [ksV_f hno]) (by rw [ksB_f hno]), rfl⟩
    · have HT := Lib.hid (List.take_of_length_le (l := xs) (i := k) (by have := HN.out; omega))
      have hyes : keysP xs := by rw [← HT.out]; exact hall
      go_wp2
      go_ret2
      exact ⟨ret_two (by rw [ksV_t hyes, HT.out]) (by rw [ksB_t hyes]), rfl⟩
end Go.Proofs.Ytgdoajhieiibcaa
