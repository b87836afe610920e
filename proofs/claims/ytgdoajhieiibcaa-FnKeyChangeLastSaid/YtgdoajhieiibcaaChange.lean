/-
  The walks of KeyChange, the program's and the reference's: both return the change, for all lists.
-/
import Derived.Test.YtgdoajhieiibcaaRows2
namespace Go.Proofs.Ytgdoajhieiibcaa
open Go.RowKit

theorem kc_at {rs : List (List Int)} {xs : List Int} {m n i : Nat} {r : List Int} {x : Int} (hm : xs.length = m) (hn : rs.length = n) (h1 : ksB xs = true) (h2 : krB rs = true) (hi : i = min m (n - 1)) (hr : rs[i]? = some r) (hx : r[(ksV xs).toNat]? = some x) :
    kcV rs xs = (m : Int) + x := by
  have e : ksV xs = sumI xs % 16 := ksV_t (ksB_iff.1 h1)
  rw [kcV, h1, h2, hm, hn, ← hi, ← e]
  simp [hr, hx]

set_option maxHeartbeats 1000000 in
/-- impl.KeyChange. -/
theorem impl_change (A : Option Addr) (n c : Nat) (rs : List (List Int)) (A' : Option Addr) (m c' : Nat) (xs : List Int) (w : World) (hr : Rws w w.heap.size A rs) (hn : rs.length = n) (hm : n ≤ 4194304)
    (hx : Ints w w.heap.size A' xs) (hxn : xs.length = m) (hmm' : m ≤ maxLen) :
    Calls Try.prog 13 #[.slice A n c, .slice A' m c'] w fun e w' => e = .returned (.tuple #[.int .i64 (kcV rs xs), .bool (kcB rs xs)]) ∧ w = w' := by
  have hmm := len_max hmm'
  have HN := Lib.hid hn
  have HX := Lib.hid hxn
  clear hn hxn
  cases h1 : ksB xs
  · go_enter Try.func13, Try.ntmps13
    go_wp2_with (first | (go_at_call 21; refine (ksum_any _ _ _ xs _ hx HX.out hmm').mono ?_; rintro e w' ⟨rfl, rfl⟩) | (go_at_call 22; refine (krows_any _ _ _ rs _ hr HN.out hm).mono ?_; rintro e w' ⟨rfl, rfl⟩))
    go_ret2
    exact ⟨ret_two (by rw [kcV, h1]; rfl) (by rw [kcB, h1]; rfl), rfl⟩
  cases h2 : krB rs
  · go_enter Try.func13, Try.ntmps13
    go_wp2_with (first | (go_at_call 21; refine (ksum_any _ _ _ xs _ hx HX.out hmm').mono ?_; rintro e w' ⟨rfl, rfl⟩) | (go_at_call 22; refine (krows_any _ _ _ rs _ hr HN.out hm).mono ?_; rintro e w' ⟨rfl, rfl⟩))
    go_ret2
    exact ⟨ret_two (by rw [kcV, h1, h2]; rfl) (by rw [kcB, h1, h2]; rfl), rfl⟩
  have hk := ksB_iff.1 h1
  have hkl : m ≤ 40 := by have := hk.1; have := HX.out; omega
  have hkv := ksV_t hk
  have q0 : 0 ≤ ksV xs := by rw [hkv]; omega
  have q1 : ksV xs < 16 := by rw [hkv]; omega
  have hn1 : 1 ≤ n := by have := (krB_iff.1 h2).1; have := HN.out; omega
  clear hk hkv
  by_cases hle : (m : Int) < (n : Int) - 1
  ·
      obtain ⟨b, o, r, Ar, cr, rfl, hb, HR, hc, hrc, hcm, hri⟩ := hr.at_ (k := m) (by have := HN.out; omega)
      have hrow := (krB_iff.1 h2).2.2 _ r HR.out
      have HL := Lib.hid hrow.1
      obtain ⟨b', o', x, rfl, hb', HY, hc'⟩ := hri.at_ (k := (ksV xs).toNat) (by have := HL.out; omega)
      have hel := hrow.2.2 x (mem_of_at HY.out)
      unfold elP at hel
      obtain ⟨x0, x1, -, -⟩ := hel
      rw [HL.out] at hc hrc
      clear hrow
      go_enter Try.func13, Try.ntmps13
      go_wp2_with (first | (go_at_call 21; refine (ksum_any _ _ _ xs _ hx HX.out hmm').mono ?_; rintro e w' ⟨rfl, rfl⟩) | (go_at_call 22; refine (krows_any _ _ _ rs _ hr HN.out hm).mono ?_; rintro e w' ⟨rfl, rfl⟩))
      go_ret2
      exact ⟨ret_two (by rw [kc_at HX.out HN.out h1 h2 (by omega) HR.out HY.out]; try omega) (by rw [kcB, h1, h2]; rfl), rfl⟩
  · by_cases heq : (m : Int) = (n : Int) - 1
    · have hmn : m = n - 1 := by omega
      subst hmn
      obtain ⟨b, o, r, Ar, cr, rfl, hb, HR, hc, hrc, hcm, hri⟩ := hr.at_ (k := n - 1) (by have := HN.out; omega)
      have hrow := (krB_iff.1 h2).2.2 _ r HR.out
      have HL := Lib.hid hrow.1
      obtain ⟨b', o', x, rfl, hb', HY, hc'⟩ := hri.at_ (k := (ksV xs).toNat) (by have := HL.out; omega)
      have hel := hrow.2.2 x (mem_of_at HY.out)
      unfold elP at hel
      obtain ⟨x0, x1, -, -⟩ := hel
      rw [HL.out] at hc hrc
      clear hrow
      go_enter Try.func13, Try.ntmps13
      go_wp2_with (first | (go_at_call 21; refine (ksum_any _ _ _ xs _ hx HX.out hmm').mono ?_; rintro e w' ⟨rfl, rfl⟩) | (go_at_call 22; refine (krows_any _ _ _ rs _ hr HN.out hm).mono ?_; rintro e w' ⟨rfl, rfl⟩))
      go_ret2
      exact ⟨ret_two (by rw [kc_at HX.out HN.out h1 h2 (by omega) HR.out HY.out]; try omega) (by rw [kcB, h1, h2]; rfl), rfl⟩
    ·
      obtain ⟨b, o, r, Ar, cr, rfl, hb, HR, hc, hrc, hcm, hri⟩ := hr.at_ (k := n - 1) (by have := HN.out; omega)
      have hrow := (krB_iff.1 h2).2.2 _ r HR.out
      have HL := Lib.hid hrow.1
      obtain ⟨b', o', x, rfl, hb', HY, hc'⟩ := hri.at_ (k := (ksV xs).toNat) (by have := HL.out; omega)
      have hel := hrow.2.2 x (mem_of_at HY.out)
      unfold elP at hel
      obtain ⟨x0, x1, -, -⟩ := hel
      rw [HL.out] at hc hrc
      clear hrow
      go_enter Try.func13, Try.ntmps13
      go_wp2_with (first | (go_at_call 21; refine (ksum_any _ _ _ xs _ hx HX.out hmm').mono ?_; rintro e w' ⟨rfl, rfl⟩) | (go_at_call 22; refine (krows_any _ _ _ rs _ hr HN.out hm).mono ?_; rintro e w' ⟨rfl, rfl⟩))
      go_ret2
      exact ⟨ret_two (by rw [kc_at HX.out HN.out h1 h2 (by omega) HR.out HY.out]; try omega) (by rw [kcB, h1, h2]; rfl), rfl⟩

set_option maxHeartbeats 1000000 in
/-- spec.KeyChange. -/
theorem spec_change (A : Option Addr) (n c : Nat) (rs : List (List Int)) (A' : Option Addr) (m c' : Nat) (xs : List Int) (w : World) (hr : Rws w w.heap.size A rs) (hn : rs.length = n) (hm : n ≤ 4194304)
    (hx : Ints w w.heap.size A' xs) (hxn : xs.length = m) (hmm' : m ≤ maxLen) :
    Calls Try.prog 10 #[.slice A n c, .slice A' m c'] w fun e w' => e = .returned (.tuple #[.int .i64 (kcV rs xs), .bool (kcB rs xs)]) ∧ w = w' := by
  have hmm := len_max hmm'
  have HN := Lib.hid hn
  have HX := Lib.hid hxn
  clear hn hxn
  cases h1 : ksB xs
  · go_enter Try.func10, Try.ntmps10
    go_wp2_with (first | (go_at_call 19; refine (sksum_any _ _ _ xs _ hx HX.out hmm').mono ?_; rintro e w' ⟨rfl, rfl⟩) | (go_at_call 20; refine (skrows_any _ _ _ rs _ hr HN.out hm).mono ?_; rintro e w' ⟨rfl, rfl⟩))
    go_ret2
    exact ⟨ret_two (by rw [kcV, h1]; rfl) (by rw [kcB, h1]; rfl), rfl⟩
  cases h2 : krB rs
  · go_enter Try.func10, Try.ntmps10
    go_wp2_with (first | (go_at_call 19; refine (sksum_any _ _ _ xs _ hx HX.out hmm').mono ?_; rintro e w' ⟨rfl, rfl⟩) | (go_at_call 20; refine (skrows_any _ _ _ rs _ hr HN.out hm).mono ?_; rintro e w' ⟨rfl, rfl⟩))
    go_ret2
    exact ⟨ret_two (by rw [kcV, h1, h2]; rfl) (by rw [kcB, h1, h2]; rfl), rfl⟩
  have hk := ksB_iff.1 h1
  have hkl : m ≤ 40 := by have := hk.1; have := HX.out; omega
  have hkv := ksV_t hk
  have q0 : 0 ≤ ksV xs := by rw [hkv]; omega
  have q1 : ksV xs < 16 := by rw [hkv]; omega
  have hn1 : 1 ≤ n := by have := (krB_iff.1 h2).1; have := HN.out; omega
  clear hk hkv
  by_cases hle : (m : Int) < (n : Int) - 1
  ·
      obtain ⟨b, o, r, Ar, cr, rfl, hb, HR, hc, hrc, hcm, hri⟩ := hr.at_ (k := m) (by have := HN.out; omega)
      have hrow := (krB_iff.1 h2).2.2 _ r HR.out
      have HL := Lib.hid hrow.1
      obtain ⟨b', o', x, rfl, hb', HY, hc'⟩ := hri.at_ (k := (ksV xs).toNat) (by have := HL.out; omega)
      have hel := hrow.2.2 x (mem_of_at HY.out)
      unfold elP at hel
      obtain ⟨x0, x1, -, -⟩ := hel
      rw [HL.out] at hc hrc
      clear hrow
      go_enter Try.func10, Try.ntmps10
      go_wp2_with (first | (go_at_call 19; refine (sksum_any _ _ _ xs _ hx HX.out hmm').mono ?_; rintro e w' ⟨rfl, rfl⟩) | (go_at_call 20; refine (skrows_any _ _ _ rs _ hr HN.out hm).mono ?_; rintro e w' ⟨rfl, rfl⟩))
      go_ret2
      exact ⟨ret_two (by rw [kc_at HX.out HN.out h1 h2 (by omega) HR.out HY.out]; try omega) (by rw [kcB, h1, h2]; rfl), rfl⟩
  · by_cases heq : (m : Int) = (n : Int) - 1
    · have hmn : m = n - 1 := by omega
      subst hmn
      obtain ⟨b, o, r, Ar, cr, rfl, hb, HR, hc, hrc, hcm, hri⟩ := hr.at_ (k := n - 1) (by have := HN.out; omega)
      have hrow := (krB_iff.1 h2).2.2 _ r HR.out
      have HL := Lib.hid hrow.1
      obtain ⟨b', o', x, rfl, hb', HY, hc'⟩ := hri.at_ (k := (ksV xs).toNat) (by have := HL.out; omega)
      have hel := hrow.2.2 x (mem_of_at HY.out)
      unfold elP at hel
      obtain ⟨x0, x1, -, -⟩ := hel
      rw [HL.out] at hc hrc
      clear hrow
      go_enter Try.func10, Try.ntmps10
      go_wp2_with (first | (go_at_call 19; refine (sksum_any _ _ _ xs _ hx HX.out hmm').mono ?_; rintro e w' ⟨rfl, rfl⟩) | (go_at_call 20; refine (skrows_any _ _ _ rs _ hr HN.out hm).mono ?_; rintro e w' ⟨rfl, rfl⟩))
      go_ret2
      exact ⟨ret_two (by rw [kc_at HX.out HN.out h1 h2 (by omega) HR.out HY.out]; try omega) (by rw [kcB, h1, h2]; rfl), rfl⟩
    ·
      obtain ⟨b, o, r, Ar, cr, rfl, hb, HR, hc, hrc, hcm, hri⟩ := hr.at_ (k := n - 1) (by have := HN.out; omega)
      have hrow := (krB_iff.1 h2).2.2 _ r HR.out
      have HL := Lib.hid hrow.1
      obtain ⟨b', o', x, rfl, hb', HY, hc'⟩ := hri.at_ (k := (ksV xs).toNat) (by have := HL.out; omega)
      have hel := hrow.2.2 x (mem_of_at HY.out)
      unfold elP at hel
      obtain ⟨x0, x1, -, -⟩ := hel
      rw [HL.out] at hc hrc
      clear hrow
      go_enter Try.func10, Try.ntmps10
      go_wp2_with (first | (go_at_call 19; refine (sksum_any _ _ _ xs _ hx HX.out hmm').mono ?_; rintro e w' ⟨rfl, rfl⟩) | (go_at_call 20; refine (skrows_any _ _ _ rs _ hr HN.out hm).mono ?_; rintro e w' ⟨rfl, rfl⟩))
      go_ret2
      exact ⟨ret_two (by rw [kc_at HX.out HN.out h1 h2 (by omega) HR.out HY.out]; try omega) (by rw [kcB, h1, h2]; rfl), rfl⟩
end Go.Proofs.Ytgdoajhieiibcaa
