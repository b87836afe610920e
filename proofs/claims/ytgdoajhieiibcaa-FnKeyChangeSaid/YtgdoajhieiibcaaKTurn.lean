/-
  FnKeyChange: the walk of this law.
-/
import Derived.Test.YtgdoajhieiibcaaKDraw
import Derived.Test.YtgdoajhieiibcaaAppend
import Derived.Test.YtgdoajhieiibcaaSpread
import Derived.Deep.RegionHeld3
namespace Go.Proofs.Ytgdoajhieiibcaa
open Go.RowKit
attribute [local go_sem ↓] Go.wp_at_zero Go.wp_at_succ

theorem sum_turn (xs : List Int) (k : Nat) : sumI (xs.drop k ++ xs.take k) = sumI xs := by
  have h := sumI_append (xs.take k) (xs.drop k)
  rw [List.take_append_drop] at h
  rw [sumI_append]; omega
theorem len_turn (xs : List Int) (k : Nat) : (xs.drop k ++ xs.take k).length = xs.length := by
  rw [List.length_append, List.length_drop, List.length_take]; omega
theorem ks_turn {xs : List Int} (h : ksB xs = true) (k : Nat) : ksB (xs.drop k ++ xs.take k) = true := by
  have h := ksB_iff.1 h
  refine ksB_t ⟨by rw [len_turn]; exact h.1, fun x hx => h.2 x ?_⟩
  rcases List.mem_append.1 hx with hx | hx
  · exact List.mem_of_mem_drop hx
  · exact List.mem_of_mem_take hx
/-- The same people have the same change. -/
theorem kc_turn {rs : List (List Int)} {xs : List Int} (h : kcB rs xs = true) (k : Nat) : kcB rs (xs.drop k ++ xs.take k) = true ∧ kcV rs (xs.drop k ++ xs.take k) = kcV rs xs := by
  have h1 := h
  rw [kcB, Bool.and_eq_true] at h1
  have h2 := ks_turn h1.1 k
  refine ⟨by rw [kcB, h2, h1.2]; rfl, ?_⟩
  rw [kcV, kcV, h2, h1.1, len_turn, sum_turn]
/-- A change is no greater than the greatest one. -/
theorem kc_spread {rs : List (List Int)} {xs : List Int} {S : Int} (h : kcB rs xs = true) (hu : under rs S) : -S ≤ kcV rs xs - xs.length ∧ kcV rs xs - xs.length ≤ S := by
  have h0 := h
  rw [kcB, Bool.and_eq_true] at h0
  have h1 := ksB_iff.1 h0.1
  have h2 := krB_iff.1 h0.2
  have hi : min xs.length (rs.length - 1) < rs.length := by have := h2.1; omega
  have hr : rs[min xs.length (rs.length - 1)]? = some rs[min xs.length (rs.length - 1)] := List.getElem?_eq_getElem hi
  have hrow := h2.2.2 _ _ hr
  have hj : (ksV xs).toNat < (rs[min xs.length (rs.length - 1)]).length := by rw [hrow.1, ksV_t h1]; omega
  have hx : (rs[min xs.length (rs.length - 1)])[(ksV xs).toNat]? = some (rs[min xs.length (rs.length - 1)])[(ksV xs).toNat] := List.getElem?_eq_getElem hj
  rw [kc_at rfl rfl h0.1 h0.2 rfl hr hx]
  have := hu _ (mem_of_at hr) _ (mem_of_at hx)
  omega
theorem Ints.take {w : World} {B : Nat} {A : Option Addr} {xs : List Int} (h : Ints w B A xs) (k : Nat) : Ints w B A (xs.take k) := by
  intro hp
  rw [List.length_take] at hp
  obtain ⟨b, o, e, hb, hc⟩ := h (by omega)
  refine ⟨b, o, e, hb, fun i x hx => hc i x ?_⟩
  rw [List.getElem?_take] at hx
  split at hx
  · exact hx
  · cases hx
theorem Ints.drop {w : World} {B k m cap : Nat} {A : Option Addr} {xs : List Int} (h : Ints w B A xs) (hm : xs.length = m) (hc : m ≤ cap) : Ints w B (if cap = k then A else A.map (·.add k)) (xs.drop k) := by
  intro hp
  rw [List.length_drop] at hp
  obtain ⟨b, o, rfl, hb, hx⟩ := h (by omega)
  rw [if_neg (by omega)]
  refine ⟨b, o + k, by simp only [Option.map_some, add_spot], hb, fun i x hi => ?_⟩
  rw [List.getElem?_drop] at hi
  rw [Nat.add_assoc]; exact hx _ x hi
theorem ret_true {p : Prop} [Decidable p] (h : p) : Ending.returned (Value.bool (decide p)) = Ending.returned (Value.bool true) := by rw [decide_eq_true h]
theorem one_ints (xs : List Int) : ∀ u ∈ xs.map (Value.int .i64), u.oneCell' = true := oneCell_ints xs
set_option maxHeartbeats 400000 in
/-- laws.FnKeyChange. -/
theorem fnKeyChange_walk (a0 : Option Addr) (len0 cap0 : Nat) (z0 : List Int) (a1 : Option Addr) (len1 cap1 : Nat) (z1 : List Int) (w : World) (w0 : IsRow8 w a0 len0 cap0 z0) (_w1 : IsRow8 w a1 len1 cap1 z1) :
    Calls Try.prog 8 #[.slice a0 len0 cap0, .slice a1 len1 cap1] w fun e w' => e = .returned (.bool true) ∧ Below w.heap.size w w' := by
  by_cases hl : 1048576 < len0
  · go_enter Try.func8, Try.ntmps8
    go_wp2
    go_ret
    exact ⟨rfl, Below.refl _ _⟩
  by_cases hl1 : 1048576 < len1
  · go_enter Try.func8, Try.ntmps8
    go_wp2
    go_ret
    exact ⟨rfl, Below.refl _ _⟩
  obtain ⟨i1, hj0, hy0, hy1, hy2⟩ := info_parts int_info
  go_enter Try.func8, Try.ntmps8
  go_wp2_with fail
  refine (drawk_any a0 len0 cap0 z0 _ w0).mono ?_
  rintro e w1 ⟨D, n, c, rs, D', m, c', xs, rfl, ⟨n8, nc, cm, HN, hrs⟩, ⟨m6, mc, cm', HX, hxs⟩, hb⟩
  clear w0
  go_wp2_with fail
  refine (impl_change D n c rs D' m c' xs _ hrs HN.out (by omega) hxs HX.out (by simp only [maxLen]; omega)).mono ?_
  rintro e w' ⟨rfl, rfl⟩
  go_wp2_with fail
  refine (spec_change D n c rs D' m c' xs _ hrs HN.out (by omega) hxs HX.out (by simp only [maxLen]; omega)).mono ?_
  rintro e w' ⟨rfl, rfl⟩
  cases hB : kcB rs xs
  · go_wp2_with fail
    go_ret
    exact ⟨rfl, hb⟩
  have HB := Lib.hid hB
  have hB2 := hB
  rw [kcB, Bool.and_eq_true] at hB2
  obtain ⟨hK, hR⟩ := hB2
  have hcm' := len_max cm'
  obtain ⟨v0, v1⟩ := kc_bd hB
  obtain ⟨k, hk⟩ : ∃ k, k = len1 % (m + 1) := ⟨_, rfl⟩
  have hkm : k ≤ m := by have := Nat.mod_lt len1 (show 0 < m + 1 by omega); omega
  have hkz : (len1 : Int).tmod ((m : Int) + 1) = (k : Int) := by rw [Int.tmod_eq_emod_of_nonneg (by omega), hk]; exact (Int.natCast_emod _ _).symm
  have hkz2 : (len1 : Int) % ((m : Int) + 1) = (k : Int) := by rw [hk]; exact (Int.natCast_emod _ _).symm
  clear hk
  have zm : ¬ (m : Int) + 1 = 0 := by omega
  have k0 : (0 : Int) ≤ (k : Int) := by omega
  have k1 : (k : Int) ≤ (m : Int) := by omega
  have k2 : (m : Int) ≤ (c' : Int) := by omega
  have k3 : (k : Int) ≤ (c' : Int) := by omega
  obtain ⟨t1, t2⟩ := kc_turn hB k
  have HT1 := Lib.hid t1
  have HT2 := Lib.hid t2
  have HL3 : Hid ((xs.drop k ++ xs.take k).length = m) := by show _ = _; rw [len_turn]; exact HX.out
  obtain ⟨V, hV⟩ : ∃ V, kcV rs xs = V := ⟨_, rfl⟩
  rw [hV] at v0 v1
  have HV := Lib.hid hV
  clear t1 t2 hB hK hV
  go_wp2_with fail
  clear hkz hkz2 zm
  have hd := hxs.drop (k := k) HX.out mc
  have HK2 : Hid ((xs.drop k).length = m - k) := by show _ = _; rw [List.length_drop, HX.out]
  by_cases hck : c' = k
  · rw [if_pos hck] at hd
    obtain rfl : k = c' := hck.symm
    have HK0 : Hid ((xs.drop k).length = 0) := by show _ = _; rw [HK2.out]; omega
    clear hck HK2
    have hown0 : (w1.drew.alloc (.cells #[] 3)).ownsRow w1.heap.size 3 1 (.slice (some ⟨w1.heap.size, 0, none⟩) 0 0) 0 [] := World.ownsRow_made w1.drew #[] 0 (Nat.le_refl _) (by simp [maxLen]) rfl
    have hb0 : Below w1.heap.size w1 (w1.drew.alloc (.cells #[] 3)) := (Below.refl _ _).drew.alloc (Nat.le_refl _) _
    have hs1 : Src (w1.drew.alloc (.cells #[] 3)) 1 _ 0 ((xs.drop k).map (Value.int .i64)) := (hd.below hb0).src HK0.out
    go_region_held3 (fun _ => True) (trivial)
      (first
        | (go_at_call 13
           refine (impl_change D n c rs D3 m c3 (xs.drop k ++ xs.take k) w3 (hrs.on hb3) HN.out (by omega) hi3 HL3.out (by simp only [maxLen]; omega)).mono ?_
           rintro e w' ⟨rfl, rfl⟩)
        | (refine step_append_src _ (by rfl) _ _ 23 (by rfl) w1.heap.size 3 i1 (.int .i64 0) 1 8 Try.underlying23 hj0 hy0 hy1 hy2 rfl (by decide) _ (0 + 0) _ (by rfl) hown2 _ k _ _ (by rfl) hs2 (one_ints _) (by simp only [maxLen]; omega) (by omega) hb2.size ?_
           intro v3 w3 hown3 hg3 _
           rw [show 0 + 0 + k = m by omega] at hown3
           obtain ⟨D3, c3, rfl⟩ := own_form hown3
           rw [List.nil_append, ← List.map_append] at hown3
           have hb3 : Below w1.heap.size w1 w3 := hb2.grown hg3 hb2.size (fun x e => (hown2.lt x e).1)
           have hi3 := ints_of_own hown3)
        | (refine step_append_src _ (by rfl) _ _ 23 (by rfl) w1.heap.size 3 i1 (.int .i64 0) 1 8 Try.underlying23 hj0 hy0 hy1 hy2 rfl (by decide) _ 0 [] (by rfl) hown0 _ 0 _ _ (by rfl) hs1 (one_ints _) (by simp only [maxLen]; omega) (by omega) (by simp) ?_
           intro v2 w2 hown2 hg2 _
           obtain ⟨D2, c2, rfl⟩ := own_form hown2
           have hb2 : Below w1.heap.size w1 w2 := hb0.grown hg2 (by simp) (fun x e => (hown0.lt x e).1)
           have hs2 : Src w2 1 D' k ((xs.take k).map (Value.int .i64)) := ((hxs.take k).below hb2).src (by rw [List.length_take]; have := HX.out; omega)))
    all_goals
      rw [HT1.out, HT2.out, HV.out]
      have hs3 := hrs.on hb3
      have hz3 := hb3.size
      go_wp2_with fail
      all_goals
        refine (spread_t D n c rs _ hs3 HN.out (by omega) hR).mono ?_
        rintro e w' ⟨S, rfl, s0, s1, HS, rfl⟩
        have hq := kc_spread HB.out HS.out
        rw [HV.out, HX.out] at hq
        obtain ⟨q0, q1⟩ := hq
        rcases Int.lt_or_le (V - (m : Int)) 0 with hd1 | hd1
        all_goals
          go_wp2_with fail
          go_ret
          refine ⟨?_, hb.trans (hb3.mono hb.size)⟩
          first
            | rfl
            | exact ret_true (p := -(V - (m : Int)) ≤ S) (by omega)
            | exact ret_true (p := V - (m : Int) ≤ S) (by omega)
  · rw [if_neg hck] at hd
    have hown0 : (w1.drew.alloc (.cells #[] 3)).ownsRow w1.heap.size 3 1 (.slice (some ⟨w1.heap.size, 0, none⟩) 0 0) 0 [] := World.ownsRow_made w1.drew #[] 0 (Nat.le_refl _) (by simp [maxLen]) rfl
    have hb0 : Below w1.heap.size w1 (w1.drew.alloc (.cells #[] 3)) := (Below.refl _ _).drew.alloc (Nat.le_refl _) _
    have hs1 : Src (w1.drew.alloc (.cells #[] 3)) 1 _ (m - k) ((xs.drop k).map (Value.int .i64)) := (hd.below hb0).src HK2.out
    go_region_held3 (fun _ => True) (trivial)
      (first
        | (go_at_call 13
           refine (impl_change D n c rs D3 m c3 (xs.drop k ++ xs.take k) w3 (hrs.on hb3) HN.out (by omega) hi3 HL3.out (by simp only [maxLen]; omega)).mono ?_
           rintro e w' ⟨rfl, rfl⟩)
        | (refine step_append_src _ (by rfl) _ _ 23 (by rfl) w1.heap.size 3 i1 (.int .i64 0) 1 8 Try.underlying23 hj0 hy0 hy1 hy2 rfl (by decide) _ (m - k) _ (by rfl) hown2 _ k _ _ (by rfl) hs2 (one_ints _) (by simp only [maxLen]; omega) (by omega) hb2.size ?_
           intro v3 w3 hown3 hg3 _
           rw [show m - k + k = m by omega] at hown3
           obtain ⟨D3, c3, rfl⟩ := own_form hown3
           rw [List.nil_append, ← List.map_append] at hown3
           have hb3 : Below w1.heap.size w1 w3 := hb2.grown hg3 hb2.size (fun x e => (hown2.lt x e).1)
           have hi3 := ints_of_own hown3)
        | (refine step_append_src _ (by rfl) _ _ 23 (by rfl) w1.heap.size 3 i1 (.int .i64 0) 1 8 Try.underlying23 hj0 hy0 hy1 hy2 rfl (by decide) _ 0 [] (by rfl) hown0 _ (m - k) _ _ (by rfl) hs1 (one_ints _) (by simp only [maxLen]; omega) (by omega) (by simp) ?_
           intro v2 w2 hown2 hg2 _
           rw [Nat.zero_add] at hown2
           obtain ⟨D2, c2, rfl⟩ := own_form hown2
           have hb2 : Below w1.heap.size w1 w2 := hb0.grown hg2 (by simp) (fun x e => (hown0.lt x e).1)
           have hs2 : Src w2 1 D' k ((xs.take k).map (Value.int .i64)) := ((hxs.take k).below hb2).src (by rw [List.length_take]; have := HX.out; omega)))
    all_goals
      rw [HT1.out, HT2.out, HV.out]
      have hs3 := hrs.on hb3
      have hz3 := hb3.size
      go_wp2_with fail
      all_goals
        refine (spread_t D n c rs _ hs3 HN.out (by omega) hR).mono ?_
        rintro e w' ⟨S, rfl, s0, s1, HS, rfl⟩
        have hq := kc_spread HB.out HS.out
        rw [HV.out, HX.out] at hq
        obtain ⟨q0, q1⟩ := hq
        rcases Int.lt_or_le (V - (m : Int)) 0 with hd1 | hd1
        all_goals
          go_wp2_with fail
          go_ret
          refine ⟨?_, hb.trans (hb3.mono hb.size)⟩
          first
            | rfl
            | exact ret_true (p := -(V - (m : Int)) ≤ S) (by omega)
            | exact ret_true (p := V - (m : Int) ≤ S) (by omega)
end Go.Proofs.Ytgdoajhieiibcaa
