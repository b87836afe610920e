/-
  FnKeyMove: keys that keep the sum keep the change: the walk of the law.
-/
import Derived.Test.YtgdoajhieiibcaaKDraw
import Derived.Test.YtgdoajhieiibcaaAppend
namespace Go.Proofs.Ytgdoajhieiibcaa
open Go.RowKit

theorem sumI_set {xs : List Int} {i : Nat} {x y : Int} (h : xs[i]? = some x) : sumI (xs.set i y) = sumI xs - x + y := by
  induction xs generalizing i with
  | nil => simp at h
  | cons z xs ih =>
    cases i with
    | zero => simp only [List.getElem?_cons_zero, Option.some.injEq] at h; subst h; simp only [List.set_cons_zero, sumI]; omega
    | succ i => simp only [List.getElem?_cons_succ] at h; simp only [List.set_cons_succ, sumI, ih h]; omega
theorem keys_set {xs : List Int} (h : keysP xs) (i : Nat) {y : Int} (hy : 0 ≤ y ∧ y < 16) : keysP (xs.set i y) := by
  refine ⟨by rw [List.length_set]; exact h.1, fun x hx => ?_⟩
  rcases List.mem_or_eq_of_mem_set hx with hx | rfl
  · exact h.2 x hx
  · exact hy
theorem kc_congr {rs : List (List Int)} {xs ys : List Int} (hx : keysP xs) (hy : keysP ys) (hl : xs.length = ys.length) (hs : sumI xs % 16 = sumI ys % 16) : kcV rs xs = kcV rs ys ∧ kcB rs xs = kcB rs ys := by
  have h1 := ksB_t hx
  have h2 := ksB_t hy
  exact ⟨by rw [kcV, kcV, h1, h2, hl, hs], by rw [kcB, kcB, h1, h2]⟩
theorem map_set_int (xs : List Int) (i : Nat) (y : Int) : (xs.map (Value.int .i64)).set i (.int .i64 y) = (xs.set i y).map (Value.int .i64) := by rw [List.map_set]

set_option maxHeartbeats 2000000 in
/-- laws.FnKeyMove. -/
theorem fnKeyMove_walk (a0 : Option Addr) (len0 cap0 : Nat) (z0 : List Int) (w : World) (w0 : IsRow8 w a0 len0 cap0 z0) :
    Calls Try.prog 6 #[.slice a0 len0 cap0] w fun e w' => e = .returned (.bool true) ∧ Below w.heap.size w w' := by
  by_cases hl : 1048576 < len0
  · go_enter Try.func6, Try.ntmps6
    go_wp2
    go_ret
    exact ⟨rfl, Below.refl _ _⟩
  obtain ⟨i0, hi0, hz0, hz1, hz2⟩ := info_parts int_info
  go_enter Try.func6, Try.ntmps6
  go_wp2_with fail
  refine (drawk_any a0 len0 cap0 z0 _ w0).mono ?_
  rintro e w1 ⟨D, n, c, rs, D', m, c', xs, rfl, ⟨n8, nc, cm, HN, hrs⟩, ⟨m6, mc, cm', HX, hxs⟩, hb⟩
  clear w0
  go_wp2_with fail
  refine (impl_change D n c rs D' m c' xs _ hrs HN.out (by omega) hxs HX.out (by simp only [maxLen]; omega)).mono ?_
  rintro e w' ⟨rfl, rfl⟩
  go_wp2_with fail
  refine (spec_change D n c rs D' m c' xs _ hrs HN.out (by omega) hxs HX.out (by simp only [maxLen]; omega)).mono ?_
  rintro e w' ⟨rfl, rfl⟩
  cases hB : kcB rs xs
  · go_wp2_with fail
    go_ret
    exact ⟨rfl, hb⟩
  have hB2 := hB
  rw [kcB, Bool.and_eq_true] at hB2
  obtain ⟨hK, hR⟩ := hB2
  have hn1 : 1 ≤ n := by have := (krB_iff.1 hR).1; have := HN.out; omega
  have hm40 : m ≤ 40 := by have := (ksB_iff.1 hK).1; have := HX.out; omega
  have hcm := len_max cm
  have hcm' := len_max cm'
  obtain ⟨v0, v1⟩ := kc_bd hB
  by_cases h2 : m < 2
  · go_wp2_with fail
    go_ret
    exact ⟨rfl, hb⟩
  have hown0 : (w1.alloc (.cells #[] 3)).ownsRow w1.heap.size 3 1 (.slice (some ⟨w1.heap.size, 0, none⟩) 0 0) 0 [] := World.ownsRow_made w1 #[] 0 (Nat.le_refl _) (by simp [maxLen]) rfl
  have hsrc := (hxs.alloc (.cells #[] 3)).src HX.out
  go_wp2_with (at_builtin; refine wpList_append_src _ rfl _ _ 23 rfl w1.heap.size 3 i0 (.int .i64 0) 1 8 Try.underlying23 hi0 hz0 hz1 hz2 rfl (by decide) _ 0 [] rfl hown0 _ m _ (xs.map (Value.int .i64)) rfl hsrc (oneCell_ints _) (by simp only [maxLen]; omega) (by omega) (by simp) ?_)
  intro v' w3 hown3 hg3 _
  obtain ⟨D2, c2, rfl⟩ := own_form hown3
  obtain ⟨g2, rfl, u0, hu0, q0⟩ := own_at hown3 (i := 0) (by omega)
  obtain ⟨_, e, u1, hu1, q1⟩ := own_at hown3 (i := 1) (by omega)
  injection e with e
  injection e with e
  subst e
  rw [List.getElem?_map] at hu0 hu1
  obtain ⟨x0, hx0, rfl⟩ := Option.map_eq_some_iff.1 hu0
  obtain ⟨x1, hx1, rfl⟩ := Option.map_eq_some_iff.1 hu1
  have f0 := hown3.frozenAt 0
  have f1 := hown3.frozenAt 1
  have hkp := ksB_iff.1 hK
  obtain ⟨a1, a2⟩ := hkp.2 x0 (mem_of_at hx0)
  obtain ⟨b1, b2⟩ := hkp.2 x1 (mem_of_at hx1)
  obtain ⟨hown4, hg4⟩ := hown3.stored 0 (.int .i64 ((x0 + 1) % 16))
  obtain ⟨hown5, hg5⟩ := hown4.stored 1 (.int .i64 ((x1 + 16 - 1) % 16))
  rw [map_set_int, map_set_int] at hown5
  have hg2 : w1.heap.size ≤ g2 := (hown3.lt g2 rfl).1
  have hb3 : Below w1.heap.size w1 w3 := ((Below.refl _ _).alloc (Nat.le_refl _) _).grown hg3 (by simp) (fun k hk => by have hk : some w1.heap.size = some k := hk; injection hk with hk; omega)
  have hb5 := (hb3.setCell (p := ⟨g2, 0, none⟩) hg2 (.int .i64 ((x0 + 1) % 16))).setCell (p := ⟨g2, 1, none⟩) hg2 (.int .i64 ((x1 + 16 - 1) % 16))
  have hk1 : keysP ((xs.set 0 ((x0 + 1) % 16)).set 1 ((x1 + 16 - 1) % 16)) := keys_set (keys_set hkp 0 ⟨by omega, by omega⟩) 1 ⟨by omega, by omega⟩
  have hs : sumI ((xs.set 0 ((x0 + 1) % 16)).set 1 ((x1 + 16 - 1) % 16)) = sumI xs - x0 + (x0 + 1) % 16 - x1 + (x1 + 16 - 1) % 16 := by
    rw [sumI_set (x := x1) (by rw [List.getElem?_set_ne (by omega)]; exact hx1), sumI_set hx0]
  obtain ⟨e1, e2⟩ := kc_congr (rs := rs) hk1 hkp (by simp) (by rw [hs]; omega)
  rw [hB] at e2
  have hrs5 := hrs.on hb5
  have hxs5 := ints_of_own hown5
  have HL5 := Lib.hid (show ((xs.set 0 ((x0 + 1) % 16)).set 1 ((x1 + 16 - 1) % 16)).length = m by simp; exact HX.out)
  clear hs hown4 hown5 hown3 hg3 hg4 hg5 hu0 hu1 hx0 hx1 hsrc hown0
  go_wp2_with fail
  refine (impl_change D n c rs _ m _ _ _ hrs5 HN.out (by omega) hxs5 HL5.out (by simp only [maxLen]; omega)).mono ?_
  rintro e w' ⟨rfl, rfl⟩
  go_wp2_with fail
  go_ret
  exact ⟨by simp, hb.trans (hb5.mono hb.size)⟩
end Go.Proofs.Ytgdoajhieiibcaa
