/-
  Keys that are drawn out of a code: l93Keys returns a slice of integers of its own; of what was there only the reader turns.
-/
import Derived.Test.YtgdoajhieiibcaaPick
import Derived.Test.YtgdoajhieiibcaaMem
namespace Go.Proofs.Ytgdoajhieiibcaa
open Go.RowKit

theorem int_info : (Try.prog.info? 3).map (fun i => (i.zero, i.size, i.bytes)) = some (some (.int .i64 0), 1, 8) := by kernel_rfl
theorem oneCell_int (x : Int) : ∀ u ∈ [Value.int .i64 x], u.oneCell' = true := by intro u hu; rw [List.mem_singleton] at hu; subst hu; rfl
theorem new_one (w : World) (v : Value) (t : TypeId) : ∀ j u, [v][j]? = some u → (w.alloc (.cells #[v] t)).cell? ((⟨w.heap.size, 0, none⟩ : Addr).add j) = some u := by
  intro j u hj
  cases j with
  | zero => simp only [List.getElem?_cons_zero, Option.some.injEq] at hj; subst hj; simp [Addr.add]
  | succ j => simp at hj

theorem map_snoc (xs : List Int) (x : Int) : xs.map (Value.int .i64) ++ [.int .i64 x] = (xs ++ [x]).map (Value.int .i64) := by simp
/-- The length of a slice's value: for a loop's measure. -/
def lenOf : Value → Nat | .slice _ n _ => n | _ => 0
theorem own_form {w : World} {base : Nat} {t : TypeId} {size n : Nat} {v : Value} {xs : List Value} (h : w.ownsRow base t size v n xs) : ∃ D c, v = .slice D n c := by
  rcases h.2 with ⟨rfl, rfl⟩ | ⟨g, cap, cur, rfl, _⟩
  · exact ⟨_, _, rfl⟩
  · exact ⟨_, _, rfl⟩
/-- A cell of a block that the call has just laid reads as it was laid, behind a step that turns block g alone. -/
theorem cell_laid {w w' : World} {g i : Nat} {cs : Array Value} {t : TypeId} {u : Value} (hg : (w.alloc (.cells cs t)).grownBy w' (some g)) (hlt : g < w.heap.size) (hi : cs[i]? = some u) : w'.cell? ⟨w.heap.size, i, none⟩ = some u := by
  have h : w'.heap[w.heap.size]? = some (.cells cs t (0, 0)) := (hg.block w.heap.size (by simp) (by intro e; injection e; omega)).trans (heap_alloc_new w _)
  rw [cell_of_row w' w.heap.size i cs t (0, 0) h]; exact hi

/-- What l93Keys leaves: integers of its own. -/
def KeysQ (g : Nat) (A : Option Addr) (len cap M : Nat) (w : World) (e : Ending) (w' : World) : Prop :=
  ∃ (v : Value) (n : Nat) (xs : List Int), e = .returned v ∧ n ≤ 60 ∧ xs.length = n ∧ w'.ownsRow w.heap.size 3 1 v n (xs.map (Value.int .i64)) ∧ Rd w' g A len cap (M + 20) ∧ w.grownBy w' (some g)

theorem own_row_block {w : World} {base : Nat} {t : TypeId} {size n : Nat} {v : Value} {xs : List Value} (h : w.ownsRow base t size v n xs) {g : Nat} (hg : g < base) : v.ownBlock = none ∨ v.ownBlock ≠ some g := by
  rcases hv : v.ownBlock with _ | b
  · exact .inl rfl
  · right
    intro e
    injection e with e
    have := (h.lt b hv).1
    omega

set_option maxHeartbeats 1000000 in
theorem keys_any (g : Nat) (A : Option Addr) (len cap M : Nat) (w : World) (hr : Rd w g A len cap M) (hM : M ≤ 900000) :
    Calls Try.prog 25 #[.pointer (some ⟨g, 0, none⟩)] w (KeysQ g A len cap M w) := by
  obtain ⟨i0, hi0, hz0, hz1, hz2⟩ := info_parts int_info
  have hgw := hr.lt
  go_enter Try.func25, Try.ntmps25
  go_wp2_with fail
  refine (pick_any g A len cap M _ _ (hr.alloc _) (by omega)).mono ?_
  rintro e w1 ⟨n, rfl, n0, n1, -, hr1, hg1, -⟩
  have n1 := n1 (by omega)
  have hown0 : (w.alloc (.cells #[] 3)).ownsRow w.heap.size 3 1 (.slice (some ⟨w.heap.size, 0, none⟩) 0 0) 0 [] := World.ownsRow_made w #[] 0 (Nat.le_refl _) (by simp [maxLen]) rfl
  have hown1 := hown0.kept hg1 (own_row_block hown0 hgw)
  have hk1 : w.grownBy w1 (some g) := kp_step (kp_alloc (kp_refl w g) _) hg1 (fun b e => .inl (by injection e with e; exact e.symm))
  clear hg1 hown0
  go_wp2_with fail
  go_loopw [3, 5] (fun v i wr => ∃ (k : Nat) (xs : List Int), (k : Int) ≤ n ∧ i = .int .i64 k ∧ Hid (xs.length = k) ∧ wr.ownsRow w.heap.size 3 1 v k (xs.map (Value.int .i64)) ∧ Rd wr g A len cap (M + 1 + k) ∧ w.grownBy wr (some g)) (fun _ i _ => n.toNat - (intOf i).toNat)
  case atStart => exact ⟨0, [], by omega, rfl, rfl, hown1, hr1, hk1⟩
  case round =>
    obtain ⟨k, xs, hk, rfl, HL, hown, hrr, hkp⟩ := hrel
    by_cases hlt : (k : Int) < n
    · go_wp2_with fail
      refine (pick_any g A len cap (M + 1 + k) _ _ hrr (by omega)).mono ?_
      rintro e w2 ⟨x, rfl, x0, x1, -, hr2, hg2, -⟩
      have hown2 := hown.kept hg2 (own_row_block hown hgw)
      have hk2 : w.grownBy w2 (some g) := kp_step hkp hg2 (fun b e => .inl (by injection e with e; exact e.symm))
      clear hg2 hown hkp hrr
      go_wp2_with (at_builtin; refine wpList_append_own _ rfl _ _ 23 rfl w.heap.size 3 i0 (.int .i64 0) 1 8 Try.underlying23 hi0 hz0 hz1 hz2 rfl (by decide) _ k (xs.map (Value.int .i64)) rfl (hown2.alloc _) ⟨w2.heap.size, 0, none⟩ 1 1 [.int .i64 _] rfl rfl (new_one _ _ _) (oneCell_int _) (by simp only [maxLen]; omega) (by omega) ?_ ?_)
      rotate_left
      · intro v' w3 hown3 hg3 _
        have hw := hk2.size
        have hlo := fun b e => (hown2.lt b e).1
        have hk3 : w.grownBy w3 (some g) := kp_step (kp_alloc hk2 _) hg3 (fun b e => .inr (hlo b e))
        have hr3 := (hr2.alloc _).grown hg3 (fun b e => by have := hlo b e; omega)
        rw [map_snoc] at hown3
        clear hlo hg3 hown2 hk2 hr2 hw
        go_wp2_with fail
        go_roundw
        case rel => exact ⟨k + 1, xs ++ [x], by omega, by go_num, by have := HL.out; simp; omega, hown3, hr3, hk3⟩
        case measure => simp [intOf]; omega
      · have := hk2.size
        simp; omega
    · go_wp2_with fail
      refine (pick_any g A len cap (M + 1 + k) _ _ hrr (by omega)).mono ?_
      rintro e w2 ⟨s, rfl, s0, s1, -, hr2, hg2, -⟩
      have hown2 := hown.kept hg2 (own_row_block hown hgw)
      have hk2 : w.grownBy w2 (some g) := kp_step hkp hg2 (fun b e => .inl (by injection e with e; exact e.symm))
      clear hg2 hown hkp hrr
      have hk6 : k ≤ 6 := by omega
      by_cases c0 : s = 0
      · subst c0
        go_wp2_with fail
        refine (pick_any g A len cap (M + 2 + k) _ _ ((hr2.alloc _).more (by omega)) (by omega)).mono ?_
        rintro e w4 ⟨t, rfl, t0, t1, -, hr4, hg4, -⟩
        have t1 := t1 (by omega)
        have hw := hk2.size
        have q0 := cell_laid (i := 0) hg4 (by omega) rfl
        have q1 := cell_laid (i := 1) hg4 (by omega) rfl
        have hown4 := (hown2.alloc _).kept hg4 (own_row_block hown2 hgw)
        have hk4 : w.grownBy w4 (some g) := kp_step (kp_alloc hk2 _) hg4 (fun b e => .inl (by injection e with e; exact e.symm))
        clear hg4 hown2 hk2 hr2
        have ht : t = 0 ∨ t = 1 := by omega
        rcases ht with rfl | rfl
        all_goals
          go_wp2_with (at_builtin; refine wpList_append_own _ rfl _ _ 23 rfl w.heap.size 3 i0 (.int .i64 0) 1 8 Try.underlying23 hi0 hz0 hz1 hz2 rfl (by decide) _ k (xs.map (Value.int .i64)) rfl (hown4.alloc _) ⟨w4.heap.size, 0, none⟩ 1 1 [.int .i64 _] rfl rfl (new_one _ _ _) (oneCell_int _) (by simp only [maxLen]; omega) (by omega) ?_ ?_)
          rotate_left
          · intro v' w3 hown3 hg3 _
            have hw4 := hk4.size
            have hlo := fun b e => (hown4.lt b e).1
            have hk3 : w.grownBy w3 (some g) := kp_step (kp_alloc hk4 _) hg3 (fun b e => .inr (hlo b e))
            have hr3 := (hr4.alloc _).grown hg3 (fun b e => by have := hlo b e; omega)
            rw [map_snoc] at hown3
            clear hlo hg3
            go_wp2_with fail
            go_ret
            exact ⟨_, k + 1, xs ++ [_], rfl, by omega, by have := HL.out; simp; omega, hown3, hr3.more (by omega), hk3⟩
          · have := hk4.size
            simp; omega
      have b0 : (s == 0) = false := beq_eq_false_iff_ne.2 c0
      by_cases c1 : s = 1
      · subst c1
        go_wp2_with fail
        go_loopw [3] (fun v wr => ∃ (j : Nat) (ys : List Int), j ≤ 41 ∧ Hid (ys.length = j) ∧ wr.ownsRow w.heap.size 3 1 v j (ys.map (Value.int .i64)) ∧ Rd wr g A len cap (M + 20) ∧ w.grownBy wr (some g)) (fun v _ => 41 - lenOf v)
        case atStart => exact ⟨k, xs, by omega, HL, hown2, hr2.more (by omega), hk2⟩
        case round =>
          obtain ⟨j, ys, hj, HY, hown, hrr, hkp⟩ := hrel
          obtain ⟨D, cc, rfl⟩ := own_form hown
          by_cases hj4 : j ≤ 40
          · go_wp2_with (at_builtin; refine wpList_append_own _ rfl _ _ 23 rfl w.heap.size 3 i0 (.int .i64 0) 1 8 Try.underlying23 hi0 hz0 hz1 hz2 rfl (by decide) _ j (ys.map (Value.int .i64)) rfl (hown.alloc _) ⟨wr.heap.size, 0, none⟩ 1 1 [.int .i64 _] rfl rfl (new_one _ _ _) (oneCell_int _) (by simp only [maxLen]; omega) (by omega) ?_ ?_)
            rotate_left
            · intro v' w3 hown3 hg3 _
              have hw4 := hkp.size
              have hlo := fun b e => (hown.lt b e).1
              have hk3 : w.grownBy w3 (some g) := kp_step (kp_alloc hkp _) hg3 (fun b e => .inr (hlo b e))
              have hr3 := (hrr.alloc _).grown hg3 (fun b e => by have := hlo b e; omega)
              rw [map_snoc] at hown3
              obtain ⟨D', cc', rfl⟩ := own_form hown3
              clear hlo hg3 hown hkp hrr
              go_wp2_with fail
              go_roundw
              case rel => exact ⟨j + 1, ys ++ [3], by omega, by have := HY.out; simp; omega, hown3, hr3, hk3⟩
              case measure => simp [lenOf]; omega
            · have := hkp.size
              simp; omega
          · go_wp2_with fail
            go_ret
            exact ⟨_, j, ys, rfl, by omega, HY.out, hown, hrr, hkp⟩
      have b1 : (s == 1) = false := beq_eq_false_iff_ne.2 c1
      go_wp2_with fail
      go_ret
      exact ⟨_, k, xs, rfl, by omega, HL.out, hown2, hr2.more (by omega), hk2⟩
end Go.Proofs.Ytgdoajhieiibcaa
