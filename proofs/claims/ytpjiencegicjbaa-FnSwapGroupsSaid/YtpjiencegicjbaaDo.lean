/-
  The walks of slices.Clone at people, l24Do, SwapDo, the program's and the reference's.
-/
import Derived.Test.YtpjiencegicjbaaSwapOk
import Derived.BigRegion
namespace Go.Proofs.Ytpjiencegicjbaa
open Go.RowKit
attribute [local go_sem ↓] Go.wp_at_zero Go.wp_at_succ

theorem own_form {w : World} {base : Nat} {t : TypeId} {size n : Nat} {v : Value} {xs : List Value} (h : w.ownsRow base t size v n xs) : ∃ D c, v = .slice D n c := by
  rcases h.2 with ⟨rfl, rfl⟩ | ⟨g, cap, cur, rfl, _⟩
  · exact ⟨_, _, rfl⟩
  · exact ⟨_, _, rfl⟩
theorem pn_info : (Try.prog.info? 51).map (fun i => (i.zero, i.size, i.bytes)) = some (some (.agg #[.int .i64 0, .int .i64 0, .int .i64 0, .int .i64 0]), 4, 32) := by kernel_rfl
/-- A row of one's own stay so, where what was there stays. -/
theorem own_below {w w' : World} {base : Nat} {t : TypeId} {size n : Nat} {v : Value} {xs : List Value} (h : w.ownsRow base t size v n xs) (hb : Below w.heap.size w w') : w'.ownsRow base t size v n xs :=
  h.kept (row := none) ⟨hb.os, hb.tape, hb.output, hb.size, fun k hk _ => hb.block k hk⟩ (by cases v.ownBlock <;> simp)
theorem own_base {w : World} {base base' : Nat} {t : TypeId} {size n : Nat} {v : Value} {xs : List Value} (h : w.ownsRow base t size v n xs) (hb : base' ≤ base) : w.ownsRow base' t size v n xs := by
  refine ⟨h.1, ?_⟩
  rcases h.2 with h | ⟨g, cap, cur, h1, h2, h3⟩
  · exact .inl h
  · exact .inr ⟨g, cap, cur, h1, Nat.le_trans hb h2, h3⟩

/-- What slices.Clone leaves: the same people, of its own. -/
def CloneQ (ps : List Pn) (n : Nat) (w : World) (e : Ending) (w' : World) : Prop :=
  ∃ (D : Option Addr) (c : Nat), e = .returned (.slice D n c) ∧ w'.ownsRow w.heap.size 51 4 (.slice D n c) n (flat pf ps) ∧ Below w.heap.size w w'
set_option maxHeartbeats 400000 in
theorem clone_any (A : Option Addr) (n c : Nat) (ps : List Pn) (w : World) (hx : Recs pf 4 w w.heap.size A ps) (hn : ps.length = n) (hm : n ≤ 4194304) :
    Calls Try.prog 35 #[.slice A n c] w (CloneQ ps n w) := by
  obtain ⟨i0, hi0, hz0, hz1, hz2⟩ := info_parts pn_info
  have hq := fun (W : World) => Lib.run_eql_slice_nil (P := Try.prog) W 25 51 A n c 0 0 Try.underlying25
  rcases A with _ | ad
  · have h0 : n = 0 := by
      rcases Nat.eq_zero_or_pos n with h | h
      · exact h
      · obtain ⟨_, _, e, _⟩ := hx (by omega)
        cases e
    subst h0
    have he : ps = [] := List.eq_nil_of_length_eq_zero hn
    subst he
    clear hn
    go_enter Try.func35, Try.ntmps35
    go_wp2
    go_ret
    exact ⟨none, 0, rfl, World.ownsRow_nil _ _ _ _, Below.refl _ _⟩
  · have HN := Lib.hid hn
    clear hn
    have hx1 := (hx.alloc (.cells #[] 51)).src pf_len HN.out
    have hown0 : (w.alloc (.cells #[] 51)).ownsRow w.heap.size 51 4 (.slice (some ⟨w.heap.size, 0, none⟩) 0 0) 0 [] := World.ownsRow_made w #[] 0 (Nat.le_refl _) (by simp [maxLen]) rfl
    have q1 : 0 + n ≤ maxLen := by simp only [maxLen]; omega
    have q2 : (0 + n) * 32 ≤ 140737488355328 := by omega
    have q3 : w.heap.size ≤ (w.alloc (.cells #[] 51)).heap.size := by simp
    have q4 := flat_one_cell pf_one ps
    go_enter Try.func35, Try.ntmps35
    go_wp2_with (at_builtin; refine wpList_append_src _ rfl _ _ 25 rfl w.heap.size 51 i0 (.agg #[.int .i64 0, .int .i64 0, .int .i64 0, .int .i64 0]) 4 32 Try.underlying25 hi0 hz0 hz1 hz2 rfl (by decide) _ 0 [] rfl hown0 _ n _ (flat pf ps) rfl hx1 q4 q1 q2 q3 ?_)
    intro v' w3 hown3 hg3 _
    obtain ⟨D2, c2, rfl⟩ := own_form hown3
    have hb3 : Below w.heap.size w w3 := ((Below.refl _ _).alloc (Nat.le_refl _) _).grown hg3 (by simp) (fun k hk => by have hk : some w.heap.size = some k := hk; injection hk with hk; omega)
    go_wp2_with fail
    go_ret
    exact ⟨D2, c2, rfl, hown3, hb3⟩


/-! ### People of one's own: cells and stores -/
theorem flat_set {α : Type} {f : α → List Value} {sz : Nat} (hf : ∀ x, (f x).length = sz) {xs : List α} {i j : Nat} {x y : α} {u : Value} (hx : xs[i]? = some x) (hj : j < sz) (hy : f y = (f x).set j u) : (flat f xs).set (i * sz + j) u = flat f (xs.set i y) := by
  induction xs generalizing i with
  | nil => simp at hx
  | cons z xs ih =>
    cases i with
    | zero =>
      simp only [List.getElem?_cons_zero, Option.some.injEq] at hx
      subst hx
      simp only [flat, List.flatMap_cons, List.set_cons_zero, Nat.zero_mul, Nat.zero_add]
      rw [List.set_append_left _ _ (by rw [hf]; exact hj), hy]
    | succ i =>
      simp only [List.getElem?_cons_succ] at hx
      have ih := ih hx
      simp only [flat, List.flatMap_cons, List.set_cons_succ] at ih ⊢
      rw [List.set_append_right _ _ (by rw [hf, Nat.succ_mul]; omega), hf, show (i + 1) * sz + j - sz = i * sz + j by rw [Nat.succ_mul]; omega, ih]
/-- A person of one's own. -/
theorem own_at {w : World} {base n c i : Nat} {D : Option Addr} {ps : List Pn} (h : w.ownsRow base 51 4 (.slice D n c) n (flat pf ps)) (hi : i < n) :
    ∃ g a j s p, D = some ⟨g, 0, none⟩ ∧ base ≤ g ∧ g < w.heap.size ∧ Hid (ps[i]? = some ⟨a, j, s, p⟩) ∧
      (w.cell? ⟨g, i * 4, none⟩ = some (.int .i64 a) ∧ w.cell? ⟨g, i * 4 + 1, none⟩ = some (.int .i64 j) ∧ w.cell? ⟨g, i * 4 + 2, none⟩ = some (.int .i64 s) ∧ w.cell? ⟨g, i * 4 + 3, none⟩ = some (.int .i64 p)) ∧
      (w.frozen? ⟨g, i * 4, none⟩ = false ∧ w.frozen? ⟨g, i * 4 + 1, none⟩ = false ∧ w.frozen? ⟨g, i * 4 + 2, none⟩ = false ∧ w.frozen? ⟨g, i * 4 + 3, none⟩ = false) := by
  obtain ⟨hl, hr⟩ := Recs.of_own pf_len h (by omega)
  obtain ⟨b, o, ⟨a, j, s, p⟩, rfl, hb, hx, hc⟩ := hr.get (k := i) (by omega)
  obtain ⟨rfl, hge⟩ : o = 0 ∧ base ≤ b := by
    rcases h.2 with ⟨h', _⟩ | ⟨g', cap', cur, h', h2, _⟩
    · cases h'
    · injection h' with h1
      injection h1 with h1
      injection h1 with h1 h3
      subst h1 h3
      exact ⟨rfl, h2⟩
  have c0 := hc 0 _ rfl
  have c1 := hc 1 _ rfl
  have c2 := hc 2 _ rfl
  have c3 := hc 3 _ rfl
  rw [Nat.zero_add] at c0 c1 c2 c3
  exact ⟨b, a, j, s, p, rfl, hge, hb, hx, ⟨c0, c1, c2, c3⟩, h.frozenAt _, h.frozenAt _, h.frozenAt _, h.frozenAt _⟩
theorem own_set {w : World} {base n c i j g : Nat} {ps : List Pn} {x y : Pn} {u : Value} (h : w.ownsRow base 51 4 (.slice (some ⟨g, 0, none⟩) n c) n (flat pf ps)) (hx : ps[i]? = some x) (hj : j < 4) (hy : pf y = (pf x).set j u) :
    (w.setCell ⟨g, i * 4 + j, none⟩ u).ownsRow base 51 4 (.slice (some ⟨g, 0, none⟩) n c) n (flat pf (ps.set i y)) := by
  have := (h.stored (i * 4 + j) u).1
  rwa [flat_set pf_len hx hj hy] at this
theorem own_area {w : World} {base n c i g : Nat} {ps : List Pn} {x : Pn} (h : w.ownsRow base 51 4 (.slice (some ⟨g, 0, none⟩) n c) n (flat pf ps)) (hx : ps[i]? = some x) (v : Int) :
    (w.setCell ⟨g, i * 4, none⟩ (.int .i64 v)).ownsRow base 51 4 (.slice (some ⟨g, 0, none⟩) n c) n (flat pf (ps.set i { x with area := v })) :=
  own_set (j := 0) h hx (by omega) rfl
/-- Both areas stored. -/
theorem own_sw {w : World} {base n c i k g : Nat} {ps : List Pn} {x y : Pn} (h : w.ownsRow base 51 4 (.slice (some ⟨g, 0, none⟩) n c) n (flat pf ps)) (hx : ps[i]? = some x) (hy : ps[k]? = some y) (hne : i ≠ k) :
    ((w.setCell ⟨g, i * 4, none⟩ (.int .i64 y.area)).setCell ⟨g, k * 4, none⟩ (.int .i64 x.area)).ownsRow base 51 4 (.slice (some ⟨g, 0, none⟩) n c) n (flat pf (sw ps i k)) := by
  rw [sw_eq hx hy]
  exact own_area (own_area h hx y.area) (by rw [List.getElem?_set_ne hne]; exact hy) x.area
/-- What SwapDo leaves where it swaps. -/
def DoQ (ps : List Pn) (n i k : Nat) (w : World) (e : Ending) (w' : World) : Prop :=
  ∃ (D : Option Addr) (c : Nat), e = .returned (.tuple #[.slice D n c, .bool true]) ∧ w'.ownsRow w.heap.size 51 4 (.slice D n c) n (flat pf (sw ps i k)) ∧ Below w.heap.size w w'
def DoN (w : World) (e : Ending) (w' : World) : Prop :=
  ∃ (D : Option Addr) (c : Nat), e = .returned (.tuple #[.slice D 0 c, .bool false]) ∧ w'.ownsRow w.heap.size 51 4 (.slice D 0 c) 0 [] ∧ Below w.heap.size w w'
set_option maxHeartbeats 400000 in
/-- impl.SwapDo, no swap. -/
theorem do_n (A : Option Addr) (n c : Nat) (ps : List Pn) (a b : Int) (w : World) (hx : Recs pf 4 w w.heap.size A ps) (hn : ps.length = n) (hm : n ≤ 4194304) (hs : soB ps a b = false) :
    Calls Try.prog 14 #[.slice A n c, .int .i64 a, .int .i64 b] w (DoN w) := by
  have HN := Lib.hid hn
  clear hn
  go_enter Try.func14, Try.ntmps14
  go_wp2_with fail
  refine (swapok_any A n c ps _ _ _ hx HN.out hm).mono ?_
  rintro e w1 ⟨rfl, hb1⟩
  go_wp2_with fail
  go_ret2
  exact ⟨none, 0, rfl, World.ownsRow_nil _ _ _ _, hb1⟩
theorem so_parts {ps : List Pn} {i k n : Nat} (hn : ps.length = n) (hs : soB ps (i : Nat) (k : Nat) = true) : i < n ∧ k < n ∧ i ≠ k := by
  obtain ⟨_, i', k', x, y, e1, e2, hx, hy, h5⟩ := soB_iff.1 hs
  have e1 : i = i' := by omega
  have e2 : k = k' := by omega
  subst e1 e2
  have := lt_of_at hx
  have := lt_of_at hy
  exact ⟨by omega, by omega, alike_ne hx hy h5⟩
set_option maxHeartbeats 2000000 in
/-- impl.SwapDo, a swap. -/
theorem do_t (A : Option Addr) (n c : Nat) (ps : List Pn) (i k : Nat) (w : World) (hx : Recs pf 4 w w.heap.size A ps) (hn : ps.length = n) (hm : n ≤ 4194304) (hs : soB ps (i : Nat) (k : Nat) = true) :
    Calls Try.prog 14 #[.slice A n c, .int .i64 (i : Int), .int .i64 (k : Int)] w (DoQ ps n i k w) := by
  obtain ⟨hi, hk, hne⟩ := so_parts hn hs
  have HN := Lib.hid hn
  clear hn
  have i0 : (0 : Int) ≤ (i : Int) := by omega
  have i1 : (i : Int) < (n : Int) := by omega
  have k0 : (0 : Int) ≤ (k : Int) := by omega
  have k1 : (k : Int) < (n : Int) := by omega
  go_enter Try.func14, Try.ntmps14
  go_wp2_with fail
  refine (swapok_any A n c ps _ _ _ hx HN.out hm).mono ?_
  rintro e w1 ⟨rfl, hb1⟩
  go_wp2_with fail
  refine (clone_any A n c ps _ (hx.on hb1) HN.out hm).mono ?_
  rintro e w2 ⟨D, c2, rfl, hown, hb2⟩
  have hb2 := below_next hb1 hb2
  have hown := own_base hown hb1.size
  obtain ⟨g, xa, xj, xs, xp, rfl, hg0, hg1, HX, ⟨c0, -, -, -⟩, ⟨f0, -, -, -⟩⟩ := own_at hown hi
  obtain ⟨g', ya, yj, ys, yp, hg', -, -, HY, ⟨d0, -, -, -⟩, ⟨g0, -, -, -⟩⟩ := own_at hown hk
  injection hg' with hg'
  injection hg' with hg'
  subst hg'
  have hO := own_sw hown HX.out HY.out hne
  have hB : Below w.heap.size w ((w2.setCell ⟨g, i * 4, none⟩ (.int .i64 ya)).setCell ⟨g, k * 4, none⟩ (.int .i64 xa)) := (hb2.setCell hg0 _).setCell hg0 _
  clear hown hb2
  have hne4 : ¬ i * 4 = k * 4 := by omega
  have hne5 : ¬ k * 4 = i * 4 := by omega
  go_wp2_with fail
  go_region
  all_goals
    go_wp2_with fail
    go_ret2
    exact ⟨_, _, rfl, hO.drew, hB.drew⟩

set_option maxHeartbeats 2000000 in
/-- spec.l24Do. -/
theorem l24do_t (A : Option Addr) (n c : Nat) (ps : List Pn) (i k : Nat) (w : World) (hx : Recs pf 4 w w.heap.size A ps) (hn : ps.length = n) (hm : n ≤ 4194304) (hs : soB ps (i : Nat) (k : Nat) = true) :
    Calls Try.prog 34 #[.slice A n c, .int .i64 (i : Int), .int .i64 (k : Int)] w fun e w' => ∃ (D : Option Addr) (c : Nat), e = .returned (.slice D n c) ∧ w'.ownsRow w.heap.size 51 4 (.slice D n c) n (flat pf (sw ps i k)) ∧ Below w.heap.size w w' := by
  obtain ⟨hi, hk, hne⟩ := so_parts hn hs
  obtain ⟨i9, hi0, hz0, hz1, hz2⟩ := info_parts pn_info
  have HN := Lib.hid hn
  clear hn
  have i0 : (0 : Int) ≤ (i : Int) := by omega
  have i1 : (i : Int) < (n : Int) := by omega
  have k0 : (0 : Int) ≤ (k : Int) := by omega
  have k1 : (k : Int) < (n : Int) := by omega
  have hx1 := (hx.alloc (.cells #[] 51)).src pf_len HN.out
  have hown0 : (w.alloc (.cells #[] 51)).ownsRow w.heap.size 51 4 (.slice (some ⟨w.heap.size, 0, none⟩) 0 0) 0 [] := World.ownsRow_made w #[] 0 (Nat.le_refl _) (by simp [maxLen]) rfl
  have q1 : 0 + n ≤ maxLen := by simp only [maxLen]; omega
  have q2 : (0 + n) * 32 ≤ 140737488355328 := by omega
  have q3 : w.heap.size ≤ (w.alloc (.cells #[] 51)).heap.size := by simp
  have q4 := flat_one_cell pf_one ps
  go_enter Try.func34, Try.ntmps34
  go_wp2_with (at_builtin; refine wpList_append_src _ rfl _ _ 25 rfl w.heap.size 51 i9 (.agg #[.int .i64 0, .int .i64 0, .int .i64 0, .int .i64 0]) 4 32 Try.underlying25 hi0 hz0 hz1 hz2 rfl (by decide) _ 0 [] rfl hown0 _ n _ (flat pf ps) rfl hx1 q4 q1 q2 q3 ?_)
  intro v' w3 hown hg3 _
  obtain ⟨D2, c2, rfl⟩ := own_form hown
  have hb3 : Below w.heap.size w w3 := ((Below.refl _ _).alloc (Nat.le_refl _) _).grown hg3 (by simp) (fun k hk => by have hk : some w.heap.size = some k := hk; injection hk with hk; omega)
  clear hown0 hx1 hg3 q1 q2 q3 q4
  obtain ⟨g, xa, xj, xs, xp, rfl, hg0, hg1, HX, ⟨c0, -, -, -⟩, ⟨f0, -, -, -⟩⟩ := own_at hown hi
  obtain ⟨g', ya, yj, ys, yp, hg', -, -, HY, ⟨d0, -, -, -⟩, ⟨g0, -, -, -⟩⟩ := own_at hown hk
  injection hg' with hg'
  injection hg' with hg'
  subst hg'
  have hO := own_sw hown HX.out HY.out hne
  have hB : Below w.heap.size w ((w3.setCell ⟨g, i * 4, none⟩ (.int .i64 ya)).setCell ⟨g, k * 4, none⟩ (.int .i64 xa)) := (hb3.setCell hg0 _).setCell hg0 _
  obtain ⟨ob, o, xa', xj', xs', xp', ya', yj', ys', yp', rfl, hbb, HX', HY', m0, -, -, -, n0, -, -, -⟩ := ppl_at2 (hx.below hb3) (i := i) (k := k) (by have := HN.out; omega) (by have := HN.out; omega)
  obtain rfl : xa = xa' := by have h := HX.out; rw [HX'.out] at h; injection h with h; injection h with h; exact h.symm
  obtain rfl : ya = ya' := by have h := HY.out; rw [HY'.out] at h; injection h with h; injection h with h; exact h.symm
  have m1 : (w3.setCell ⟨g, i * 4, none⟩ (.int .i64 ya)).cell? ⟨ob, o + i * 4, none⟩ = some (.int .i64 xa) := by
    rw [World.cell?_setCell_other _ _ _ _ (fun e => by injection e with e; omega)]; exact m0
  clear hown hb3
  have hne4 : ¬ i * 4 = k * 4 := by omega
  have hne5 : ¬ k * 4 = i * 4 := by omega
  go_wp2_with fail
  go_ret
  exact ⟨_, _, rfl, hO, hB⟩
set_option maxHeartbeats 400000 in
/-- spec.SwapDo, no swap. -/
theorem sdo_n (A : Option Addr) (n c : Nat) (ps : List Pn) (a b : Int) (w : World) (hx : Recs pf 4 w w.heap.size A ps) (hn : ps.length = n) (hm : n ≤ 4194304) (hs : soB ps a b = false) :
    Calls Try.prog 13 #[.slice A n c, .int .i64 a, .int .i64 b] w (DoN w) := by
  have HN := Lib.hid hn
  clear hn
  go_enter Try.func13, Try.ntmps13
  go_wp2_with fail
  refine (sswapok_any A n c ps _ _ _ hx HN.out hm).mono ?_
  rintro e w1 ⟨rfl, hb1⟩
  go_wp2_with fail
  go_ret2
  exact ⟨_, _, rfl, own_base (World.ownsRow_made w1 #[] 0 (Nat.le_refl _) (by simp [maxLen]) rfl) hb1.size, below_next hb1 (below_one _ _)⟩
set_option maxHeartbeats 400000 in
/-- spec.SwapDo, a swap. -/
theorem sdo_t (A : Option Addr) (n c : Nat) (ps : List Pn) (i k : Nat) (w : World) (hx : Recs pf 4 w w.heap.size A ps) (hn : ps.length = n) (hm : n ≤ 4194304) (hs : soB ps (i : Nat) (k : Nat) = true) :
    Calls Try.prog 13 #[.slice A n c, .int .i64 (i : Int), .int .i64 (k : Int)] w (DoQ ps n i k w) := by
  have HN := Lib.hid hn
  clear hn
  go_enter Try.func13, Try.ntmps13
  go_wp2_with fail
  refine (sswapok_any A n c ps _ _ _ hx HN.out hm).mono ?_
  rintro e w1 ⟨rfl, hb1⟩
  go_wp2_with fail
  refine (l24do_t A n c ps i k _ (hx.on hb1) HN.out hm hs).mono ?_
  rintro e w2 ⟨D, c2, rfl, hown, hb2⟩
  go_wp2_with fail
  go_ret2
  exact ⟨_, _, rfl, own_base hown hb1.size, below_next hb1 hb2⟩
end Go.Proofs.Ytpjiencegicjbaa
