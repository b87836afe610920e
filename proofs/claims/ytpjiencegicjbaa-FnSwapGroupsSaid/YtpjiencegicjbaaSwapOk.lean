/-
  The walks of SwapOk and SwapMoved, the program's and the reference's, and of laws.samePeople at people that read alike.
-/
import Derived.Test.YtpjiencegicjbaaRead
import Derived.Deep.DrawnRows
namespace Go.Proofs.Ytpjiencegicjbaa
open Go.RowKit
attribute [local go_sem ↓] Go.wp_at_zero Go.wp_at_succ

theorem ppl_at2 {w : World} {B i k : Nat} {A : Option Addr} {ps : List Pn} (h : Recs pf 4 w B A ps) (hi : i < ps.length) (hk : k < ps.length) :
    ∃ b o a j s p a' j' s' p', A = some ⟨b, o, none⟩ ∧ b < B ∧ Hid (ps[i]? = some ⟨a, j, s, p⟩) ∧ Hid (ps[k]? = some ⟨a', j', s', p'⟩) ∧
      w.cell? ⟨b, o + i * 4, none⟩ = some (.int .i64 a) ∧ w.cell? ⟨b, o + i * 4 + 1, none⟩ = some (.int .i64 j) ∧ w.cell? ⟨b, o + i * 4 + 2, none⟩ = some (.int .i64 s) ∧ w.cell? ⟨b, o + i * 4 + 3, none⟩ = some (.int .i64 p) ∧
      w.cell? ⟨b, o + k * 4, none⟩ = some (.int .i64 a') ∧ w.cell? ⟨b, o + k * 4 + 1, none⟩ = some (.int .i64 j') ∧ w.cell? ⟨b, o + k * 4 + 2, none⟩ = some (.int .i64 s') ∧ w.cell? ⟨b, o + k * 4 + 3, none⟩ = some (.int .i64 p') := by
  obtain ⟨b, o, e, hb, hc⟩ := h (by omega)
  have h1 : ps[i]? = some ps[i] := List.getElem?_eq_getElem hi
  have h2 : ps[k]? = some ps[k] := List.getElem?_eq_getElem hk
  exact ⟨b, o, _, _, _, _, _, _, _, _, e, hb, h1, h2, hc i _ h1 0 _ rfl, hc i _ h1 1 _ rfl, hc i _ h1 2 _ rfl, hc i _ h1 3 _ rfl, hc k _ h2 0 _ rfl, hc k _ h2 1 _ rfl, hc k _ h2 2 _ rfl, hc k _ h2 3 _ rfl⟩
theorem so_pv {ps : List Pn} {a b : Int} (h : pvB ps = false) : soB ps a b = false := soB_f fun hh => by rw [pvB_t hh.1] at h; cases h
theorem so_out {ps : List Pn} {n : Nat} {a b : Int} (hn : ps.length = n) (h : ¬ (0 ≤ a ∧ a < n) ∨ ¬ (0 ≤ b ∧ b < n)) : soB ps a b = false := soB_f fun ⟨_, i, j, x, y, h1, h2, h3, h4, _⟩ => by
  have := lt_of_at h3
  have := lt_of_at h4
  omega
theorem so_t {ps : List Pn} {i j : Nat} {x y : Pn} (hp : pvB ps = true) (hx : ps[i]? = some x) (hy : ps[j]? = some y) (h1 : x.job = y.job) (h2 : x.sex = y.sex) (h3 : x.area ≠ y.area) : soB ps i j = true :=
  soB_t ((so_at hx hy).2 ⟨pvB_iff.1 hp, h1, h2, h3⟩)
theorem so_f {ps : List Pn} {i j : Nat} {x y : Pn} (hx : ps[i]? = some x) (hy : ps[j]? = some y) (h : x.job ≠ y.job ∨ x.sex ≠ y.sex ∨ x.area = y.area) : soB ps i j = false :=
  soB_f fun hh => by
    have := ((so_at hx hy).1 hh).2
    rcases h with h | h | h
    · exact h this.1
    · exact h this.2.1
    · exact this.2.2 h
theorem so_ar {ps : List Pn} {i j : Nat} {x y : Pn} (hp : pvB ps = true) (hx : ps[i]? = some x) (hy : ps[j]? = some y) (h1 : x.job = y.job) (h2 : x.sex = y.sex) : soB ps i j = (x.area != y.area) := by
  by_cases h : x.area = y.area
  · rw [so_f hx hy (.inr (.inr h)), h]; simp
  · rw [so_t hp hx hy h1 h2 h]; simp [h]
theorem below_drewN {B : Nat} {w w' : World} (h : Below B w w') (k : Nat) : Below B w (w'.drewN k) := ⟨h.os, h.tape, h.output, h.size, h.block⟩
theorem below_two (w : World) (o1 o2 : Obj) : Below w.heap.size w ((w.alloc o1).alloc o2) := below_next (below_one w o1) (below_one _ o2)

set_option maxHeartbeats 2000000 in
/-- impl.SwapOk. -/
theorem swapok_any (A : Option Addr) (n c : Nat) (ps : List Pn) (a b : Int) (w : World) (hx : Recs pf 4 w w.heap.size A ps) (hn : ps.length = n) (hm : n ≤ 4194304) :
    Calls Try.prog 11 #[.slice A n c, .int .i64 a, .int .i64 b] w fun e w' => e = .returned (.bool (soB ps a b)) ∧ Below w.heap.size w w' := by
  have HN := Lib.hid hn
  clear hn
  go_enter Try.func11, Try.ntmps11
  go_wp2_with fail
  refine (pvalid_any A n c ps _ hx HN.out hm).mono ?_
  rintro e w1 ⟨rfl, hb1⟩
  cases hv : pvB ps
  · have hno := so_pv (a := a) (b := b) hv
    go_wp2_with fail
    go_ret
    exact ⟨ret_bool hno.symm, hb1⟩
  by_cases a0 : a < 0
  · have hno := so_out (a := a) (b := b) HN.out (.inl (by omega))
    go_wp2_with fail
    go_ret
    exact ⟨ret_bool hno.symm, hb1⟩
  by_cases a1 : (n : Int) ≤ a
  · have hno := so_out (a := a) (b := b) HN.out (.inl (by omega))
    go_wp2_with fail
    go_ret
    exact ⟨ret_bool hno.symm, hb1⟩
  by_cases b0 : b < 0
  · have hno := so_out (a := a) (b := b) HN.out (.inr (by omega))
    go_wp2_with fail
    go_ret
    exact ⟨ret_bool hno.symm, hb1⟩
  by_cases b1 : (n : Int) ≤ b
  · have hno := so_out (a := a) (b := b) HN.out (.inr (by omega))
    go_wp2_with fail
    go_ret
    exact ⟨ret_bool hno.symm, hb1⟩
  obtain ⟨i, rfl⟩ : ∃ i : Nat, a = i := ⟨a.toNat, by omega⟩
  obtain ⟨k, rfl⟩ : ∃ k : Nat, b = k := ⟨b.toNat, by omega⟩
  have i0 : (0 : Int) ≤ (i : Int) := by omega
  have i1 : (i : Int) < (n : Int) := by omega
  have k0 : (0 : Int) ≤ (k : Int) := by omega
  have k1 : (k : Int) < (n : Int) := by omega
  obtain ⟨ob, o, xa, xj, xs, xp, ya, yj, ys, yp, rfl, hbb, HX, HY, c0, c1, c2, c3, d0, d1, d2, d3⟩ := ppl_at2 (hx.on hb1) (i := i) (k := k) (by have := HN.out; omega) (by have := HN.out; omega)
  have hne : w1.heap.size ≠ ob := by omega
  have hne2 : w1.heap.size + 1 ≠ ob := by omega
  go_wp2_with fail
  go_region_held3 (fun w' => w'.cell? ⟨ob, o + i * 4, none⟩ = some (.int .i64 xa) ∧ w'.cell? ⟨ob, o + i * 4 + 1, none⟩ = some (.int .i64 xj) ∧ w'.cell? ⟨ob, o + i * 4 + 2, none⟩ = some (.int .i64 xs) ∧ w'.cell? ⟨ob, o + i * 4 + 3, none⟩ = some (.int .i64 xp) ∧ w'.cell? ⟨ob, o + k * 4, none⟩ = some (.int .i64 ya) ∧ w'.cell? ⟨ob, o + k * 4 + 1, none⟩ = some (.int .i64 yj) ∧ w'.cell? ⟨ob, o + k * 4 + 2, none⟩ = some (.int .i64 ys) ∧ w'.cell? ⟨ob, o + k * 4 + 3, none⟩ = some (.int .i64 yp)) (go_keep) (fail)
  all_goals
    by_cases g1 : xj = yj
    · have e1 : (xj == yj) = true := beq_iff_eq.2 g1
      by_cases g2 : xs = ys
      · have e2 : (xs == ys) = true := beq_iff_eq.2 g2
        have HE := Lib.hid (so_ar hv HX.out HY.out g1 g2)
        clear g1 g2
        go_wp2_with fail
        go_ret
        exact ⟨ret_bool HE.out.symm, below_next hb1 (below_two _ _ _).drew⟩
      · have e2 : (xs == ys) = false := beq_eq_false_iff_ne.2 g2
        have HE := Lib.hid (so_f HX.out HY.out (.inr (.inl g2)))
        clear g1 g2
        go_wp2_with fail
        go_ret
        exact ⟨ret_bool HE.out.symm, below_next hb1 (below_two _ _ _).drew⟩
    · have e1 : (xj == yj) = false := beq_eq_false_iff_ne.2 g1
      have HE := Lib.hid (so_f HX.out HY.out (.inl g1))
      clear g1
      go_wp2_with fail
      go_ret
      exact ⟨ret_bool HE.out.symm, below_next hb1 (below_two _ _ _).drew⟩

set_option maxHeartbeats 2000000 in
/-- spec.SwapOk. -/
theorem sswapok_any (A : Option Addr) (n c : Nat) (ps : List Pn) (a b : Int) (w : World) (hx : Recs pf 4 w w.heap.size A ps) (hn : ps.length = n) (hm : n ≤ 4194304) :
    Calls Try.prog 9 #[.slice A n c, .int .i64 a, .int .i64 b] w fun e w' => e = .returned (.bool (soB ps a b)) ∧ Below w.heap.size w w' := by
  have HN := Lib.hid hn
  clear hn
  go_enter Try.func9, Try.ntmps9
  go_wp2_with fail
  refine (spvalid_any A n c ps _ hx HN.out hm).mono ?_
  rintro e w1 ⟨rfl, hb1⟩
  cases hv : pvB ps
  · have hno := so_pv (a := a) (b := b) hv
    go_wp2_with fail
    go_ret
    exact ⟨ret_bool hno.symm, hb1⟩
  cases ha : inB a 0 ((n : Int) - 1)
  · have hno := so_out (a := a) (b := b) HN.out (.inl (fun h => by rw [inB_t (by omega) (by omega)] at ha; cases ha))
    go_wp2_with (go_at_call 30; refine (l6In_any _ _ _ _).mono ?_; rintro e w' ⟨rfl, rfl⟩)
    go_ret
    exact ⟨ret_bool hno.symm, hb1⟩
  cases hb : inB b 0 ((n : Int) - 1)
  · have hno := so_out (a := a) (b := b) HN.out (.inr (fun h => by rw [inB_t (by omega) (by omega)] at hb; cases hb))
    go_wp2_with (go_at_call 30; refine (l6In_any _ _ _ _).mono ?_; rintro e w' ⟨rfl, rfl⟩)
    go_ret
    exact ⟨ret_bool hno.symm, hb1⟩
  have ha' := inB_iff.1 ha
  have hb' := inB_iff.1 hb
  obtain ⟨i, rfl⟩ : ∃ i : Nat, a = i := ⟨a.toNat, by omega⟩
  obtain ⟨k, rfl⟩ : ∃ k : Nat, b = k := ⟨b.toNat, by omega⟩
  have i0 : (0 : Int) ≤ (i : Int) := by omega
  have i1 : (i : Int) < (n : Int) := by omega
  have k0 : (0 : Int) ≤ (k : Int) := by omega
  have k1 : (k : Int) < (n : Int) := by omega
  clear ha' hb'
  obtain ⟨ob, o, xa, xj, xs, xp, ya, yj, ys, yp, rfl, hbb, HX, HY, c0, c1, c2, c3, d0, d1, d2, d3⟩ := ppl_at2 (hx.on hb1) (i := i) (k := k) (by have := HN.out; omega) (by have := HN.out; omega)
  have hne : w1.heap.size ≠ ob := by omega
  by_cases g1 : xj = yj
  · have e1 : (xj == yj) = true := beq_iff_eq.2 g1
    by_cases g2 : xs = ys
    · have e2 : (xs == ys) = true := beq_iff_eq.2 g2
      have HE := Lib.hid (so_ar hv HX.out HY.out g1 g2)
      clear g1 g2
      go_wp2_with (go_at_call 30; refine (l6In_any _ _ _ _).mono ?_; rintro e w' ⟨rfl, rfl⟩)
      go_ret
      exact ⟨ret_bool HE.out.symm, below_next hb1 (below_two _ _ _)⟩
    · have e2 : (xs == ys) = false := beq_eq_false_iff_ne.2 g2
      have HE := Lib.hid (so_f HX.out HY.out (.inr (.inl g2)))
      clear g1 g2
      go_wp2_with (go_at_call 30; refine (l6In_any _ _ _ _).mono ?_; rintro e w' ⟨rfl, rfl⟩)
      go_ret
      exact ⟨ret_bool HE.out.symm, below_next hb1 (below_two _ _ _)⟩
  · have e1 : (xj == yj) = false := beq_eq_false_iff_ne.2 g1
    have HE := Lib.hid (so_f HX.out HY.out (.inl g1))
    clear g1
    go_wp2_with (go_at_call 30; refine (l6In_any _ _ _ _).mono ?_; rintro e w' ⟨rfl, rfl⟩)
    go_ret
    exact ⟨ret_bool HE.out.symm, below_next hb1 (below_two _ _ _)⟩

/-- What SwapMoved returns. -/
def mv (xs ys : List Pn) : Int := if (pvB xs && pvB ys && decide (xs.length = ys.length)) = true then (mvd xs ys : Int) else -1
theorem mv_t {xs ys : List Pn} (h1 : pvB xs = true) (h2 : pvB ys = true) (h : xs.length = ys.length) : mv xs ys = mvd xs ys := by simp [mv, h1, h2, h]
theorem mv_f {xs ys : List Pn} (h : pvB xs = false ∨ pvB ys = false ∨ xs.length ≠ ys.length) : mv xs ys = -1 := by
  rcases h with h | h | h <;> simp [mv, h]
theorem mvd_step {xs ys : List Pn} {k : Nat} {x y : Pn} (hx : xs[k]? = some x) (hy : ys[k]? = some y) : mvd (xs.take (k + 1)) (ys.take (k + 1)) = mvd (xs.take k) (ys.take k) + if (x.area != y.area) = true then 1 else 0 := by
  rw [mvd_take hx hy]
  by_cases h : x.area = y.area
  · rw [if_pos h, if_neg (by simp [h])]
  · rw [if_neg h, if_pos (by simp [h])]
theorem mvd_tk_le (xs ys : List Pn) (k : Nat) : mvd (xs.take k) (ys.take k) ≤ k := by
  have h1 := mvd_le (xs.take k) (ys.take k)
  have h2 := List.length_take_le k xs
  omega
theorem mvd_all {xs ys : List Pn} {n k : Nat} (hx : xs.length = n) (hy : ys.length = n) (hk : ¬ k < n) : mvd (xs.take k) (ys.take k) = mvd xs ys := by
  rw [List.take_of_length_le (by omega), List.take_of_length_le (by omega)]

set_option maxHeartbeats 1000000 in
/-- impl.SwapMoved. -/
theorem moved_any (A1 A2 : Option Addr) (n1 c1 n2 c2 : Nat) (xs ys : List Pn) (w : World) (hx : Recs pf 4 w w.heap.size A1 xs) (hy : Recs pf 4 w w.heap.size A2 ys) (hn1 : xs.length = n1) (hn2 : ys.length = n2) (hm1 : n1 ≤ 4194304) (hm2 : n2 ≤ 4194304) :
    Calls Try.prog 18 #[.slice A1 n1 c1, .slice A2 n2 c2] w fun e w' => e = .returned (.int .i64 (mv xs ys)) ∧ Below w.heap.size w w' := by
  have HN1 := Lib.hid hn1
  have HN2 := Lib.hid hn2
  clear hn1 hn2
  go_enter Try.func18, Try.ntmps18
  go_wp2_with fail
  refine (pvalid_any A1 n1 c1 xs _ hx HN1.out hm1).mono ?_
  rintro e w1 ⟨rfl, hb1⟩
  cases hv1 : pvB xs
  · have hno := mv_f (xs := xs) (ys := ys) (.inl hv1)
    go_wp2_with fail
    go_ret
    exact ⟨ret_int hno.symm, hb1⟩
  go_wp2_with fail
  refine (pvalid_any A2 n2 c2 ys _ (hy.on hb1) HN2.out hm2).mono ?_
  rintro e w2 ⟨rfl, hb2⟩
  have hb2 := below_next hb1 hb2
  clear hb1
  cases hv2 : pvB ys
  · have hno := mv_f (xs := xs) (ys := ys) (.inr (.inl hv2))
    go_wp2_with fail
    go_ret
    exact ⟨ret_int hno.symm, hb2⟩
  by_cases hl : n1 ≠ n2
  · have hno := mv_f (xs := xs) (ys := ys) (.inr (.inr (by rw [HN1.out, HN2.out]; exact hl)))
    have e1 : ((n1 : Int) != (n2 : Int)) = true := by simp; omega
    go_wp2_with fail
    go_ret
    exact ⟨ret_int hno.symm, hb2⟩
  obtain rfl : n1 = n2 := by omega
  have HE := Lib.hid (mv_t hv1 hv2 (by rw [HN1.out, HN2.out]))
  go_wp2_with fail
  go_loopw [5, 24] (fun m i wr => ∃ k : Nat, k ≤ n1 ∧ i = .int .i64 (k : Int) ∧ m = .int .i64 ((mvd (xs.take k) (ys.take k) : Nat) : Int) ∧ Below w.heap.size w wr) (fun _ i _ => n1 - (intOf i).toNat)
  case atStart => exact ⟨0, by omega, rfl, rfl, hb2⟩
  case round =>
    obtain ⟨k, hk, rfl, rfl, hb⟩ := hrel
    have hle := mvd_tk_le xs ys k
    by_cases hlt : k < n1
    · obtain ⟨ob, o, xa, xj, xs', xp, rfl, hbb, HX, d0, -, -, -⟩ := ppl_at (hx.on hb) (k := k) (by have := HN1.out; omega)
      obtain ⟨ob', o', ya, yj, ys', yp, rfl, hbb', HY, d0', -, -, -⟩ := ppl_at (hy.on hb) (k := k) (by have := HN2.out; omega)
      have i1 : (0 : Int) ≤ (k : Int) := by omega
      have i2 : (k : Int) < (n1 : Int) := by omega
      have hs := mvd_step HX.out HY.out
      cases hne : (xa != ya)
      · have HS : Hid (mvd (xs.take (k + 1)) (ys.take (k + 1)) = mvd (xs.take k) (ys.take k)) := by rw [hs, if_neg (by simp only [hne]; decide)]; rfl
        clear hs
        go_wp2_with fail
        go_quiet (fail)
        go_wp2_with fail
        go_roundw
        case rel => exact ⟨k + 1, by omega, by go_num, by rw [HS.out], below_drewN hb _⟩
        case measure => simp [intOf]; omega
      · have HS : Hid (mvd (xs.take (k + 1)) (ys.take (k + 1)) = mvd (xs.take k) (ys.take k) + 1) := by rw [hs, if_pos (by simp only [hne])]; rfl
        clear hs
        go_wp2_with fail
        go_quiet (fail)
        go_wp2_with fail
        go_roundw
        case rel => exact ⟨k + 1, by omega, by go_num, by rw [HS.out]; go_num, below_drewN hb _⟩
        case measure => simp [intOf]; omega
    · have HA := Lib.hid (mvd_all HN1.out HN2.out hlt)
      go_wp2_with fail
      go_ret
      exact ⟨ret_int (by rw [HE.out, HA.out]), hb⟩

set_option maxHeartbeats 1000000 in
/-- spec.SwapMoved. -/
theorem smoved_any (A1 A2 : Option Addr) (n1 c1 n2 c2 : Nat) (xs ys : List Pn) (w : World) (hx : Recs pf 4 w w.heap.size A1 xs) (hy : Recs pf 4 w w.heap.size A2 ys) (hn1 : xs.length = n1) (hn2 : ys.length = n2) (hm1 : n1 ≤ 4194304) (hm2 : n2 ≤ 4194304) :
    Calls Try.prog 17 #[.slice A1 n1 c1, .slice A2 n2 c2] w fun e w' => e = .returned (.int .i64 (mv xs ys)) ∧ Below w.heap.size w w' := by
  have HN1 := Lib.hid hn1
  have HN2 := Lib.hid hn2
  clear hn1 hn2
  go_enter Try.func17, Try.ntmps17
  go_wp2_with fail
  refine (spvalid_any A1 n1 c1 xs _ hx HN1.out hm1).mono ?_
  rintro e w1 ⟨rfl, hb1⟩
  cases hv1 : pvB xs
  · have hno := mv_f (xs := xs) (ys := ys) (.inl hv1)
    go_wp2_with fail
    go_ret
    exact ⟨ret_int hno.symm, hb1⟩
  go_wp2_with fail
  refine (spvalid_any A2 n2 c2 ys _ (hy.on hb1) HN2.out hm2).mono ?_
  rintro e w2 ⟨rfl, hb2⟩
  have hb2 := below_next hb1 hb2
  clear hb1
  cases hv2 : pvB ys
  · have hno := mv_f (xs := xs) (ys := ys) (.inr (.inl hv2))
    go_wp2_with fail
    go_ret
    exact ⟨ret_int hno.symm, hb2⟩
  by_cases hl : n1 ≠ n2
  · have hno := mv_f (xs := xs) (ys := ys) (.inr (.inr (by rw [HN1.out, HN2.out]; exact hl)))
    have e1 : ((n1 : Int) != (n2 : Int)) = true := by simp; omega
    go_wp2_with fail
    go_ret
    exact ⟨ret_int hno.symm, hb2⟩
  obtain rfl : n1 = n2 := by omega
  have HE := Lib.hid (mv_t hv1 hv2 (by rw [HN1.out, HN2.out]))
  go_wp2_with fail
  go_loopw [5, 6] (fun m i wr => ∃ k : Nat, k ≤ n1 ∧ i = .int .i64 (k : Int) ∧ m = .int .i64 ((mvd (xs.take k) (ys.take k) : Nat) : Int) ∧ Below w.heap.size w wr) (fun _ i _ => n1 - (intOf i).toNat)
  case atStart => exact ⟨0, by omega, rfl, rfl, hb2⟩
  case round =>
    obtain ⟨k, hk, rfl, rfl, hb⟩ := hrel
    have hle := mvd_tk_le xs ys k
    by_cases hlt : k < n1
    · obtain ⟨ob, o, xa, xj, xs', xp, rfl, hbb, HX, d0, -, -, -⟩ := ppl_at (hx.on hb) (k := k) (by have := HN1.out; omega)
      obtain ⟨ob', o', ya, yj, ys', yp, rfl, hbb', HY, d0', -, -, -⟩ := ppl_at (hy.on hb) (k := k) (by have := HN2.out; omega)
      have i1 : (0 : Int) ≤ (k : Int) := by omega
      have i2 : (k : Int) < (n1 : Int) := by omega
      have hs := mvd_step HX.out HY.out
      cases hne : (xa != ya)
      · have HS : Hid (mvd (xs.take (k + 1)) (ys.take (k + 1)) = mvd (xs.take k) (ys.take k)) := by rw [hs, if_neg (by simp only [hne]; decide)]; rfl
        clear hs
        go_wp2_with fail
        go_quiet (fail)
        go_wp2_with fail
        go_roundw
        case rel => exact ⟨k + 1, by omega, by go_num, by rw [HS.out], below_drewN hb _⟩
        case measure => simp [intOf]; omega
      · have HS : Hid (mvd (xs.take (k + 1)) (ys.take (k + 1)) = mvd (xs.take k) (ys.take k) + 1) := by rw [hs, if_pos (by simp only [hne])]; rfl
        clear hs
        go_wp2_with fail
        go_quiet (fail)
        go_wp2_with fail
        go_roundw
        case rel => exact ⟨k + 1, by omega, by go_num, by rw [HS.out]; go_num, below_drewN hb _⟩
        case measure => simp [intOf]; omega
    · have HA := Lib.hid (mvd_all HN1.out HN2.out hlt)
      go_wp2_with fail
      go_ret
      exact ⟨ret_int (by rw [HE.out, HA.out]), hb⟩

set_option maxHeartbeats 1000000 in
/-- laws.samePeople at people that read alike. -/
theorem samep_t (A1 A2 : Option Addr) (n c1 c2 : Nat) (ps : List Pn) (w : World) (hx1 : Recs pf 4 w w.heap.size A1 ps) (hx2 : Recs pf 4 w w.heap.size A2 ps) (hn : ps.length = n) (hm : n ≤ 4194304) :
    Calls Try.prog 26 #[.slice A1 n c1, .slice A2 n c2] w fun e w' => e = .returned (.bool true) ∧ Below w.heap.size w w' := by
  have HN := Lib.hid hn
  clear hn
  go_enter Try.func26, Try.ntmps26
  go_wp2_with fail
  go_loopw [5] (fun i wr => ∃ k : Nat, k ≤ n ∧ i = .int .i64 (k : Int) ∧ Below w.heap.size w wr) (fun i _ => n - (intOf i).toNat)
  case atStart => exact ⟨0, by omega, rfl, Below.refl _ _⟩
  case round =>
    obtain ⟨k, hk, rfl, hB⟩ := hrel
    by_cases hlt : k < n
    · obtain ⟨ob, o, xa, xj, xs, xp, rfl, hbb, HX, c0, c1, c2, c3⟩ := ppl_at (hx1.on hB) (k := k) (by have := HN.out; omega)
      obtain ⟨ob', o', ya, yj, ys, yp, rfl, hbb', HY, d0, d1, d2, d3⟩ := ppl_at (hx2.on hB) (k := k) (by have := HN.out; omega)
      obtain ⟨rfl, rfl, rfl, rfl⟩ : xa = ya ∧ xj = yj ∧ xs = ys ∧ xp = yp := by
        have h := HX.out
        rw [HY.out] at h
        injection h with h
        injection h with h1 h2 h3 h4
        exact ⟨h1.symm, h2.symm, h3.symm, h4.symm⟩
      have i1 : (0 : Int) ≤ (k : Int) := by omega
      have i2 : (k : Int) < (n : Int) := by omega
      go_wp2_with fail
      go_quiet (fail)
      go_wp2_with fail
      go_roundw
      case rel => exact ⟨k + 1, by omega, by go_num, below_drewN hB _⟩
      case measure => simp [intOf]; omega
    · go_wp2_with fail
      go_ret
      exact ⟨rfl, hB⟩
end Go.Proofs.Ytpjiencegicjbaa
