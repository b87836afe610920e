/-
  FnKeyChangeLast: the last row is for all greater numbers: the walk of the law.
-/
import Derived.Test.YtgdoajhieiibcaaKDraw
import Derived.Test.YtgdoajhieiibcaaAppend
import Derived.Deep.RegionHeld3
namespace Go.Proofs.Ytgdoajhieiibcaa
open Go.RowKit

/-- What a table's rows are as values. -/
def ValsR (w : World) (B : Nat) (vals : List Value) (rs : List (List Int)) : Prop :=
  ∀ (i : Nat) (r : List Int), rs[i]? = some r → ∃ (Ai : Option Addr) (ci : Nat), vals[i]? = some (Value.slice Ai r.length ci) ∧ r.length ≤ ci ∧ ci ≤ maxLen ∧ Ints w B Ai r
theorem Rws.src {w : World} {B : Nat} {D : Option Addr} {rs : List (List Int)} {n : Nat} (h : Rws w B D rs) (hl : rs.length = n) :
    ∃ vals : List Value, vals.length = n ∧ Src w 1 D n vals ∧ ValsR w B vals rs := by
  by_cases hn : 0 < n
  · obtain ⟨b, o, rfl, hb, hc⟩ := h (by omega)
    obtain ⟨vals, hvl, hv⟩ := list_pick (P := fun (i : Nat) (v : Value) => w.cell? ⟨b, o + i, none⟩ = some v) (List.range n) (fun i hi => by
      have hi := List.mem_range.1 hi
      obtain ⟨Ai, ci, h1, _⟩ := hc i rs[i] (List.getElem?_eq_getElem (by omega))
      exact ⟨_, h1⟩)
    rw [List.length_range] at hvl
    have hat : ∀ (i : Nat) (v : Value), vals[i]? = some v → w.cell? ⟨b, o + i, none⟩ = some v := fun i v hi => by
      obtain ⟨x, hx, hP⟩ := hv i v hi
      have hlt := lt_of_at hi
      rw [List.getElem?_range (by omega)] at hx
      injection hx with hx
      subst hx; exact hP
    refine ⟨vals, hvl, ⟨by omega, fun _ => ⟨_, rfl, fun j u hj => ?_⟩⟩, fun i r hr => ?_⟩
    · rw [add_spot]; exact hat j u hj
    · obtain ⟨Ai, ci, h1, h2⟩ := hc i r hr
      have hi : i < vals.length := by have := lt_of_at hr; omega
      have hx : vals[i]? = some vals[i] := List.getElem?_eq_getElem hi
      have := hat i _ hx
      rw [h1] at this
      injection this with this
      exact ⟨Ai, ci, by rw [this]; exact hx, h2⟩
  · have h0 : rs = [] := List.eq_nil_of_length_eq_zero (by omega)
    subst h0
    exact ⟨[], by simpa using hl, ⟨by simpa using hl, fun hp => absurd hp hn⟩, fun i r hr => by simp at hr⟩
theorem ValsR.one {w : World} {B : Nat} {vals : List Value} {rs : List (List Int)} (h : ValsR w B vals rs) (hl : vals.length = rs.length) : ∀ u ∈ vals, u.oneCell' = true := by
  intro u hu
  obtain ⟨i, hi, rfl⟩ := List.getElem_of_mem hu
  obtain ⟨Ai, ci, h1, _⟩ := h i rs[i] (List.getElem?_eq_getElem (by omega))
  rw [List.getElem?_eq_getElem hi] at h1
  injection h1 with h1
  rw [h1]; rfl
theorem ValsR.on {w w' : World} {vals : List Value} {rs : List (List Int)} (h : ValsR w w.heap.size vals rs) (hb : Below w.heap.size w w') : ValsR w' w'.heap.size vals rs := fun i r hr => by
  obtain ⟨Ai, ci, h1, h2, h3, h4⟩ := h i r hr
  exact ⟨Ai, ci, h1, h2, h3, h4.on hb⟩
theorem ValsR.snoc {w : World} {B : Nat} {vals : List Value} {rs : List (List Int)} {r : List Int} {Ai : Option Addr} {ci : Nat} (h : ValsR w B vals rs) (hl : vals.length = rs.length) (h2 : r.length ≤ ci) (h3 : ci ≤ maxLen) (h4 : Ints w B Ai r) :
    ValsR w B (vals ++ [.slice Ai r.length ci]) (rs ++ [r]) := fun i q hq => by
  rcases Nat.lt_or_ge i rs.length with hi | hi
  · rw [List.getElem?_append_left hi] at hq
    obtain ⟨Bi, di, h1, h5⟩ := h i q hq
    exact ⟨Bi, di, by rw [List.getElem?_append_left (by omega)]; exact h1, h5⟩
  · have hlt := lt_of_at hq
    rw [List.length_append, List.length_singleton] at hlt
    have e : i = rs.length := by omega
    subst e
    rw [List.getElem?_append_right (Nat.le_refl _), Nat.sub_self] at hq
    simp only [List.getElem?_cons_zero, Option.some.injEq] at hq
    subst hq
    exact ⟨Ai, ci, by rw [List.getElem?_append_right (by omega), hl, Nat.sub_self]; rfl, h2, h3, h4⟩
theorem ValsR.rws {w : World} {base : Nat} {D : Option Addr} {n c : Nat} {vals : List Value} {rs : List (List Int)} (h : ValsR w w.heap.size vals rs) (ho : w.ownsRow base 23 1 (.slice D n c) n vals) (hl : rs.length = n) : Rws w w.heap.size D rs := fun hp => by
  obtain ⟨g, rfl, u, hu, hc⟩ := own_at ho (i := 0) (by omega)
  refine ⟨g, 0, rfl, World.block_lt_of_cell? _ _ hc, fun i r hr => ?_⟩
  obtain ⟨Ai, ci, h1, h2⟩ := h i r hr
  exact ⟨Ai, ci, by rw [Nat.zero_add, ho.cellAt i (by have := lt_of_at hr; omega)]; exact h1, h2⟩
/-- The last row once more: the table stays one, and the change is the same. -/
theorem kc_last {rs : List (List Int)} {xs : List Int} {r : List Int} (hR : krB rs = true) (hK : ksB xs = true) (hr : rs[rs.length - 1]? = some r) (h8 : rs.length ≠ 8) (hl : rs.length ≤ xs.length) : kcB (rs ++ [r]) xs = true ∧ kcV (rs ++ [r]) xs = kcV rs xs := by
  have h2 := krB_iff.1 hR
  have h3 : krB (rs ++ [r]) = true := krB_t (by
    refine ⟨by simp, by have := h2.2.1; simp; omega, fun i q hq => ?_⟩
    rcases Nat.lt_or_ge i rs.length with hi | hi
    · rw [List.getElem?_append_left hi] at hq
      exact h2.2.2 i q hq
    · have hlt := lt_of_at hq
      rw [List.length_append, List.length_singleton] at hlt
      have e : i = rs.length := by omega
      subst e
      rw [List.getElem?_append_right (Nat.le_refl _), Nat.sub_self] at hq
      simp only [List.getElem?_cons_zero, Option.some.injEq] at hq
      subst hq
      obtain ⟨a1, a2, a3⟩ := h2.2.2 _ _ hr
      refine ⟨a1, a2, fun x hx => ?_⟩
      have := a3 x hx
      unfold elP at this ⊢
      have := h2.1
      omega)
  have e1 : min xs.length ((rs ++ [r]).length - 1) = rs.length := by simp; omega
  have e2 : min xs.length (rs.length - 1) = rs.length - 1 := by omega
  have g1 : (rs ++ [r]).getD rs.length [] = r := by simp
  have g2 : rs.getD (rs.length - 1) [] = r := by rw [List.getD_eq_getElem?_getD, hr]; rfl
  refine ⟨by rw [kcB, h3, hK]; rfl, ?_⟩
  rw [kcV, kcV, h3, hK, hR, e1, e2, g1, g2]

theorem src_app {w w' : World} {k sz m : Nat} {news : List Value} {row : Option Nat} (h : Src w sz (some ⟨k, 0, none⟩) m news) (hg : w.grownBy w' row) (hne : some k ≠ row) : Src w' sz (some ⟨k, 0, none⟩) m news :=
  ⟨h.1, fun hm => by
    obtain ⟨ad, e, hc⟩ := h.2 hm
    injection e with e
    subst e
    refine ⟨_, rfl, fun j u hj => ?_⟩
    have h1 := hc j u hj
    rw [add_spot] at h1 ⊢
    exact hg.cell h1 hne⟩
/-- append onto a row of the call's own, in a region; what was there before the region, W, stays. -/
theorem step_app {P : Program} (w : World) {W : World} {ops : Array Oper} {o : Oper} {a : Act} {K : Act → World → Prop} {Q : Exit → Act → World → Prop} {E : Prop} (hgd : o.guard = none) (s x : Operand) (t : TypeId)
    (ho : o.op = .call { callee := .builtin .append, args := #[s, x], argTypes := #[t, t] })
    (e : TypeId) (i : TypeInfo) (z : Value) (size bytes : Nat) (ht : P.underlying t = some (.slice e)) (hi : P.info? e = some i) (hz : i.zero = some z)
    (hsize : i.size = size) (hby : i.bytes = bytes) (hzs : z.cells.size = size) (hsz : 0 < size) (hbel : Below W.heap.size W w)
    (v : Value) (n : Nat) (xs : List Value) (hs : a.eval s = v) (hown : w.ownsRow W.heap.size e size v n xs)
    (A : Option Addr) (m c : Nat) (news : List Value) (hx : a.eval x = .slice A m c) (hr : Src w size A m news) (h1 : ∀ u ∈ news, u.oneCell' = true)
    (N : Nat) (hN : n + m = N) (h63 : N ≤ maxLen) (hbytes : N * bytes ≤ 140737488355328) (all : List Value) (hall : xs ++ news = all)
    (h : ∀ D c' w', w.ownsRow W.heap.size e size v n xs → w.grownBy w' v.ownBlock → w'.ownsRow W.heap.size e size (.slice D N c') N all → Below W.heap.size W w' → K (a.put o.dst (.slice D N c')) w') :
    if Region.wanted o (yielded ops a.tmps) = true then Oper.wp P o a w K Q else E :=
by
  subst hN hall
  refine step_append_src w hgd s x t ho W.heap.size e i z size bytes ht hi hz hsize hby hzs hsz v n xs hs hown A m c news hx hr h1 h63 hbytes hbel.size fun v' w' h2 h3 _ => ?_
  · obtain ⟨D, c', rfl⟩ := own_form h2
    exact h D c' w' hown h3 h2 (hbel.grown h3 hbel.size (fun k e => (hown.lt k e).1))
theorem src_drew {w : World} {sz m : Nat} {A : Option Addr} {news : List Value} (h : Src w sz A m news) : Src w.drew sz A m news := h
theorem src_kept {w w' : World} {sz m : Nat} {A : Option Addr} {news : List Value} (h : Src w sz A m news) (hb : Below w.heap.size w w') : Src w' sz A m news :=
  ⟨h.1, fun hm => by
    obtain ⟨ad, e, hc⟩ := h.2 hm
    refine ⟨ad, e, fun j u hj => ?_⟩
    have h1 := hc j u hj
    rw [hb.cell (World.block_lt_of_cell? _ _ h1)]; exact h1⟩
theorem src_one {w : World} {g : Nat} (v : Value) (t : TypeId) (h : w.heap.size = g) : Src (w.alloc (.cells #[v] t)) 1 (some ⟨g, 0, none⟩) 1 [v] := by
  subst h; exact ⟨rfl, fun _ => ⟨_, rfl, new_one w v t⟩⟩
theorem made_at {w : World} {g base : Nat} (h : w.heap.size = g) (hb : base ≤ g) : (w.alloc (.cells #[] 23)).ownsRow base 23 1 (.slice (some ⟨g, 0, none⟩) 0 0) 0 [] := by
  subst h; exact World.ownsRow_made w #[] 0 hb (by simp [maxLen]) rfl
theorem one_slice (A : Option Addr) (n c : Nat) : ∀ u ∈ [Value.slice A n c], u.oneCell' = true := by
  intro u hu
  rw [List.mem_singleton] at hu
  subst hu; rfl

set_option maxHeartbeats 2000000 in
/-- laws.FnKeyChangeLast. -/
theorem fnKeyChangeLast_walk (a0 : Option Addr) (len0 cap0 : Nat) (z0 : List Int) (w : World) (w0 : IsRow8 w a0 len0 cap0 z0) :
    Calls Try.prog 4 #[.slice a0 len0 cap0] w fun e w' => e = .returned (.bool true) ∧ Below w.heap.size w w' := by
  by_cases hl : 1048576 < len0
  · go_enter Try.func4, Try.ntmps4
    go_wp2
    go_ret
    exact ⟨rfl, Below.refl _ _⟩
  obtain ⟨i1, hj0, hy0, hy1, hy2⟩ := info_parts sl_info
  go_enter Try.func4, Try.ntmps4
  go_wp2_with fail
  refine (drawk_any a0 len0 cap0 z0 _ w0).mono ?_
  rintro e w1 ⟨D, n, c, rs, D', m, c', xs, rfl, ⟨n8, nc, cm, HN, hrs⟩, ⟨m6, mc, cm', HX, hxs⟩, hb⟩
  clear w0
  go_wp2_with fail
  refine (impl_change D n c rs D' m c' xs _ hrs HN.out (by omega) hxs HX.out (by simp only [maxLen]; omega)).mono ?_
  rintro e w' ⟨rfl, rfl⟩
  go_wp2_with fail
  refine (spec_change D n c rs D' m c' xs _ hrs HN.out (by omega) hxs HX.out (by simp only [maxLen]; omega)).mono ?_
  rintro e w' ⟨rfl, rfl⟩
  cases hB : kcB rs xs
  · go_wp2_with fail
    go_ret
    exact ⟨rfl, hb⟩
  have hB2 := hB
  rw [kcB, Bool.and_eq_true] at hB2
  obtain ⟨hK, hR⟩ := hB2
  have hn1 : 1 ≤ n := by have := (krB_iff.1 hR).1; have := HN.out; omega
  have hm40 : m ≤ 40 := by have := (ksB_iff.1 hK).1; have := HX.out; omega
  have hcm := len_max cm
  have hcm' := len_max cm'
  obtain ⟨v0, v1⟩ := kc_bd hB
  by_cases hmn : m < n
  · go_wp2_with fail
    go_ret
    exact ⟨rfl, hb⟩
  by_cases h8 : n = 8
  · subst h8
    go_wp2_with fail
    go_ret
    exact ⟨rfl, hb⟩
  have b8 : ((n : Int) == 8) = false := beq_eq_false_iff_ne.2 (by omega)
  obtain ⟨q, rfl⟩ : ∃ q, n = q + 1 := ⟨n - 1, by omega⟩
  obtain ⟨b, o, r, Ar, cr, rfl, hbb, HR, hcr, hrc, hrm, hri⟩ := hrs.at_ (k := q) (by have := HN.out; omega)
  obtain ⟨z1, z2⟩ := kc_last hR hK (r := r) (by rw [HN.out]; exact HR.out) (by have := HN.out; omega) (by have := HN.out; have := HX.out; omega)
  have HB := Lib.hid hB
  have HZ1 := Lib.hid z1
  have HZ2 := Lib.hid z2
  obtain ⟨V, hV⟩ : ∃ V, kcV rs xs = V := ⟨_, rfl⟩
  rw [hV] at v0 v1
  have HV := Lib.hid hV
  clear z1 z2 hB hV hK b8
  have b8 : ((q : Int) + 1 == 8) = false := beq_eq_false_iff_ne.2 (by omega)
  have b9 : ¬ (q : Int) + 1 = 8 := by omega
  have b7 : ¬ (q : Int) = 7 := by omega
  have y0 : (0 : Int) ≤ (q : Int) := by omega
  have y1 : (q : Int) < (q : Int) + 1 := by omega
  have y2 : ¬ (q : Int) + 1 ≤ (q : Int) := by omega
  have y3 : ¬ (q : Int) < 0 := by omega
  have y4 : (q : Int) + 1 ≤ (c : Int) := by omega
  have y5 : IntKind.i64.wrap (q : Int) = (q : Int) := IntWalk.i64_in _ (by omega)
  have y6 : IntKind.i64.wrap ((q : Int) + 1 - 1) = (q : Int) := (IntWalk.i64_in _ (by omega)).trans (by omega)
  obtain ⟨vals, hvl, hsrc, hvr⟩ := hrs.src HN.out
  have hone := hvr.one (by have := HN.out; omega)
  have hvs := hvr.snoc (by have := HN.out; omega) hrc hrm hri
  have HL3 : Hid ((rs ++ [r]).length = q + 2) := by show _ = _; rw [List.length_append, HN.out]; rfl
  have hw10 : b < w1.heap.size := hbb
  go_wp2_with fail
  go_region_held3 (fun w' => w'.cell? ⟨b, o + q, none⟩ = some (.slice Ar r.length cr)) (go_keep)
    (first
      | (go_at_call 13
         refine (impl_change D3 (q + 2) c3 (rs ++ [r]) D' m c' xs w3 hrw HL3.out (by omega) (hxs.on hb3) HX.out (by simp only [maxLen]; omega)).mono ?_
         rintro e w' ⟨rfl, rfl⟩)
      | (with_reducible show @ite _ _ _ (Oper.wp _ _ _ ((w1.alloc (.cells #[] 23)).drew) _ _) _
         refine step_app ((w1.alloc (.cells #[] 23)).drew) (by rfl) _ _ 22 (by rfl) 23 i1 (.slice none 0 0) 1 24 Try.underlying22 hj0 hy0 hy1 hy2 rfl (by decide) (((Below.refl _ _).alloc (Nat.le_refl _) _).drew) (.slice (some ⟨w1.heap.size, 0, none⟩) 0 0) 0 [] (by rfl) (made_at rfl (Nat.le_refl _)).drew (some ⟨b, o, none⟩) (q + 1) _ vals (by rfl) (src_kept hsrc (((Below.refl _ _).alloc (Nat.le_refl _) _).drew)) hone (q + 1) (by omega) (by simp only [maxLen]; omega) (by omega) vals (List.nil_append _) ?_
         intro D2 c2 w2 _ hg2 hown2 hb2
         have e2 := (hb2.cell (p := ⟨b, o + q, none⟩) hbb).trans hcr)
      | (with_reducible show @ite _ _ _ (Oper.wp _ _ _ (((w1.alloc (.cells #[] 23)).alloc (.cells #[.slice Ar r.length cr] 23)).drew) _ _) _
         refine step_app (((w1.alloc (.cells #[] 23)).alloc (.cells #[.slice Ar r.length cr] 23)).drew) (by rfl) _ _ 22 (by rfl) 23 i1 (.slice none 0 0) 1 24 Try.underlying22 hj0 hy0 hy1 hy2 rfl (by decide) ((((Below.refl _ _).alloc (Nat.le_refl _) _).alloc (by simp) _).drew) (.slice (some ⟨w1.heap.size, 0, none⟩) 0 0) 0 [] (by rfl) ((made_at rfl (Nat.le_refl _)).alloc _).drew (some ⟨b, o, none⟩) (q + 1) _ vals (by rfl) (src_kept hsrc ((((Below.refl _ _).alloc (Nat.le_refl _) _).alloc (by simp) _).drew)) hone (q + 1) (by omega) (by simp only [maxLen]; omega) (by omega) vals (List.nil_append _) ?_
         intro D2 c2 w2 _ hg22 hown22 hb22
         have e2 := (hb22.cell (p := ⟨b, o + q, none⟩) hbb).trans hcr
         have hs22 : Src w2 1 (some ⟨w1.heap.size + 1, 0, none⟩) 1 [.slice Ar r.length cr] := src_app (w := ((w1.alloc (.cells #[] 23)).alloc (.cells #[.slice Ar r.length cr] 23)).drew) (src_drew (src_one (w := w1.alloc (.cells #[] 23)) _ _ (by simp))) hg22 (by simp [Value.ownBlock]))
      | (with_reducible show @ite _ _ _ (Oper.wp _ _ _ (((w1.alloc (.cells #[.slice Ar r.length cr] 23)).alloc (.cells #[] 23)).drew) _ _) _
         refine step_app (((w1.alloc (.cells #[.slice Ar r.length cr] 23)).alloc (.cells #[] 23)).drew) (by rfl) _ _ 22 (by rfl) 23 i1 (.slice none 0 0) 1 24 Try.underlying22 hj0 hy0 hy1 hy2 rfl (by decide) ((((Below.refl _ _).alloc (Nat.le_refl _) _).alloc (by simp) _).drew) (.slice (some ⟨w1.heap.size + 1, 0, none⟩) 0 0) 0 [] (by rfl) (made_at (w := w1.alloc (.cells #[.slice Ar r.length cr] 23)) (by simp) (by omega)).drew (some ⟨b, o, none⟩) (q + 1) _ vals (by rfl) (src_kept hsrc ((((Below.refl _ _).alloc (Nat.le_refl _) _).alloc (by simp) _).drew)) hone (q + 1) (by omega) (by simp only [maxLen]; omega) (by omega) vals (List.nil_append _) ?_
         intro D2 c2 w2 _ hg23 hown23 hb23
         have e2 := (hb23.cell (p := ⟨b, o + q, none⟩) hbb).trans hcr
         have hs23 : Src w2 1 (some ⟨w1.heap.size, 0, none⟩) 1 [.slice Ar r.length cr] := src_app (w := ((w1.alloc (.cells #[.slice Ar r.length cr] 23)).alloc (.cells #[] 23)).drew) (src_drew (src_kept (src_one (w := w1) _ _ rfl) ((Below.refl _ _).alloc (Nat.le_refl _) _))) hg23 (by simp [Value.ownBlock]))
      | (with_reducible show @ite _ _ _ (Oper.wp _ _ _ ((w1.alloc (.cells #[.slice Ar r.length cr] 23)).alloc (.cells #[] 23)) _ _) _
         refine step_app ((w1.alloc (.cells #[.slice Ar r.length cr] 23)).alloc (.cells #[] 23)) (by rfl) _ _ 22 (by rfl) 23 i1 (.slice none 0 0) 1 24 Try.underlying22 hj0 hy0 hy1 hy2 rfl (by decide) ((((Below.refl _ _).alloc (Nat.le_refl _) _).alloc (by simp) _)) (.slice (some ⟨w1.heap.size + 1, 0, none⟩) 0 0) 0 [] (by rfl) (made_at (w := w1.alloc (.cells #[.slice Ar r.length cr] 23)) (by simp) (by omega)) (some ⟨b, o, none⟩) (q + 1) _ vals (by rfl) (src_kept hsrc ((((Below.refl _ _).alloc (Nat.le_refl _) _).alloc (by simp) _))) hone (q + 1) (by omega) (by simp only [maxLen]; omega) (by omega) vals (List.nil_append _) ?_
         intro D2 c2 w2 _ hg23 hown23 hb23
         have e2 := (hb23.cell (p := ⟨b, o + q, none⟩) hbb).trans hcr
         have hs23 : Src w2 1 (some ⟨w1.heap.size, 0, none⟩) 1 [.slice Ar r.length cr] := src_app (w := (w1.alloc (.cells #[.slice Ar r.length cr] 23)).alloc (.cells #[] 23)) (src_kept (src_one (w := w1) _ _ rfl) ((Below.refl _ _).alloc (Nat.le_refl _) _)) hg23 (by simp [Value.ownBlock]))
      | (refine step_app (_) (by rfl) _ _ 22 (by rfl) 23 i1 (.slice none 0 0) 1 24 Try.underlying22 hj0 hy0 hy1 hy2 rfl (by decide) hb22 (.slice D2 (q + 1) c2) (q + 1) vals (by rfl) hown22 (some ⟨w1.heap.size + 1, 0, none⟩) 1 _ [.slice Ar r.length cr] (by rfl) hs22 (one_slice _ _ _) (q + 2) rfl (by simp only [maxLen]; omega) (by omega) (vals ++ [.slice Ar r.length cr]) rfl ?_
         intro D3 c3 w3 _ hg3 hown3 hb3
         have e3 := (hb3.cell (p := ⟨b, o + q, none⟩) hbb).trans hcr
         have hrw := (hvs.on hb3).rws hown3 HL3.out)
      | (refine step_app (_) (by rfl) _ _ 22 (by rfl) 23 i1 (.slice none 0 0) 1 24 Try.underlying22 hj0 hy0 hy1 hy2 rfl (by decide) hb23 (.slice D2 (q + 1) c2) (q + 1) vals (by rfl) hown23 (some ⟨w1.heap.size, 0, none⟩) 1 _ [.slice Ar r.length cr] (by rfl) hs23 (one_slice _ _ _) (q + 2) rfl (by simp only [maxLen]; omega) (by omega) (vals ++ [.slice Ar r.length cr]) rfl ?_
         intro D3 c3 w3 _ hg3 hown3 hb3
         have e3 := (hb3.cell (p := ⟨b, o + q, none⟩) hbb).trans hcr
         have hrw := (hvs.on hb3).rws hown3 HL3.out)
      | (refine step_app (w2.alloc (.cells #[.slice Ar r.length cr] 23)) (by rfl) _ _ 22 (by rfl) 23 i1 (.slice none 0 0) 1 24 Try.underlying22 hj0 hy0 hy1 hy2 rfl (by decide) (hb2.alloc hb2.size _) (.slice D2 (q + 1) c2) (q + 1) vals (by rfl) (hown2.alloc _) (some ⟨w2.heap.size, 0, none⟩) 1 _ [.slice Ar r.length cr] (by rfl) (src_one _ _ rfl) (one_slice _ _ _) (q + 2) rfl (by simp only [maxLen]; omega) (by omega) (vals ++ [.slice Ar r.length cr]) rfl ?_
         intro D3 c3 w3 _ hg3 hown3 hb3
         have e3 := (hb3.cell (p := ⟨b, o + q, none⟩) hbb).trans hcr
         have hrw := (hvs.on hb3).rws hown3 HL3.out))
  all_goals
    rw [HZ1.out, HZ2.out, HV.out]
    go_wp2_with fail
    go_ret
    exact ⟨rfl, hb.trans (hb3.mono hb.size)⟩
end Go.Proofs.Ytgdoajhieiibcaa
