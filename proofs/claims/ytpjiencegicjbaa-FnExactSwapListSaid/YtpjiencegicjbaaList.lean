/-
  The walks of SwapList, the program's and the reference's.
-/
import Derived.Test.YtpjiencegicjbaaDo
import Derived.Test.YtpjiencegicjbaaCont
namespace Go.Proofs.Ytpjiencegicjbaa
open Go.RowKit
attribute [local go_sem ↓] Go.wp_at_zero Go.wp_at_succ

theorem Recs.drew {α : Type} {f : α → List Value} {sz : Nat} {w : World} {A : Option Addr} {xs : List α} (h : Recs f sz w w.heap.size A xs) : Recs f sz w.drew w.drew.heap.size A xs := h
/-- A pair in memory. -/
theorem Rws.pair {w : World} {B k : Nat} {A : Option Addr} {rs : List (List Int)} (h : Rws w B A rs) (hk : k < rs.length) (h2 : ∀ r, rs[k]? = some r → r.length = 2) :
    ∃ b o b' o' ci x y, A = some ⟨b, o, none⟩ ∧ b < B ∧ b' < B ∧ Hid (rs[k]? = some [x, y]) ∧ w.cell? ⟨b, o + k, none⟩ = some (.slice (some ⟨b', o', none⟩) 2 ci) ∧ 2 ≤ ci ∧ ci ≤ maxLen ∧
      w.cell? ⟨b', o', none⟩ = some (.int .i64 x) ∧ w.cell? ⟨b', o' + 1, none⟩ = some (.int .i64 y) := by
  obtain ⟨b, o, r, Ai, ci, rfl, hb, HX, hc, h3, h4, h5⟩ := h.at_ hk
  have hl := h2 r HX.out
  obtain ⟨x, y, rfl⟩ := two_of hl
  obtain ⟨b', o', rfl, hb', hc'⟩ := h5 (by simp)
  exact ⟨b, o, b', o', ci, x, y, rfl, hb, hb', HX, hc, h3, h4, hc' 0 x rfl, hc' 1 y rfl⟩
theorem Rws.on {w w' : World} {A : Option Addr} {rs : List (List Int)} (h : Rws w w.heap.size A rs) (hb : Below w.heap.size w w') : Rws w' w'.heap.size A rs := (h.below hb).more hb.size
theorem so_nats {ps : List Pn} {a b : Int} (h : soB ps a b = true) : ∃ i k : Nat, a = i ∧ b = k := by obtain ⟨_, i, k, _, _, e1, e2, _⟩ := soB_iff.1 h; exact ⟨i, k, e1, e2⟩

/-- What SwapList leaves where it can be done. -/
def LisQ (qs : List Pn) (t n : Nat) (w : World) (e : Ending) (w' : World) : Prop :=
  ∃ (D : Option Addr) (c : Nat), e = .returned (.tuple #[.slice D n c, .int .i64 (t : Int), .bool true]) ∧ w'.ownsRow w.heap.size 51 4 (.slice D n c) n (flat pf qs) ∧ Below w.heap.size w w'
/-- What SwapList leaves elsewhere. -/
def LisN (w : World) (e : Ending) (w' : World) : Prop :=
  ∃ (D : Option Addr) (c : Nat), e = .returned (.tuple #[.slice D 0 c, .int .i64 0, .bool false]) ∧ w'.ownsRow w.heap.size 51 4 (.slice D 0 c) 0 [] ∧ Below w.heap.size w w'
set_option maxHeartbeats 1000000 in
/-- impl.SwapList, no list of swaps. -/
theorem list_n (A A2 : Option Addr) (n c m c2 : Nat) (ps : List Pn) (rs : List (List Int)) (w : World) (hx : Recs pf 4 w w.heap.size A ps) (hr : Rws w w.heap.size A2 rs) (hn : ps.length = n) (hm : n ≤ 4194304) (hn2 : rs.length = m) (hm2 : m ≤ 4194304) (hs : slB ps rs = false) :
    Calls Try.prog 22 #[.slice A n c, .slice A2 m c2] w (LisN w) := by
  have HN := Lib.hid hn
  have HM := Lib.hid hn2
  have HS := Lib.hid hs
  clear hn hn2 hs
  go_enter Try.func22, Try.ntmps22
  go_wp2_with fail
  refine (pvalid_any A n c ps _ hx HN.out hm).mono ?_
  rintro e w1 ⟨rfl, hb1⟩
  cases hv : pvB ps
  · go_wp2_with fail
    go_ret3
    exact ⟨none, 0, rfl, World.ownsRow_nil _ _ _ _, hb1⟩
  by_cases h40 : 40 < m
  · go_wp2_with fail
    go_ret3
    exact ⟨none, 0, rfl, World.ownsRow_nil _ _ _ _, hb1⟩
  have hbad : badB rs = true := by
    have h := HS.out
    simp only [slB, hv, Bool.true_and, Bool.and_eq_false_iff, decide_eq_false_iff_not, Bool.not_eq_false'] at h
    have := HM.out
    rcases h with h | h
    · omega
    · exact h
  go_wp2_with fail
  refine (contf_any A2 m c2 rs _ (hr.on hb1) HM.out hm2).mono ?_
  rintro e w2 ⟨rfl, rfl⟩
  rw [hbad]
  go_wp2_with fail
  go_ret3
  exact ⟨none, 0, rfl, World.ownsRow_nil _ _ _ _, hb1⟩
set_option maxHeartbeats 4000000 in
/-- impl.SwapList. -/
theorem list_t (A A2 : Option Addr) (n c m c2 : Nat) (ps qs : List Pn) (t : Nat) (rs : List (List Int)) (w : World) (hx : Recs pf 4 w w.heap.size A ps) (hr : Rws w w.heap.size A2 rs) (hn : ps.length = n) (hm : n ≤ 4194304) (hn2 : rs.length = m) (hs : slB ps rs = true) (hrun : runR ps rs = (qs, t)) :
    Calls Try.prog 22 #[.slice A n c, .slice A2 m c2] w (LisQ qs t n w) := by
  obtain ⟨hv, h40, hbad⟩ := sl_iff.1 hs
  rw [hn2] at h40
  have HN := Lib.hid hn
  have HM := Lib.hid hn2
  have HR := Lib.hid hrun
  have HA := Lib.hid (bad_f.1 hbad)
  clear hn hn2 hs hrun
  go_enter Try.func22, Try.ntmps22
  go_wp2_with fail
  refine (pvalid_any A n c ps _ hx HN.out hm).mono ?_
  rintro e w1 ⟨rfl, hb1⟩
  rw [hv]
  go_wp2_with fail
  refine (contf_any A2 m c2 rs _ (hr.on hb1) HM.out (by omega)).mono ?_
  rintro e w2 ⟨rfl, rfl⟩
  rw [hbad]
  clear hbad
  go_wp2_with fail
  refine (clone_any A n c ps _ (hx.on hb1) HN.out hm).mono ?_
  rintro e w2 ⟨D, c3, rfl, hown, hb2⟩
  have hown := own_base hown hb1.size
  have hb2 := below_next hb1 hb2
  clear hb1
  go_wp2_with fail
  go_loopw [7, 8, 29] (fun v d i wr => ∃ (k : Nat) (D : Option Addr) (c : Nat) (us : List Pn) (s : Nat), k ≤ m ∧ i = .int .i64 (k : Int) ∧ v = .slice D n c ∧ d = .int .i64 (s : Int) ∧ Hid (runR ps (rs.take k) = (us, s)) ∧ wr.ownsRow w.heap.size 51 4 (.slice D n c) n (flat pf us) ∧ Below w.heap.size w wr) (fun _ _ i _ => m - (intOf i).toNat)
  case atStart => exact ⟨0, D, c3, ps, 0, by omega, rfl, rfl, rfl, by simp [Hid, runR_nil], hown, hb2⟩
  case round =>
    clear hown hb2
    obtain ⟨k, D, c, us, s, hk, rfl, rfl, rfl, HU, hown, hb⟩ := hrel
    have hsk := runR_leT HU.out
    have HL : Hid (us.length = n) := by show _ = _; rw [runR_len HU.out]; exact HN.out
    by_cases hlt : k < m
    · obtain ⟨b, o, b', o', ci, x, y, rfl, hbb, hbb', HX, d0, -, hci, d1, d2⟩ := (hr.on hb).pair (k := k) (by have := HM.out; omega) (fun r hr => HA.out r (mem_of_at hr))
      have hcm := len_max hci
      have k0 : (0 : Int) ≤ (k : Int) := by omega
      have k1 : (k : Int) < (m : Int) := by omega
      have hR := (Recs.of_own pf_len hown (by omega)).2
      cases hs : soB us x y
      · have HV := Lib.hid (runR_f HX.out HU.out hs)
        go_wp2_with fail
        go_region_held3 (fun w' => w'.cell? ⟨b', o', none⟩ = some (.int .i64 x) ∧ w'.cell? ⟨b', o' + 1, none⟩ = some (.int .i64 y)) (go_keep)
          (first
            | (go_at_call 14
               refine (do_n D n c us x y _ hR.drew HL.out hm hs).mono ?_
               rintro e w5 ⟨D5, c5, rfl, -, hb5⟩
               have e1 := (hb5.cell (p := ⟨b', o', none⟩) hbb').trans d1
               have e2 := (hb5.cell (p := ⟨b', o' + 1, none⟩) hbb').trans d2
               have hown := own_below hown.drew hb5
               have hb := below_next hb.drew hb5))
        all_goals
          go_wp2_with fail
          go_roundw
          case rel => exact ⟨k + 1, D, c, _, _, by omega, by go_num, rfl, rfl, HV, hown, hb⟩
          case measure => simp [intOf]; omega
      · obtain ⟨i, j, rfl, rfl⟩ := so_nats hs
        have HV : Hid (runR ps (rs.take (k + 1)) = (sw us i j, s + 1)) := by have h := runR_t HX.out HU.out hs; rw [Int.toNat_natCast, Int.toNat_natCast] at h; exact h
        go_wp2_with fail
        go_region_held3 (fun w' => w'.cell? ⟨b', o', none⟩ = some (.int .i64 (i : Int)) ∧ w'.cell? ⟨b', o' + 1, none⟩ = some (.int .i64 (j : Int))) (go_keep)
          (first
            | (go_at_call 14
               refine (do_t D n c us i j _ hR.drew HL.out hm hs).mono ?_
               rintro e w5 ⟨D5, c5, rfl, hown5, hb5⟩
               have e1 := (hb5.cell (p := ⟨b', o', none⟩) hbb').trans d1
               have e2 := (hb5.cell (p := ⟨b', o' + 1, none⟩) hbb').trans d2
               have hown := own_base hown5 hb.drew.size
               have hb := below_next hb.drew hb5))
        all_goals
          go_wp2_with fail
          go_roundw
          case rel => exact ⟨k + 1, D5, c5, _, _, by omega, by go_num, rfl, by go_num, HV, hown, hb⟩
          case measure => simp [intOf]; omega
    · obtain ⟨rfl, rfl⟩ : us = qs ∧ s = t := by
        have h := runR_all HM.out hlt HU.out
        rw [HR.out] at h
        injection h with h1 h2
        exact ⟨h1.symm, h2.symm⟩
      go_wp2_with fail
      go_ret3
      exact ⟨D, c, rfl, hown, hb⟩
set_option maxHeartbeats 4000000 in
/-- spec.SwapList. -/
theorem slist_t (A A2 : Option Addr) (n c m c2 : Nat) (ps qs : List Pn) (t : Nat) (rs : List (List Int)) (w : World) (hx : Recs pf 4 w w.heap.size A ps) (hr : Rws w w.heap.size A2 rs) (hn : ps.length = n) (hm : n ≤ 4194304) (hn2 : rs.length = m) (hs : slB ps rs = true) (hrun : runR ps rs = (qs, t)) :
    Calls Try.prog 20 #[.slice A n c, .slice A2 m c2] w (LisQ qs t n w) := by
  obtain ⟨hv, h40, hbad⟩ := sl_iff.1 hs
  rw [hn2] at h40
  have HR := Lib.hid hrun
  have HG := Lib.hid (bad_f.1 hbad)
  have HN := Lib.hid hn
  have HM := Lib.hid hn2
  clear hn hn2 hs hrun hbad
  go_enter Try.func20, Try.ntmps20
  go_wp2_with fail
  refine (spvalid_any A n c ps _ hx HN.out hm).mono ?_
  rintro e w1 ⟨rfl, hb1⟩
  rw [hv]
  obtain ⟨i9, hi0, hz0, hz1, hz2⟩ := info_parts pn_info
  have hsrc := ((hx.on hb1).alloc (.cells #[] 51)).src pf_len HN.out
  have hown0 : (w1.alloc (.cells #[] 51)).ownsRow w1.heap.size 51 4 (.slice (some ⟨w1.heap.size, 0, none⟩) 0 0) 0 [] := World.ownsRow_made w1 #[] 0 (Nat.le_refl _) (by simp [maxLen]) rfl
  have q1 : 0 + n ≤ maxLen := by simp only [maxLen]; omega
  have q2 : (0 + n) * 32 ≤ 140737488355328 := by omega
  have q3 : w1.heap.size ≤ (w1.alloc (.cells #[] 51)).heap.size := by simp
  have q4 := flat_one_cell pf_one ps
  go_wp2_with (at_builtin; refine wpList_append_src _ rfl _ _ 25 rfl w1.heap.size 51 i9 (.agg #[.int .i64 0, .int .i64 0, .int .i64 0, .int .i64 0]) 4 32 Try.underlying25 hi0 hz0 hz1 hz2 rfl (by decide) _ 0 [] rfl hown0 _ n _ (flat pf ps) rfl hsrc q4 q1 q2 q3 ?_)
  intro v' w2 hown hg _
  obtain ⟨D, c3, rfl⟩ := own_form hown
  have hown := own_base hown hb1.size
  have hb2 : Below w1.heap.size w1 w2 := ((Below.refl _ _).alloc (Nat.le_refl _) _).grown hg (by simp) (fun k hk => by have hk : some w1.heap.size = some k := hk; injection hk with hk; omega)
  have hb2 := below_next hb1 hb2
  clear hb1 hsrc hown0 q1 q2 q3 q4 hg hi0 hz0 hz1 hz2
  go_wp2_with fail
  go_loopw [7, 8, 9] (fun v d i wr => ∃ (k : Nat) (D : Option Addr) (c : Nat) (us : List Pn) (s : Nat), k ≤ m ∧ i = .int .i64 (k : Int) ∧ v = .slice D n c ∧ d = .int .i64 (s : Int) ∧ Hid (runR ps (rs.take k) = (us, s)) ∧ Hid (∀ r ∈ rs.take k, r.length = 2) ∧ wr.ownsRow w.heap.size 51 4 (.slice D n c) n (flat pf us) ∧ Below w.heap.size w wr) (fun _ _ i _ => m - (intOf i).toNat)
  case atStart => exact ⟨0, D, c3, ps, 0, by omega, rfl, rfl, rfl, by simp [Hid, runR_nil], by simp [Hid], hown, hb2⟩
  case round =>
    clear hown hb2
    obtain ⟨k, D, c, us, s, hk, rfl, rfl, rfl, HU, HA, hown, hb⟩ := hrel
    have hsk := runR_leT HU.out
    have HL : Hid (us.length = n) := by show _ = _; rw [runR_len HU.out]; exact HN.out
    by_cases hlt : k < m
    · skip
      obtain ⟨b, o, b', o', ci, x, y, rfl, hbb, hbb', HX, d0, -, hci, d1, d2⟩ := (hr.on hb).pair (k := k) (by have := HM.out; omega) (fun r hr => HG.out r (mem_of_at hr))
      have hcm := len_max hci
      have k0 : (0 : Int) ≤ (k : Int) := by omega
      have k1 : (k : Int) < (m : Int) := by omega
      have hR := (Recs.of_own pf_len hown (by omega)).2
      have HB := Lib.hid (bad_next HA.out HX.out rfl)
      cases hs : soB us x y
      · have HV := Lib.hid (runR_f HX.out HU.out hs)
        go_wp2_with fail
        go_region_held3 (fun w' => w'.cell? ⟨b', o', none⟩ = some (.int .i64 x) ∧ w'.cell? ⟨b', o' + 1, none⟩ = some (.int .i64 y) ∧ w'.cell? ⟨b, o + k, none⟩ = some (.slice (some ⟨b', o', none⟩) 2 ci)) (go_keep)
          (first
            | (go_at_call 9
               refine (sswapok_any D n c us x y _ hR.drew HL.out hm).mono ?_
               rintro e w5 ⟨rfl, hb5⟩
               have e1 := (hb5.cell (p := ⟨b', o', none⟩) hbb').trans d1
               have e2 := (hb5.cell (p := ⟨b', o' + 1, none⟩) hbb').trans d2
               have e3 := (hb5.cell (p := ⟨b, o + k, none⟩) hbb).trans d0
               have hown := own_below hown.drew hb5
               have hb := below_next hb.drew hb5))
        all_goals
          go_wp2_with fail
          go_roundw
          case rel => exact ⟨k + 1, D, c, _, _, by omega, by go_num, rfl, rfl, HV, HB, hown, hb⟩
          case measure => simp [intOf]; omega
      · obtain ⟨i, j, rfl, rfl⟩ := so_nats hs
        have HV : Hid (runR ps (rs.take (k + 1)) = (sw us i j, s + 1)) := by have h := runR_t HX.out HU.out hs; rw [Int.toNat_natCast, Int.toNat_natCast] at h; exact h
        go_wp2_with fail
        go_region_held3 (fun w' => w'.cell? ⟨b', o', none⟩ = some (.int .i64 (i : Int)) ∧ w'.cell? ⟨b', o' + 1, none⟩ = some (.int .i64 (j : Int)) ∧ w'.cell? ⟨b, o + k, none⟩ = some (.slice (some ⟨b', o', none⟩) 2 ci)) (go_keep)
          (first
            | (go_at_call 9
               refine (sswapok_any D n c us (i : Int) (j : Int) _ hR.drew HL.out hm).mono ?_
               rintro e w5 ⟨rfl, hb5⟩
               have e1 := (hb5.cell (p := ⟨b', o', none⟩) hbb').trans d1
               have e2 := (hb5.cell (p := ⟨b', o' + 1, none⟩) hbb').trans d2
               have e3 := (hb5.cell (p := ⟨b, o + k, none⟩) hbb).trans d0
               have hown := own_below hown.drew hb5
               have hb := below_next hb.drew hb5
               have hbb := Nat.lt_of_lt_of_le hbb hb5.size
               have hbb' := Nat.lt_of_lt_of_le hbb' hb5.size
               have hR := hR.drew.on hb5))
        all_goals
          clear d0 d1 d2
          go_wp2_with fail
          go_region_held3 (fun w' => w'.cell? ⟨b', o', none⟩ = some (.int .i64 (i : Int)) ∧ w'.cell? ⟨b', o' + 1, none⟩ = some (.int .i64 (j : Int)) ∧ w'.cell? ⟨b, o + k, none⟩ = some (.slice (some ⟨b', o', none⟩) 2 ci)) (go_keep)
            (first
              | (go_at_call 34
                 refine (l24do_t D n c us i j _ hR.drew HL.out hm hs).mono ?_
                 rintro e w7 ⟨D7, c7, rfl, hown7, hb7⟩
                 have f1 := (hb7.cell (p := ⟨b', o', none⟩) hbb').trans e1
                 have f2 := (hb7.cell (p := ⟨b', o' + 1, none⟩) hbb').trans e2
                 have f3 := (hb7.cell (p := ⟨b, o + k, none⟩) hbb).trans e3
                 have hown := own_base hown7 hb.drew.size
                 have hb := below_next hb.drew hb7))
          all_goals
            go_wp2_with fail
            go_roundw
            case rel => exact ⟨k + 1, D7, c7, _, _, by omega, by go_num, rfl, by go_num, HV, HB, hown, hb⟩
            case measure => simp [intOf]; omega
    · obtain ⟨rfl, rfl⟩ : us = qs ∧ s = t := by
        have h := runR_all HM.out hlt HU.out
        rw [HR.out] at h
        injection h with h1 h2
        exact ⟨h1.symm, h2.symm⟩
      go_wp2_with fail
      go_ret3
      exact ⟨D, c, rfl, hown, hb⟩
set_option maxHeartbeats 4000000 in
/-- spec.SwapList, no list of swaps. -/
theorem slist_n (A A2 : Option Addr) (n c m c2 : Nat) (ps : List Pn) (rs : List (List Int)) (w : World) (hx : Recs pf 4 w w.heap.size A ps) (hr : Rws w w.heap.size A2 rs) (hn : ps.length = n) (hm : n ≤ 4194304) (hn2 : rs.length = m) (hs : slB ps rs = false) :
    Calls Try.prog 20 #[.slice A n c, .slice A2 m c2] w (LisN w) := by
  have HN := Lib.hid hn
  have HM := Lib.hid hn2
  have HS := Lib.hid hs
  clear hn hn2 hs
  go_enter Try.func20, Try.ntmps20
  go_wp2_with fail
  refine (spvalid_any A n c ps _ hx HN.out hm).mono ?_
  rintro e w1 ⟨rfl, hb1⟩
  cases hv : pvB ps
  · go_wp2_with fail
    go_ret3
    exact ⟨_, _, rfl, own_base (World.ownsRow_made w1 #[] 0 (Nat.le_refl _) (by simp [maxLen]) rfl) hb1.size, below_next hb1 (below_one _ _)⟩
  by_cases h40 : 40 < m
  · go_wp2_with fail
    go_ret3
    exact ⟨_, _, rfl, own_base (World.ownsRow_made w1 #[] 0 (Nat.le_refl _) (by simp [maxLen]) rfl) hb1.size, below_next hb1 (below_one _ _)⟩
  have HBad : Hid (badB rs = true) := by
    have h := HS.out
    simp only [slB, hv, Bool.true_and, Bool.and_eq_false_iff, decide_eq_false_iff_not, Bool.not_eq_false'] at h
    have := HM.out
    show _ = _
    rcases h with h | h
    · omega
    · exact h
  obtain ⟨i9, hi0, hz0, hz1, hz2⟩ := info_parts pn_info
  have hsrc := ((hx.on hb1).alloc (.cells #[] 51)).src pf_len HN.out
  have hown0 : (w1.alloc (.cells #[] 51)).ownsRow w1.heap.size 51 4 (.slice (some ⟨w1.heap.size, 0, none⟩) 0 0) 0 [] := World.ownsRow_made w1 #[] 0 (Nat.le_refl _) (by simp [maxLen]) rfl
  have q1 : 0 + n ≤ maxLen := by simp only [maxLen]; omega
  have q2 : (0 + n) * 32 ≤ 140737488355328 := by omega
  have q3 : w1.heap.size ≤ (w1.alloc (.cells #[] 51)).heap.size := by simp
  have q4 := flat_one_cell pf_one ps
  go_wp2_with (at_builtin; refine wpList_append_src _ rfl _ _ 25 rfl w1.heap.size 51 i9 (.agg #[.int .i64 0, .int .i64 0, .int .i64 0, .int .i64 0]) 4 32 Try.underlying25 hi0 hz0 hz1 hz2 rfl (by decide) _ 0 [] rfl hown0 _ n _ (flat pf ps) rfl hsrc q4 q1 q2 q3 ?_)
  intro v' w2 hown hg _
  obtain ⟨D, c3, rfl⟩ := own_form hown
  have hown := own_base hown hb1.size
  have hb2 : Below w1.heap.size w1 w2 := ((Below.refl _ _).alloc (Nat.le_refl _) _).grown hg (by simp) (fun k hk => by have hk : some w1.heap.size = some k := hk; injection hk with hk; omega)
  have hb2 := below_next hb1 hb2
  clear hb1 hsrc hown0 q1 q2 q3 q4 hg hi0 hz0 hz1 hz2
  go_wp2_with fail
  go_loopw [7, 8, 9] (fun v d i wr => ∃ (k : Nat) (D : Option Addr) (c : Nat) (us : List Pn) (s : Nat), k ≤ m ∧ i = .int .i64 (k : Int) ∧ v = .slice D n c ∧ d = .int .i64 (s : Int) ∧ Hid (runR ps (rs.take k) = (us, s)) ∧ Hid (∀ r ∈ rs.take k, r.length = 2) ∧ wr.ownsRow w.heap.size 51 4 (.slice D n c) n (flat pf us) ∧ Below w.heap.size w wr) (fun _ _ i _ => m - (intOf i).toNat)
  case atStart => exact ⟨0, D, c3, ps, 0, by omega, rfl, rfl, rfl, by simp [Hid, runR_nil], by simp [Hid], hown, hb2⟩
  case round =>
    clear hown hb2
    obtain ⟨k, D, c, us, s, hk, rfl, rfl, rfl, HU, HA, hown, hb⟩ := hrel
    have hsk := runR_leT HU.out
    have HL : Hid (us.length = n) := by show _ = _; rw [runR_len HU.out]; exact HN.out
    by_cases hlt : k < m
    · by_cases h2 : ∀ r, rs[k]? = some r → r.length = 2
      · have h2 := Lib.hid h2
        skip
        obtain ⟨b, o, b', o', ci, x, y, rfl, hbb, hbb', HX, d0, -, hci, d1, d2⟩ := (hr.on hb).pair (k := k) (by have := HM.out; omega) h2.out
        have hcm := len_max hci
        have k0 : (0 : Int) ≤ (k : Int) := by omega
        have k1 : (k : Int) < (m : Int) := by omega
        have hR := (Recs.of_own pf_len hown (by omega)).2
        have HB := Lib.hid (bad_next HA.out HX.out rfl)
        cases hs : soB us x y
        · have HV := Lib.hid (runR_f HX.out HU.out hs)
          go_wp2_with fail
          go_region_held3 (fun w' => w'.cell? ⟨b', o', none⟩ = some (.int .i64 x) ∧ w'.cell? ⟨b', o' + 1, none⟩ = some (.int .i64 y) ∧ w'.cell? ⟨b, o + k, none⟩ = some (.slice (some ⟨b', o', none⟩) 2 ci)) (go_keep)
            (first
              | (go_at_call 9
                 refine (sswapok_any D n c us x y _ hR.drew HL.out hm).mono ?_
                 rintro e w5 ⟨rfl, hb5⟩
                 have e1 := (hb5.cell (p := ⟨b', o', none⟩) hbb').trans d1
                 have e2 := (hb5.cell (p := ⟨b', o' + 1, none⟩) hbb').trans d2
                 have e3 := (hb5.cell (p := ⟨b, o + k, none⟩) hbb).trans d0
                 have hown := own_below hown.drew hb5
                 have hb := below_next hb.drew hb5))
          all_goals
            go_wp2_with fail
            go_roundw
            case rel => exact ⟨k + 1, D, c, _, _, by omega, by go_num, rfl, rfl, HV, HB, hown, hb⟩
            case measure => simp [intOf]; omega
        · obtain ⟨i, j, rfl, rfl⟩ := so_nats hs
          have HV : Hid (runR ps (rs.take (k + 1)) = (sw us i j, s + 1)) := by have h := runR_t HX.out HU.out hs; rw [Int.toNat_natCast, Int.toNat_natCast] at h; exact h
          go_wp2_with fail
          go_region_held3 (fun w' => w'.cell? ⟨b', o', none⟩ = some (.int .i64 (i : Int)) ∧ w'.cell? ⟨b', o' + 1, none⟩ = some (.int .i64 (j : Int)) ∧ w'.cell? ⟨b, o + k, none⟩ = some (.slice (some ⟨b', o', none⟩) 2 ci)) (go_keep)
            (first
              | (go_at_call 9
                 refine (sswapok_any D n c us (i : Int) (j : Int) _ hR.drew HL.out hm).mono ?_
                 rintro e w5 ⟨rfl, hb5⟩
                 have e1 := (hb5.cell (p := ⟨b', o', none⟩) hbb').trans d1
                 have e2 := (hb5.cell (p := ⟨b', o' + 1, none⟩) hbb').trans d2
                 have e3 := (hb5.cell (p := ⟨b, o + k, none⟩) hbb).trans d0
                 have hown := own_below hown.drew hb5
                 have hb := below_next hb.drew hb5
                 have hbb := Nat.lt_of_lt_of_le hbb hb5.size
                 have hbb' := Nat.lt_of_lt_of_le hbb' hb5.size
                 have hR := hR.drew.on hb5))
          all_goals
            clear d0 d1 d2
            go_wp2_with fail
            go_region_held3 (fun w' => w'.cell? ⟨b', o', none⟩ = some (.int .i64 (i : Int)) ∧ w'.cell? ⟨b', o' + 1, none⟩ = some (.int .i64 (j : Int)) ∧ w'.cell? ⟨b, o + k, none⟩ = some (.slice (some ⟨b', o', none⟩) 2 ci)) (go_keep)
              (first
                | (go_at_call 34
                   refine (l24do_t D n c us i j _ hR.drew HL.out hm hs).mono ?_
                   rintro e w7 ⟨D7, c7, rfl, hown7, hb7⟩
                   have f1 := (hb7.cell (p := ⟨b', o', none⟩) hbb').trans e1
                   have f2 := (hb7.cell (p := ⟨b', o' + 1, none⟩) hbb').trans e2
                   have f3 := (hb7.cell (p := ⟨b, o + k, none⟩) hbb).trans e3
                   have hown := own_base hown7 hb.drew.size
                   have hb := below_next hb.drew hb7))
            all_goals
              go_wp2_with fail
              go_roundw
              case rel => exact ⟨k + 1, D7, c7, _, _, by omega, by go_num, rfl, by go_num, HV, HB, hown, hb⟩
              case measure => simp [intOf]; omega
      · obtain ⟨b, o, r, Ai, ci, rfl, hbb, HX, d0, hrc, hci, -⟩ := (hr.on hb).at_ (k := k) (by have := HM.out; omega)
        have hcm := len_max hci
        have h3 : ¬ r.length = 2 := fun e => h2 (fun r' hr' => by rw [HX.out] at hr'; injection hr' with hr'; rw [← hr']; exact e)
        have e2 : ((r.length : Int) != 2) = true := by simp [bne]; omega
        clear h2
        have k0 : (0 : Int) ≤ (k : Int) := by omega
        have k1 : (k : Int) < (m : Int) := by omega
        go_wp2_with fail
        go_ret3
        exact ⟨_, _, rfl, own_base (World.ownsRow_made wr #[] 0 (Nat.le_refl _) (by simp [maxLen]) rfl) hb.size, below_next hb (below_one _ _)⟩
    · exact absurd (bad_all HM.out hlt HA.out) (by rw [HBad.out]; decide)
end Go.Proofs.Ytpjiencegicjbaa
