/-
  RecodePeople without a ladder: the walks of LadderValid, RecodeValid, ladderCode, groupOf, RecodePeople.
-/
import Derived.Test.YtpjiencegicjbaaGroups
import Derived.IntWalk
namespace Go.Proofs.Ytpjiencegicjbaa
open Go.RowKit
attribute [local go_sem ↓] Go.wp_at_zero Go.wp_at_succ

/-- impl.LadderValid at an empty ladder. -/
theorem ladder_t (A : Option Addr) (c : Nat) (w : World) : Calls Try.prog 57 #[.slice A 0 c] w fun e w' => e = .returned (.bool true) ∧ w = w' := by
  go_enter Try.func57, Try.ntmps57
  go_wp2
  go_loop [12] (fun i => i = .int .i64 0) (fun _ => 0)
  case atStart => rfl
  case round =>
    obtain rfl := hrel
    go_wp2
    go_ret
    exact ⟨rfl, rfl⟩
/-- impl.RecodeValid at an empty ladder. -/
theorem recv_t (A : Option Addr) (c : Nat) (rj rs : Int) (hj : inB rj 0 1 = true) (hs : inB rs 0 1 = true) (w : World) :
    Calls Try.prog 51 #[.slice A 0 c, .agg #[.int .i64 0, .int .i64 rj, .int .i64 rs]] w fun e w' => e = .returned (.bool true) ∧ Below w.heap.size w w' := by
  have k1 := fun W => isSex_any rj W
  have k2 := fun W => isSex_any rs W
  simp only [hj] at k1
  simp only [hs] at k2
  go_enter Try.func51, Try.ntmps51
  go_wp2_with (first | (go_at_call 57; refine (ladder_t A c _).mono ?_; rintro e w' ⟨rfl, rfl⟩) | (go_at_call 55; first | (with_reducible refine (k1 _).mono ?_; rintro e w' ⟨rfl, rfl⟩) | (with_reducible refine (k2 _).mono ?_; rintro e w' ⟨rfl, rfl⟩)))
  go_ret
  exact ⟨rfl, below_one _ _⟩
/-- impl.ladderCode at level 0. -/
theorem code_t (A : Option Addr) (n c : Nat) (x : Int) (w : World) : Calls Try.prog 52 #[.slice A n c, .int .i64 0, .int .i64 x] w fun e w' => e = .returned (.int .i64 x) ∧ w = w' := by
  go_enter Try.func52, Try.ntmps52
  go_wp2
  go_ret
  exact ⟨rfl, rfl⟩
set_option maxHeartbeats 1000000 in
/-- impl.groupOf. -/
theorem group_t (p : Pn) (w : World) : Calls Try.prog 53 #[.agg #[.int .i64 p.area, .int .i64 p.job, .int .i64 p.sex, .int .i64 p.pay]] w fun e w' => e = .returned (kv p) ∧ Below w.heap.size w w' := by
  go_enter Try.func53, Try.ntmps53
  go_wp2_with fail
  refine bodyPost_ret (v := kv p) (by simp [results, Try.results53, go_sem, kv, *]) rfl ⟨rfl, ?_⟩
  exact below_two _ _ _
theorem src_four {w : World} {g : Nat} (a j s q : Int) (t : TypeId) (h : w.heap.size = g) : Src (w.alloc (.cells #[.int .i64 a, .int .i64 j, .int .i64 s, .int .i64 q] t)) 4 (some ⟨g, 0, none⟩) 1 (pf ⟨a, j, s, q⟩) := by
  subst h
  refine ⟨rfl, fun _ => ⟨_, rfl, fun i u hi => ?_⟩⟩
  match i, hi with
  | 0, hi => simp only [pf, List.getElem?_cons_zero, Option.some.injEq] at hi; subst hi; simp [Addr.add]
  | 1, hi => simp only [pf, List.getElem?_cons_succ, List.getElem?_cons_zero, Option.some.injEq] at hi; subst hi; simp [Addr.add]
  | 2, hi => simp only [pf, List.getElem?_cons_succ, List.getElem?_cons_zero, Option.some.injEq] at hi; subst hi; simp [Addr.add]
  | 3, hi => simp only [pf, List.getElem?_cons_succ, List.getElem?_cons_zero, Option.some.injEq] at hi; subst hi; simp [Addr.add]
  | i + 4, hi => simp [pf] at hi
/-- What RecodePeople leaves. -/
def RcQ (ps : List Pn) (n : Nat) (w : World) (e : Ending) (w' : World) : Prop :=
  ∃ (D : Option Addr) (c : Nat), e = .returned (.tuple #[.slice D n c, .bool true]) ∧ w'.ownsRow w.heap.size 51 4 (.slice D n c) n (flat pf ps) ∧ Below w.heap.size w w'
set_option maxHeartbeats 4000000 in
/-- impl.RecodePeople. -/
theorem recode_t (A L : Option Addr) (n c lc : Nat) (ps : List Pn) (rj rs : Int) (hj : inB rj 0 1 = true) (hs : inB rs 0 1 = true) (w : World) (hx : Recs pf 4 w w.heap.size A ps) (hn : ps.length = n) (hm : n ≤ 4194304) (hv : pvB ps = true) :
    Calls Try.prog 43 #[.slice A n c, .slice L 0 lc, .agg #[.int .i64 0, .int .i64 rj, .int .i64 rs]] w (RcQ (ps.map (rcd rj rs)) n w) := by
  obtain ⟨i0, hi0, hz0, hz1, hz2⟩ := info_parts pn_info
  have HN := Lib.hid hn
  clear hn
  have HV := Lib.hid (pvB_iff.1 hv)
  obtain ⟨qs, hq⟩ : ∃ qs, qs = ps.map (rcd rj rs) := ⟨_, rfl⟩
  rw [← hq]
  have HQ := Lib.hid hq
  have HQL := Lib.hid (show qs.length = n by rw [hq, List.length_map]; exact HN.out)
  clear hq
  obtain ⟨rj0, rj1⟩ := inB_iff.1 hj
  obtain ⟨rs0, rs1⟩ := inB_iff.1 hs
  have u0 : (w.alloc (.cells #[.int .i64 0, .int .i64 rj, .int .i64 rs] 45)).cell? ⟨w.heap.size, 0, none⟩ = some (.int .i64 0) := by simp
  have u1 : (w.alloc (.cells #[.int .i64 0, .int .i64 rj, .int .i64 rs] 45)).cell? ⟨w.heap.size, 1, none⟩ = some (.int .i64 rj) := by simp
  have u2 : (w.alloc (.cells #[.int .i64 0, .int .i64 rj, .int .i64 rs] 45)).cell? ⟨w.heap.size, 2, none⟩ = some (.int .i64 rs) := by simp
  obtain ⟨W0, HW0⟩ : ∃ W, Hid (w.alloc (.cells #[.int .i64 0, .int .i64 rj, .int .i64 rs] 45) = W) := ⟨_, Lib.hid rfl⟩
  have hbW : Below w.heap.size w W0 := by rw [← HW0.out]; exact below_one _ _
  have HSZ := Lib.hid (show W0.heap.size = w.heap.size + 1 by rw [← HW0.out]; simp)
  rw [HW0.out] at u0 u1 u2
  go_enter Try.func43, Try.ntmps43
  go_wp2_with fail
  rw [HW0.out]
  refine (pvalid_any A n c ps _ (hx.on hbW) HN.out hm).mono ?_
  rintro e w1 ⟨rfl, hb1⟩
  have hB := hb1
  have e0 := (hB.cell (World.block_lt_of_cell? _ _ u0)).trans u0
  have e1 := (hB.cell (World.block_lt_of_cell? _ _ u1)).trans u1
  have e2 := (hB.cell (World.block_lt_of_cell? _ _ u2)).trans u2
  clear hb1
  go_wp2_with fail
  refine (recv_t L lc rj rs hj hs _).mono ?_
  rintro e w2 ⟨rfl, hb2⟩
  have hB := below_next hB hb2
  clear e0 e1 e2 hb2 hj hs hv
  go_wp2_with fail
  go_loopw [8, 22] (fun v i wr => ∃ (k : Nat) (D : Option Addr) (cc : Nat), k ≤ n ∧ i = .int .i64 (k : Int) ∧ v = .slice D k cc ∧ wr.ownsRow W0.heap.size 51 4 (.slice D k cc) k (flat pf (qs.take k)) ∧ Below W0.heap.size W0 wr) (fun _ i _ => n - (intOf i).toNat)
  case atStart => exact ⟨0, none, 0, by omega, rfl, rfl, World.ownsRow_nil _ _ _ _, hB⟩
  case round =>
    clear hB
    obtain ⟨k, D, cc, hk, rfl, rfl, hown, hB⟩ := hrel
    have e0 := (hB.cell (World.block_lt_of_cell? _ _ u0)).trans u0
    have e1 := (hB.cell (World.block_lt_of_cell? _ _ u1)).trans u1
    have e2 := (hB.cell (World.block_lt_of_cell? _ _ u2)).trans u2
    have hwr : w.heap.size < wr.heap.size := World.block_lt_of_cell? _ _ e0
    have hne : ¬ w.heap.size = wr.heap.size := by omega
    have hne' : ¬ wr.heap.size = w.heap.size := by omega
    have f0 : ∀ o, (wr.alloc o).cell? ⟨w.heap.size, 0, none⟩ = some (.int .i64 0) := fun o => (World.cell?_alloc_lt wr o _ (by exact hwr)).trans e0
    have f1 : ∀ o, (wr.alloc o).cell? ⟨w.heap.size, 1, none⟩ = some (.int .i64 rj) := fun o => (World.cell?_alloc_lt wr o _ (by exact hwr)).trans e1
    have f2 : ∀ o, (wr.alloc o).cell? ⟨w.heap.size, 2, none⟩ = some (.int .i64 rs) := fun o => (World.cell?_alloc_lt wr o _ (by exact hwr)).trans e2
    clear hwr
    by_cases hlt : k < n
    · obtain ⟨b, o, a, j, s, q, rfl, hbb, HX, c0, c1, c2, c3⟩ := ppl_at (hx.on (hbW.trans (hB.mono hbW.size))) (k := k) (by have := HN.out; omega)
      have hp := pv_at HV.out HX.out
      obtain ⟨⟨pa0, pa1⟩, ⟨pj0, pj1⟩, ⟨ps0, ps1⟩, -, -⟩ := hp
      simp only at pa0 pa1 pj0 pj1 ps0 ps1
      obtain ⟨j', hj'⟩ : ∃ j', j' = j * (1 - rj) := ⟨_, rfl⟩
      obtain ⟨s', hs'⟩ : ∃ s', s' = s * (1 - rs) := ⟨_, rfl⟩
      have HR := Lib.hid (show rcd rj rs ⟨a, j, s, q⟩ = ⟨a, j', s', q⟩ by rw [hj', hs']; rfl)
      have hw1 : IntKind.i64.wrap (j * (1 - rj)) = j' := by
        rw [hj']
        have : rj = 0 ∨ rj = 1 := by omega
        rcases this with rfl | rfl <;> exact IntWalk.i64_in _ (by omega)
      have hw2 : IntKind.i64.wrap (s * (1 - rs)) = s' := by
        rw [hs']
        have : rs = 0 ∨ rs = 1 := by omega
        rcases this with rfl | rfl <;> exact IntWalk.i64_in _ (by omega)
      clear hj' hs'
      have HT := Lib.hid (show flat pf (qs.take k) ++ pf ⟨a, j', s', q⟩ = flat pf (qs.take (k + 1)) by rw [take_next (show qs[k]? = some ⟨a, j', s', q⟩ by rw [HQ.out, List.getElem?_map, HX.out, Option.map_some, HR.out]), flat_append, flat_one])
      have k0 : (0 : Int) ≤ (k : Int) := by omega
      have k1 : (k : Int) < (n : Int) := by omega
      have q1 : k + 1 ≤ maxLen := by simp only [maxLen]; omega
      have q2 : (k + 1) * 32 ≤ 140737488355328 := by omega
      have hB2 := (hB.alloc hB.size (.cells #[.int .i64 a, .int .i64 j', .int .i64 s', .int .i64 q] 51)).alloc (Nat.le_trans hB.size (by simp)) (.cells #[.int .i64 a, .int .i64 j', .int .i64 s', .int .i64 q] 51)
      have hown2 := (hown.alloc (.cells #[.int .i64 a, .int .i64 j', .int .i64 s', .int .i64 q] 51)).alloc (.cells #[.int .i64 a, .int .i64 j', .int .i64 s', .int .i64 q] 51)
      have hsrc : Src ((wr.alloc (.cells #[.int .i64 a, .int .i64 j', .int .i64 s', .int .i64 q] 51)).alloc (.cells #[.int .i64 a, .int .i64 j', .int .i64 s', .int .i64 q] 51)) 4 (some ⟨wr.heap.size + 1, 0, none⟩) 1 (pf ⟨a, j', s', q⟩) := src_four _ _ _ _ _ (by simp)
      have hz := hB2.size
      clear hown
      go_wp2_with (first | (go_at_call 52; refine (code_t _ _ _ _ _).mono ?_; rintro e w' ⟨rfl, rfl⟩) | (at_builtin; refine wpList_append_src _ rfl _ _ 25 rfl W0.heap.size 51 i0 (.agg #[.int .i64 0, .int .i64 0, .int .i64 0, .int .i64 0]) 4 32 Try.underlying25 hi0 hz0 hz1 hz2 rfl (by decide) _ k _ rfl hown2 _ 1 _ _ rfl hsrc (pf_one _) q1 q2 hz ?_))
      intro v' w3 hown3 hg3 _
      obtain ⟨D2, c2', rfl⟩ := own_form hown3
      have hB3 := hB2.grown hg3 hz (fun k e => (hown2.lt k e).1)
      rw [HT.out] at hown3
      clear hown2 hg3 hsrc
      go_wp2_with fail
      go_roundw
      case rel => exact ⟨k + 1, D2, c2', by omega, by go_num, rfl, hown3, hB3⟩
      case measure => simp [intOf]; omega
    · obtain rfl : k = n := by omega
      have HE := Lib.hid (show qs.take k = qs from List.take_of_length_le (by have := HQL.out; omega))
      rw [HE.out] at hown
      go_wp2_with fail
      refine bodyPost_ret (v := .tuple #[.slice D k cc, .bool true]) (by simp [results, Try.results43, go_sem, *]) rfl ?_
      exact ⟨D, cc, rfl, own_base hown (by have := HSZ.out; omega), hbW.trans (hB.mono hbW.size)⟩
end Go.Proofs.Ytpjiencegicjbaa
