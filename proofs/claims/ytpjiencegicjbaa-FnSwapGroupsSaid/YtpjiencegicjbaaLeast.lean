/-
  The walks of GroupMany and GroupLeast at valid people and an empty ladder.
-/
import Derived.Test.YtpjiencegicjbaaGof
namespace Go.Proofs.Ytpjiencegicjbaa
open Go.RowKit Go.Maps
attribute [local go_sem ↓] Go.wp_at_zero Go.wp_at_succ

theorem sml_rcd {ps : List Pn} (h : pvP ps) {rj rs : Int} (hj : inB rj 0 1 = true) (hs : inB rs 0 1 = true) : Sml (ps.map (rcd rj rs)) := by
  intro x hx
  obtain ⟨p, hp, rfl⟩ := List.mem_map.1 hx
  obtain ⟨⟨pa0, pa1⟩, ⟨pj0, pj1⟩, ⟨ps0, ps1⟩, -, -⟩ := h.2 p hp
  obtain ⟨j0, j1⟩ := inB_iff.1 hj
  obtain ⟨s0, s1⟩ := inB_iff.1 hs
  have hj : rj = 0 ∨ rj = 1 := by omega
  have hs : rs = 0 ∨ rs = 1 := by omega
  simp only [rcd]
  rcases hj with rfl | rfl <;> rcases hs with rfl | rfl <;> simp <;> omega
/-- What GroupMany leaves. -/
def ManyQ (qs : List Pn) (w : World) (e : Ending) (w' : World) : Prop := ∃ D : DataW Unit, e = .returned (.int .i64 (Maps.size D : Nat)) ∧ Cnt D qs ∧ Canon D ∧ Below w.heap.size w w'
theorem recs_own {w : World} {base n c : Nat} {D : Option Addr} {qs : List Pn} (h : w.ownsRow base 51 4 (.slice D n c) n (flat pf qs)) : qs.length = n ∧ Recs pf 4 w w.heap.size D qs := Recs.of_own pf_len h (by omega)
set_option maxHeartbeats 4000000 in
/-- impl.GroupMany. -/
theorem many_t (A L : Option Addr) (n c lc : Nat) (ps : List Pn) (rj rs : Int) (hj : inB rj 0 1 = true) (hs : inB rs 0 1 = true) (w : World) (hx : Recs pf 4 w w.heap.size A ps) (hn : ps.length = n) (hm : n ≤ 4194304) (hv : pvB ps = true) :
    Calls Try.prog 28 #[.slice A n c, .slice L 0 lc, .agg #[.int .i64 0, .int .i64 rj, .int .i64 rs]] w (ManyQ (ps.map (rcd rj rs)) w) := by
  have HN := Lib.hid hn
  have HS := Lib.hid (sml_rcd (pvB_iff.1 hv) hj hs)
  clear hn
  obtain ⟨qs, hq⟩ : ∃ qs, qs = ps.map (rcd rj rs) := ⟨_, rfl⟩
  rw [← hq]
  have HQ := Lib.hid hq
  rw [← hq] at HS
  clear hq
  go_enter Try.func28, Try.ntmps28
  go_wp2_with fail
  refine (recode_t A L n c lc ps rj rs hj hs _ (hx.alloc _) HN.out hm hv).mono ?_
  rintro e w1 ⟨D, cc, rfl, hown, hb1⟩
  rw [← HQ.out] at hown
  have hB := (below_one w _).trans (hb1.mono (by simp))
  go_wp2_with fail
  refine (gof_any D n cc qs _ (recs_own hown).2 (recs_own hown).1 hm HS.out).mono ?_
  rintro e w2 ⟨b, nn, M, rfl, hbb, hM, hC, hb2⟩
  have hB := below_next hB hb2
  have hCan := hM.canon key_law
  have hlen := hM.len Try.underlying64 3
  go_wp2_with fail
  go_ret
  exact ⟨M, rfl, hC, hCan, hB⟩
/-- What GroupLeast leaves. -/
def LeastQ (qs : List Pn) (w : World) (e : Ending) (w' : World) : Prop := ∃ M : Int, e = .returned (.int .i64 M) ∧ LeastP qs M ∧ Below w.heap.size w w'
/-- The least so far. -/
def LInv (D : DataW Unit) (qs : List Pn) (left : Lit → Bool) (M : Int) : Prop := M ≤ qs.length ∧ (∀ k, Maps.has D k = true → left k = false → M ≤ (cnt qs k : Nat)) ∧ (M = qs.length ∨ ∃ k, 0 < cnt qs k ∧ M = (cnt qs k : Nat))
theorem LInv.start (D : DataW Unit) (qs : List Pn) : LInv D qs (Maps.has D) qs.length := ⟨Int.le_refl _, (fun k h1 h2 => by rw [h1] at h2; cases h2), .inl rfl⟩
theorem LInv.fin {D : DataW Unit} {qs : List Pn} {left : Lit → Bool} {M : Int} (h : LInv D qs left M) (hC : Cnt D qs) (hl : ∀ k, left k = false) : LeastP qs M :=
  ⟨h.1, fun k hk => h.2.1 k (by rw [(hC k).1]; simpa using hk) (hl k), h.2.2⟩
theorem LInv.step {D : DataW Unit} {qs : List Pn} {left : Lit → Bool} {M c : Int} {kl : Lit} (h : LInv D qs left M) (hC : Cnt D qs) (hat : ∀ zd, D.atKey kl zd = .lit (.int .i64 c)) : LInv D qs (fun z => left z && !z.sameKey kl) (if c < M then c else M) := by
  have hc := hC.at (hat _)
  have hhas : Maps.has D kl = true := has_true_of_atKey hat
  have hpos : 0 < cnt qs kl := by have := (hC kl).1; rw [hhas] at this; simpa using this.symm
  obtain ⟨h1, h2, h3⟩ := h
  refine ⟨by split <;> omega, fun k hk hl => ?_, ?_⟩
  · rw [Bool.and_eq_false_iff] at hl
    rcases hl with hl | hl
    · have := h2 k hk hl
      split <;> omega
    · have e : k = kl := WideAt.sameKey_eq (by simpa using hl)
      subst e
      split <;> omega
  · split
    · exact .inr ⟨kl, hpos, hc⟩
    · exact h3
set_option maxHeartbeats 4000000 in
/-- impl.GroupLeast. -/
theorem least_t (A L : Option Addr) (n c lc : Nat) (ps : List Pn) (rj rs : Int) (hj : inB rj 0 1 = true) (hs : inB rs 0 1 = true) (w : World) (hx : Recs pf 4 w w.heap.size A ps) (hn : ps.length = n) (hm : n ≤ 4194304) (hv : pvB ps = true) :
    Calls Try.prog 27 #[.slice A n c, .slice L 0 lc, .agg #[.int .i64 0, .int .i64 rj, .int .i64 rs]] w (LeastQ (ps.map (rcd rj rs)) w) := by
  have HN := Lib.hid hn
  have HS := Lib.hid (sml_rcd (pvB_iff.1 hv) hj hs)
  clear hn
  obtain ⟨qs, hq⟩ : ∃ qs, qs = ps.map (rcd rj rs) := ⟨_, rfl⟩
  rw [← hq]
  have HQ := Lib.hid hq
  rw [← hq] at HS
  clear hq
  go_enter Try.func27, Try.ntmps27
  go_wp2_with fail
  refine (recode_t A L n c lc ps rj rs hj hs _ (hx.alloc _) HN.out hm hv).mono ?_
  rintro e w1 ⟨D, cc, rfl, hown, hb1⟩
  rw [← HQ.out] at hown
  have hB := (below_one w _).trans (hb1.mono (by simp))
  have HL := Lib.hid (recs_own hown).1
  by_cases h0 : n = 0
  · subst h0
    have HE := Lib.hid (show qs = [] from List.eq_nil_of_length_eq_zero HL.out)
    go_wp2_with fail
    go_ret
    exact ⟨0, rfl, by rw [HE.out]; exact ⟨by simp, fun k hk => by simp [cnt] at hk, .inl rfl⟩, hB⟩
  have hn0 : ¬ (n : Int) = 0 := by omega
  have hn1 : ((n : Int) == 0) = false := beq_eq_false_iff_ne.2 hn0
  go_wp2_with fail
  refine (gof_any D n cc qs _ (recs_own hown).2 HL.out hm HS.out).mono ?_
  rintro e w2 ⟨b, nn, M, rfl, hbb, hM, hC, hb2⟩
  have HC := Lib.hid hC
  have hB := below_next hB hb2
  have hb0 : w.heap.size ≤ b := Nat.le_trans (Nat.le_trans (by simp) hb1.size) hbb
  clear hown hb1 hb2 hC
  go_wp2_with (at_range; refine wpList_range_own _ rfl _ 64 rfl _ _ key_law Try.underlying64 _ b nn M rfl hM ?_)
  intro w3 hrg hg3 hs3
  have hB3 : Below w.heap.size w w3 := hB.grown hg3 hB.size (fun x e => by cases e)
  have hb3 : w.heap.size ≤ w2.heap.size := hB.size
  clear hB
  go_wp2_with fail
  go_loopw [9] (fun v wr => ∃ (left : Lit → Bool) (ct : Nat) (T : Int), v = .int .i64 T ∧ wr.ranges Try.prog 51 (plainElem Try.prog 3) b w2.heap.size nn M left ct ∧ Hid (LInv M qs left T) ∧ Below w.heap.size w wr) (fun _ wr => wr.rangeLeft b w2.heap.size)
  case atStart => exact ⟨_, _, (n : Int), rfl, hrg, by have := LInv.start M qs; rw [HL.out] at this; exact this, hB3⟩
  case round =>
    clear hrg hB3
    obtain ⟨left, ct, T, rfl, hrg, HI, hB⟩ := hrel
    go_wp2_with (at_next; refine wpList_next_ranges _ rfl _ rfl _ key_law (plainElem Try.prog 3) id (Value.int .i64) (fun key kl hk => ⟨key, rfl⟩) (fun v y hv => by obtain ⟨c, rfl, _⟩ := plainElem_int_inv Try.underlying3 hv; exact ⟨c, rfl⟩) b w2.heap.size nn _ _ _ rfl hrg ?_ ?_)
    · intro hc0 hl0
      go_wp2_with fail
      go_ret
      exact ⟨T, rfl, HI.out.fin HC.out hl0, hB⟩
    · intro x cx kl y ys w4 ct1 hkey hlk hv hat hrg4 hlt hg4 hs4 hen
      obtain ⟨c', e1, hy, hwf⟩ := plainElem_int_inv Try.underlying3 hv
      injection e1 with _ e1
      subst e1
      injection hy with hy _
      have hm0 : wr.rangeLeft b w2.heap.size = ct := hrg.left_eq
      have hm1 : w4.rangeLeft b w2.heap.size = ct1 := hrg4.left_eq
      have HI2 := Lib.hid (HI.out.step HC.out (kl := kl) (c := cx) (fun zd => by rw [hat zd, hy]))
      have hB4 : Below w.heap.size w w4 := hB.grown hg4 hB.size (fun x e => by injection e with e; omega)
      clear hat hv hy hrg
      by_cases hmin : cx < T
      · rw [if_pos hmin] at HI2
        go_wp2_with fail
        go_roundw
        case rel => exact ⟨_, ct1, cx, rfl, hrg4, HI2, hB4⟩
        case measure => omega
      · rw [if_neg hmin] at HI2
        go_wp2_with fail
        go_roundw
        case rel => exact ⟨_, ct1, T, rfl, hrg4, HI2, hB4⟩
        case measure => omega
end Go.Proofs.Ytpjiencegicjbaa
