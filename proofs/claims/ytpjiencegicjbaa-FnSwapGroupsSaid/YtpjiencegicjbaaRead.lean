/-
  The walks of what reads people: isCode, isSex, PersonValid, PeopleValid, the program's and the reference's.
-/
import Derived.Test.YtpjiencegicjbaaRecs
import Derived.Test.YtpjiencegicjbaaPlain
import Derived.Deep.RegionHeld3
import Derived.RegionTactic
namespace Go.Proofs.Ytpjiencegicjbaa
open Go.RowKit

/-- The cells of a person. -/
def pf (p : Pn) : List Value := [.int .i64 p.area, .int .i64 p.job, .int .i64 p.sex, .int .i64 p.pay]
theorem pf_len (p : Pn) : (pf p).length = 4 := rfl
theorem pf_one (p : Pn) : ∀ u ∈ pf p, u.oneCell' = true := by
  intro u hu
  simp only [pf, List.mem_cons, List.not_mem_nil, or_false] at hu
  rcases hu with rfl | rfl | rfl | rfl <;> rfl
theorem ppl_at {w : World} {B k : Nat} {A : Option Addr} {ps : List Pn} (h : Recs pf 4 w B A ps) (hk : k < ps.length) :
    ∃ b o a j s p, A = some ⟨b, o, none⟩ ∧ b < B ∧ Hid (ps[k]? = some ⟨a, j, s, p⟩) ∧ w.cell? ⟨b, o + k * 4, none⟩ = some (.int .i64 a) ∧ w.cell? ⟨b, o + k * 4 + 1, none⟩ = some (.int .i64 j)
      ∧ w.cell? ⟨b, o + k * 4 + 2, none⟩ = some (.int .i64 s) ∧ w.cell? ⟨b, o + k * 4 + 3, none⟩ = some (.int .i64 p) := by
  obtain ⟨b, o, ⟨a, j, s, p⟩, rfl, hb, hx, hc⟩ := h.get hk
  exact ⟨b, o, a, j, s, p, rfl, hb, hx, hc 0 _ rfl, hc 1 _ rfl, hc 2 _ rfl, hc 3 _ rfl⟩

/-- All old cells and marks read as before. -/
theorem bcell {B : Nat} {W w1 : World} (hb : Below B W w1) : (∀ b o, b < B → w1.cell? ⟨b, o, none⟩ = W.cell? ⟨b, o, none⟩) ∧ (∀ b o, b < B → w1.frozen? ⟨b, o, none⟩ = W.frozen? ⟨b, o, none⟩) :=
  ⟨fun b o h => hb.cell (p := ⟨b, o, none⟩) h, fun b o h => hb.frozen (p := ⟨b, o, none⟩) h⟩
/-- A box of a person. -/
abbrev pbox (a j s p : Int) : Obj := .cells #[.int .i64 a, .int .i64 j, .int .i64 s, .int .i64 p] 51
theorem below_one (w : World) (o : Obj) : Below w.heap.size w (w.alloc o) := (Below.refl w.heap.size w).alloc (Nat.le_refl _) o
theorem below_next {w w1 w2 : World} (h : Below w.heap.size w w1) (k : Below w1.heap.size w1 w2) : Below w.heap.size w w2 := h.trans (k.mono h.size)

def inB (n lo hi : Int) : Bool := decide (lo ≤ n ∧ n ≤ hi)
theorem inB_t {n lo hi : Int} (h1 : lo ≤ n) (h2 : n ≤ hi) : inB n lo hi = true := by simp [inB, h1, h2]
theorem inB_f {n lo hi : Int} (h : ¬ (lo ≤ n ∧ n ≤ hi)) : inB n lo hi = false := by simp only [inB, decide_eq_false_iff_not]; exact h
theorem inB_iff {n lo hi : Int} : inB n lo hi = true ↔ lo ≤ n ∧ n ≤ hi := by simp [inB]
/-- spec.l6In. -/
theorem l6In_any (n lo hi : Int) (w : World) : Calls Try.prog 30 #[.int .i64 n, .int .i64 lo, .int .i64 hi] w fun e w' => e = .returned (.bool (inB n lo hi)) ∧ w = w' := by
  by_cases h1 : lo ≤ n
  · by_cases h2 : n ≤ hi
    · rw [inB_t h1 h2]
      go_enter Try.func30, Try.ntmps30
      go_wp2
      go_ret
      exact ⟨rfl, rfl⟩
    · rw [inB_f (by omega)]
      go_enter Try.func30, Try.ntmps30
      go_wp2
      go_ret
      exact ⟨rfl, rfl⟩
  · rw [inB_f (by omega)]
    go_enter Try.func30, Try.ntmps30
    go_wp2
    go_ret
    exact ⟨rfl, rfl⟩
/-- impl.isCode. -/
theorem isCode_any (n : Int) (w : World) : Calls Try.prog 54 #[.int .i64 n] w fun e w' => e = .returned (.bool (inB n 0 3)) ∧ w = w' := by
  by_cases h1 : 0 ≤ n
  · by_cases h2 : n < 4
    · rw [inB_t h1 (by omega)]
      go_enter Try.func54, Try.ntmps54
      go_wp2
      go_ret
      exact ⟨rfl, rfl⟩
    · rw [inB_f (by omega)]
      go_enter Try.func54, Try.ntmps54
      go_wp2
      go_ret
      exact ⟨rfl, rfl⟩
  · rw [inB_f (by omega)]
    go_enter Try.func54, Try.ntmps54
    go_wp2
    go_ret
    exact ⟨rfl, rfl⟩
/-- impl.isSex. -/
theorem isSex_any (n : Int) (w : World) : Calls Try.prog 55 #[.int .i64 n] w fun e w' => e = .returned (.bool (inB n 0 1)) ∧ w = w' := by
  by_cases h1 : n = 0
  · subst h1
    rw [inB_t (by omega) (by omega)]
    go_enter Try.func55, Try.ntmps55
    go_wp2
    go_ret
    exact ⟨rfl, rfl⟩
  · have b0 : (n == 0) = false := beq_eq_false_iff_ne.2 h1
    by_cases h2 : n = 1
    · subst h2
      rw [inB_t (by omega) (by omega)]
      go_enter Try.func55, Try.ntmps55
      go_wp2
      go_ret
      exact ⟨rfl, rfl⟩
    · have b1 : (n == 1) = false := beq_eq_false_iff_ne.2 h2
      rw [inB_f (by omega)]
      clear h1 h2
      go_enter Try.func55, Try.ntmps55
      go_wp2
      go_ret
      exact ⟨rfl, rfl⟩
theorem pnB_in (a j s p : Int) : pnB ⟨a, j, s, p⟩ = (inB a 0 3 && inB j 0 3 && inB s 0 1 && inB p 0 999) := by
  rw [Bool.eq_iff_iff]; simp only [pnB_iff, pnP, Bool.and_eq_true, inB_iff]; omega

set_option maxHeartbeats 400000 in
/-- impl.PersonValid. -/
theorem person_any (a j s p : Int) (w : World) : Calls Try.prog 46 #[.agg #[.int .i64 a, .int .i64 j, .int .i64 s, .int .i64 p]] w fun e w' => e = .returned (.bool (pnB ⟨a, j, s, p⟩)) ∧ w' = w.alloc (pbox a j s p) := by
  rw [pnB_in]
  cases h0 : inB a 0 3
  · simp only [Bool.false_and]
    go_enter Try.func46, Try.ntmps46
    go_wp2_with (first | (go_at_call 54; refine (isCode_any _ _).mono ?_; rintro e w' ⟨rfl, rfl⟩) | (go_at_call 55; refine (isSex_any _ _).mono ?_; rintro e w' ⟨rfl, rfl⟩))
    go_ret
    exact ⟨rfl, rfl⟩
  cases h1 : inB j 0 3
  · simp only [Bool.false_and, Bool.and_false]
    go_enter Try.func46, Try.ntmps46
    go_wp2_with (first | (go_at_call 54; refine (isCode_any _ _).mono ?_; rintro e w' ⟨rfl, rfl⟩) | (go_at_call 55; refine (isSex_any _ _).mono ?_; rintro e w' ⟨rfl, rfl⟩))
    go_ret
    exact ⟨rfl, rfl⟩
  cases h2 : inB s 0 1
  · simp only [Bool.false_and, Bool.and_false, Bool.true_and]
    go_enter Try.func46, Try.ntmps46
    go_wp2_with (first | (go_at_call 54; refine (isCode_any _ _).mono ?_; rintro e w' ⟨rfl, rfl⟩) | (go_at_call 55; refine (isSex_any _ _).mono ?_; rintro e w' ⟨rfl, rfl⟩))
    go_ret
    exact ⟨rfl, rfl⟩
  by_cases h3 : 0 ≤ p
  · by_cases h4 : p ≤ 999
    · rw [show inB p 0 999 = true from inB_t h3 h4]
      go_enter Try.func46, Try.ntmps46
      go_wp2_with (first | (go_at_call 54; refine (isCode_any _ _).mono ?_; rintro e w' ⟨rfl, rfl⟩) | (go_at_call 55; refine (isSex_any _ _).mono ?_; rintro e w' ⟨rfl, rfl⟩))
      go_ret
      exact ⟨rfl, rfl⟩
    · rw [show inB p 0 999 = false from inB_f (by omega)]
      go_enter Try.func46, Try.ntmps46
      go_wp2_with (first | (go_at_call 54; refine (isCode_any _ _).mono ?_; rintro e w' ⟨rfl, rfl⟩) | (go_at_call 55; refine (isSex_any _ _).mono ?_; rintro e w' ⟨rfl, rfl⟩))
      go_ret
      exact ⟨ret_bool (decide_eq_false (by omega)), rfl⟩
  · rw [show inB p 0 999 = false from inB_f (by omega)]
    go_enter Try.func46, Try.ntmps46
    go_wp2_with (first | (go_at_call 54; refine (isCode_any _ _).mono ?_; rintro e w' ⟨rfl, rfl⟩) | (go_at_call 55; refine (isSex_any _ _).mono ?_; rintro e w' ⟨rfl, rfl⟩))
    go_ret
    exact ⟨rfl, rfl⟩

set_option maxHeartbeats 400000 in
/-- spec.PersonValid. -/
theorem sperson_any (a j s p : Int) (w : World) : Calls Try.prog 45 #[.agg #[.int .i64 a, .int .i64 j, .int .i64 s, .int .i64 p]] w fun e w' => e = .returned (.bool (pnB ⟨a, j, s, p⟩)) ∧ w' = w.alloc (pbox a j s p) := by
  rw [pnB_in]
  cases h0 : inB a 0 3
  · simp only [Bool.false_and]
    go_enter Try.func45, Try.ntmps45
    go_wp2_with ((go_at_call 30; refine (l6In_any _ _ _ _).mono ?_; rintro e w' ⟨rfl, rfl⟩))
    go_ret
    exact ⟨rfl, rfl⟩
  cases h1 : inB j 0 3
  · simp only [Bool.false_and, Bool.and_false]
    go_enter Try.func45, Try.ntmps45
    go_wp2_with ((go_at_call 30; refine (l6In_any _ _ _ _).mono ?_; rintro e w' ⟨rfl, rfl⟩))
    go_ret
    exact ⟨rfl, rfl⟩
  cases h2 : inB s 0 1
  · simp only [Bool.false_and, Bool.and_false, Bool.true_and]
    go_enter Try.func45, Try.ntmps45
    go_wp2_with ((go_at_call 30; refine (l6In_any _ _ _ _).mono ?_; rintro e w' ⟨rfl, rfl⟩))
    go_ret
    exact ⟨rfl, rfl⟩
  cases h3 : inB p 0 999
  · simp only [Bool.and_false]
    go_enter Try.func45, Try.ntmps45
    go_wp2_with ((go_at_call 30; refine (l6In_any _ _ _ _).mono ?_; rintro e w' ⟨rfl, rfl⟩))
    go_ret
    exact ⟨rfl, rfl⟩
  · simp only [Bool.true_and]
    go_enter Try.func45, Try.ntmps45
    go_wp2_with ((go_at_call 30; refine (l6In_any _ _ _ _).mono ?_; rintro e w' ⟨rfl, rfl⟩))
    go_ret
    exact ⟨rfl, rfl⟩

theorem pv_next {ps : List Pn} {k : Nat} {x : Pn} (h : ∀ p ∈ ps.take k, pnP p) (hk : ps[k]? = some x) (hx : pnB x = true) : ∀ p ∈ ps.take (k + 1), pnP p := by
  rw [take_next hk]
  intro p hp
  rcases List.mem_append.1 hp with hp | hp
  · exact h p hp
  · rw [List.mem_singleton.1 hp]; exact pnB_iff.1 hx
theorem pv_no_at {ps : List Pn} {k : Nat} {x : Pn} (hk : ps[k]? = some x) (h : pnB x = false) : pvB ps = false := pvB_f fun hl => by
  rw [pnB_t (pv_at hl hk)] at h; cases h
theorem pv_long {ps : List Pn} {n : Nat} (hn : ps.length = n) (h : ¬ n ≤ 40) : pvB ps = false := pvB_f fun hl => h (by rw [← hn]; exact hl.1)
theorem pv_yes {ps : List Pn} {n : Nat} (hn : ps.length = n) (h : n ≤ 40) {k : Nat} (hk : ¬ k < n) (hall : ∀ p ∈ ps.take k, pnP p) : pvB ps = true := by
  rw [List.take_of_length_le (by omega)] at hall
  exact pvB_t ⟨by omega, hall⟩
theorem pv_end {ps : List Pn} {n : Nat} (hn : ps.length = n) {k : Nat} (hk : ¬ k < n) (hall : ∀ p ∈ ps.take k, pnP p) : pvB ps = decide ((n : Int) ≤ 40) := by
  by_cases h : n ≤ 40
  · rw [pv_yes hn h hk hall, decide_eq_true (by omega)]
  · rw [pv_long hn h, decide_eq_false (by omega)]

set_option maxHeartbeats 400000 in
/-- impl.PeopleValid. -/
theorem pvalid_any (A : Option Addr) (n c : Nat) (ps : List Pn) (w : World) (hx : Recs pf 4 w w.heap.size A ps) (hn : ps.length = n) (hm : n ≤ 4194304) :
    Calls Try.prog 32 #[.slice A n c] w fun e w' => e = .returned (.bool (pvB ps)) ∧ Below w.heap.size w w' := by
  have HN := Lib.hid hn
  clear hn
  go_enter Try.func32, Try.ntmps32
  go_wp2_with fail
  go_loopw [7] (fun i wr => ∃ k : Nat, k ≤ n ∧ i = .int .i64 k ∧ Hid (∀ p ∈ ps.take k, pnP p) ∧ Below w.heap.size w wr) (fun i _ => n - (intOf i).toNat)
  case atStart => exact ⟨0, by omega, rfl, by simp [Hid], Below.refl _ _⟩
  case round =>
    obtain ⟨k, hk, rfl, HA, hb⟩ := hrel
    by_cases hlt : k < n
    · obtain ⟨b, o, a, j, s, p, rfl, hbb, HX, hc0, hc1, hc2, hc3⟩ := ppl_at (hx.below hb) (k := k) (by have := HN.out; omega)
      have hb1 := below_next hb (below_one _ (pbox a j s p))
      have hb2 := below_next hb1 (below_one _ (pbox a j s p))
      cases hp : pnB ⟨a, j, s, p⟩
      · have hno : pvB ps = false := pv_no_at HX.out hp
        go_wp2_with (go_at_call 46; refine (person_any a j s p _).mono ?_; rintro e w' ⟨rfl, rfl⟩)
        go_ret
        exact ⟨ret_bool hno.symm, hb2⟩
      · have HB := Lib.hid (pv_next HA.out HX.out hp)
        clear HA
        go_wp2_with (go_at_call 46; refine (person_any a j s p _).mono ?_; rintro e w' ⟨rfl, rfl⟩)
        go_roundw
        case rel => exact ⟨k + 1, by omega, by go_num, HB, hb2⟩
        case measure => simp [intOf]; omega
    · have HE := Lib.hid (pv_end HN.out hlt HA.out)
      go_wp2_with fail
      go_ret
      exact ⟨ret_bool HE.out.symm, hb⟩

set_option maxHeartbeats 400000 in
/-- spec.PeopleValid. -/
theorem spvalid_any (A : Option Addr) (n c : Nat) (ps : List Pn) (w : World) (hx : Recs pf 4 w w.heap.size A ps) (hn : ps.length = n) (hm : n ≤ 4194304) :
    Calls Try.prog 29 #[.slice A n c] w fun e w' => e = .returned (.bool (pvB ps)) ∧ Below w.heap.size w w' := by
  have HN := Lib.hid hn
  clear hn
  go_enter Try.func29, Try.ntmps29
  go_wp2_with fail
  go_loopw [3] (fun i wr => ∃ k : Nat, k ≤ n ∧ i = .int .i64 k ∧ Hid (∀ p ∈ ps.take k, pnP p) ∧ Below w.heap.size w wr) (fun i _ => n - (intOf i).toNat)
  case atStart => exact ⟨0, by omega, rfl, by simp [Hid], Below.refl _ _⟩
  case round =>
    obtain ⟨k, hk, rfl, HA, hb⟩ := hrel
    by_cases hlt : k < n
    · obtain ⟨b, o, a, j, s, p, rfl, hbb, HX, hc0, hc1, hc2, hc3⟩ := ppl_at (hx.below hb) (k := k) (by have := HN.out; omega)
      have hb1 := below_next hb (below_one _ (pbox a j s p))
      cases hp : pnB ⟨a, j, s, p⟩
      · have hno : pvB ps = false := pv_no_at HX.out hp
        go_wp2_with (go_at_call 45; refine (sperson_any a j s p _).mono ?_; rintro e w' ⟨rfl, rfl⟩)
        go_ret
        exact ⟨ret_bool hno.symm, hb1⟩
      · have HB := Lib.hid (pv_next HA.out HX.out hp)
        clear HA
        go_wp2_with (go_at_call 45; refine (sperson_any a j s p _).mono ?_; rintro e w' ⟨rfl, rfl⟩)
        go_roundw
        case rel => exact ⟨k + 1, by omega, by go_num, HB, hb1⟩
        case measure => simp [intOf]; omega
    · have HE := Lib.hid (pv_end HN.out hlt HA.out)
      go_wp2_with fail
      go_ret
      exact ⟨ret_bool HE.out.symm, hb⟩

end Go.Proofs.Ytpjiencegicjbaa
