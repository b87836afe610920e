/-
  The walks of impl.selected, PeopleMany and PeoplePay, at valid people and valid questions.
-/
import Derived.Test.YtdoomakadnfddaaPeople
namespace Go.Proofs.Ytdoomakadnfddaa
open Go.RowKit
attribute [local go_sem ↓] Go.wp_at_zero Go.wp_at_succ

/-- A person has the codes that are asked for. -/
def selB (area job sex : Int) (p : Pn) : Bool := decide ((area = -1 ∨ p.area = area) ∧ (job = -1 ∨ p.job = job) ∧ (sex = -1 ∨ p.sex = sex))
theorem sel_t {area job sex : Int} {p : Pn} (h1 : area = -1 ∨ p.area = area) (h2 : job = -1 ∨ p.job = job) (h3 : sex = -1 ∨ p.sex = sex) : selB area job sex p = true := by simp only [selB, decide_eq_true_eq]; exact ⟨h1, h2, h3⟩
theorem sel_f {area job sex : Int} {p : Pn} (h : ¬ (area = -1 ∨ p.area = area) ∨ ¬ (job = -1 ∨ p.job = job) ∨ ¬ (sex = -1 ∨ p.sex = sex)) : selB area job sex p = false := by
  simp only [selB, decide_eq_false_iff_not]; rintro ⟨h1, h2, h3⟩
  rcases h with h | h | h
  · exact h h1
  · exact h h2
  · exact h h3
theorem filt_t {q : Pn → Bool} {ps : List Pn} {k : Nat} {x : Pn} (hk : ps[k]? = some x) (h : q x = true) : (ps.take (k + 1)).filter q = (ps.take k).filter q ++ [x] := by rw [take_next hk, List.filter_append]; simp [h]
theorem filt_f {q : Pn → Bool} {ps : List Pn} {k : Nat} {x : Pn} (hk : ps[k]? = some x) (h : q x = false) : (ps.take (k + 1)).filter q = (ps.take k).filter q := by rw [take_next hk, List.filter_append]; simp [h]
theorem filt_le (q : Pn → Bool) (ps : List Pn) (k : Nat) : ((ps.take k).filter q).length ≤ k := by
  have h1 := List.length_filter_le q (ps.take k)
  have h2 := List.length_take_le k ps
  omega
/-- What selected leaves. -/
def SelQ (xs : List Pn) (w : World) (e : Ending) (w' : World) : Prop :=
  ∃ (D : Option Addr) (m c : Nat), e = .returned (.tuple #[.slice D m c, .bool true]) ∧ Hid (xs.length = m) ∧ w'.ownsRow w.heap.size 31 4 (.slice D m c) m (flat pf xs) ∧ Below w.heap.size w w'
set_option maxHeartbeats 2000000 in
theorem sel_000 (A : Option Addr) (n cc : Nat) (ps : List Pn)  (w : World) (hx : Recs pf 4 w w.heap.size A ps) (hn : ps.length = n) (hm : n ≤ 40) (hv : pvB ps = true)  :
    Calls Try.prog 40 #[.slice A n cc, .int .i64 (-1), .int .i64 (-1), .int .i64 (-1)] w (SelQ (ps.filter (selB (-1) (-1) (-1))) w) := by
  obtain ⟨i9, hi0, hz0, hz1, hz2⟩ := info_parts pn_info
  have HN := Lib.hid hn
  clear hn
  go_enter Try.func40, Try.ntmps40
  go_wp2_with fail
  refine (pvalid_any A n cc ps _ hx HN.out (by omega)).mono ?_
  rintro e w1 ⟨rfl, hb1⟩
  go_wp2_with (first | (go_at_call 48; refine (isCode_any _ _).mono ?_; rintro e w' ⟨rfl, rfl⟩) | (go_at_call 49; refine (isSex_any _ _).mono ?_; rintro e w' ⟨rfl, rfl⟩))
  go_loopw [10, 45] (fun v i wr => ∃ (k m : Nat) (D : Option Addr) (c : Nat), k ≤ n ∧ i = .int .i64 (k : Int) ∧ v = .slice D m c ∧ Hid (((ps.take k).filter (selB (-1) (-1) (-1))).length = m) ∧ wr.ownsRow w.heap.size 31 4 (.slice D m c) m (flat pf ((ps.take k).filter (selB (-1) (-1) (-1)))) ∧ Below w.heap.size w wr) (fun _ i _ => n - (intOf i).toNat)
  case atStart => exact ⟨0, 0, none, 0, by omega, rfl, rfl, rfl, World.ownsRow_nil _ _ _ _, hb1⟩
  case round =>
    obtain ⟨k, m, D, c, hk, rfl, rfl, HM, hown, hb⟩ := hrel
    by_cases hlt : k < n
    · obtain ⟨ob, o, a, j, s, p, rfl, hbb, HX, c0, c1, c2, c3⟩ := ppl_at (hx.on hb) (k := k) (by have := HN.out; omega)
      have hmk : m ≤ k := by have := filt_le (selB (-1) (-1) (-1)) ps k; have := HM.out; omega
      have q1 : m + 1 ≤ maxLen := by simp only [maxLen]; omega
      have q2 : (m + 1) * 32 ≤ 140737488355328 := by omega
      have k0 : (0 : Int) ≤ (k : Int) := by omega
      have k1 : (k : Int) < (n : Int) := by omega
      have HS := Lib.hid (filt_t HX.out (sel_t (area := (-1)) (job := (-1)) (sex := (-1)) (.inl rfl) (.inl rfl) (.inl rfl)))
      skip
      have hown2 := (hown.alloc (pbox a j s p)).alloc (pbox a j s p)
      have hsrc := src4_at (wr.alloc (pbox a j s p)) (wr.heap.size + 1) (by simp) a j s p
      have q3 : w.heap.size ≤ ((wr.alloc (pbox a j s p)).alloc (pbox a j s p)).heap.size := by have := hb.size; simp; omega
      go_wp2_with (at_builtin; refine wpList_append_src _ rfl _ _ 23 rfl w.heap.size 31 i9 (.agg #[.int .i64 0, .int .i64 0, .int .i64 0, .int .i64 0]) 4 32 Try.underlying23 hi0 hz0 hz1 hz2 rfl (by decide) _ m (flat pf _) rfl hown2 _ 1 _ _ rfl hsrc (pf_one _) q1 q2 q3 ?_)
      intro v' w8 hown8 hg8 _
      rw [flat_snoc, ← HS.out] at hown8
      obtain ⟨D8, c8, rfl⟩ := own_form hown8
      have hb8 : Below w.heap.size w w8 := (below_next hb (below_two wr (pbox a j s p) (pbox a j s p))).grown hg8 q3 (fun x e => (hown2.lt x e).1)
      have HM8 : Hid (((ps.take (k + 1)).filter (selB (-1) (-1) (-1))).length = m + 1) := by show _ = _; rw [HS.out, List.length_append, HM.out]; rfl
      clear hown2 hsrc hg8
      go_wp2_with fail
      go_roundw
      case rel => exact ⟨k + 1, m + 1, D8, c8, by omega, by go_num, rfl, HM8, hown8, hb8⟩
      case measure => simp [intOf]; omega
    · have HA : Hid ((ps.take k).filter (selB (-1) (-1) (-1)) = ps.filter (selB (-1) (-1) (-1))) := by show _ = _; rw [List.take_of_length_le (by have := HN.out; omega)]
      rw [HA.out] at hown HM
      go_wp2_with fail
      go_ret2
      exact ⟨D, m, c, rfl, HM, hown, hb⟩
set_option maxHeartbeats 2000000 in
theorem sel_001 (A : Option Addr) (n cc : Nat) (ps : List Pn) (sex : Int) (w : World) (hx : Recs pf 4 w w.heap.size A ps) (hn : ps.length = n) (hm : n ≤ 40) (hv : pvB ps = true) (hsex : inB sex 0 1 = true) :
    Calls Try.prog 40 #[.slice A n cc, .int .i64 (-1), .int .i64 (-1), .int .i64 sex] w (SelQ (ps.filter (selB (-1) (-1) sex)) w) := by
  obtain ⟨i9, hi0, hz0, hz1, hz2⟩ := info_parts pn_info
  have HN := Lib.hid hn
  clear hn
  have nsex : (sex == -1) = false := beq_eq_false_iff_ne.2 (by have := inB_iff.1 hsex; omega)
  have msex : (sex != -1) = true := by simp only [bne, nsex]; rfl
  go_enter Try.func40, Try.ntmps40
  go_wp2_with fail
  refine (pvalid_any A n cc ps _ hx HN.out (by omega)).mono ?_
  rintro e w1 ⟨rfl, hb1⟩
  go_wp2_with (first | (go_at_call 48; refine (isCode_any _ _).mono ?_; rintro e w' ⟨rfl, rfl⟩) | (go_at_call 49; refine (isSex_any _ _).mono ?_; rintro e w' ⟨rfl, rfl⟩))
  go_loopw [10, 45] (fun v i wr => ∃ (k m : Nat) (D : Option Addr) (c : Nat), k ≤ n ∧ i = .int .i64 (k : Int) ∧ v = .slice D m c ∧ Hid (((ps.take k).filter (selB (-1) (-1) sex)).length = m) ∧ wr.ownsRow w.heap.size 31 4 (.slice D m c) m (flat pf ((ps.take k).filter (selB (-1) (-1) sex))) ∧ Below w.heap.size w wr) (fun _ i _ => n - (intOf i).toNat)
  case atStart => exact ⟨0, 0, none, 0, by omega, rfl, rfl, rfl, World.ownsRow_nil _ _ _ _, hb1⟩
  case round =>
    obtain ⟨k, m, D, c, hk, rfl, rfl, HM, hown, hb⟩ := hrel
    by_cases hlt : k < n
    · obtain ⟨ob, o, a, j, s, p, rfl, hbb, HX, c0, c1, c2, c3⟩ := ppl_at (hx.on hb) (k := k) (by have := HN.out; omega)
      have hmk : m ≤ k := by have := filt_le (selB (-1) (-1) sex) ps k; have := HM.out; omega
      have q1 : m + 1 ≤ maxLen := by simp only [maxLen]; omega
      have q2 : (m + 1) * 32 ≤ 140737488355328 := by omega
      have k0 : (0 : Int) ≤ (k : Int) := by omega
      have k1 : (k : Int) < (n : Int) := by omega
      by_cases g2 : s = sex
      rotate_left
      · skip
        have e2 : (s == sex) = false := beq_eq_false_iff_ne.2 g2
        have HS := Lib.hid (filt_f HX.out (sel_f (area := (-1)) (job := (-1)) (sex := sex) (.inr (.inr (by have := inB_iff.1 hsex; simp only; omega)))))
        clear g2
        have hown8 := hown.alloc (pbox a j s p)
        have HM8 : Hid (((ps.take (k + 1)).filter (selB (-1) (-1) sex)).length = m) := by show _ = _; rw [HS.out]; exact HM.out
        rw [← HS.out] at hown8
        have hb8 := below_next hb (below_one wr (pbox a j s p))
        go_wp2_with fail
        go_roundw
        case rel => exact ⟨k + 1, m, D, c, by omega, by go_num, rfl, HM8, hown8, hb8⟩
        case measure => simp [intOf]; omega
      have e2 : (s == sex) = true := beq_iff_eq.2 g2
      have HS := Lib.hid (filt_t HX.out (sel_t (area := (-1)) (job := (-1)) (sex := sex) (.inl rfl) (.inl rfl) (.inr g2)))
      clear g2
      have hown2 := (hown.alloc (pbox a j s p)).alloc (pbox a j s p)
      have hsrc := src4_at (wr.alloc (pbox a j s p)) (wr.heap.size + 1) (by simp) a j s p
      have q3 : w.heap.size ≤ ((wr.alloc (pbox a j s p)).alloc (pbox a j s p)).heap.size := by have := hb.size; simp; omega
      go_wp2_with (at_builtin; refine wpList_append_src _ rfl _ _ 23 rfl w.heap.size 31 i9 (.agg #[.int .i64 0, .int .i64 0, .int .i64 0, .int .i64 0]) 4 32 Try.underlying23 hi0 hz0 hz1 hz2 rfl (by decide) _ m (flat pf _) rfl hown2 _ 1 _ _ rfl hsrc (pf_one _) q1 q2 q3 ?_)
      intro v' w8 hown8 hg8 _
      rw [flat_snoc, ← HS.out] at hown8
      obtain ⟨D8, c8, rfl⟩ := own_form hown8
      have hb8 : Below w.heap.size w w8 := (below_next hb (below_two wr (pbox a j s p) (pbox a j s p))).grown hg8 q3 (fun x e => (hown2.lt x e).1)
      have HM8 : Hid (((ps.take (k + 1)).filter (selB (-1) (-1) sex)).length = m + 1) := by show _ = _; rw [HS.out, List.length_append, HM.out]; rfl
      clear hown2 hsrc hg8
      go_wp2_with fail
      go_roundw
      case rel => exact ⟨k + 1, m + 1, D8, c8, by omega, by go_num, rfl, HM8, hown8, hb8⟩
      case measure => simp [intOf]; omega
    · have HA : Hid ((ps.take k).filter (selB (-1) (-1) sex) = ps.filter (selB (-1) (-1) sex)) := by show _ = _; rw [List.take_of_length_le (by have := HN.out; omega)]
      rw [HA.out] at hown HM
      go_wp2_with fail
      go_ret2
      exact ⟨D, m, c, rfl, HM, hown, hb⟩
set_option maxHeartbeats 2000000 in
theorem sel_010 (A : Option Addr) (n cc : Nat) (ps : List Pn) (job : Int) (w : World) (hx : Recs pf 4 w w.heap.size A ps) (hn : ps.length = n) (hm : n ≤ 40) (hv : pvB ps = true) (hjob : inB job 0 3 = true) :
    Calls Try.prog 40 #[.slice A n cc, .int .i64 (-1), .int .i64 job, .int .i64 (-1)] w (SelQ (ps.filter (selB (-1) job (-1))) w) := by
  obtain ⟨i9, hi0, hz0, hz1, hz2⟩ := info_parts pn_info
  have HN := Lib.hid hn
  clear hn
  have njob : (job == -1) = false := beq_eq_false_iff_ne.2 (by have := inB_iff.1 hjob; omega)
  have mjob : (job != -1) = true := by simp only [bne, njob]; rfl
  go_enter Try.func40, Try.ntmps40
  go_wp2_with fail
  refine (pvalid_any A n cc ps _ hx HN.out (by omega)).mono ?_
  rintro e w1 ⟨rfl, hb1⟩
  go_wp2_with (first | (go_at_call 48; refine (isCode_any _ _).mono ?_; rintro e w' ⟨rfl, rfl⟩) | (go_at_call 49; refine (isSex_any _ _).mono ?_; rintro e w' ⟨rfl, rfl⟩))
  go_loopw [10, 45] (fun v i wr => ∃ (k m : Nat) (D : Option Addr) (c : Nat), k ≤ n ∧ i = .int .i64 (k : Int) ∧ v = .slice D m c ∧ Hid (((ps.take k).filter (selB (-1) job (-1))).length = m) ∧ wr.ownsRow w.heap.size 31 4 (.slice D m c) m (flat pf ((ps.take k).filter (selB (-1) job (-1)))) ∧ Below w.heap.size w wr) (fun _ i _ => n - (intOf i).toNat)
  case atStart => exact ⟨0, 0, none, 0, by omega, rfl, rfl, rfl, World.ownsRow_nil _ _ _ _, hb1⟩
  case round =>
    obtain ⟨k, m, D, c, hk, rfl, rfl, HM, hown, hb⟩ := hrel
    by_cases hlt : k < n
    · obtain ⟨ob, o, a, j, s, p, rfl, hbb, HX, c0, c1, c2, c3⟩ := ppl_at (hx.on hb) (k := k) (by have := HN.out; omega)
      have hmk : m ≤ k := by have := filt_le (selB (-1) job (-1)) ps k; have := HM.out; omega
      have q1 : m + 1 ≤ maxLen := by simp only [maxLen]; omega
      have q2 : (m + 1) * 32 ≤ 140737488355328 := by omega
      have k0 : (0 : Int) ≤ (k : Int) := by omega
      have k1 : (k : Int) < (n : Int) := by omega
      by_cases g1 : j = job
      rotate_left
      · skip
        have e1 : (j == job) = false := beq_eq_false_iff_ne.2 g1
        have HS := Lib.hid (filt_f HX.out (sel_f (area := (-1)) (job := job) (sex := (-1)) (.inr (.inl (by have := inB_iff.1 hjob; simp only; omega)))))
        clear g1
        have hown8 := hown.alloc (pbox a j s p)
        have HM8 : Hid (((ps.take (k + 1)).filter (selB (-1) job (-1))).length = m) := by show _ = _; rw [HS.out]; exact HM.out
        rw [← HS.out] at hown8
        have hb8 := below_next hb (below_one wr (pbox a j s p))
        go_wp2_with fail
        go_roundw
        case rel => exact ⟨k + 1, m, D, c, by omega, by go_num, rfl, HM8, hown8, hb8⟩
        case measure => simp [intOf]; omega
      have e1 : (j == job) = true := beq_iff_eq.2 g1
      have HS := Lib.hid (filt_t HX.out (sel_t (area := (-1)) (job := job) (sex := (-1)) (.inl rfl) (.inr g1) (.inl rfl)))
      clear g1
      have hown2 := (hown.alloc (pbox a j s p)).alloc (pbox a j s p)
      have hsrc := src4_at (wr.alloc (pbox a j s p)) (wr.heap.size + 1) (by simp) a j s p
      have q3 : w.heap.size ≤ ((wr.alloc (pbox a j s p)).alloc (pbox a j s p)).heap.size := by have := hb.size; simp; omega
      go_wp2_with (at_builtin; refine wpList_append_src _ rfl _ _ 23 rfl w.heap.size 31 i9 (.agg #[.int .i64 0, .int .i64 0, .int .i64 0, .int .i64 0]) 4 32 Try.underlying23 hi0 hz0 hz1 hz2 rfl (by decide) _ m (flat pf _) rfl hown2 _ 1 _ _ rfl hsrc (pf_one _) q1 q2 q3 ?_)
      intro v' w8 hown8 hg8 _
      rw [flat_snoc, ← HS.out] at hown8
      obtain ⟨D8, c8, rfl⟩ := own_form hown8
      have hb8 : Below w.heap.size w w8 := (below_next hb (below_two wr (pbox a j s p) (pbox a j s p))).grown hg8 q3 (fun x e => (hown2.lt x e).1)
      have HM8 : Hid (((ps.take (k + 1)).filter (selB (-1) job (-1))).length = m + 1) := by show _ = _; rw [HS.out, List.length_append, HM.out]; rfl
      clear hown2 hsrc hg8
      go_wp2_with fail
      go_roundw
      case rel => exact ⟨k + 1, m + 1, D8, c8, by omega, by go_num, rfl, HM8, hown8, hb8⟩
      case measure => simp [intOf]; omega
    · have HA : Hid ((ps.take k).filter (selB (-1) job (-1)) = ps.filter (selB (-1) job (-1))) := by show _ = _; rw [List.take_of_length_le (by have := HN.out; omega)]
      rw [HA.out] at hown HM
      go_wp2_with fail
      go_ret2
      exact ⟨D, m, c, rfl, HM, hown, hb⟩
set_option maxHeartbeats 2000000 in
theorem sel_011 (A : Option Addr) (n cc : Nat) (ps : List Pn) (job : Int) (sex : Int) (w : World) (hx : Recs pf 4 w w.heap.size A ps) (hn : ps.length = n) (hm : n ≤ 40) (hv : pvB ps = true) (hjob : inB job 0 3 = true) (hsex : inB sex 0 1 = true) :
    Calls Try.prog 40 #[.slice A n cc, .int .i64 (-1), .int .i64 job, .int .i64 sex] w (SelQ (ps.filter (selB (-1) job sex)) w) := by
  obtain ⟨i9, hi0, hz0, hz1, hz2⟩ := info_parts pn_info
  have HN := Lib.hid hn
  clear hn
  have njob : (job == -1) = false := beq_eq_false_iff_ne.2 (by have := inB_iff.1 hjob; omega)
  have mjob : (job != -1) = true := by simp only [bne, njob]; rfl
  have nsex : (sex == -1) = false := beq_eq_false_iff_ne.2 (by have := inB_iff.1 hsex; omega)
  have msex : (sex != -1) = true := by simp only [bne, nsex]; rfl
  go_enter Try.func40, Try.ntmps40
  go_wp2_with fail
  refine (pvalid_any A n cc ps _ hx HN.out (by omega)).mono ?_
  rintro e w1 ⟨rfl, hb1⟩
  go_wp2_with (first | (go_at_call 48; refine (isCode_any _ _).mono ?_; rintro e w' ⟨rfl, rfl⟩) | (go_at_call 49; refine (isSex_any _ _).mono ?_; rintro e w' ⟨rfl, rfl⟩))
  go_loopw [10, 45] (fun v i wr => ∃ (k m : Nat) (D : Option Addr) (c : Nat), k ≤ n ∧ i = .int .i64 (k : Int) ∧ v = .slice D m c ∧ Hid (((ps.take k).filter (selB (-1) job sex)).length = m) ∧ wr.ownsRow w.heap.size 31 4 (.slice D m c) m (flat pf ((ps.take k).filter (selB (-1) job sex))) ∧ Below w.heap.size w wr) (fun _ i _ => n - (intOf i).toNat)
  case atStart => exact ⟨0, 0, none, 0, by omega, rfl, rfl, rfl, World.ownsRow_nil _ _ _ _, hb1⟩
  case round =>
    obtain ⟨k, m, D, c, hk, rfl, rfl, HM, hown, hb⟩ := hrel
    by_cases hlt : k < n
    · obtain ⟨ob, o, a, j, s, p, rfl, hbb, HX, c0, c1, c2, c3⟩ := ppl_at (hx.on hb) (k := k) (by have := HN.out; omega)
      have hmk : m ≤ k := by have := filt_le (selB (-1) job sex) ps k; have := HM.out; omega
      have q1 : m + 1 ≤ maxLen := by simp only [maxLen]; omega
      have q2 : (m + 1) * 32 ≤ 140737488355328 := by omega
      have k0 : (0 : Int) ≤ (k : Int) := by omega
      have k1 : (k : Int) < (n : Int) := by omega
      by_cases g1 : j = job
      rotate_left
      · skip
        have e1 : (j == job) = false := beq_eq_false_iff_ne.2 g1
        have HS := Lib.hid (filt_f HX.out (sel_f (area := (-1)) (job := job) (sex := sex) (.inr (.inl (by have := inB_iff.1 hjob; simp only; omega)))))
        clear g1
        have hown8 := hown.alloc (pbox a j s p)
        have HM8 : Hid (((ps.take (k + 1)).filter (selB (-1) job sex)).length = m) := by show _ = _; rw [HS.out]; exact HM.out
        rw [← HS.out] at hown8
        have hb8 := below_next hb (below_one wr (pbox a j s p))
        go_wp2_with fail
        go_roundw
        case rel => exact ⟨k + 1, m, D, c, by omega, by go_num, rfl, HM8, hown8, hb8⟩
        case measure => simp [intOf]; omega
      have e1 : (j == job) = true := beq_iff_eq.2 g1
      by_cases g2 : s = sex
      rotate_left
      · skip
        have e2 : (s == sex) = false := beq_eq_false_iff_ne.2 g2
        have HS := Lib.hid (filt_f HX.out (sel_f (area := (-1)) (job := job) (sex := sex) (.inr (.inr (by have := inB_iff.1 hsex; simp only; omega)))))
        clear g1 g2
        have hown8 := hown.alloc (pbox a j s p)
        have HM8 : Hid (((ps.take (k + 1)).filter (selB (-1) job sex)).length = m) := by show _ = _; rw [HS.out]; exact HM.out
        rw [← HS.out] at hown8
        have hb8 := below_next hb (below_one wr (pbox a j s p))
        go_wp2_with fail
        go_roundw
        case rel => exact ⟨k + 1, m, D, c, by omega, by go_num, rfl, HM8, hown8, hb8⟩
        case measure => simp [intOf]; omega
      have e2 : (s == sex) = true := beq_iff_eq.2 g2
      have HS := Lib.hid (filt_t HX.out (sel_t (area := (-1)) (job := job) (sex := sex) (.inl rfl) (.inr g1) (.inr g2)))
      clear g1 g2
      have hown2 := (hown.alloc (pbox a j s p)).alloc (pbox a j s p)
      have hsrc := src4_at (wr.alloc (pbox a j s p)) (wr.heap.size + 1) (by simp) a j s p
      have q3 : w.heap.size ≤ ((wr.alloc (pbox a j s p)).alloc (pbox a j s p)).heap.size := by have := hb.size; simp; omega
      go_wp2_with (at_builtin; refine wpList_append_src _ rfl _ _ 23 rfl w.heap.size 31 i9 (.agg #[.int .i64 0, .int .i64 0, .int .i64 0, .int .i64 0]) 4 32 Try.underlying23 hi0 hz0 hz1 hz2 rfl (by decide) _ m (flat pf _) rfl hown2 _ 1 _ _ rfl hsrc (pf_one _) q1 q2 q3 ?_)
      intro v' w8 hown8 hg8 _
      rw [flat_snoc, ← HS.out] at hown8
      obtain ⟨D8, c8, rfl⟩ := own_form hown8
      have hb8 : Below w.heap.size w w8 := (below_next hb (below_two wr (pbox a j s p) (pbox a j s p))).grown hg8 q3 (fun x e => (hown2.lt x e).1)
      have HM8 : Hid (((ps.take (k + 1)).filter (selB (-1) job sex)).length = m + 1) := by show _ = _; rw [HS.out, List.length_append, HM.out]; rfl
      clear hown2 hsrc hg8
      go_wp2_with fail
      go_roundw
      case rel => exact ⟨k + 1, m + 1, D8, c8, by omega, by go_num, rfl, HM8, hown8, hb8⟩
      case measure => simp [intOf]; omega
    · have HA : Hid ((ps.take k).filter (selB (-1) job sex) = ps.filter (selB (-1) job sex)) := by show _ = _; rw [List.take_of_length_le (by have := HN.out; omega)]
      rw [HA.out] at hown HM
      go_wp2_with fail
      go_ret2
      exact ⟨D, m, c, rfl, HM, hown, hb⟩
set_option maxHeartbeats 2000000 in
theorem sel_100 (A : Option Addr) (n cc : Nat) (ps : List Pn) (area : Int) (w : World) (hx : Recs pf 4 w w.heap.size A ps) (hn : ps.length = n) (hm : n ≤ 40) (hv : pvB ps = true) (harea : inB area 0 3 = true) :
    Calls Try.prog 40 #[.slice A n cc, .int .i64 area, .int .i64 (-1), .int .i64 (-1)] w (SelQ (ps.filter (selB area (-1) (-1))) w) := by
  obtain ⟨i9, hi0, hz0, hz1, hz2⟩ := info_parts pn_info
  have HN := Lib.hid hn
  clear hn
  have narea : (area == -1) = false := beq_eq_false_iff_ne.2 (by have := inB_iff.1 harea; omega)
  have marea : (area != -1) = true := by simp only [bne, narea]; rfl
  go_enter Try.func40, Try.ntmps40
  go_wp2_with fail
  refine (pvalid_any A n cc ps _ hx HN.out (by omega)).mono ?_
  rintro e w1 ⟨rfl, hb1⟩
  go_wp2_with (first | (go_at_call 48; refine (isCode_any _ _).mono ?_; rintro e w' ⟨rfl, rfl⟩) | (go_at_call 49; refine (isSex_any _ _).mono ?_; rintro e w' ⟨rfl, rfl⟩))
  go_loopw [10, 45] (fun v i wr => ∃ (k m : Nat) (D : Option Addr) (c : Nat), k ≤ n ∧ i = .int .i64 (k : Int) ∧ v = .slice D m c ∧ Hid (((ps.take k).filter (selB area (-1) (-1))).length = m) ∧ wr.ownsRow w.heap.size 31 4 (.slice D m c) m (flat pf ((ps.take k).filter (selB area (-1) (-1)))) ∧ Below w.heap.size w wr) (fun _ i _ => n - (intOf i).toNat)
  case atStart => exact ⟨0, 0, none, 0, by omega, rfl, rfl, rfl, World.ownsRow_nil _ _ _ _, hb1⟩
  case round =>
    obtain ⟨k, m, D, c, hk, rfl, rfl, HM, hown, hb⟩ := hrel
    by_cases hlt : k < n
    · obtain ⟨ob, o, a, j, s, p, rfl, hbb, HX, c0, c1, c2, c3⟩ := ppl_at (hx.on hb) (k := k) (by have := HN.out; omega)
      have hmk : m ≤ k := by have := filt_le (selB area (-1) (-1)) ps k; have := HM.out; omega
      have q1 : m + 1 ≤ maxLen := by simp only [maxLen]; omega
      have q2 : (m + 1) * 32 ≤ 140737488355328 := by omega
      have k0 : (0 : Int) ≤ (k : Int) := by omega
      have k1 : (k : Int) < (n : Int) := by omega
      by_cases g0 : a = area
      rotate_left
      · skip
        have e0 : (a == area) = false := beq_eq_false_iff_ne.2 g0
        have HS := Lib.hid (filt_f HX.out (sel_f (area := area) (job := (-1)) (sex := (-1)) (.inl (by have := inB_iff.1 harea; simp only; omega))))
        clear g0
        have hown8 := hown.alloc (pbox a j s p)
        have HM8 : Hid (((ps.take (k + 1)).filter (selB area (-1) (-1))).length = m) := by show _ = _; rw [HS.out]; exact HM.out
        rw [← HS.out] at hown8
        have hb8 := below_next hb (below_one wr (pbox a j s p))
        go_wp2_with fail
        go_roundw
        case rel => exact ⟨k + 1, m, D, c, by omega, by go_num, rfl, HM8, hown8, hb8⟩
        case measure => simp [intOf]; omega
      have e0 : (a == area) = true := beq_iff_eq.2 g0
      have HS := Lib.hid (filt_t HX.out (sel_t (area := area) (job := (-1)) (sex := (-1)) (.inr g0) (.inl rfl) (.inl rfl)))
      clear g0
      have hown2 := (hown.alloc (pbox a j s p)).alloc (pbox a j s p)
      have hsrc := src4_at (wr.alloc (pbox a j s p)) (wr.heap.size + 1) (by simp) a j s p
      have q3 : w.heap.size ≤ ((wr.alloc (pbox a j s p)).alloc (pbox a j s p)).heap.size := by have := hb.size; simp; omega
      go_wp2_with (at_builtin; refine wpList_append_src _ rfl _ _ 23 rfl w.heap.size 31 i9 (.agg #[.int .i64 0, .int .i64 0, .int .i64 0, .int .i64 0]) 4 32 Try.underlying23 hi0 hz0 hz1 hz2 rfl (by decide) _ m (flat pf _) rfl hown2 _ 1 _ _ rfl hsrc (pf_one _) q1 q2 q3 ?_)
      intro v' w8 hown8 hg8 _
      rw [flat_snoc, ← HS.out] at hown8
      obtain ⟨D8, c8, rfl⟩ := own_form hown8
      have hb8 : Below w.heap.size w w8 := (below_next hb (below_two wr (pbox a j s p) (pbox a j s p))).grown hg8 q3 (fun x e => (hown2.lt x e).1)
      have HM8 : Hid (((ps.take (k + 1)).filter (selB area (-1) (-1))).length = m + 1) := by show _ = _; rw [HS.out, List.length_append, HM.out]; rfl
      clear hown2 hsrc hg8
      go_wp2_with fail
      go_roundw
      case rel => exact ⟨k + 1, m + 1, D8, c8, by omega, by go_num, rfl, HM8, hown8, hb8⟩
      case measure => simp [intOf]; omega
    · have HA : Hid ((ps.take k).filter (selB area (-1) (-1)) = ps.filter (selB area (-1) (-1))) := by show _ = _; rw [List.take_of_length_le (by have := HN.out; omega)]
      rw [HA.out] at hown HM
      go_wp2_with fail
      go_ret2
      exact ⟨D, m, c, rfl, HM, hown, hb⟩
set_option maxHeartbeats 2000000 in
theorem sel_101 (A : Option Addr) (n cc : Nat) (ps : List Pn) (area : Int) (sex : Int) (w : World) (hx : Recs pf 4 w w.heap.size A ps) (hn : ps.length = n) (hm : n ≤ 40) (hv : pvB ps = true) (harea : inB area 0 3 = true) (hsex : inB sex 0 1 = true) :
    Calls Try.prog 40 #[.slice A n cc, .int .i64 area, .int .i64 (-1), .int .i64 sex] w (SelQ (ps.filter (selB area (-1) sex)) w) := by
  obtain ⟨i9, hi0, hz0, hz1, hz2⟩ := info_parts pn_info
  have HN := Lib.hid hn
  clear hn
  have narea : (area == -1) = false := beq_eq_false_iff_ne.2 (by have := inB_iff.1 harea; omega)
  have marea : (area != -1) = true := by simp only [bne, narea]; rfl
  have nsex : (sex == -1) = false := beq_eq_false_iff_ne.2 (by have := inB_iff.1 hsex; omega)
  have msex : (sex != -1) = true := by simp only [bne, nsex]; rfl
  go_enter Try.func40, Try.ntmps40
  go_wp2_with fail
  refine (pvalid_any A n cc ps _ hx HN.out (by omega)).mono ?_
  rintro e w1 ⟨rfl, hb1⟩
  go_wp2_with (first | (go_at_call 48; refine (isCode_any _ _).mono ?_; rintro e w' ⟨rfl, rfl⟩) | (go_at_call 49; refine (isSex_any _ _).mono ?_; rintro e w' ⟨rfl, rfl⟩))
  go_loopw [10, 45] (fun v i wr => ∃ (k m : Nat) (D : Option Addr) (c : Nat), k ≤ n ∧ i = .int .i64 (k : Int) ∧ v = .slice D m c ∧ Hid (((ps.take k).filter (selB area (-1) sex)).length = m) ∧ wr.ownsRow w.heap.size 31 4 (.slice D m c) m (flat pf ((ps.take k).filter (selB area (-1) sex))) ∧ Below w.heap.size w wr) (fun _ i _ => n - (intOf i).toNat)
  case atStart => exact ⟨0, 0, none, 0, by omega, rfl, rfl, rfl, World.ownsRow_nil _ _ _ _, hb1⟩
  case round =>
    obtain ⟨k, m, D, c, hk, rfl, rfl, HM, hown, hb⟩ := hrel
    by_cases hlt : k < n
    · obtain ⟨ob, o, a, j, s, p, rfl, hbb, HX, c0, c1, c2, c3⟩ := ppl_at (hx.on hb) (k := k) (by have := HN.out; omega)
      have hmk : m ≤ k := by have := filt_le (selB area (-1) sex) ps k; have := HM.out; omega
      have q1 : m + 1 ≤ maxLen := by simp only [maxLen]; omega
      have q2 : (m + 1) * 32 ≤ 140737488355328 := by omega
      have k0 : (0 : Int) ≤ (k : Int) := by omega
      have k1 : (k : Int) < (n : Int) := by omega
      by_cases g0 : a = area
      rotate_left
      · skip
        have e0 : (a == area) = false := beq_eq_false_iff_ne.2 g0
        have HS := Lib.hid (filt_f HX.out (sel_f (area := area) (job := (-1)) (sex := sex) (.inl (by have := inB_iff.1 harea; simp only; omega))))
        clear g0
        have hown8 := hown.alloc (pbox a j s p)
        have HM8 : Hid (((ps.take (k + 1)).filter (selB area (-1) sex)).length = m) := by show _ = _; rw [HS.out]; exact HM.out
        rw [← HS.out] at hown8
        have hb8 := below_next hb (below_one wr (pbox a j s p))
        go_wp2_with fail
        go_roundw
        case rel => exact ⟨k + 1, m, D, c, by omega, by go_num, rfl, HM8, hown8, hb8⟩
        case measure => simp [intOf]; omega
      have e0 : (a == area) = true := beq_iff_eq.2 g0
      by_cases g2 : s = sex
      rotate_left
      · skip
        have e2 : (s == sex) = false := beq_eq_false_iff_ne.2 g2
        have HS := Lib.hid (filt_f HX.out (sel_f (area := area) (job := (-1)) (sex := sex) (.inr (.inr (by have := inB_iff.1 hsex; simp only; omega)))))
        clear g0 g2
        have hown8 := hown.alloc (pbox a j s p)
        have HM8 : Hid (((ps.take (k + 1)).filter (selB area (-1) sex)).length = m) := by show _ = _; rw [HS.out]; exact HM.out
        rw [← HS.out] at hown8
        have hb8 := below_next hb (below_one wr (pbox a j s p))
        go_wp2_with fail
        go_roundw
        case rel => exact ⟨k + 1, m, D, c, by omega, by go_num, rfl, HM8, hown8, hb8⟩
        case measure => simp [intOf]; omega
      have e2 : (s == sex) = true := beq_iff_eq.2 g2
      have HS := Lib.hid (filt_t HX.out (sel_t (area := area) (job := (-1)) (sex := sex) (.inr g0) (.inl rfl) (.inr g2)))
      clear g0 g2
      have hown2 := (hown.alloc (pbox a j s p)).alloc (pbox a j s p)
      have hsrc := src4_at (wr.alloc (pbox a j s p)) (wr.heap.size + 1) (by simp) a j s p
      have q3 : w.heap.size ≤ ((wr.alloc (pbox a j s p)).alloc (pbox a j s p)).heap.size := by have := hb.size; simp; omega
      go_wp2_with (at_builtin; refine wpList_append_src _ rfl _ _ 23 rfl w.heap.size 31 i9 (.agg #[.int .i64 0, .int .i64 0, .int .i64 0, .int .i64 0]) 4 32 Try.underlying23 hi0 hz0 hz1 hz2 rfl (by decide) _ m (flat pf _) rfl hown2 _ 1 _ _ rfl hsrc (pf_one _) q1 q2 q3 ?_)
      intro v' w8 hown8 hg8 _
      rw [flat_snoc, ← HS.out] at hown8
      obtain ⟨D8, c8, rfl⟩ := own_form hown8
      have hb8 : Below w.heap.size w w8 := (below_next hb (below_two wr (pbox a j s p) (pbox a j s p))).grown hg8 q3 (fun x e => (hown2.lt x e).1)
      have HM8 : Hid (((ps.take (k + 1)).filter (selB area (-1) sex)).length = m + 1) := by show _ = _; rw [HS.out, List.length_append, HM.out]; rfl
      clear hown2 hsrc hg8
      go_wp2_with fail
      go_roundw
      case rel => exact ⟨k + 1, m + 1, D8, c8, by omega, by go_num, rfl, HM8, hown8, hb8⟩
      case measure => simp [intOf]; omega
    · have HA : Hid ((ps.take k).filter (selB area (-1) sex) = ps.filter (selB area (-1) sex)) := by show _ = _; rw [List.take_of_length_le (by have := HN.out; omega)]
      rw [HA.out] at hown HM
      go_wp2_with fail
      go_ret2
      exact ⟨D, m, c, rfl, HM, hown, hb⟩
set_option maxHeartbeats 2000000 in
theorem sel_110 (A : Option Addr) (n cc : Nat) (ps : List Pn) (area : Int) (job : Int) (w : World) (hx : Recs pf 4 w w.heap.size A ps) (hn : ps.length = n) (hm : n ≤ 40) (hv : pvB ps = true) (harea : inB area 0 3 = true) (hjob : inB job 0 3 = true) :
    Calls Try.prog 40 #[.slice A n cc, .int .i64 area, .int .i64 job, .int .i64 (-1)] w (SelQ (ps.filter (selB area job (-1))) w) := by
  obtain ⟨i9, hi0, hz0, hz1, hz2⟩ := info_parts pn_info
  have HN := Lib.hid hn
  clear hn
  have narea : (area == -1) = false := beq_eq_false_iff_ne.2 (by have := inB_iff.1 harea; omega)
  have marea : (area != -1) = true := by simp only [bne, narea]; rfl
  have njob : (job == -1) = false := beq_eq_false_iff_ne.2 (by have := inB_iff.1 hjob; omega)
  have mjob : (job != -1) = true := by simp only [bne, njob]; rfl
  go_enter Try.func40, Try.ntmps40
  go_wp2_with fail
  refine (pvalid_any A n cc ps _ hx HN.out (by omega)).mono ?_
  rintro e w1 ⟨rfl, hb1⟩
  go_wp2_with (first | (go_at_call 48; refine (isCode_any _ _).mono ?_; rintro e w' ⟨rfl, rfl⟩) | (go_at_call 49; refine (isSex_any _ _).mono ?_; rintro e w' ⟨rfl, rfl⟩))
  go_loopw [10, 45] (fun v i wr => ∃ (k m : Nat) (D : Option Addr) (c : Nat), k ≤ n ∧ i = .int .i64 (k : Int) ∧ v = .slice D m c ∧ Hid (((ps.take k).filter (selB area job (-1))).length = m) ∧ wr.ownsRow w.heap.size 31 4 (.slice D m c) m (flat pf ((ps.take k).filter (selB area job (-1)))) ∧ Below w.heap.size w wr) (fun _ i _ => n - (intOf i).toNat)
  case atStart => exact ⟨0, 0, none, 0, by omega, rfl, rfl, rfl, World.ownsRow_nil _ _ _ _, hb1⟩
  case round =>
    obtain ⟨k, m, D, c, hk, rfl, rfl, HM, hown, hb⟩ := hrel
    by_cases hlt : k < n
    · obtain ⟨ob, o, a, j, s, p, rfl, hbb, HX, c0, c1, c2, c3⟩ := ppl_at (hx.on hb) (k := k) (by have := HN.out; omega)
      have hmk : m ≤ k := by have := filt_le (selB area job (-1)) ps k; have := HM.out; omega
      have q1 : m + 1 ≤ maxLen := by simp only [maxLen]; omega
      have q2 : (m + 1) * 32 ≤ 140737488355328 := by omega
      have k0 : (0 : Int) ≤ (k : Int) := by omega
      have k1 : (k : Int) < (n : Int) := by omega
      by_cases g0 : a = area
      rotate_left
      · skip
        have e0 : (a == area) = false := beq_eq_false_iff_ne.2 g0
        have HS := Lib.hid (filt_f HX.out (sel_f (area := area) (job := job) (sex := (-1)) (.inl (by have := inB_iff.1 harea; simp only; omega))))
        clear g0
        have hown8 := hown.alloc (pbox a j s p)
        have HM8 : Hid (((ps.take (k + 1)).filter (selB area job (-1))).length = m) := by show _ = _; rw [HS.out]; exact HM.out
        rw [← HS.out] at hown8
        have hb8 := below_next hb (below_one wr (pbox a j s p))
        go_wp2_with fail
        go_roundw
        case rel => exact ⟨k + 1, m, D, c, by omega, by go_num, rfl, HM8, hown8, hb8⟩
        case measure => simp [intOf]; omega
      have e0 : (a == area) = true := beq_iff_eq.2 g0
      by_cases g1 : j = job
      rotate_left
      · skip
        have e1 : (j == job) = false := beq_eq_false_iff_ne.2 g1
        have HS := Lib.hid (filt_f HX.out (sel_f (area := area) (job := job) (sex := (-1)) (.inr (.inl (by have := inB_iff.1 hjob; simp only; omega)))))
        clear g0 g1
        have hown8 := hown.alloc (pbox a j s p)
        have HM8 : Hid (((ps.take (k + 1)).filter (selB area job (-1))).length = m) := by show _ = _; rw [HS.out]; exact HM.out
        rw [← HS.out] at hown8
        have hb8 := below_next hb (below_one wr (pbox a j s p))
        go_wp2_with fail
        go_roundw
        case rel => exact ⟨k + 1, m, D, c, by omega, by go_num, rfl, HM8, hown8, hb8⟩
        case measure => simp [intOf]; omega
      have e1 : (j == job) = true := beq_iff_eq.2 g1
      have HS := Lib.hid (filt_t HX.out (sel_t (area := area) (job := job) (sex := (-1)) (.inr g0) (.inr g1) (.inl rfl)))
      clear g0 g1
      have hown2 := (hown.alloc (pbox a j s p)).alloc (pbox a j s p)
      have hsrc := src4_at (wr.alloc (pbox a j s p)) (wr.heap.size + 1) (by simp) a j s p
      have q3 : w.heap.size ≤ ((wr.alloc (pbox a j s p)).alloc (pbox a j s p)).heap.size := by have := hb.size; simp; omega
      go_wp2_with (at_builtin; refine wpList_append_src _ rfl _ _ 23 rfl w.heap.size 31 i9 (.agg #[.int .i64 0, .int .i64 0, .int .i64 0, .int .i64 0]) 4 32 Try.underlying23 hi0 hz0 hz1 hz2 rfl (by decide) _ m (flat pf _) rfl hown2 _ 1 _ _ rfl hsrc (pf_one _) q1 q2 q3 ?_)
      intro v' w8 hown8 hg8 _
      rw [flat_snoc, ← HS.out] at hown8
      obtain ⟨D8, c8, rfl⟩ := own_form hown8
      have hb8 : Below w.heap.size w w8 := (below_next hb (below_two wr (pbox a j s p) (pbox a j s p))).grown hg8 q3 (fun x e => (hown2.lt x e).1)
      have HM8 : Hid (((ps.take (k + 1)).filter (selB area job (-1))).length = m + 1) := by show _ = _; rw [HS.out, List.length_append, HM.out]; rfl
      clear hown2 hsrc hg8
      go_wp2_with fail
      go_roundw
      case rel => exact ⟨k + 1, m + 1, D8, c8, by omega, by go_num, rfl, HM8, hown8, hb8⟩
      case measure => simp [intOf]; omega
    · have HA : Hid ((ps.take k).filter (selB area job (-1)) = ps.filter (selB area job (-1))) := by show _ = _; rw [List.take_of_length_le (by have := HN.out; omega)]
      rw [HA.out] at hown HM
      go_wp2_with fail
      go_ret2
      exact ⟨D, m, c, rfl, HM, hown, hb⟩
set_option maxHeartbeats 2000000 in
theorem sel_111 (A : Option Addr) (n cc : Nat) (ps : List Pn) (area : Int) (job : Int) (sex : Int) (w : World) (hx : Recs pf 4 w w.heap.size A ps) (hn : ps.length = n) (hm : n ≤ 40) (hv : pvB ps = true) (harea : inB area 0 3 = true) (hjob : inB job 0 3 = true) (hsex : inB sex 0 1 = true) :
    Calls Try.prog 40 #[.slice A n cc, .int .i64 area, .int .i64 job, .int .i64 sex] w (SelQ (ps.filter (selB area job sex)) w) := by
  obtain ⟨i9, hi0, hz0, hz1, hz2⟩ := info_parts pn_info
  have HN := Lib.hid hn
  clear hn
  have narea : (area == -1) = false := beq_eq_false_iff_ne.2 (by have := inB_iff.1 harea; omega)
  have marea : (area != -1) = true := by simp only [bne, narea]; rfl
  have njob : (job == -1) = false := beq_eq_false_iff_ne.2 (by have := inB_iff.1 hjob; omega)
  have mjob : (job != -1) = true := by simp only [bne, njob]; rfl
  have nsex : (sex == -1) = false := beq_eq_false_iff_ne.2 (by have := inB_iff.1 hsex; omega)
  have msex : (sex != -1) = true := by simp only [bne, nsex]; rfl
  go_enter Try.func40, Try.ntmps40
  go_wp2_with fail
  refine (pvalid_any A n cc ps _ hx HN.out (by omega)).mono ?_
  rintro e w1 ⟨rfl, hb1⟩
  go_wp2_with (first | (go_at_call 48; refine (isCode_any _ _).mono ?_; rintro e w' ⟨rfl, rfl⟩) | (go_at_call 49; refine (isSex_any _ _).mono ?_; rintro e w' ⟨rfl, rfl⟩))
  go_loopw [10, 45] (fun v i wr => ∃ (k m : Nat) (D : Option Addr) (c : Nat), k ≤ n ∧ i = .int .i64 (k : Int) ∧ v = .slice D m c ∧ Hid (((ps.take k).filter (selB area job sex)).length = m) ∧ wr.ownsRow w.heap.size 31 4 (.slice D m c) m (flat pf ((ps.take k).filter (selB area job sex))) ∧ Below w.heap.size w wr) (fun _ i _ => n - (intOf i).toNat)
  case atStart => exact ⟨0, 0, none, 0, by omega, rfl, rfl, rfl, World.ownsRow_nil _ _ _ _, hb1⟩
  case round =>
    obtain ⟨k, m, D, c, hk, rfl, rfl, HM, hown, hb⟩ := hrel
    by_cases hlt : k < n
    · obtain ⟨ob, o, a, j, s, p, rfl, hbb, HX, c0, c1, c2, c3⟩ := ppl_at (hx.on hb) (k := k) (by have := HN.out; omega)
      have hmk : m ≤ k := by have := filt_le (selB area job sex) ps k; have := HM.out; omega
      have q1 : m + 1 ≤ maxLen := by simp only [maxLen]; omega
      have q2 : (m + 1) * 32 ≤ 140737488355328 := by omega
      have k0 : (0 : Int) ≤ (k : Int) := by omega
      have k1 : (k : Int) < (n : Int) := by omega
      by_cases g0 : a = area
      rotate_left
      · skip
        have e0 : (a == area) = false := beq_eq_false_iff_ne.2 g0
        have HS := Lib.hid (filt_f HX.out (sel_f (area := area) (job := job) (sex := sex) (.inl (by have := inB_iff.1 harea; simp only; omega))))
        clear g0
        have hown8 := hown.alloc (pbox a j s p)
        have HM8 : Hid (((ps.take (k + 1)).filter (selB area job sex)).length = m) := by show _ = _; rw [HS.out]; exact HM.out
        rw [← HS.out] at hown8
        have hb8 := below_next hb (below_one wr (pbox a j s p))
        go_wp2_with fail
        go_roundw
        case rel => exact ⟨k + 1, m, D, c, by omega, by go_num, rfl, HM8, hown8, hb8⟩
        case measure => simp [intOf]; omega
      have e0 : (a == area) = true := beq_iff_eq.2 g0
      by_cases g1 : j = job
      rotate_left
      · skip
        have e1 : (j == job) = false := beq_eq_false_iff_ne.2 g1
        have HS := Lib.hid (filt_f HX.out (sel_f (area := area) (job := job) (sex := sex) (.inr (.inl (by have := inB_iff.1 hjob; simp only; omega)))))
        clear g0 g1
        have hown8 := hown.alloc (pbox a j s p)
        have HM8 : Hid (((ps.take (k + 1)).filter (selB area job sex)).length = m) := by show _ = _; rw [HS.out]; exact HM.out
        rw [← HS.out] at hown8
        have hb8 := below_next hb (below_one wr (pbox a j s p))
        go_wp2_with fail
        go_roundw
        case rel => exact ⟨k + 1, m, D, c, by omega, by go_num, rfl, HM8, hown8, hb8⟩
        case measure => simp [intOf]; omega
      have e1 : (j == job) = true := beq_iff_eq.2 g1
      by_cases g2 : s = sex
      rotate_left
      · skip
        have e2 : (s == sex) = false := beq_eq_false_iff_ne.2 g2
        have HS := Lib.hid (filt_f HX.out (sel_f (area := area) (job := job) (sex := sex) (.inr (.inr (by have := inB_iff.1 hsex; simp only; omega)))))
        clear g0 g1 g2
        have hown8 := hown.alloc (pbox a j s p)
        have HM8 : Hid (((ps.take (k + 1)).filter (selB area job sex)).length = m) := by show _ = _; rw [HS.out]; exact HM.out
        rw [← HS.out] at hown8
        have hb8 := below_next hb (below_one wr (pbox a j s p))
        go_wp2_with fail
        go_roundw
        case rel => exact ⟨k + 1, m, D, c, by omega, by go_num, rfl, HM8, hown8, hb8⟩
        case measure => simp [intOf]; omega
      have e2 : (s == sex) = true := beq_iff_eq.2 g2
      have HS := Lib.hid (filt_t HX.out (sel_t (area := area) (job := job) (sex := sex) (.inr g0) (.inr g1) (.inr g2)))
      clear g0 g1 g2
      have hown2 := (hown.alloc (pbox a j s p)).alloc (pbox a j s p)
      have hsrc := src4_at (wr.alloc (pbox a j s p)) (wr.heap.size + 1) (by simp) a j s p
      have q3 : w.heap.size ≤ ((wr.alloc (pbox a j s p)).alloc (pbox a j s p)).heap.size := by have := hb.size; simp; omega
      go_wp2_with (at_builtin; refine wpList_append_src _ rfl _ _ 23 rfl w.heap.size 31 i9 (.agg #[.int .i64 0, .int .i64 0, .int .i64 0, .int .i64 0]) 4 32 Try.underlying23 hi0 hz0 hz1 hz2 rfl (by decide) _ m (flat pf _) rfl hown2 _ 1 _ _ rfl hsrc (pf_one _) q1 q2 q3 ?_)
      intro v' w8 hown8 hg8 _
      rw [flat_snoc, ← HS.out] at hown8
      obtain ⟨D8, c8, rfl⟩ := own_form hown8
      have hb8 : Below w.heap.size w w8 := (below_next hb (below_two wr (pbox a j s p) (pbox a j s p))).grown hg8 q3 (fun x e => (hown2.lt x e).1)
      have HM8 : Hid (((ps.take (k + 1)).filter (selB area job sex)).length = m + 1) := by show _ = _; rw [HS.out, List.length_append, HM.out]; rfl
      clear hown2 hsrc hg8
      go_wp2_with fail
      go_roundw
      case rel => exact ⟨k + 1, m + 1, D8, c8, by omega, by go_num, rfl, HM8, hown8, hb8⟩
      case measure => simp [intOf]; omega
    · have HA : Hid ((ps.take k).filter (selB area job sex) = ps.filter (selB area job sex)) := by show _ = _; rw [List.take_of_length_le (by have := HN.out; omega)]
      rw [HA.out] at hown HM
      go_wp2_with fail
      go_ret2
      exact ⟨D, m, c, rfl, HM, hown, hb⟩
theorem code_or {v hi : Int} (h0 : -1 ≤ v) (h1 : v ≤ hi) : v = -1 ∨ inB v 0 hi = true := by
  rcases Int.lt_or_le v 0 with h | h
  · exact .inl (by omega)
  · exact .inr (inB_t h h1)
theorem sel_any (A : Option Addr) (n cc : Nat) (ps : List Pn) (area job sex : Int) (w : World) (hx : Recs pf 4 w w.heap.size A ps) (hn : ps.length = n) (hm : n ≤ 40) (hv : pvB ps = true) (h1 : area = -1 ∨ inB area 0 3 = true) (h2 : job = -1 ∨ inB job 0 3 = true) (h3 : sex = -1 ∨ inB sex 0 1 = true) :
    Calls Try.prog 40 #[.slice A n cc, .int .i64 area, .int .i64 job, .int .i64 sex] w (SelQ (ps.filter (selB area job sex)) w) := by
  rcases h1 with rfl | h1 <;> rcases h2 with rfl | h2 <;> rcases h3 with rfl | h3
  · exact sel_000 A n cc ps  w hx hn hm hv 
  · exact sel_001 A n cc ps sex w hx hn hm hv h3
  · exact sel_010 A n cc ps job w hx hn hm hv h2
  · exact sel_011 A n cc ps job sex w hx hn hm hv h2 h3
  · exact sel_100 A n cc ps area w hx hn hm hv h1
  · exact sel_101 A n cc ps area sex w hx hn hm hv h1 h3
  · exact sel_110 A n cc ps area job w hx hn hm hv h1 h2
  · exact sel_111 A n cc ps area job sex w hx hn hm hv h1 h2 h3
set_option maxHeartbeats 400000 in
/-- impl.PeopleMany. -/
theorem many_any (A : Option Addr) (n cc : Nat) (ps : List Pn) (area job sex : Int) (w : World) (hx : Recs pf 4 w w.heap.size A ps) (hn : ps.length = n) (hm : n ≤ 40) (hv : pvB ps = true) (h1 : area = -1 ∨ inB area 0 3 = true) (h2 : job = -1 ∨ inB job 0 3 = true) (h3 : sex = -1 ∨ inB sex 0 1 = true) :
    Calls Try.prog 23 #[.slice A n cc, .int .i64 area, .int .i64 job, .int .i64 sex] w fun e w' => e = .returned (.int .i64 ((ps.countP (selB area job sex) : Nat) : Int)) ∧ Below w.heap.size w w' := by
  have HN := Lib.hid hn
  clear hn
  go_enter Try.func23, Try.ntmps23
  go_wp2_with fail
  refine (sel_any A n cc ps area job sex _ hx HN.out hm hv h1 h2 h3).mono ?_
  rintro e w1 ⟨D, m, c, rfl, HM, hown, hb⟩
  have HC : Hid (ps.countP (selB area job sex) = m) := by show _ = _; rw [List.countP_eq_length_filter]; exact HM.out
  go_wp2_with fail
  go_ret
  exact ⟨ret_int (by rw [HC.out]), hb⟩
/-- The pays of some people. -/
def payS (xs : List Pn) : Int := (xs.map (·.pay)).sum
theorem payS_snoc (xs : List Pn) (x : Pn) : payS (xs ++ [x]) = payS xs + x.pay := by simp [payS]
theorem payS_pays (q : Pn → Bool) (ps : List Pn) : payS (ps.filter q) = pays q ps := by
  induction ps with
  | nil => rfl
  | cons x xs ih =>
    by_cases h : q x = true
    · rw [List.filter_cons_of_pos h]; simp only [payS, List.map_cons, List.sum_cons, pays, h, if_true] at ih ⊢; rw [ih]
    · rw [List.filter_cons_of_neg h]; simp only [pays, h] at ih ⊢; rw [ih]; simp
theorem payS_bd {xs : List Pn} (h : ∀ p ∈ xs, pnP p) : 0 ≤ payS xs ∧ payS xs ≤ 999 * xs.length := by
  induction xs with
  | nil => simp [payS]
  | cons x xs ih =>
    have hx := h x (by simp)
    have ih := ih (fun p hp => h p (by simp [hp]))
    obtain ⟨_, _, _, h4, h5⟩ := hx
    simp only [payS, List.map_cons, List.sum_cons, List.length_cons] at ih ⊢
    omega
theorem payS_take {xs : List Pn} {k : Nat} {x : Pn} (hk : xs[k]? = some x) : payS (xs.take (k + 1)) = payS (xs.take k) + x.pay := by rw [take_next hk, payS_snoc]
set_option maxHeartbeats 1000000 in
/-- impl.PeoplePay. -/
theorem pay_any (A : Option Addr) (n cc : Nat) (ps : List Pn) (area job sex : Int) (w : World) (hx : Recs pf 4 w w.heap.size A ps) (hn : ps.length = n) (hm : n ≤ 40) (hv : pvB ps = true) (h1 : area = -1 ∨ inB area 0 3 = true) (h2 : job = -1 ∨ inB job 0 3 = true) (h3 : sex = -1 ∨ inB sex 0 1 = true) :
    Calls Try.prog 24 #[.slice A n cc, .int .i64 area, .int .i64 job, .int .i64 sex] w fun e w' => e = .returned (.int .i64 (pays (selB area job sex) ps)) ∧ Below w.heap.size w w' := by
  have HN := Lib.hid hn
  clear hn
  go_enter Try.func24, Try.ntmps24
  go_wp2_with fail
  refine (sel_any A n cc ps area job sex _ hx HN.out hm hv h1 h2 h3).mono ?_
  rintro e w1 ⟨D, m, c, rfl, HM, hown, hb⟩
  have HV : Hid (∀ p ∈ ps.filter (selB area job sex), pnP p) := fun p hp => (pvB_iff.1 hv).2 p (List.mem_filter.1 hp).1
  have hm40 : m ≤ 40 := by have := List.length_filter_le (selB area job sex) ps; have := HM.out; have := HN.out; omega
  have HP := Lib.hid (payS_pays (selB area job sex) ps)
  generalize ps.filter (selB area job sex) = xs at *
  have r := (Recs.of_own pf_len hown (by omega)).2
  clear hown
  go_wp2_with fail
  go_loopw [11, 26] (fun v i wr => ∃ k : Nat, k ≤ m ∧ i = .int .i64 (k : Int) ∧ v = .int .i64 (payS (xs.take k)) ∧ Below w1.heap.size w1 wr) (fun _ i _ => m - (intOf i).toNat)
  case atStart => exact ⟨0, by omega, rfl, rfl, Below.refl _ _⟩
  case round =>
    obtain ⟨k, hk, rfl, rfl, hB⟩ := hrel
    by_cases hlt : k < m
    · obtain ⟨ob, o, a, j, s, p, rfl, hbb, HX, c0, c1, c2, c3⟩ := ppl_at (r.on hB) (k := k) (by have := HM.out; omega)
      have b1 := payS_bd (xs := xs.take k) (fun p hp => HV.out p (List.mem_of_mem_take hp))
      have b2 := List.length_take_le k xs
      obtain ⟨_, _, _, p0, p1⟩ := HV.out _ (mem_of_at HX.out)
      simp only at p0 p1
      have b3 : 0 ≤ payS (xs.take k) ∧ payS (xs.take k) ≤ 40000 := by omega
      obtain ⟨b3, b4⟩ := b3
      clear b1
      have HS := Lib.hid (payS_take HX.out)
      have hB1 := below_next hB (below_one wr (pbox a j s p))
      have k0 : (0 : Int) ≤ (k : Int) := by omega
      have k1 : (k : Int) < (m : Int) := by omega
      go_wp2_with fail
      go_roundw
      case rel => exact ⟨k + 1, by omega, by go_num, by rw [HS.out], hB1⟩
      case measure => simp [intOf]; omega
    · have HE : Hid (payS (xs.take k) = payS xs) := by show _ = _; rw [List.take_of_length_le (by have := HM.out; omega)]
      go_wp2_with fail
      go_ret
      exact ⟨ret_int (by rw [HE.out, HP.out]), below_next hb hB⟩
end Go.Proofs.Ytdoomakadnfddaa
