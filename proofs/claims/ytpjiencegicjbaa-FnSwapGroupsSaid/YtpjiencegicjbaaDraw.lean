/-
  People and two indexes that are drawn out of a code: l93Alike, DrawSwapOk, DrawSwapDo; nothing that was there turns.
-/
import Derived.Test.YtpjiencegicjbaaPeople
namespace Go.Proofs.Ytpjiencegicjbaa
open Go.RowKit
attribute [local go_sem ↓] Go.wp_at_zero Go.wp_at_succ

/-- What l93Alike leaves. -/
def AlikeQ (g : Nat) (A : Option Addr) (len cap M : Nat) (w : World) (e : Ending) (w' : World) : Prop :=
  ∃ (D : Option Addr) (n c : Nat) (ps : List Pn), e = .returned (.slice D n c) ∧ n ≤ 8 ∧ PInv g A len cap w w' (M + 200) D n c ps
theorem set_at {ps : List Pn} {i : Nat} {x y : Pn} (h : ps[i]? = some x) : (ps.set i y)[i]? = some y := List.getElem?_set_self (lt_of_at h)
set_option maxHeartbeats 2000000 in
theorem alike_any (g : Nat) (A : Option Addr) (len cap M : Nat) (w : World) (hr : Rd w g A len cap M) (hM : M ≤ 700000) :
    Calls Try.prog 49 #[.pointer (some ⟨g, 0, none⟩)] w (AlikeQ g A len cap M w) := by
  have hgw := hr.lt
  go_enter Try.func49, Try.ntmps49
  go_wp2_with fail
  refine (people_any g A len cap M _ hr (by omega)).mono ?_
  rintro e w1 ⟨D, n, c, ps, rfl, hn8, hI⟩
  go_wp2_with fail
  go_loopw [4] (fun i wr => ∃ (t : Nat) (ps : List Pn), t ≤ n ∧ i = .int .i64 (t : Int) ∧ PInv g A len cap w wr (M + 100 + t) D n c ps) (fun i _ => n - (intOf i).toNat)
  case atStart => exact ⟨0, ps, by omega, rfl, hI⟩
  case round =>
    clear hI
    obtain ⟨t, ps, ht, rfl, hI⟩ := hrel
    by_cases htl : t < n
    · go_wp2_with fail
      refine (pick_any g A len cap _ _ _ hI.rd (by omega)).mono ?_
      rintro e w2 ⟨r, rfl, r0, r1, -, hr2, hg2, -⟩
      have hI := hI.pick hgw hr2 hg2
      clear hr2 hg2
      by_cases hz : r = 0
      · subst hz
        obtain ⟨b, xa, xj, xs, xp, rfl, hb0, hb1, HX, ⟨-, c1, c2, -⟩, -, f1, f2, -⟩ := own_at hI.own (i := t) (by omega)
        have hI := (hI.put (q := 1) (y := ⟨xa, 1, xs, xp⟩) (u := .int .i64 1) hgw HX.out (by omega) rfl).put (q := 2) (y := ⟨xa, 1, 0, xp⟩) (u := .int .i64 0) hgw (set_at HX.out) (by omega) rfl
        have i1 : (0 : Int) ≤ (t : Int) := by omega
        have i2 : (t : Int) < (n : Int) := by omega
        go_wp2_with fail
        go_roundw
        case rel => exact ⟨t + 1, _, by omega, by go_num, hI⟩
        case measure => simp [intOf]; omega
      · have hz' : (r == 0) = false := beq_eq_false_iff_ne.2 hz
        go_wp2_with fail
        go_roundw
        case rel => exact ⟨t + 1, _, by omega, by go_num, hI⟩
        case measure => simp [intOf]; omega
    · have hJ := hI.more (M' := M + 200) (by omega)
      go_wp2_with fail
      go_ret
      exact ⟨D, n, c, _, rfl, hn8, hJ⟩

/-- People as a value: of their own, from B on. -/
def PplV (w : World) (B : Nat) (D : Option Addr) (n c : Nat) (ps : List Pn) : Prop :=
  n ≤ 8 ∧ Hid (ps.length = n) ∧ w.ownsRow B 51 4 (.slice D n c) n (flat pf ps)
section
variable {w w' : World} {B B' : Nat} {D : Option Addr} {n c : Nat} {ps : List Pn}
theorem PplV.on (h : PplV w B D n c ps) (hb : Below w.heap.size w w') : PplV w' B D n c ps := ⟨h.1, h.2.1, own_below h.2.2 hb⟩
theorem PplV.recs (h : PplV w B D n c ps) : Recs pf 4 w w.heap.size D ps := (Recs.of_own pf_len h.2.2 (by omega)).2
theorem PplV.caps (h : PplV w B D n c ps) : n ≤ c ∧ c ≤ maxLen := own_caps h.2.2
end
section
variable {A : Option Addr} {len cap : Nat} {w w1 wr : World} {M : Nat} {D : Option Addr} {n c : Nat} {ps : List Pn}
theorem PInv.done (h : PInv w.heap.size A len cap w1 wr M D n c ps) (hb : Below w.heap.size w w1) : Below w.heap.size w wr := hb.grown h.kp hb.size (fun k e => by injection e with e; omega)
theorem PInv.val (h : PInv w.heap.size A len cap w1 wr M D n c ps) (hb : Below w.heap.size w w1) (hn : n ≤ 8) : PplV wr w.heap.size D n c ps := ⟨hn, h.leng, own_base h.own hb.size⟩
end
/-- What DrawSwapOk leaves. -/
def DrawQ (w : World) (e : Ending) (w' : World) : Prop :=
  ∃ (D : Option Addr) (n c : Nat) (ps : List Pn) (a b : Int), e = .returned (.tuple #[.slice D n c, .int .i64 a, .int .i64 b]) ∧ PplV w' w.heap.size D n c ps ∧ Below w.heap.size w w'
set_option maxHeartbeats 4000000 in
theorem drawok_any (a0 : Option Addr) (len0 cap0 : Nat) (zs : List Int) (w : World) (h : IsRow8 w a0 len0 cap0 zs) :
    Calls Try.prog 42 #[.slice a0 len0 cap0] w (DrawQ w) := by
  go_enter Try.func42, Try.ntmps42
  go_wp2_with fail
  refine (open_any a0 len0 cap0 zs _ h).mono ?_
  rintro e w1 ⟨A, len, cap, rfl, hr1, hb1, hs1⟩
  have hgw : w.heap.size < w1.heap.size := by omega
  clear hs1
  go_wp2_with fail
  refine (alike_any w.heap.size A len cap 0 _ hr1 (by omega)).mono ?_
  rintro e w2 ⟨D, n, c, ps, rfl, hn8, hI⟩
  by_cases hn0 : n = 0
  · subst hn0
    have hD := hI.done hb1
    have hV := hI.val hb1 hn8
    go_wp2_with fail
    go_ret3
    exact ⟨D, 0, c, ps, _, _, rfl, hV, hD⟩
  have hn1 : ((n : Int) == 0) = false := beq_eq_false_iff_ne.2 (by omega)
  go_wp2_with fail
  refine (pick_any w.heap.size A len cap _ _ _ hI.rd (by omega)).mono ?_
  rintro e w3 ⟨a, rfl, -, -, -, hr3, hg3, -⟩
  have hI := hI.pick hgw hr3 hg3
  clear hr3 hg3
  go_wp2_with fail
  refine (pick_any w.heap.size A len cap _ _ _ hI.rd (by omega)).mono ?_
  rintro e w4 ⟨b, rfl, -, -, -, hr4, hg4, -⟩
  have hI := hI.pick hgw hr4 hg4
  clear hr4 hg4
  go_wp2_with fail
  refine (pick_any w.heap.size A len cap _ _ _ hI.rd (by omega)).mono ?_
  rintro e w5 ⟨x, rfl, -, -, -, hr5, hg5, -⟩
  have hI := hI.pick hgw hr5 hg5
  clear hr5 hg5
  by_cases hx : x = 0
  · subst hx
    go_wp2_with fail
    go_loopw [8, 9] (fun v i wr => ∃ (t : Nat) (b : Int), t ≤ n ∧ i = .int .i64 (t : Int) ∧ v = .int .i64 b ∧ PInv w.heap.size A len cap w1 wr (0 + 200 + 1 + 1 + 1) D n c ps) (fun _ i _ => n - (intOf i).toNat)
    case atStart => exact ⟨0, b, by omega, rfl, rfl, hI⟩
    case round =>
      clear hI
      obtain ⟨t, b, ht, rfl, rfl, hI⟩ := hrel
      by_cases htl : t < n
      · go_wp2_with fail
        refine (sswapok_any D n c ps _ _ _ hI.recs hI.leng.out (by omega)).mono ?_
        rintro e w6 ⟨rfl, hb6⟩
        have hI := hI.below hb6
        clear hb6
        cases hs : soB ps a (t : Int)
        · go_wp2_with fail
          go_roundw
          case rel => exact ⟨t + 1, _, by omega, by go_num, rfl, hI⟩
          case measure => simp [intOf]; omega
        · go_wp2_with fail
          go_roundw
          case rel => exact ⟨t + 1, _, by omega, by go_num, rfl, hI⟩
          case measure => simp [intOf]; omega
      · skip
        go_wp2_with fail
        refine (pick_any w.heap.size A len cap _ _ _ hI.rd (by omega)).mono ?_
        rintro e w7 ⟨s, rfl, s0, s1, -, hr7, hg7, -⟩
        have hI := hI.pick hgw hr7 hg7
        clear hr7 hg7
        by_cases e0 : s = 0
        · subst e0
          go_wp2_with fail
          refine (pick_any w.heap.size A len cap _ _ _ (hI.alloc _).rd (by omega)).mono ?_
          rintro e w8 ⟨r, rfl, r0, r1, -, hr8, hg8, -⟩
          have r1 := r1 (by omega)
          obtain ⟨r, rfl⟩ := Int.eq_ofNat_of_zero_le r0
          obtain ⟨z, -, h1, h2⟩ := two_at (-1) (n : Int) r (by omega)
          have hc := cell_laid hg8 (by have := hI.kp.size; omega) h1
          have hI := (hI.alloc _).pick hgw hr8 hg8
          clear hr8 hg8
          have hD := hI.done hb1
          have hV := hI.val hb1 hn8
          go_wp2_with fail
          go_ret3
          exact ⟨D, n, c, ps, _, _, rfl, hV, hD⟩
        · have e0' : (s == 0) = false := beq_eq_false_iff_ne.2 e0
          have hD := hI.done hb1
          have hV := hI.val hb1 hn8
          go_wp2_with fail
          go_ret3
          exact ⟨D, n, c, ps, _, _, rfl, hV, hD⟩
  · have hx' : (x == 0) = false := beq_eq_false_iff_ne.2 hx
    go_wp2_with fail
    refine (pick_any w.heap.size A len cap _ _ _ hI.rd (by omega)).mono ?_
    rintro e w7 ⟨s, rfl, s0, s1, -, hr7, hg7, -⟩
    have hI := hI.pick hgw hr7 hg7
    clear hr7 hg7
    by_cases e0 : s = 0
    · subst e0
      go_wp2_with fail
      refine (pick_any w.heap.size A len cap _ _ _ (hI.alloc _).rd (by omega)).mono ?_
      rintro e w8 ⟨r, rfl, r0, r1, -, hr8, hg8, -⟩
      have r1 := r1 (by omega)
      obtain ⟨r, rfl⟩ := Int.eq_ofNat_of_zero_le r0
      obtain ⟨z, -, h1, h2⟩ := two_at (-1) (n : Int) r (by omega)
      have hc := cell_laid hg8 (by have := hI.kp.size; omega) h1
      have hI := (hI.alloc _).pick hgw hr8 hg8
      clear hr8 hg8
      have hD := hI.done hb1
      have hV := hI.val hb1 hn8
      go_wp2_with fail
      go_ret3
      exact ⟨D, n, c, ps, _, _, rfl, hV, hD⟩
    · have e0' : (s == 0) = false := beq_eq_false_iff_ne.2 e0
      have hD := hI.done hb1
      have hV := hI.val hb1 hn8
      go_wp2_with fail
      go_ret3
      exact ⟨D, n, c, ps, _, _, rfl, hV, hD⟩
set_option maxHeartbeats 400000 in
theorem drawdo_any (a0 : Option Addr) (len0 cap0 : Nat) (zs : List Int) (w : World) (h : IsRow8 w a0 len0 cap0 zs) :
    Calls Try.prog 25 #[.slice a0 len0 cap0] w (DrawQ w) := by
  go_enter Try.func25, Try.ntmps25
  go_wp2_with fail
  refine (drawok_any a0 len0 cap0 zs _ h).mono ?_
  rintro e w1 ⟨D, n, c, ps, a, b, rfl, hV, hb⟩
  go_wp2_with fail
  go_ret3
  exact ⟨D, n, c, ps, a, b, rfl, hV, hb⟩
end Go.Proofs.Ytpjiencegicjbaa
