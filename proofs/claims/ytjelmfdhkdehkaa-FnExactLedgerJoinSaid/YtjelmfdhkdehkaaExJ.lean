/-
  FnExactLedgerJoin: the walk of this law.
-/
import Derived.Test.YtjelmfdhkdehkaaJoinS
namespace Go.Proofs.Ytjelmfdhkdehkaa
open Go.RowKit
attribute [local go_sem ↓] Go.wp_at_zero Go.wp_at_succ

/-- What the statement that joins leaves. -/
def RJ (rb : Int) (rs : List (Int × Int)) (nr : Nat) (ok : Bool) (W : World) (s6 s7 : Value) (wx : World) : Prop :=
  ∃ (g : Nat) (D : Option Addr) (c : Nat), s6 = .pointer (some ⟨g, 0, none⟩) ∧ s7 = .bool ok ∧ EB wx 25 g rb (.slice D nr c) ∧ wx.ownsRow W.heap.size 52 2 (.slice D nr c) nr (flat ef rs) ∧ Below W.heap.size W wx
theorem rj_2 {rb : Int} {rs : List (Int × Int)} {nr c : Nat} {ok : Bool} {W w : World} {D : Option Addr} (ho : w.ownsRow W.heap.size 52 2 (.slice D nr c) nr (flat ef rs)) (hb : Below W.heap.size W w) : RJ rb rs nr ok W (.pointer (some ⟨w.heap.size, 0, none⟩)) (.bool ok) (w.alloc (.cells #[.int .i64 rb, .slice D nr c] 25)) :=
  ⟨w.heap.size, D, c, rfl, rfl, EB.new _ _ _ _, ho.alloc _, hb.alloc hb.size _⟩
theorem rj_1 {rb b : Int} {v : Value} {rs : List (Int × Int)} {nr c g : Nat} {ok : Bool} {W w : World} {D : Option Addr} (h : EB w 25 g b v) (ho : w.ownsRow W.heap.size 52 2 (.slice D nr c) nr (flat ef rs)) (hb : Below W.heap.size W w) (hg : W.heap.size ≤ g) : RJ rb rs nr ok W (.pointer (some ⟨g, 0, none⟩)) (.bool ok) ((w.setCell ⟨g, 0, none⟩ (.int .i64 rb)).setCell ⟨g, 1, none⟩ (.slice D nr c)) := by
  have h1 : EB (w.setCell ⟨g, 0, none⟩ (.int .i64 rb)) 25 g rb v := heap_setCell_same w g 0 _ _ (.int .i64 rb) h
  have h2 : EB ((w.setCell ⟨g, 0, none⟩ (.int .i64 rb)).setCell ⟨g, 1, none⟩ (.slice D nr c)) 25 g rb (.slice D nr c) := heap_setCell_same (w.setCell ⟨g, 0, none⟩ (.int .i64 rb)) g 1 _ _ (.slice D nr c) h1
  exact ⟨g, D, c, rfl, rfl, h2, own_store (own_store ho h (by decide)) h1 (by decide), (hb.setCell hg _).setCell hg _⟩

set_option maxRecDepth 100000 in
set_option maxHeartbeats 4000000 in
/-- laws.FnExactLedgerJoin. -/
theorem fnExactLedgerJoin_walk (b0 : Int) (a0 : Option Addr) (n0 cap0 : Nat) (p0 : List (Int × Int)) (b1 : Int) (a1 : Option Addr) (n1 cap1 : Nat) (p1 : List (Int × Int)) (w : World) (h0 : IsRecsEntry w a0 n0 cap0 p0) (h1 : IsRecsEntry w a1 n1 cap1 p1) :
    Calls Try.prog 10 #[.agg #[.int .i64 b0, .slice a0 n0 cap0], .agg #[.int .i64 b1, .slice a1 n1 cap1]] w fun e w' => e = .returned (.bool true) ∧ Below w.heap.size w w' := by
  obtain ⟨hl0, hc0, hm0, i0⟩ := h0
  have HL0 := Lib.hid hl0
  have hm0 := len_max hm0
  clear hl0
  obtain ⟨hl1, hc1, hm1, i1⟩ := h1
  have HL1 := Lib.hid hl1
  have hm1 := len_max hm1
  clear hl1
  obtain ⟨W0, HW0⟩ : ∃ W, Hid (((w.alloc (.cells #[.int .i64 b0, .slice a0 n0 cap0] 36)).alloc (.cells #[.int .i64 b1, .slice a1 n1 cap1] 36)) = W) := ⟨_, Lib.hid rfl⟩
  have hBW : Below w.heap.size w W0 := by rw [← HW0.out]; exact below_two _ _ _
  have bxi0 : EB W0 36 w.heap.size b0 (.slice a0 n0 cap0) := by rw [← HW0.out]; exact (EB.new w 36 b0 (.slice a0 n0 cap0)).alloc (.cells #[.int .i64 b1, .slice a1 n1 cap1] 36)
  have i0 : Recs ef 2 W0 W0.heap.size a0 p0 := i0.on hBW
  have bxi1 : EB W0 36 (w.heap.size + 1) b1 (.slice a1 n1 cap1) := by rw [← HW0.out]; exact by have := EB.new (w.alloc (.cells #[.int .i64 b0, .slice a0 n0 cap0] 36)) 36 b1 (.slice a1 n1 cap1); simpa using this
  have i1 : Recs ef 2 W0 W0.heap.size a1 p1 := i1.on hBW
  have hW0s : w.heap.size + 2 ≤ W0.heap.size := by rw [← HW0.out]; simp
  have hB := Below.refl W0.heap.size W0
  go_enter Try.func10, Try.ntmps10
  go_wp2_with fail
  rw [HW0.out]
  refine (szl_any b0 a0 n0 cap0 _ _ (by omega) (by omega) (by omega)).mono ?_
  rintro e w1 ⟨rfl, hb⟩
  have hB := below_next hB hb
  have bxi0 := bxi0.below hb
  have bxi1 := bxi1.below hb
  clear hb
  obtain ⟨pi00, pi01, -, -⟩ := bxi0.facts
  obtain ⟨pi10, pi11, -, -⟩ := bxi1.facts
  by_cases s0 : (n0 : Int) ≤ 1048576
  rotate_left
  · rw [if_neg s0]
    go_wp2_with fail
    go_ret
    exact ⟨rfl, hBW.trans (hB.mono hBW.size)⟩
  rw [if_pos s0]
  go_wp2_with fail
  refine (szl_any b1 a1 n1 cap1 _ _ (by omega) (by omega) (by omega)).mono ?_
  rintro e w2 ⟨rfl, hb⟩
  have hB := below_next hB hb
  have bxi0 := bxi0.below hb
  have bxi1 := bxi1.below hb
  clear hb
  clear pi00 pi01 pi10 pi11
  obtain ⟨pi00, pi01, -, -⟩ := bxi0.facts
  obtain ⟨pi10, pi11, -, -⟩ := bxi1.facts
  by_cases s1 : (n1 : Int) ≤ 1048576 - n0
  rotate_left
  · rw [if_neg s1]
    go_wp2_with fail
    go_ret
    exact ⟨rfl, hBW.trans (hB.mono hBW.size)⟩
  rw [if_pos s1]
  obtain ⟨rb, rs, ok, hres⟩ : ∃ rb rs ok, joinR b0 p0 b1 p1 = (rb, rs, ok) := ⟨_, _, _, rfl⟩
  obtain ⟨nr, hnr⟩ : ∃ nr, rs.length = nr := ⟨_, rfl⟩
  have HR := Lib.hid hres
  have HN := Lib.hid hnr
  have h40 : nr ≤ 40 := by have := joinR_len hres; omega
  clear hres hnr
  have okk : (ok != ok) = false := by simp
  have hxa := i0.on hB
  have hxb := i1.on hB
  go_upto_region 8 with fail
  go_cut [6, 7] (fun s6 s7 wx => RJ rb rs nr ok w2 s6 s7 wx)
  case first =>
    have hz0 := hB.size
    have hzw := hW0s
    go_region_held3 (fun w' => w'.cell? ⟨w.heap.size, 0, none⟩ = some (.int .i64 b0) ∧ w'.cell? ⟨w.heap.size, 1, none⟩ = some (.slice a0 n0 cap0) ∧ w'.cell? ⟨w.heap.size + 1, 0, none⟩ = some (.int .i64 b1) ∧ w'.cell? ⟨w.heap.size + 1, 1, none⟩ = some (.slice a1 n1 cap1)) (first | (go_keep; done) | exact keep_far4 (by assumption) (by assumption) (by assumption) (by assumption) (by omega) (by omega) | exact keep_below4 bxi0 bxi1 (((Below.refl w2.heap.size w2).alloc (Nat.le_refl _) _).drew) (by have := hBW.size; omega) (by omega) | exact keep_below4 bxi0 bxi1 ((Below.refl w2.heap.size w2).alloc (Nat.le_refl _) _) (by omega) (by omega) | exact keep_below4 qa3 qb3 ((Below.refl v3.heap.size v3).alloc (Nat.le_refl _) _) (by omega) (by omega) | exact keep_below4 qa2 qb2 ((Below.refl v2.heap.size v2).alloc (Nat.le_refl _) _) (by omega) (by omega) | exact keep_below4 qa1 qb1 ((Below.refl v1.heap.size v1).alloc (Nat.le_refl _) _) (by omega) (by omega))
      (first
        | (go_at_call 18
           with_reducible show Calls _ _ #[.agg #[.int .i64 b0, .slice a0 n0 cap0]] (w2.drew) _
           refine (toled_any b0 a0 n0 cap0 p0 _ (hxa.on ((Below.refl w2.heap.size w2).trans (((Below.refl w2.heap.size w2).drew).mono (Below.refl w2.heap.size w2).size))) HL0.out (by omega)).mono ?_
           rintro e v1 ⟨E1, k1, rfl, hown, hb⟩
           have hs1 := ((Below.refl w2.heap.size w2).drew).trans (hb.mono ((Below.refl w2.heap.size w2).drew).size)
           have o1 := own_base hown (base' := w2.heap.size) ((Below.refl w2.heap.size w2).trans (((Below.refl w2.heap.size w2).drew).mono (Below.refl w2.heap.size w2).size)).size
           have hV1 := (Below.refl w2.heap.size w2).trans (hs1.mono (Below.refl w2.heap.size w2).size)
           (first | (obtain ⟨t0, t1, t2, t3⟩ := h6.facts) | skip)
           have qa1 := bxi0.below hV1
           have qb1 := bxi1.below hV1
           obtain ⟨y0, y1, -, -⟩ := qa1.facts
           obtain ⟨z0, z1, -, -⟩ := qb1.facts
           have hz1 := hV1.size
           clear hb hown)
        | (go_at_call 18
           with_reducible show Calls _ _ #[.agg #[.int .i64 b0, .slice a0 n0 cap0]] w2 _
           refine (toled_any b0 a0 n0 cap0 p0 _ (hxa.on ((Below.refl w2.heap.size w2).trans ((Below.refl w2.heap.size w2).mono (Below.refl w2.heap.size w2).size))) HL0.out (by omega)).mono ?_
           rintro e v1 ⟨E1, k1, rfl, hown, hb⟩
           have hs1 := (Below.refl w2.heap.size w2).trans (hb.mono (Below.refl w2.heap.size w2).size)
           have o1 := own_base hown (base' := w2.heap.size) ((Below.refl w2.heap.size w2).trans ((Below.refl w2.heap.size w2).mono (Below.refl w2.heap.size w2).size)).size
           have hV1 := (Below.refl w2.heap.size w2).trans (hs1.mono (Below.refl w2.heap.size w2).size)
           (first | (obtain ⟨t0, t1, t2, t3⟩ := h6.facts) | skip)
           have qa1 := bxi0.below hV1
           have qb1 := bxi1.below hV1
           obtain ⟨y0, y1, -, -⟩ := qa1.facts
           obtain ⟨z0, z1, -, -⟩ := qb1.facts
           have hz1 := hV1.size
           clear hb hown)
        | (go_at_call 18
           with_reducible show Calls _ _ #[.agg #[.int .i64 b0, .slice a0 n0 cap0]] ((w2.alloc (.cells #[.int .i64 0, .slice none 0 0] 25)).drew) _
           refine (toled_any b0 a0 n0 cap0 p0 _ (hxa.on ((Below.refl w2.heap.size w2).trans ((((Below.refl w2.heap.size w2).alloc (Nat.le_refl _) (.cells #[.int .i64 0, .slice none 0 0] 25)).drew).mono (Below.refl w2.heap.size w2).size))) HL0.out (by omega)).mono ?_
           rintro e v1 ⟨E1, k1, rfl, hown, hb⟩
           have hs1 := (((Below.refl w2.heap.size w2).alloc (Nat.le_refl _) (.cells #[.int .i64 0, .slice none 0 0] 25)).drew).trans (hb.mono (((Below.refl w2.heap.size w2).alloc (Nat.le_refl _) (.cells #[.int .i64 0, .slice none 0 0] 25)).drew).size)
           have o1 := own_base hown (base' := w2.heap.size) ((Below.refl w2.heap.size w2).trans ((((Below.refl w2.heap.size w2).alloc (Nat.le_refl _) (.cells #[.int .i64 0, .slice none 0 0] 25)).drew).mono (Below.refl w2.heap.size w2).size)).size
           have hV1 := (Below.refl w2.heap.size w2).trans (hs1.mono (Below.refl w2.heap.size w2).size)
           have h6 : EB v1 25 w2.heap.size 0 (.slice none 0 0) := EB.below (w := ((w2.alloc (.cells #[.int .i64 0, .slice none 0 0] 25)).drew)) (EB.new w2 25 0 (.slice none 0 0)) hb
           (first | (obtain ⟨t0, t1, t2, t3⟩ := h6.facts) | skip)
           have qa1 := bxi0.below hV1
           have qb1 := bxi1.below hV1
           obtain ⟨y0, y1, -, -⟩ := qa1.facts
           obtain ⟨z0, z1, -, -⟩ := qb1.facts
           have hz1 := hV1.size
           clear hb hown)
        | (go_at_call 18
           with_reducible show Calls _ _ #[.agg #[.int .i64 b0, .slice a0 n0 cap0]] (w2.alloc (.cells #[.int .i64 0, .slice none 0 0] 25)) _
           refine (toled_any b0 a0 n0 cap0 p0 _ (hxa.on ((Below.refl w2.heap.size w2).trans (((Below.refl w2.heap.size w2).alloc (Nat.le_refl _) (.cells #[.int .i64 0, .slice none 0 0] 25)).mono (Below.refl w2.heap.size w2).size))) HL0.out (by omega)).mono ?_
           rintro e v1 ⟨E1, k1, rfl, hown, hb⟩
           have hs1 := ((Below.refl w2.heap.size w2).alloc (Nat.le_refl _) (.cells #[.int .i64 0, .slice none 0 0] 25)).trans (hb.mono ((Below.refl w2.heap.size w2).alloc (Nat.le_refl _) (.cells #[.int .i64 0, .slice none 0 0] 25)).size)
           have o1 := own_base hown (base' := w2.heap.size) ((Below.refl w2.heap.size w2).trans (((Below.refl w2.heap.size w2).alloc (Nat.le_refl _) (.cells #[.int .i64 0, .slice none 0 0] 25)).mono (Below.refl w2.heap.size w2).size)).size
           have hV1 := (Below.refl w2.heap.size w2).trans (hs1.mono (Below.refl w2.heap.size w2).size)
           have h6 : EB v1 25 w2.heap.size 0 (.slice none 0 0) := EB.below (w := (w2.alloc (.cells #[.int .i64 0, .slice none 0 0] 25))) (EB.new w2 25 0 (.slice none 0 0)) hb
           (first | (obtain ⟨t0, t1, t2, t3⟩ := h6.facts) | skip)
           have qa1 := bxi0.below hV1
           have qb1 := bxi1.below hV1
           obtain ⟨y0, y1, -, -⟩ := qa1.facts
           obtain ⟨z0, z1, -, -⟩ := qb1.facts
           have hz1 := hV1.size
           clear hb hown)
        | (go_at_call 18
           with_reducible show Calls _ _ #[.agg #[.int .i64 b1, .slice a1 n1 cap1]] (v1.drew) _
           refine (toled_any b1 a1 n1 cap1 p1 _ (hxb.on (hV1.trans (((Below.refl v1.heap.size v1).drew).mono hV1.size))) HL1.out (by omega)).mono ?_
           rintro e v2 ⟨E2, k2, rfl, hown, hb⟩
           have hs2 := ((Below.refl v1.heap.size v1).drew).trans (hb.mono ((Below.refl v1.heap.size v1).drew).size)
           have o1 := own_below o1 hs2
           have o2 := own_base hown (base' := w2.heap.size) (hV1.trans (((Below.refl v1.heap.size v1).drew).mono hV1.size)).size
           have hV2 := hV1.trans (hs2.mono hV1.size)
           (first | (have h6 := h6.below hs2) | skip)
           (first | (obtain ⟨t0, t1, t2, t3⟩ := h6.facts) | skip)
           have qa2 := bxi0.below hV2
           have qb2 := bxi1.below hV2
           obtain ⟨y0, y1, -, -⟩ := qa2.facts
           obtain ⟨z0, z1, -, -⟩ := qb2.facts
           have hz2 := hV2.size
           clear hb hown)
        | (go_at_call 18
           with_reducible show Calls _ _ #[.agg #[.int .i64 b1, .slice a1 n1 cap1]] v1 _
           refine (toled_any b1 a1 n1 cap1 p1 _ (hxb.on (hV1.trans ((Below.refl v1.heap.size v1).mono hV1.size))) HL1.out (by omega)).mono ?_
           rintro e v2 ⟨E2, k2, rfl, hown, hb⟩
           have hs2 := (Below.refl v1.heap.size v1).trans (hb.mono (Below.refl v1.heap.size v1).size)
           have o1 := own_below o1 hs2
           have o2 := own_base hown (base' := w2.heap.size) (hV1.trans ((Below.refl v1.heap.size v1).mono hV1.size)).size
           have hV2 := hV1.trans (hs2.mono hV1.size)
           (first | (have h6 := h6.below hs2) | skip)
           (first | (obtain ⟨t0, t1, t2, t3⟩ := h6.facts) | skip)
           have qa2 := bxi0.below hV2
           have qb2 := bxi1.below hV2
           obtain ⟨y0, y1, -, -⟩ := qa2.facts
           obtain ⟨z0, z1, -, -⟩ := qb2.facts
           have hz2 := hV2.size
           clear hb hown)
        | (go_at_call 18
           with_reducible show Calls _ _ #[.agg #[.int .i64 b1, .slice a1 n1 cap1]] ((v1.alloc (.cells #[.int .i64 0, .slice none 0 0] 25)).drew) _
           refine (toled_any b1 a1 n1 cap1 p1 _ (hxb.on (hV1.trans ((((Below.refl v1.heap.size v1).alloc (Nat.le_refl _) (.cells #[.int .i64 0, .slice none 0 0] 25)).drew).mono hV1.size))) HL1.out (by omega)).mono ?_
           rintro e v2 ⟨E2, k2, rfl, hown, hb⟩
           have hs2 := (((Below.refl v1.heap.size v1).alloc (Nat.le_refl _) (.cells #[.int .i64 0, .slice none 0 0] 25)).drew).trans (hb.mono (((Below.refl v1.heap.size v1).alloc (Nat.le_refl _) (.cells #[.int .i64 0, .slice none 0 0] 25)).drew).size)
           have o1 := own_below o1 hs2
           have o2 := own_base hown (base' := w2.heap.size) (hV1.trans ((((Below.refl v1.heap.size v1).alloc (Nat.le_refl _) (.cells #[.int .i64 0, .slice none 0 0] 25)).drew).mono hV1.size)).size
           have hV2 := hV1.trans (hs2.mono hV1.size)
           have h6 : EB v2 25 v1.heap.size 0 (.slice none 0 0) := EB.below (w := ((v1.alloc (.cells #[.int .i64 0, .slice none 0 0] 25)).drew)) (EB.new v1 25 0 (.slice none 0 0)) hb
           (first | (obtain ⟨t0, t1, t2, t3⟩ := h6.facts) | skip)
           have qa2 := bxi0.below hV2
           have qb2 := bxi1.below hV2
           obtain ⟨y0, y1, -, -⟩ := qa2.facts
           obtain ⟨z0, z1, -, -⟩ := qb2.facts
           have hz2 := hV2.size
           clear hb hown)
        | (go_at_call 18
           with_reducible show Calls _ _ #[.agg #[.int .i64 b1, .slice a1 n1 cap1]] (v1.alloc (.cells #[.int .i64 0, .slice none 0 0] 25)) _
           refine (toled_any b1 a1 n1 cap1 p1 _ (hxb.on (hV1.trans (((Below.refl v1.heap.size v1).alloc (Nat.le_refl _) (.cells #[.int .i64 0, .slice none 0 0] 25)).mono hV1.size))) HL1.out (by omega)).mono ?_
           rintro e v2 ⟨E2, k2, rfl, hown, hb⟩
           have hs2 := ((Below.refl v1.heap.size v1).alloc (Nat.le_refl _) (.cells #[.int .i64 0, .slice none 0 0] 25)).trans (hb.mono ((Below.refl v1.heap.size v1).alloc (Nat.le_refl _) (.cells #[.int .i64 0, .slice none 0 0] 25)).size)
           have o1 := own_below o1 hs2
           have o2 := own_base hown (base' := w2.heap.size) (hV1.trans (((Below.refl v1.heap.size v1).alloc (Nat.le_refl _) (.cells #[.int .i64 0, .slice none 0 0] 25)).mono hV1.size)).size
           have hV2 := hV1.trans (hs2.mono hV1.size)
           have h6 : EB v2 25 v1.heap.size 0 (.slice none 0 0) := EB.below (w := (v1.alloc (.cells #[.int .i64 0, .slice none 0 0] 25))) (EB.new v1 25 0 (.slice none 0 0)) hb
           (first | (obtain ⟨t0, t1, t2, t3⟩ := h6.facts) | skip)
           have qa2 := bxi0.below hV2
           have qb2 := bxi1.below hV2
           obtain ⟨y0, y1, -, -⟩ := qa2.facts
           obtain ⟨z0, z1, -, -⟩ := qb2.facts
           have hz2 := hV2.size
           clear hb hown)
        | (go_at_call 13
           with_reducible show Calls _ _ #[.agg #[.int .i64 b0, .slice E1 n0 k1], .agg #[.int .i64 b1, .slice E2 n1 k2]] (v2.drew) _
           refine (sjoin_r b0 E1 n0 k1 p0 b1 E2 n1 k2 p1 _ (Recs.of_own ef_len (own_below o1 ((Below.refl v2.heap.size v2).drew)) (by omega)).2 (Recs.of_own ef_len (own_below o2 ((Below.refl v2.heap.size v2).drew)) (by omega)).2 HL0.out (by omega) HL1.out (by omega) HR.out HN.out).mono ?_
           rintro e v3 ⟨E3, k3, rfl, hown, hb⟩
           have hs3 := ((Below.refl v2.heap.size v2).drew).trans (hb.mono ((Below.refl v2.heap.size v2).drew).size)
           have o1 := own_below o1 hs3
           have o2 := own_below o2 hs3
           have o3 := own_base hown (base' := w2.heap.size) (hV2.trans (((Below.refl v2.heap.size v2).drew).mono hV2.size)).size
           have hV3 := hV2.trans (hs3.mono hV2.size)
           (first | (have h6 := h6.below hs3) | skip)
           (first | (obtain ⟨t0, t1, t2, t3⟩ := h6.facts) | skip)
           have qa3 := bxi0.below hV3
           have qb3 := bxi1.below hV3
           obtain ⟨y0, y1, -, -⟩ := qa3.facts
           obtain ⟨z0, z1, -, -⟩ := qb3.facts
           have hz3 := hV3.size
           clear hb hown)
        | (go_at_call 13
           with_reducible show Calls _ _ #[.agg #[.int .i64 b0, .slice E1 n0 k1], .agg #[.int .i64 b1, .slice E2 n1 k2]] v2 _
           refine (sjoin_r b0 E1 n0 k1 p0 b1 E2 n1 k2 p1 _ (Recs.of_own ef_len (own_below o1 (Below.refl v2.heap.size v2)) (by omega)).2 (Recs.of_own ef_len (own_below o2 (Below.refl v2.heap.size v2)) (by omega)).2 HL0.out (by omega) HL1.out (by omega) HR.out HN.out).mono ?_
           rintro e v3 ⟨E3, k3, rfl, hown, hb⟩
           have hs3 := (Below.refl v2.heap.size v2).trans (hb.mono (Below.refl v2.heap.size v2).size)
           have o1 := own_below o1 hs3
           have o2 := own_below o2 hs3
           have o3 := own_base hown (base' := w2.heap.size) (hV2.trans ((Below.refl v2.heap.size v2).mono hV2.size)).size
           have hV3 := hV2.trans (hs3.mono hV2.size)
           (first | (have h6 := h6.below hs3) | skip)
           (first | (obtain ⟨t0, t1, t2, t3⟩ := h6.facts) | skip)
           have qa3 := bxi0.below hV3
           have qb3 := bxi1.below hV3
           obtain ⟨y0, y1, -, -⟩ := qa3.facts
           obtain ⟨z0, z1, -, -⟩ := qb3.facts
           have hz3 := hV3.size
           clear hb hown)
        | (go_at_call 13
           with_reducible show Calls _ _ #[.agg #[.int .i64 b0, .slice E1 n0 k1], .agg #[.int .i64 b1, .slice E2 n1 k2]] ((v2.alloc (.cells #[.int .i64 0, .slice none 0 0] 25)).drew) _
           refine (sjoin_r b0 E1 n0 k1 p0 b1 E2 n1 k2 p1 _ (Recs.of_own ef_len (own_below o1 (((Below.refl v2.heap.size v2).alloc (Nat.le_refl _) (.cells #[.int .i64 0, .slice none 0 0] 25)).drew)) (by omega)).2 (Recs.of_own ef_len (own_below o2 (((Below.refl v2.heap.size v2).alloc (Nat.le_refl _) (.cells #[.int .i64 0, .slice none 0 0] 25)).drew)) (by omega)).2 HL0.out (by omega) HL1.out (by omega) HR.out HN.out).mono ?_
           rintro e v3 ⟨E3, k3, rfl, hown, hb⟩
           have hs3 := (((Below.refl v2.heap.size v2).alloc (Nat.le_refl _) (.cells #[.int .i64 0, .slice none 0 0] 25)).drew).trans (hb.mono (((Below.refl v2.heap.size v2).alloc (Nat.le_refl _) (.cells #[.int .i64 0, .slice none 0 0] 25)).drew).size)
           have o1 := own_below o1 hs3
           have o2 := own_below o2 hs3
           have o3 := own_base hown (base' := w2.heap.size) (hV2.trans ((((Below.refl v2.heap.size v2).alloc (Nat.le_refl _) (.cells #[.int .i64 0, .slice none 0 0] 25)).drew).mono hV2.size)).size
           have hV3 := hV2.trans (hs3.mono hV2.size)
           have h6 : EB v3 25 v2.heap.size 0 (.slice none 0 0) := EB.below (w := ((v2.alloc (.cells #[.int .i64 0, .slice none 0 0] 25)).drew)) (EB.new v2 25 0 (.slice none 0 0)) hb
           (first | (obtain ⟨t0, t1, t2, t3⟩ := h6.facts) | skip)
           have qa3 := bxi0.below hV3
           have qb3 := bxi1.below hV3
           obtain ⟨y0, y1, -, -⟩ := qa3.facts
           obtain ⟨z0, z1, -, -⟩ := qb3.facts
           have hz3 := hV3.size
           clear hb hown)
        | (go_at_call 13
           with_reducible show Calls _ _ #[.agg #[.int .i64 b0, .slice E1 n0 k1], .agg #[.int .i64 b1, .slice E2 n1 k2]] (v2.alloc (.cells #[.int .i64 0, .slice none 0 0] 25)) _
           refine (sjoin_r b0 E1 n0 k1 p0 b1 E2 n1 k2 p1 _ (Recs.of_own ef_len (own_below o1 ((Below.refl v2.heap.size v2).alloc (Nat.le_refl _) (.cells #[.int .i64 0, .slice none 0 0] 25))) (by omega)).2 (Recs.of_own ef_len (own_below o2 ((Below.refl v2.heap.size v2).alloc (Nat.le_refl _) (.cells #[.int .i64 0, .slice none 0 0] 25))) (by omega)).2 HL0.out (by omega) HL1.out (by omega) HR.out HN.out).mono ?_
           rintro e v3 ⟨E3, k3, rfl, hown, hb⟩
           have hs3 := ((Below.refl v2.heap.size v2).alloc (Nat.le_refl _) (.cells #[.int .i64 0, .slice none 0 0] 25)).trans (hb.mono ((Below.refl v2.heap.size v2).alloc (Nat.le_refl _) (.cells #[.int .i64 0, .slice none 0 0] 25)).size)
           have o1 := own_below o1 hs3
           have o2 := own_below o2 hs3
           have o3 := own_base hown (base' := w2.heap.size) (hV2.trans (((Below.refl v2.heap.size v2).alloc (Nat.le_refl _) (.cells #[.int .i64 0, .slice none 0 0] 25)).mono hV2.size)).size
           have hV3 := hV2.trans (hs3.mono hV2.size)
           have h6 : EB v3 25 v2.heap.size 0 (.slice none 0 0) := EB.below (w := (v2.alloc (.cells #[.int .i64 0, .slice none 0 0] 25))) (EB.new v2 25 0 (.slice none 0 0)) hb
           (first | (obtain ⟨t0, t1, t2, t3⟩ := h6.facts) | skip)
           have qa3 := bxi0.below hV3
           have qb3 := bxi1.below hV3
           obtain ⟨y0, y1, -, -⟩ := qa3.facts
           obtain ⟨z0, z1, -, -⟩ := qb3.facts
           have hz3 := hV3.size
           clear hb hown))
    all_goals
      go_wp2_with fail
      go_meet
      first
        | exact rj_1 h6 o3 hV3 (by omega)
        | exact rj_2 o3 hV3
  case rest =>
    obtain ⟨gw0, Dw, cw, rfl, rfl, hbx, hown, hb⟩ := hcut
    clear hxa hxb
    have w0 := own_base hown (base' := W0.heap.size) hB.size
    clear hown
    have hB := below_next hB hb
    have bxi0 := bxi0.below hb
    have bxi1 := bxi1.below hb
    have bxw0 := hbx
    clear hb hbx
    clear pi00 pi01 pi10 pi11
    obtain ⟨pi00, pi01, -, -⟩ := bxi0.facts
    obtain ⟨pi10, pi11, -, -⟩ := bxi1.facts
    obtain ⟨pw00, pw01, -, -⟩ := bxw0.facts
    go_wp2_with fail
    refine (toled_any b0 a0 n0 cap0 p0 _ (i0.on hB) HL0.out (by omega)).mono ?_
    rintro e w4 ⟨Dx0, cx0, rfl, hown, hb⟩
    have a_w0_x0 := own_apart w0 hown
    have a_x0_w0 := own_apart2 w0 hown
    have x0 := own_base hown (base' := W0.heap.size) hB.size
    clear hown
    have hB := below_next hB hb
    have bxi0 := bxi0.below hb
    have bxi1 := bxi1.below hb
    have bxw0 := bxw0.below hb
    have w0 := own_below w0 hb
    have bxx0 := EB.new w4 25 b0 (.slice Dx0 n0 cx0)
    have hB := hB.alloc hB.size (.cells #[.int .i64 b0, .slice Dx0 n0 cx0] 25)
    have bxi0 := bxi0.alloc (.cells #[.int .i64 b0, .slice Dx0 n0 cx0] 25)
    have bxi1 := bxi1.alloc (.cells #[.int .i64 b0, .slice Dx0 n0 cx0] 25)
    have bxw0 := bxw0.alloc (.cells #[.int .i64 b0, .slice Dx0 n0 cx0] 25)
    have w0 := w0.alloc (.cells #[.int .i64 b0, .slice Dx0 n0 cx0] 25)
    have x0 := x0.alloc (.cells #[.int .i64 b0, .slice Dx0 n0 cx0] 25)
    clear hb
    clear pi00 pi01 pi10 pi11 pw00 pw01
    obtain ⟨pi00, pi01, -, -⟩ := bxi0.facts
    obtain ⟨pi10, pi11, -, -⟩ := bxi1.facts
    obtain ⟨pw00, pw01, -, -⟩ := bxw0.facts
    obtain ⟨px00, px01, -, -⟩ := bxx0.facts
    go_wp2_with fail
    refine (toled_any b1 a1 n1 cap1 p1 _ (i1.on hB) HL1.out (by omega)).mono ?_
    rintro e w5 ⟨Dx1, cx1, rfl, hown, hb⟩
    have a_w0_x1 := own_apart w0 hown
    have a_x1_w0 := own_apart2 w0 hown
    have a_x0_x1 := own_apart x0 hown
    have a_x1_x0 := own_apart2 x0 hown
    have x1 := own_base hown (base' := W0.heap.size) hB.size
    clear hown
    have hB := below_next hB hb
    have bxi0 := bxi0.below hb
    have bxi1 := bxi1.below hb
    have bxw0 := bxw0.below hb
    have bxx0 := bxx0.below hb
    have w0 := own_below w0 hb
    have x0 := own_below x0 hb
    have bxx1 := EB.new w5 25 b1 (.slice Dx1 n1 cx1)
    have hB := hB.alloc hB.size (.cells #[.int .i64 b1, .slice Dx1 n1 cx1] 25)
    have bxi0 := bxi0.alloc (.cells #[.int .i64 b1, .slice Dx1 n1 cx1] 25)
    have bxi1 := bxi1.alloc (.cells #[.int .i64 b1, .slice Dx1 n1 cx1] 25)
    have bxw0 := bxw0.alloc (.cells #[.int .i64 b1, .slice Dx1 n1 cx1] 25)
    have bxx0 := bxx0.alloc (.cells #[.int .i64 b1, .slice Dx1 n1 cx1] 25)
    have w0 := w0.alloc (.cells #[.int .i64 b1, .slice Dx1 n1 cx1] 25)
    have x0 := x0.alloc (.cells #[.int .i64 b1, .slice Dx1 n1 cx1] 25)
    have x1 := x1.alloc (.cells #[.int .i64 b1, .slice Dx1 n1 cx1] 25)
    clear hb
    clear pi00 pi01 pi10 pi11 pw00 pw01 px00 px01
    obtain ⟨pi00, pi01, -, -⟩ := bxi0.facts
    obtain ⟨pi10, pi11, -, -⟩ := bxi1.facts
    obtain ⟨pw00, pw01, -, -⟩ := bxw0.facts
    obtain ⟨px00, px01, -, -⟩ := bxx0.facts
    obtain ⟨px10, px11, -, -⟩ := bxx1.facts
    go_wp2_with fail
    refine (join_r b0 Dx0 n0 cx0 p0 b1 Dx1 n1 cx1 p1 _ ((Recs.of_own ef_len x0 (by omega)).2) ((Recs.of_own ef_len x1 (by omega)).2) HL0.out (by omega) HL1.out (by omega) HR.out HN.out).mono ?_
    rintro e w6 ⟨Dg, cg, rfl, hown, hb⟩
    have a_w0_g0 := own_apart w0 hown
    have a_g0_w0 := own_apart2 w0 hown
    have a_x0_g0 := own_apart x0 hown
    have a_g0_x0 := own_apart2 x0 hown
    have a_x1_g0 := own_apart x1 hown
    have a_g0_x1 := own_apart2 x1 hown
    have g0 := own_base hown (base' := W0.heap.size) hB.size
    clear hown
    have hB := below_next hB hb
    have bxi0 := bxi0.below hb
    have bxi1 := bxi1.below hb
    have bxw0 := bxw0.below hb
    have bxx0 := bxx0.below hb
    have bxx1 := bxx1.below hb
    have w0 := own_below w0 hb
    have x0 := own_below x0 hb
    have x1 := own_below x1 hb
    have bxg0 := EB.new w6 25 rb (.slice Dg nr cg)
    have hB := hB.alloc hB.size (.cells #[.int .i64 rb, .slice Dg nr cg] 25)
    have bxi0 := bxi0.alloc (.cells #[.int .i64 rb, .slice Dg nr cg] 25)
    have bxi1 := bxi1.alloc (.cells #[.int .i64 rb, .slice Dg nr cg] 25)
    have bxw0 := bxw0.alloc (.cells #[.int .i64 rb, .slice Dg nr cg] 25)
    have bxx0 := bxx0.alloc (.cells #[.int .i64 rb, .slice Dg nr cg] 25)
    have bxx1 := bxx1.alloc (.cells #[.int .i64 rb, .slice Dg nr cg] 25)
    have w0 := w0.alloc (.cells #[.int .i64 rb, .slice Dg nr cg] 25)
    have x0 := x0.alloc (.cells #[.int .i64 rb, .slice Dg nr cg] 25)
    have x1 := x1.alloc (.cells #[.int .i64 rb, .slice Dg nr cg] 25)
    have g0 := g0.alloc (.cells #[.int .i64 rb, .slice Dg nr cg] 25)
    clear hb
    clear pi00 pi01 pi10 pi11 pw00 pw01 px00 px01 px10 px11
    obtain ⟨pi00, pi01, -, -⟩ := bxi0.facts
    obtain ⟨pi10, pi11, -, -⟩ := bxi1.facts
    obtain ⟨pw00, pw01, -, -⟩ := bxw0.facts
    obtain ⟨px00, px01, -, -⟩ := bxx0.facts
    obtain ⟨px10, px11, -, -⟩ := bxx1.facts
    obtain ⟨pg00, pg01, -, -⟩ := bxg0.facts
    go_wp2_with fail
    refine (eqled_t rb Dg Dw nr cg cw rs _ ((Recs.of_own ef_len g0 (by omega)).2) ((Recs.of_own ef_len w0 (by omega)).2) HN.out (by omega)).mono ?_
    rintro e w7 ⟨rfl, hb⟩
    have hB := below_next hB hb
    have bxi0 := bxi0.below hb
    have bxi1 := bxi1.below hb
    have bxw0 := bxw0.below hb
    have bxx0 := bxx0.below hb
    have bxx1 := bxx1.below hb
    have bxg0 := bxg0.below hb
    have w0 := own_below w0 hb
    have x0 := own_below x0 hb
    have x1 := own_below x1 hb
    have g0 := own_below g0 hb
    clear hb
    clear pi00 pi01 pi10 pi11 pw00 pw01 px00 px01 px10 px11 pg00 pg01
    obtain ⟨pi00, pi01, -, -⟩ := bxi0.facts
    obtain ⟨pi10, pi11, -, -⟩ := bxi1.facts
    obtain ⟨pw00, pw01, -, -⟩ := bxw0.facts
    obtain ⟨px00, px01, -, -⟩ := bxx0.facts
    obtain ⟨px10, px11, -, -⟩ := bxx1.facts
    obtain ⟨pg00, pg01, -, -⟩ := bxg0.facts
    have hb := below_drew w7
    have hB := below_next hB hb
    have bxi0 := bxi0.below hb
    have bxi1 := bxi1.below hb
    have bxw0 := bxw0.below hb
    have bxx0 := bxx0.below hb
    have bxx1 := bxx1.below hb
    have bxg0 := bxg0.below hb
    have w0 := own_below w0 hb
    have x0 := own_below x0 hb
    have x1 := own_below x1 hb
    have g0 := own_below g0 hb
    clear hb
    go_wp2_with fail
    go_region_held3 (fun w' => w'.cell? ⟨w4.heap.size, 0, none⟩ = some (.int .i64 b0) ∧ w'.cell? ⟨w4.heap.size, 1, none⟩ = some (.slice Dx0 n0 cx0) ∧ w'.cell? ⟨w.heap.size, 0, none⟩ = some (.int .i64 b0) ∧ w'.cell? ⟨w.heap.size, 1, none⟩ = some (.slice a0 n0 cap0)) (go_keep)
      (first
        | (go_at_call 18
           refine (toled_any b0 a0 n0 cap0 p0 _ (i0.on hB) HL0.out (by omega)).mono ?_
           rintro e w8 ⟨Dy0, cy0, rfl, hown, hb⟩
           have a_w0_y0 := own_apart w0 hown
           have a_y0_w0 := own_apart2 w0 hown
           have a_x0_y0 := own_apart x0 hown
           have a_y0_x0 := own_apart2 x0 hown
           have a_x1_y0 := own_apart x1 hown
           have a_y0_x1 := own_apart2 x1 hown
           have a_g0_y0 := own_apart g0 hown
           have a_y0_g0 := own_apart2 g0 hown
           have y0 := own_base hown (base' := W0.heap.size) hB.size
           clear hown
           have hB := below_next hB hb
           have bxi0 := bxi0.below hb
           have bxi1 := bxi1.below hb
           have bxw0 := bxw0.below hb
           have bxx0 := bxx0.below hb
           have bxx1 := bxx1.below hb
           have bxg0 := bxg0.below hb
           have w0 := own_below w0 hb
           have x0 := own_below x0 hb
           have x1 := own_below x1 hb
           have g0 := own_below g0 hb
           clear hb
           clear pi00 pi01 pi10 pi11 pw00 pw01 px00 px01 px10 px11 pg00 pg01
           obtain ⟨pi00, pi01, -, -⟩ := bxi0.facts
           obtain ⟨pi10, pi11, -, -⟩ := bxi1.facts
           obtain ⟨pw00, pw01, -, -⟩ := bxw0.facts
           obtain ⟨px00, px01, -, -⟩ := bxx0.facts
           obtain ⟨px10, px11, -, -⟩ := bxx1.facts
           obtain ⟨pg00, pg01, -, -⟩ := bxg0.facts)
        | (go_at_call 20
           refine (eqled_t b0 Dx0 Dy0 n0 cx0 cy0 p0 _ ((Recs.of_own ef_len x0 (by omega)).2) ((Recs.of_own ef_len y0 (by omega)).2) HL0.out (by omega)).mono ?_
           rintro e w9 ⟨rfl, hb⟩
           have hB := below_next hB hb
           have bxi0 := bxi0.below hb
           have bxi1 := bxi1.below hb
           have bxw0 := bxw0.below hb
           have bxx0 := bxx0.below hb
           have bxx1 := bxx1.below hb
           have bxg0 := bxg0.below hb
           have w0 := own_below w0 hb
           have x0 := own_below x0 hb
           have x1 := own_below x1 hb
           have g0 := own_below g0 hb
           have y0 := own_below y0 hb
           clear hb
           clear pi00 pi01 pi10 pi11 pw00 pw01 px00 px01 px10 px11 pg00 pg01
           obtain ⟨pi00, pi01, -, -⟩ := bxi0.facts
           obtain ⟨pi10, pi11, -, -⟩ := bxi1.facts
           obtain ⟨pw00, pw01, -, -⟩ := bxw0.facts
           obtain ⟨px00, px01, -, -⟩ := bxx0.facts
           obtain ⟨px10, px11, -, -⟩ := bxx1.facts
           obtain ⟨pg00, pg01, -, -⟩ := bxg0.facts))
    clear y0
    have hb := below_drew w9
    have hB := below_next hB hb
    have bxi0 := bxi0.below hb
    have bxi1 := bxi1.below hb
    have bxw0 := bxw0.below hb
    have bxx0 := bxx0.below hb
    have bxx1 := bxx1.below hb
    have bxg0 := bxg0.below hb
    have w0 := own_below w0 hb
    have x0 := own_below x0 hb
    have x1 := own_below x1 hb
    have g0 := own_below g0 hb
    clear hb
    go_wp2_with fail
    go_region_held3 (fun w' => w'.cell? ⟨w5.heap.size, 0, none⟩ = some (.int .i64 b1) ∧ w'.cell? ⟨w5.heap.size, 1, none⟩ = some (.slice Dx1 n1 cx1) ∧ w'.cell? ⟨w.heap.size + 1, 0, none⟩ = some (.int .i64 b1) ∧ w'.cell? ⟨w.heap.size + 1, 1, none⟩ = some (.slice a1 n1 cap1)) (go_keep)
      (first
        | (go_at_call 18
           refine (toled_any b1 a1 n1 cap1 p1 _ (i1.on hB) HL1.out (by omega)).mono ?_
           rintro e w10 ⟨Dy1, cy1, rfl, hown, hb⟩
           have a_w0_y1 := own_apart w0 hown
           have a_y1_w0 := own_apart2 w0 hown
           have a_x0_y1 := own_apart x0 hown
           have a_y1_x0 := own_apart2 x0 hown
           have a_x1_y1 := own_apart x1 hown
           have a_y1_x1 := own_apart2 x1 hown
           have a_g0_y1 := own_apart g0 hown
           have a_y1_g0 := own_apart2 g0 hown
           have y1 := own_base hown (base' := W0.heap.size) hB.size
           clear hown
           have hB := below_next hB hb
           have bxi0 := bxi0.below hb
           have bxi1 := bxi1.below hb
           have bxw0 := bxw0.below hb
           have bxx0 := bxx0.below hb
           have bxx1 := bxx1.below hb
           have bxg0 := bxg0.below hb
           have w0 := own_below w0 hb
           have x0 := own_below x0 hb
           have x1 := own_below x1 hb
           have g0 := own_below g0 hb
           clear hb
           clear pi00 pi01 pi10 pi11 pw00 pw01 px00 px01 px10 px11 pg00 pg01
           obtain ⟨pi00, pi01, -, -⟩ := bxi0.facts
           obtain ⟨pi10, pi11, -, -⟩ := bxi1.facts
           obtain ⟨pw00, pw01, -, -⟩ := bxw0.facts
           obtain ⟨px00, px01, -, -⟩ := bxx0.facts
           obtain ⟨px10, px11, -, -⟩ := bxx1.facts
           obtain ⟨pg00, pg01, -, -⟩ := bxg0.facts)
        | (go_at_call 20
           refine (eqled_t b1 Dx1 Dy1 n1 cx1 cy1 p1 _ ((Recs.of_own ef_len x1 (by omega)).2) ((Recs.of_own ef_len y1 (by omega)).2) HL1.out (by omega)).mono ?_
           rintro e w11 ⟨rfl, hb⟩
           have hB := below_next hB hb
           have bxi0 := bxi0.below hb
           have bxi1 := bxi1.below hb
           have bxw0 := bxw0.below hb
           have bxx0 := bxx0.below hb
           have bxx1 := bxx1.below hb
           have bxg0 := bxg0.below hb
           have w0 := own_below w0 hb
           have x0 := own_below x0 hb
           have x1 := own_below x1 hb
           have g0 := own_below g0 hb
           have y1 := own_below y1 hb
           clear hb
           clear pi00 pi01 pi10 pi11 pw00 pw01 px00 px01 px10 px11 pg00 pg01
           obtain ⟨pi00, pi01, -, -⟩ := bxi0.facts
           obtain ⟨pi10, pi11, -, -⟩ := bxi1.facts
           obtain ⟨pw00, pw01, -, -⟩ := bxw0.facts
           obtain ⟨px00, px01, -, -⟩ := bxx0.facts
           obtain ⟨px10, px11, -, -⟩ := bxx1.facts
           obtain ⟨pg00, pg01, -, -⟩ := bxg0.facts))
    clear y1
    go_wp2_with fail
    refine (markl_any b0 Dx0 n0 cx0 W0.heap.size p0 (1) _ x0 (by omega) (by omega) (by omega)).mono ?_
    rintro e w12 ⟨rfl, hown, hg⟩
    have hB := hB.grown hg hB.size (fun k e => (x0.lt k e).1)
    have bxi0 := bxi0.mark x0 hg (by decide)
    have bxi1 := bxi1.mark x0 hg (by decide)
    have bxw0 := bxw0.mark x0 hg (by decide)
    have bxx0 := bxx0.mark x0 hg (by decide)
    have bxx1 := bxx1.mark x0 hg (by decide)
    have bxg0 := bxg0.mark x0 hg (by decide)
    have w0 := w0.kept hg a_w0_x0
    have x1 := x1.kept hg a_x1_x0
    have g0 := g0.kept hg a_g0_x0
    have x0 := hown
    clear hown hg
    clear pi00 pi01 pi10 pi11 pw00 pw01 px00 px01 px10 px11 pg00 pg01
    obtain ⟨pi00, pi01, -, -⟩ := bxi0.facts
    obtain ⟨pi10, pi11, -, -⟩ := bxi1.facts
    obtain ⟨pw00, pw01, -, -⟩ := bxw0.facts
    obtain ⟨px00, px01, -, -⟩ := bxx0.facts
    obtain ⟨px10, px11, -, -⟩ := bxx1.facts
    obtain ⟨pg00, pg01, -, -⟩ := bxg0.facts
    clear x0
    go_wp2_with fail
    refine (markl_any b1 Dx1 n1 cx1 W0.heap.size p1 (1 + 2 * (n0 : Int)) _ x1 (by omega) (by omega) (by omega)).mono ?_
    rintro e w13 ⟨rfl, hown, hg⟩
    have hB := hB.grown hg hB.size (fun k e => (x1.lt k e).1)
    have bxi0 := bxi0.mark x1 hg (by decide)
    have bxi1 := bxi1.mark x1 hg (by decide)
    have bxw0 := bxw0.mark x1 hg (by decide)
    have bxx0 := bxx0.mark x1 hg (by decide)
    have bxx1 := bxx1.mark x1 hg (by decide)
    have bxg0 := bxg0.mark x1 hg (by decide)
    have w0 := w0.kept hg a_w0_x1
    have g0 := g0.kept hg a_g0_x1
    have x1 := hown
    clear hown hg
    clear pi00 pi01 pi10 pi11 pw00 pw01 px00 px01 px10 px11 pg00 pg01
    obtain ⟨pi00, pi01, -, -⟩ := bxi0.facts
    obtain ⟨pi10, pi11, -, -⟩ := bxi1.facts
    obtain ⟨pw00, pw01, -, -⟩ := bxw0.facts
    obtain ⟨px00, px01, -, -⟩ := bxx0.facts
    obtain ⟨px10, px11, -, -⟩ := bxx1.facts
    obtain ⟨pg00, pg01, -, -⟩ := bxg0.facts
    clear x1
    go_wp2_with fail
    refine (eqled_t rb Dg Dw nr cg cw rs _ ((Recs.of_own ef_len g0 (by omega)).2) ((Recs.of_own ef_len w0 (by omega)).2) HN.out (by omega)).mono ?_
    rintro e w14 ⟨rfl, hb⟩
    have hB := below_next hB hb
    have bxi0 := bxi0.below hb
    have bxi1 := bxi1.below hb
    have bxw0 := bxw0.below hb
    have bxx0 := bxx0.below hb
    have bxx1 := bxx1.below hb
    have bxg0 := bxg0.below hb
    have w0 := own_below w0 hb
    have g0 := own_below g0 hb
    clear hb
    clear pi00 pi01 pi10 pi11 pw00 pw01 px00 px01 px10 px11 pg00 pg01
    obtain ⟨pi00, pi01, -, -⟩ := bxi0.facts
    obtain ⟨pi10, pi11, -, -⟩ := bxi1.facts
    obtain ⟨pw00, pw01, -, -⟩ := bxw0.facts
    obtain ⟨px00, px01, -, -⟩ := bxx0.facts
    obtain ⟨px10, px11, -, -⟩ := bxx1.facts
    obtain ⟨pg00, pg01, -, -⟩ := bxg0.facts
    go_wp2_with fail
    refine (markl_any rb Dg nr cg W0.heap.size rs 1 _ g0 (by omega) (by omega) (by omega)).mono ?_
    rintro e w15 ⟨rfl, hown, hg⟩
    have hB := hB.grown hg hB.size (fun k e => (g0.lt k e).1)
    have bxi0 := bxi0.mark g0 hg (by decide)
    have bxi1 := bxi1.mark g0 hg (by decide)
    have bxw0 := bxw0.mark g0 hg (by decide)
    have bxx0 := bxx0.mark g0 hg (by decide)
    have bxx1 := bxx1.mark g0 hg (by decide)
    have bxg0 := bxg0.mark g0 hg (by decide)
    have w0 := w0.kept hg a_w0_g0
    have g0 := hown
    clear hown hg
    clear pi00 pi01 pi10 pi11 pw00 pw01 px00 px01 px10 px11 pg00 pg01
    obtain ⟨pi00, pi01, -, -⟩ := bxi0.facts
    obtain ⟨pi10, pi11, -, -⟩ := bxi1.facts
    obtain ⟨pw00, pw01, -, -⟩ := bxw0.facts
    obtain ⟨px00, px01, -, -⟩ := bxx0.facts
    obtain ⟨px10, px11, -, -⟩ := bxx1.facts
    obtain ⟨pg00, pg01, -, -⟩ := bxg0.facts
    go_wp2_with fail
    refine (heldl_any rb Dg nr cg 1 _ ((Recs.of_own ef_len g0 (by omega)).2) (by omega) (by omega) (by omega)).mono ?_
    rintro e w16 ⟨rfl, hb⟩
    have hB := below_next hB hb
    have bxi0 := bxi0.below hb
    have bxi1 := bxi1.below hb
    have bxw0 := bxw0.below hb
    have bxx0 := bxx0.below hb
    have bxx1 := bxx1.below hb
    have bxg0 := bxg0.below hb
    have w0 := own_below w0 hb
    have g0 := own_below g0 hb
    clear hb
    clear pi00 pi01 pi10 pi11 pw00 pw01 px00 px01 px10 px11 pg00 pg01
    obtain ⟨pi00, pi01, -, -⟩ := bxi0.facts
    obtain ⟨pi10, pi11, -, -⟩ := bxi1.facts
    obtain ⟨pw00, pw01, -, -⟩ := bxw0.facts
    obtain ⟨px00, px01, -, -⟩ := bxx0.facts
    obtain ⟨px10, px11, -, -⟩ := bxx1.facts
    obtain ⟨pg00, pg01, -, -⟩ := bxg0.facts
    clear pw00 pw01 px00 px01 px10 px11 pg00 pg01
    have hxa := i0.on hB
    have hxb := i1.on hB
    go_upto_region 31 with fail
    go_cut [15, 16] (fun s15 s16 wx => RJ rb rs nr ok w16 s15 s16 wx)
    case first =>
      have hz0 := hB.size
      have hzw := hW0s
      go_region_held3 (fun w' => w'.cell? ⟨w.heap.size, 0, none⟩ = some (.int .i64 b0) ∧ w'.cell? ⟨w.heap.size, 1, none⟩ = some (.slice a0 n0 cap0) ∧ w'.cell? ⟨w.heap.size + 1, 0, none⟩ = some (.int .i64 b1) ∧ w'.cell? ⟨w.heap.size + 1, 1, none⟩ = some (.slice a1 n1 cap1)) (first | (go_keep; done) | exact keep_far4 (by assumption) (by assumption) (by assumption) (by assumption) (by omega) (by omega) | exact keep_below4 bxi0 bxi1 (((Below.refl w16.heap.size w16).alloc (Nat.le_refl _) _).drew) (by have := hBW.size; omega) (by omega) | exact keep_below4 bxi0 bxi1 ((Below.refl w16.heap.size w16).alloc (Nat.le_refl _) _) (by omega) (by omega) | exact keep_below4 qa3 qb3 ((Below.refl v3.heap.size v3).alloc (Nat.le_refl _) _) (by omega) (by omega) | exact keep_below4 qa2 qb2 ((Below.refl v2.heap.size v2).alloc (Nat.le_refl _) _) (by omega) (by omega) | exact keep_below4 qa1 qb1 ((Below.refl v1.heap.size v1).alloc (Nat.le_refl _) _) (by omega) (by omega))
        (first
          | (go_at_call 18
             with_reducible show Calls _ _ #[.agg #[.int .i64 b0, .slice a0 n0 cap0]] (w16.drew) _
             refine (toled_any b0 a0 n0 cap0 p0 _ (hxa.on ((Below.refl w16.heap.size w16).trans (((Below.refl w16.heap.size w16).drew).mono (Below.refl w16.heap.size w16).size))) HL0.out (by omega)).mono ?_
             rintro e v1 ⟨E1, k1, rfl, hown, hb⟩
             have hs1 := ((Below.refl w16.heap.size w16).drew).trans (hb.mono ((Below.refl w16.heap.size w16).drew).size)
             have o1 := own_base hown (base' := w16.heap.size) ((Below.refl w16.heap.size w16).trans (((Below.refl w16.heap.size w16).drew).mono (Below.refl w16.heap.size w16).size)).size
             have hV1 := (Below.refl w16.heap.size w16).trans (hs1.mono (Below.refl w16.heap.size w16).size)
             (first | (obtain ⟨t0, t1, t2, t3⟩ := h6.facts) | skip)
             have qa1 := bxi0.below hV1
             have qb1 := bxi1.below hV1
             obtain ⟨y0, y1, -, -⟩ := qa1.facts
             obtain ⟨z0, z1, -, -⟩ := qb1.facts
             have hz1 := hV1.size
             clear hb hown)
          | (go_at_call 18
             with_reducible show Calls _ _ #[.agg #[.int .i64 b0, .slice a0 n0 cap0]] w16 _
             refine (toled_any b0 a0 n0 cap0 p0 _ (hxa.on ((Below.refl w16.heap.size w16).trans ((Below.refl w16.heap.size w16).mono (Below.refl w16.heap.size w16).size))) HL0.out (by omega)).mono ?_
             rintro e v1 ⟨E1, k1, rfl, hown, hb⟩
             have hs1 := (Below.refl w16.heap.size w16).trans (hb.mono (Below.refl w16.heap.size w16).size)
             have o1 := own_base hown (base' := w16.heap.size) ((Below.refl w16.heap.size w16).trans ((Below.refl w16.heap.size w16).mono (Below.refl w16.heap.size w16).size)).size
             have hV1 := (Below.refl w16.heap.size w16).trans (hs1.mono (Below.refl w16.heap.size w16).size)
             (first | (obtain ⟨t0, t1, t2, t3⟩ := h6.facts) | skip)
             have qa1 := bxi0.below hV1
             have qb1 := bxi1.below hV1
             obtain ⟨y0, y1, -, -⟩ := qa1.facts
             obtain ⟨z0, z1, -, -⟩ := qb1.facts
             have hz1 := hV1.size
             clear hb hown)
          | (go_at_call 18
             with_reducible show Calls _ _ #[.agg #[.int .i64 b0, .slice a0 n0 cap0]] ((w16.alloc (.cells #[.int .i64 0, .slice none 0 0] 25)).drew) _
             refine (toled_any b0 a0 n0 cap0 p0 _ (hxa.on ((Below.refl w16.heap.size w16).trans ((((Below.refl w16.heap.size w16).alloc (Nat.le_refl _) (.cells #[.int .i64 0, .slice none 0 0] 25)).drew).mono (Below.refl w16.heap.size w16).size))) HL0.out (by omega)).mono ?_
             rintro e v1 ⟨E1, k1, rfl, hown, hb⟩
             have hs1 := (((Below.refl w16.heap.size w16).alloc (Nat.le_refl _) (.cells #[.int .i64 0, .slice none 0 0] 25)).drew).trans (hb.mono (((Below.refl w16.heap.size w16).alloc (Nat.le_refl _) (.cells #[.int .i64 0, .slice none 0 0] 25)).drew).size)
             have o1 := own_base hown (base' := w16.heap.size) ((Below.refl w16.heap.size w16).trans ((((Below.refl w16.heap.size w16).alloc (Nat.le_refl _) (.cells #[.int .i64 0, .slice none 0 0] 25)).drew).mono (Below.refl w16.heap.size w16).size)).size
             have hV1 := (Below.refl w16.heap.size w16).trans (hs1.mono (Below.refl w16.heap.size w16).size)
             have h6 : EB v1 25 w16.heap.size 0 (.slice none 0 0) := EB.below (w := ((w16.alloc (.cells #[.int .i64 0, .slice none 0 0] 25)).drew)) (EB.new w16 25 0 (.slice none 0 0)) hb
             (first | (obtain ⟨t0, t1, t2, t3⟩ := h6.facts) | skip)
             have qa1 := bxi0.below hV1
             have qb1 := bxi1.below hV1
             obtain ⟨y0, y1, -, -⟩ := qa1.facts
             obtain ⟨z0, z1, -, -⟩ := qb1.facts
             have hz1 := hV1.size
             clear hb hown)
          | (go_at_call 18
             with_reducible show Calls _ _ #[.agg #[.int .i64 b0, .slice a0 n0 cap0]] (w16.alloc (.cells #[.int .i64 0, .slice none 0 0] 25)) _
             refine (toled_any b0 a0 n0 cap0 p0 _ (hxa.on ((Below.refl w16.heap.size w16).trans (((Below.refl w16.heap.size w16).alloc (Nat.le_refl _) (.cells #[.int .i64 0, .slice none 0 0] 25)).mono (Below.refl w16.heap.size w16).size))) HL0.out (by omega)).mono ?_
             rintro e v1 ⟨E1, k1, rfl, hown, hb⟩
             have hs1 := ((Below.refl w16.heap.size w16).alloc (Nat.le_refl _) (.cells #[.int .i64 0, .slice none 0 0] 25)).trans (hb.mono ((Below.refl w16.heap.size w16).alloc (Nat.le_refl _) (.cells #[.int .i64 0, .slice none 0 0] 25)).size)
             have o1 := own_base hown (base' := w16.heap.size) ((Below.refl w16.heap.size w16).trans (((Below.refl w16.heap.size w16).alloc (Nat.le_refl _) (.cells #[.int .i64 0, .slice none 0 0] 25)).mono (Below.refl w16.heap.size w16).size)).size
             have hV1 := (Below.refl w16.heap.size w16).trans (hs1.mono (Below.refl w16.heap.size w16).size)
             have h6 : EB v1 25 w16.heap.size 0 (.slice none 0 0) := EB.below (w := (w16.alloc (.cells #[.int .i64 0, .slice none 0 0] 25))) (EB.new w16 25 0 (.slice none 0 0)) hb
             (first | (obtain ⟨t0, t1, t2, t3⟩ := h6.facts) | skip)
             have qa1 := bxi0.below hV1
             have qb1 := bxi1.below hV1
             obtain ⟨y0, y1, -, -⟩ := qa1.facts
             obtain ⟨z0, z1, -, -⟩ := qb1.facts
             have hz1 := hV1.size
             clear hb hown)
          | (go_at_call 18
             with_reducible show Calls _ _ #[.agg #[.int .i64 b1, .slice a1 n1 cap1]] (v1.drew) _
             refine (toled_any b1 a1 n1 cap1 p1 _ (hxb.on (hV1.trans (((Below.refl v1.heap.size v1).drew).mono hV1.size))) HL1.out (by omega)).mono ?_
             rintro e v2 ⟨E2, k2, rfl, hown, hb⟩
             have hs2 := ((Below.refl v1.heap.size v1).drew).trans (hb.mono ((Below.refl v1.heap.size v1).drew).size)
             have o1 := own_below o1 hs2
             have o2 := own_base hown (base' := w16.heap.size) (hV1.trans (((Below.refl v1.heap.size v1).drew).mono hV1.size)).size
             have hV2 := hV1.trans (hs2.mono hV1.size)
             (first | (have h6 := h6.below hs2) | skip)
             (first | (obtain ⟨t0, t1, t2, t3⟩ := h6.facts) | skip)
             have qa2 := bxi0.below hV2
             have qb2 := bxi1.below hV2
             obtain ⟨y0, y1, -, -⟩ := qa2.facts
             obtain ⟨z0, z1, -, -⟩ := qb2.facts
             have hz2 := hV2.size
             clear hb hown)
          | (go_at_call 18
             with_reducible show Calls _ _ #[.agg #[.int .i64 b1, .slice a1 n1 cap1]] v1 _
             refine (toled_any b1 a1 n1 cap1 p1 _ (hxb.on (hV1.trans ((Below.refl v1.heap.size v1).mono hV1.size))) HL1.out (by omega)).mono ?_
             rintro e v2 ⟨E2, k2, rfl, hown, hb⟩
             have hs2 := (Below.refl v1.heap.size v1).trans (hb.mono (Below.refl v1.heap.size v1).size)
             have o1 := own_below o1 hs2
             have o2 := own_base hown (base' := w16.heap.size) (hV1.trans ((Below.refl v1.heap.size v1).mono hV1.size)).size
             have hV2 := hV1.trans (hs2.mono hV1.size)
             (first | (have h6 := h6.below hs2) | skip)
             (first | (obtain ⟨t0, t1, t2, t3⟩ := h6.facts) | skip)
             have qa2 := bxi0.below hV2
             have qb2 := bxi1.below hV2
             obtain ⟨y0, y1, -, -⟩ := qa2.facts
             obtain ⟨z0, z1, -, -⟩ := qb2.facts
             have hz2 := hV2.size
             clear hb hown)
          | (go_at_call 18
             with_reducible show Calls _ _ #[.agg #[.int .i64 b1, .slice a1 n1 cap1]] ((v1.alloc (.cells #[.int .i64 0, .slice none 0 0] 25)).drew) _
             refine (toled_any b1 a1 n1 cap1 p1 _ (hxb.on (hV1.trans ((((Below.refl v1.heap.size v1).alloc (Nat.le_refl _) (.cells #[.int .i64 0, .slice none 0 0] 25)).drew).mono hV1.size))) HL1.out (by omega)).mono ?_
             rintro e v2 ⟨E2, k2, rfl, hown, hb⟩
             have hs2 := (((Below.refl v1.heap.size v1).alloc (Nat.le_refl _) (.cells #[.int .i64 0, .slice none 0 0] 25)).drew).trans (hb.mono (((Below.refl v1.heap.size v1).alloc (Nat.le_refl _) (.cells #[.int .i64 0, .slice none 0 0] 25)).drew).size)
             have o1 := own_below o1 hs2
             have o2 := own_base hown (base' := w16.heap.size) (hV1.trans ((((Below.refl v1.heap.size v1).alloc (Nat.le_refl _) (.cells #[.int .i64 0, .slice none 0 0] 25)).drew).mono hV1.size)).size
             have hV2 := hV1.trans (hs2.mono hV1.size)
             have h6 : EB v2 25 v1.heap.size 0 (.slice none 0 0) := EB.below (w := ((v1.alloc (.cells #[.int .i64 0, .slice none 0 0] 25)).drew)) (EB.new v1 25 0 (.slice none 0 0)) hb
             (first | (obtain ⟨t0, t1, t2, t3⟩ := h6.facts) | skip)
             have qa2 := bxi0.below hV2
             have qb2 := bxi1.below hV2
             obtain ⟨y0, y1, -, -⟩ := qa2.facts
             obtain ⟨z0, z1, -, -⟩ := qb2.facts
             have hz2 := hV2.size
             clear hb hown)
          | (go_at_call 18
             with_reducible show Calls _ _ #[.agg #[.int .i64 b1, .slice a1 n1 cap1]] (v1.alloc (.cells #[.int .i64 0, .slice none 0 0] 25)) _
             refine (toled_any b1 a1 n1 cap1 p1 _ (hxb.on (hV1.trans (((Below.refl v1.heap.size v1).alloc (Nat.le_refl _) (.cells #[.int .i64 0, .slice none 0 0] 25)).mono hV1.size))) HL1.out (by omega)).mono ?_
             rintro e v2 ⟨E2, k2, rfl, hown, hb⟩
             have hs2 := ((Below.refl v1.heap.size v1).alloc (Nat.le_refl _) (.cells #[.int .i64 0, .slice none 0 0] 25)).trans (hb.mono ((Below.refl v1.heap.size v1).alloc (Nat.le_refl _) (.cells #[.int .i64 0, .slice none 0 0] 25)).size)
             have o1 := own_below o1 hs2
             have o2 := own_base hown (base' := w16.heap.size) (hV1.trans (((Below.refl v1.heap.size v1).alloc (Nat.le_refl _) (.cells #[.int .i64 0, .slice none 0 0] 25)).mono hV1.size)).size
             have hV2 := hV1.trans (hs2.mono hV1.size)
             have h6 : EB v2 25 v1.heap.size 0 (.slice none 0 0) := EB.below (w := (v1.alloc (.cells #[.int .i64 0, .slice none 0 0] 25))) (EB.new v1 25 0 (.slice none 0 0)) hb
             (first | (obtain ⟨t0, t1, t2, t3⟩ := h6.facts) | skip)
             have qa2 := bxi0.below hV2
             have qb2 := bxi1.below hV2
             obtain ⟨y0, y1, -, -⟩ := qa2.facts
             obtain ⟨z0, z1, -, -⟩ := qb2.facts
             have hz2 := hV2.size
             clear hb hown)
          | (go_at_call 12
             with_reducible show Calls _ _ #[.agg #[.int .i64 b0, .slice E1 n0 k1], .agg #[.int .i64 b1, .slice E2 n1 k2]] (v2.drew) _
             refine (join_r b0 E1 n0 k1 p0 b1 E2 n1 k2 p1 _ (Recs.of_own ef_len (own_below o1 ((Below.refl v2.heap.size v2).drew)) (by omega)).2 (Recs.of_own ef_len (own_below o2 ((Below.refl v2.heap.size v2).drew)) (by omega)).2 HL0.out (by omega) HL1.out (by omega) HR.out HN.out).mono ?_
             rintro e v3 ⟨E3, k3, rfl, hown, hb⟩
             have hs3 := ((Below.refl v2.heap.size v2).drew).trans (hb.mono ((Below.refl v2.heap.size v2).drew).size)
             have o1 := own_below o1 hs3
             have o2 := own_below o2 hs3
             have o3 := own_base hown (base' := w16.heap.size) (hV2.trans (((Below.refl v2.heap.size v2).drew).mono hV2.size)).size
             have hV3 := hV2.trans (hs3.mono hV2.size)
             (first | (have h6 := h6.below hs3) | skip)
             (first | (obtain ⟨t0, t1, t2, t3⟩ := h6.facts) | skip)
             have qa3 := bxi0.below hV3
             have qb3 := bxi1.below hV3
             obtain ⟨y0, y1, -, -⟩ := qa3.facts
             obtain ⟨z0, z1, -, -⟩ := qb3.facts
             have hz3 := hV3.size
             clear hb hown)
          | (go_at_call 12
             with_reducible show Calls _ _ #[.agg #[.int .i64 b0, .slice E1 n0 k1], .agg #[.int .i64 b1, .slice E2 n1 k2]] v2 _
             refine (join_r b0 E1 n0 k1 p0 b1 E2 n1 k2 p1 _ (Recs.of_own ef_len (own_below o1 (Below.refl v2.heap.size v2)) (by omega)).2 (Recs.of_own ef_len (own_below o2 (Below.refl v2.heap.size v2)) (by omega)).2 HL0.out (by omega) HL1.out (by omega) HR.out HN.out).mono ?_
             rintro e v3 ⟨E3, k3, rfl, hown, hb⟩
             have hs3 := (Below.refl v2.heap.size v2).trans (hb.mono (Below.refl v2.heap.size v2).size)
             have o1 := own_below o1 hs3
             have o2 := own_below o2 hs3
             have o3 := own_base hown (base' := w16.heap.size) (hV2.trans ((Below.refl v2.heap.size v2).mono hV2.size)).size
             have hV3 := hV2.trans (hs3.mono hV2.size)
             (first | (have h6 := h6.below hs3) | skip)
             (first | (obtain ⟨t0, t1, t2, t3⟩ := h6.facts) | skip)
             have qa3 := bxi0.below hV3
             have qb3 := bxi1.below hV3
             obtain ⟨y0, y1, -, -⟩ := qa3.facts
             obtain ⟨z0, z1, -, -⟩ := qb3.facts
             have hz3 := hV3.size
             clear hb hown)
          | (go_at_call 12
             with_reducible show Calls _ _ #[.agg #[.int .i64 b0, .slice E1 n0 k1], .agg #[.int .i64 b1, .slice E2 n1 k2]] ((v2.alloc (.cells #[.int .i64 0, .slice none 0 0] 25)).drew) _
             refine (join_r b0 E1 n0 k1 p0 b1 E2 n1 k2 p1 _ (Recs.of_own ef_len (own_below o1 (((Below.refl v2.heap.size v2).alloc (Nat.le_refl _) (.cells #[.int .i64 0, .slice none 0 0] 25)).drew)) (by omega)).2 (Recs.of_own ef_len (own_below o2 (((Below.refl v2.heap.size v2).alloc (Nat.le_refl _) (.cells #[.int .i64 0, .slice none 0 0] 25)).drew)) (by omega)).2 HL0.out (by omega) HL1.out (by omega) HR.out HN.out).mono ?_
             rintro e v3 ⟨E3, k3, rfl, hown, hb⟩
             have hs3 := (((Below.refl v2.heap.size v2).alloc (Nat.le_refl _) (.cells #[.int .i64 0, .slice none 0 0] 25)).drew).trans (hb.mono (((Below.refl v2.heap.size v2).alloc (Nat.le_refl _) (.cells #[.int .i64 0, .slice none 0 0] 25)).drew).size)
             have o1 := own_below o1 hs3
             have o2 := own_below o2 hs3
             have o3 := own_base hown (base' := w16.heap.size) (hV2.trans ((((Below.refl v2.heap.size v2).alloc (Nat.le_refl _) (.cells #[.int .i64 0, .slice none 0 0] 25)).drew).mono hV2.size)).size
             have hV3 := hV2.trans (hs3.mono hV2.size)
             have h6 : EB v3 25 v2.heap.size 0 (.slice none 0 0) := EB.below (w := ((v2.alloc (.cells #[.int .i64 0, .slice none 0 0] 25)).drew)) (EB.new v2 25 0 (.slice none 0 0)) hb
             (first | (obtain ⟨t0, t1, t2, t3⟩ := h6.facts) | skip)
             have qa3 := bxi0.below hV3
             have qb3 := bxi1.below hV3
             obtain ⟨y0, y1, -, -⟩ := qa3.facts
             obtain ⟨z0, z1, -, -⟩ := qb3.facts
             have hz3 := hV3.size
             clear hb hown)
          | (go_at_call 12
             with_reducible show Calls _ _ #[.agg #[.int .i64 b0, .slice E1 n0 k1], .agg #[.int .i64 b1, .slice E2 n1 k2]] (v2.alloc (.cells #[.int .i64 0, .slice none 0 0] 25)) _
             refine (join_r b0 E1 n0 k1 p0 b1 E2 n1 k2 p1 _ (Recs.of_own ef_len (own_below o1 ((Below.refl v2.heap.size v2).alloc (Nat.le_refl _) (.cells #[.int .i64 0, .slice none 0 0] 25))) (by omega)).2 (Recs.of_own ef_len (own_below o2 ((Below.refl v2.heap.size v2).alloc (Nat.le_refl _) (.cells #[.int .i64 0, .slice none 0 0] 25))) (by omega)).2 HL0.out (by omega) HL1.out (by omega) HR.out HN.out).mono ?_
             rintro e v3 ⟨E3, k3, rfl, hown, hb⟩
             have hs3 := ((Below.refl v2.heap.size v2).alloc (Nat.le_refl _) (.cells #[.int .i64 0, .slice none 0 0] 25)).trans (hb.mono ((Below.refl v2.heap.size v2).alloc (Nat.le_refl _) (.cells #[.int .i64 0, .slice none 0 0] 25)).size)
             have o1 := own_below o1 hs3
             have o2 := own_below o2 hs3
             have o3 := own_base hown (base' := w16.heap.size) (hV2.trans (((Below.refl v2.heap.size v2).alloc (Nat.le_refl _) (.cells #[.int .i64 0, .slice none 0 0] 25)).mono hV2.size)).size
             have hV3 := hV2.trans (hs3.mono hV2.size)
             have h6 : EB v3 25 v2.heap.size 0 (.slice none 0 0) := EB.below (w := (v2.alloc (.cells #[.int .i64 0, .slice none 0 0] 25))) (EB.new v2 25 0 (.slice none 0 0)) hb
             (first | (obtain ⟨t0, t1, t2, t3⟩ := h6.facts) | skip)
             have qa3 := bxi0.below hV3
             have qb3 := bxi1.below hV3
             obtain ⟨y0, y1, -, -⟩ := qa3.facts
             obtain ⟨z0, z1, -, -⟩ := qb3.facts
             have hz3 := hV3.size
             clear hb hown))
      all_goals
        go_wp2_with fail
        go_meet
        first
          | exact rj_1 h6 o3 hV3 (by omega)
          | exact rj_2 o3 hV3
    case rest =>
      obtain ⟨gh0, Dh, ch, rfl, rfl, hbx, hown, hb⟩ := hcut
      clear hxa hxb
      have a_w0_h0 := own_apart w0 hown
      have a_h0_w0 := own_apart2 w0 hown
      have a_g0_h0 := own_apart g0 hown
      have a_h0_g0 := own_apart2 g0 hown
      have h0 := own_base hown (base' := W0.heap.size) hB.size
      clear hown
      have hB := below_next hB hb
      have bxi0 := bxi0.below hb
      have bxi1 := bxi1.below hb
      have bxw0 := bxw0.below hb
      have bxx0 := bxx0.below hb
      have bxx1 := bxx1.below hb
      have bxg0 := bxg0.below hb
      have w0 := own_below w0 hb
      have g0 := own_below g0 hb
      have bxh0 := hbx
      clear hb hbx
      clear pi00 pi01 pi10 pi11
      obtain ⟨pi00, pi01, -, -⟩ := bxi0.facts
      obtain ⟨pi10, pi11, -, -⟩ := bxi1.facts
      obtain ⟨pw00, pw01, -, -⟩ := bxw0.facts
      obtain ⟨px00, px01, -, -⟩ := bxx0.facts
      obtain ⟨px10, px11, -, -⟩ := bxx1.facts
      obtain ⟨pg00, pg01, -, -⟩ := bxg0.facts
      obtain ⟨ph00, ph01, -, -⟩ := bxh0.facts
      go_wp2_with fail
      refine (eqled_t rb Dh Dw nr ch cw rs _ ((Recs.of_own ef_len h0 (by omega)).2) ((Recs.of_own ef_len w0 (by omega)).2) HN.out (by omega)).mono ?_
      rintro e w18 ⟨rfl, hb⟩
      have hB := below_next hB hb
      have bxi0 := bxi0.below hb
      have bxi1 := bxi1.below hb
      have bxw0 := bxw0.below hb
      have bxx0 := bxx0.below hb
      have bxx1 := bxx1.below hb
      have bxg0 := bxg0.below hb
      have bxh0 := bxh0.below hb
      have w0 := own_below w0 hb
      have g0 := own_below g0 hb
      have h0 := own_below h0 hb
      clear hb
      clear pi00 pi01 pi10 pi11 pw00 pw01 px00 px01 px10 px11 pg00 pg01 ph00 ph01
      obtain ⟨pi00, pi01, -, -⟩ := bxi0.facts
      obtain ⟨pi10, pi11, -, -⟩ := bxi1.facts
      obtain ⟨pw00, pw01, -, -⟩ := bxw0.facts
      obtain ⟨px00, px01, -, -⟩ := bxx0.facts
      obtain ⟨px10, px11, -, -⟩ := bxx1.facts
      obtain ⟨pg00, pg01, -, -⟩ := bxg0.facts
      obtain ⟨ph00, ph01, -, -⟩ := bxh0.facts
      go_wp2_with fail
      refine (heldl_any rb Dg nr cg 1 _ ((Recs.of_own ef_len g0 (by omega)).2) (by omega) (by omega) (by omega)).mono ?_
      rintro e w19 ⟨rfl, hb⟩
      have hB := below_next hB hb
      have bxi0 := bxi0.below hb
      have bxi1 := bxi1.below hb
      have bxw0 := bxw0.below hb
      have bxx0 := bxx0.below hb
      have bxx1 := bxx1.below hb
      have bxg0 := bxg0.below hb
      have bxh0 := bxh0.below hb
      have w0 := own_below w0 hb
      have g0 := own_below g0 hb
      have h0 := own_below h0 hb
      clear hb
      clear pi00 pi01 pi10 pi11 pw00 pw01 px00 px01 px10 px11 pg00 pg01 ph00 ph01
      obtain ⟨pi00, pi01, -, -⟩ := bxi0.facts
      obtain ⟨pi10, pi11, -, -⟩ := bxi1.facts
      obtain ⟨pw00, pw01, -, -⟩ := bxw0.facts
      obtain ⟨px00, px01, -, -⟩ := bxx0.facts
      obtain ⟨px10, px11, -, -⟩ := bxx1.facts
      obtain ⟨pg00, pg01, -, -⟩ := bxg0.facts
      obtain ⟨ph00, ph01, -, -⟩ := bxh0.facts
      go_wp2_with fail
      go_ret
      exact ⟨rfl, hBW.trans (hB.mono hBW.size)⟩
end Go.Proofs.Ytjelmfdhkdehkaa
