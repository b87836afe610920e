/-
  The walk of the reference's LedgerJoin.
-/
import Derived.Test.YtjelmfdhkdehkaaJoin
import Derived.Deep.DeepCutAuto
namespace Go.Proofs.Ytjelmfdhkdehkaa
open Go.RowKit
attribute [local go_sem ↓] Go.wp_at_zero Go.wp_at_succ

theorem keep_below4 {w w2 : World} {g0 g1 : Nat} {t : TypeId} {b0 b1 : Int} {v0 v1 : Value} (ea : EB w2 t g0 b0 v0) (eb : EB w2 t g1 b1 v1) (h : Below w2.heap.size w2 w) (_h0 : g0 < w2.heap.size) (_h1 : g1 < w2.heap.size) :
    w.cell? ⟨g0, 0, none⟩ = some (.int .i64 b0) ∧ w.cell? ⟨g0, 1, none⟩ = some v0 ∧ w.cell? ⟨g1, 0, none⟩ = some (.int .i64 b1) ∧ w.cell? ⟨g1, 1, none⟩ = some v1 := by
  obtain ⟨a, b, -, -⟩ := (ea.below h).facts
  obtain ⟨c, d, -, -⟩ := (eb.below h).facts
  exact ⟨a, b, c, d⟩
/-- What the statement that makes the joined ledger leaves. -/
def CutJ (b : Int) (es : List (Int × Int)) (n : Nat) (w1 : World) (s6 : Value) (wx : World) : Prop :=
  ∃ (g : Nat) (D : Option Addr) (c : Nat), s6 = .pointer (some ⟨g, 0, none⟩) ∧ wx.cell? ⟨g, 0, none⟩ = some (.int .i64 b) ∧ wx.cell? ⟨g, 1, none⟩ = some (.slice D n c) ∧ wx.ownsRow w1.heap.size 52 2 (.slice D n c) n (flat ef es) ∧ Below w1.heap.size w1 wx
theorem cutj_1 {b : Int} {es : List (Int × Int)} {n g c : Nat} {w1 w4 : World} {D : Option Addr} (h : NewL w4 g) (ho : w4.ownsRow w1.heap.size 52 2 (.slice D n c) n (flat ef es)) (hb : Below w1.heap.size w1 w4) (hg : w1.heap.size ≤ g) :
    CutJ b es n w1 (.pointer (some ⟨g, 0, none⟩)) ((w4.setCell ⟨g, 0, none⟩ (.int .i64 b)).setCell ⟨g, 1, none⟩ (.slice D n c)) := by
  have h1 := heap_setCell_same w4 g 0 _ _ (.int .i64 b) h
  have h2 := heap_setCell_same (w4.setCell ⟨g, 0, none⟩ (.int .i64 b)) g 1 _ _ (.slice D n c) h1
  exact ⟨g, D, c, rfl, by rw [cell_of_row _ g 0 _ _ _ h2]; rfl, by rw [cell_of_row _ g 1 _ _ _ h2]; rfl, own_store (own_store ho h (by decide)) h1 (by decide), (hb.setCell hg _).setCell hg _⟩
theorem cutj_2 {b : Int} {es : List (Int × Int)} {n c : Nat} {w1 w4 : World} {D : Option Addr} (ho : w4.ownsRow w1.heap.size 52 2 (.slice D n c) n (flat ef es)) (hb : Below w1.heap.size w1 w4) :
    CutJ b es n w1 (.pointer (some ⟨w4.heap.size, 0, none⟩)) (w4.alloc (.cells #[.int .i64 b, .slice D n c] 25)) :=
  ⟨w4.heap.size, D, c, rfl, by simp, by simp, ho.alloc _, hb.alloc hb.size _⟩

set_option maxHeartbeats 8000000 in
/-- spec.LedgerJoin. -/
theorem sjoin_r (ba : Int) (A1 : Option Addr) (n c1 : Nat) (es : List (Int × Int)) (bb : Int) (A2 : Option Addr) (m c2 : Nat) (fs : List (Int × Int)) (w : World) (hx : Recs ef 2 w w.heap.size A1 es) (hy : Recs ef 2 w w.heap.size A2 fs) (hn : es.length = n) (bn : n ≤ 1048576) (hm : fs.length = m) (bm : m ≤ 1048576)
    {rb : Int} {rs : List (Int × Int)} {nr : Nat} {ok : Bool} (hR : joinR ba es bb fs = (rb, rs, ok)) (hnr : rs.length = nr) :
    Calls Try.prog 13 #[.agg #[.int .i64 ba, .slice A1 n c1], .agg #[.int .i64 bb, .slice A2 m c2]] w (ResQ rb rs nr ok w) := by
  obtain ⟨i0, hi0, hz0, hz1, hz2⟩ := info_parts en_info
  have HN := Lib.hid hn
  have HM := Lib.hid hm
  have HR := Lib.hid hR
  have HNR := Lib.hid hnr
  clear hn hm hR hnr
  have hbw : Below w.heap.size w (((w.alloc (.cells #[.int .i64 ba, .slice A1 n c1] 25)).alloc (.cells #[.int .i64 bb, .slice A2 m c2] 25)).alloc (.cells #[.int .i64 0, .slice none 0 0] 25)) := below_three w _ _ _
  have ea : EB (((w.alloc (.cells #[.int .i64 ba, .slice A1 n c1] 25)).alloc (.cells #[.int .i64 bb, .slice A2 m c2] 25)).alloc (.cells #[.int .i64 0, .slice none 0 0] 25)) 25 w.heap.size ba (.slice A1 n c1) := ((EB.new w _ _ _).alloc _).alloc _
  have eb : EB (((w.alloc (.cells #[.int .i64 ba, .slice A1 n c1] 25)).alloc (.cells #[.int .i64 bb, .slice A2 m c2] 25)).alloc (.cells #[.int .i64 0, .slice none 0 0] 25)) 25 (w.heap.size + 1) bb (.slice A2 m c2) := EB.alloc (by have := EB.new (w.alloc (.cells #[.int .i64 ba, .slice A1 n c1] 25)) 25 bb (.slice A2 m c2); simpa using this) _
  have er : EB (((w.alloc (.cells #[.int .i64 ba, .slice A1 n c1] 25)).alloc (.cells #[.int .i64 bb, .slice A2 m c2] 25)).alloc (.cells #[.int .i64 0, .slice none 0 0] 25)) 25 (w.heap.size + 2) 0 (.slice none 0 0) := by have := EB.new ((w.alloc (.cells #[.int .i64 ba, .slice A1 n c1] 25)).alloc (.cells #[.int .i64 bb, .slice A2 m c2] 25)) 25 0 (.slice none 0 0); simpa using this
  obtain ⟨W0, HW0⟩ : ∃ W, Hid ((((w.alloc (.cells #[.int .i64 ba, .slice A1 n c1] 25)).alloc (.cells #[.int .i64 bb, .slice A2 m c2] 25)).alloc (.cells #[.int .i64 0, .slice none 0 0] 25)) = W) := ⟨_, Lib.hid rfl⟩
  rw [HW0.out] at hbw ea eb er
  have hz : w.heap.size + 3 ≤ W0.heap.size := by rw [← HW0.out]; simp
  go_enter Try.func13, Try.ntmps13
  go_wp2_with fail
  rw [HW0.out]
  refine (svalid_any ba A1 n c1 es _ (hx.on hbw) HN.out (by omega)).mono ?_
  rintro e w1 ⟨rfl, hb1⟩
  have ea := ea.below hb1
  have eb := eb.below hb1
  have er := er.below hb1
  have hbw := below_next hbw hb1
  have hz : w.heap.size + 3 ≤ w1.heap.size := Nat.le_trans hz hb1.size
  clear hb1
  obtain ⟨a0, a1, -, -⟩ := ea.facts
  obtain ⟨b0, b1, -, -⟩ := eb.facts
  obtain ⟨r0, r1, r2, r3⟩ := er.facts
  cases h1 : ldB ba es
  · have HJ := joinR_f (a := ba) (es := es) (b := bb) (fs := fs) (.inl h1)
    rw [HR.out] at HJ
    obtain ⟨rfl, rfl, rfl⟩ : rb = 0 ∧ rs = [] ∧ ok = false := by simpa using HJ
    obtain rfl : nr = 0 := HNR.out.symm
    clear HJ HR HNR
    go_wp2_with fail
    refine bodyPost_ret (v := .tuple #[.agg #[.int .i64 0, .slice none 0 0], .bool false]) (by simp [results, Try.results13, go_sem, *]) rfl ?_
    exact ⟨none, 0, rfl, World.ownsRow_nil _ _ _ _, (hbw.setCell (by show _ ≤ w.heap.size + 2; omega) _).setCell (by show _ ≤ w.heap.size + 2; omega) _⟩
  go_wp2_with fail
  refine (svalid_any bb A2 m c2 fs _ (hy.on hbw) HM.out (by omega)).mono ?_
  rintro e w2 ⟨rfl, hb1⟩
  have ea := ea.below hb1
  have eb := eb.below hb1
  have er := er.below hb1
  have hbw := below_next hbw hb1
  have hz : w.heap.size + 3 ≤ w2.heap.size := Nat.le_trans hz hb1.size
  clear hb1 a0 a1 b0 b1 r0 r1 r2 r3
  obtain ⟨a0, a1, -, -⟩ := ea.facts
  obtain ⟨b0, b1, -, -⟩ := eb.facts
  obtain ⟨r0, r1, r2, r3⟩ := er.facts
  cases h2 : ldB bb fs
  · have HJ := joinR_f (a := ba) (es := es) (b := bb) (fs := fs) (.inr h2)
    rw [HR.out] at HJ
    obtain ⟨rfl, rfl, rfl⟩ : rb = 0 ∧ rs = [] ∧ ok = false := by simpa using HJ
    obtain rfl : nr = 0 := HNR.out.symm
    clear HJ HR HNR
    go_wp2_with fail
    refine bodyPost_ret (v := .tuple #[.agg #[.int .i64 0, .slice none 0 0], .bool false]) (by simp [results, Try.results13, go_sem, *]) rfl ?_
    exact ⟨none, 0, rfl, World.ownsRow_nil _ _ _ _, (hbw.setCell (by show _ ≤ w.heap.size + 2; omega) _).setCell (by show _ ≤ w.heap.size + 2; omega) _⟩
  obtain ⟨mn, hmn⟩ : ∃ mn, mn = min ba bb := ⟨_, rfl⟩
  have HMN := Lib.hid hmn
  have HL := Lib.hid (show (es ++ fs).length = n + m by rw [List.length_append, HN.out, HM.out])
  have HF := Lib.hid (flat_append ef es fs).symm
  have hx2 := hx.on hbw
  have hy2 := hy.on hbw
  have q1 : n + m ≤ maxLen := by simp only [maxLen]; omega
  have q2 : (n + m) * 16 ≤ 140737488355328 := by omega
  have q4 := flat_one_cell ef_one es
  have q7 := flat_one_cell ef_one fs
  have q5 : n ≤ maxLen := by simp only [maxLen]; omega
  have q6 : n * 16 ≤ 140737488355328 := by omega
  have ea2 := ea
  have eb2 := eb
  clear hx hy
  by_cases hlt : bb < ba
  · have hmin : mn = bb := by rw [hmn]; omega
    clear hmn
    subst hmin
    go_upto_region 3 with fail
    go_cut [6] (fun s6 wx => CutJ mn (es ++ fs) (n + m) w2 s6 wx)
    case first =>
      go_region_held3 (fun w' => w'.cell? ⟨w.heap.size, 0, none⟩ = some (.int .i64 ba) ∧ w'.cell? ⟨w.heap.size, 1, none⟩ = some (.slice A1 n c1) ∧ w'.cell? ⟨w.heap.size + 1, 0, none⟩ = some (.int .i64 mn) ∧ w'.cell? ⟨w.heap.size + 1, 1, none⟩ = some (.slice A2 m c2)) (first | (go_keep; done) | exact keep_far4 (by assumption) (by assumption) (by assumption) (by assumption) (by omega) (by omega) | exact keep_below4 ea2 eb2 ((((Below.refl _ w2).alloc (Nat.le_refl _) _).alloc (by simp) _).drew) (by omega) (by omega) | exact keep_below4 ea2 eb2 (((Below.refl _ w2).alloc (Nat.le_refl _) _).drew) (by omega) (by omega) | exact keep_below4 ea2 eb2 (hbc.alloc hbc.size _) (by omega) (by omega) | exact keep_below4 ea2 eb2 (hbd.alloc hbd.size _) (by omega) (by omega))
        (first
        | (with_reducible show @ite _ (Region.wanted ⟨some 24, _, _, _, _, _⟩ _ = true) _ (Oper.wp _ _ _ ((w2.alloc (.cells #[] 52)).drew) _ _) _
           refine step_app (o := ⟨some 24, _, _, _, _, _⟩) ((w2.alloc (.cells #[] 52)).drew) (by rfl) (.tmp 21) (.tmp 23) 23 (by rfl) 52 i0 (.agg #[.int .i64 0, .int .i64 0]) 2 16 Try.underlying23 hi0 hz0 hz1 hz2 rfl (by decide) (((Below.refl _ w2).alloc (Nat.le_refl _) _).drew) _ 0 [] (by rfl) ((made_at (w := w2) (g := w2.heap.size) rfl (Nat.le_refl _)).drew) _ n _ (flat ef es) (by rfl) ((hx2.on (((Below.refl _ w2).alloc (Nat.le_refl _) _).drew)).src ef_len HN.out) q4 n (Nat.zero_add n) q5 q6 _ rfl ?_
           intro D2 c3 w3 ho18 hg3 hown3 hbc
           have hz3 := hbc.size
           have ea := ea.below hbc
           have eb := eb.below hbc
           obtain ⟨x0, x1, -, -⟩ := ea.facts
           obtain ⟨y0, y1, -, -⟩ := eb.facts
           clear hg3 ho18)
        | (with_reducible show @ite _ (Region.wanted ⟨some 24, _, _, _, _, _⟩ _ = true) _ (Oper.wp _ _ _ (((w2.alloc (.cells #[] 52)).alloc (.cells #[.int .i64 0, .slice none 0 0] 25)).drew) _ _) _
           refine step_app (o := ⟨some 24, _, _, _, _, _⟩) (((w2.alloc (.cells #[] 52)).alloc (.cells #[.int .i64 0, .slice none 0 0] 25)).drew) (by rfl) (.tmp 21) (.tmp 23) 23 (by rfl) 52 i0 (.agg #[.int .i64 0, .int .i64 0]) 2 16 Try.underlying23 hi0 hz0 hz1 hz2 rfl (by decide) ((((Below.refl _ w2).alloc (Nat.le_refl _) _).alloc (by simp) _).drew) _ 0 [] (by rfl) (((made_at (w := w2) (g := w2.heap.size) rfl (Nat.le_refl _)).alloc _).drew) _ n _ (flat ef es) (by rfl) ((hx2.on ((((Below.refl _ w2).alloc (Nat.le_refl _) _).alloc (by simp) _).drew)).src ef_len HN.out) q4 n (Nat.zero_add n) q5 q6 _ rfl ?_
           intro D2 c3 w3 ho18 hg3 hown3 hbc
           have h8 : NewL w3 (w2.heap.size + 1) := NewL.app (w := (((w2.alloc (.cells #[] 52)).alloc (.cells #[.int .i64 0, .slice none 0 0] 25)).drew)) (by have h := NewL.new (w2.alloc (.cells #[] 52)); rw [World.size_alloc] at h; exact h) ho18 hg3
           have hz3 := hbc.size
           have ea := ea.below hbc
           have eb := eb.below hbc
           obtain ⟨x0, x1, -, -⟩ := ea.facts
           obtain ⟨y0, y1, -, -⟩ := eb.facts
           clear hg3 ho18)
        | (with_reducible show @ite _ (Region.wanted ⟨some 24, _, _, _, _, _⟩ _ = true) _ (Oper.wp _ _ _ (((w2.alloc (.cells #[.int .i64 0, .slice none 0 0] 25)).alloc (.cells #[] 52)).drew) _ _) _
           refine step_app (o := ⟨some 24, _, _, _, _, _⟩) (((w2.alloc (.cells #[.int .i64 0, .slice none 0 0] 25)).alloc (.cells #[] 52)).drew) (by rfl) (.tmp 21) (.tmp 23) 23 (by rfl) 52 i0 (.agg #[.int .i64 0, .int .i64 0]) 2 16 Try.underlying23 hi0 hz0 hz1 hz2 rfl (by decide) ((((Below.refl _ w2).alloc (Nat.le_refl _) _).alloc (by simp) _).drew) _ 0 [] (by rfl) ((made_at (w := w2.alloc (.cells #[.int .i64 0, .slice none 0 0] 25)) (g := w2.heap.size + 1) (by simp) (by omega)).drew) _ n _ (flat ef es) (by rfl) ((hx2.on ((((Below.refl _ w2).alloc (Nat.le_refl _) _).alloc (by simp) _).drew)).src ef_len HN.out) q4 n (Nat.zero_add n) q5 q6 _ rfl ?_
           intro D2 c3 w3 ho18 hg3 hown3 hbc
           have h8 : NewL w3 w2.heap.size := NewL.app (w := (((w2.alloc (.cells #[.int .i64 0, .slice none 0 0] 25)).alloc (.cells #[] 52)).drew)) ((NewL.new w2).alloc _) ho18 hg3
           have hz3 := hbc.size
           have ea := ea.below hbc
           have eb := eb.below hbc
           obtain ⟨x0, x1, -, -⟩ := ea.facts
           obtain ⟨y0, y1, -, -⟩ := eb.facts
           clear hg3 ho18)
        | (with_reducible show @ite _ (Region.wanted ⟨some 24, _, _, _, _, _⟩ _ = true) _ (Oper.wp _ _ _ (w2.alloc (.cells #[] 52)) _ _) _
           refine step_app (o := ⟨some 24, _, _, _, _, _⟩) (w2.alloc (.cells #[] 52)) (by rfl) (.tmp 21) (.tmp 23) 23 (by rfl) 52 i0 (.agg #[.int .i64 0, .int .i64 0]) 2 16 Try.underlying23 hi0 hz0 hz1 hz2 rfl (by decide) ((Below.refl _ w2).alloc (Nat.le_refl _) _) _ 0 [] (by rfl) (made_at (w := w2) (g := w2.heap.size) rfl (Nat.le_refl _)) _ n _ (flat ef es) (by rfl) ((hx2.on ((Below.refl _ w2).alloc (Nat.le_refl _) _)).src ef_len HN.out) q4 n (Nat.zero_add n) q5 q6 _ rfl ?_
           intro D2 c3 w3 ho18 hg3 hown3 hbc
           have hz3 := hbc.size
           have ea := ea.below hbc
           have eb := eb.below hbc
           obtain ⟨x0, x1, -, -⟩ := ea.facts
           obtain ⟨y0, y1, -, -⟩ := eb.facts
           clear hg3 ho18)
        | (with_reducible show @ite _ (Region.wanted ⟨some 24, _, _, _, _, _⟩ _ = true) _ (Oper.wp _ _ _ ((w2.alloc (.cells #[] 52)).alloc (.cells #[.int .i64 0, .slice none 0 0] 25)) _ _) _
           refine step_app (o := ⟨some 24, _, _, _, _, _⟩) ((w2.alloc (.cells #[] 52)).alloc (.cells #[.int .i64 0, .slice none 0 0] 25)) (by rfl) (.tmp 21) (.tmp 23) 23 (by rfl) 52 i0 (.agg #[.int .i64 0, .int .i64 0]) 2 16 Try.underlying23 hi0 hz0 hz1 hz2 rfl (by decide) (((Below.refl _ w2).alloc (Nat.le_refl _) _).alloc (by simp) _) _ 0 [] (by rfl) ((made_at (w := w2) (g := w2.heap.size) rfl (Nat.le_refl _)).alloc _) _ n _ (flat ef es) (by rfl) ((hx2.on (((Below.refl _ w2).alloc (Nat.le_refl _) _).alloc (by simp) _)).src ef_len HN.out) q4 n (Nat.zero_add n) q5 q6 _ rfl ?_
           intro D2 c3 w3 ho18 hg3 hown3 hbc
           have h8 : NewL w3 (w2.heap.size + 1) := NewL.app (w := ((w2.alloc (.cells #[] 52)).alloc (.cells #[.int .i64 0, .slice none 0 0] 25))) (by have h := NewL.new (w2.alloc (.cells #[] 52)); rw [World.size_alloc] at h; exact h) ho18 hg3
           have hz3 := hbc.size
           have ea := ea.below hbc
           have eb := eb.below hbc
           obtain ⟨x0, x1, -, -⟩ := ea.facts
           obtain ⟨y0, y1, -, -⟩ := eb.facts
           clear hg3 ho18)
        | (with_reducible show @ite _ (Region.wanted ⟨some 24, _, _, _, _, _⟩ _ = true) _ (Oper.wp _ _ _ ((w2.alloc (.cells #[.int .i64 0, .slice none 0 0] 25)).alloc (.cells #[] 52)) _ _) _
           refine step_app (o := ⟨some 24, _, _, _, _, _⟩) ((w2.alloc (.cells #[.int .i64 0, .slice none 0 0] 25)).alloc (.cells #[] 52)) (by rfl) (.tmp 21) (.tmp 23) 23 (by rfl) 52 i0 (.agg #[.int .i64 0, .int .i64 0]) 2 16 Try.underlying23 hi0 hz0 hz1 hz2 rfl (by decide) (((Below.refl _ w2).alloc (Nat.le_refl _) _).alloc (by simp) _) _ 0 [] (by rfl) (made_at (w := w2.alloc (.cells #[.int .i64 0, .slice none 0 0] 25)) (g := w2.heap.size + 1) (by simp) (by omega)) _ n _ (flat ef es) (by rfl) ((hx2.on (((Below.refl _ w2).alloc (Nat.le_refl _) _).alloc (by simp) _)).src ef_len HN.out) q4 n (Nat.zero_add n) q5 q6 _ rfl ?_
           intro D2 c3 w3 ho18 hg3 hown3 hbc
           have h8 : NewL w3 w2.heap.size := NewL.app (w := ((w2.alloc (.cells #[.int .i64 0, .slice none 0 0] 25)).alloc (.cells #[] 52))) ((NewL.new w2).alloc _) ho18 hg3
           have hz3 := hbc.size
           have ea := ea.below hbc
           have eb := eb.below hbc
           obtain ⟨x0, x1, -, -⟩ := ea.facts
           obtain ⟨y0, y1, -, -⟩ := eb.facts
           clear hg3 ho18)
        | (with_reducible show @ite _ (Region.wanted ⟨some 27, _, _, _, _, _⟩ _ = true) _ (Oper.wp _ _ _ ((w3.alloc (.cells #[.int .i64 0, .slice none 0 0] 25)).drew) _ _) _
           refine step_app (o := ⟨some 27, _, _, _, _, _⟩) ((w3.alloc (.cells #[.int .i64 0, .slice none 0 0] 25)).drew) (by rfl) (.tmp 24) (.tmp 26) 23 (by rfl) 52 i0 (.agg #[.int .i64 0, .int .i64 0]) 2 16 Try.underlying23 hi0 hz0 hz1 hz2 rfl (by decide) ((hbc.alloc hbc.size _).drew) _ n (flat ef es) (by rfl) ((hown3.alloc _).drew) _ m _ (flat ef fs) (by rfl) ((hy2.on ((hbc.alloc hbc.size _).drew)).src ef_len HM.out) q7 _ rfl q1 q2 _ HF.out ?_
           intro D3 c4 w4 ho23 hg4 hown4 hbd
           have h9 : NewL w4 w3.heap.size := NewL.app (w := ((w3.alloc (.cells #[.int .i64 0, .slice none 0 0] 25)).drew)) (NewL.new w3) ho23 hg4
           (first | (obtain ⟨s0, s1, s2, s3⟩ := h9.facts) | skip)
           have ea : EB w4 25 w.heap.size _ _ := (hbd.block w.heap.size (by omega)).trans ea2
           have eb : EB w4 25 (w.heap.size + 1) _ _ := (hbd.block (w.heap.size + 1) (by omega)).trans eb2
           obtain ⟨x0, x1, -, -⟩ := ea.facts
           obtain ⟨y0, y1, -, -⟩ := eb.facts
           clear hg4 ho23)
        | (with_reducible show @ite _ (Region.wanted ⟨some 27, _, _, _, _, _⟩ _ = true) _ (Oper.wp _ _ _ (w3.drew) _ _) _
           refine step_app (o := ⟨some 27, _, _, _, _, _⟩) (w3.drew) (by rfl) (.tmp 24) (.tmp 26) 23 (by rfl) 52 i0 (.agg #[.int .i64 0, .int .i64 0]) 2 16 Try.underlying23 hi0 hz0 hz1 hz2 rfl (by decide) (hbc.drew) _ n (flat ef es) (by rfl) (hown3.drew) _ m _ (flat ef fs) (by rfl) ((hy2.on (hbc.drew)).src ef_len HM.out) q7 _ rfl q1 q2 _ HF.out ?_
           intro D3 c4 w4 ho23 hg4 hown4 hbd
           (first | (have h9 := NewL.app (w := (w3.drew)) h8 ho23 hg4) | skip)
           (first | (obtain ⟨s0, s1, s2, s3⟩ := h9.facts) | skip)
           have ea : EB w4 25 w.heap.size _ _ := (hbd.block w.heap.size (by omega)).trans ea2
           have eb : EB w4 25 (w.heap.size + 1) _ _ := (hbd.block (w.heap.size + 1) (by omega)).trans eb2
           obtain ⟨x0, x1, -, -⟩ := ea.facts
           obtain ⟨y0, y1, -, -⟩ := eb.facts
           clear hg4 ho23)
        | (with_reducible show @ite _ (Region.wanted ⟨some 27, _, _, _, _, _⟩ _ = true) _ (Oper.wp _ _ _ (w3.alloc (.cells #[.int .i64 0, .slice none 0 0] 25)) _ _) _
           refine step_app (o := ⟨some 27, _, _, _, _, _⟩) (w3.alloc (.cells #[.int .i64 0, .slice none 0 0] 25)) (by rfl) (.tmp 24) (.tmp 26) 23 (by rfl) 52 i0 (.agg #[.int .i64 0, .int .i64 0]) 2 16 Try.underlying23 hi0 hz0 hz1 hz2 rfl (by decide) (hbc.alloc hbc.size _) _ n (flat ef es) (by rfl) (hown3.alloc _) _ m _ (flat ef fs) (by rfl) ((hy2.on (hbc.alloc hbc.size _)).src ef_len HM.out) q7 _ rfl q1 q2 _ HF.out ?_
           intro D3 c4 w4 ho23 hg4 hown4 hbd
           have h9 : NewL w4 w3.heap.size := NewL.app (w := (w3.alloc (.cells #[.int .i64 0, .slice none 0 0] 25))) (NewL.new w3) ho23 hg4
           (first | (obtain ⟨s0, s1, s2, s3⟩ := h9.facts) | skip)
           have ea : EB w4 25 w.heap.size _ _ := (hbd.block w.heap.size (by omega)).trans ea2
           have eb : EB w4 25 (w.heap.size + 1) _ _ := (hbd.block (w.heap.size + 1) (by omega)).trans eb2
           obtain ⟨x0, x1, -, -⟩ := ea.facts
           obtain ⟨y0, y1, -, -⟩ := eb.facts
           clear hg4 ho23)
        | (with_reducible show @ite _ (Region.wanted ⟨some 27, _, _, _, _, _⟩ _ = true) _ (Oper.wp _ _ _ w3 _ _) _
           refine step_app (o := ⟨some 27, _, _, _, _, _⟩) w3 (by rfl) (.tmp 24) (.tmp 26) 23 (by rfl) 52 i0 (.agg #[.int .i64 0, .int .i64 0]) 2 16 Try.underlying23 hi0 hz0 hz1 hz2 rfl (by decide) hbc _ n (flat ef es) (by rfl) hown3 _ m _ (flat ef fs) (by rfl) ((hy2.on hbc).src ef_len HM.out) q7 _ rfl q1 q2 _ HF.out ?_
           intro D3 c4 w4 ho23 hg4 hown4 hbd
           (first | (have h9 := NewL.app (w := w3) h8 ho23 hg4) | skip)
           (first | (obtain ⟨s0, s1, s2, s3⟩ := h9.facts) | skip)
           have ea : EB w4 25 w.heap.size _ _ := (hbd.block w.heap.size (by omega)).trans ea2
           have eb : EB w4 25 (w.heap.size + 1) _ _ := (hbd.block (w.heap.size + 1) (by omega)).trans eb2
           obtain ⟨x0, x1, -, -⟩ := ea.facts
           obtain ⟨y0, y1, -, -⟩ := eb.facts
           clear hg4 ho23))
      all_goals
        go_wp2_with fail
        skip
        go_meet
        first
          | exact cutj_1 h9 hown4 hbd (by omega)
          | exact cutj_2 hown4 hbd
    case rest =>
      obtain ⟨g, D3, c3, rfl, d0, d1, hown4, hbe⟩ := hcut
      clear a0 a1 b0 b1 r0 r1 r2 r3
      go_wp2_with fail
      refine (svalid_any mn D3 (n + m) c3 (es ++ fs) _ (Recs.of_own ef_len hown4 (by omega)).2 HL.out (by omega)).mono ?_
      rintro e w5 ⟨rfl, hb5⟩
      have hbf : Below w2.heap.size w2 w5 := hbe.trans (hb5.mono hbe.size)
      have hown5 := own_below hown4 hb5
      have g0 := (hb5.cell (p := ⟨g, 0, none⟩) (World.block_lt_of_cell? _ _ d0)).trans d0
      have g1 := (hb5.cell (p := ⟨g, 1, none⟩) (World.block_lt_of_cell? _ _ d1)).trans d1
      have er := er.below hbf
      obtain ⟨z0, z1, z2, z3⟩ := er.facts
      clear hb5 hown4 hbe d0 d1
      cases hv2 : ldB mn (es ++ fs)
      · go_wp2_with fail
        refine bodyPost_ret (v := .tuple #[.agg #[.int .i64 0, .slice none 0 0], .bool false]) (by simp [results, Try.results13, go_sem, *]) rfl ?_
        refine resQ_join (D := D3) (c := c3) h1 h2 HR.out HNR.out HN.out HM.out HMN.out (.inr ⟨hv2, rfl, rfl, rfl, rfl⟩) (by rw [hv2]) ?_ ?_
        · exact own_base (ownsRow_setCell_below (ownsRow_setCell_below hown5 (by show w.heap.size + 2 < _; omega) _) (by show w.heap.size + 2 < _; omega) _) (by omega)
        · exact ((hbw.trans (hbf.mono (by omega))).setCell (by show _ ≤ w.heap.size + 2; omega) _).setCell (by show _ ≤ w.heap.size + 2; omega) _
      · go_wp2_with fail
        refine bodyPost_ret (v := .tuple #[.agg #[.int .i64 mn, .slice D3 (n + m) c3], .bool true]) (by simp [results, Try.results13, go_sem, *]) rfl ?_
        refine resQ_join (D := D3) (c := c3) h1 h2 HR.out HNR.out HN.out HM.out HMN.out (.inl ⟨hv2, rfl, rfl, rfl, rfl⟩) (by rw [hv2]) ?_ ?_
        · exact own_base (ownsRow_setCell_below (ownsRow_setCell_below hown5 (by show w.heap.size + 2 < _; omega) _) (by show w.heap.size + 2 < _; omega) _) (by omega)
        · exact ((hbw.trans (hbf.mono (by omega))).setCell (by show _ ≤ w.heap.size + 2; omega) _).setCell (by show _ ≤ w.heap.size + 2; omega) _
  · have hmin : mn = ba := by rw [hmn]; omega
    clear hmn
    subst hmin
    go_upto_region 3 with fail
    go_cut [6] (fun s6 wx => CutJ mn (es ++ fs) (n + m) w2 s6 wx)
    case first =>
      go_region_held3 (fun w' => w'.cell? ⟨w.heap.size, 0, none⟩ = some (.int .i64 mn) ∧ w'.cell? ⟨w.heap.size, 1, none⟩ = some (.slice A1 n c1) ∧ w'.cell? ⟨w.heap.size + 1, 0, none⟩ = some (.int .i64 bb) ∧ w'.cell? ⟨w.heap.size + 1, 1, none⟩ = some (.slice A2 m c2)) (first | (go_keep; done) | exact keep_far4 (by assumption) (by assumption) (by assumption) (by assumption) (by omega) (by omega) | exact keep_below4 ea2 eb2 ((((Below.refl _ w2).alloc (Nat.le_refl _) _).alloc (by simp) _).drew) (by omega) (by omega) | exact keep_below4 ea2 eb2 (((Below.refl _ w2).alloc (Nat.le_refl _) _).drew) (by omega) (by omega) | exact keep_below4 ea2 eb2 (hbc.alloc hbc.size _) (by omega) (by omega) | exact keep_below4 ea2 eb2 (hbd.alloc hbd.size _) (by omega) (by omega))
        (first
        | (with_reducible show @ite _ (Region.wanted ⟨some 24, _, _, _, _, _⟩ _ = true) _ (Oper.wp _ _ _ ((w2.alloc (.cells #[] 52)).drew) _ _) _
           refine step_app (o := ⟨some 24, _, _, _, _, _⟩) ((w2.alloc (.cells #[] 52)).drew) (by rfl) (.tmp 21) (.tmp 23) 23 (by rfl) 52 i0 (.agg #[.int .i64 0, .int .i64 0]) 2 16 Try.underlying23 hi0 hz0 hz1 hz2 rfl (by decide) (((Below.refl _ w2).alloc (Nat.le_refl _) _).drew) _ 0 [] (by rfl) ((made_at (w := w2) (g := w2.heap.size) rfl (Nat.le_refl _)).drew) _ n _ (flat ef es) (by rfl) ((hx2.on (((Below.refl _ w2).alloc (Nat.le_refl _) _).drew)).src ef_len HN.out) q4 n (Nat.zero_add n) q5 q6 _ rfl ?_
           intro D2 c3 w3 ho18 hg3 hown3 hbc
           have hz3 := hbc.size
           have ea := ea.below hbc
           have eb := eb.below hbc
           obtain ⟨x0, x1, -, -⟩ := ea.facts
           obtain ⟨y0, y1, -, -⟩ := eb.facts
           clear hg3 ho18)
        | (with_reducible show @ite _ (Region.wanted ⟨some 24, _, _, _, _, _⟩ _ = true) _ (Oper.wp _ _ _ (((w2.alloc (.cells #[] 52)).alloc (.cells #[.int .i64 0, .slice none 0 0] 25)).drew) _ _) _
           refine step_app (o := ⟨some 24, _, _, _, _, _⟩) (((w2.alloc (.cells #[] 52)).alloc (.cells #[.int .i64 0, .slice none 0 0] 25)).drew) (by rfl) (.tmp 21) (.tmp 23) 23 (by rfl) 52 i0 (.agg #[.int .i64 0, .int .i64 0]) 2 16 Try.underlying23 hi0 hz0 hz1 hz2 rfl (by decide) ((((Below.refl _ w2).alloc (Nat.le_refl _) _).alloc (by simp) _).drew) _ 0 [] (by rfl) (((made_at (w := w2) (g := w2.heap.size) rfl (Nat.le_refl _)).alloc _).drew) _ n _ (flat ef es) (by rfl) ((hx2.on ((((Below.refl _ w2).alloc (Nat.le_refl _) _).alloc (by simp) _).drew)).src ef_len HN.out) q4 n (Nat.zero_add n) q5 q6 _ rfl ?_
           intro D2 c3 w3 ho18 hg3 hown3 hbc
           have h8 : NewL w3 (w2.heap.size + 1) := NewL.app (w := (((w2.alloc (.cells #[] 52)).alloc (.cells #[.int .i64 0, .slice none 0 0] 25)).drew)) (by have h := NewL.new (w2.alloc (.cells #[] 52)); rw [World.size_alloc] at h; exact h) ho18 hg3
           have hz3 := hbc.size
           have ea := ea.below hbc
           have eb := eb.below hbc
           obtain ⟨x0, x1, -, -⟩ := ea.facts
           obtain ⟨y0, y1, -, -⟩ := eb.facts
           clear hg3 ho18)
        | (with_reducible show @ite _ (Region.wanted ⟨some 24, _, _, _, _, _⟩ _ = true) _ (Oper.wp _ _ _ (((w2.alloc (.cells #[.int .i64 0, .slice none 0 0] 25)).alloc (.cells #[] 52)).drew) _ _) _
           refine step_app (o := ⟨some 24, _, _, _, _, _⟩) (((w2.alloc (.cells #[.int .i64 0, .slice none 0 0] 25)).alloc (.cells #[] 52)).drew) (by rfl) (.tmp 21) (.tmp 23) 23 (by rfl) 52 i0 (.agg #[.int .i64 0, .int .i64 0]) 2 16 Try.underlying23 hi0 hz0 hz1 hz2 rfl (by decide) ((((Below.refl _ w2).alloc (Nat.le_refl _) _).alloc (by simp) _).drew) _ 0 [] (by rfl) ((made_at (w := w2.alloc (.cells #[.int .i64 0, .slice none 0 0] 25)) (g := w2.heap.size + 1) (by simp) (by omega)).drew) _ n _ (flat ef es) (by rfl) ((hx2.on ((((Below.refl _ w2).alloc (Nat.le_refl _) _).alloc (by simp) _).drew)).src ef_len HN.out) q4 n (Nat.zero_add n) q5 q6 _ rfl ?_
           intro D2 c3 w3 ho18 hg3 hown3 hbc
           have h8 : NewL w3 w2.heap.size := NewL.app (w := (((w2.alloc (.cells #[.int .i64 0, .slice none 0 0] 25)).alloc (.cells #[] 52)).drew)) ((NewL.new w2).alloc _) ho18 hg3
           have hz3 := hbc.size
           have ea := ea.below hbc
           have eb := eb.below hbc
           obtain ⟨x0, x1, -, -⟩ := ea.facts
           obtain ⟨y0, y1, -, -⟩ := eb.facts
           clear hg3 ho18)
        | (with_reducible show @ite _ (Region.wanted ⟨some 24, _, _, _, _, _⟩ _ = true) _ (Oper.wp _ _ _ (w2.alloc (.cells #[] 52)) _ _) _
           refine step_app (o := ⟨some 24, _, _, _, _, _⟩) (w2.alloc (.cells #[] 52)) (by rfl) (.tmp 21) (.tmp 23) 23 (by rfl) 52 i0 (.agg #[.int .i64 0, .int .i64 0]) 2 16 Try.underlying23 hi0 hz0 hz1 hz2 rfl (by decide) ((Below.refl _ w2).alloc (Nat.le_refl _) _) _ 0 [] (by rfl) (made_at (w := w2) (g := w2.heap.size) rfl (Nat.le_refl _)) _ n _ (flat ef es) (by rfl) ((hx2.on ((Below.refl _ w2).alloc (Nat.le_refl _) _)).src ef_len HN.out) q4 n (Nat.zero_add n) q5 q6 _ rfl ?_
           intro D2 c3 w3 ho18 hg3 hown3 hbc
           have hz3 := hbc.size
           have ea := ea.below hbc
           have eb := eb.below hbc
           obtain ⟨x0, x1, -, -⟩ := ea.facts
           obtain ⟨y0, y1, -, -⟩ := eb.facts
           clear hg3 ho18)
        | (with_reducible show @ite _ (Region.wanted ⟨some 24, _, _, _, _, _⟩ _ = true) _ (Oper.wp _ _ _ ((w2.alloc (.cells #[] 52)).alloc (.cells #[.int .i64 0, .slice none 0 0] 25)) _ _) _
           refine step_app (o := ⟨some 24, _, _, _, _, _⟩) ((w2.alloc (.cells #[] 52)).alloc (.cells #[.int .i64 0, .slice none 0 0] 25)) (by rfl) (.tmp 21) (.tmp 23) 23 (by rfl) 52 i0 (.agg #[.int .i64 0, .int .i64 0]) 2 16 Try.underlying23 hi0 hz0 hz1 hz2 rfl (by decide) (((Below.refl _ w2).alloc (Nat.le_refl _) _).alloc (by simp) _) _ 0 [] (by rfl) ((made_at (w := w2) (g := w2.heap.size) rfl (Nat.le_refl _)).alloc _) _ n _ (flat ef es) (by rfl) ((hx2.on (((Below.refl _ w2).alloc (Nat.le_refl _) _).alloc (by simp) _)).src ef_len HN.out) q4 n (Nat.zero_add n) q5 q6 _ rfl ?_
           intro D2 c3 w3 ho18 hg3 hown3 hbc
           have h8 : NewL w3 (w2.heap.size + 1) := NewL.app (w := ((w2.alloc (.cells #[] 52)).alloc (.cells #[.int .i64 0, .slice none 0 0] 25))) (by have h := NewL.new (w2.alloc (.cells #[] 52)); rw [World.size_alloc] at h; exact h) ho18 hg3
           have hz3 := hbc.size
           have ea := ea.below hbc
           have eb := eb.below hbc
           obtain ⟨x0, x1, -, -⟩ := ea.facts
           obtain ⟨y0, y1, -, -⟩ := eb.facts
           clear hg3 ho18)
        | (with_reducible show @ite _ (Region.wanted ⟨some 24, _, _, _, _, _⟩ _ = true) _ (Oper.wp _ _ _ ((w2.alloc (.cells #[.int .i64 0, .slice none 0 0] 25)).alloc (.cells #[] 52)) _ _) _
           refine step_app (o := ⟨some 24, _, _, _, _, _⟩) ((w2.alloc (.cells #[.int .i64 0, .slice none 0 0] 25)).alloc (.cells #[] 52)) (by rfl) (.tmp 21) (.tmp 23) 23 (by rfl) 52 i0 (.agg #[.int .i64 0, .int .i64 0]) 2 16 Try.underlying23 hi0 hz0 hz1 hz2 rfl (by decide) (((Below.refl _ w2).alloc (Nat.le_refl _) _).alloc (by simp) _) _ 0 [] (by rfl) (made_at (w := w2.alloc (.cells #[.int .i64 0, .slice none 0 0] 25)) (g := w2.heap.size + 1) (by simp) (by omega)) _ n _ (flat ef es) (by rfl) ((hx2.on (((Below.refl _ w2).alloc (Nat.le_refl _) _).alloc (by simp) _)).src ef_len HN.out) q4 n (Nat.zero_add n) q5 q6 _ rfl ?_
           intro D2 c3 w3 ho18 hg3 hown3 hbc
           have h8 : NewL w3 w2.heap.size := NewL.app (w := ((w2.alloc (.cells #[.int .i64 0, .slice none 0 0] 25)).alloc (.cells #[] 52))) ((NewL.new w2).alloc _) ho18 hg3
           have hz3 := hbc.size
           have ea := ea.below hbc
           have eb := eb.below hbc
           obtain ⟨x0, x1, -, -⟩ := ea.facts
           obtain ⟨y0, y1, -, -⟩ := eb.facts
           clear hg3 ho18)
        | (with_reducible show @ite _ (Region.wanted ⟨some 27, _, _, _, _, _⟩ _ = true) _ (Oper.wp _ _ _ ((w3.alloc (.cells #[.int .i64 0, .slice none 0 0] 25)).drew) _ _) _
           refine step_app (o := ⟨some 27, _, _, _, _, _⟩) ((w3.alloc (.cells #[.int .i64 0, .slice none 0 0] 25)).drew) (by rfl) (.tmp 24) (.tmp 26) 23 (by rfl) 52 i0 (.agg #[.int .i64 0, .int .i64 0]) 2 16 Try.underlying23 hi0 hz0 hz1 hz2 rfl (by decide) ((hbc.alloc hbc.size _).drew) _ n (flat ef es) (by rfl) ((hown3.alloc _).drew) _ m _ (flat ef fs) (by rfl) ((hy2.on ((hbc.alloc hbc.size _).drew)).src ef_len HM.out) q7 _ rfl q1 q2 _ HF.out ?_
           intro D3 c4 w4 ho23 hg4 hown4 hbd
           have h9 : NewL w4 w3.heap.size := NewL.app (w := ((w3.alloc (.cells #[.int .i64 0, .slice none 0 0] 25)).drew)) (NewL.new w3) ho23 hg4
           (first | (obtain ⟨s0, s1, s2, s3⟩ := h9.facts) | skip)
           have ea : EB w4 25 w.heap.size _ _ := (hbd.block w.heap.size (by omega)).trans ea2
           have eb : EB w4 25 (w.heap.size + 1) _ _ := (hbd.block (w.heap.size + 1) (by omega)).trans eb2
           obtain ⟨x0, x1, -, -⟩ := ea.facts
           obtain ⟨y0, y1, -, -⟩ := eb.facts
           clear hg4 ho23)
        | (with_reducible show @ite _ (Region.wanted ⟨some 27, _, _, _, _, _⟩ _ = true) _ (Oper.wp _ _ _ (w3.drew) _ _) _
           refine step_app (o := ⟨some 27, _, _, _, _, _⟩) (w3.drew) (by rfl) (.tmp 24) (.tmp 26) 23 (by rfl) 52 i0 (.agg #[.int .i64 0, .int .i64 0]) 2 16 Try.underlying23 hi0 hz0 hz1 hz2 rfl (by decide) (hbc.drew) _ n (flat ef es) (by rfl) (hown3.drew) _ m _ (flat ef fs) (by rfl) ((hy2.on (hbc.drew)).src ef_len HM.out) q7 _ rfl q1 q2 _ HF.out ?_
           intro D3 c4 w4 ho23 hg4 hown4 hbd
           (first | (have h9 := NewL.app (w := (w3.drew)) h8 ho23 hg4) | skip)
           (first | (obtain ⟨s0, s1, s2, s3⟩ := h9.facts) | skip)
           have ea : EB w4 25 w.heap.size _ _ := (hbd.block w.heap.size (by omega)).trans ea2
           have eb : EB w4 25 (w.heap.size + 1) _ _ := (hbd.block (w.heap.size + 1) (by omega)).trans eb2
           obtain ⟨x0, x1, -, -⟩ := ea.facts
           obtain ⟨y0, y1, -, -⟩ := eb.facts
           clear hg4 ho23)
        | (with_reducible show @ite _ (Region.wanted ⟨some 27, _, _, _, _, _⟩ _ = true) _ (Oper.wp _ _ _ (w3.alloc (.cells #[.int .i64 0, .slice none 0 0] 25)) _ _) _
           refine step_app (o := ⟨some 27, _, _, _, _, _⟩) (w3.alloc (.cells #[.int .i64 0, .slice none 0 0] 25)) (by rfl) (.tmp 24) (.tmp 26) 23 (by rfl) 52 i0 (.agg #[.int .i64 0, .int .i64 0]) 2 16 Try.underlying23 hi0 hz0 hz1 hz2 rfl (by decide) (hbc.alloc hbc.size _) _ n (flat ef es) (by rfl) (hown3.alloc _) _ m _ (flat ef fs) (by rfl) ((hy2.on (hbc.alloc hbc.size _)).src ef_len HM.out) q7 _ rfl q1 q2 _ HF.out ?_
           intro D3 c4 w4 ho23 hg4 hown4 hbd
           have h9 : NewL w4 w3.heap.size := NewL.app (w := (w3.alloc (.cells #[.int .i64 0, .slice none 0 0] 25))) (NewL.new w3) ho23 hg4
           (first | (obtain ⟨s0, s1, s2, s3⟩ := h9.facts) | skip)
           have ea : EB w4 25 w.heap.size _ _ := (hbd.block w.heap.size (by omega)).trans ea2
           have eb : EB w4 25 (w.heap.size + 1) _ _ := (hbd.block (w.heap.size + 1) (by omega)).trans eb2
           obtain ⟨x0, x1, -, -⟩ := ea.facts
           obtain ⟨y0, y1, -, -⟩ := eb.facts
           clear hg4 ho23)
        | (with_reducible show @ite _ (Region.wanted ⟨some 27, _, _, _, _, _⟩ _ = true) _ (Oper.wp _ _ _ w3 _ _) _
           refine step_app (o := ⟨some 27, _, _, _, _, _⟩) w3 (by rfl) (.tmp 24) (.tmp 26) 23 (by rfl) 52 i0 (.agg #[.int .i64 0, .int .i64 0]) 2 16 Try.underlying23 hi0 hz0 hz1 hz2 rfl (by decide) hbc _ n (flat ef es) (by rfl) hown3 _ m _ (flat ef fs) (by rfl) ((hy2.on hbc).src ef_len HM.out) q7 _ rfl q1 q2 _ HF.out ?_
           intro D3 c4 w4 ho23 hg4 hown4 hbd
           (first | (have h9 := NewL.app (w := w3) h8 ho23 hg4) | skip)
           (first | (obtain ⟨s0, s1, s2, s3⟩ := h9.facts) | skip)
           have ea : EB w4 25 w.heap.size _ _ := (hbd.block w.heap.size (by omega)).trans ea2
           have eb : EB w4 25 (w.heap.size + 1) _ _ := (hbd.block (w.heap.size + 1) (by omega)).trans eb2
           obtain ⟨x0, x1, -, -⟩ := ea.facts
           obtain ⟨y0, y1, -, -⟩ := eb.facts
           clear hg4 ho23))
      all_goals
        go_wp2_with fail
        (try rw [if_neg (Int.not_lt.2 hlt)])
        go_meet
        first
          | exact cutj_1 h9 hown4 hbd (by omega)
          | exact cutj_2 hown4 hbd
    case rest =>
      obtain ⟨g, D3, c3, rfl, d0, d1, hown4, hbe⟩ := hcut
      clear a0 a1 b0 b1 r0 r1 r2 r3
      go_wp2_with fail
      refine (svalid_any mn D3 (n + m) c3 (es ++ fs) _ (Recs.of_own ef_len hown4 (by omega)).2 HL.out (by omega)).mono ?_
      rintro e w5 ⟨rfl, hb5⟩
      have hbf : Below w2.heap.size w2 w5 := hbe.trans (hb5.mono hbe.size)
      have hown5 := own_below hown4 hb5
      have g0 := (hb5.cell (p := ⟨g, 0, none⟩) (World.block_lt_of_cell? _ _ d0)).trans d0
      have g1 := (hb5.cell (p := ⟨g, 1, none⟩) (World.block_lt_of_cell? _ _ d1)).trans d1
      have er := er.below hbf
      obtain ⟨z0, z1, z2, z3⟩ := er.facts
      clear hb5 hown4 hbe d0 d1
      cases hv2 : ldB mn (es ++ fs)
      · go_wp2_with fail
        refine bodyPost_ret (v := .tuple #[.agg #[.int .i64 0, .slice none 0 0], .bool false]) (by simp [results, Try.results13, go_sem, *]) rfl ?_
        refine resQ_join (D := D3) (c := c3) h1 h2 HR.out HNR.out HN.out HM.out HMN.out (.inr ⟨hv2, rfl, rfl, rfl, rfl⟩) (by rw [hv2]) ?_ ?_
        · exact own_base (ownsRow_setCell_below (ownsRow_setCell_below hown5 (by show w.heap.size + 2 < _; omega) _) (by show w.heap.size + 2 < _; omega) _) (by omega)
        · exact ((hbw.trans (hbf.mono (by omega))).setCell (by show _ ≤ w.heap.size + 2; omega) _).setCell (by show _ ≤ w.heap.size + 2; omega) _
      · go_wp2_with fail
        refine bodyPost_ret (v := .tuple #[.agg #[.int .i64 mn, .slice D3 (n + m) c3], .bool true]) (by simp [results, Try.results13, go_sem, *]) rfl ?_
        refine resQ_join (D := D3) (c := c3) h1 h2 HR.out HNR.out HN.out HM.out HMN.out (.inl ⟨hv2, rfl, rfl, rfl, rfl⟩) (by rw [hv2]) ?_ ?_
        · exact own_base (ownsRow_setCell_below (ownsRow_setCell_below hown5 (by show w.heap.size + 2 < _; omega) _) (by show w.heap.size + 2 < _; omega) _) (by omega)
        · exact ((hbw.trans (hbf.mono (by omega))).setCell (by show _ ≤ w.heap.size + 2; omega) _).setCell (by show _ ≤ w.heap.size + 2; omega) _
end Go.Proofs.Ytjelmfdhkdehkaa
