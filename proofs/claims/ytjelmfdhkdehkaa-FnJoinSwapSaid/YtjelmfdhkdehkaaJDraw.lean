/-
  DrawLedgerJoin: two ledgers out of a code; nothing that was there turns.
-/
import Derived.Test.YtjelmfdhkdehkaaDraw
import Derived.Test.YtjelmfdhkdehkaaJoinS
import Derived.IntWalk
namespace Go.Proofs.Ytjelmfdhkdehkaa
open Go.RowKit
attribute [local go_sem ↓] Go.wp_at_zero Go.wp_at_succ

theorem EB.grown {w w' : World} {t : TypeId} {g : Nat} {b : Int} {v : Value} {row : Option Nat} (h : EB w t g b v) (hg : w.grownBy w' row) (hne : some g ≠ row) : EB w' t g b v := (hg.block g (Array.getElem?_eq_some_iff.1 h).1 hne).trans h
theorem EB.lt {w : World} {t : TypeId} {g : Nat} {b : Int} {v : Value} (h : EB w t g b v) : g < w.heap.size := (Array.getElem?_eq_some_iff.1 h).1
theorem EB.far {w : World} {t : TypeId} {g : Nat} {b : Int} {v : Value} (h : EB w t g b v) {p : Addr} (hp : g ≠ p.block) (u : Value) : EB (w.setCell p u) t g b v := (Below.heap_setCell w p u g hp).trans h
theorem EB.set0 {w : World} {t : TypeId} {g : Nat} {b : Int} {v : Value} (h : EB w t g b v) (b' : Int) : EB (w.setCell ⟨g, 0, none⟩ (.int .i64 b')) t g b' v := heap_setCell_same w g 0 _ _ (.int .i64 b') h
theorem keep_far8 {w : World} {g0 g1 g h : Nat} {v0 v1 v2 v3 u0 u1 s0 s1 : Value} (h0 : w.cell? ⟨g0, 0, none⟩ = some v0) (h1 : w.cell? ⟨g0, 1, none⟩ = some v1) (h2 : w.cell? ⟨g1, 0, none⟩ = some v2) (h3 : w.cell? ⟨g1, 1, none⟩ = some v3) (n0 : g0 ≠ g) (n1 : g1 ≠ g) (m0 : g0 ≠ h) (m1 : g1 ≠ h) :
    ((((w.setCell ⟨g, 0, none⟩ u0).setCell ⟨g, 1, none⟩ u1).setCell ⟨h, 0, none⟩ s0).setCell ⟨h, 1, none⟩ s1).cell? ⟨g0, 0, none⟩ = some v0 ∧ ((((w.setCell ⟨g, 0, none⟩ u0).setCell ⟨g, 1, none⟩ u1).setCell ⟨h, 0, none⟩ s0).setCell ⟨h, 1, none⟩ s1).cell? ⟨g0, 1, none⟩ = some v1 ∧
    ((((w.setCell ⟨g, 0, none⟩ u0).setCell ⟨g, 1, none⟩ u1).setCell ⟨h, 0, none⟩ s0).setCell ⟨h, 1, none⟩ s1).cell? ⟨g1, 0, none⟩ = some v2 ∧ ((((w.setCell ⟨g, 0, none⟩ u0).setCell ⟨g, 1, none⟩ u1).setCell ⟨h, 0, none⟩ s0).setCell ⟨h, 1, none⟩ s1).cell? ⟨g1, 1, none⟩ = some v3 := by
  obtain ⟨a, b, c, d⟩ := keep_far4 (u0 := u0) (u1 := u1) h0 h1 h2 h3 n0 n1
  exact keep_far4 a b c d m0 m1
theorem keep_far4d {w : World} {g0 g1 g : Nat} {v0 v1 v2 v3 u0 u1 : Value} (h0 : w.cell? ⟨g0, 0, none⟩ = some v0) (h1 : w.cell? ⟨g0, 1, none⟩ = some v1) (h2 : w.cell? ⟨g1, 0, none⟩ = some v2) (h3 : w.cell? ⟨g1, 1, none⟩ = some v3) (n0 : g0 ≠ g) (n1 : g1 ≠ g) :
    ((w.setCell ⟨g, 0, none⟩ u0).setCell ⟨g, 1, none⟩ u1).drew.cell? ⟨g0, 0, none⟩ = some v0 ∧ ((w.setCell ⟨g, 0, none⟩ u0).setCell ⟨g, 1, none⟩ u1).drew.cell? ⟨g0, 1, none⟩ = some v1 ∧ ((w.setCell ⟨g, 0, none⟩ u0).setCell ⟨g, 1, none⟩ u1).drew.cell? ⟨g1, 0, none⟩ = some v2 ∧ ((w.setCell ⟨g, 0, none⟩ u0).setCell ⟨g, 1, none⟩ u1).drew.cell? ⟨g1, 1, none⟩ = some v3 := by
  simp only [World.cell?_drew]
  exact keep_far4 h0 h1 h2 h3 n0 n1
theorem keep_far8d {w : World} {g0 g1 g h : Nat} {v0 v1 v2 v3 u0 u1 s0 s1 : Value} (h0 : w.cell? ⟨g0, 0, none⟩ = some v0) (h1 : w.cell? ⟨g0, 1, none⟩ = some v1) (h2 : w.cell? ⟨g1, 0, none⟩ = some v2) (h3 : w.cell? ⟨g1, 1, none⟩ = some v3) (n0 : g0 ≠ g) (n1 : g1 ≠ g) (m0 : g0 ≠ h) (m1 : g1 ≠ h) :
    ((((w.setCell ⟨g, 0, none⟩ u0).setCell ⟨g, 1, none⟩ u1).setCell ⟨h, 0, none⟩ s0).setCell ⟨h, 1, none⟩ s1).drew.cell? ⟨g0, 0, none⟩ = some v0 ∧ ((((w.setCell ⟨g, 0, none⟩ u0).setCell ⟨g, 1, none⟩ u1).setCell ⟨h, 0, none⟩ s0).setCell ⟨h, 1, none⟩ s1).drew.cell? ⟨g0, 1, none⟩ = some v1 ∧
    ((((w.setCell ⟨g, 0, none⟩ u0).setCell ⟨g, 1, none⟩ u1).setCell ⟨h, 0, none⟩ s0).setCell ⟨h, 1, none⟩ s1).drew.cell? ⟨g1, 0, none⟩ = some v2 ∧ ((((w.setCell ⟨g, 0, none⟩ u0).setCell ⟨g, 1, none⟩ u1).setCell ⟨h, 0, none⟩ s0).setCell ⟨h, 1, none⟩ s1).drew.cell? ⟨g1, 1, none⟩ = some v3 := by
  simp only [World.cell?_drew]
  exact keep_far8 h0 h1 h2 h3 n0 n1 m0 m1
/-- A drawn ledger as a value: its entries, in blocks from B on, read as es. -/
def LedW (w : World) (B : Nat) (b : Int) (D : Option Addr) (n c : Nat) (es : List (Int × Int)) : Prop :=
  -1 ≤ b ∧ b ≤ 1301 ∧ n ≤ 8 ∧ Hid (es.length = n) ∧ w.ownsRow B 52 2 (.slice D n c) n (flat ef es)
/-- What DrawLedgerJoin leaves. -/
def DJQ (w : World) (e : Ending) (w' : World) : Prop :=
  ∃ (b0 : Int) (D0 : Option Addr) (n0 c0 : Nat) (e0 : List (Int × Int)) (b1 : Int) (D1 : Option Addr) (n1 c1 : Nat) (e1 : List (Int × Int)), e = .returned (.tuple #[.agg #[.int .i64 b0, .slice D0 n0 c0], .agg #[.int .i64 b1, .slice D1 n1 c1]]) ∧
    LedW w' w.heap.size b0 D0 n0 c0 e0 ∧ LedW w' w.heap.size b1 D1 n1 c1 e1 ∧ Below w.heap.size w w'
/-- Two drawn ledgers in their boxes, the results' boxes, and what was there. -/
structure JI (w wr : World) (ka kb : Nat) (b0 : Int) (D0 : Option Addr) (n0 c0 : Nat) (e0 : List (Int × Int)) (b1 : Int) (D1 : Option Addr) (n1 c1 : Nat) (e1 : List (Int × Int)) : Prop where
  r0 : EB wr 25 w.heap.size 0 (.slice none 0 0)
  r1 : EB wr 25 (w.heap.size + 1) 0 (.slice none 0 0)
  a : EB wr 25 ka b0 (.slice D0 n0 c0)
  b : EB wr 25 kb b1 (.slice D1 n1 c1)
  la : w.heap.size + 2 < ka
  lb : ka < kb
  o0 : wr.ownsRow (w.heap.size + 3) 52 2 (.slice D0 n0 c0) n0 (flat ef e0)
  o1 : wr.ownsRow (w.heap.size + 3) 52 2 (.slice D1 n1 c1) n1 (flat ef e1)
  kp : Below w.heap.size w wr
section
variable {w wr w' : World} {ka kb : Nat} {b0 b1 : Int} {D0 D1 : Option Addr} {n0 c0 n1 c1 : Nat} {e0 e1 : List (Int × Int)}
theorem JI.pick (h : JI w wr ka kb b0 D0 n0 c0 e0 b1 D1 n1 c1 e1) (hg : wr.grownBy w' (some (w.heap.size + 2))) : JI w w' ka kb b0 D0 n0 c0 e0 b1 D1 n1 c1 e1 :=
  ⟨h.r0.grown hg (by simp), h.r1.grown hg (by simp), h.a.grown hg (by have := h.la; simp; omega), h.b.grown hg (by have := h.la; have := h.lb; simp; omega), h.la, h.lb, h.o0.kept hg (own_row_block h.o0 (by omega)), h.o1.kept hg (own_row_block h.o1 (by omega)), h.kp.grown hg h.kp.size (fun x e => by injection e with e; omega)⟩
theorem JI.more (h : JI w wr ka kb b0 D0 n0 c0 e0 b1 D1 n1 c1 e1) (x y : Int) : JI w ((wr.setCell ⟨ka, 0, none⟩ (.int .i64 x)).setCell ⟨kb, 0, none⟩ (.int .i64 y)) ka kb x D0 n0 c0 e0 y D1 n1 c1 e1 := by
  have hla := h.la
  have hlb := h.lb
  exact ⟨(h.r0.far (by show w.heap.size ≠ ka; omega) _).far (by show w.heap.size ≠ kb; omega) _, (h.r1.far (by show w.heap.size + 1 ≠ ka; omega) _).far (by show w.heap.size + 1 ≠ kb; omega) _, (h.a.set0 x).far (by show ka ≠ kb; omega) _, (h.b.far (by show kb ≠ ka; omega) _).set0 y, h.la, h.lb,
    own_store (own_store h.o0 h.a (by decide)) (h.b.far (p := ⟨ka, 0, none⟩) (by show kb ≠ ka; omega) _) (by decide), own_store (own_store h.o1 h.a (by decide)) (h.b.far (p := ⟨ka, 0, none⟩) (by show kb ≠ ka; omega) _) (by decide), (h.kp.setCell (by show w.heap.size ≤ ka; omega) _).setCell (by show w.heap.size ≤ kb; omega) _⟩
/-- Four cells stored below the rows. -/
theorem JI.fin (h : JI w wr ka kb b0 D0 n0 c0 e0 b1 D1 n1 c1 e1) (p0 p1 p2 p3 : Addr) (u0 u1 u2 u3 : Value) (q0 : w.heap.size ≤ p0.block ∧ p0.block < w.heap.size + 3) (q1 : w.heap.size ≤ p1.block ∧ p1.block < w.heap.size + 3) (q2 : w.heap.size ≤ p2.block ∧ p2.block < w.heap.size + 3) (q3 : w.heap.size ≤ p3.block ∧ p3.block < w.heap.size + 3)
    (x0 : -1 ≤ b0 ∧ b0 ≤ 1301) (x1 : -1 ≤ b1 ∧ b1 ≤ 1301) (m0 : n0 ≤ 8) (m1 : n1 ≤ 8) (l0 : Hid (e0.length = n0)) (l1 : Hid (e1.length = n1)) :
    DJQ w (.returned (.tuple #[.agg #[.int .i64 b0, .slice D0 n0 c0], .agg #[.int .i64 b1, .slice D1 n1 c1]])) ((((wr.setCell p0 u0).setCell p1 u1).setCell p2 u2).setCell p3 u3) :=
  ⟨b0, D0, n0, c0, e0, b1, D1, n1, c1, e1, rfl,
    ⟨x0.1, x0.2, m0, l0, own_base (ownsRow_setCell_below (ownsRow_setCell_below (ownsRow_setCell_below (ownsRow_setCell_below h.o0 q0.2 _) q1.2 _) q2.2 _) q3.2 _) (by omega)⟩,
    ⟨x1.1, x1.2, m1, l1, own_base (ownsRow_setCell_below (ownsRow_setCell_below (ownsRow_setCell_below (ownsRow_setCell_below h.o1 q0.2 _) q1.2 _) q2.2 _) q3.2 _) (by omega)⟩,
    (((h.kp.setCell q0.1 _).setCell q1.1 _).setCell q2.1 _).setCell q3.1 _⟩
end
theorem DJQ.drew {w w' : World} {e : Ending} (h : DJQ w e w') : DJQ w e w'.drew := by
  obtain ⟨b0, D0, n0, c0, e0, b1, D1, n1, c1, e1, h1, h2, h3, h4⟩ := h
  exact ⟨b0, D0, n0, c0, e0, b1, D1, n1, c1, e1, h1, h2, h3, h4.drew⟩
theorem IsRow8.alloc {w : World} {a : Option Addr} {len cap : Nat} {zs : List Int} (h : IsRow8 w a len cap zs) (o : Obj) : IsRow8 (w.alloc o) a len cap zs := by
  rcases h with h | ⟨x, e, h1, h2, h3, h4, h5⟩
  · exact .inl h
  · exact .inr ⟨x, e, h1, h2, h3, fun i hi => (World.cell?_alloc_lt w o _ (World.block_lt_of_cell? _ _ (h4 i hi))).trans (h4 i hi), h5⟩
set_option maxHeartbeats 4000000 in
theorem drawj_any (a : Option Addr) (len0 cap0 : Nat) (zs : List Int) (w : World) (h : IsRow8 w a len0 cap0 zs) :
    Calls Try.prog 11 #[.slice a len0 cap0] w (DJQ w) := by
  have h2 := (h.alloc (.cells #[.int .i64 0, .slice none 0 0] 25)).alloc (.cells #[.int .i64 0, .slice none 0 0] 25)
  have er0 : EB ((w.alloc (.cells #[.int .i64 0, .slice none 0 0] 25)).alloc (.cells #[.int .i64 0, .slice none 0 0] 25)) 25 w.heap.size 0 (.slice none 0 0) := (EB.new w _ _ _).alloc _
  have er1 : EB ((w.alloc (.cells #[.int .i64 0, .slice none 0 0] 25)).alloc (.cells #[.int .i64 0, .slice none 0 0] 25)) 25 (w.heap.size + 1) 0 (.slice none 0 0) := by have := EB.new (w.alloc (.cells #[.int .i64 0, .slice none 0 0] 25)) 25 0 (.slice none 0 0); simpa using this
  obtain ⟨W0, HW0⟩ : ∃ W, Hid ((w.alloc (.cells #[.int .i64 0, .slice none 0 0] 25)).alloc (.cells #[.int .i64 0, .slice none 0 0] 25) = W) := ⟨_, Lib.hid rfl⟩
  have hbw : Below w.heap.size w W0 := by rw [← HW0.out]; exact below_two _ _ _
  have hsz : W0.heap.size = w.heap.size + 2 := by rw [← HW0.out]; simp
  rw [HW0.out] at h2 er0 er1
  go_enter Try.func11, Try.ntmps11
  go_wp2_with fail
  rw [HW0.out]
  refine (open_any a len0 cap0 zs _ h2).mono ?_
  rintro e w1 ⟨A, len, cap, rfl, hr1, hb1, hs1⟩
  rw [hsz] at hr1
  have er0 := er0.below hb1
  have er1 := er1.below hb1
  have hbw := below_next hbw hb1
  have HS1 := Lib.hid hs1
  have hz1 : w.heap.size + 3 ≤ w1.heap.size := by rw [hs1, hsz]; omega
  have hptr : W0.heap.size = w.heap.size + 2 := hsz
  rw [hsz]
  clear hs1 hb1 hptr hsz
  go_wp2_with fail
  refine (ledger_any (w.heap.size + 2) A len cap 0 _ hr1 (by omega)).mono ?_
  rintro e w2 ⟨b0, D0, n0, c0, e0, rfl, x0, x1, m0, L0, ho0, hr2, hg2⟩
  have er0 := (er0.grown hg2 (by simp)).alloc (.cells #[.int .i64 b0, .slice D0 n0 c0] 25)
  have er1 := (er1.grown hg2 (by simp)).alloc (.cells #[.int .i64 b0, .slice D0 n0 c0] 25)
  have ea := EB.new w2 25 b0 (.slice D0 n0 c0)
  have hz2 : w.heap.size + 3 ≤ w2.heap.size := Nat.le_trans hz1 hg2.size
  have hbw := (hbw.grown hg2 hbw.size (fun x e => by injection e with e; omega)).alloc (by omega) (.cells #[.int .i64 b0, .slice D0 n0 c0] 25)
  have ho0 := (own_base ho0 hz1).alloc (.cells #[.int .i64 b0, .slice D0 n0 c0] 25)
  have hr2 := hr2.alloc (.cells #[.int .i64 b0, .slice D0 n0 c0] 25)
  clear hr1 hg2 hz1
  go_wp2_with fail
  refine (ledger_any (w.heap.size + 2) A len cap _ _ hr2 (by omega)).mono ?_
  rintro e w3 ⟨b1, D1, n1, c1, e1, rfl, y0, y1, m1, L1, ho1, hr3, hg3⟩
  have hz3 : w2.heap.size + 1 ≤ w3.heap.size := by have := hg3.size; simp at this; exact this
  have hJ : JI w (w3.alloc (.cells #[.int .i64 b1, .slice D1 n1 c1] 25)) w2.heap.size w3.heap.size b0 D0 n0 c0 e0 b1 D1 n1 c1 e1 :=
    ⟨(er0.grown hg3 (by simp)).alloc _, (er1.grown hg3 (by simp)).alloc _, (ea.grown hg3 (by simp; omega)).alloc _, EB.new _ _ _ _, by omega, by omega, (ho0.kept hg3 (own_row_block ho0 (by omega))).alloc _, (own_base ho1 (by simp; omega)).alloc _, (hbw.grown hg3 hbw.size (fun x e => by injection e with e; omega)).alloc (by omega) _⟩
  have hr3 := hr3.alloc (.cells #[.int .i64 b1, .slice D1 n1 c1] 25)
  have hne : ¬ w2.heap.size = w3.heap.size := by omega
  clear hr2 hg3 ho0 ho1 er0 er1 ea hbw
  go_wp2_with fail
  refine (pick_any _ A len cap _ _ _ hr3 (by omega)).mono ?_
  rintro e w4 ⟨s, rfl, s0, s1, -, hr4, hg4, -⟩
  have hJ := hJ.pick hg4
  clear hr4 hg4 hr3
  by_cases c0' : s = 0
  · subst c0'
    obtain ⟨p0, p1, p2, p3⟩ := hJ.a.facts
    obtain ⟨q0, q1, q2, q3⟩ := hJ.b.facts
    have hK := hJ.more (b0 + 300) (b1 + 300)
    obtain ⟨W5, HW5⟩ : ∃ W, Hid ((w4.setCell ⟨w2.heap.size, 0, none⟩ (.int .i64 (b0 + 300))).setCell ⟨w3.heap.size, 0, none⟩ (.int .i64 (b1 + 300)) = W) := ⟨_, Lib.hid rfl⟩
    go_upto_region 7 with fail
    rw [HW5.out] at hK ⊢
    clear p0 p1 p2 p3 q0 q1 q2 q3 hJ
    obtain ⟨p0, p1, -, -⟩ := hK.a.facts
    obtain ⟨q0, q1, -, -⟩ := hK.b.facts
    obtain ⟨r0, r1, r2, r3⟩ := hK.r0.facts
    obtain ⟨t0, t1, t2, t3⟩ := hK.r1.facts
    have hla := hK.la
    have hlb := hK.lb
    have HFIN := Lib.hid (hK.fin ⟨w.heap.size, 0, none⟩ ⟨w.heap.size, 1, none⟩ ⟨w.heap.size + 1, 0, none⟩ ⟨w.heap.size + 1, 1, none⟩ (.int .i64 (b0 + 300)) (.slice D0 n0 c0) (.int .i64 (b1 + 300)) (.slice D1 n1 c1) (by constructor <;> simp) (by constructor <;> simp) (by constructor <;> simp) (by constructor <;> simp) (by omega) (by omega) m0 m1 L0 L1)
    have d0 : W5.drew.cell? _ = _ := p0
    have d1 : W5.drew.cell? _ = _ := p1
    have d2 : W5.drew.cell? _ = _ := q0
    have d3 : W5.drew.cell? _ = _ := q1
    go_region_held3 (fun w' => w'.cell? ⟨w2.heap.size, 0, none⟩ = some (.int .i64 (b0 + 300)) ∧ w'.cell? ⟨w2.heap.size, 1, none⟩ = some (.slice D0 n0 c0) ∧ w'.cell? ⟨w3.heap.size, 0, none⟩ = some (.int .i64 (b1 + 300)) ∧ w'.cell? ⟨w3.heap.size, 1, none⟩ = some (.slice D1 n1 c1)) (first | (with_reducible exact ⟨d0, d1, d2, d3⟩) | ((with_reducible refine keep_far8 p0 p1 q0 q1 ?_ ?_ ?_ ?_) <;> omega) | ((with_reducible refine keep_far8d p0 p1 q0 q1 ?_ ?_ ?_ ?_) <;> omega) | ((with_reducible refine keep_far4 p0 p1 q0 q1 ?_ ?_) <;> omega) | ((with_reducible refine keep_far4d p0 p1 q0 q1 ?_ ?_) <;> omega) | fail) (fail)
    all_goals
      go_wp2_with fail
      refine bodyPost_ret (v := .tuple #[.agg #[.int .i64 (b0 + 300), .slice D0 n0 c0], .agg #[.int .i64 (b1 + 300), .slice D1 n1 c1]]) (by simp [results, Try.results11, go_sem, *]) rfl ?_
      first
        | with_reducible exact HFIN.out
        | with_reducible exact HFIN.out.drew
  have b0' : (s == 0) = false := beq_eq_false_iff_ne.2 c0'
  obtain ⟨p0, p1, -, -⟩ := hJ.a.facts
  obtain ⟨q0, q1, -, -⟩ := hJ.b.facts
  obtain ⟨r0, r1, r2, r3⟩ := hJ.r0.facts
  obtain ⟨t0, t1, t2, t3⟩ := hJ.r1.facts
  have hla := hJ.la
  have hlb := hJ.lb
  go_wp2_with fail
  have HFIN := Lib.hid (hJ.fin ⟨w.heap.size, 0, none⟩ ⟨w.heap.size, 1, none⟩ ⟨w.heap.size + 1, 0, none⟩ ⟨w.heap.size + 1, 1, none⟩ (.int .i64 (b0)) (.slice D0 n0 c0) (.int .i64 (b1)) (.slice D1 n1 c1) (by constructor <;> simp) (by constructor <;> simp) (by constructor <;> simp) (by constructor <;> simp) (by omega) (by omega) m0 m1 L0 L1)
  have d0 : w4.drew.cell? _ = _ := p0
  have d1 : w4.drew.cell? _ = _ := p1
  have d2 : w4.drew.cell? _ = _ := q0
  have d3 : w4.drew.cell? _ = _ := q1
  go_region_held3 (fun w' => w'.cell? ⟨w2.heap.size, 0, none⟩ = some (.int .i64 b0) ∧ w'.cell? ⟨w2.heap.size, 1, none⟩ = some (.slice D0 n0 c0) ∧ w'.cell? ⟨w3.heap.size, 0, none⟩ = some (.int .i64 b1) ∧ w'.cell? ⟨w3.heap.size, 1, none⟩ = some (.slice D1 n1 c1)) (first | (with_reducible exact ⟨d0, d1, d2, d3⟩) | ((with_reducible refine keep_far8 p0 p1 q0 q1 ?_ ?_ ?_ ?_) <;> omega) | ((with_reducible refine keep_far8d p0 p1 q0 q1 ?_ ?_ ?_ ?_) <;> omega) | ((with_reducible refine keep_far4 p0 p1 q0 q1 ?_ ?_) <;> omega) | ((with_reducible refine keep_far4d p0 p1 q0 q1 ?_ ?_) <;> omega) | fail) (fail)
  all_goals
    go_wp2_with fail
    refine bodyPost_ret (v := .tuple #[.agg #[.int .i64 b0, .slice D0 n0 c0], .agg #[.int .i64 b1, .slice D1 n1 c1]]) (by simp [results, Try.results11, go_sem, *]) rfl ?_
    first
        | with_reducible exact HFIN.out
        | with_reducible exact HFIN.out.drew
end Go.Proofs.Ytjelmfdhkdehkaa
