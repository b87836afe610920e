/-
  The walk of the reference's LedgerAsk.
-/
import Derived.Test.YtllnmgadaodieaaAsk
import Derived.Deep.DeepCutAuto
namespace Go.Proofs.Ytllnmgadaodieaa
open Go.RowKit
attribute [local go_sem ↓] Go.wp_at_zero Go.wp_at_succ

/-- A block of another element type than an owned row's stays behind an append to that row. -/
theorem blk_app {w w' : World} {base g : Nat} {e t : TypeId} {size n : Nat} {v : Value} {xs : List Value} {cs : Array Value} (ho : w.ownsRow base e size v n xs) (hg : w.grownBy w' v.ownBlock) (hb : w.heap[g]? = some (.cells cs t (0, 0))) (ht : t ≠ e) : w'.heap[g]? = some (.cells cs t (0, 0)) := by
  refine (hg.block g (Array.getElem?_eq_some_iff.1 hb).1 ?_).trans hb
  rcases ho.2 with ⟨rfl, _⟩ | ⟨g', cap, cur, rfl, _, hh, _⟩
  · simp [Value.ownBlock]
  · intro he
    have e : g = g' := by simpa [Value.ownBlock] using he
    subst e
    rw [hb] at hh
    injection hh with hh
    injection hh with _ h2
    exact ht h2
/-- An owned row stays behind a store into a block of another element type. -/
theorem own_store {w : World} {base g i : Nat} {e t : TypeId} {size n : Nat} {v u : Value} {xs : List Value} {cs : Array Value} (ho : w.ownsRow base e size v n xs) (hb : w.heap[g]? = some (.cells cs t (0, 0))) (ht : t ≠ e) : (w.setCell ⟨g, i, none⟩ u).ownsRow base e size v n xs := by
  refine ho.kept (row := some g) ⟨rfl, rfl, rfl, by simp [World.setCell], fun j _ hne => Below.heap_setCell w _ _ j (fun e => hne (by rw [e]))⟩ ?_
  rcases ho.2 with ⟨rfl, _⟩ | ⟨g', cap, cur, rfl, _, hh, _⟩
  · exact .inl rfl
  · refine .inr fun he => ?_
    have e : g' = g := by simpa [Value.ownBlock] using he
    subst e
    rw [hb] at hh
    injection hh with hh
    injection hh with _ h2
    exact ht h2
theorem src_app {w w' : World} {k sz m : Nat} {news : List Value} {row : Option Nat} (h : Src w sz (some ⟨k, 0, none⟩) m news) (hg : w.grownBy w' row) (hne : some k ≠ row) : Src w' sz (some ⟨k, 0, none⟩) m news :=
  ⟨h.1, fun hm => by
    obtain ⟨ad, e, hc⟩ := h.2 hm
    injection e with e
    subst e
    refine ⟨_, rfl, fun j u hj => ?_⟩
    have h1 := hc j u hj
    rw [add_spot] at h1 ⊢
    exact hg.cell h1 hne⟩
theorem src_drew {w : World} {sz m : Nat} {A : Option Addr} {news : List Value} (h : Src w sz A m news) : Src w.drew sz A m news := h
/-- append onto a row of the call's own, in a region; what was there before the region, W, stays. -/
theorem step_app {P : Program} (w : World) {W : World} {ops : Array Oper} {o : Oper} {a : Act} {K : Act → World → Prop} {Q : Exit → Act → World → Prop} {E : Prop} (hgd : o.guard = none) (s x : Operand) (t : TypeId)
    (ho : o.op = .call { callee := .builtin .append, args := #[s, x], argTypes := #[t, t] })
    (e : TypeId) (i : TypeInfo) (z : Value) (size bytes : Nat) (ht : P.underlying t = some (.slice e)) (hi : P.info? e = some i) (hz : i.zero = some z)
    (hsize : i.size = size) (hby : i.bytes = bytes) (hzs : z.cells.size = size) (hsz : 0 < size) (hbel : Below W.heap.size W w)
    (v : Value) (n : Nat) (xs : List Value) (hs : a.eval s = v) (hown : w.ownsRow W.heap.size e size v n xs)
    (A : Option Addr) (m c : Nat) (news : List Value) (hx : a.eval x = .slice A m c) (hr : Src w size A m news) (h1 : ∀ u ∈ news, u.oneCell' = true)
    (N : Nat) (hN : n + m = N) (h63 : N ≤ maxLen) (hbytes : N * bytes ≤ 140737488355328) (all : List Value) (hall : xs ++ news = all)
    (h : ∀ D c' w', w.ownsRow W.heap.size e size v n xs → w.grownBy w' v.ownBlock → w'.ownsRow W.heap.size e size (.slice D N c') N all → Below W.heap.size W w' → K (a.put o.dst (.slice D N c')) w') :
    if Region.wanted o (yielded ops a.tmps) = true then Oper.wp P o a w K Q else E :=
by
  subst hN hall
  refine step_append_src w hgd s x t ho W.heap.size e i z size bytes ht hi hz hsize hby hzs hsz v n xs hs hown A m c news hx hr h1 h63 hbytes hbel.size fun v' w' h2 h3 _ => ?_
  · obtain ⟨D, c', rfl⟩ := own_form h2
    exact h D c' w' hown h3 h2 (hbel.grown h3 hbel.size (fun k e => (hown.lt k e).1))
theorem keep_far {w : World} {g0 g : Nat} {v0 v1 u0 u1 : Value} (h0 : w.cell? ⟨g0, 0, none⟩ = some v0) (h1 : w.cell? ⟨g0, 1, none⟩ = some v1) (hne : g0 ≠ g) :
    ((w.setCell ⟨g, 0, none⟩ u0).setCell ⟨g, 1, none⟩ u1).cell? ⟨g0, 0, none⟩ = some v0 ∧ ((w.setCell ⟨g, 0, none⟩ u0).setCell ⟨g, 1, none⟩ u1).cell? ⟨g0, 1, none⟩ = some v1 := by
  have k : ∀ (W : World) (i j : Nat) (u : Value), (W.setCell ⟨g, i, none⟩ u).cell? ⟨g0, j, none⟩ = W.cell? ⟨g0, j, none⟩ := fun W i j u => World.cell?_setCell_other W ⟨g, i, none⟩ ⟨g0, j, none⟩ u (fun e => hne (by injection e with e; exact e.symm))
  rw [k, k, k, k]
  exact ⟨h0, h1⟩
theorem src_at {w : World} {g : Nat} (p q : Int) (t : TypeId) (h : w.heap.size = g) : Src (w.alloc (.cells #[.int .i64 p, .int .i64 q] t)) 2 (some ⟨g, 0, none⟩) 1 (ef (p, q)) := by subst h; exact src_two w p q t
theorem made_at {w : World} {g base : Nat} (h : w.heap.size = g) (hb : base ≤ g) : (w.alloc (.cells #[] 34)).ownsRow base 34 2 (.slice (some ⟨g, 0, none⟩) 0 0) 0 [] := by
  subst h; exact World.ownsRow_made w #[] 0 hb (by simp [maxLen]) rfl
theorem keep_below {w w1 : World} {g0 : Nat} {v0 v1 : Value} (h : Below w1.heap.size w1 w) (h0 : w1.cell? ⟨g0, 0, none⟩ = some v0) (h1 : w1.cell? ⟨g0, 1, none⟩ = some v1) (hlt : g0 < w1.heap.size) : w.cell? ⟨g0, 0, none⟩ = some v0 ∧ w.cell? ⟨g0, 1, none⟩ = some v1 :=
  ⟨(h.cell (p := ⟨g0, 0, none⟩) hlt).trans h0, (h.cell (p := ⟨g0, 1, none⟩) hlt).trans h1⟩
theorem heap_two {w : World} {g : Nat} {o x : Obj} (h : w.heap[g]? = some x) : (w.alloc o).heap[g]? = some x := (Below.heap_alloc w o g (Array.getElem?_eq_some_iff.1 h).1).trans h
/-- The new ledger's block. -/
def NewL (w : World) (g : Nat) : Prop := w.heap[g]? = some (.cells #[.int .i64 0, .slice none 0 0] 25 (0, 0))
theorem NewL.new (w : World) : NewL (w.alloc (.cells #[.int .i64 0, .slice none 0 0] 25)) w.heap.size := heap_alloc_new w _
theorem NewL.alloc {w : World} {g : Nat} (h : NewL w g) (o : Obj) : NewL (w.alloc o) g := heap_two h
theorem NewL.drew {w : World} {g : Nat} (h : NewL w g) : NewL w.drew g := h
theorem NewL.app {w w' : World} {base g : Nat} {size n : Nat} {v : Value} {xs : List Value} (h : NewL w g) (ho : w.ownsRow base 34 size v n xs) (hg : w.grownBy w' v.ownBlock) : NewL w' g := blk_app ho hg h (by decide)
theorem NewL.facts {w : World} {g : Nat} (h : NewL w g) : w.cell? ⟨g, 0, none⟩ = some (.int .i64 0) ∧ w.cell? ⟨g, 1, none⟩ = some (.slice none 0 0) ∧ w.frozen? ⟨g, 0, none⟩ = false ∧ w.frozen? ⟨g, 1, none⟩ = false := by
  unfold NewL at h
  refine ⟨by rw [cell_of_row w g 0 _ _ _ h]; rfl, by rw [cell_of_row w g 1 _ _ _ h]; rfl, ?_, ?_⟩ <;> simp [World.frozen?, h]

/-- What the reference's LedgerAsk leaves at a valid ledger. -/
def AskTF (b : Int) (es : List (Int × Int)) (p q : Int) (w : World) (e : Ending) (w' : World) : Prop :=
  (ldB b (es ++ [(p, q)]) = true → AskQ b es p q w e w') ∧ (ldB b (es ++ [(p, q)]) = false → e = .returned (.tuple #[.agg #[.int .i64 0, .slice none 0 0], .bool false]) ∧ Below w.heap.size w w')
/-- What the statement that makes the new ledger leaves. -/
def CutQ (b : Int) (es : List (Int × Int)) (p q : Int) (n : Nat) (w1 : World) (s8 : Value) (wx : World) : Prop :=
  ∃ (g : Nat) (D : Option Addr) (c : Nat), s8 = .pointer (some ⟨g, 0, none⟩) ∧ wx.cell? ⟨g, 0, none⟩ = some (.int .i64 b) ∧ wx.cell? ⟨g, 1, none⟩ = some (.slice D (n + 1) c) ∧ wx.ownsRow w1.heap.size 34 2 (.slice D (n + 1) c) (n + 1) (flat ef (es ++ [(p, q)])) ∧ Below w1.heap.size w1 wx
theorem cutq_1 {b : Int} {es : List (Int × Int)} {p q : Int} {n g c : Nat} {w1 w4 : World} {D : Option Addr} (h : NewL w4 g) (ho : w4.ownsRow w1.heap.size 34 2 (.slice D (n + 1) c) (n + 1) (flat ef (es ++ [(p, q)]))) (hb : Below w1.heap.size w1 w4) (hg : w1.heap.size ≤ g) :
    CutQ b es p q n w1 (.pointer (some ⟨g, 0, none⟩)) ((w4.setCell ⟨g, 0, none⟩ (.int .i64 b)).setCell ⟨g, 1, none⟩ (.slice D (n + 1) c)) := by
  have h1 := heap_setCell_same w4 g 0 _ _ (.int .i64 b) h
  have h2 := heap_setCell_same (w4.setCell ⟨g, 0, none⟩ (.int .i64 b)) g 1 _ _ (.slice D (n + 1) c) h1
  exact ⟨g, D, c, rfl, by rw [cell_of_row _ g 0 _ _ _ h2]; rfl, by rw [cell_of_row _ g 1 _ _ _ h2]; rfl, own_store (own_store ho h (by decide)) h1 (by decide), (hb.setCell hg _).setCell hg _⟩
theorem cutq_2 {b : Int} {es : List (Int × Int)} {p q : Int} {n c : Nat} {w1 w4 : World} {D : Option Addr} (ho : w4.ownsRow w1.heap.size 34 2 (.slice D (n + 1) c) (n + 1) (flat ef (es ++ [(p, q)]))) (hb : Below w1.heap.size w1 w4) :
    CutQ b es p q n w1 (.pointer (some ⟨w4.heap.size, 0, none⟩)) (w4.alloc (.cells #[.int .i64 b, .slice D (n + 1) c] 25)) :=
  ⟨w4.heap.size, D, c, rfl, by simp, by simp, ho.alloc _, hb.alloc hb.size _⟩

set_option maxHeartbeats 8000000 in
theorem sask_tf (b : Int) (A : Option Addr) (n c : Nat) (es : List (Int × Int)) (p q : Int) (w : World) (hx : Recs ef 2 w w.heap.size A es) (hn : es.length = n) (hm : n ≤ 2097152) (hv : ldB b es = true) :
    Calls Try.prog 26 #[.agg #[.int .i64 b, .slice A n c], .int .i64 p, .int .i64 q] w (AskTF b es p q w) := by
  obtain ⟨i0, hi0, hz0, hz1, hz2⟩ := info_parts en_info
  have HN := Lib.hid hn
  clear hn
  have hx1 := hx.alloc (.cells #[.int .i64 b, .slice A n c] 25)
  have hx2 := hx1.alloc (.cells #[.int .i64 0, .slice none 0 0] 25)
  go_enter Try.func26, Try.ntmps26
  go_wp2_with fail
  refine (svalid_any b A n c es _ hx2 HN.out (by omega)).mono ?_
  rintro e w1 ⟨rfl, hb1⟩
  have hb1 : Below (w.heap.size + 2) ((w.alloc (.cells #[.int .i64 b, .slice A n c] 25)).alloc (.cells #[.int .i64 0, .slice none 0 0] 25)) w1 := hb1.mono (by simp)
  obtain ⟨hc1, hf1⟩ := bcell hb1
  have hx3 := hx2.on (hb1.mono (by simp))
  have c0 : w1.cell? ⟨w.heap.size, 0, none⟩ = some (.int .i64 b) := by rw [hc1 _ _ (by omega)]; simp
  have c1 : w1.cell? ⟨w.heap.size, 1, none⟩ = some (.slice A n c) := by rw [hc1 _ _ (by omega)]; simp
  have r0 : w1.cell? ⟨w.heap.size + 1, 0, none⟩ = some (.int .i64 0) := by rw [hc1 _ _ (by omega)]; simp
  have r1 : w1.cell? ⟨w.heap.size + 1, 1, none⟩ = some (.slice none 0 0) := by rw [hc1 _ _ (by omega)]; simp
  have f0 : w1.frozen? ⟨w.heap.size + 1, 0, none⟩ = false := by rw [hf1 _ _ (by omega)]; simp
  have f1 : w1.frozen? ⟨w.heap.size + 1, 1, none⟩ = false := by rw [hf1 _ _ (by omega)]; simp
  have hz : w.heap.size + 2 ≤ w1.heap.size := by have := hb1.size; simp at this; exact this
  have hbw : Below w.heap.size w w1 := (box2 w _ _).trans (hb1.mono (by omega))
  clear hc1 hf1
  have hbr : Below w1.heap.size w1 w1.drew := (Below.refl _ _).drew
  have q1 : n + 1 ≤ maxLen := by simp only [maxLen]; omega
  have q2 : (n + 1) * 16 ≤ 140737488355328 := by omega
  have HF := Lib.hid (show flat ef es ++ ef (p, q) = flat ef (es ++ [(p, q)]) by rw [flat_append, flat_one])
  have HL := Lib.hid (show (es ++ [(p, q)]).length = n + 1 by have := HN.out; simp; exact this)
  have q4 := flat_one_cell ef_one es
  have q5 : n ≤ maxLen := by simp only [maxLen]; omega
  have q6 : n * 16 ≤ 140737488355328 := by omega
  go_upto_region 3 with fail
  go_cut [8] (fun s8 wx => CutQ b es p q n w1 s8 wx)
  case first =>
    go_region_held3 (fun w' => w'.cell? ⟨w.heap.size, 0, none⟩ = some (.int .i64 b) ∧ w'.cell? ⟨w.heap.size, 1, none⟩ = some (.slice A n c)) (first | (go_keep; done) | exact keep_far (by assumption) (by assumption) (by omega) | exact keep_below ((((Below.refl _ w1).alloc (Nat.le_refl _) _).alloc (by simp) _).drew) c0 c1 (by omega) | exact keep_below (((((Below.refl _ w1).alloc (Nat.le_refl _) _).alloc (by simp) _).alloc (by simp <;> omega) _).drew) c0 c1 (by omega) | exact keep_below (hbc.alloc hbc.size _) c0 c1 (by omega) | exact keep_below ((hbc.alloc hbc.size _).alloc (by simp <;> omega) _) c0 c1 (by omega))
      (first
      | (refine step_app (o := ⟨some 18, _, _, _, _, _⟩) _ (by rfl) (.tmp 15) (.tmp 17) 23 (by rfl) 34 i0 (.agg #[.int .i64 0, .int .i64 0]) 2 16 Try.underlying23 hi0 hz0 hz1 hz2 rfl (by decide) (by first | exact ((Below.refl _ w1).alloc (Nat.le_refl _) _).drew | exact (((Below.refl _ w1).alloc (Nat.le_refl _) _).alloc (by simp) _).drew | exact ((((Below.refl _ w1).alloc (Nat.le_refl _) _).alloc (by simp) _).alloc (by simp <;> omega) _).drew) _ 0 [] (by rfl) (by first | exact (made_at (by simp) (by omega)).drew | exact ((made_at (by simp) (by omega)).alloc _).drew | exact (((made_at (by simp) (by omega)).alloc _).alloc _).drew) _ n _ (flat ef es) (by rfl) (by first | exact (hx3.on (((Below.refl _ w1).alloc (Nat.le_refl _) _).drew)).src ef_len HN.out | exact (hx3.on ((((Below.refl _ w1).alloc (Nat.le_refl _) _).alloc (by simp) _).drew)).src ef_len HN.out | exact (hx3.on (((((Below.refl _ w1).alloc (Nat.le_refl _) _).alloc (by simp) _).alloc (by simp <;> omega) _).drew)).src ef_len HN.out) q4 n (Nat.zero_add n) q5 q6 _ rfl ?_
         intro D2 c2 w3 ho18 hg3 hown3 hbc
         (first | (have hs : Src w3 2 _ 1 (ef (p, q)) := src_app (src_drew (src_two _ p q _)) hg3 (by show some _ ≠ some _; simp <;> omega); (try simp only [World.size_alloc] at hs)) | (have hs : Src w3 2 _ 1 (ef (p, q)) := src_app (src_drew (src_alloc (src_two _ p q _) _)) hg3 (by show some _ ≠ some _; simp <;> omega); (try simp only [World.size_alloc] at hs)) | (have hs : Src w3 2 _ 1 (ef (p, q)) := src_app (src_drew (src_alloc (src_alloc (src_two _ p q _) _) _)) hg3 (by show some _ ≠ some _; simp <;> omega); (try simp only [World.size_alloc] at hs)) | skip)
         (first | (have h8 : NewL w3 _ := ((NewL.new _).drew).app ho18 hg3; (try simp only [World.size_alloc] at h8)) | (have h8 : NewL w3 _ := (((NewL.new _).alloc _).drew).app ho18 hg3; (try simp only [World.size_alloc] at h8)) | (have h8 : NewL w3 _ := ((((NewL.new _).alloc _).alloc _).drew).app ho18 hg3; (try simp only [World.size_alloc] at h8)) | skip)
         have hz3 := hbc.size
         clear hg3 ho18
         have e10 := (hbc.cell (p := ⟨w.heap.size, 0, none⟩) (by show w.heap.size < _; omega)).trans c0
         have e11 := (hbc.cell (p := ⟨w.heap.size, 1, none⟩) (by show w.heap.size < _; omega)).trans c1
)
      | (refine step_app (o := ⟨some 23, _, _, _, _, _⟩) _ (by rfl) (.tmp 18) (.tmp 22) 23 (by rfl) 34 i0 (.agg #[.int .i64 0, .int .i64 0]) 2 16 Try.underlying23 hi0 hz0 hz1 hz2 rfl (by decide) (by first | exact hbc | exact hbc.alloc hbc.size _ | exact (hbc.alloc hbc.size _).alloc (by simp <;> omega) _) _ n (flat ef es) (by rfl) (by first | exact hown3 | exact hown3.alloc _ | exact (hown3.alloc _).alloc _) _ 1 _ (ef (p, q)) (by rfl) (by first | exact hs | exact src_alloc hs _ | exact src_at p q _ (by simp) | exact src_alloc (src_at p q _ (by simp)) _) (ef_one _) _ rfl q1 q2 _ HF.out ?_
         intro D3 c3 w4 ho23 hg4 hown4 hbd
         (first | (have h9 : NewL w4 _ := (h8).app ho23 hg4; (try simp only [World.size_alloc] at h9); obtain ⟨s0, s1, s2, s3⟩ := h9.facts) | (have h9 : NewL w4 _ := (h8.alloc _).app ho23 hg4; (try simp only [World.size_alloc] at h9); obtain ⟨s0, s1, s2, s3⟩ := h9.facts) | (have h9 : NewL w4 _ := (NewL.new _).app ho23 hg4; (try simp only [World.size_alloc] at h9); obtain ⟨s0, s1, s2, s3⟩ := h9.facts) | (have h9 : NewL w4 _ := ((NewL.new _).alloc _).app ho23 hg4; (try simp only [World.size_alloc] at h9); obtain ⟨s0, s1, s2, s3⟩ := h9.facts) | skip)
         clear hg4 ho23
         have e20 := (hbd.cell (p := ⟨w.heap.size, 0, none⟩) (by show w.heap.size < _; omega)).trans c0
         have e21 := (hbd.cell (p := ⟨w.heap.size, 1, none⟩) (by show w.heap.size < _; omega)).trans c1
))
    all_goals
      go_wp2_with fail
      go_meet
      first
        | exact cutq_2 hown4 hbd
        | exact cutq_1 h9 hown4 hbd (by omega)
  case rest =>
    obtain ⟨g, D3, c3, rfl, d0, d1, hown4, hbe⟩ := hcut
    go_wp2_with fail
    refine (svalid_any b D3 (n + 1) c3 (es ++ [(p, q)]) _ (Recs.of_own ef_len hown4 (by omega)).2 HL.out (by omega)).mono ?_
    rintro e w5 ⟨rfl, hb5⟩
    have hbf : Below w1.heap.size w1 w5 := hbe.trans (hb5.mono hbe.size)
    have hown5 := own_below hown4 hb5
    have g0 := (hb5.cell (p := ⟨g, 0, none⟩) (World.block_lt_of_cell? _ _ d0)).trans d0
    have g1 := (hb5.cell (p := ⟨g, 1, none⟩) (World.block_lt_of_cell? _ _ d1)).trans d1
    have e6 := (hbf.cell (p := ⟨w.heap.size + 1, 0, none⟩) (by show w.heap.size + 1 < _; omega)).trans r0
    have e7 := (hbf.cell (p := ⟨w.heap.size + 1, 1, none⟩) (by show w.heap.size + 1 < _; omega)).trans r1
    have e8 := (hbf.frozen (p := ⟨w.heap.size + 1, 0, none⟩) (by show w.heap.size + 1 < _; omega)).trans f0
    have e9 := (hbf.frozen (p := ⟨w.heap.size + 1, 1, none⟩) (by show w.heap.size + 1 < _; omega)).trans f1
    clear hb5 hown4 hbe d0 d1
    cases hv2 : ldB b (es ++ [(p, q)])
    · go_wp2_with fail
      refine bodyPost_ret (v := .tuple #[(.agg #[.int .i64 0, .slice none 0 0]), .bool false]) (by simp [results, Try.results26, go_sem, *]) rfl ⟨(fun h => by rw [hv2] at h; cases h), fun _ => ⟨rfl, ?_⟩⟩
      exact ((hbw.trans (hbf.mono (by omega))).setCell (by show _ ≤ w.heap.size + 1; omega) _).setCell (by show _ ≤ w.heap.size + 1; omega) _
    · go_wp2_with fail
      refine bodyPost_ret (v := .tuple #[.agg #[.int .i64 b, .slice D3 (n + 1) c3], .bool true]) (by simp [results, Try.results26, go_sem, *]) rfl ⟨fun _ => ⟨D3, n + 1, c3, rfl, by rw [HN.out]; rfl, ?_, ?_⟩, fun h => by rw [hv2] at h; cases h⟩
      · exact own_base (ownsRow_setCell_below (ownsRow_setCell_below hown5 (by show w.heap.size + 1 < _; omega) _) (by show w.heap.size + 1 < _; omega) _) (by omega)
      · exact ((hbw.trans (hbf.mono (by omega))).setCell (by show _ ≤ w.heap.size + 1; omega) _).setCell (by show _ ≤ w.heap.size + 1; omega) _

theorem sask_t (b : Int) (A : Option Addr) (n c : Nat) (es : List (Int × Int)) (p q : Int) (w : World) (hx : Recs ef 2 w w.heap.size A es) (hn : es.length = n) (hm : n ≤ 2097152) (hv : ldB b es = true) (hv2 : ldB b (es ++ [(p, q)]) = true) :
    Calls Try.prog 26 #[.agg #[.int .i64 b, .slice A n c], .int .i64 p, .int .i64 q] w (AskQ b es p q w) := (sask_tf b A n c es p q w hx hn hm hv).mono fun _ _ h => h.1 hv2
theorem sask_f (b : Int) (A : Option Addr) (n c : Nat) (es : List (Int × Int)) (p q : Int) (w : World) (hx : Recs ef 2 w w.heap.size A es) (hn : es.length = n) (hm : n ≤ 2097152) (hv : ldB b es = true) (hv2 : ldB b (es ++ [(p, q)]) = false) :
    Calls Try.prog 26 #[.agg #[.int .i64 b, .slice A n c], .int .i64 p, .int .i64 q] w fun e w' => e = .returned (.tuple #[(.agg #[.int .i64 0, .slice none 0 0]), .bool false]) ∧ Below w.heap.size w w' := (sask_tf b A n c es p q w hx hn hm hv).mono fun _ _ h => h.2 hv2

set_option maxHeartbeats 400000 in
theorem sask_n (b : Int) (A : Option Addr) (n c : Nat) (es : List (Int × Int)) (p q : Int) (w : World) (hx : Recs ef 2 w w.heap.size A es) (hn : es.length = n) (hm : n ≤ 2097152) (hv : ldB b es = false) :
    Calls Try.prog 26 #[.agg #[.int .i64 b, .slice A n c], .int .i64 p, .int .i64 q] w fun e w' => e = .returned (.tuple #[(.agg #[.int .i64 0, .slice none 0 0]), .bool false]) ∧ Below w.heap.size w w' := by
  have HN := Lib.hid hn
  clear hn
  have hx1 := hx.alloc (.cells #[.int .i64 b, .slice A n c] 25)
  have hx2 := hx1.alloc (.cells #[.int .i64 0, .slice none 0 0] 25)
  go_enter Try.func26, Try.ntmps26
  go_wp2_with fail
  refine (svalid_any b A n c es _ hx2 HN.out (by omega)).mono ?_
  rintro e w1 ⟨rfl, hb1⟩
  obtain ⟨hc1, hf1⟩ := bcell hb1
  go_wp2_with fail
  refine bodyPost_ret (v := .tuple #[(.agg #[.int .i64 0, .slice none 0 0]), .bool false]) (by simp [results, Try.results26, go_sem, hc1]) rfl ⟨rfl, ?_⟩
  exact (((box2 w _ _).trans (hb1.mono (by simp; omega))).setCell (by simp) _).setCell (by simp) _
end Go.Proofs.Ytllnmgadaodieaa
