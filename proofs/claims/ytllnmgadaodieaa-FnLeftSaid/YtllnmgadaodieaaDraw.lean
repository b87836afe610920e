/-
  Ledgers that are drawn out of a code: l93Ledger returns a ledger with entries of its own; of what was there only the reader turns.
-/
import Derived.Test.YtllnmgadaodieaaAskS
import Derived.Test.YtllnmgadaodieaaPick
import Derived.Deep.RegionLaw
namespace Go.Proofs.Ytllnmgadaodieaa
open Go.RowKit
attribute [local go_sem ↓] Go.wp_at_zero Go.wp_at_succ

theorem own_row_block {w : World} {base : Nat} {t : TypeId} {size n : Nat} {v : Value} {xs : List Value} (h : w.ownsRow base t size v n xs) {g : Nat} (hg : g < base) : v.ownBlock = none ∨ v.ownBlock ≠ some g := by
  rcases hv : v.ownBlock with _ | b
  · exact .inl rfl
  · right
    intro e
    injection e with e
    have := (h.lt b hv).1
    omega
/-- What LedgerAsk leaves, whatever the question. -/
def AskAny (b : Int) (n : Nat) (w : World) (e : Ending) (w' : World) : Prop :=
  ∃ (b' : Int) (D : Option Addr) (n' c' : Nat) (es' : List (Int × Int)) (ok : Bool), e = .returned (.tuple #[.agg #[.int .i64 b', .slice D n' c'], .bool ok]) ∧ Hid (ok = true → b' = b) ∧ n' ≤ n + 1 ∧ Hid (es'.length = n') ∧ w'.ownsRow w.heap.size 34 2 (.slice D n' c') n' (flat ef es') ∧ Below w.heap.size w w'
theorem sask_any (b : Int) (A : Option Addr) (n c : Nat) (es : List (Int × Int)) (p q : Int) (w : World) (hx : Recs ef 2 w w.heap.size A es) (hn : es.length = n) (hm : n ≤ 2097152) :
    Calls Try.prog 26 #[.agg #[.int .i64 b, .slice A n c], .int .i64 p, .int .i64 q] w (AskAny b n w) := by
  have no : ∀ (e : Ending) (w' : World), e = .returned (.tuple #[.agg #[.int .i64 0, .slice none 0 0], .bool false]) ∧ Below w.heap.size w w' → AskAny b n w e w' := by
    rintro e w' ⟨rfl, hb⟩
    exact ⟨0, none, 0, 0, [], false, rfl, (fun h => by cases h), by omega, rfl, World.ownsRow_nil _ _ _ _, hb⟩
  cases hv : ldB b es
  · exact (sask_n b A n c es p q w hx hn hm hv).mono no
  · cases hv2 : ldB b (es ++ [(p, q)])
    · exact (sask_f b A n c es p q w hx hn hm hv hv2).mono no
    · refine (sask_t b A n c es p q w hx hn hm hv hv2).mono ?_
      rintro e w' ⟨D, n', c', rfl, hn', hown, hb⟩
      have hn' := hn'.out
      exact ⟨b, D, n', c', es ++ [(p, q)], true, rfl, fun _ => rfl, by omega, by show (es ++ [(p, q)]).length = n'; simp; omega, hown, hb⟩

/-- A ledger's block. -/
def LedB (w : World) (g : Nat) (b : Int) (v : Value) : Prop := w.heap[g]? = some (.cells #[.int .i64 b, v] 25 (0, 0))
section
variable {w w' : World} {g : Nat} {b : Int} {v : Value}
theorem LedB.lt (h : LedB w g b v) : g < w.heap.size := (Array.getElem?_eq_some_iff.1 h).1
theorem LedB.new (w : World) (b : Int) (v : Value) : LedB (w.alloc (.cells #[.int .i64 b, v] 25)) w.heap.size b v := heap_alloc_new w _
theorem LedB.drew (h : LedB w g b v) : LedB w.drew g b v := h
theorem LedB.alloc (h : LedB w g b v) (o : Obj) : LedB (w.alloc o) g b v := heap_two h
theorem LedB.grown {row : Option Nat} (h : LedB w g b v) (hg : w.grownBy w' row) (hne : some g ≠ row) : LedB w' g b v := (hg.block g h.lt hne).trans h
theorem LedB.below (h : LedB w g b v) (hb : Below w.heap.size w w') : LedB w' g b v := (hb.block g h.lt).trans h
theorem LedB.far (h : LedB w g b v) {p : Addr} (hp : g ≠ p.block) (u : Value) : LedB (w.setCell p u) g b v := (Below.heap_setCell w p u g hp).trans h
theorem LedB.set (h : LedB w g b v) (b' : Int) (v' : Value) : LedB ((w.setCell ⟨g, 0, none⟩ (.int .i64 b')).setCell ⟨g, 1, none⟩ v') g b' v' := by
  have h1 := heap_setCell_same w g 0 _ _ (.int .i64 b') h
  exact heap_setCell_same (w.setCell ⟨g, 0, none⟩ (.int .i64 b')) g 1 _ _ v' h1
theorem LedB.set0 (h : LedB w g b v) (b' : Int) : LedB (w.setCell ⟨g, 0, none⟩ (.int .i64 b')) g b' v := heap_setCell_same w g 0 _ _ (.int .i64 b') h
theorem LedB.set1 (h : LedB w g b v) (v' : Value) : LedB (w.setCell ⟨g, 1, none⟩ v') g b v' := heap_setCell_same w g 1 _ _ v' h
theorem LedB.facts (h : LedB w g b v) : w.cell? ⟨g, 0, none⟩ = some (.int .i64 b) ∧ w.cell? ⟨g, 1, none⟩ = some v ∧ w.frozen? ⟨g, 0, none⟩ = false ∧ w.frozen? ⟨g, 1, none⟩ = false := by
  unfold LedB at h
  refine ⟨by rw [cell_of_row w g 0 _ _ _ h]; rfl, by rw [cell_of_row w g 1 _ _ _ h]; rfl, ?_, ?_⟩ <;> simp [World.frozen?, h]
end
/-- The ledger so far, in block k: entries of its own; the result's block, the reader, and what was there. -/
structure LInv (g : Nat) (A : Option Addr) (len cap : Nat) (w wr : World) (M k : Nat) (b : Int) (D : Option Addr) (n c : Nat) (es : List (Int × Int)) : Prop where
  res : LedB wr w.heap.size 0 (.slice none 0 0)
  out : LedB wr k b (.slice D n c)
  lt : w.heap.size < k
  leng : Hid (es.length = n)
  own : wr.ownsRow w.heap.size 34 2 (.slice D n c) n (flat ef es)
  rd : Rd wr g A len cap M
  kp : w.grownBy wr (some g)
section
variable {g : Nat} {A : Option Addr} {len cap : Nat} {w wr w' : World} {M M' k : Nat} {b : Int} {D : Option Addr} {n c : Nat} {es : List (Int × Int)}
theorem LInv.drew (h : LInv g A len cap w wr M k b D n c es) : LInv g A len cap w wr.drew M k b D n c es := ⟨h.res, h.out, h.lt, h.leng, h.own, h.rd.drew, ⟨h.kp.os, h.kp.tape, h.kp.output, h.kp.size, h.kp.block⟩⟩
theorem LInv.more (h : LInv g A len cap w wr M k b D n c es) (hM : M ≤ M') : LInv g A len cap w wr M' k b D n c es := ⟨h.res, h.out, h.lt, h.leng, h.own, h.rd.more hM, h.kp⟩
theorem LInv.alloc (h : LInv g A len cap w wr M k b D n c es) (o : Obj) : LInv g A len cap w (wr.alloc o) M k b D n c es := ⟨h.res.alloc o, h.out.alloc o, h.lt, h.leng, h.own.alloc o, h.rd.alloc o, kp_alloc h.kp o⟩
theorem LInv.below (h : LInv g A len cap w wr M k b D n c es) (hb : Below wr.heap.size wr w') : LInv g A len cap w w' M k b D n c es := ⟨h.res.below hb, h.out.below hb, h.lt, h.leng, own_below h.own hb, h.rd.below hb h.rd.lt, kp_below h.kp hb⟩
theorem LInv.pick (h : LInv g A len cap w wr M k b D n c es) (hgw : g < w.heap.size) (hr : Rd w' g A len cap M') (hg : wr.grownBy w' (some g)) : LInv g A len cap w w' M' k b D n c es :=
  ⟨h.res.grown hg (by simp; omega), h.out.grown hg (by have := h.lt; simp; omega), h.lt, h.leng, h.own.kept hg (own_row_block h.own hgw), hr, kp_step h.kp hg (fun b e => .inl (by injection e with e; exact e.symm))⟩
theorem LInv.recs (h : LInv g A len cap w wr M k b D n c es) : Recs ef 2 wr wr.heap.size D es := (Recs.of_own ef_len h.own (by omega)).2
theorem LInv.big (h : LInv g A len cap w wr M k b D n c es) : k < wr.heap.size := h.out.lt
/-- A store into another ledger's block. -/
theorem LInv.far (h : LInv g A len cap w wr M k b D n c es) (hgw : g < w.heap.size) {q i : Nat} {b1 : Int} {v1 : Value} (hq : LedB wr q b1 v1) (hk : k < q) (u : Value) : LInv g A len cap w (wr.setCell ⟨q, i, none⟩ u) M k b D n c es :=
  ⟨h.res.far (by have := h.lt; show w.heap.size ≠ q; omega) u, h.out.far (by show k ≠ q; omega) u, h.lt, h.leng, own_store h.own hq (by decide), h.rd.setCell (by have := h.lt; show g < q; omega) u,
    kp_step h.kp (row := some q) ⟨rfl, rfl, rfl, by simp [World.setCell], fun j _ hne => Below.heap_setCell wr _ _ j (fun e => hne (by rw [e]))⟩ (fun x e => .inr (by injection e with e; have := h.lt; omega))⟩
/-- A store into the ledger's own block. -/
theorem LInv.kstep (h : LInv g A len cap w wr M k b D n c es) (u : Value) (i : Nat) : w.grownBy (wr.setCell ⟨k, i, none⟩ u) (some g) :=
  kp_step h.kp (row := some k) ⟨rfl, rfl, rfl, by simp [World.setCell], fun j _ hne => Below.heap_setCell wr _ _ j (fun e => hne (by rw [e]))⟩ (fun x e => .inr (by injection e with e; have := h.lt; omega))
theorem LInv.put0 (h : LInv g A len cap w wr M k b D n c es) (hgw : g < w.heap.size) (b' : Int) : LInv g A len cap w (wr.setCell ⟨k, 0, none⟩ (.int .i64 b')) M k b' D n c es :=
  ⟨h.res.far (by have := h.lt; show w.heap.size ≠ k; omega) _, h.out.set0 b', h.lt, h.leng, own_store h.own h.out (by decide), h.rd.setCell (by have := h.lt; show g < k; omega) _, h.kstep _ 0⟩
theorem LInv.put1 (h : LInv g A len cap w wr M k b D n c es) (hgw : g < w.heap.size) {D' : Option Addr} {n' c' : Nat} {es' : List (Int × Int)} (hl : es'.length = n') (ho : wr.ownsRow w.heap.size 34 2 (.slice D' n' c') n' (flat ef es')) : LInv g A len cap w (wr.setCell ⟨k, 1, none⟩ (.slice D' n' c')) M k b D' n' c' es' :=
  ⟨h.res.far (by have := h.lt; show w.heap.size ≠ k; omega) _, h.out.set1 _, h.lt, hl, own_store ho h.out (by decide), h.rd.setCell (by have := h.lt; show g < k; omega) _, h.kstep _ 1⟩
theorem LInv.put (h : LInv g A len cap w wr M k b D n c es) (hgw : g < w.heap.size) (b' : Int) {D' : Option Addr} {n' c' : Nat} {es' : List (Int × Int)} (hl : es'.length = n') (ho : wr.ownsRow w.heap.size 34 2 (.slice D' n' c') n' (flat ef es')) : LInv g A len cap w ((wr.setCell ⟨k, 0, none⟩ (.int .i64 b')).setCell ⟨k, 1, none⟩ (.slice D' n' c')) M k b' D' n' c' es' :=
  (h.put0 hgw b').put1 hgw hl (own_store ho h.out (by decide))
theorem LInv.outApp (h : LInv g A len cap w wr M k b D n c es) (hg : wr.grownBy w' (Value.slice D n c).ownBlock) : LedB w' k b (.slice D n c) := blk_app h.own hg h.out (by decide)
/-- An append to the ledger's own entries, put back. -/
theorem LInv.app (h : LInv g A len cap w wr M k b D n c es) (hgw : g < w.heap.size) (hg : wr.grownBy w' (Value.slice D n c).ownBlock) {D' : Option Addr} {n' c' : Nat} {es' : List (Int × Int)} (hl : es'.length = n') (ho : w'.ownsRow w.heap.size 34 2 (.slice D' n' c') n' (flat ef es')) : LInv g A len cap w (w'.setCell ⟨k, 1, none⟩ (.slice D' n' c')) M k b D' n' c' es' := by
  have hk := h.lt
  have h1 : LedB w' w.heap.size 0 (.slice none 0 0) := blk_app h.own hg h.res (by decide)
  have h2 : LedB w' k b (.slice D n c) := h.outApp hg
  refine ⟨h1.far (by show w.heap.size ≠ k; omega) _, h2.set1 _, hk, hl, own_store ho h2 (by decide), (h.rd.grown hg (fun x e => by have := (h.own.lt x e).1; omega)).setCell (by show g < k; omega) _, ?_⟩
  exact kp_step (kp_step h.kp hg (fun x e => .inr (h.own.lt x e).1)) (row := some k) ⟨rfl, rfl, rfl, by simp [World.setCell], fun j _ hne => Below.heap_setCell w' _ _ j (fun e => hne (by rw [e]))⟩ (fun x e => .inr (by injection e with e; omega))
end
/-- What the statement that asks leaves. -/
def CutL (g : Nat) (A : Option Addr) (len cap : Nat) (w : World) (M k : Nat) (b : Int) (D : Option Addr) (n c : Nat) (es : List (Int × Int)) (s6 s7 : Value) (wx : World) : Prop :=
  ∃ (q : Nat) (b' : Int) (D' : Option Addr) (n' c' : Nat) (es' : List (Int × Int)) (ok : Bool), s6 = .pointer (some ⟨q, 0, none⟩) ∧ s7 = .bool ok ∧ Hid (ok = true → b' = b) ∧ n' ≤ n + 1 ∧ Hid (es'.length = n') ∧ wx.ownsRow w.heap.size 34 2 (.slice D' n' c') n' (flat ef es') ∧ LedB wx q b' (.slice D' n' c') ∧ k < q ∧ LInv g A len cap w wx M k b D n c es
/-- What l93Ledger leaves. -/
def LedQ (g : Nat) (A : Option Addr) (len cap M : Nat) (w : World) (e : Ending) (w' : World) : Prop :=
  ∃ (b : Int) (D : Option Addr) (n c : Nat) (es : List (Int × Int)), e = .returned (.agg #[.int .i64 b, .slice D n c]) ∧ -1 ≤ b ∧ b ≤ 1001 ∧ n ≤ 8 ∧ Hid (es.length = n) ∧ w'.ownsRow w.heap.size 34 2 (.slice D n c) n (flat ef es) ∧ Rd w' g A len cap (M + 100) ∧ w.grownBy w' (some g)
theorem led_fin {g : Nat} {A : Option Addr} {len cap : Nat} {w wr : World} {M k : Nat} {b : Int} {D : Option Addr} {n c : Nat} {es : List (Int × Int)} (h : LInv g A len cap w wr (M + 100) k b D n c es) (hgw : g < w.heap.size) (h0 : -1 ≤ b) (h1 : b ≤ 1001) (hn : n ≤ 8) : LedQ g A len cap M w (.returned (.agg #[.int .i64 b, .slice D n c])) ((wr.setCell ⟨w.heap.size, 0, none⟩ (.int .i64 b)).setCell ⟨w.heap.size, 1, none⟩ (.slice D n c)) := by
  have k1 : ∀ (W : World) (i : Nat) (u : Value), W.grownBy (W.setCell ⟨w.heap.size, i, none⟩ u) (some w.heap.size) := fun W i u => ⟨rfl, rfl, rfl, by simp [World.setCell], fun j _ hne => Below.heap_setCell W _ _ j (fun e => hne (by rw [e]))⟩
  refine ⟨b, D, n, c, es, rfl, h0, h1, hn, h.leng, own_store (own_store h.own h.res (by decide)) (h.res.set0 b) (by decide), (h.rd.setCell (by show g < w.heap.size; omega) _).setCell (by show g < w.heap.size; omega) _, ?_⟩
  exact kp_step (kp_step h.kp (k1 _ _ _) (fun x e => .inr (by injection e with e; omega))) (k1 _ _ _) (fun x e => .inr (by injection e with e; omega))
theorem two_at (x y : Int) (r : Nat) (h : r < 2) : ∃ z : Int, (z = x ∨ z = y) ∧ #[Value.int .i64 x, .int .i64 y][r]? = some (.int .i64 z) ∧ [Value.int .i64 x, .int .i64 y][r]? = some (.int .i64 z) := by
  match r, h with
  | 0, _ => exact ⟨x, .inl rfl, rfl, rfl⟩
  | 1, _ => exact ⟨y, .inr rfl, rfl, rfl⟩
/-- A cell of a block that the call has just laid reads as it was laid, behind a step that turns block g alone. -/
theorem cell_laid {w w' : World} {g i : Nat} {cs : Array Value} {t : TypeId} {u : Value} (hg : (w.alloc (.cells cs t)).grownBy w' (some g)) (hlt : g < w.heap.size) (hi : cs[i]? = some u) : w'.cell? ⟨w.heap.size, i, none⟩ = some u := by
  have h : w'.heap[w.heap.size]? = some (.cells cs t (0, 0)) := (hg.block w.heap.size (by simp) (by intro e; injection e; omega)).trans (heap_alloc_new w _)
  rw [cell_of_row w' w.heap.size i cs t (0, 0) h]; exact hi

set_option maxHeartbeats 8000000 in
theorem ledger_any (g : Nat) (A : Option Addr) (len cap M : Nat) (w : World) (hr : Rd w g A len cap M) (hM : M ≤ 900000) :
    Calls Try.prog 29 #[.pointer (some ⟨g, 0, none⟩)] w (LedQ g A len cap M w) := by
  obtain ⟨i0, hi0, hz0, hz1, hz2⟩ := info_parts en_info
  have hgw := hr.lt
  go_enter Try.func29, Try.ntmps29
  go_wp2_with fail
  refine (pick_any g A len cap M _ _ (hr.alloc _) (by omega)).mono ?_
  rintro e w1 ⟨b, rfl, b0, b1, -, hr1, hg1, hs1⟩
  have b1 := b1 (by omega)
  have hI : LInv g A len cap w ((w1.alloc (.cells #[] 34)).alloc (.cells #[.int .i64 b, .slice (some ⟨w1.heap.size, 0, none⟩) 0 0] 25)) (M + 1) (w1.heap.size + 1) b (some ⟨w1.heap.size, 0, none⟩) 0 0 [] := by
    have hs1 : w1.heap.size = w.heap.size + 1 := by rw [hs1]; simp
    refine ⟨(((LedB.new w 0 _).grown hg1 (by simp; omega)).alloc _).alloc _, ?_, by omega, rfl, ((World.ownsRow_made w1 #[] 0 (by omega) (by simp [maxLen]) rfl).alloc _), (hr1.alloc _).alloc _, kp_alloc (kp_alloc (kp_step (kp_alloc (kp_refl w g) _) hg1 (fun b e => .inl (by injection e with e; exact e.symm))) _) _⟩
    have := LedB.new (w1.alloc (.cells #[] 34)) b (.slice (some ⟨w1.heap.size, 0, none⟩) 0 0)
    simpa using this
  clear hs1 hr1 hg1
  go_wp2_with fail
  refine (pick_any g A len cap _ _ _ hI.rd (by omega)).mono ?_
  rintro e w2 ⟨N, rfl, N0, N1, -, hr2, hg2, -⟩
  have N1 := N1 (by omega)
  have hI := hI.pick hgw hr2 hg2
  clear hr2 hg2
  go_wp2_with fail
  go_loopw [5] (fun i wr => ∃ (t : Nat) (b : Int) (D : Option Addr) (n c : Nat) (es : List (Int × Int)), (t : Int) ≤ N ∧ i = .int .i64 (t : Int) ∧ 0 ≤ b ∧ b < 200 ∧ n ≤ t ∧ LInv g A len cap w wr (M + 2 + 2 * t) (w1.heap.size + 1) b D n c es) (fun i _ => N.toNat - (intOf i).toNat)
  case atStart => exact ⟨0, b, _, _, _, _, by omega, rfl, b0, b1, by omega, hI⟩
  case round =>
    clear hI
    obtain ⟨t, b, D, n, c, es, ht, rfl, b0, b1, hn, hI⟩ := hrel
    have hbig := hI.big
    have hlt := hI.lt
    have HL := hI.leng
    obtain ⟨x0, x1, x2, x3⟩ := hI.out.facts
    by_cases htl : (t : Int) < N
    · go_upto_region 6 with fail
      go_cut [6, 7] (fun s6 s7 wx => CutL g A len cap w (M + 2 + 2 * t + 2) (w1.heap.size + 1) b D n c es s6 s7 wx)
      case first =>
        go_region_held3 (fun w' => w'.cell? ⟨w1.heap.size + 1, 0, none⟩ = some (.int .i64 b) ∧ w'.cell? ⟨w1.heap.size + 1, 1, none⟩ = some (.slice D n c)) (first | (go_keep; done) | exact keep_far (by assumption) (by assumption) (by omega))
          (first
      | (go_at_call 30
         first
           | (refine (pick_any g A len cap _ _ _ (hI.drew).rd (by omega)).mono ?_
              rintro e w3 ⟨r, rfl, r0, r1, -, hr3, hg3, -⟩
              have r1 := r1 (by omega)
              skip
              have hI := (hI.drew).pick hgw hr3 hg3)
           | (refine (pick_any g A len cap _ _ _ ((hI.alloc _).drew).rd (by omega)).mono ?_
              rintro e w3 ⟨r, rfl, r0, r1, -, hr3, hg3, -⟩
              have r1 := r1 (by omega)
              have h6 : LedB w3 _ 0 (.slice none 0 0) := ((LedB.new _ _ _).drew).grown hg3 (by have := hI.big; have := hI.lt; simp; omega)
              have hI := ((hI.alloc _).drew).pick hgw hr3 hg3)
           | (refine (pick_any g A len cap _ _ _ (hI).rd (by omega)).mono ?_
              rintro e w3 ⟨r, rfl, r0, r1, -, hr3, hg3, -⟩
              have r1 := r1 (by omega)
              (first | (have h6 := h6.grown hg3 (by simp; omega)) | skip)
              have hI := (hI).pick hgw hr3 hg3)
           | (refine (pick_any g A len cap _ _ _ (hI.alloc _).rd (by omega)).mono ?_
              rintro e w3 ⟨r, rfl, r0, r1, -, hr3, hg3, -⟩
              have r1 := r1 (by omega)
              have h6 : LedB w3 _ 0 (.slice none 0 0) := (LedB.new _ _ _).grown hg3 (by have := hI.big; have := hI.lt; simp; omega)
              have hI := (hI.alloc _).pick hgw hr3 hg3)
         obtain ⟨x0, x1, -, -⟩ := hI.out.facts
         have hbig := hI.big
         clear hr3 hg3)
      | (go_at_call 26
         first
           | (refine (sask_any b D n c es _ _ _ (hI).recs HL.out (by omega)).mono ?_
              rintro e w4 ⟨b', D', n', c', es', ok, rfl, HOK, hn', HL', hown', hb4⟩
              (first | (have h6 := h6.below hb4; obtain ⟨s0, s1, s2, s3⟩ := h6.facts) | skip)
              have hown' := own_base hown' (base' := w.heap.size) (by have := hI.big; have := hI.lt; simp; omega)
              have hI := (hI).below hb4)
           | (refine (sask_any b D n c es _ _ _ (hI.alloc _).recs HL.out (by omega)).mono ?_
              rintro e w4 ⟨b', D', n', c', es', ok, rfl, HOK, hn', HL', hown', hb4⟩
              have h6 : LedB w4 _ 0 (.slice none 0 0) := (LedB.new _ _ _).below hb4
              obtain ⟨s0, s1, s2, s3⟩ := h6.facts
              have hown' := own_base hown' (base' := w.heap.size) (by have := hI.big; have := hI.lt; simp; omega)
              have hI := (hI.alloc _).below hb4)
         obtain ⟨x0, x1, -, -⟩ := hI.out.facts
         have hbig := hI.big
         clear hb4))
        all_goals
          go_wp2_with fail
          go_meet
          first
            | exact ⟨_, b', D', n', c', es', ok, rfl, rfl, HOK, hn', HL', hown'.alloc _, LedB.new _ _ _, hbig, (hI.alloc _).more (by omega)⟩
            | exact ⟨_, b', D', n', c', es', ok, rfl, rfl, HOK, hn', HL', own_store (own_store hown' h6 (by decide)) (h6.set0 b') (by decide), h6.set b' _, by omega, ((hI.far hgw h6 (by omega) _).far hgw (h6.set0 b') (by omega) _).more (by omega)⟩
      case rest =>
        obtain ⟨q, b', D', n', c', es', ok, rfl, rfl, HOK, hn', HL', hown', h6, hkq, hI⟩ := hcut
        obtain ⟨x0, x1, x2, x3⟩ := hI.out.facts
        obtain ⟨y0, y1, -, -⟩ := h6.facts
        cases ok
        · go_wp2_with fail
          go_roundw
          case rel => exact ⟨t + 1, b, D, n, c, es, by omega, by go_num, b0, b1, by omega, hI.more (by omega)⟩
          case measure => simp [intOf]; omega
        · obtain rfl := HOK.out rfl
          have hJ := (hI.put hgw b' HL'.out hown').more (M' := M + 2 + 2 * (t + 1)) (by omega)
          go_wp2_with fail
          go_roundw
          case rel => exact ⟨t + 1, b', D', n', c', es', by omega, by go_num, b0, b1, by omega, hJ⟩
          case measure => simp [intOf]; omega
    · have hn6 : n ≤ 6 := by omega
      go_wp2_with fail
      refine (pick_any g A len cap _ _ _ hI.rd (by omega)).mono ?_
      rintro e w3 ⟨s, rfl, s0, s1, -, hr3, hg3, -⟩
      have hI := (hI.pick hgw hr3 hg3).more (M' := M + 2 + 2 * t + 2) (by omega)
      clear hr3 hg3
      obtain ⟨x0, x1, x2, x3⟩ := hI.out.facts
      obtain ⟨z0, z1, z2, z3⟩ := hI.res.facts
      have HL := hI.leng
      have hbig := hI.big
      by_cases c0 : s = 0
      · subst c0
        go_wp2_with fail
        refine (pick_any g A len cap _ _ _ (hI.alloc _).rd (by omega)).mono ?_
        rintro e w4 ⟨r, rfl, r0, r1, -, hr4, hg4, -⟩
        have r1 := r1 (by omega)
        obtain ⟨r, rfl⟩ := Int.eq_ofNat_of_zero_le r0
        obtain ⟨z, hz, h1, h2⟩ := two_at (-1) 1001 r (by omega)
        have hc := cell_laid hg4 (by have := hI.lt; omega) h1
        have hI := ((hI.alloc _).pick hgw hr4 hg4).more (M' := M + 100) (by omega)
        clear hr4 hg4 x0 x1 x2 x3 z0 z1 z2 z3
        obtain ⟨x0, x1, x2, x3⟩ := hI.out.facts
        obtain ⟨z0, z1, z2, z3⟩ := hI.res.facts
        have hne : ¬ w.heap.size = w1.heap.size + 1 := by have := hI.lt; omega
        have hne' : ¬ w1.heap.size + 1 = w.heap.size := by have := hI.lt; omega
        have hzb : -1 ≤ z ∧ z ≤ 1001 := by omega
        obtain ⟨hz1', hz2'⟩ := hzb
        clear hz
        go_wp2_with fail
        refine bodyPost_ret (v := .agg #[.int .i64 z, .slice D n c]) (by simp [results, Try.results29, go_sem, *]) rfl ?_
        exact led_fin (hI.put0 hgw z) hgw hz1' hz2' (by omega)
      have b0' : (s == 0) = false := beq_eq_false_iff_ne.2 c0
      by_cases c1 : s = 1
      · subst c1
        have q1 : n + 1 ≤ maxLen := by simp only [maxLen]; omega
        have q2 : (n + 1) * 16 ≤ 140737488355328 := by omega
        have hne : ¬ w.heap.size = w1.heap.size + 1 := by have := hI.lt; omega
        have hne' : ¬ w1.heap.size + 1 = w.heap.size := by have := hI.lt; omega
        go_wp2_with fail
        have hn3 : ¬ w1.heap.size + 1 = w3.heap.size := by omega
        go_region_law
          (first
            | (go_simp; go_at_call 30
               first
                 | (refine (pick_any g A len cap _ _ _ hI.drew.rd (by omega)).mono ?_
                    rintro e w4 ⟨r, rfl, r0, r1, -, hr4, hg4, -⟩
                    have r1 := r1 (by omega)
                    obtain ⟨r, rfl⟩ := Int.eq_ofNat_of_zero_le r0
                    obtain ⟨z, hz, h1, h2⟩ := two_at (-2) 4 r (by omega)
                    have hI := (hI.drew.pick hgw hr4 hg4).more (M' := M + 100) (by omega))
                 | (refine (pick_any g A len cap _ _ _ (hI.alloc _).drew.rd (by omega)).mono ?_
                    rintro e w4 ⟨r, rfl, r0, r1, -, hr4, hg4, -⟩
                    have r1 := r1 (by omega)
                    obtain ⟨r, rfl⟩ := Int.eq_ofNat_of_zero_le r0
                    obtain ⟨z, hz, h1, h2⟩ := two_at (-2) 4 r (by omega)
                    have hc := cell_laid (w := w3) (t := 3) ⟨hg4.os, hg4.tape, hg4.output, hg4.size, hg4.block⟩ (by have := hI.lt; omega) h1
                    have hI := ((hI.alloc _).drew.pick hgw hr4 hg4).more (M' := M + 100) (by omega))
               obtain ⟨x0, x1, -, -⟩ := hI.out.facts
               have hn4 : w1.heap.size + 1 < w4.heap.size := hI.big
               have hn5 : w1.heap.size + 1 < w4.heap.size + 1 := by omega
               clear hr4 hg4)
            | (first
                 | (refine step_append_src _ (by rfl) _ _ 23 (by rfl) w.heap.size 34 i0 (.agg #[.int .i64 0, .int .i64 0]) 2 16 Try.underlying23 hi0 hz0 hz1 hz2 rfl (by decide) _ n (flat ef es) (by rfl) (hI.own.alloc _) _ 1 _ (ef (z, 1)) (by rfl) (src_two _ z 1 _) (ef_one _) q1 q2 (by have := hI.lt; have := hI.big; simp; omega) ?_
                    intro v' w5 hown5 hg5 _
                    rw [show flat ef es ++ ef (z, 1) = flat ef (es ++ [(z, 1)]) by rw [flat_append, flat_one]] at hown5
                    obtain ⟨D5, c5, rfl⟩ := own_form hown5
                    have hJ := (hI.alloc _).app hgw hg5 (show (es ++ [(z, 1)]).length = n + 1 by have := HL.out; simp; exact this) hown5
                    obtain ⟨x0, x1, x2, x3⟩ := ((hI.alloc _).outApp hg5).facts)
                 | (refine step_append_src _ (by rfl) _ _ 23 (by rfl) w.heap.size 34 i0 (.agg #[.int .i64 0, .int .i64 0]) 2 16 Try.underlying23 hi0 hz0 hz1 hz2 rfl (by decide) _ n (flat ef es) (by rfl) ((hI.own.alloc _).alloc _) _ 1 _ (ef (z, 1)) (by rfl) (src_at z 1 _ (by simp)) (ef_one _) q1 q2 (by have := hI.lt; have := hI.big; simp; omega) ?_
                    intro v' w5 hown5 hg5 _
                    rw [show flat ef es ++ ef (z, 1) = flat ef (es ++ [(z, 1)]) by rw [flat_append, flat_one]] at hown5
                    obtain ⟨D5, c5, rfl⟩ := own_form hown5
                    have hJ := ((hI.alloc _).alloc _).app hgw hg5 (show (es ++ [(z, 1)]).length = n + 1 by have := HL.out; simp; exact this) hown5
                    obtain ⟨x0, x1, x2, x3⟩ := (((hI.alloc _).alloc _).outApp hg5).facts)
               obtain ⟨z0, z1, z2, z3⟩ := hJ.res.facts
               clear hown5 hg5))
        all_goals
          go_wp2_with fail
          refine bodyPost_ret (v := .agg #[.int .i64 b, .slice D5 (n + 1) c5]) (by simp [results, Try.results29, go_sem, *]) rfl ?_
          exact led_fin (hJ.more (M' := M + 100) (by omega)) hgw (by omega) (by omega) (by omega)
      have b1' : (s == 1) = false := beq_eq_false_iff_ne.2 c1
      by_cases c2 : s = 2
      · subst c2
        have q1 : n + 1 ≤ maxLen := by simp only [maxLen]; omega
        have q2 : (n + 1) * 16 ≤ 140737488355328 := by omega
        have q3 : w.heap.size ≤ (w3.alloc (.cells #[.int .i64 (-1), .int .i64 (b + 1)] 34)).heap.size := by have := hI.lt; simp; omega
        have hne : ¬ w.heap.size = w1.heap.size + 1 := by have := hI.lt; omega
        have hne' : ¬ w1.heap.size + 1 = w.heap.size := by have := hI.lt; omega
        have hown := hI.own.alloc (.cells #[.int .i64 (-1), .int .i64 (b + 1)] 34)
        have hsrc := src_two w3 (-1) (b + 1) 34
        have HE := Lib.hid (show flat ef es ++ ef (-1, b + 1) = flat ef (es ++ [(-1, b + 1)]) by rw [flat_append, flat_one])
        have HL2 := Lib.hid (show (es ++ [(-1, b + 1)]).length = n + 1 by have := HL.out; simp; exact this)
        go_wp2_with (at_builtin; refine wpList_append_src _ rfl _ _ 23 rfl w.heap.size 34 i0 (.agg #[.int .i64 0, .int .i64 0]) 2 16 Try.underlying23 hi0 hz0 hz1 hz2 rfl (by decide) _ n (flat ef es) rfl hown _ 1 _ (ef (-1, b + 1)) rfl hsrc (ef_one _) q1 q2 q3 ?_)
        intro v' w5 hown5 hg5 _
        rw [HE.out] at hown5
        obtain ⟨D5, c5, rfl⟩ := own_form hown5
        have hJ := (hI.alloc _).app hgw hg5 HL2.out hown5
        obtain ⟨x0, x1, x2, x3⟩ := ((hI.alloc _).outApp hg5).facts
        obtain ⟨z0, z1, z2, z3⟩ := hJ.res.facts
        clear hown hsrc hown5 hg5
        go_wp2_with fail
        refine bodyPost_ret (v := .agg #[.int .i64 b, .slice D5 (n + 1) c5]) (by simp [results, Try.results29, go_sem, *]) rfl ?_
        exact led_fin (hJ.more (M' := M + 100) (by omega)) hgw (by omega) (by omega) (by omega)
      have b2' : (s == 2) = false := beq_eq_false_iff_ne.2 c2
      go_wp2_with fail
      refine bodyPost_ret (v := .agg #[.int .i64 b, .slice D n c]) (by simp [results, Try.results29, go_sem, *]) rfl ?_
      exact led_fin (hI.more (M' := M + 100) (by omega)) hgw (by omega) (by omega) (by omega)
end Go.Proofs.Ytllnmgadaodieaa
