/-
  People that are drawn out of a code: l91Person, l91People, l93Alike, DrawSwapOk, DrawSwapDo; of what was there only the reader turns.
-/
import Derived.Test.YtpjiencegicjbaaDo
import Derived.Test.YtpjiencegicjbaaPick
import Derived.Deep.RegionLaw
import Derived.IntWalk
import Derived.Deep.DeepCutAuto
namespace Go.Proofs.Ytpjiencegicjbaa
open Go.RowKit
attribute [local go_sem ↓] Go.wp_at_zero Go.wp_at_succ

theorem own_row_block {w : World} {base : Nat} {t : TypeId} {size n : Nat} {v : Value} {xs : List Value} (h : w.ownsRow base t size v n xs) {g : Nat} (hg : g < base) : v.ownBlock = none ∨ v.ownBlock ≠ some g := by
  rcases hv : v.ownBlock with _ | b
  · exact .inl rfl
  · right
    intro e
    injection e with e
    have := (h.lt b hv).1
    omega
theorem grown_set (W : World) (k i : Nat) (u : Value) : W.grownBy (W.setCell ⟨k, i, none⟩ u) (some k) := ⟨rfl, rfl, rfl, by simp [World.setCell], fun j _ hne => Below.heap_setCell W _ _ j (fun e => hne (by rw [e]))⟩
theorem kp_set {w W : World} {g k : Nat} (h : w.grownBy W (some g)) (hk : w.heap.size ≤ k) (i : Nat) (u : Value) : w.grownBy (W.setCell ⟨k, i, none⟩ u) (some g) := kp_step h (grown_set W k i u) (fun b e => .inr (by injection e with e; omega))
/-- A person's block. -/
def PB (w : World) (k : Nat) (a j s p : Int) : Prop := w.heap[k]? = some (.cells #[.int .i64 a, .int .i64 j, .int .i64 s, .int .i64 p] 51 (0, 0))
section
variable {w w' : World} {k : Nat} {a j s p : Int}
theorem PB.lt (h : PB w k a j s p) : k < w.heap.size := (Array.getElem?_eq_some_iff.1 h).1
theorem PB.new (w : World) (a j s p : Int) : PB (w.alloc (pbox a j s p)) w.heap.size a j s p := heap_alloc_new w _
theorem PB.drew (h : PB w k a j s p) : PB w.drew k a j s p := h
theorem PB.grown {row : Option Nat} (h : PB w k a j s p) (hg : w.grownBy w' row) (hne : some k ≠ row) : PB w' k a j s p := (hg.block k h.lt hne).trans h
theorem PB.set0 (h : PB w k a j s p) (v : Int) : PB (w.setCell ⟨k, 0, none⟩ (.int .i64 v)) k v j s p := heap_setCell_same w k 0 _ _ (.int .i64 v) h
theorem PB.set1 (h : PB w k a j s p) (v : Int) : PB (w.setCell ⟨k, 1, none⟩ (.int .i64 v)) k a v s p := heap_setCell_same w k 1 _ _ (.int .i64 v) h
theorem PB.set2 (h : PB w k a j s p) (v : Int) : PB (w.setCell ⟨k, 2, none⟩ (.int .i64 v)) k a j v p := heap_setCell_same w k 2 _ _ (.int .i64 v) h
theorem PB.set3 (h : PB w k a j s p) (v : Int) : PB (w.setCell ⟨k, 3, none⟩ (.int .i64 v)) k a j s v := heap_setCell_same w k 3 _ _ (.int .i64 v) h
theorem PB.set (h : PB w k a j s p) (a' j' s' p' : Int) : PB ((((w.setCell ⟨k, 0, none⟩ (.int .i64 a')).setCell ⟨k, 1, none⟩ (.int .i64 j')).setCell ⟨k, 2, none⟩ (.int .i64 s')).setCell ⟨k, 3, none⟩ (.int .i64 p')) k a' j' s' p' :=
  (((h.set0 a').set1 j').set2 s').set3 p'
theorem PB.facts (h : PB w k a j s p) : (w.cell? ⟨k, 0, none⟩ = some (.int .i64 a) ∧ w.cell? ⟨k, 1, none⟩ = some (.int .i64 j) ∧ w.cell? ⟨k, 2, none⟩ = some (.int .i64 s) ∧ w.cell? ⟨k, 3, none⟩ = some (.int .i64 p)) ∧ w.frozen? ⟨k, 0, none⟩ = false ∧ w.frozen? ⟨k, 1, none⟩ = false ∧ w.frozen? ⟨k, 2, none⟩ = false ∧ w.frozen? ⟨k, 3, none⟩ = false := by
  unfold PB at h
  refine ⟨⟨by rw [cell_of_row w k 0 _ _ _ h]; rfl, by rw [cell_of_row w k 1 _ _ _ h]; rfl, by rw [cell_of_row w k 2 _ _ _ h]; rfl, by rw [cell_of_row w k 3 _ _ _ h]; rfl⟩, ?_, ?_, ?_, ?_⟩ <;> simp [World.frozen?, h]
end
/-- People so far: of their own; the reader; what was there. -/
structure PInv (g : Nat) (A : Option Addr) (len cap : Nat) (w wr : World) (M : Nat) (D : Option Addr) (n c : Nat) (ps : List Pn) : Prop where
  leng : Hid (ps.length = n)
  own : wr.ownsRow w.heap.size 51 4 (.slice D n c) n (flat pf ps)
  rd : Rd wr g A len cap M
  kp : w.grownBy wr (some g)
section
variable {g : Nat} {A : Option Addr} {len cap : Nat} {w wr w' : World} {M M' : Nat} {D : Option Addr} {n c : Nat} {ps : List Pn}
theorem PInv.drew (h : PInv g A len cap w wr M D n c ps) : PInv g A len cap w wr.drew M D n c ps := ⟨h.leng, h.own, h.rd.drew, ⟨h.kp.os, h.kp.tape, h.kp.output, h.kp.size, h.kp.block⟩⟩
theorem PInv.more (h : PInv g A len cap w wr M D n c ps) (hM : M ≤ M') : PInv g A len cap w wr M' D n c ps := ⟨h.leng, h.own, h.rd.more hM, h.kp⟩
theorem PInv.alloc (h : PInv g A len cap w wr M D n c ps) (o : Obj) : PInv g A len cap w (wr.alloc o) M D n c ps := ⟨h.leng, h.own.alloc o, h.rd.alloc o, kp_alloc h.kp o⟩
theorem PInv.below (h : PInv g A len cap w wr M D n c ps) (hb : Below wr.heap.size wr w') : PInv g A len cap w w' M D n c ps := ⟨h.leng, own_below h.own hb, h.rd.below hb h.rd.lt, kp_below h.kp hb⟩
theorem PInv.pick (h : PInv g A len cap w wr M D n c ps) (hgw : g < w.heap.size) (hr : Rd w' g A len cap M') (hg : wr.grownBy w' (some g)) : PInv g A len cap w w' M' D n c ps :=
  ⟨h.leng, h.own.kept hg (own_row_block h.own hgw), hr, kp_step h.kp hg (fun b e => .inl (by injection e with e; exact e.symm))⟩
theorem PInv.recs (h : PInv g A len cap w wr M D n c ps) : Recs pf 4 wr wr.heap.size D ps := (Recs.of_own pf_len h.own (by omega)).2
/-- The row's block lies below what is made next. -/
theorem PInv.row (h : PInv g A len cap w wr M D n c ps) : ∀ x, (Value.slice D n c).ownBlock = some x → x < wr.heap.size := fun x e => (h.own.lt x e).2
/-- A store into a block behind the row. -/
theorem PInv.far (h : PInv g A len cap w wr M D n c ps) (hgw : g < w.heap.size) {k : Nat} (hk : w.heap.size ≤ k) (hf : ∀ x, (Value.slice D n c).ownBlock = some x → x < k) (i : Nat) (u : Value) : PInv g A len cap w (wr.setCell ⟨k, i, none⟩ u) M D n c ps := by
  refine ⟨h.leng, h.own.kept (grown_set wr k i u) ?_, h.rd.setCell (by show g < k; omega) u, kp_set h.kp hk i u⟩
  rcases hv : (Value.slice D n c).ownBlock with _ | b
  · exact .inl rfl
  · exact .inr fun e => by injection e with e; have := hf b hv; omega
theorem PInv.far4 (h : PInv g A len cap w wr M D n c ps) (hgw : g < w.heap.size) {k : Nat} (hk : w.heap.size ≤ k) (hf : ∀ x, (Value.slice D n c).ownBlock = some x → x < k) (u0 u1 u2 u3 : Value) : PInv g A len cap w ((((wr.setCell ⟨k, 0, none⟩ u0).setCell ⟨k, 1, none⟩ u1).setCell ⟨k, 2, none⟩ u2).setCell ⟨k, 3, none⟩ u3) M D n c ps :=
  (((h.far hgw hk hf 0 u0).far hgw hk hf 1 u1).far hgw hk hf 2 u2).far hgw hk hf 3 u3
/-- An append to the row. -/
theorem PInv.app (h : PInv g A len cap w wr M D n c ps) (hgw : g < w.heap.size) (hg : wr.grownBy w' (Value.slice D n c).ownBlock) {D' : Option Addr} {n' c' : Nat} {ps' : List Pn} (hl : ps'.length = n') (ho : w'.ownsRow w.heap.size 51 4 (.slice D' n' c') n' (flat pf ps')) : PInv g A len cap w w' M D' n' c' ps' :=
  ⟨hl, ho, h.rd.grown hg (fun x e => by have := (h.own.lt x e).1; omega), kp_step h.kp hg (fun x e => .inr (h.own.lt x e).1)⟩
/-- A store into the row. -/
theorem PInv.put {b i q : Nat} {x y : Pn} {u : Value} (h : PInv g A len cap w wr M (some ⟨b, 0, none⟩) n c ps) (hgw : g < w.heap.size) (hx : ps[i]? = some x) (hq : q < 4) (hy : pf y = (pf x).set q u) : PInv g A len cap w (wr.setCell ⟨b, i * 4 + q, none⟩ u) M (some ⟨b, 0, none⟩) n c (ps.set i y) := by
  have hb := (h.own.lt b rfl).1
  exact ⟨by show (ps.set i y).length = n; rw [List.length_set]; exact h.leng.out, own_set h.own hx hq hy, h.rd.setCell (by show g < b; omega) u, kp_set h.kp hb _ u⟩
end
theorem src4_at (W : World) (k : Nat) (hk : k = W.heap.size) (a j s p : Int) : Src (W.alloc (pbox a j s p)) 4 (some ⟨k, 0, none⟩) 1 (pf ⟨a, j, s, p⟩) := by
  subst hk
  refine ⟨rfl, fun _ => ⟨_, rfl, fun t u ht => ?_⟩⟩
  obtain ⟨⟨c0, c1, c2, c3⟩, -⟩ := (PB.new W a j s p).facts
  rw [add_spot, Nat.zero_add]
  match t, ht with
  | 0, ht => rw [c0]; simpa [pf] using ht
  | 1, ht => rw [c1]; simpa [pf] using ht
  | 2, ht => rw [c2]; simpa [pf] using ht
  | 3, ht => rw [c3]; simpa [pf] using ht
  | t + 4, ht => simp [pf] at ht
theorem flat_snoc (ps : List Pn) (x : Pn) : flat pf ps ++ pf x = flat pf (ps ++ [x]) := by rw [flat_append, flat_one]
theorem two_at (x y : Int) (r : Nat) (h : r < 2) : ∃ z : Int, (z = x ∨ z = y) ∧ #[Value.int .i64 x, .int .i64 y][r]? = some (.int .i64 z) ∧ [Value.int .i64 x, .int .i64 y][r]? = some (.int .i64 z) := by
  match r, h with
  | 0, _ => exact ⟨x, .inl rfl, rfl, rfl⟩
  | 1, _ => exact ⟨y, .inr rfl, rfl, rfl⟩
/-- A cell of a block that the call has just laid reads as it was laid, behind a step that turns block g alone. -/
theorem cell_laid {w w' : World} {g i : Nat} {cs : Array Value} {t : TypeId} {u : Value} (hg : (w.alloc (.cells cs t)).grownBy w' (some g)) (hlt : g < w.heap.size) (hi : cs[i]? = some u) : w'.cell? ⟨w.heap.size, i, none⟩ = some u := by
  have h : w'.heap[w.heap.size]? = some (.cells cs t (0, 0)) := (hg.block w.heap.size (by simp) (by intro e; injection e; omega)).trans (heap_alloc_new w _)
  rw [cell_of_row w' w.heap.size i cs t (0, 0) h]; exact hi

/-- What l91Person leaves. -/
def PersQ (g : Nat) (A : Option Addr) (len cap M : Nat) (w : World) (e : Ending) (w' : World) : Prop :=
  ∃ a j s p : Int, e = .returned (.agg #[.int .i64 a, .int .i64 j, .int .i64 s, .int .i64 p]) ∧ Rd w' g A len cap (M + 5) ∧ w.grownBy w' (some g)
set_option maxHeartbeats 1000000 in
theorem pers_any (g : Nat) (A : Option Addr) (len cap M : Nat) (w : World) (hr : Rd w g A len cap M) (hM : M ≤ 900000) :
    Calls Try.prog 58 #[.pointer (some ⟨g, 0, none⟩)] w (PersQ g A len cap M w) := by
  have hgw := hr.lt
  have hne : some w.heap.size ≠ some g := by simp; omega
  go_enter Try.func58, Try.ntmps58
  go_wp2_with fail
  refine (pick_any g A len cap M _ _ (hr.alloc _) (by omega)).mono ?_
  rintro e w1 ⟨a, rfl, a0, a1, -, hr1, hg1, -⟩
  have a1 := a1 (by omega)
  have hk1 := kp_step (kp_alloc (kp_refl w g) _) hg1 (fun b e => .inl (by injection e with e; exact e.symm))
  have hp1 := (PB.new w 0 0 0 0).grown hg1 hne
  go_wp2_with fail
  refine (pick_any g A len cap _ _ _ hr1 (by omega)).mono ?_
  rintro e w2 ⟨j, rfl, j0, j1, -, hr2, hg2, -⟩
  have j1 := j1 (by omega)
  have hk2 := kp_step hk1 hg2 (fun b e => .inl (by injection e with e; exact e.symm))
  have hp2 := hp1.grown hg2 hne
  go_wp2_with fail
  refine (pick_any g A len cap _ _ _ hr2 (by omega)).mono ?_
  rintro e w3 ⟨s, rfl, s0, s1, -, hr3, hg3, -⟩
  have s1 := s1 (by omega)
  have hk3 := kp_step hk2 hg3 (fun b e => .inl (by injection e with e; exact e.symm))
  have hp3 := hp2.grown hg3 hne
  go_wp2_with fail
  refine (pick_any g A len cap _ _ _ hr3 (by omega)).mono ?_
  rintro e w4 ⟨x, rfl, x0, x1, -, hr4, hg4, -⟩
  have x1 := x1 (by omega)
  have hk4 := kp_step hk3 hg4 (fun b e => .inl (by injection e with e; exact e.symm))
  have hp4 := hp3.grown hg4 hne
  go_wp2_with fail
  refine (pick_any g A len cap _ _ _ hr4 (by omega)).mono ?_
  rintro e w5 ⟨y, rfl, y0, y1, -, hr5, hg5, -⟩
  have y1 := y1 (by omega)
  have hk5 := kp_step hk4 hg5 (fun b e => .inl (by injection e with e; exact e.symm))
  have hp5 := hp4.grown hg5 hne
  obtain ⟨⟨z0, z1, z2, z3⟩, y0, y1, y2, y3⟩ := hp5.facts
  clear hp1 hp2 hp3 hp4 hg1 hg2 hg3 hg4 hg5 hk1 hk2 hk3 hk4
  go_wp2_with fail
  refine bodyPost_ret (v := .agg #[.int .i64 a, .int .i64 j, .int .i64 s, .int .i64 (x * 100 + y)]) (by simp [results, Try.results58, go_sem, *]) rfl ?_
  exact ⟨a, j, s, _, rfl, (((hr5.setCell hgw _).setCell hgw _).setCell hgw _).setCell hgw _, kp_set (kp_set (kp_set (kp_set hk5 (Nat.le_refl _) _ _) (Nat.le_refl _) _ _) (Nat.le_refl _) _ _) (Nat.le_refl _) _ _⟩
/-- What l91People and l93Alike leave. -/
def PplQ (g : Nat) (A : Option Addr) (len cap M : Nat) (w : World) (e : Ending) (w' : World) : Prop :=
  ∃ (D : Option Addr) (n c : Nat) (ps : List Pn), e = .returned (.slice D n c) ∧ n ≤ 8 ∧ PInv g A len cap w w' (M + 100) D n c ps
set_option maxHeartbeats 8000000 in
theorem people_any (g : Nat) (A : Option Addr) (len cap M : Nat) (w : World) (hr : Rd w g A len cap M) (hM : M ≤ 800000) :
    Calls Try.prog 56 #[.pointer (some ⟨g, 0, none⟩), .int .i64 8] w (PplQ g A len cap M w) := by
  obtain ⟨i9, hi0, hz0, hz1, hz2⟩ := info_parts pn_info
  have hgw := hr.lt
  have hI : PInv g A len cap w (w.alloc (.cells #[] 51)) M (some ⟨w.heap.size, 0, none⟩) 0 0 [] := ⟨rfl, World.ownsRow_made w #[] 0 (Nat.le_refl _) (by simp [maxLen]) rfl, hr.alloc _, kp_alloc (kp_refl w g) _⟩
  go_enter Try.func56, Try.ntmps56
  go_wp2_with fail
  refine (pick_any g A len cap _ _ _ hI.rd (by omega)).mono ?_
  rintro e w1 ⟨N, rfl, N0, N1, -, hr1, hg1, -⟩
  have N1 := N1 (by omega)
  have hI := hI.pick hgw hr1 hg1
  clear hr1 hg1
  go_wp2_with fail
  go_loopw [5, 7] (fun v i wr => ∃ (t : Nat) (D : Option Addr) (c : Nat) (ps : List Pn), (t : Int) ≤ N ∧ i = .int .i64 (t : Int) ∧ v = .slice D t c ∧ PInv g A len cap w wr (M + 1 + 8 * t) D t c ps) (fun _ i _ => N.toNat - (intOf i).toNat)
  case atStart => exact ⟨0, _, _, _, by omega, rfl, rfl, hI⟩
  case round =>
    clear hI
    obtain ⟨t, D, c, ps, ht, rfl, rfl, hI⟩ := hrel
    by_cases htl : (t : Int) < N
    · have q1 : t + 1 ≤ maxLen := by simp only [maxLen]; omega
      have q2 : (t + 1) * 32 ≤ 140737488355328 := by omega
      go_wp2_with fail
      refine (pers_any g A len cap _ _ hI.rd (by omega)).mono ?_
      rintro e w2 ⟨a, j, s, p, rfl, hr2, hg2⟩
      have hI := hI.pick hgw hr2 hg2
      clear hr2 hg2
      have hkz : w.heap.size ≤ w2.heap.size := hI.kp.size
      by_cases t0 : t = 0
      · subst t0
        have hI := hI.alloc (pbox a j s p)
        have hown := (hI.own.alloc (pbox a j s p))
        have hsrc := src4_at (w2.alloc (pbox a j s p)) (w2.heap.size + 1) (by simp) a j s p
        have q3 : w.heap.size ≤ ((w2.alloc (pbox a j s p)).alloc (pbox a j s p)).heap.size := by have := hI.kp.size; simp at this ⊢; omega
        go_wp2_with (at_builtin; refine wpList_append_src _ rfl _ _ 25 rfl w.heap.size 51 i9 (.agg #[.int .i64 0, .int .i64 0, .int .i64 0, .int .i64 0]) 4 32 Try.underlying25 hi0 hz0 hz1 hz2 rfl (by decide) _ 0 (flat pf ps) rfl hown _ 1 _ _ rfl hsrc (pf_one _) q1 q2 q3 ?_)
        intro v' w8 hown8 hg8 _
        rw [flat_snoc] at hown8
        obtain ⟨D8, c8, rfl⟩ := own_form hown8
        have hJ := ((hI.alloc (pbox a j s p)).app hgw hg8 (show (ps ++ [(⟨a, j, s, p⟩ : Pn)]).length = 0 + 1 by rw [List.length_append, hI.leng.out]; rfl) hown8).more (M' := M + 1 + 8 * (0 + 1)) (by omega)
        clear hown hsrc hown8 hg8
        go_wp2_with fail
        go_roundw
        case rel => exact ⟨0 + 1, D8, c8, _, by omega, by go_num, rfl, hJ⟩
        case measure => simp [intOf]; omega
      · have t1 : 0 < t := by omega
        have t2 : (0 : Int) < (t : Int) := by omega
        have HR := Lib.hid hI.row
        have hP := PB.new w2 a j s p
        have hI := hI.alloc (pbox a j s p)
        go_wp2_with fail
        refine (pick_any g A len cap _ _ _ hI.rd (by omega)).mono ?_
        rintro e w3 ⟨r, rfl, r0, r1, -, hr3, hg3, es3⟩
        have hs3 : w2.heap.size < w3.heap.size := by rw [es3]; simp
        clear es3
        have hI := hI.pick hgw hr3 hg3
        have hP := hP.grown hg3 (by simp; omega)
        clear hr3 hg3
        by_cases hz : r = 0
        · subst hz
          go_wp2_with fail
          refine (pick_any g A len cap _ _ _ hI.rd (by omega)).mono ?_
          rintro e w4 ⟨x, rfl, x0, x1, -, hr4, hg4, es4⟩
          have x1 := x1 (by omega)
          obtain ⟨x, rfl⟩ := Int.eq_ofNat_of_zero_le x0
          have hI := hI.pick hgw hr4 hg4
          have hP := hP.grown hg4 (by simp; omega)
          have hs4 : w2.heap.size < w4.heap.size := by omega
          clear es4
          clear hr4 hg4
          obtain ⟨b, xa, xj, xs, xp, rfl, hb0, hb1, HX, ⟨c0, c1, c2, c3⟩, -⟩ := own_at hI.own (i := x) (by omega)
          obtain ⟨⟨z0, z1, z2, z3⟩, y0, y1, y2, y3⟩ := hP.facts
          have hbk : b < w2.heap.size := HR.out b rfl
          have hbne : ¬ b = w2.heap.size := by omega
          have hbne' : ¬ w2.heap.size = b := by omega
          have hI := hI.far4 hgw hkz HR.out (.int .i64 xa) (.int .i64 xj) (.int .i64 xs) (.int .i64 xp)
          have hP := hP.set xa xj xs xp
          go_wp2_with fail
          generalize hW : (((w4.setCell ⟨w2.heap.size, 0, none⟩ (.int .i64 xa)).setCell ⟨w2.heap.size, 1, none⟩ (.int .i64 xj)).setCell ⟨w2.heap.size, 2, none⟩ (.int .i64 xs)).setCell ⟨w2.heap.size, 3, none⟩ (.int .i64 xp) = W4 at *
          have hsW : w2.heap.size < W4.heap.size := by rw [← hW]; simpa using hs4
          clear hW z0 z1 z2 z3 y0 y1 y2 y3 c0 c1 c2 c3
          obtain ⟨⟨z0, z1, z2, z3⟩, y0, y1, y2, y3⟩ := hP.facts
          go_region_law
            (first
              | (go_simp; go_at_call 50
                 refine (pick_any g A len cap _ _ _ hI.drew.rd (by omega)).mono ?_
                 rintro e w5 ⟨y, rfl, y0, y1, -, hr5, hg5, -⟩
                 have hI := hI.drew.pick hgw hr5 hg5
                 have hP := hP.drew.grown hg5 (by simp; omega)
                 obtain ⟨⟨z0, z1, z2, z3⟩, y0, y1, y2, y3⟩ := hP.facts
                 clear hr5 hg5))
          all_goals
            generalize (IntKind.i64.wrap (xp + IntKind.i64.wrap (100 * y))).tmod 1000 = z
            have hI := hI.far hgw hkz HR.out 3 (.int .i64 z)
            have hP := hP.set3 z
            generalize hW : w5.setCell ⟨w2.heap.size, 3, none⟩ (.int .i64 z) = W5 at *
            clear hW z0 z1 z2 z3 y0 y1 y2 y3
            obtain ⟨⟨z0, z1, z2, z3⟩, -⟩ := hP.facts
            have hown := (hI.own.alloc (pbox xa xj xs z))
            have hsrc := src4_at (W5) W5.heap.size (by simp) xa xj xs z
            have q3 : w.heap.size ≤ ((W5).alloc (pbox xa xj xs z)).heap.size := by have := hI.kp.size; simp at this ⊢; omega
            go_wp2_with (at_builtin; refine wpList_append_src _ rfl _ _ 25 rfl w.heap.size 51 i9 (.agg #[.int .i64 0, .int .i64 0, .int .i64 0, .int .i64 0]) 4 32 Try.underlying25 hi0 hz0 hz1 hz2 rfl (by decide) _ t (flat pf ps) rfl hown _ 1 _ _ rfl hsrc (pf_one _) q1 q2 q3 ?_)
            intro v' w8 hown8 hg8 _
            rw [flat_snoc] at hown8
            obtain ⟨D8, c8, rfl⟩ := own_form hown8
            have hJ := ((hI.alloc (pbox xa xj xs z)).app hgw hg8 (show (ps ++ [(⟨xa, xj, xs, z⟩ : Pn)]).length = t + 1 by rw [List.length_append, hI.leng.out]; rfl) hown8).more (M' := M + 1 + 8 * (t + 1)) (by omega)
            clear hown hsrc hown8 hg8
            go_wp2_with fail
            go_roundw
            case rel => exact ⟨t + 1, D8, c8, _, by omega, by go_num, rfl, hJ⟩
            case measure => simp [intOf]; omega
        · have hz' : (r == 0) = false := beq_eq_false_iff_ne.2 hz
          obtain ⟨⟨z0, z1, z2, z3⟩, -⟩ := hP.facts
          have hown := (hI.own.alloc (pbox a j s p))
          have hsrc := src4_at (w3) w3.heap.size (by simp) a j s p
          have q3 : w.heap.size ≤ ((w3).alloc (pbox a j s p)).heap.size := by have := hI.kp.size; simp at this ⊢; omega
          go_wp2_with (at_builtin; refine wpList_append_src _ rfl _ _ 25 rfl w.heap.size 51 i9 (.agg #[.int .i64 0, .int .i64 0, .int .i64 0, .int .i64 0]) 4 32 Try.underlying25 hi0 hz0 hz1 hz2 rfl (by decide) _ t (flat pf ps) rfl hown _ 1 _ _ rfl hsrc (pf_one _) q1 q2 q3 ?_)
          intro v' w8 hown8 hg8 _
          rw [flat_snoc] at hown8
          obtain ⟨D8, c8, rfl⟩ := own_form hown8
          have hJ := ((hI.alloc (pbox a j s p)).app hgw hg8 (show (ps ++ [(⟨a, j, s, p⟩ : Pn)]).length = t + 1 by rw [List.length_append, hI.leng.out]; rfl) hown8).more (M' := M + 1 + 8 * (t + 1)) (by omega)
          clear hown hsrc hown8 hg8
          go_wp2_with fail
          go_roundw
          case rel => exact ⟨t + 1, D8, c8, _, by omega, by go_num, rfl, hJ⟩
          case measure => simp [intOf]; omega
    · skip
      by_cases hN : 0 < N
      · have h0t : 0 < t := by omega
        go_wp2_with fail
        refine (pick_any g A len cap _ _ _ hI.rd (by omega)).mono ?_
        rintro e w3 ⟨s, rfl, s0, s1, -, hr3, hg3, -⟩
        have hI := hI.pick hgw hr3 hg3
        clear hr3 hg3
        obtain ⟨b, xa, xj, xs, xp, rfl, hb0, hb1, HX, ⟨c0, c1, c2, c3⟩, f0, f1, f2, f3⟩ := own_at hI.own (i := 0) (by omega)
        have HX := Lib.hid HX.out
        rw [Nat.zero_mul] at c0 c1 c2 c3 f0 f1 f2 f3
        rw [Nat.zero_add] at c1 c2 c3 f1 f2 f3
        by_cases e0 : s = 0
        · subst e0
          clear c0 c1 c2 c3 f0 f1 f2 f3
          go_wp2_with fail
          refine (pick_any g A len cap _ _ _ (hI.alloc _).rd (by omega)).mono ?_
          rintro e w4 ⟨r, rfl, r0, r1, -, hr4, hg4, -⟩
          have r1 := r1 (by omega)
          obtain ⟨r, rfl⟩ := Int.eq_ofNat_of_zero_le r0
          obtain ⟨z, -, h1, h2⟩ := two_at (-1) 4 r (by omega)
          have hc := cell_laid hg4 (by have := hI.kp.size; omega) h1
          have hI := (hI.alloc _).pick hgw hr4 hg4
          clear hr4 hg4
          obtain ⟨b', xa', xj', xs', xp', hbb, hb0', hb1', HX', ⟨c0, -, -, -⟩, f0, -, -, -⟩ := own_at hI.own (i := 0) (by omega)
          injection hbb with hbb
          injection hbb with hbb
          subst hbb
          rw [Nat.zero_mul] at c0 f0
          have hJ := (hI.put (q := 0) (y := ⟨z, xj', xs', xp'⟩) (u := .int .i64 z) hgw HX'.out (by omega) rfl).more (M' := M + 100) (by omega)
          rw [Nat.zero_mul] at hJ
          go_wp2_with fail
          go_ret
          exact ⟨_, t, c, _, rfl, by omega, hJ⟩
        have e0' : (s == 0) = false := beq_eq_false_iff_ne.2 e0
        by_cases e1 : s = 1
        · subst e1
          have hJ := (hI.put (q := 3) (y := ⟨xa, xj, xs, 1000⟩) (u := .int .i64 1000) hgw HX.out (by omega) rfl).more (M' := M + 100) (by omega)
          rw [Nat.zero_mul, Nat.zero_add] at hJ
          go_wp2_with fail
          go_ret
          exact ⟨_, t, c, _, rfl, by omega, hJ⟩
        have e1' : (s == 1) = false := beq_eq_false_iff_ne.2 e1
        by_cases e2 : s = 2
        · subst e2
          have hJ := (hI.put (q := 2) (y := ⟨xa, xj, 2, xp⟩) (u := .int .i64 2) hgw HX.out (by omega) rfl).more (M' := M + 100) (by omega)
          rw [Nat.zero_mul, Nat.zero_add] at hJ
          go_wp2_with fail
          go_ret
          exact ⟨_, t, c, _, rfl, by omega, hJ⟩
        have e2' : (s == 2) = false := beq_eq_false_iff_ne.2 e2
        have hJ := hI.more (M' := M + 100) (by omega)
        go_wp2_with fail
        go_ret
        exact ⟨_, t, c, _, rfl, by omega, hJ⟩
      · have hJ := hI.more (M' := M + 100) (by omega)
        go_wp2_with fail
        go_ret
        exact ⟨_, t, c, _, rfl, by omega, hJ⟩
end Go.Proofs.Ytpjiencegicjbaa
