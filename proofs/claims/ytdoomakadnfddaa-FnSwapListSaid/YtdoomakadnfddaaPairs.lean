/-
  Pairs of indexes that are drawn out of a code: DrawSwapList, DrawSwapMoved; nothing that was there turns.
-/
import Derived.Test.YtdoomakadnfddaaDraw
import Derived.Test.YtdoomakadnfddaaList
namespace Go.Proofs.Ytdoomakadnfddaa
open Go.RowKit
attribute [local go_sem ↓] Go.wp_at_zero Go.wp_at_succ

theorem sl_info : (Try.prog.info? 46).map (fun i => (i.zero, i.size, i.bytes)) = some (some (.slice none 0 0), 1, 24) := by kernel_rfl
/-- Block b holds the integers xs and no more. -/
def IBk (w : World) (b : Nat) (xs : List Int) : Prop := w.heap[b]? = some (.cells (xs.map (Value.int .i64)).toArray 3 (0, 0))
section
variable {w w' : World} {b : Nat} {xs : List Int}
theorem IBk.lt (h : IBk w b xs) : b < w.heap.size := (Array.getElem?_eq_some_iff.1 h).1
theorem IBk.grown {row : Option Nat} (h : IBk w b xs) (hg : w.grownBy w' row) (hne : row ≠ some b) : IBk w' b xs := (hg.block b h.lt (fun e => hne e.symm)).trans h
theorem IBk.alloc (h : IBk w b xs) (o : Obj) : IBk (w.alloc o) b xs := h.grown (World.grownBy_alloc w o none) (by simp)
theorem IBk.ints (h : IBk w b xs) : Ints w w.heap.size (some ⟨b, 0, none⟩) xs := fun _ => ⟨b, 0, rfl, h.lt, fun i x hx => by
  rw [Nat.zero_add, cell_of_row w b i _ _ _ h]; simp [hx]⟩
end
/-- Rows of different types lie in different blocks. -/
theorem own_ne {w : World} {b1 b2 s1 s2 n1 n2 : Nat} {t1 t2 : TypeId} {v1 v2 : Value} {x1 x2 : List Value} (h1 : w.ownsRow b1 t1 s1 v1 n1 x1) (h2 : w.ownsRow b2 t2 s2 v2 n2 x2) (hne : t1 ≠ t2) : v1.ownBlock = none ∨ v1.ownBlock ≠ v2.ownBlock := by
  rcases h1.2 with ⟨rfl, _⟩ | ⟨g1, c1, u1, rfl, _, k1, _⟩
  · exact .inl rfl
  · right
    rcases h2.2 with ⟨rfl, _⟩ | ⟨g2, c2, u2, rfl, _, k2, _⟩
    · simp [Value.ownBlock]
    · intro e
      have e : g1 = g2 := by simpa [Value.ownBlock] using e
      subst e
      rw [k1] at k2
      injection k2 with k2
      injection k2 with _ k2
      exact hne k2
theorem own_ib {w : World} {base n s b : Nat} {t : TypeId} {v : Value} {us : List Value} {xs : List Int} (h : w.ownsRow base t s v n us) (hb : IBk w b xs) (hne : t ≠ 3) : v.ownBlock ≠ some b := by
  rcases h.2 with ⟨rfl, _⟩ | ⟨g', cap, cur, rfl, _, hh, _⟩
  · simp [Value.ownBlock]
  · intro he
    have e : g' = b := by simpa [Value.ownBlock] using he
    subst e
    rw [hb] at hh
    injection hh with hh
    injection hh with _ ht
    exact hne ht.symm
/-- The i-th cell of an owned row of single cells. -/
theorem own_at1 {w : World} {base : Nat} {t : TypeId} {D : Option Addr} {n c i : Nat} {vals : List Value} (h : w.ownsRow base t 1 (.slice D n c) n vals) (hi : i < n) :
    ∃ g, D = some ⟨g, 0, none⟩ ∧ ∃ u, vals[i]? = some u ∧ w.cell? ⟨g, i, none⟩ = some u := by
  have hl := h.1
  rcases h.2 with ⟨h', hn⟩ | ⟨g', cap, cur, h', _⟩
  · omega
  · injection h' with h1 h2 h3
    subst h1
    have hu : vals[i]? = some vals[i] := List.getElem?_eq_getElem (by omega)
    exact ⟨g', rfl, _, hu, by rw [h.cellAt i (by omega)]; exact hu⟩
/-- A row's value. -/
def pv (t : Nat × List Int) : Value := .slice (some ⟨t.1, 0, none⟩) t.2.length t.2.length
/-- Rows of one's own, each in a block of its own. -/
structure Prs (w : World) (base : Nat) (v : Value) (k : Nat) (ts : List (Nat × List Int)) : Prop where
  own : w.ownsRow base 46 1 v k (ts.map pv)
  blk : ∀ t ∈ ts, base ≤ t.1 ∧ IBk w t.1 t.2
  small : ∀ t ∈ ts, t.2.length ≤ 100
section
variable {w w' : World} {base k : Nat} {v : Value} {ts : List (Nat × List Int)}
theorem Prs.len (h : Prs w base v k ts) : ts.length = k := by have := h.own.1; rw [List.length_map] at this; omega
theorem Prs.grown {row : Option Nat} (h : Prs w base v k ts) (hg : w.grownBy w' row) (h1 : v.ownBlock = none ∨ v.ownBlock ≠ row) (h2 : ∀ t ∈ ts, row ≠ some t.1) : Prs w' base v k ts :=
  ⟨h.own.kept hg h1, fun t ht => ⟨(h.blk t ht).1, (h.blk t ht).2.grown hg (h2 t ht)⟩, h.small⟩
theorem Prs.alloc (h : Prs w base v k ts) (o : Obj) : Prs (w.alloc o) base v k ts := h.grown (World.grownBy_alloc w o none) (by cases v.ownBlock <;> simp) (by simp)
theorem Prs.pick {g : Nat} (h : Prs w base v k ts) (hg : w.grownBy w' (some g)) (hgb : g < base) : Prs w' base v k ts :=
  h.grown hg (own_row_block h.own hgb) (fun t ht e => by injection e with e; have := (h.blk t ht).1; omega)
theorem Prs.below (h : Prs w base v k ts) (hb : Below w.heap.size w w') : Prs w' base v k ts :=
  h.grown (row := none) ⟨hb.os, hb.tape, hb.output, hb.size, fun k hk _ => hb.block k hk⟩ (by cases v.ownBlock <;> simp) (by simp)
/-- A row more. -/
theorem Prs.push {b : Nat} {xs : List Int} {v' : Value} (h : Prs w base v k ts) (hb : IBk w b xs) (hbb : base ≤ b) (hs : xs.length ≤ 100) (hg : w.grownBy w' v.ownBlock) (ho : w'.ownsRow base 46 1 v' (k + 1) (ts.map pv ++ [.slice (some ⟨b, 0, none⟩) xs.length xs.length])) : Prs w' base v' (k + 1) (ts ++ [(b, xs)]) := by
  have hn : ∀ t ∈ ts ++ [(b, xs)], base ≤ t.1 ∧ IBk w t.1 t.2 := by
    intro t ht
    rcases List.mem_append.1 ht with ht | ht
    · exact h.blk t ht
    · rw [List.mem_singleton.1 ht]; exact ⟨hbb, hb⟩
  refine ⟨by rw [List.map_append]; exact ho, fun t ht => ⟨(hn t ht).1, (hn t ht).2.grown hg (own_ib h.own (hn t ht).2 (by decide))⟩, fun t ht => ?_⟩
  rcases List.mem_append.1 ht with ht | ht
  · exact h.small t ht
  · rw [List.mem_singleton.1 ht]; exact hs
/-- The first row replaced. -/
theorem Prs.set0 {gp n c b : Nat} {t0 : Nat × List Int} {xs : List Int} (h : Prs w base (.slice (some ⟨gp, 0, none⟩) n c) n (t0 :: ts)) (hb : IBk w b xs) (hbb : base ≤ b) (hs : xs.length ≤ 100) :
    Prs (w.setCell ⟨gp, 0, none⟩ (.slice (some ⟨b, 0, none⟩) xs.length xs.length)) base (.slice (some ⟨gp, 0, none⟩) n c) n ((b, xs) :: ts) := by
  obtain ⟨ho, hg⟩ := h.own.stored 0 (.slice (some ⟨b, 0, none⟩) xs.length xs.length)
  have hn : ∀ t ∈ (b, xs) :: ts, base ≤ t.1 ∧ IBk w t.1 t.2 := by
    intro t ht
    rcases List.mem_cons.1 ht with rfl | ht
    · exact ⟨hbb, hb⟩
    · exact h.blk t (List.mem_cons_of_mem _ ht)
  refine ⟨by simpa [pv] using ho, fun t ht => ⟨(hn t ht).1, (hn t ht).2.grown hg ?_⟩, fun t ht => ?_⟩
  · have := own_ib h.own (hn t ht).2 (by decide)
    simpa [Value.ownBlock] using this
  · rcases List.mem_cons.1 ht with rfl | ht
    · exact hs
    · exact h.small t (List.mem_cons_of_mem _ ht)
theorem Prs.rws {D : Option Addr} {n c : Nat} (h : Prs w base (.slice D n c) n ts) : Rws w w.heap.size D (ts.map Prod.snd) := by
  intro hp
  rw [List.length_map, h.len] at hp
  obtain ⟨g, rfl, u, hu, hc⟩ := own_at1 h.own hp
  refine ⟨g, 0, rfl, World.block_lt_of_cell? _ _ hc, fun i r hr => ?_⟩
  rw [List.getElem?_map] at hr
  obtain ⟨t, ht, rfl⟩ := Option.map_eq_some_iff.1 hr
  have hi := lt_of_at ht
  rw [h.len] at hi
  have hs := h.small t (mem_of_at ht)
  refine ⟨some ⟨t.1, 0, none⟩, t.2.length, ?_, Nat.le_refl _, by simp only [maxLen]; omega, (h.blk t (mem_of_at ht)).2.ints⟩
  rw [Nat.zero_add, h.own.cellAt i (by omega), List.getElem?_map, ht]; rfl
end
theorem Rws.drew {w : World} {A : Option Addr} {rs : List (List Int)} (h : Rws w w.heap.size A rs) : Rws w.drew w.drew.heap.size A rs := h
/-- People stay where another row turns. -/
theorem PInv.other {g : Nat} {A : Option Addr} {len cap : Nat} {w wr w' : World} {M : Nat} {D : Option Addr} {n c : Nat} {ps : List Pn} {row : Option Nat} (h : PInv g A len cap w wr M D n c ps) (hgw : g < w.heap.size) (hg : wr.grownBy w' row) (hne : (Value.slice D n c).ownBlock = none ∨ (Value.slice D n c).ownBlock ≠ row) (hrow : ∀ x, row = some x → w.heap.size ≤ x) : PInv g A len cap w w' M D n c ps :=
  ⟨h.leng, h.own.kept hg hne, h.rd.grown hg (fun x e => by have := hrow x e; omega), kp_step h.kp hg (fun x e => .inr (hrow x e))⟩
theorem src1_at (W : World) (k : Nat) (hk : k = W.heap.size) (u : Value) (t : TypeId) : Src (W.alloc (.cells #[u] t)) 1 (some ⟨k, 0, none⟩) 1 [u] := by
  subst hk
  refine ⟨rfl, fun _ => ⟨_, rfl, fun j x hx => ?_⟩⟩
  match j, hx with
  | 0, hx =>
    rw [add_spot, cell_of_row _ W.heap.size _ _ _ _ (heap_alloc_new W _)]
    simpa using hx
  | j + 1, hx => simp at hx
theorem oneCell_sl1 (D : Option Addr) (n c : Nat) : ∀ u ∈ [Value.slice D n c], u.oneCell' = true := by intro u hu; rw [List.mem_singleton] at hu; subst hu; rfl

/-- What DrawSwapList leaves. -/
def DrawLQ (w : World) (e : Ending) (w' : World) : Prop :=
  ∃ (D : Option Addr) (n c : Nat) (ps : List Pn) (Dp : Option Addr) (m cp : Nat) (rs : List (List Int)), e = .returned (.tuple #[.slice D n c, .slice Dp m cp]) ∧ PplV w' w.heap.size D n c ps ∧ m ≤ 6 ∧ m ≤ cp ∧ cp ≤ maxLen ∧ Hid (rs.length = m) ∧ Rws w' w'.heap.size Dp rs ∧ Below w.heap.size w w'
theorem Prs.done {w w1 wr : World} {A : Option Addr} {len cap M : Nat} {D : Option Addr} {n c : Nat} {ps : List Pn} {Dp : Option Addr} {m cp : Nat} {ts : List (Nat × List Int)} (h : Prs wr w1.heap.size (.slice Dp m cp) m ts) (hI : PInv w.heap.size A len cap w1 wr M D n c ps) (hb : Below w.heap.size w w1) (hn : n ≤ 8) (hm : m ≤ 6) :
    DrawLQ w (.returned (.tuple #[.slice D n c, .slice Dp m cp])) wr := by
  have hc := own_caps h.own
  exact ⟨D, n, c, ps, Dp, m, cp, _, rfl, hI.val hb hn, hm, hc.1, hc.2, by show _ = _; rw [List.length_map, h.len], h.rws, hI.done hb⟩
set_option maxHeartbeats 4000000 in
theorem drawl_any (a0 : Option Addr) (len0 cap0 : Nat) (zs : List Int) (w : World) (h : IsRow8 w a0 len0 cap0 zs) :
    Calls Try.prog 29 #[.slice a0 len0 cap0] w (DrawLQ w) := by
  obtain ⟨i1, hj0, hy0, hy1, hy2⟩ := info_parts sl_info
  go_enter Try.func29, Try.ntmps29
  go_wp2_with fail
  refine (open_any a0 len0 cap0 zs _ h).mono ?_
  rintro e w1 ⟨A, len, cap, rfl, hr1, hb1, hs1⟩
  have hgw : w.heap.size < w1.heap.size := by omega
  clear hs1
  go_wp2_with fail
  refine (alike_any w.heap.size A len cap 0 _ hr1 (by omega)).mono ?_
  rintro e w2 ⟨D, n, c, ps, rfl, hn8, hI⟩
  have hkz2 : w1.heap.size ≤ w2.heap.size := hI.kp.size
  have hI := hI.alloc (.cells #[] 46)
  have hP : Prs (w2.alloc (.cells #[] 46)) w1.heap.size (.slice (some ⟨w2.heap.size, 0, none⟩) 0 0) 0 [] := ⟨World.ownsRow_made w2 #[] 0 hkz2 (by simp [maxLen]) rfl, fun t ht => by simp at ht, fun t ht => by simp at ht⟩
  go_wp2_with fail
  refine (pick_any w.heap.size A len cap _ _ _ hI.rd (by omega)).mono ?_
  rintro e w3 ⟨N, rfl, N0, N1, -, hr3, hg3, -⟩
  have N1 := N1 (by omega)
  have hI := hI.pick hgw hr3 hg3
  have hP := hP.pick hg3 hgw
  clear hr3 hg3 hr1
  go_wp2_with fail
  go_loopw [6, 8] (fun v i wr => ∃ (t : Nat) (Dp : Option Addr) (cp : Nat) (ts : List (Nat × List Int)), (t : Int) ≤ N ∧ i = .int .i64 (t : Int) ∧ v = .slice Dp t cp ∧ Prs wr w1.heap.size (.slice Dp t cp) t ts ∧ PInv w.heap.size A len cap w1 wr (0 + 200 + 1 + 3 * t) D n c ps) (fun _ i _ => N.toNat - (intOf i).toNat)
  case atStart => exact ⟨0, _, _, _, by omega, rfl, rfl, hP, hI⟩
  case round =>
    clear hI hP
    obtain ⟨t, Dp, cp, ts, ht, rfl, rfl, hP, hI⟩ := hrel
    by_cases htl : (t : Int) < N
    · have q1 : t + 1 ≤ maxLen := by simp only [maxLen]; omega
      have q2 : (t + 1) * 24 ≤ 140737488355328 := by omega
      go_wp2_with fail
      refine (pick_any w.heap.size A len cap _ _ _ hI.rd (by omega)).mono ?_
      rintro e w4 ⟨x, rfl, x0, x1, -, hr4, hg4, -⟩
      have x1 := x1 (by omega)
      have hI := hI.pick hgw hr4 hg4
      have hP := hP.pick hg4 hgw
      clear hr4 hg4
      go_wp2_with fail
      refine (pick_any w.heap.size A len cap _ _ _ hI.rd (by omega)).mono ?_
      rintro e w5 ⟨y, rfl, y0, y1, -, hr5, hg5, -⟩
      have y1 := y1 (by omega)
      have hI := hI.pick hgw hr5 hg5
      have hP := hP.pick hg5 hgw
      clear hr5 hg5
      go_wp2_with fail
      refine (pick_any w.heap.size A len cap _ _ _ hI.rd (by omega)).mono ?_
      rintro e w6 ⟨z, rfl, z0, z1, -, hr6, hg6, -⟩
      have z1 := z1 (by omega)
      have hI := hI.pick hgw hr6 hg6
      have hP := hP.pick hg6 hgw
      clear hr6 hg6
      have hkz : w1.heap.size ≤ w6.heap.size := hI.kp.size
      have hB : IBk (w6.alloc (.cells #[.int .i64 (x - y / 9), .int .i64 z] 3)) w6.heap.size [x - y / 9, z] := heap_alloc_new w6 _
      have hI := (hI.alloc (.cells #[.int .i64 (x - y / 9), .int .i64 z] 3)).alloc (.cells #[.slice (some ⟨w6.heap.size, 0, none⟩) 2 2] 46)
      have hP := (hP.alloc (.cells #[.int .i64 (x - y / 9), .int .i64 z] 3)).alloc (.cells #[.slice (some ⟨w6.heap.size, 0, none⟩) 2 2] 46)
      have hB := hB.alloc (.cells #[.slice (some ⟨w6.heap.size, 0, none⟩) 2 2] 46)
      have hsrc := src1_at (w6.alloc (.cells #[.int .i64 (x - y / 9), .int .i64 z] 3)) (w6.heap.size + 1) (by simp) (.slice (some ⟨w6.heap.size, 0, none⟩) 2 2) 46
      have hown := hP.own
      have q3 : w1.heap.size ≤ ((w6.alloc (.cells #[.int .i64 (x - y / 9), .int .i64 z] 3)).alloc (.cells #[.slice (some ⟨w6.heap.size, 0, none⟩) 2 2] 46)).heap.size := by simp; omega
      go_wp2_with (at_builtin; refine wpList_append_src _ rfl _ _ 36 rfl w1.heap.size 46 i1 (.slice none 0 0) 1 24 Try.underlying36 hj0 hy0 hy1 hy2 rfl (by decide) _ t (ts.map pv) rfl hown _ 1 _ _ rfl hsrc (oneCell_sl1 _ _ _) q1 q2 q3 ?_)
      intro v' w8 hown8 hg8 _
      obtain ⟨D8, c8, rfl⟩ := own_form hown8
      have hJ := (hI.other hgw hg8 (own_ne hI.own hP.own (by decide)) (fun x e => (hP.own.lt x e).1)).more (M' := 0 + 200 + 1 + 3 * (t + 1)) (by omega)
      have hQ := hP.push hB hkz (by simp) hg8 hown8
      clear hown hsrc hown8 hg8
      go_wp2_with fail
      go_roundw
      case rel => exact ⟨t + 1, D8, c8, _, by omega, by go_num, rfl, hQ, hJ⟩
      case measure => simp [intOf]; omega
    · by_cases hN : 0 < N
      · have h0t : 0 < t := by omega
        have t1 : (0 : Int) < (t : Int) := by omega
        go_wp2_with fail
        refine (pick_any w.heap.size A len cap _ _ _ hI.rd (by omega)).mono ?_
        rintro e w4 ⟨s, rfl, s0, s1, -, hr4, hg4, -⟩
        have hI := hI.pick hgw hr4 hg4
        have hP := hP.pick hg4 hgw
        clear hr4 hg4
        by_cases e0 : s = 0
        · subst e0
          match ts, hP with
          | [], hP => have := hP.len; simp at this; omega
          | t0 :: ts, hP =>
            obtain ⟨gp, rfl, u, hu, hc⟩ := own_at1 hP.own h0t
            have hkz : w1.heap.size ≤ w4.heap.size := hI.kp.size
            have hgp := (hP.own.lt gp rfl).1
            have hB : IBk (w4.alloc (.cells #[.int .i64 1] 3)) w4.heap.size [1] := heap_alloc_new w4 _
            have hI := hI.alloc (.cells #[.int .i64 1] 3)
            have hP := hP.alloc (.cells #[.int .i64 1] 3)
            obtain ⟨_, e9, u9, -, hc9⟩ := own_at1 hP.own h0t
            injection e9 with e9
            injection e9 with e9
            subst e9
            have hf := hP.own.frozenAt 0
            clear hc hu
            have hJ := hI.other hgw (grown_set (w4.alloc (.cells #[.int .i64 1] 3)) gp 0 (.slice (some ⟨w4.heap.size, 0, none⟩) 1 1)) (own_ne hI.own hP.own (by decide)) (fun x e => by injection e with e; omega)
            have hQ := hP.set0 hB hkz (by simp)
            go_wp2_with fail
            go_ret2
            exact hQ.done hJ hb1 hn8 (by omega)
        · have e0' : (s == 0) = false := beq_eq_false_iff_ne.2 e0
          go_wp2_with fail
          go_ret2
          exact hP.done hI hb1 hn8 (by omega)
      · go_wp2_with fail
        go_ret2
        exact hP.done hI hb1 hn8 (by omega)

theorem PplV.kept {w w' : World} {B g : Nat} {D : Option Addr} {n c : Nat} {ps : List Pn} (h : PplV w B D n c ps) (hg : w.grownBy w' (some g)) (hgB : g < B) : PplV w' B D n c ps := ⟨h.1, h.2.1, h.2.2.kept hg (own_row_block h.2.2 hgB)⟩
theorem PplV.base {w : World} {B B' : Nat} {D : Option Addr} {n c : Nat} {ps : List Pn} (h : PplV w B D n c ps) (hB : B' ≤ B) : PplV w B' D n c ps := ⟨h.1, h.2.1, own_base h.2.2 hB⟩
/-- What DrawSwapMoved leaves. -/
def DrawMQ (w : World) (e : Ending) (w' : World) : Prop :=
  ∃ (D : Option Addr) (n c : Nat) (ps : List Pn) (D2 : Option Addr) (n2 c2 : Nat) (ys : List Pn), e = .returned (.tuple #[.slice D n c, .slice D2 n2 c2]) ∧ PplV w' w.heap.size D n c ps ∧ PplV w' w.heap.size D2 n2 c2 ys ∧ Below w.heap.size w w'
set_option maxHeartbeats 4000000 in
theorem drawm_any (a0 : Option Addr) (len0 cap0 : Nat) (zs : List Int) (w : World) (h : IsRow8 w a0 len0 cap0 zs) (h' : ∀ w', Below w.heap.size w w' → IsRow8 w' a0 len0 cap0 zs) :
    Calls Try.prog 27 #[.slice a0 len0 cap0] w (DrawMQ w) := by
  go_enter Try.func27, Try.ntmps27
  go_wp2_with fail
  refine (open_any a0 len0 cap0 zs _ h).mono ?_
  rintro e w1 ⟨A, len, cap, rfl, hr1, hb1, hs1⟩
  have hgw : w.heap.size < w1.heap.size := by omega
  clear hs1
  have hrow := h' w1 hb1
  clear h h'
  go_wp2_with fail
  refine (drawl_any a0 len0 cap0 zs _ hrow).mono ?_
  rintro e w2 ⟨D, n, c, ps, Dp, m, cp, rs, rfl, hV, m6, -, -, HM, hr, hb2⟩
  have hr2 := hr1.below hb2 hgw
  have hB2 := hb1.trans (hb2.mono hb1.size)
  have hgw2 := Nat.lt_of_lt_of_le hgw hb2.size
  have hz1 := hb1.size
  have hz2 := hb2.size
  have n8 := hV.1
  have HL := hV.2.1
  obtain ⟨qs, t, hrun⟩ : ∃ qs t, runR ps rs = (qs, t) := ⟨_, _, rfl⟩
  clear hrow hr1 hb2
  cases hs : slB ps rs
  · clear hrun
    go_wp2_with fail
    refine (slist_n D Dp n c m cp ps rs _ hV.recs hr HL.out (by omega) HM.out hs).mono ?_
    rintro e w3 ⟨D3, c3, rfl, -, hb3⟩
    have hr3 := hr2.below hb3 hgw2
    have hV := hV.on hb3
    have hB3 := hB2.trans (hb3.mono hB2.size)
    clear hb3 hr2
    go_wp2_with fail
    refine (people_any w.heap.size A len cap _ _ hr3 (by omega)).mono ?_
    rintro e w4 ⟨D4, n4, c4, ys, rfl, hn4, hI⟩
    have hV := (hV.kept hI.kp hgw).base hz1
    have hV4 := hI.val hB3 hn4
    have hB4 := hI.done hB3
    go_wp2_with fail
    go_ret2
    exact ⟨D, n, c, ps, D4, n4, c4, ys, rfl, hV, hV4, hB4⟩
  · have HQ : Hid (qs.length = n) := by show _ = _; rw [runR_len hrun]; exact HL.out
    have HRn := Lib.hid hrun
    clear hrun
    go_wp2_with fail
    refine (slist_t D Dp n c m cp ps qs t rs _ hV.recs hr HL.out (by omega) HM.out hs HRn.out).mono ?_
    rintro e w3 ⟨D3, c3, rfl, hown3, hb3⟩
    have hr3 := hr2.below hb3 hgw2
    have hV := hV.on hb3
    have hB3 := hB2.trans (hb3.mono hB2.size)
    have hV3 : PplV w3 w1.heap.size D3 n c3 qs := ⟨n8, HQ, own_base hown3 (by omega)⟩
    have hgw3 := Nat.lt_of_lt_of_le hgw2 hb3.size
    clear hb3 hr2 hown3
    go_wp2_with fail
    refine (pick_any w.heap.size A len cap _ _ _ hr3 (by omega)).mono ?_
    rintro e w4 ⟨r, rfl, r0, r1, -, hr4, hg4, -⟩
    have hV := hV.kept hg4 hgw
    have hV3 := hV3.kept hg4 hgw
    have hB4 : Below w.heap.size w w4 := hB3.grown hg4 (Nat.le_of_lt hgw3) (fun k e => by injection e with e; omega)
    clear hr3 hg4
    by_cases hr0 : 0 < r
    · have hV := hV.base hz1
      have hV3 := hV3.base hz1
      go_wp2_with fail
      go_ret2
      exact ⟨D, n, c, ps, D3, n, c3, qs, rfl, hV, hV3, hB4⟩
    · go_wp2_with fail
      refine (people_any w.heap.size A len cap _ _ hr4 (by omega)).mono ?_
      rintro e w5 ⟨D5, n5, c5, ys, rfl, hn5, hI⟩
      have hV := (hV.kept hI.kp hgw).base hz1
      have hV5 := hI.val hB4 hn5
      have hB5 := hI.done hB4
      go_wp2_with fail
      go_ret2
      exact ⟨D, n, c, ps, D5, n5, c5, ys, rfl, hV, hV5, hB5⟩
end Go.Proofs.Ytdoomakadnfddaa
