/-
  DrawLedgerValid, DrawLedgerSpent, DrawLedgerLeft, DrawLedgerAsk: a ledger out of a code; nothing that was there turns.
-/
import Derived.Test.YtllnmgadaodieaaDraw
import Derived.IntWalk
namespace Go.Proofs.Ytllnmgadaodieaa
open Go.RowKit
attribute [local go_sem ↓] Go.wp_at_zero Go.wp_at_succ

/-- A ledger as a value: its entries, in blocks from B on, read as es. -/
def LedV (w : World) (B : Nat) (b : Int) (D : Option Addr) (n c : Nat) (es : List (Int × Int)) : Prop :=
  -1 ≤ b ∧ b ≤ 1001 ∧ n ≤ 9 ∧ Hid (es.length = n) ∧ w.ownsRow B 34 2 (.slice D n c) n (flat ef es)
section
variable {w w' : World} {B B' : Nat} {b : Int} {D : Option Addr} {n c : Nat} {es : List (Int × Int)}
theorem LedV.on (h : LedV w B b D n c es) (hb : Below w.heap.size w w') : LedV w' B b D n c es := ⟨h.1, h.2.1, h.2.2.1, h.2.2.2.1, own_below h.2.2.2.2 hb⟩
theorem LedV.less (h : LedV w B b D n c es) (hB : B' ≤ B) : LedV w B' b D n c es := ⟨h.1, h.2.1, h.2.2.1, h.2.2.2.1, own_base h.2.2.2.2 hB⟩
theorem LedV.far (h : LedV w B b D n c es) {p : Addr} (hp : p.block < B) (u : Value) : LedV (w.setCell p u) B b D n c es := ⟨h.1, h.2.1, h.2.2.1, h.2.2.2.1, ownsRow_setCell_below h.2.2.2.2 hp u⟩
theorem LedV.recs (h : LedV w B b D n c es) : Recs ef 2 w w.heap.size D es := (Recs.of_own ef_len h.2.2.2.2 (by omega)).2
theorem LedV.caps (h : LedV w B b D n c es) : n ≤ c ∧ c ≤ maxLen := own_caps h.2.2.2.2
theorem LedV.of_own (ho : w.ownsRow B 34 2 (.slice D n c) n (flat ef es)) (h0 : -1 ≤ b) (h1 : b ≤ 1001) (hn : n ≤ 9) : LedV w B b D n c es := ⟨h0, h1, hn, (Recs.of_own ef_len ho (by omega)).1, ho⟩
end
/-- The drawn ledger in block k, the reader behind the result's block, and what was there. -/
structure DInv (A : Option Addr) (len cap : Nat) (w wr : World) (M k : Nat) (b : Int) (D : Option Addr) (n c : Nat) (es : List (Int × Int)) : Prop where
  res : LedB wr w.heap.size 0 (.slice none 0 0)
  out : LedB wr k b (.slice D n c)
  lt : w.heap.size + 1 < k
  leng : Hid (es.length = n)
  own : wr.ownsRow (w.heap.size + 2) 34 2 (.slice D n c) n (flat ef es)
  rd : Rd wr (w.heap.size + 1) A len cap M
  kp : Below w.heap.size w wr
section
variable {A : Option Addr} {len cap : Nat} {w wr w' : World} {M M' k : Nat} {b : Int} {D : Option Addr} {n c : Nat} {es : List (Int × Int)}
theorem DInv.drew (h : DInv A len cap w wr M k b D n c es) : DInv A len cap w wr.drew M k b D n c es := ⟨h.res, h.out, h.lt, h.leng, h.own, h.rd.drew, h.kp.drew⟩
theorem DInv.more (h : DInv A len cap w wr M k b D n c es) (hM : M ≤ M') : DInv A len cap w wr M' k b D n c es := ⟨h.res, h.out, h.lt, h.leng, h.own, h.rd.more hM, h.kp⟩
theorem DInv.alloc (h : DInv A len cap w wr M k b D n c es) (o : Obj) : DInv A len cap w (wr.alloc o) M k b D n c es := ⟨h.res.alloc o, h.out.alloc o, h.lt, h.leng, h.own.alloc o, h.rd.alloc o, h.kp.alloc h.kp.size o⟩
theorem DInv.pick (h : DInv A len cap w wr M k b D n c es) (hr : Rd w' (w.heap.size + 1) A len cap M') (hg : wr.grownBy w' (some (w.heap.size + 1))) : DInv A len cap w w' M' k b D n c es :=
  ⟨h.res.grown hg (by simp), h.out.grown hg (by have := h.lt; simp; omega), h.lt, h.leng, h.own.kept hg (own_row_block h.own (by omega)), hr, h.kp.grown hg h.kp.size (fun x e => by injection e with e; omega)⟩
theorem DInv.big (h : DInv A len cap w wr M k b D n c es) : k < wr.heap.size := h.out.lt
theorem DInv.outApp (h : DInv A len cap w wr M k b D n c es) (hg : wr.grownBy w' (Value.slice D n c).ownBlock) : LedB w' k b (.slice D n c) := blk_app h.own hg h.out (by decide)
theorem DInv.app (h : DInv A len cap w wr M k b D n c es) (hg : wr.grownBy w' (Value.slice D n c).ownBlock) {D' : Option Addr} {n' c' : Nat} {es' : List (Int × Int)} (hl : es'.length = n') (ho : w'.ownsRow (w.heap.size + 2) 34 2 (.slice D' n' c') n' (flat ef es')) : DInv A len cap w (w'.setCell ⟨k, 1, none⟩ (.slice D' n' c')) M k b D' n' c' es' := by
  have hk := h.lt
  have h1 : LedB w' w.heap.size 0 (.slice none 0 0) := blk_app h.own hg h.res (by decide)
  have h2 : LedB w' k b (.slice D n c) := h.outApp hg
  exact ⟨h1.far (by show w.heap.size ≠ k; omega) _, h2.set1 _, hk, hl, own_store ho h2 (by decide), (h.rd.grown hg (fun x e => by have := (h.own.lt x e).1; omega)).setCell (by show w.heap.size + 1 < k; omega) _, (h.kp.grown hg h.kp.size (fun x e => by have := (h.own.lt x e).1; omega)).setCell (by show w.heap.size ≤ k; omega) _⟩
/-- The ledger is put into the result's block. -/
theorem DInv.fin (h : DInv A len cap w wr M k b D n c es) (h0 : -1 ≤ b) (h1 : b ≤ 1001) (hn : n ≤ 9) : LedV ((wr.setCell ⟨w.heap.size, 0, none⟩ (.int .i64 b)).setCell ⟨w.heap.size, 1, none⟩ (.slice D n c)) w.heap.size b D n c es ∧ Below w.heap.size w ((wr.setCell ⟨w.heap.size, 0, none⟩ (.int .i64 b)).setCell ⟨w.heap.size, 1, none⟩ (.slice D n c)) :=
  ⟨(LedV.of_own (own_store (own_store h.own h.res (by decide)) (h.res.set0 b) (by decide)) h0 h1 hn).less (by omega), (h.kp.setCell (by show _ ≤ w.heap.size; omega) _).setCell (by show _ ≤ w.heap.size; omega) _⟩
/-- The start: the reader is open, the ledger is drawn. -/
theorem DInv.start {w1 w2 : World} {D : Option Addr} (hr : Rd w2 (w.heap.size + 1) A len cap M) (hb : Below (w.heap.size + 1) (w.alloc (.cells #[.int .i64 0, .slice none 0 0] 25)) w1) (hs : w1.heap.size = w.heap.size + 2) (hg : w1.grownBy w2 (some (w.heap.size + 1))) (hl : Hid (es.length = n)) (ho : w2.ownsRow w1.heap.size 34 2 (.slice D n c) n (flat ef es)) :
    DInv A len cap w (w2.alloc (.cells #[.int .i64 b, .slice D n c] 25)) M w2.heap.size b D n c es := by
  have h0 : LedB w1 w.heap.size 0 (.slice none 0 0) := (hb.block w.heap.size (by omega)).trans (LedB.new w 0 _)
  have hz := hg.size
  have hk : Below w.heap.size w w2 := (((Below.refl _ _).alloc (Nat.le_refl _) _).trans (hb.mono (by omega))).grown hg (by omega) (fun x e => by injection e with e; omega)
  exact ⟨(h0.grown hg (by simp)).alloc _, LedB.new _ _ _, by omega, hl, (own_base ho (by omega)).alloc _, hr.alloc _, hk.alloc (by omega) _⟩
end

/-- What DrawLedgerValid leaves. -/
def DVQ (w : World) (e : Ending) (w' : World) : Prop :=
  ∃ (b : Int) (D : Option Addr) (n c : Nat) (es : List (Int × Int)), e = .returned (.agg #[.int .i64 b, .slice D n c]) ∧ LedV w' w.heap.size b D n c es ∧ Below w.heap.size w w'

theorem IsRow8.alloc {w : World} {a : Option Addr} {len cap : Nat} {zs : List Int} (h : IsRow8 w a len cap zs) (o : Obj) : IsRow8 (w.alloc o) a len cap zs := by
  rcases h with h | ⟨x, e, h1, h2, h3, h4, h5⟩
  · exact .inl h
  · exact .inr ⟨x, e, h1, h2, h3, fun i hi => (World.cell?_alloc_lt w o _ (World.block_lt_of_cell? _ _ (h4 i hi))).trans (h4 i hi), h5⟩
theorem IsRow8.on {w w' : World} {a : Option Addr} {len cap : Nat} {zs : List Int} (h : IsRow8 w a len cap zs) (hb : Below w.heap.size w w') : IsRow8 w' a len cap zs := by
  rcases h with h | ⟨x, e, h1, h2, h3, h4, h5⟩
  · exact .inl h
  · exact .inr ⟨x, e, h1, h2, h3, fun i hi => (hb.cell (World.block_lt_of_cell? _ _ (h4 i hi))).trans (h4 i hi), h5⟩

set_option maxHeartbeats 4000000 in
theorem drawv_any (a : Option Addr) (len0 cap0 : Nat) (zs : List Int) (w : World) (h : IsRow8 w a len0 cap0 zs) :
    Calls Try.prog 15 #[.slice a len0 cap0] w (DVQ w) := by
  obtain ⟨i0, hi0, hz0, hz1, hz2⟩ := info_parts en_info
  go_enter Try.func15, Try.ntmps15
  go_wp2_with fail
  refine (open_any a len0 cap0 zs _ (h.alloc _)).mono ?_
  rintro e w1 ⟨A, len, cap, rfl, hr1, hb1, hs1⟩
  have hr1 : Rd w1 (w.heap.size + 1) A len cap 0 := by simpa using hr1
  have hb1 : Below (w.heap.size + 1) (w.alloc (.cells #[.int .i64 0, .slice none 0 0] 25)) w1 := hb1.mono (by simp)
  have HS1 := Lib.hid (show w1.heap.size = w.heap.size + 2 by rw [hs1]; simp)
  clear hs1
  go_wp2_with fail
  refine (ledger_any (w.heap.size + 1) A len cap 0 _ hr1 (by omega)).mono ?_
  rintro e w2 ⟨b, D, n, c, es, rfl, b0, b1, n8, HL, ho2, hr2, hg2⟩
  have hI := DInv.start (b := b) hr2 hb1 HS1.out hg2 HL ho2
  clear hr2 hg2 ho2 hr1
  have hlt2 := hI.lt
  go_wp2_with fail
  refine (pick_any _ A len cap _ _ _ hI.rd (by omega)).mono ?_
  rintro e w3 ⟨s, rfl, s0, s1, -, hr3, hg3, -⟩
  have hI := hI.pick hr3 hg3
  clear hr3 hg3
  obtain ⟨x0, x1, x2, x3⟩ := hI.out.facts
  obtain ⟨z0, z1, z2, z3⟩ := hI.res.facts
  have hbig := hI.big
  by_cases c0 : s = 0
  · subst c0
    have q1 : n + 1 ≤ maxLen := by simp only [maxLen]; omega
    have q2 : (n + 1) * 16 ≤ 140737488355328 := by omega
    have hne : ¬ w.heap.size = w2.heap.size := by omega
    have hne' : ¬ w2.heap.size = w.heap.size := by omega
    go_wp2_with fail
    go_region_law
      (first
        | (go_simp; go_at_call 30
           first
             | (refine (pick_any _ A len cap _ _ _ hI.drew.rd (by omega)).mono ?_
                rintro e w4 ⟨r, rfl, r0, r1, -, hr4, hg4, -⟩
                have hI := hI.drew.pick hr4 hg4)
             | (refine (pick_any _ A len cap _ _ _ hI.rd (by omega)).mono ?_
                rintro e w4 ⟨r, rfl, r0, r1, -, hr4, hg4, -⟩
                have hI := hI.pick hr4 hg4)
           obtain ⟨x0, x1, -, -⟩ := hI.out.facts
           have hn4 : w2.heap.size < w4.heap.size := hI.big
           clear hr4 hg4 r1)
        | (refine step_append_src _ (by rfl) _ _ 23 (by rfl) (w.heap.size + 2) 34 i0 (.agg #[.int .i64 0, .int .i64 0]) 2 16 Try.underlying23 hi0 hz0 hz1 hz2 rfl (by decide) _ n (flat ef es) (by rfl) (hI.own.alloc _) _ 1 _ (ef (_, _)) (by rfl) (src_two _ _ _ _) (ef_one _) q1 q2 (by have := hI.big; simp; omega) ?_
           intro v' w5 hown5 hg5 _
           rw [← flat_one ef (_, _), ← flat_append] at hown5
           obtain ⟨D5, c5, rfl⟩ := own_form hown5
           have hJ := (hI.alloc _).app hg5 (show (es ++ [(_, _)]).length = n + 1 by have := HL.out; simp; exact this) hown5
           obtain ⟨x0, x1, x2, x3⟩ := ((hI.alloc _).outApp hg5).facts
           obtain ⟨z0, z1, z2, z3⟩ := hJ.res.facts
           clear hown5 hg5))
    all_goals
      go_wp2_with fail
      refine bodyPost_ret (v := .agg #[.int .i64 b, .slice D5 (n + 1) c5]) (by simp [results, Try.results15, go_sem, *]) rfl ?_
      obtain ⟨v1, v2⟩ := hJ.fin b0 b1 (by omega)
      exact ⟨b, D5, n + 1, c5, _, rfl, v1, v2⟩
  have b0' : (s == 0) = false := beq_eq_false_iff_ne.2 c0
  go_wp2_with fail
  refine bodyPost_ret (v := .agg #[.int .i64 b, .slice D n c]) (by simp [results, Try.results15, go_sem, *]) rfl ?_
  obtain ⟨v1, v2⟩ := hI.fin b0 b1 (by omega)
  exact ⟨b, D, n, c, es, rfl, v1, v2⟩

/-- What DrawLedgerSpent leaves. -/
def DSQ (w : World) (e : Ending) (w' : World) : Prop :=
  ∃ (b : Int) (D : Option Addr) (n c : Nat) (es : List (Int × Int)) (area : Int), e = .returned (.tuple #[.agg #[.int .i64 b, .slice D n c], .int .i64 area]) ∧ -2 ≤ area ∧ area ≤ 4 ∧ LedV w' w.heap.size b D n c es ∧ Below w.heap.size w w'
set_option maxHeartbeats 4000000 in
theorem draws_any (a : Option Addr) (len0 cap0 : Nat) (zs : List Int) (w : World) (h : IsRow8 w a len0 cap0 zs) :
    Calls Try.prog 20 #[.slice a len0 cap0] w (DSQ w) := by
  go_enter Try.func20, Try.ntmps20
  go_wp2_with fail
  refine (open_any a len0 cap0 zs _ (h.alloc _)).mono ?_
  rintro e w1 ⟨A, len, cap, rfl, hr1, hb1, hs1⟩
  have hr1 : Rd w1 (w.heap.size + 1) A len cap 0 := by simpa using hr1
  have hb1 : Below (w.heap.size + 1) (w.alloc (.cells #[.int .i64 0, .slice none 0 0] 25)) w1 := hb1.mono (by simp)
  have HS1 := Lib.hid (show w1.heap.size = w.heap.size + 2 by rw [hs1]; simp)
  clear hs1
  go_wp2_with fail
  refine (ledger_any (w.heap.size + 1) A len cap 0 _ hr1 (by omega)).mono ?_
  rintro e w2 ⟨b, D, n, c, es, rfl, b0, b1, n8, HL, ho2, hr2, hg2⟩
  have hI := DInv.start (b := b) hr2 hb1 HS1.out hg2 HL ho2
  clear hr2 hg2 ho2 hr1
  have hlt2 := hI.lt
  go_wp2_with fail
  refine (pick_any _ A len cap _ _ _ hI.rd (by omega)).mono ?_
  rintro e w3 ⟨s, rfl, s0, s1, -, hr3, hg3, -⟩
  have hI := hI.pick hr3 hg3
  clear hr3 hg3
  obtain ⟨x0, x1, x2, x3⟩ := hI.out.facts
  obtain ⟨z0, z1, z2, z3⟩ := hI.res.facts
  have hbig := hI.big
  have hne : ¬ w.heap.size = w2.heap.size := by omega
  have hne' : ¬ w2.heap.size = w.heap.size := by omega
  by_cases c0 : s = 0
  · subst c0
    go_wp2_with fail
    go_region_law
      (first
        | (go_simp; go_at_call 30
           first
             | (refine (pick_any _ A len cap _ _ _ hI.drew.rd (by omega)).mono ?_
                rintro e w4 ⟨r, rfl, r0, r1, -, hr4, hg4, -⟩
                have r1 := r1 (by omega)
                obtain ⟨r, rfl⟩ := Int.eq_ofNat_of_zero_le r0
                obtain ⟨z, hz, h1, h2⟩ := two_at (-2) 4 r (by omega)
                have hI := hI.drew.pick hr4 hg4)
             | (refine (pick_any _ A len cap _ _ _ (hI.alloc _).drew.rd (by omega)).mono ?_
                rintro e w4 ⟨r, rfl, r0, r1, -, hr4, hg4, -⟩
                have r1 := r1 (by omega)
                obtain ⟨r, rfl⟩ := Int.eq_ofNat_of_zero_le r0
                obtain ⟨z, hz, h1, h2⟩ := two_at (-2) 4 r (by omega)
                have hc := cell_laid (w := w3) (t := 3) ⟨hg4.os, hg4.tape, hg4.output, hg4.size, hg4.block⟩ (by omega) h1
                have hI := (hI.alloc _).drew.pick hr4 hg4)
           obtain ⟨x0, x1, -, -⟩ := hI.out.facts
           obtain ⟨z0, z1, z2, z3⟩ := hI.res.facts
           have hn4 : w2.heap.size < w4.heap.size := hI.big
           have hn5 : w.heap.size < w4.heap.size := by omega
           have hn6 : ¬ w.heap.size = w4.heap.size := by omega
           clear hr4 hg4))
    all_goals
      go_wp2_with fail
      first
        | (refine bodyPost_ret (v := .tuple #[.agg #[.int .i64 b, .slice D n c], .int .i64 z]) (by simp [results, Try.results20, go_sem, *]) rfl ?_
           obtain ⟨v1, v2⟩ := hI.fin b0 b1 (by omega)
           exact ⟨b, D, n, c, es, z, rfl, by omega, by omega, v1, v2⟩)
        | (refine bodyPost_ret (v := .tuple #[.agg #[.int .i64 b, .slice D n c], .int .i64 z]) (by simp [results, Try.results20, go_sem, *]) rfl ?_
           obtain ⟨v1, v2⟩ := hI.fin b0 b1 (by omega)
           exact ⟨b, D, n, c, es, z, rfl, by omega, by omega, v1.on ((Below.refl _ _).alloc (Nat.le_refl _) _), v2.alloc v2.size _⟩)
  have b0' : (s == 0) = false := beq_eq_false_iff_ne.2 c0
  go_wp2_with fail
  go_region_held3 (fun w' => w'.cell? ⟨w2.heap.size, 0, none⟩ = some (.int .i64 b) ∧ w'.cell? ⟨w2.heap.size, 1, none⟩ = some (.slice D n c)) (first | (go_keep; done) | exact keep_far (by assumption) (by assumption) (by omega))
    (first
      | (go_at_call 30
         refine (pick_any _ A len cap _ _ _ hI.drew.rd (by omega)).mono ?_
         rintro e w4 ⟨r, rfl, r0, r1, -, hr4, hg4, -⟩
         have r1 := r1 (by omega)
         have hI := hI.drew.pick hr4 hg4
         obtain ⟨x0, x1, -, -⟩ := hI.out.facts
         obtain ⟨z0, z1, z2, z3⟩ := hI.res.facts
         clear hr4 hg4))
  have hw : IntKind.i64.wrap (r - 1) = r - 1 := IntWalk.i64_in _ (by omega)
  go_wp2_with fail
  refine bodyPost_ret (v := .tuple #[.agg #[.int .i64 b, .slice D n c], .int .i64 (r - 1)]) (by simp [results, Try.results20, go_sem, *]) rfl ?_
  obtain ⟨v1, v2⟩ := hI.fin b0 b1 (by omega)
  exact ⟨b, D, n, c, es, r - 1, rfl, by omega, by omega, v1, v2⟩
set_option maxHeartbeats 1000000 in
theorem drawl_any (a : Option Addr) (len0 cap0 : Nat) (zs : List Int) (w : World) (h : IsRow8 w a len0 cap0 zs) :
    Calls Try.prog 22 #[.slice a len0 cap0] w (DSQ w) := by
  go_enter Try.func22, Try.ntmps22
  go_wp2_with fail
  refine (draws_any a len0 cap0 zs _ (h.alloc _)).mono ?_
  rintro e w1 ⟨b, D, n, c, es, area, rfl, a0, a1, hv, hb⟩
  have h0 : LedB w1 w.heap.size 0 (.slice none 0 0) := (hb.block w.heap.size (by simp)).trans (LedB.new w 0 _)
  obtain ⟨z0, z1, z2, z3⟩ := h0.facts
  go_wp2_with fail
  refine bodyPost_ret (v := .tuple #[.agg #[.int .i64 b, .slice D n c], .int .i64 area]) (by simp [results, Try.results22, go_sem, *]) rfl ?_
  refine ⟨b, D, n, c, es, area, rfl, a0, a1, ((hv.far (by show w.heap.size < _; simp) _).far (by show w.heap.size < _; simp) _).less (by simp), ?_⟩
  exact ((((Below.refl _ _).alloc (Nat.le_refl _) _).trans (hb.mono (by simp))).setCell (Nat.le_refl _) _).setCell (Nat.le_refl _) _

/-- What DrawLedgerAsk leaves. -/
def DAQ (w : World) (e : Ending) (w' : World) : Prop :=
  ∃ (b : Int) (D : Option Addr) (n c : Nat) (es : List (Int × Int)) (part cost : Int), e = .returned (.tuple #[.agg #[.int .i64 b, .slice D n c], .int .i64 part, .int .i64 cost]) ∧ -2 ≤ part ∧ part ≤ 4 ∧ -1 ≤ cost ∧ cost ≤ 80 ∧ LedV w' w.heap.size b D n c es ∧ Below w.heap.size w w'
set_option maxHeartbeats 4000000 in
theorem drawa_any (a : Option Addr) (len0 cap0 : Nat) (zs : List Int) (w : World) (h : IsRow8 w a len0 cap0 zs) :
    Calls Try.prog 25 #[.slice a len0 cap0] w (DAQ w) := by
  go_enter Try.func25, Try.ntmps25
  go_wp2_with fail
  refine (open_any a len0 cap0 zs _ (h.alloc _)).mono ?_
  rintro e w1 ⟨A, len, cap, rfl, hr1, hb1, hs1⟩
  have hr1 : Rd w1 (w.heap.size + 1) A len cap 0 := by simpa using hr1
  have hb1 : Below (w.heap.size + 1) (w.alloc (.cells #[.int .i64 0, .slice none 0 0] 25)) w1 := hb1.mono (by simp)
  have HS1 := Lib.hid (show w1.heap.size = w.heap.size + 2 by rw [hs1]; simp)
  clear hs1
  have h1 : IsRow8 w1 a len0 cap0 zs := (h.alloc _).on (hb1.mono (by simp))
  go_wp2_with fail
  refine (draws_any a len0 cap0 zs _ h1).mono ?_
  rintro e w2 ⟨b, D, n, c, es, area, rfl, a0, a1, hv, hb2⟩
  obtain ⟨b0, b1, n9, HL, ho⟩ := hv
  have hI := DInv.start (b := b) (hr1.below hb2 hr1.lt) hb1 HS1.out ⟨hb2.os, hb2.tape, hb2.output, hb2.size, fun k hk _ => hb2.block k hk⟩ HL ho
  have hlt2 := hI.lt
  clear hr1 ho
  go_wp2_with fail
  refine (pick_any _ A len cap _ _ _ hI.rd (by omega)).mono ?_
  rintro e w3 ⟨s, rfl, s0, s1, -, hr3, hg3, -⟩
  have hI := hI.pick hr3 hg3
  clear hr3 hg3
  obtain ⟨x0, x1, x2, x3⟩ := hI.out.facts
  obtain ⟨z0, z1, z2, z3⟩ := hI.res.facts
  have hbig := hI.big
  have hne : ¬ w.heap.size = w2.heap.size := by omega
  have hne' : ¬ w2.heap.size = w.heap.size := by omega
  by_cases c0 : s = 0
  · subst c0
    go_wp2_with fail
    refine bodyPost_ret (v := .tuple #[.agg #[.int .i64 b, .slice D n c], .int .i64 area, .int .i64 (-1)]) (by simp [results, Try.results25, go_sem, *]) rfl ?_
    obtain ⟨v1, v2⟩ := hI.fin b0 b1 n9
    exact ⟨b, D, n, c, es, area, -1, rfl, a0, a1, by omega, by omega, v1, v2⟩
  have b0' : (s == 0) = false := beq_eq_false_iff_ne.2 c0
  go_wp2_with fail
  go_region_held3 (fun w' => w'.cell? ⟨w2.heap.size, 0, none⟩ = some (.int .i64 b) ∧ w'.cell? ⟨w2.heap.size, 1, none⟩ = some (.slice D n c)) (first | (go_keep; done) | exact keep_far (by assumption) (by assumption) (by omega))
    (first
      | (go_at_call 30
         refine (pick_any _ A len cap _ _ _ hI.drew.rd (by omega)).mono ?_
         rintro e w4 ⟨r, rfl, r0, r1, -, hr4, hg4, -⟩
         have r1 := r1 (by omega)
         have hI := hI.drew.pick hr4 hg4
         obtain ⟨x0, x1, -, -⟩ := hI.out.facts
         obtain ⟨z0, z1, z2, z3⟩ := hI.res.facts
         clear hr4 hg4))
  go_wp2_with fail
  refine bodyPost_ret (v := .tuple #[.agg #[.int .i64 b, .slice D n c], .int .i64 area, .int .i64 r]) (by simp [results, Try.results25, go_sem, *]) rfl ?_
  obtain ⟨v1, v2⟩ := hI.fin b0 b1 n9
  exact ⟨b, D, n, c, es, area, r, rfl, a0, a1, by omega, by omega, v1, v2⟩
end Go.Proofs.Ytllnmgadaodieaa
