/-
  The reader of drawn codes: l6Open makes one, pick(n) gives a number from 0 to n-1 (0 if n < 1) and moves the reader on by one. Nothing else in memory turns.
-/
import Derived.Test.YtpjiencegicjbaaRows
import Derived.WalkKit
import Derived.WalkSpells
import Derived.WalkLawsBesides
import Derived.Lib.Hide
import Derived.BigQuiet
import Derived.Deep.QuietTactic
import Derived.Deep.Draws
import Derived.OpenShut
namespace Go.Proofs.Ytpjiencegicjbaa
open Go.RowKit

theorem ofInt_small (a : Nat) (ha : a < 9223372036854775808) : (BitVec.ofInt 64 (a : Int)).toNat = a := by
  rw [BitVec.ofInt_natCast, BitVec.toNat_ofNat]; exact Nat.mod_eq_of_lt (by omega)
theorem xor_small (a b : Nat) (ha : a < 9223372036854775808) (hb : b < 9223372036854775808) : bits .xor .i64 (a : Int) (b : Int) = ((a ^^^ b : Nat) : Int) := by
  have hx : a ^^^ b < 2 ^ 63 := Nat.xor_lt_two_pow (by omega) (by omega)
  show IntKind.i64.wrap ((BitVec.ofInt 64 (a : Int) ^^^ BitVec.ofInt 64 (b : Int)).toNat : Int) = _
  rw [BitVec.toNat_xor, ofInt_small a ha, ofInt_small b hb, IntKind.wrap_i64]
  omega
/-- 'x ^ x/64' of a number that is not negative is not negative. -/
theorem xor_pos (x : Int) (h0 : 0 ≤ x) (h1 : x ≤ 1000000000) : 0 ≤ bits .xor .i64 x (x / 64) ∧ bits .xor .i64 x (x / 64) ≤ 9223372036854775807 := by
  obtain ⟨a, rfl⟩ := Int.eq_ofNat_of_zero_le h0
  have e : ((a : Int) / 64) = ((a / 64 : Nat) : Int) := by omega
  rw [e, xor_small a (a / 64) (by omega) (by omega)]
  have : a ^^^ (a / 64) < 2 ^ 63 := Nat.xor_lt_two_pow (by omega) (by omega)
  omega

/-- What pick leaves. -/
def PickP (g p : Nat) (n : Int) (w : World) (e : Ending) (w' : World) : Prop :=
  ∃ r : Int, e = .returned (.int .i64 r) ∧ 0 ≤ r ∧ (1 ≤ n → r < n) ∧ (n < 1 → r = 0) ∧ ∃ k, w' = (w.setCell ⟨g, 1, none⟩ (.int .i64 ((p : Int) + 1))).drewN k

set_option maxHeartbeats 400000 in
theorem pick_none (g p : Nat) (n : Int) (w : World) (hn : n < 1) (hp : p ≤ 1000000)
    (h1 : w.cell? ⟨g, 1, none⟩ = some (.int .i64 (p : Int))) (hf : w.frozen? ⟨g, 1, none⟩ = false) :
    Calls Try.prog 50 #[.pointer (some ⟨g, 0, none⟩), .int .i64 n] w (PickP g p n w) := by
  go_enter Try.func50, Try.ntmps50
  go_wp2
  go_ret
  exact ⟨0, rfl, by omega, fun h => by omega, fun _ => rfl, 0, rfl⟩

set_option maxHeartbeats 400000 in
theorem pick_empty (g p cap : Nat) (A : Option Addr) (n : Int) (w : World) (hn : 1 ≤ n) (hp : p ≤ 1000000)
    (h0 : w.cell? ⟨g, 0, none⟩ = some (.slice A 0 cap)) (h1 : w.cell? ⟨g, 1, none⟩ = some (.int .i64 (p : Int))) (hf : w.frozen? ⟨g, 1, none⟩ = false) :
    Calls Try.prog 50 #[.pointer (some ⟨g, 0, none⟩), .int .i64 n] w (PickP g p n w) := by
  go_enter Try.func50, Try.ntmps50
  go_wp2
  go_ret
  exact ⟨0, rfl, by omega, fun h => by omega, fun _ => rfl, 0, rfl⟩

set_option maxHeartbeats 400000 in
theorem pick_here (g p b o len cap : Nat) (n u : Int) (w : World) (hn : 1 ≤ n) (hp : p < len) (hl : len ≤ 2000) (hbg : b ≠ g) (u0 : 0 ≤ u) (u1 : u ≤ 255)
    (h0 : w.cell? ⟨g, 0, none⟩ = some (.slice (some ⟨b, o, none⟩) len cap)) (h1 : w.cell? ⟨g, 1, none⟩ = some (.int .i64 (p : Int))) (hf : w.frozen? ⟨g, 1, none⟩ = false)
    (hu : w.cell? ⟨b, o + p, none⟩ = some (.int .u8 u)) :
    Calls Try.prog 50 #[.pointer (some ⟨g, 0, none⟩), .int .i64 n] w (PickP g p n w) := by
  have hle : ((len : Int) == 0) = false := beq_eq_false_iff_ne.2 (by omega)
  go_enter Try.func50, Try.ntmps50
  go_wp2
  go_ret
  exact ⟨u % n, rfl, Int.emod_nonneg _ (by omega), fun _ => Int.emod_lt_of_pos _ (by omega), fun h => by omega, 0, rfl⟩

set_option maxHeartbeats 1000000 in
theorem pick_mix (g p b o len cap : Nat) (n u v : Int) (w : World) (hn : 1 ≤ n) (h0l : 0 < len) (hl : len ≤ 2000) (hp : len ≤ p) (hp2 : p ≤ 1000000) (hbg : b ≠ g) (u0 : 0 ≤ u) (u1 : u ≤ 255) (v0 : 0 ≤ v) (v1 : v ≤ 255)
    (h0 : w.cell? ⟨g, 0, none⟩ = some (.slice (some ⟨b, o, none⟩) len cap)) (h1 : w.cell? ⟨g, 1, none⟩ = some (.int .i64 (p : Int))) (hf : w.frozen? ⟨g, 1, none⟩ = false)
    (hu : w.cell? ⟨b, o + p % len, none⟩ = some (.int .u8 u)) (hv : w.cell? ⟨b, o + (p * 7 + 3) % len, none⟩ = some (.int .u8 v)) :
    Calls Try.prog 50 #[.pointer (some ⟨g, 0, none⟩), .int .i64 n] w (PickP g p n w) := by
  have hle : ((len : Int) == 0) = false := beq_eq_false_iff_ne.2 (by omega)
  have m1 : p % len < len := Nat.mod_lt _ h0l
  have m2 : (p * 7 + 3) % len < len := Nat.mod_lt _ h0l
  have d1 : (0 : Int) ≤ (p : Int) / len := Int.ediv_nonneg (by omega) (by omega)
  have d2 : (p : Int) / len ≤ p := Int.ediv_le_self _ (by omega)
  have z1 : ¬ (len : Int) = 0 := by omega
  have z2 : ¬ len = 0 := by omega
  have t1 : (p : Int).tmod (len : Int) = (p : Int) % (len : Int) := Int.tmod_eq_emod_of_nonneg (by omega)
  have t2 : ((p : Int) * 7 + 3).tmod (len : Int) = ((p : Int) * 7 + 3) % (len : Int) := Int.tmod_eq_emod_of_nonneg (by omega)
  have t3 : (p : Int).tdiv (len : Int) = (p : Int) / len := by rw [Int.tdiv_eq_ediv_of_nonneg (by omega)]
  have i1 : 0 ≤ (p : Int) % (len : Int) := Int.emod_nonneg _ (by omega)
  have i2 : (p : Int) % (len : Int) < (len : Int) := Int.emod_lt_of_pos _ (by omega)
  have i3 : ((p : Int) % (len : Int)).toNat = p % len := rfl
  have i4 : 0 ≤ ((p : Int) * 7 + 3) % (len : Int) := Int.emod_nonneg _ (by omega)
  have i5 : ((p : Int) * 7 + 3) % (len : Int) < (len : Int) := Int.emod_lt_of_pos _ (by omega)
  have i6 : (((p : Int) * 7 + 3) % (len : Int)).toNat = (p * 7 + 3) % len := rfl
  go_enter Try.func50, Try.ntmps50
  go_wp2
  go_quiet (fail)
  clear t1 t2 t3 i1 i2 i3 i4 i5 i6
  go_wp2
  go_ret
  have hx := xor_pos (u * 131 + v * 1117 + (p : Int) * 29 + (p : Int) / (len : Int) * 53) (by omega) (by omega)
  exact ⟨_, rfl, Int.tmod_nonneg _ hx.1, fun _ => Int.tmod_lt_of_pos _ (by omega), fun h => by omega, _, rfl⟩

/-! ### The reader in memory -/
/-- The bytes of a code: a slice of integers that came in, or a part of it, in blocks below B. -/
def Byt (w : World) (B : Nat) (A : Option Addr) (len : Nat) : Prop :=
  0 < len → ∃ b o, A = some ⟨b, o, none⟩ ∧ b < B ∧ ∀ j, j < len → ∃ v : Int, w.cell? ⟨b, o + j, none⟩ = some (.int .u8 v) ∧ 0 ≤ v ∧ v ≤ 255
theorem Byt.keep {w w' : World} {B : Nat} {A : Option Addr} {len : Nat} (h : Byt w B A len) (hk : ∀ p : Addr, p.block < B → w'.cell? p = w.cell? p) : Byt w' B A len := by
  intro hl
  obtain ⟨b, o, e, hb, hc⟩ := h hl
  refine ⟨b, o, e, hb, fun j hj => ?_⟩
  obtain ⟨v, h1, h2⟩ := hc j hj
  exact ⟨v, (hk ⟨b, o + j, none⟩ hb).trans h1, h2⟩

theorem Byt.part {w : World} {B : Nat} {A : Option Addr} {len m : Nat} (h : Byt w B A len) (hm : m ≤ len) : Byt w B A m := by
  intro hl
  obtain ⟨b, o, e, hb, hc⟩ := h (by omega)
  exact ⟨b, o, e, hb, fun j hj => hc j (by omega)⟩

/-- The reader lies in block g, its bytes below it; it has gone at most M places. -/
structure Rd (w : World) (g : Nat) (A : Option Addr) (len cap M : Nat) : Prop where
  blk : ∃ p : Nat, p ≤ M ∧ w.heap[g]? = some (.cells #[.slice A len cap, .int .i64 (p : Int)] 77 (0, 0))
  byt : Byt w g A len
  small : len ≤ 2000
theorem Rd.lt {w : World} {g : Nat} {A : Option Addr} {len cap M : Nat} (h : Rd w g A len cap M) : g < w.heap.size := by
  obtain ⟨p, _, hb⟩ := h.blk
  exact (Array.getElem?_eq_some_iff.1 hb).1
theorem Rd.more {w : World} {g : Nat} {A : Option Addr} {len cap M M' : Nat} (h : Rd w g A len cap M) (hM : M ≤ M') : Rd w g A len cap M' := by
  obtain ⟨p, hp, hb⟩ := h.blk
  exact ⟨⟨p, by omega, hb⟩, h.byt, h.small⟩
/-- The reader stays as it is where its block and all below it stay. -/
theorem Rd.below {w w' : World} {g : Nat} {A : Option Addr} {len cap M B : Nat} (h : Rd w g A len cap M) (hb : Below B w w') (hB : g < B) : Rd w' g A len cap M := by
  obtain ⟨p, hp, hh⟩ := h.blk
  exact ⟨⟨p, hp, (hb.block g hB).trans hh⟩, h.byt.keep fun q hq => hb.cell (by omega), h.small⟩
theorem Rd.alloc {w : World} {g : Nat} {A : Option Addr} {len cap M : Nat} (h : Rd w g A len cap M) (o : Obj) : Rd (w.alloc o) g A len cap M :=
  h.below ((Below.refl w.heap.size w).alloc (Nat.le_refl _) o) h.lt
theorem Rd.drew {w : World} {g : Nat} {A : Option Addr} {len cap M : Nat} (h : Rd w g A len cap M) : Rd w.drew g A len cap M := ⟨h.blk, h.byt, h.small⟩
theorem Rd.drewN {w : World} {g : Nat} {A : Option Addr} {len cap M : Nat} (h : Rd w g A len cap M) (k : Nat) : Rd (w.drewN k) g A len cap M := ⟨h.blk, h.byt, h.small⟩
theorem Rd.setCell {w : World} {g : Nat} {A : Option Addr} {len cap M : Nat} (h : Rd w g A len cap M) {p : Addr} (hp : g < p.block) (u : Value) : Rd (w.setCell p u) g A len cap M :=
  h.below ((Below.refl (g + 1) w).setCell (by omega) u) (by omega)
theorem Rd.grown {w w' : World} {g : Nat} {A : Option Addr} {len cap M : Nat} {row : Option Nat} (h : Rd w g A len cap M) (hg : w.grownBy w' row) (hr : ∀ k, row = some k → g < k) : Rd w' g A len cap M :=
  h.below ((Below.refl (g + 1) w).grown hg (by have := h.lt; omega) (fun k hk => by have := hr k hk; omega)) (by omega)

/-- A step that turns, of what was there, block g alone. -/
theorem kp_step {w w1 w2 : World} {g : Nat} {row : Option Nat} (h : w.grownBy w1 (some g)) (k : w1.grownBy w2 row) (hr : ∀ b, row = some b → b = g ∨ w.heap.size ≤ b) : w.grownBy w2 (some g) :=
  ⟨k.os.trans h.os, k.tape.trans h.tape, k.output.trans h.output, Nat.le_trans h.size k.size, fun i hi hne =>
    (k.block i (Nat.lt_of_lt_of_le hi h.size) (fun e => by
      rcases hr i e.symm with rfl | h'
      · exact hne rfl
      · omega)).trans (h.block i hi hne)⟩
theorem kp_refl (w : World) (g : Nat) : w.grownBy w (some g) := World.grownBy.refl w _
theorem kp_alloc {w w1 : World} {g : Nat} (h : w.grownBy w1 (some g)) (o : Obj) : w.grownBy (w1.alloc o) (some g) := kp_step h (World.grownBy_alloc w1 o none) (fun _ e => by cases e)
theorem kp_below {w w1 w2 : World} {g : Nat} (h : w.grownBy w1 (some g)) (k : Below w1.heap.size w1 w2) : w.grownBy w2 (some g) :=
  kp_step h ⟨k.os, k.tape, k.output, k.size, fun i hi _ => k.block i hi⟩ (row := none) (fun _ e => by cases e)

/-- What pick leaves, said of the reader. -/
def PickQ (g : Nat) (A : Option Addr) (len cap M : Nat) (n : Int) (w : World) (e : Ending) (w' : World) : Prop :=
  ∃ r : Int, e = .returned (.int .i64 r) ∧ 0 ≤ r ∧ (1 ≤ n → r < n) ∧ (n < 1 → r = 0) ∧ Rd w' g A len cap (M + 1) ∧ w.grownBy w' (some g) ∧ w'.heap.size = w.heap.size

theorem frozen_cells {w : World} {g : Nat} {cs : Array Value} {t : TypeId} (h : w.heap[g]? = some (.cells cs t (0, 0))) (i : Nat) : w.frozen? ⟨g, i, none⟩ = false := by
  simp [World.frozen?, h]

/-- (*spec.l6Rd).pick. -/
theorem pick_any (g : Nat) (A : Option Addr) (len cap M : Nat) (n : Int) (w : World) (hr : Rd w g A len cap M) (hM : M ≤ 1000000) :
    Calls Try.prog 50 #[.pointer (some ⟨g, 0, none⟩), .int .i64 n] w (PickQ g A len cap M n w) := by
  obtain ⟨p, hp, hb⟩ := hr.blk
  have h0 : w.cell? ⟨g, 0, none⟩ = some (.slice A len cap) := by rw [cell_of_row w g 0 _ _ _ hb]; rfl
  have h1 : w.cell? ⟨g, 1, none⟩ = some (.int .i64 (p : Int)) := by rw [cell_of_row w g 1 _ _ _ hb]; rfl
  have hf := frozen_cells hb 1
  have fin : ∀ (e : Ending) (w' : World), PickP g p n w e w' → PickQ g A len cap M n w e w' := by
    rintro e w' ⟨r, he, r0, r1, r2, k, rfl⟩
    refine ⟨r, he, r0, r1, r2, ⟨⟨p + 1, by omega, ?_⟩, ?_, hr.small⟩, ?_, ?_⟩
    · show (w.setCell ⟨g, 1, none⟩ (.int .i64 ((p : Int) + 1))).heap[g]? = _
      rw [heap_setCell_same w g 1 _ _ _ hb]; rfl
    · exact hr.byt.keep fun q hq => World.cell?_setCell_other w ⟨g, 1, none⟩ q _ (fun e => by subst e; exact absurd hq (Nat.lt_irrefl _))
    · exact ⟨rfl, rfl, rfl, by show w.heap.size ≤ (w.setCell _ _).heap.size; simp [World.setCell], fun i _ hne => by
        show (w.setCell _ _).heap[i]? = _
        exact Below.heap_setCell w _ _ i (fun e => hne (by rw [e]))⟩
    · show (w.setCell _ _).heap.size = _
      simp [World.setCell]
  by_cases hn : n < 1
  · exact (pick_none g p n w hn (by omega) h1 hf).mono fin
  · by_cases hl : len = 0
    · subst hl
      exact (pick_empty g p cap A n w (by omega) (by omega) h0 h1 hf).mono fin
    · obtain ⟨b, o, rfl, hbg, hc⟩ := hr.byt (by omega)
      by_cases hpl : p < len
      · obtain ⟨u, hu, u0, u1⟩ := hc p hpl
        exact (pick_here g p b o len cap n u w (by omega) hpl hr.small (by omega) u0 u1 h0 h1 hf hu).mono fin
      · obtain ⟨u, hu, u0, u1⟩ := hc (p % len) (Nat.mod_lt _ (by omega))
        obtain ⟨v, hv, v0, v1⟩ := hc ((p * 7 + 3) % len) (Nat.mod_lt _ (by omega))
        exact (pick_mix g p b o len cap n u v w (by omega) (by omega) hr.small (by omega) (by omega) (by omega) u0 u1 v0 v1 h0 h1 hf hu hv).mono fin

/-! ### spec.l6Open -/
/-- A slice of bytes that came in: as the shells tell it. -/
def IsRow8 (w : World) (a : Option Addr) (len cap : Nat) (zs : List Int) : Prop :=
  (a = none ∧ len = 0 ∧ cap = 0 ∧ zs = []) ∨
  ∃ x, a = some x ∧ len ≤ cap ∧ cap ≤ maxLen ∧ zs.length = cap ∧ (∀ i, i < zs.length → w.cell? (x.add i) = some (.int .u8 (zs.getD i 0))) ∧ ∀ n ∈ zs, (Lit.int .u8 n).wf = true
theorem Byt.of_row {w : World} {a : Option Addr} {len cap : Nat} {zs : List Int} (h : IsRow8 w a len cap zs) : Byt w w.heap.size a len := by
  intro hl
  rcases h with ⟨_, h, _⟩ | ⟨x, rfl, hlc, _, hz, hc, hw⟩
  · omega
  · obtain ⟨b, o, spot⟩ := x
    have c0 := hc 0 (by omega)
    have hspot : spot = none := by simpa [Addr.add] using World.cell?_spot c0
    subst hspot
    have ha : ∀ i, (⟨b, o, none⟩ : Addr).add i = ⟨b, o + i, none⟩ := fun i => by unfold Addr.add; split <;> simp_all
    refine ⟨b, o, rfl, ?_, fun j hj => ?_⟩
    · have := World.block_lt_of_cell? w _ c0
      rw [ha] at this; exact this
    · have h1 := hc j (by omega)
      rw [ha] at h1
      refine ⟨_, h1, ?_⟩
      have hm : zs.getD j 0 ∈ zs := by
        rw [List.getD_eq_getElem?_getD, List.getElem?_eq_getElem (by omega), Option.getD_some]
        exact List.getElem_mem _
      have := hw _ hm
      exact bounds_u8 this
/-- What l6Open leaves. -/
def OpenQ (w : World) (e : Ending) (w' : World) : Prop :=
  ∃ (A : Option Addr) (len cap : Nat), e = .returned (.pointer (some ⟨w.heap.size, 0, none⟩)) ∧ Rd w' w.heap.size A len cap 0 ∧ Below w.heap.size w w' ∧ w'.heap.size = w.heap.size + 1
set_option maxHeartbeats 400000 in
theorem open_any (a : Option Addr) (len cap : Nat) (zs : List Int) (w : World) (h : IsRow8 w a len cap zs) :
    Calls Try.prog 48 #[.slice a len cap] w (OpenQ w) := by
  have hb := Byt.of_row h
  by_cases hl : 2000 < len
  · rcases h with ⟨_, h, _⟩ | ⟨x, rfl, hlc, hcm, hz, hc, hw⟩
    · omega
    · have hcm' : cap ≤ 9223372036854775807 := by simpa [maxLen] using hcm
      clear hc hw
      go_enter Try.func48, Try.ntmps48
      go_wp2
      go_ret
      exact ⟨some x, 2000, cap, rfl, ⟨⟨0, Nat.le_refl _, heap_alloc_new w _⟩, (hb.part (by omega)).keep fun q hq => World.cell?_alloc_lt w _ q hq, Nat.le_refl _⟩, (Below.refl _ _).alloc (Nat.le_refl _) _, by simp⟩
  · go_enter Try.func48, Try.ntmps48
    go_wp2
    go_ret
    exact ⟨a, len, cap, rfl, ⟨⟨0, Nat.le_refl _, heap_alloc_new w _⟩, hb.keep fun q hq => World.cell?_alloc_lt w _ q hq, by omega⟩, (Below.refl _ _).alloc (Nat.le_refl _) _, by simp⟩
end Go.Proofs.Ytpjiencegicjbaa
