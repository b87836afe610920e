/-
  laws.sameLedger at two ledgers that read alike: true; and words for the laws that ask.
-/
import Derived.Test.YtllnmgadaodieaaLawS
import Derived.IntWalk
namespace Go.Proofs.Ytllnmgadaodieaa
open Go.RowKit
attribute [local go_sem ↓] Go.wp_at_zero Go.wp_at_succ

set_option maxHeartbeats 1000000 in
theorem same_t (b : Int) (D1 D2 : Option Addr) (n c1 c2 : Nat) (es : List (Int × Int)) (w : World) (hx1 : Recs ef 2 w w.heap.size D1 es) (hx2 : Recs ef 2 w w.heap.size D2 es) (hn : es.length = n) (hm : n ≤ 4194304) :
    Calls Try.prog 27 #[.agg #[.int .i64 b, .slice D1 n c1], .agg #[.int .i64 b, .slice D2 n c2]] w fun e w' => e = .returned (.bool true) ∧ Below w.heap.size w w' := by
  have HN := Lib.hid hn
  clear hn
  have hb0 := box2 w (.cells #[.int .i64 b, .slice D1 n c1] 25) (.cells #[.int .i64 b, .slice D2 n c2] 25)
  go_enter Try.func27, Try.ntmps27
  go_wp2_with fail
  go_loopw [5] (fun i wr => ∃ k : Nat, k ≤ n ∧ i = .int .i64 (k : Int) ∧ Below (w.heap.size + 2) ((w.alloc (.cells #[.int .i64 b, .slice D1 n c1] 25)).alloc (.cells #[.int .i64 b, .slice D2 n c2] 25)) wr) (fun i _ => n - (intOf i).toNat)
  case atStart => exact ⟨0, by omega, rfl, Below.refl _ _⟩
  case round =>
    obtain ⟨k, hk, rfl, hB⟩ := hrel
    obtain ⟨hc, hf⟩ := bcell hB
    have y0 : wr.cell? ⟨w.heap.size, 1, none⟩ = some (.slice D1 n c1) := by rw [hc _ _ (by omega)]; simp
    have y1 : wr.cell? ⟨w.heap.size + 1, 1, none⟩ = some (.slice D2 n c2) := by rw [hc _ _ (by omega)]; simp
    have hbw : Below w.heap.size w wr := hb0.trans (hB.mono (by omega))
    clear hc hf
    by_cases hlt : k < n
    · obtain ⟨ob, o, p, q, rfl, hbb, HX, hc1, hc2⟩ := ents_at (hx1.on hbw) (k := k) (by have := HN.out; omega)
      obtain ⟨ob', o', p', q', rfl, hbb', HX', hc3, hc4⟩ := ents_at (hx2.on hbw) (k := k) (by have := HN.out; omega)
      obtain ⟨rfl, rfl⟩ : p = p' ∧ q = q' := by
        have h := HX.out
        rw [HX'.out] at h
        injection h with h
        injection h with h1 h2
        exact ⟨h1.symm, h2.symm⟩
      have i1 : (0 : Int) ≤ (k : Int) := by omega
      have i2 : (k : Int) < (n : Int) := by omega
      go_wp2_with fail
      go_quiet (fail)
      go_wp2_with fail
      go_roundw
      case rel => exact ⟨k + 1, by omega, by go_num, below_drewN hB _⟩
      case measure => simp [intOf]; omega
    · go_wp2_with fail
      go_ret
      exact ⟨rfl, hbw⟩
theorem ask_any (b : Int) (A : Option Addr) (n c : Nat) (es : List (Int × Int)) (p q : Int) (w : World) (hx : Recs ef 2 w w.heap.size A es) (hn : es.length = n) (hm : n ≤ 2097152) :
    Calls Try.prog 24 #[.agg #[.int .i64 b, .slice A n c], .int .i64 p, .int .i64 q] w (AskAny b n w) := by
  have no : ∀ (e : Ending) (w' : World), e = .returned (.tuple #[.agg #[.int .i64 0, .slice none 0 0], .bool false]) ∧ Below w.heap.size w w' → AskAny b n w e w' := by
    rintro e w' ⟨rfl, hb⟩
    exact ⟨0, none, 0, 0, [], false, rfl, (fun h => by cases h), by omega, rfl, World.ownsRow_nil _ _ _ _, hb⟩
  cases hv : ldB b es
  · exact (ask_n b A n c es p q w hx hn hm hv).mono no
  · cases hv2 : ldB b (es ++ [(p, q)])
    · exact (ask_f b A n c es p q w hx hn hm hv hv2).mono no
    · refine (ask_t b A n c es p q w hx hn hm hv hv2).mono ?_
      rintro e w' ⟨D, n', c', rfl, hn', hown, hb⟩
      have hn' := hn'.out
      exact ⟨b, D, n', c', es ++ [(p, q)], true, rfl, fun _ => rfl, by omega, by show (es ++ [(p, q)]).length = n'; simp; omega, hown, hb⟩
/-- Two ledgers in blocks k3 and k6, and what they read as. -/
structure AF (k3 k6 : Nat) (b : Int) (D : Option Addr) (n c : Nat) (es : List (Int × Int)) (b1 : Int) (D1 : Option Addr) (n1 c1 : Nat) (es1 : List (Int × Int)) (w : World) : Prop where
  p0 : w.cell? ⟨k3, 0, none⟩ = some (.int .i64 b)
  p1 : w.cell? ⟨k3, 1, none⟩ = some (.slice D n c)
  q0 : w.cell? ⟨k6, 0, none⟩ = some (.int .i64 b1)
  q1 : w.cell? ⟨k6, 1, none⟩ = some (.slice D1 n1 c1)
  hx : Recs ef 2 w w.heap.size D es
  hy : Recs ef 2 w w.heap.size D1 es1
section
variable {k3 k6 : Nat} {b b1 : Int} {D D1 : Option Addr} {n c n1 c1 : Nat} {es es1 : List (Int × Int)} {w w' : World}
theorem AF.on (h : AF k3 k6 b D n c es b1 D1 n1 c1 es1 w) (hb : Below w.heap.size w w') : AF k3 k6 b D n c es b1 D1 n1 c1 es1 w' :=
  ⟨(hb.cell (World.block_lt_of_cell? _ _ h.p0)).trans h.p0, (hb.cell (World.block_lt_of_cell? _ _ h.p1)).trans h.p1, (hb.cell (World.block_lt_of_cell? _ _ h.q0)).trans h.q0, (hb.cell (World.block_lt_of_cell? _ _ h.q1)).trans h.q1, h.hx.on hb, h.hy.on hb⟩
theorem AF.drew (h : AF k3 k6 b D n c es b1 D1 n1 c1 es1 w) : AF k3 k6 b D n c es b1 D1 n1 c1 es1 w.drew := h.on (Below.refl _ _).drew
theorem AF.alloc (h : AF k3 k6 b D n c es b1 D1 n1 c1 es1 w) (o : Obj) : AF k3 k6 b D n c es b1 D1 n1 c1 es1 (w.alloc o) := h.on ((Below.refl _ _).alloc (Nat.le_refl _) o)
end
end Go.Proofs.Ytllnmgadaodieaa
