/-
  Groups of recoded people: RecodePeople without a ladder, groupsOf, GroupLeast, GroupMany; what they return hangs on the counts of the groups alone.
-/
import Derived.Test.YtpjiencegicjbaaDo
import Derived.Test.YtpjiencegicjbaaOpen
import Derived.Maps.OwnOps
import Derived.Maps.OwnSet
import Derived.Maps.RangeWalk
import Derived.Maps.Ext
import Derived.DeepKeys4
import Derived.MapViews
namespace Go.Proofs.Ytpjiencegicjbaa
open Go.RowKit Go.Maps
attribute [local go_sem ↓] Go.wp_at_zero Go.wp_at_succ

/-- A person recoded. -/
def rcd (rj rs : Int) (p : Pn) : Pn := ⟨p.area, p.job * (1 - rj), p.sex * (1 - rs), p.pay⟩
/-- The key of a person's group, as a value. -/
def kv (p : Pn) : Value := .agg #[.int .i64 p.area, .int .i64 p.job, .int .i64 p.sex, .int .i64 0]
/-- .. and as a datum. -/
def kb (p : Pn) : List UInt8 := keyBytes [.int .i64 p.area, .int .i64 p.job, .int .i64 p.sex, .int .i64 0]
def kl (p : Pn) : Lit := .string (kb p)
theorem laid_out : laidOutB Try.prog = true := by kernel_rfl
theorem key_law : Keyed Try.prog 51 := Keyed.of_law (deep_law_laid laid_out (m := Try.prog.types.size + 1) (by decide +kernel) (by decide +kernel) (by kernel_rfl) (by kernel_rfl))
theorem key_type : Try.prog.keyType 51 = true := by kernel_rfl
theorem key_formed (p : Pn) : (kv p).formed Try.prog 51 = true := rfl
theorem wf_small {x : Int} (h0 : -1000 ≤ x) (h1 : x ≤ 1000) : (Lit.int .i64 x).wf = true := WalkArith.wf_i64 (by omega)
theorem keyLit1 {P : Program} {ti : TypeId} {m : Nat} {n : Int} (hi : P.underlying ti = some (.int .i64)) (hw : (Lit.int .i64 n).wf = true) : P.keyLits (m + 1) ti [.int .i64 n] = some [.int .i64 n] := by
  unfold Program.keyLits
  rw [hi]
  exact if_pos ⟨rfl, hw⟩
theorem keyLits4 {P : Program} {t ti : TypeId} {fs : Array Field} {f0 f1 f2 f3 : Field} {m : Nat} {a j s q : Int} (hu : P.underlying t = some (.struct fs)) (hi : P.underlying ti = some (.int .i64)) (hfs : fs.toList = [f0, f1, f2, f3]) (hall : fs.all (·.name != "_") = true)
    (t0 : f0.type = ti) (t1 : f1.type = ti) (t2 : f2.type = ti) (t3 : f3.type = ti) (o0 : f0.offset = 0) (o1 : f1.offset = 1) (o2 : f2.offset = 2) (o3 : f3.offset = 3) (c4 : P.cellsOf t = 4) (c1 : P.cellsOf ti = 1)
    (wa : (Lit.int .i64 a).wf = true) (wj : (Lit.int .i64 j).wf = true) (ws : (Lit.int .i64 s).wf = true) (wq : (Lit.int .i64 q).wf = true) :
    P.keyLits (m + 2) t [.int .i64 a, .int .i64 j, .int .i64 s, .int .i64 q] = some [.int .i64 a, .int .i64 j, .int .i64 s, .int .i64 q] := by
  have k0 := keyLit1 (m := m) hi wa
  have k1 := keyLit1 (m := m) hi wj
  have k2 := keyLit1 (m := m) hi ws
  have k3 := keyLit1 (m := m) hi wq
  unfold Program.keyLits
  rw [hu]
  simp only []
  rw [if_pos ⟨by rw [c4]; rfl, hall⟩, hfs]
  simp only [List.mapM_cons, List.mapM_nil, t0, t1, t2, t3, o0, o1, o2, o3, c1, List.drop_zero, List.drop_succ_cons, List.take_succ_cons, List.take_zero, k0, k1, k2, k3]
  rfl
theorem key_has {p : Pn} (ha : 0 ≤ p.area ∧ p.area ≤ 1000) (hj : 0 ≤ p.job ∧ p.job ≤ 1000) (hs : 0 ≤ p.sex ∧ p.sex ≤ 1000) : keyOf Try.prog 51 (kv p) = some (kl p) := by
  have w1 := wf_small (x := p.area) (by omega) (by omega)
  have w2 := wf_small (x := p.job) (by omega) (by omega)
  have w3 := wf_small (x := p.sex) (by omega) (by omega)
  have w0 := wf_small (x := 0) (by omega) (by omega)
  have h1 : 1 ≤ Try.prog.types.size := of_decide_eq_true (by kernel_rfl)
  obtain ⟨m, hm⟩ : ∃ m, Try.prog.types.size + 1 = m + 2 := ⟨Try.prog.types.size - 1, by omega⟩
  have hl := keyLits4 (m := m) Try.underlying51 Try.underlying3 rfl (by kernel_rfl) rfl rfl rfl rfl rfl rfl rfl rfl (by kernel_rfl) (by kernel_rfl) w1 w2 w3 w0
  rw [← hm] at hl
  have hc : (kv p).cells.toList = [.int .i64 p.area, .int .i64 p.job, .int .i64 p.sex, .int .i64 0] := rfl
  unfold keyOf
  rw [Try.underlying51 ]
  simp only []
  rw [if_pos (by rw [key_type, key_formed]; rfl), hc, hl]
  rfl
/-- A person is in a group. -/
def kq (k : Lit) (q : Pn) : Bool := match k with | .string s => kb q == s | _ => false
theorem kq_self (q : Pn) : kq (kl q) q = true := by simp [kq, kl]
theorem kq_ne {k : Lit} {q : Pn} (h : kl q ≠ k) : kq k q = false := by
  rw [← Bool.not_eq_true]
  intro e
  apply h
  cases k <;> simp [kq] at e
  rw [kl, e]
/-- How many people are in a group. -/
def cnt (qs : List Pn) (k : Lit) : Nat := qs.countP (kq k)
theorem cnt_same {qs : List Pn} {i : Nat} {x : Pn} (hi : qs[i]? = some x) : cnt (qs.take (i + 1)) (kl x) = cnt (qs.take i) (kl x) + 1 := by
  unfold cnt
  rw [take_next hi, List.countP_append, List.countP_singleton, if_pos (kq_self x)]
theorem cnt_other {qs : List Pn} {i : Nat} {x : Pn} (hi : qs[i]? = some x) {k : Lit} (h : k ≠ kl x) : cnt (qs.take (i + 1)) k = cnt (qs.take i) k := by
  unfold cnt
  rw [take_next hi, List.countP_append, List.countP_singleton, kq_ne (fun e => h e.symm)]; rfl
theorem cnt_le (qs : List Pn) (k : Lit) : cnt qs k ≤ qs.length := List.countP_le_length
/-- A map holds the counts of groups. -/
def Cnt (D : DataW Unit) (qs : List Pn) : Prop := ∀ k, Maps.has D k = decide (0 < cnt qs k) ∧ (Maps.has D k = true → ∀ z, D.atKey k z = .lit (.int .i64 (cnt qs k : Nat)))
theorem Cnt.nil : Cnt (.map []) [] := fun k => ⟨rfl, fun h => by cases h⟩
theorem Cnt.at {D : DataW Unit} {qs : List Pn} (h : Cnt D qs) {k : Lit} {c : Int} (hat : D.atKey k (.lit (.int .i64 0)) = .lit (.int .i64 c)) : c = (cnt qs k : Nat) := by
  obtain ⟨h1, h2⟩ := h k
  cases hh : Maps.has D k
  · rw [Maps.atKey_of_not_has hh] at hat
    injection hat with hat
    injection hat with _ hat
    rw [hh] at h1
    have : ¬ 0 < cnt qs k := by simpa using h1.symm
    omega
  · rw [h2 hh] at hat
    injection hat with hat
    injection hat with _ hat
    exact hat.symm
theorem Cnt.next {D : DataW Unit} {qs : List Pn} {i : Nat} {x : Pn} (h : Cnt D (qs.take i)) (hm : IsMap D) (hk : WideAt.IsKeyLit (kl x)) (hi : qs[i]? = some x) : Cnt (D.put (kl x) (.lit (.int .i64 ((cnt (qs.take i) (kl x) : Nat) + 1 : Int)))) (qs.take (i + 1)) := by
  intro k
  by_cases e : k = kl x
  · subst e
    rw [cnt_same hi]
    refine ⟨by rw [Maps.has_put_same hm hk]; simp, fun _ z => ?_⟩
    rw [Maps.atKey_put_same hm hk]
    rfl
  · rw [cnt_other hi e, Maps.has_put_other e]
    refine ⟨(h k).1, fun hh z => ?_⟩
    rw [Maps.atKey_put_other e]
    exact (h k).2 hh z
/-- Two maps of the same counts are one. -/
theorem Cnt.one {D1 D2 : DataW Unit} {xs ys : List Pn} (h1 : Cnt D1 xs) (h2 : Cnt D2 ys) (c1 : Canon D1) (c2 : Canon D2) (he : ∀ k, cnt xs k = cnt ys k) : D1 = D2 :=
  Maps.ext c1 c2 (fun k => by rw [(h1 k).1, (h2 k).1, he]) (fun k z hh => by
    have h2' : Maps.has D2 k = true := by rw [(h2 k).1, ← he, ← (h1 k).1]; exact hh
    rw [(h1 k).2 hh, (h2 k).2 h2', he])
/-- The least group. -/
def LeastP (qs : List Pn) (L : Int) : Prop := L ≤ qs.length ∧ (∀ k, 0 < cnt qs k → L ≤ (cnt qs k : Nat)) ∧ (L = qs.length ∨ ∃ k, 0 < cnt qs k ∧ L = (cnt qs k : Nat))
theorem least_one {xs ys : List Pn} {L M : Int} (hl : xs.length = ys.length) (he : ∀ k, cnt xs k = cnt ys k) (h1 : LeastP xs L) (h2 : LeastP ys M) : L = M := by
  obtain ⟨a1, a2, a3⟩ := h1
  obtain ⟨b1, b2, b3⟩ := h2
  have ha : L ≤ M := by
    rcases b3 with h | ⟨k, h, h'⟩
    · omega
    · have := a2 k (by rw [he]; exact h)
      rw [he] at this; omega
  have hb : M ≤ L := by
    rcases a3 with h | ⟨k, h, h'⟩
    · omega
    · have := b2 k (by rw [← he]; exact h)
      rw [← he] at this; omega
  omega
/-- A swap keeps the counts of groups. -/
theorem cnt_sw {ps : List Pn} {a b : Int} (h : soP ps a b) (rj rs : Int) (k : Lit) : cnt ((sw ps a.toNat b.toNat).map (rcd rj rs)) k = cnt (ps.map (rcd rj rs)) k := by
  unfold cnt
  rw [List.countP_map, List.countP_map]
  refine count_sw h _ fun p p' h1 h2 h3 => ?_
  have e : kb (rcd rj rs p) = kb (rcd rj rs p') := by simp only [kb, rcd, h1, h2, h3]
  simp only [Function.comp, kq, e]
end Go.Proofs.Ytpjiencegicjbaa
