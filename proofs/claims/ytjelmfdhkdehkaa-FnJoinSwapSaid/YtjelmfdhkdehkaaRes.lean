/-
  LedgerAsk, the program's and the reference's, at whatever arguments: one result for each question.
-/
import Derived.Test.YtjelmfdhkdehkaaAskS
namespace Go.Proofs.Ytjelmfdhkdehkaa
open Go.RowKit

/-- What LedgerAsk returns: a budget, entries, and whether the question was answered. -/
def askR (b : Int) (es : List (Int × Int)) (p q : Int) : Int × List (Int × Int) × Bool := if (ldB b es && ldB b (es ++ [(p, q)])) = true then (b, es ++ [(p, q)], true) else (0, [], false)
/-- What LedgerJoin returns. -/
def joinR (a : Int) (es : List (Int × Int)) (b : Int) (fs : List (Int × Int)) : Int × List (Int × Int) × Bool := if (ldB a es && ldB b fs && ldB (min a b) (es ++ fs)) = true then (min a b, es ++ fs, true) else (0, [], false)
theorem askR_len {b : Int} {es : List (Int × Int)} {p q rb : Int} {rs : List (Int × Int)} {ok : Bool} (h : askR b es p q = (rb, rs, ok)) : rs.length ≤ 40 := by
  unfold askR at h
  split at h
  · rename_i h1
    rw [Bool.and_eq_true, ldB_iff, ldB_iff] at h1
    injection h with _ h
    injection h with h _
    subst h
    exact h1.2.2.2.1
  · injection h with _ h
    injection h with h _
    subst h
    simp
theorem joinR_len {a : Int} {es : List (Int × Int)} {b rb : Int} {fs rs : List (Int × Int)} {ok : Bool} (h : joinR a es b fs = (rb, rs, ok)) : rs.length ≤ 40 := by
  unfold joinR at h
  split at h
  · rename_i h1
    rw [Bool.and_eq_true, ldB_iff (es := es ++ fs)] at h1
    injection h with _ h
    injection h with h _
    subst h
    exact h1.2.2.2.1
  · injection h with _ h
    injection h with h _
    subst h
    simp
/-- A ledger of one's own and a word on it are left. -/
def ResQ (rb : Int) (rs : List (Int × Int)) (nr : Nat) (ok : Bool) (w : World) (e : Ending) (w' : World) : Prop :=
  ∃ (D : Option Addr) (c : Nat), e = .returned (.tuple #[.agg #[.int .i64 rb, .slice D nr c], .bool ok]) ∧ w'.ownsRow w.heap.size 52 2 (.slice D nr c) nr (flat ef rs) ∧ Below w.heap.size w w'
theorem resQ_no {w w' : World} {e : Ending} (h : e = .returned (.tuple #[.agg #[.int .i64 0, .slice none 0 0], .bool false]) ∧ Below w.heap.size w w') : ResQ 0 [] 0 false w e w' :=
  ⟨none, 0, h.1, World.ownsRow_nil _ _ _ _, h.2⟩
theorem ask_r' {f : FuncId} (b : Int) (A : Option Addr) (n c : Nat) (es : List (Int × Int)) (p q : Int) (w : World)
    (kn : ldB b es = false → Calls Try.prog f #[.agg #[.int .i64 b, .slice A n c], .int .i64 p, .int .i64 q] w fun e w' => e = .returned (.tuple #[(.agg #[.int .i64 0, .slice none 0 0]), .bool false]) ∧ Below w.heap.size w w')
    (kf : ldB b es = true → ldB b (es ++ [(p, q)]) = false → Calls Try.prog f #[.agg #[.int .i64 b, .slice A n c], .int .i64 p, .int .i64 q] w fun e w' => e = .returned (.tuple #[(.agg #[.int .i64 0, .slice none 0 0]), .bool false]) ∧ Below w.heap.size w w')
    (kt : ldB b es = true → ldB b (es ++ [(p, q)]) = true → Calls Try.prog f #[.agg #[.int .i64 b, .slice A n c], .int .i64 p, .int .i64 q] w (AskQ b es p q w))
    {rb : Int} {rs : List (Int × Int)} {nr : Nat} {ok : Bool} (hR : askR b es p q = (rb, rs, ok)) (hnr : rs.length = nr) :
    Calls Try.prog f #[.agg #[.int .i64 b, .slice A n c], .int .i64 p, .int .i64 q] w (ResQ rb rs nr ok w) := by
  subst hnr
  unfold askR at hR
  cases h1 : ldB b es
  · rw [h1] at hR
    obtain ⟨rfl, rfl, rfl⟩ : 0 = rb ∧ [] = rs ∧ false = ok := by simpa using hR
    exact (kn h1).mono fun e w' h => resQ_no h
  · cases h2 : ldB b (es ++ [(p, q)])
    · rw [h1, h2] at hR
      obtain ⟨rfl, rfl, rfl⟩ : 0 = rb ∧ [] = rs ∧ false = ok := by simpa using hR
      exact (kf h1 h2).mono fun e w' h => resQ_no h
    · rw [h1, h2] at hR
      obtain ⟨rfl, rfl, rfl⟩ : b = rb ∧ es ++ [(p, q)] = rs ∧ true = ok := by simpa using hR
      refine (kt h1 h2).mono ?_
      rintro e w' ⟨D, n', c', rfl, hn', hown, hb⟩
      have hn' := hn'.out
      have e1 : n' = (es ++ [(p, q)]).length := by simp; omega
      subst e1
      exact ⟨D, c', rfl, hown, hb⟩
theorem ask_r (b : Int) (A : Option Addr) (n c : Nat) (es : List (Int × Int)) (p q : Int) (w : World) (hx : Recs ef 2 w w.heap.size A es) (hn : es.length = n) (hm : n ≤ 2097152)
    {rb : Int} {rs : List (Int × Int)} {nr : Nat} {ok : Bool} (hR : askR b es p q = (rb, rs, ok)) (hnr : rs.length = nr) :
    Calls Try.prog 25 #[.agg #[.int .i64 b, .slice A n c], .int .i64 p, .int .i64 q] w (ResQ rb rs nr ok w) :=
  ask_r' b A n c es p q w (ask_n b A n c es p q w hx hn hm) (ask_f b A n c es p q w hx hn hm) (ask_t b A n c es p q w hx hn hm) hR hnr
theorem sask_r (b : Int) (A : Option Addr) (n c : Nat) (es : List (Int × Int)) (p q : Int) (w : World) (hx : Recs ef 2 w w.heap.size A es) (hn : es.length = n) (hm : n ≤ 2097152)
    {rb : Int} {rs : List (Int × Int)} {nr : Nat} {ok : Bool} (hR : askR b es p q = (rb, rs, ok)) (hnr : rs.length = nr) :
    Calls Try.prog 24 #[.agg #[.int .i64 b, .slice A n c], .int .i64 p, .int .i64 q] w (ResQ rb rs nr ok w) :=
  ask_r' b A n c es p q w (sask_n b A n c es p q w hx hn hm) (sask_f b A n c es p q w hx hn hm) (sask_t b A n c es p q w hx hn hm) hR hnr
end Go.Proofs.Ytjelmfdhkdehkaa
