/-
  'm[k]++' on a map of the call's own, whichever of the lookup and the entry comes first.
-/
import Derived.Test.YtpjiencegicjbaaRecode
import Derived.WideKeyEntry
namespace Go.Proofs.Ytpjiencegicjbaa
open Go.RowKit Go.Maps Go.WideElems Go.MapKept
open Go.ChangeMaps (setBlock heap_setBlock_same heap_setBlock_other)
open Go.WideMaps (KeyLaw)

theorem law_key : KeyLaw Try.prog 51 := deep_law_laid laid_out (m := Try.prog.types.size + 1) (by decide +kernel) (by decide +kernel) (by kernel_rfl) (by kernel_rfl)
section
variable {H : Type} {P : Program} {w : World} {t k e : TypeId} {R : Value → Option (DataW H × List MemPlace)} {b n : Nat} {es : Array MapEntry} {clock : Nat}
theorem set_set_block (w : World) (b : Nat) (o1 o2 : Obj) : setBlock (setBlock w b o1) b o2 = setBlock w b o2 := by simp [setBlock]
theorem entry_update (K : KeyLaw P k) (ht : P.underlying t = some (.map k e)) {z : Value} (hz : ∀ u : World, (zeroValue e).run P u = .ok z u) (hb : w.heap[b]? = some (.map es clock)) (F : Fit P k R es clock)
    {key : Value} {kl : Lit} (hkey : keyOf P k key = some kl) :
    ∃ (v0 : Value) (st : Nat) (w1 : World), (Instr.lookup t (.map (some b)) key false).run P w = .ok v0 w ∧ (Instr.mapEntry t (.map (some b)) key).run P w = .ok (.tuple #[v0, goInt st]) w1 ∧ (Instr.mapUpdate t (.map (some b)) key v0).run P w = .ok () w1 := by
  rcases K.find w hkey es.toList F.keys with ⟨h1, h2⟩ | ⟨j, e0, h1, h2, h3⟩
  · refine ⟨z, clock, setBlock w b (.map (es.push ⟨key, z, clock⟩) (clock + 1)), ?_, ?_, ?_⟩
    · simp [Instr.lookup, run_underlying ht, Go.MapKept.run_getObj_map hb, K.check w _ hkey, h1, hz, Result.andThen]
    · simp [Instr.mapEntry, run_underlying ht, Go.MapKept.run_getObj_map hb, K.check w false hkey, h1, hz, Go.MapKept.run_setObj_map _ hb, Result.andThen, setBlock]
    · simp [Instr.mapUpdate, run_underlying ht, Go.MapKept.run_getObj_map hb, K.check w false hkey, h1, Go.MapKept.run_setObj_map _ hb, Result.andThen, setBlock]
  · have hj : es[j]? = some e0 := by simpa using h2
    have hm : es.modify j (fun x => { x with key := key, val := e0.val }) = es.modify j (fun x => { x with key := key }) := by
      apply Array.ext_getElem?
      intro i
      rw [Array.getElem?_modify, Array.getElem?_modify]
      split
      · rename_i hij
        subst hij
        rw [hj]
        rfl
      · rfl
    refine ⟨e0.val, e0.born, setBlock w b (.map (es.modify j (fun x => { x with key := key })) clock), ?_, ?_, ?_⟩
    · simp [Instr.lookup, run_underlying ht, Go.MapKept.run_getObj_map hb, K.check w _ hkey, h1, Result.andThen]
    · simp [Instr.mapEntry, run_underlying ht, Go.MapKept.run_getObj_map hb, K.check w false hkey, h1, hj, h3, K.stays w hkey, Go.MapKept.run_setObj_map _ hb, Result.andThen, setBlock]
    · rw [← hm]
      simp [Instr.mapUpdate, run_underlying ht, Go.MapKept.run_getObj_map hb, K.check w false hkey, h1, hj, h3, K.stays w hkey, Go.MapKept.run_setObj_map _ hb, Result.andThen, setBlock]
/-- The three operations, in both orders. -/
theorem incr {D : DataW H} (K : KeyLaw P k) (ht : P.underlying t = some (.map k e)) (he : P.underlying e = some (.int .i64)) (hz : ∀ u : World, (zeroValue e).run P u = .ok (.int .i64 0) u) (h : w.ownsMap P k (plainElem P e) b n D) (hn : n < maxLen)
    {key : Value} {kl : Lit} (hkey : keyOf P k key = some kl) (hD : IsMap D) (hkl : WideAt.IsKeyLit kl) :
    ∃ (c : Int) (st : Nat) (w1 : World), D.atKey kl (.lit (.int .i64 0)) = .lit (.int .i64 c) ∧ (Lit.int .i64 c).wf = true ∧ (Instr.lookup t (.map (some b)) key false).run P w = .ok (.int .i64 c) w ∧
      (Instr.mapEntry t (.map (some b)) key).run P w = .ok (.tuple #[.int .i64 c, goInt st]) w1 ∧ (Instr.lookup t (.map (some b)) key false).run P w1 = .ok (.int .i64 c) w1 ∧ w.grownBy w1 (some b) ∧
      ∀ (v : Int), (Lit.int .i64 v).wf = true → ∃ w2, (Instr.entryStore t (.map (some b)) (goInt st) (.int .i64 v)).run P w1 = .ok () w2 ∧ w2.ownsMap P k (plainElem P e) b (n + 1) (D.put kl (.lit (.int .i64 v))) ∧ w.grownBy w2 (some b) := by
  have K' := Keyed.of_law K
  obtain ⟨es, clock, hb, F, hs, hDe⟩ := id h
  obtain ⟨c, hl, hat, hwf⟩ := h.lookup_int K' ht he (hz w) hkey
  obtain ⟨v0, st, w1, e1, e2, e3⟩ := entry_update K ht hz hb F hkey
  rw [hl] at e1
  injection e1 with e1 _
  subst e1
  obtain ⟨w1', e4, ho1, hg1⟩ := h.update K' ht hn hkey (plainElem_int he hwf)
  rw [e3] at e4
  injection e4 with _ e4
  subst e4
  obtain ⟨c1, hl1, hat1, _⟩ := ho1.lookup_int K' ht he (hz w1) hkey
  rw [Maps.atKey_put_same hD hkl] at hat1
  injection hat1 with hat1
  injection hat1 with _ hat1
  subst hat1
  refine ⟨c, st, w1, hat, hwf, hl, e2, hl1, hg1, fun v hv => ?_⟩
  obtain ⟨v0', st', es1, clock1, g1, _, g3⟩ := entry_then_store K ht hz hb F hkey
  rw [e2] at g1
  injection g1 with g1 g2
  injection g1 with g1
  obtain ⟨es', clock', g4, g5⟩ := g3 w1 (.int .i64 v) (by rw [g2]; exact heap_setBlock_same hb _)
  obtain ⟨w2, g6, ho2, hg2⟩ := h.update K' ht hn hkey (plainElem_int he hv)
  rw [g5] at g6
  injection g6 with _ g6
  have hst : goInt st = goInt st' := by
    have h9 : Value.int .i64 c = v0' ∧ goInt st = goInt st' := by
      have := congrArg Array.toList g1
      simpa using this
    exact h9.2
  refine ⟨w2, ?_, ho2, hg2⟩
  rw [hst, g4, g2, set_set_block, g6]
end
end Go.Proofs.Ytpjiencegicjbaa
