/-
  The walk of groupsOf: a map of the call's own that holds the counts of groups.
-/
import Derived.Test.YtpjiencegicjbaaEntry
import Derived.IntWalk
namespace Go.Proofs.Ytpjiencegicjbaa
open Go.RowKit Go.Maps
attribute [local go_sem ↓] Go.wp_at_zero Go.wp_at_succ

/-- People whose codes are small. -/
def Sml (qs : List Pn) : Prop := ∀ x ∈ qs, (0 ≤ x.area ∧ x.area ≤ 1000) ∧ (0 ≤ x.job ∧ x.job ≤ 1000) ∧ 0 ≤ x.sex ∧ x.sex ≤ 1000
abbrev GMap (w : World) (b n : Nat) (D : DataW Unit) : Prop := w.ownsMap Try.prog 51 (plainElem Try.prog 3) b n D
theorem gmap_below {w w' : World} {b n : Nat} {D : DataW Unit} (h : GMap w b n D) (hb : Below w.heap.size w w') : GMap w' b n D :=
  h.kept (row := none) ⟨hb.os, hb.tape, hb.output, hb.size, fun k hk _ => hb.block k hk⟩ (by simp)
theorem zero_int (u : World) : (zeroValue 3).run Try.prog u = .ok (.int .i64 0) u := by
  have hi : (Try.prog.info? 3).map (·.zero) = some (some (.int .i64 0)) := by kernel_rfl
  obtain ⟨i, h1, h2⟩ := Option.map_eq_some_iff.1 hi
  simp [zeroValue, typeInfo, h1, h2]
theorem box4 {w : World} {g : Nat} {a j s q : Int} (h : w.heap[g]? = some (pbox a j s q)) : w.cell? ⟨g, 0, none⟩ = some (.int .i64 a) ∧ w.cell? ⟨g, 1, none⟩ = some (.int .i64 j) ∧ w.cell? ⟨g, 2, none⟩ = some (.int .i64 s) ∧ w.cell? ⟨g, 3, none⟩ = some (.int .i64 q) :=
  ⟨by rw [cell_of_row w g 0 _ _ _ h]; rfl, by rw [cell_of_row w g 1 _ _ _ h]; rfl, by rw [cell_of_row w g 2 _ _ _ h]; rfl, by rw [cell_of_row w g 3 _ _ _ h]; rfl⟩
/-- What groupsOf leaves. -/
def GoQ (qs : List Pn) (w : World) (e : Ending) (w' : World) : Prop :=
  ∃ (b n : Nat) (D : DataW Unit), e = .returned (.map (some b)) ∧ w.heap.size ≤ b ∧ GMap w' b n D ∧ Cnt D qs ∧ Below w.heap.size w w'
set_option maxHeartbeats 4000000 in
/-- impl.groupsOf. -/
theorem gof_any (A : Option Addr) (n c : Nat) (qs : List Pn) (w : World) (hx : Recs pf 4 w w.heap.size A qs) (hn : qs.length = n) (hm : n ≤ 4194304) (hs : Sml qs) :
    Calls Try.prog 44 #[.slice A n c] w (GoQ qs w) := by
  have HN := Lib.hid hn
  have HSM := Lib.hid hs
  clear hn hs
  have hM0 : GMap (w.alloc (.map #[] 0)) w.heap.size 0 (.map []) := World.ownsMap_made w _ _ _
  have hmk : (Instr.makeMap 64 none).run Try.prog w = .ok (.map (some w.heap.size)) (w.alloc (.map #[] 0)) := run_makeMap _ _
  go_enter Try.func44, Try.ntmps44
  go_wp2_with fail
  go_loopw [9] (fun i wr => ∃ (k : Nat) (D : DataW Unit), k ≤ n ∧ i = .int .i64 (k : Int) ∧ GMap wr w.heap.size k D ∧ Hid (Cnt D (qs.take k)) ∧ Below w.heap.size w wr) (fun i _ => n - (intOf i).toNat)
  case atStart => exact ⟨0, _, by omega, rfl, hM0, Cnt.nil, below_one _ _⟩
  case round =>
    clear hM0
    obtain ⟨k, D, hk, rfl, hM, HC, hB⟩ := hrel
    by_cases hlt : k < n
    · obtain ⟨b, o, a, j, s, q, rfl, hbb, HX, c0, c1, c2, c3⟩ := ppl_at (hx.on hB) (k := k) (by have := HN.out; omega)
      obtain ⟨sa, sj, ss⟩ := HSM.out _ (mem_of_at HX.out)
      have HK := Lib.hid (key_has (p := ⟨a, j, s, q⟩) sa sj ss)
      clear sa sj ss
      have k0 : (0 : Int) ≤ (k : Int) := by omega
      have k1 : (k : Int) < (n : Int) := by omega
      have hwB : w.heap.size ≤ wr.heap.size := hB.size
      have hblt : w.heap.size < wr.heap.size := hM.lt
      go_wp2_with fail
      go_region_held3 (fun w' => w'.cell? ⟨wr.heap.size, 0, none⟩ = some (.int .i64 a) ∧ w'.cell? ⟨wr.heap.size, 1, none⟩ = some (.int .i64 j) ∧ w'.cell? ⟨wr.heap.size, 2, none⟩ = some (.int .i64 s) ∧ w'.cell? ⟨wr.heap.size, 3, none⟩ = some (.int .i64 q)) (go_keep)
        (first
          | (go_at_call 53
             have hX : Below wr.heap.size wr ((wr.alloc (pbox a j s q)).drew) := (below_one _ _).drew
             refine (group_t ⟨a, j, s, q⟩ _).mono ?_
             rintro e w3 ⟨rfl, hb3⟩
             have hY : Below wr.heap.size wr w3 := hX.trans (hb3.mono hX.size)
             have hM3 := gmap_below hM hY
             obtain ⟨cc, st, w4, hat, hwf, hl, hme, hl2, hg1, hst⟩ := incr law_key Try.underlying64 Try.underlying3 zero_int hM3 (by simp only [maxLen]; omega) HK.out hM3.isMap trivial
             have hcc := HC.out.at hat
             have hcl := cnt_le (qs.take k) (kl ⟨a, j, s, q⟩)
             rw [List.length_take] at hcl
             have hw : IntKind.i64.wrap (cc + 1) = cc + 1 := IntWalk.i64_in _ (by omega)
             obtain ⟨w5, hes, hM5, hg2⟩ := hst (cc + 1) (WalkArith.wf_i64 (by omega))
             rw [show goInt (st : Int) = .int .i64 (st : Int) from rfl] at hme hes
             have hp3 : w3.heap[wr.heap.size]? = some (pbox a j s q) := (hb3.block wr.heap.size (by simp)).trans (heap_alloc_new wr _)
             have hp4 : w4.heap[wr.heap.size]? = some (pbox a j s q) := (hg1.block wr.heap.size (Array.getElem?_eq_some_iff.1 hp3).1 (by simp; omega)).trans hp3
             have hp5 : w5.heap[wr.heap.size]? = some (pbox a j s q) := (hg2.block wr.heap.size (Array.getElem?_eq_some_iff.1 hp3).1 (by simp; omega)).trans hp3
             obtain ⟨x0, x1, x2, x3⟩ := box4 hp3
             obtain ⟨y0, y1, y2, y3⟩ := box4 hp4
             obtain ⟨z0, z1, z2, z3⟩ := box4 hp5
             have HN5 := Lib.hid (hcc ▸ HC.out.next hM3.isMap trivial HX.out : Cnt (D.put (kl ⟨a, j, s, q⟩) (.lit (.int .i64 (cc + 1)))) (qs.take (k + 1)))
             have hB5 : Below w.heap.size w w5 := (hB.trans (hY.mono hB.size)).grown hg2 (Nat.le_trans hB.size hY.size) (fun x e => by injection e with e; omega)
             clear hp3 hp4 hp5 hg1 hg2 hcc hcl hat hwf hX hb3
             clear hst))
      all_goals
        go_wp2_with fail
        go_roundw
        case rel => exact ⟨k + 1, _, by omega, by go_num, hM5, HN5, hB5⟩
        case measure => simp [intOf]; omega
    · have HE := Lib.hid (show qs.take k = qs from List.take_of_length_le (by have := HN.out; omega))
      rw [HE.out] at HC
      go_wp2_with fail
      go_ret
      exact ⟨_, k, D, rfl, Nat.le_refl _, hM, HC.out, hB⟩
end Go.Proofs.Ytpjiencegicjbaa
