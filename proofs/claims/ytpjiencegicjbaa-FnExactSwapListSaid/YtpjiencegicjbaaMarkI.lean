/-
  The walks of markIntS and markIntSS at rows of one's own; what they leave as it was.
-/
import Derived.Test.YtpjiencegicjbaaToI
import Derived.Test.YtpjiencegicjbaaTo
namespace Go.Proofs.Ytpjiencegicjbaa
open Go.RowKit
attribute [local go_sem ↓] Go.wp_at_zero Go.wp_at_succ

theorem IBl.store {w : World} {b i : Nat} {ys : List Int} (h : IBl w b ys) (x : Int) : IBl (w.setCell ⟨b, i, none⟩ (.int .i64 x)) b (ys.set i x) := by
  unfold IBl at h ⊢
  rw [heap_setCell_same w b i _ _ (Value.int .i64 x) h]
  simp [List.map_set]
theorem IBl.grown {w w' : World} {b : Nat} {xs : List Int} {row : Option Nat} (h : IBl w b xs) (hg : w.grownBy w' row) (hne : row ≠ some b) : IBl w' b xs := (hg.block b h.lt (fun e => hne e.symm)).trans h
theorem IBl.cell {w : World} {b i : Nat} {ys : List Int} (h : IBl w b ys) (hi : i < ys.length) : ∃ u, w.cell? ⟨b, i, none⟩ = some u := by
  rw [cell_of_row w b i _ _ _ h]; exact ⟨_, Array.getElem?_eq_getElem (by simpa using hi)⟩
theorem IBl.free {w : World} {b : Nat} {ys : List Int} (h : IBl w b ys) (i : Nat) : w.frozen? ⟨b, i, none⟩ = false := by unfold IBl at h; simp [World.frozen?, h]
theorem grow1 (W : World) (k i : Nat) (u : Value) : W.grownBy (W.setCell ⟨k, i, none⟩ u) (some k) := ⟨rfl, rfl, rfl, by simp [World.setCell], fun j _ hne => Below.heap_setCell W _ _ j (fun e => hne (by rw [e]))⟩
/-- What markIntS leaves. -/
def MiQ (b n : Nat) (k : Int) (w : World) (e : Ending) (w' : World) : Prop := ∃ ys : List Int, e = .returned (.int .i64 (k + n)) ∧ Hid (ys.length = n) ∧ IBl w' b ys ∧ w.grownBy w' (some b)
set_option maxHeartbeats 1000000 in
/-- laws.markIntS. -/
theorem mki_any (b n c : Nat) (ys : List Int) (k : Int) (w : World) (h : IBl w b ys) (hn : ys.length = n) (hm : n ≤ 1048576) (k0 : 0 ≤ k) (k1 : k ≤ 16777216) :
    Calls Try.prog 41 #[.slice (some ⟨b, 0, none⟩) n c, .int .i64 k] w (MiQ b n k w) := by
  have HN := Lib.hid hn
  clear hn
  go_enter Try.func41, Try.ntmps41
  go_wp2_with fail
  go_loopw [1, 5] (fun v i wr => ∃ (t : Nat) (ys : List Int), t ≤ n ∧ i = .int .i64 (t : Int) ∧ v = .int .i64 (k + t) ∧ Hid (ys.length = n) ∧ IBl wr b ys ∧ w.grownBy wr (some b)) (fun _ i _ => n - (intOf i).toNat)
  case atStart => exact ⟨0, ys, by omega, rfl, by simp, HN, h, World.grownBy.refl w _⟩
  case round =>
    clear h HN
    obtain ⟨t, ys, ht, rfl, rfl, HN, h, hg⟩ := hrel
    by_cases hlt : t < n
    · obtain ⟨u, hc⟩ := h.cell (i := t) (by have := HN.out; omega)
      have hf := h.free t
      have hS := h.store (i := t) (k + t)
      have hG := hg.trans (grow1 wr b t (.int .i64 (k + t)))
      have HN2 : Hid ((ys.set t (k + t)).length = n) := by show _ = _; rw [List.length_set]; exact HN.out
      have i1 : (0 : Int) ≤ (t : Int) := by omega
      have i2 : (t : Int) < (n : Int) := by omega
      clear h hg
      go_wp2_with fail
      go_roundw
      case rel => exact ⟨t + 1, _, by omega, by go_num, by go_num, HN2, hS, hG⟩
      case measure => simp [intOf]; omega
    · obtain rfl : t = n := by omega
      go_wp2_with fail
      go_ret
      exact ⟨ys, rfl, HN, h, hg⟩
/-- Blocks from lo to hi alone have turned. -/
structure OnlyIn (lo hi : Nat) (w w' : World) : Prop where
  os : w'.os = w.os
  tape : w'.tape = w.tape
  output : w'.output = w.output
  size : w.heap.size ≤ w'.heap.size
  block : ∀ k, k < w.heap.size → (k < lo ∨ hi ≤ k) → w'.heap[k]? = w.heap[k]?
theorem OnlyIn.refl (lo hi : Nat) (w : World) : OnlyIn lo hi w w := ⟨rfl, rfl, rfl, Nat.le_refl _, fun _ _ _ => rfl⟩
theorem OnlyIn.grown {lo hi b : Nat} {w w1 w2 : World} (h : OnlyIn lo hi w w1) (hg : w1.grownBy w2 (some b)) (h1 : lo ≤ b) (h2 : b < hi) : OnlyIn lo hi w w2 :=
  ⟨hg.os.trans h.os, hg.tape.trans h.tape, hg.output.trans h.output, Nat.le_trans h.size hg.size, fun k hk ho => (hg.block k (Nat.lt_of_lt_of_le hk h.size) (fun e => by injection e; omega)).trans (h.block k hk ho)⟩
theorem OnlyIn.below {lo hi B : Nat} {w w' : World} (h : OnlyIn lo hi w w') (hB : B ≤ lo) (hz : B ≤ w.heap.size) : Below B w w' := ⟨h.os, h.tape, h.output, h.size, fun k hk => h.block k (by omega) (.inl (by omega))⟩
theorem own_only {lo hi base size n : Nat} {t : TypeId} {v : Value} {xs : List Value} {w w' : World} (h : w.ownsRow base t size v n xs) (hO : OnlyIn lo hi w w') (hne : ∀ g, v.ownBlock = some g → g < lo ∨ hi ≤ g) : w'.ownsRow base t size v n xs := by
  refine ⟨h.1, ?_⟩
  rcases h.2 with h | ⟨g, cap, cur, rfl, h1, h2, h3⟩
  · exact .inl h
  · exact .inr ⟨g, cap, cur, rfl, h1, (hO.block g (Array.getElem?_eq_some_iff.1 h2).1 (hne g rfl)).trans h2, h3⟩
/-- Rows of one's own stay where people are marked. -/
theorem RwO.mark {w w' : World} {base base' n n' : Nat} {v v' : Value} {xs : List Value} {ts : List (Nat × List Int)} (h : RwO w base v n ts) (hx : w.ownsRow base' 51 4 v' n' xs) (hg : w.grownBy w' v'.ownBlock) : RwO w' base v n ts := by
  have hne : ∀ b ys, IBl w b ys → v'.ownBlock ≠ some b := by
    intro b ys hb
    rcases hx.2 with ⟨rfl, _⟩ | ⟨g', cap, cur, rfl, _, hh, _⟩
    · simp [Value.ownBlock]
    · intro he
      have e : g' = b := by simpa [Value.ownBlock] using he
      subst e
      rw [IBl, hh] at hb
      injection hb with hb
      injection hb with _ hb
      exact absurd hb (by decide)
  have hno : v.ownBlock = none ∨ v.ownBlock ≠ v'.ownBlock := by
    rcases h.own.2 with ⟨rfl, _⟩ | ⟨g1, c1, u1, rfl, _, k1, _⟩
    · exact .inl rfl
    · right
      rcases hx.2 with ⟨rfl, _⟩ | ⟨g2, c2, u2, rfl, _, k2, _⟩
      · simp [Value.ownBlock]
      · intro e
        have e : g1 = g2 := by simpa [Value.ownBlock] using e
        subst e
        rw [k1] at k2
        injection k2 with k2
        injection k2 with _ k2
        exact absurd k2 (by decide)
  exact ⟨h.own.kept hg hno, fun t ht => ⟨(h.blk t ht).1, (h.blk t ht).2.grown hg (hne _ _ (h.blk t ht).2)⟩, h.small⟩
/-- What markIntSS leaves. -/
def MrQ (rs : List (List Int)) (lo hi : Nat) (k : Int) (w : World) (e : Ending) (w' : World) : Prop := e = .returned (.int .i64 (k + (tln rs : Nat))) ∧ OnlyIn lo hi w w'
theorem tln_take_le (rs : List (List Int)) (k : Nat) : tln (rs.take k) ≤ tln rs := by
  have h : tln rs = tln (rs.take k) + tln (rs.drop k) := by
    unfold tln
    rw [← List.sum_append, ← List.map_append, List.take_append_drop]
  omega
set_option maxHeartbeats 2000000 in
/-- laws.markIntSS. -/
theorem mkr_any (D : Option Addr) (n c lo hi : Nat) (ts : List (Nat × List Int)) (k : Int) (w : World) (h : RwO w lo (.slice D n c) n ts) (hhi : ∀ t ∈ ts, t.1 < hi) (hm : n ≤ 1048576) (hl : tln (ts.map Prod.snd) ≤ 1048576) (k0 : 0 ≤ k) (k1 : k ≤ 4194305) :
    Calls Try.prog 24 #[.slice D n c, .int .i64 k] w (MrQ (ts.map Prod.snd) lo hi k w) := by
  have HL := Lib.hid h.len
  have HH := Lib.hid hhi
  have HLo : Hid (∀ t ∈ ts, lo ≤ t.1 ∧ t.2.length ≤ 1048576) := fun t ht => ⟨(h.blk t ht).1, h.small t ht⟩
  have HB0 : Hid (∀ t ∈ ts, ∃ ys : List Int, ys.length = t.2.length ∧ IBl w t.1 ys) := fun t ht => ⟨t.2, rfl, (h.blk t ht).2⟩
  have hown := h.own
  clear h hhi
  go_enter Try.func24, Try.ntmps24
  go_wp2_with fail
  go_loopw [1, 5] (fun v i wr => ∃ t : Nat, t ≤ n ∧ i = .int .i64 (t : Int) ∧ v = .int .i64 (k + (tln ((ts.map Prod.snd).take t) : Nat)) ∧ wr.ownsRow lo 58 1 (.slice D n c) n (ts.map rv) ∧ Hid (∀ t ∈ ts, ∃ ys : List Int, ys.length = t.2.length ∧ IBl wr t.1 ys) ∧ OnlyIn lo hi w wr) (fun _ i _ => n - (intOf i).toNat)
  case atStart => exact ⟨0, by omega, rfl, by simp [tln], hown, HB0, OnlyIn.refl _ _ _⟩
  case round =>
    clear hown HB0
    obtain ⟨t, ht, rfl, rfl, hown, HB, hO⟩ := hrel
    have hT1 := tln_take_le (ts.map Prod.snd) t
    obtain ⟨T, hT⟩ : ∃ T, T = tln ((ts.map Prod.snd).take t) := ⟨_, rfl⟩
    rw [← hT] at hT1
    have HT := Lib.hid hT
    by_cases hlt : t < n
    · obtain ⟨u, hu⟩ : ∃ u, ts[t]? = some u := ⟨_, List.getElem?_eq_getElem (by have := HL.out; omega)⟩
      obtain ⟨ys, hy, hI⟩ := HB.out u (mem_of_at hu)
      obtain ⟨lo1, sm⟩ := HLo.out u (mem_of_at hu)
      have hi1 := HH.out u (mem_of_at hu)
      obtain ⟨g, rfl, x, hx, hc⟩ := own_v hown hlt
      have hx2 : x = rv u := by rw [List.getElem?_map, hu] at hx; injection hx with hx; exact hx.symm
      subst hx2
      obtain ⟨bu, ru⟩ := u
      simp only at hy hI lo1 sm hi1
      have HS := Lib.hid (tln_next (rs := ts.map Prod.snd) (k := t) (r := ru) (by rw [List.getElem?_map, hu]; rfl))
      obtain ⟨m, hm'⟩ : ∃ m, ru.length = m := ⟨_, rfl⟩
      have hc1 : wr.cell? ⟨g, t, none⟩ = some (.slice (some ⟨bu, 0, none⟩) m m) := by rw [hc, rv, hm']
      clear hc
      rw [hm'] at hy sm
      have HMm := Lib.hid hm'
      have HY := Lib.hid hy
      have HU := Lib.hid hu
      rw [← hT]
      clear hT hm' hy hu hx
      have i1 : (0 : Int) ≤ (t : Int) := by omega
      have i2 : (t : Int) < (n : Int) := by omega
      go_wp2_with fail
      refine (mki_any bu m m ys _ _ hI HY.out sm (by omega) (by omega)).mono ?_
      rintro e w2 ⟨zs, rfl, HZ, hI2, hg2⟩
      have hne : (Value.slice (some ⟨g, 0, none⟩) n c).ownBlock = none ∨ (Value.slice (some ⟨g, 0, none⟩) n c).ownBlock ≠ some bu := by
        right
        intro e
        have e : g = bu := by simpa [Value.ownBlock] using e
        subst e
        rcases hown.2 with ⟨h', _⟩ | ⟨g', cap, cur, h', _, hh, _⟩
        · cases h'
        · injection h' with h1
          injection h1 with h1
          injection h1 with h1
          subst h1
          rw [IBl, hh] at hI
          injection hI with hI
          injection hI with _ hI
          exact absurd hI (by decide)
      have hown2 := hown.kept hg2 hne
      have HB2 : Hid (∀ t ∈ ts, ∃ ys : List Int, ys.length = t.2.length ∧ IBl w2 t.1 ys) := by
        intro v hv
        obtain ⟨ys', h1, h2⟩ := HB.out v hv
        by_cases e : v.1 = bu
        · have : IBl wr bu ys' := by rw [← e]; exact h2
          have e2 : ys'.length = ys.length := by
            unfold IBl at this hI
            rw [hI] at this
            injection this with this
            injection this with this
            have := congrArg Array.size this
            simpa using this.symm
          exact ⟨zs, by rw [HZ.out, ← HY.out, ← e2, h1], by rw [e]; exact hI2⟩
        · exact ⟨ys', h1, h2.grown hg2 (fun e' => e (by injection e' with e'; exact e'.symm))⟩
      have hO2 := hO.grown hg2 lo1 hi1
      clear hown hO hne hI hI2 hg2
      go_wp2_with fail
      go_roundw
      case rel => exact ⟨t + 1, by omega, by go_num, by rw [HS.out, ← HT.out, HMm.out]; congr 1; simp only [Int.natCast_add]; omega, hown2, HB2, hO2⟩
      case measure => simp [intOf]; omega
    · have HA : Hid (T = tln (ts.map Prod.snd)) := by show _ = _; rw [hT, List.take_of_length_le (by rw [List.length_map]; have := HL.out; omega)]
      rw [← hT]
      clear hT
      go_wp2_with fail
      go_ret
      exact ⟨by rw [HA.out]; rfl, hO⟩
end Go.Proofs.Ytpjiencegicjbaa
