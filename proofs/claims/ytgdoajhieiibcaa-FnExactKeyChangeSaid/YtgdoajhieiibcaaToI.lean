/-
  The walks of the helpers of exact laws on integers and rows of integers: toIntS, toIntSS, szIntS, szIntSS, eqIntS, eqIntSS.
-/
import Derived.Test.YtgdoajhieiibcaaVals
import Derived.Deep.RegionHeld3
import Derived.RegionTactic
import Derived.Deep.DrawnRows
namespace Go.Proofs.Ytgdoajhieiibcaa
open Go.RowKit
attribute [local go_sem ↓] Go.wp_at_zero Go.wp_at_succ

theorem ti_next {w w1 w2 : World} (h : Below w.heap.size w w1) (k : Below w1.heap.size w1 w2) : Below w.heap.size w w2 := h.trans (k.mono h.size)
theorem ti_drewN {B : Nat} {w w' : World} (h : Below B w w') (k : Nat) : Below B w (w'.drewN k) := ⟨h.os, h.tape, h.output, h.size, h.block⟩
theorem ti_own {w w' : World} {base : Nat} {t : TypeId} {size n : Nat} {v : Value} {xs : List Value} (h : w.ownsRow base t size v n xs) (hb : Below w.heap.size w w') : w'.ownsRow base t size v n xs :=
  h.kept (row := none) ⟨hb.os, hb.tape, hb.output, hb.size, fun k hk _ => hb.block k hk⟩ (by cases v.ownBlock <;> simp)
theorem ti_int : (Try.prog.info? 3).map (fun i => (i.zero, i.size, i.bytes)) = some (some (.int .i64 0), 1, 8) := by kernel_rfl
theorem ti_sl : (Try.prog.info? 23).map (fun i => (i.zero, i.size, i.bytes)) = some (some (.slice none 0 0), 1, 24) := by kernel_rfl
/-- Integers that came in. -/
def IsInts (w : World) (a : Option Addr) (len cap : Nat) (xs : List Int) : Prop := xs.length = len ∧ len ≤ cap ∧ cap ≤ maxLen ∧ Ints w w.heap.size a xs
theorem isInts_of {w : World} {a : Addr} {len cap : Nat} {zs : List Int} (hl : len ≤ cap) (hm : cap ≤ maxLen) (hz : zs.length = cap) (hc : ∀ i, i < zs.length → w.cell? (a.add i) = some (.int .i64 (zs.getD i 0))) : ∃ xs, IsInts w (some a) len cap xs := by
  refine ⟨zs.take len, by rw [List.length_take]; omega, hl, hm, fun hp => ?_⟩
  rw [List.length_take] at hp
  obtain ⟨b, o, rfl, hb⟩ := add_at (hc 0 (by omega))
  refine ⟨b, o, rfl, hb, fun i x hx => ?_⟩
  have hi := lt_of_at hx
  rw [List.length_take] at hi
  rw [List.getElem?_take, if_pos (by omega)] at hx
  rw [← add_spot, hc i (by omega), List.getD_eq_getElem?_getD, hx]; rfl
/-- Rows of integers that came in. -/
def IsRows (w : World) (a : Option Addr) (len cap : Nat) (rs : List (List Int)) : Prop := rs.length = len ∧ len ≤ cap ∧ cap ≤ maxLen ∧ Rws w w.heap.size a rs

/-- Block b holds the integers xs and no more. -/
def IBl (w : World) (b : Nat) (xs : List Int) : Prop := w.heap[b]? = some (.cells (xs.map (Value.int .i64)).toArray 3 (0, 0))
theorem IBl.lt {w : World} {b : Nat} {xs : List Int} (h : IBl w b xs) : b < w.heap.size := (Array.getElem?_eq_some_iff.1 h).1
theorem IBl.below {w w' : World} {b : Nat} {xs : List Int} (h : IBl w b xs) (hb : Below w.heap.size w w') : IBl w' b xs := (hb.block b h.lt).trans h
theorem IBl.ints {w : World} {b : Nat} {xs : List Int} (h : IBl w b xs) : Ints w w.heap.size (some ⟨b, 0, none⟩) xs := fun _ => ⟨b, 0, rfl, h.lt, fun i x hx => by
  rw [Nat.zero_add, cell_of_row w b i _ _ _ h]; simp [hx]⟩
theorem IBl.of_own {w : World} {base n b : Nat} {xs : List Int} (h : w.ownsRow base 3 1 (.slice (some ⟨b, 0, none⟩) n n) n (xs.map (Value.int .i64))) : IBl w b xs := by
  rcases h.2 with ⟨h', _⟩ | ⟨g, cap, cur, h', _, hh, _, _, h5, h6⟩
  · cases h'
  · injection h' with h1 _ h3
    injection h1 with h1
    injection h1 with h1
    subst h1 h3
    rw [List.take_of_length_le (by rw [Array.length_toList, h5]; exact Nat.le_refl _)] at h6
    have e : cur = (xs.map (Value.int .i64)).toArray := by rw [← h6]
    rw [IBl, hh, e]

set_option maxHeartbeats 400000 in
/-- laws.szIntS. -/
theorem szi_any (A : Option Addr) (n c : Nat) (w : World) (l : Int) (h0 : 0 ≤ l) (h1 : l ≤ 1048576) (hn : n ≤ 9223372036854775807) :
    Calls Try.prog 18 #[.slice A n c, .int .i64 l] w fun e w' => e = .returned (.int .i64 (if (n : Int) ≤ l then l - n else -1)) ∧ w = w' := by
  by_cases h : (n : Int) ≤ l
  · rw [if_pos h]
    go_enter Try.func18, Try.ntmps18
    go_wp2
    go_ret
    exact ⟨rfl, rfl⟩
  · rw [if_neg h]
    go_enter Try.func18, Try.ntmps18
    go_wp2
    go_ret
    exact ⟨rfl, rfl⟩
/-- How many integers rows hold. -/
def tln (rs : List (List Int)) : Nat := (rs.map List.length).sum
theorem tln_next {rs : List (List Int)} {k : Nat} {r : List Int} (hk : rs[k]? = some r) : tln (rs.take (k + 1)) = tln (rs.take k) + r.length := by
  rw [take_next hk]; simp [tln]
theorem tln_mem {rs : List (List Int)} {r : List Int} (h : r ∈ rs) : r.length ≤ tln rs := by
  induction rs with
  | nil => simp at h
  | cons x xs ih =>
    simp only [tln, List.map_cons, List.sum_cons] at ih ⊢
    rcases List.mem_cons.1 h with rfl | h
    · omega
    · have := ih h; omega
/-- What szIntSS leaves. -/
def SzQ (rs : List (List Int)) (l : Int) (w : World) (e : Ending) (w' : World) : Prop := ∃ r : Int, e = .returned (.int .i64 r) ∧ -1 ≤ r ∧ r ≤ l ∧ Hid (0 ≤ r → (rs.length : Int) + tln rs ≤ l) ∧ w = w'
set_option maxHeartbeats 1000000 in
/-- laws.szIntSS. -/
theorem szr_any (A : Option Addr) (n c : Nat) (rs : List (List Int)) (w : World) (l : Int) (hx : Rws w w.heap.size A rs) (hr : rs.length = n) (h0 : 0 ≤ l) (h1 : l ≤ 1048576) (hn : n ≤ 9223372036854775807) :
    Calls Try.prog 9 #[.slice A n c, .int .i64 l] w (SzQ rs l w) := by
  have HN := Lib.hid hr
  clear hr
  by_cases h : (n : Int) ≤ l
  · go_enter Try.func9, Try.ntmps9
    go_wp2_with fail
    go_loop [1, 5] (fun v i => ∃ k : Nat, k ≤ n ∧ i = .int .i64 (k : Int) ∧ v = .int .i64 (l - n - (tln (rs.take k) : Nat)) ∧ 0 ≤ l - n - (tln (rs.take k) : Nat)) (fun _ i => n - (intOf i).toNat)
    case atStart => exact ⟨0, by omega, rfl, by simp [tln], by simp [tln]; omega⟩
    case round =>
      obtain ⟨k, hk, rfl, rfl, hp⟩ := hrel
      obtain ⟨T, hT⟩ : ∃ T, T = tln (rs.take k) := ⟨_, rfl⟩
      rw [← hT] at hp
      by_cases hlt : k < n
      · obtain ⟨b, o, r, Ai, ci, rfl, hb, HX, c0, hrc, hci, -⟩ := hx.at_ (k := k) (by have := HN.out; omega)
        have hci2 := len_max hci
        have HS := Lib.hid (tln_next HX.out)
        have HT := Lib.hid hT
        obtain ⟨m, hm⟩ : ∃ m, m = r.length := ⟨_, rfl⟩
        rw [← hm] at c0 hrc
        have HMm := Lib.hid hm
        rw [← hT]
        clear hT hm
        have i1 : (0 : Int) ≤ (k : Int) := by omega
        have i2 : (k : Int) < (n : Int) := by omega
        by_cases hl : (m : Int) ≤ l - n - T
        · have e1 : (if (m : Int) ≤ l - n - T then l - n - T - m else -1) = l - n - T - m := if_pos hl
          go_wp2_with fail
          refine (szi_any Ai m ci _ _ (by omega) (by omega) (by omega)).mono ?_
          rintro e w' ⟨rfl, rfl⟩
          rw [e1]
          clear e1
          go_wp2_with fail
          go_round
          case rel => exact ⟨k + 1, by omega, by go_num, by rw [HS.out, ← HT.out, ← HMm.out]; congr 1; simp only [Int.natCast_add]; omega, by rw [HS.out, ← HT.out, ← HMm.out]; simp only [Int.natCast_add]; omega⟩
          case measure => simp [intOf]; omega
        · have e1 : (if (m : Int) ≤ l - n - T then l - n - T - m else -1) = -1 := if_neg hl
          go_wp2_with fail
          refine (szi_any Ai m ci _ _ (by omega) (by omega) (by omega)).mono ?_
          rintro e w' ⟨rfl, rfl⟩
          rw [e1]
          clear e1
          go_wp2_with fail
          go_ret
          exact ⟨-1, rfl, by omega, by omega, fun h => absurd h (by decide), rfl⟩
      · have HA : Hid (T = tln rs) := by show _ = _; rw [hT, List.take_of_length_le (by have := HN.out; omega)]
        have HT := Lib.hid hT
        rw [← hT]
        clear hT
        go_wp2_with fail
        go_ret
        exact ⟨_, rfl, by omega, by omega, fun _ => by rw [HN.out, ← HA.out]; omega, rfl⟩
  · go_enter Try.func9, Try.ntmps9
    go_wp2_with fail
    go_ret
    exact ⟨-1, rfl, by omega, by omega, fun h => absurd h (by decide), rfl⟩
/-- Copied so far. -/
def ipart {α : Type} (z : α) (xs : List α) (k n : Nat) : List α := xs.take k ++ List.replicate (n - k) z
theorem ipart_zero {α : Type} (z : α) (xs : List α) (n : Nat) : ipart z xs 0 n = List.replicate n z := by simp [ipart]
theorem ipart_all {α : Type} {z : α} {xs : List α} {n k : Nat} (hn : xs.length = n) (hk : ¬ k < n) : ipart z xs k n = xs := by
  unfold ipart; rw [List.take_of_length_le (by omega), show n - k = 0 by omega]; simp
theorem ipart_next {α : Type} {z : α} {xs : List α} {n k : Nat} {x : α} (hn : xs.length = n) (hk : xs[k]? = some x) : (ipart z xs k n).set k x = ipart z xs (k + 1) n := by
  have hlt := lt_of_at hk
  unfold ipart
  rw [take_next hk, List.set_append_right _ _ (by rw [List.length_take]; omega), List.length_take, show k - min k xs.length = 0 by omega, show n - k = (n - (k + 1)) + 1 by omega, List.replicate_succ, List.set_cons_zero, List.append_assoc]; rfl
theorem made_one (v : Value) (n : Nat) : (madeCells #[v] n).toList = List.replicate n v := by
  refine List.ext_getElem? fun i => ?_
  rw [List.getElem?_replicate]
  rcases Nat.lt_or_ge i n with hi | hi
  · rw [if_pos hi]
    simp only [madeCells, Array.toList_map, Array.toList_range, List.getElem?_map, List.getElem?_range hi, Option.map_some]
    show some (#[v][i % 1]!) = _
    rw [Nat.mod_one]; rfl
  · rw [if_neg (by omega), List.getElem?_eq_none (by simpa [size_madeCells] using hi)]
/-- What toIntS leaves. -/
def ToIQ (xs : List Int) (n : Nat) (w : World) (e : Ending) (w' : World) : Prop := e = .returned (.slice (some ⟨w.heap.size, 0, none⟩) n n) ∧ IBl w' w.heap.size xs ∧ Below w.heap.size w w'
set_option maxHeartbeats 1000000 in
/-- laws.toIntS. -/
theorem toi_any (A : Option Addr) (n c : Nat) (xs : List Int) (w : World) (hx : Ints w w.heap.size A xs) (hn : xs.length = n) (hm : n ≤ 1048576) :
    Calls Try.prog 12 #[.slice A n c] w (ToIQ xs n w) := by
  obtain ⟨i9, hi0, hz0, hz1, hz2⟩ := info_parts ti_int
  have HN := Lib.hid hn
  clear hn
  have b2 : i9.bytes * n ≤ 281474976710656 := by rw [hz2]; omega
  have b3 : n ≤ maxLen := by simp only [maxLen]; omega
  go_enter Try.func12, Try.ntmps12
  go_wp2_with (at_make; refine wpList_make_full _ rfl _ _ 23 rfl w.heap.size 3 i9 (.int .i64 0) 1 Try.underlying23 hi0 hz0 hz1 .i64 .i64 _ _ n rfl rfl rfl rfl b2 b3 (Nat.le_refl _) ?_)
  intro w1 hown hg
  have hb1 : Below w.heap.size w w1 := (Below.refl _ _).grown hg (Nat.le_refl _) (fun k e => by cases e)
  have hown : w1.ownsRow w.heap.size 3 1 (.slice (some ⟨w.heap.size, 0, none⟩) n n) n ((ipart 0 xs 0 n).map (Value.int .i64)) := by rw [ipart_zero, List.map_replicate, ← made_one (.int .i64 0) n]; exact hown
  clear hg b2 b3 hi0 hz0 hz1 hz2
  go_wp2_with fail
  go_loopw [4] (fun i wr => ∃ k : Nat, k ≤ n ∧ i = .int .i64 (k : Int) ∧ wr.ownsRow w.heap.size 3 1 (.slice (some ⟨w.heap.size, 0, none⟩) n n) n ((ipart 0 xs k n).map (Value.int .i64)) ∧ Below w.heap.size w wr) (fun i _ => n - (intOf i).toNat)
  case atStart => exact ⟨0, by omega, rfl, hown, hb1⟩
  case round =>
    clear hown hb1
    obtain ⟨k, hk, rfl, hown, hB⟩ := hrel
    by_cases hlt : k < n
    · obtain ⟨b, o, x, rfl, hbb, HX, c0⟩ := (hx.below hB).at_ (k := k) (by have := HN.out; omega)
      have k0 : (0 : Int) ≤ (k : Int) := by omega
      have k1 : (k : Int) < (n : Int) := by omega
      obtain ⟨g, hg, u, -, d0⟩ := own_v hown hlt
      injection hg with hg
      injection hg with hg
      subst hg
      have f0 := hown.frozenAt k
      have hO := (hown.stored k (.int .i64 x)).1
      rw [← List.map_set, ipart_next HN.out HX.out] at hO
      have hB2 := hB.setCell (p := ⟨w.heap.size, k, none⟩) (Nat.le_refl _) (.int .i64 x)
      clear hown hB
      go_wp2_with fail
      go_roundw
      case rel => exact ⟨k + 1, by omega, by go_num, hO, hB2⟩
      case measure => simp [intOf]; omega
    · have HE := Lib.hid (ipart_all (z := (0 : Int)) HN.out hlt)
      rw [HE.out] at hown
      have hI := IBl.of_own hown
      go_wp2_with fail
      go_ret
      exact ⟨rfl, hI, hB⟩
/-- A row's value. -/
def rv (t : Nat × List Int) : Value := .slice (some ⟨t.1, 0, none⟩) t.2.length t.2.length
/-- Rows of one's own, each in a block of its own. -/
structure RwO (w : World) (base : Nat) (v : Value) (n : Nat) (ts : List (Nat × List Int)) : Prop where
  own : w.ownsRow base 23 1 v n (ts.map rv)
  blk : ∀ t ∈ ts, base ≤ t.1 ∧ IBl w t.1 t.2
  small : ∀ t ∈ ts, t.2.length ≤ 1048576
theorem RwO.len {w : World} {base n : Nat} {v : Value} {ts : List (Nat × List Int)} (h : RwO w base v n ts) : ts.length = n := by have := h.own.1; rw [List.length_map] at this; omega
theorem RwO.below {w w' : World} {base n : Nat} {v : Value} {ts : List (Nat × List Int)} (h : RwO w base v n ts) (hb : Below w.heap.size w w') : RwO w' base v n ts := ⟨ti_own h.own hb, fun t ht => ⟨(h.blk t ht).1, (h.blk t ht).2.below hb⟩, h.small⟩
theorem RwO.rws {w : World} {base n c : Nat} {D : Option Addr} {ts : List (Nat × List Int)} (h : RwO w base (.slice D n c) n ts) : Rws w w.heap.size D (ts.map Prod.snd) := by
  intro hp
  rw [List.length_map, h.len] at hp
  obtain ⟨g, rfl, u, hu, hc⟩ := own_v h.own hp
  refine ⟨g, 0, rfl, World.block_lt_of_cell? _ _ hc, fun i r hr => ?_⟩
  rw [List.getElem?_map] at hr
  obtain ⟨t, ht, rfl⟩ := Option.map_eq_some_iff.1 hr
  have hi := lt_of_at ht
  rw [h.len] at hi
  have hs := h.small t (mem_of_at ht)
  refine ⟨some ⟨t.1, 0, none⟩, t.2.length, ?_, Nat.le_refl _, by simp only [maxLen]; omega, (h.blk t (mem_of_at ht)).2.ints⟩
  rw [Nat.zero_add, h.own.cellAt i (by omega), List.getElem?_map, ht]; rfl
/-- What toIntSS leaves. -/
def ToRQ (rs : List (List Int)) (n : Nat) (w : World) (e : Ending) (w' : World) : Prop :=
  ∃ ts : List (Nat × List Int), e = .returned (.slice (some ⟨w.heap.size, 0, none⟩) n n) ∧ Hid (ts.map Prod.snd = rs) ∧ RwO w' w.heap.size (.slice (some ⟨w.heap.size, 0, none⟩) n n) n ts ∧ Below w.heap.size w w'
theorem outer_next {ts : List (Nat × List Int)} {k n : Nat} {x : Nat × List Int} (hl : ts.length = k) (hk : k < n) : (ts.map rv ++ List.replicate (n - k) (Value.slice none 0 0)).set k (rv x) = (ts ++ [x]).map rv ++ List.replicate (n - (k + 1)) (Value.slice none 0 0) := by
  rw [List.set_append_right _ _ (by rw [List.length_map]; omega), List.length_map, hl, Nat.sub_self, show n - k = (n - (k + 1)) + 1 by omega, List.replicate_succ, List.set_cons_zero, List.map_append, List.append_assoc]; rfl
set_option maxHeartbeats 2000000 in
/-- laws.toIntSS. -/
theorem tor_any (A : Option Addr) (n c : Nat) (rs : List (List Int)) (w : World) (hx : Rws w w.heap.size A rs) (hn : rs.length = n) (hm : n ≤ 1048576) (hr : ∀ r ∈ rs, r.length ≤ 1048576) :
    Calls Try.prog 11 #[.slice A n c] w (ToRQ rs n w) := by
  obtain ⟨i9, hi0, hz0, hz1, hz2⟩ := info_parts ti_sl
  have HN := Lib.hid hn
  have HR := Lib.hid hr
  clear hn hr
  have b2 : i9.bytes * n ≤ 281474976710656 := by rw [hz2]; omega
  have b3 : n ≤ maxLen := by simp only [maxLen]; omega
  go_enter Try.func11, Try.ntmps11
  go_wp2_with (at_make; refine wpList_make_full _ rfl _ _ 22 rfl w.heap.size 23 i9 (.slice none 0 0) 1 Try.underlying22 hi0 hz0 hz1 .i64 .i64 _ _ n rfl rfl rfl rfl b2 b3 (Nat.le_refl _) ?_)
  intro w1 hown hg
  have hb1 : Below w.heap.size w w1 := (Below.refl _ _).grown hg (Nat.le_refl _) (fun k e => by cases e)
  have hown : w1.ownsRow w.heap.size 23 1 (.slice (some ⟨w.heap.size, 0, none⟩) n n) n (([] : List (Nat × List Int)).map rv ++ List.replicate (n - 0) (Value.slice none 0 0)) := by rw [List.map_nil, List.nil_append, Nat.sub_zero, ← made_one (.slice none 0 0) n]; exact hown
  clear hg b2 b3 hi0 hz0 hz1 hz2
  go_wp2_with fail
  go_loopw [4] (fun i wr => ∃ (k : Nat) (ts : List (Nat × List Int)), k ≤ n ∧ i = .int .i64 (k : Int) ∧ Hid (ts.map Prod.snd = rs.take k) ∧ wr.ownsRow w.heap.size 23 1 (.slice (some ⟨w.heap.size, 0, none⟩) n n) n (ts.map rv ++ List.replicate (n - k) (Value.slice none 0 0)) ∧ Hid (∀ t ∈ ts, w.heap.size ≤ t.1 ∧ IBl wr t.1 t.2) ∧ Below w.heap.size w wr) (fun i _ => n - (intOf i).toNat)
  case atStart => exact ⟨0, [], by omega, rfl, by simp [Hid], hown, by simp [Hid], hb1⟩
  case round =>
    clear hown hb1
    obtain ⟨k, ts, hk, rfl, HT, hown, HB, hB⟩ := hrel
    have hlen : ts.length = k := by have h := congrArg List.length HT.out; rw [List.length_map, List.length_take] at h; have := HN.out; omega
    by_cases hlt : k < n
    · obtain ⟨b, o, r, Ai, ci, rfl, hbb, HX, c0, hrc, hci, hri⟩ := ((hx.below hB).more hB.size).at_ (k := k) (by have := HN.out; omega)
      have hcm := len_max hci
      have hrl := HR.out r (mem_of_at HX.out)
      obtain ⟨m, hm'⟩ : ∃ m, r.length = m := ⟨_, rfl⟩
      have HMm := Lib.hid hm'
      rw [hm'] at c0 hrc hrl
      clear hm'
      have k0 : (0 : Int) ≤ (k : Int) := by omega
      have k1 : (k : Int) < (n : Int) := by omega
      have hzr := hB.size
      go_wp2_with fail
      refine (toi_any Ai m ci r _ hri HMm.out hrl).mono ?_
      rintro e w2 ⟨rfl, hI, hb2⟩
      have hown := ti_own hown hb2
      have hB := ti_next hB hb2
      have hz := hb2.size
      obtain ⟨g, hg, u, -, d0⟩ := own_v hown hlt
      injection hg with hg
      injection hg with hg
      subst hg
      have f0 := hown.frozenAt k
      have hgl := (hown.lt w.heap.size rfl).2
      obtain ⟨hO, hgr⟩ := hown.stored k (.slice (some ⟨wr.heap.size, 0, none⟩) m m)
      have hne : wr.heap.size ≠ w.heap.size := by
        intro e
        have := (Array.getElem?_eq_some_iff.1 (show w2.heap[wr.heap.size]? = _ from hI)).1
        rcases hown.2 with ⟨h', _⟩ | ⟨g', cap, cur, h', _, hh, _⟩
        · cases h'
        · injection h' with h1
          injection h1 with h1
          injection h1 with h1
          subst h1
          rw [← e, hI] at hh
          injection hh with hh
          injection hh with _ hh
          exact absurd hh (by decide)
      have HT2 : Hid ((ts ++ [(wr.heap.size, r)]).map Prod.snd = rs.take (k + 1)) := by show _ = _; rw [take_next HX.out, List.map_append, HT.out]; rfl
      have e9 : (.slice (some ⟨wr.heap.size, 0, none⟩) m m : Value) = rv (wr.heap.size, r) := by rw [rv, HMm.out]
      have HO : Hid (((w2.setCell ⟨w.heap.size, k, none⟩ (.slice (some ⟨wr.heap.size, 0, none⟩) m m)).ownsRow w.heap.size 23 1 (.slice (some ⟨w.heap.size, 0, none⟩) n n) n ((ts ++ [(wr.heap.size, r)]).map rv ++ List.replicate (n - (k + 1)) (Value.slice none 0 0)))) := by
        rw [← outer_next hlen hlt, ← e9]; exact hO
      have HB2 : Hid (∀ t ∈ ts ++ [(wr.heap.size, r)], w.heap.size ≤ t.1 ∧ IBl (w2.setCell ⟨w.heap.size, k, none⟩ (.slice (some ⟨wr.heap.size, 0, none⟩) m m)) t.1 t.2) := by
        intro t ht
        have hkeep : ∀ b' : Nat, b' ≠ w.heap.size → (w2.setCell ⟨w.heap.size, k, none⟩ (.slice (some ⟨wr.heap.size, 0, none⟩) m m)).heap[b']? = w2.heap[b']? := fun b' h' => Below.heap_setCell _ _ _ b' h'
        rcases List.mem_append.1 ht with ht | ht
        · obtain ⟨h1, h2⟩ := HB.out t ht
          have h3 := h2.below hb2
          have hn : t.1 ≠ w.heap.size := by
            intro e
            rcases hown.2 with ⟨h', _⟩ | ⟨g', cap, cur, h', _, hh, _⟩
            · cases h'
            · injection h' with h1
              injection h1 with h1
              injection h1 with h1
              subst h1
              rw [IBl, e, hh] at h3
              injection h3 with h3
              injection h3 with _ h3
              exact absurd h3 (by decide)
          exact ⟨h1, (hkeep _ hn).trans h3⟩
        · rw [List.mem_singleton.1 ht]
          exact ⟨hzr, (hkeep _ hne).trans hI⟩
      have hB2 := hB.setCell (p := ⟨w.heap.size, k, none⟩) (Nat.le_refl _) (.slice (some ⟨wr.heap.size, 0, none⟩) m m)
      clear hown hB hO hgr e9 hri hlen
      go_wp2_with fail
      go_roundw
      case rel => exact ⟨k + 1, _, by omega, by go_num, HT2, HO.out, HB2, hB2⟩
      case measure => simp [intOf]; omega
    · have HE : Hid (ts.map Prod.snd = rs) := by show _ = _; rw [HT.out, List.take_of_length_le (by have := HN.out; omega)]
      have HO : Hid (wr.ownsRow w.heap.size 23 1 (.slice (some ⟨w.heap.size, 0, none⟩) n n) n (ts.map rv)) := by rw [show n - k = 0 by omega, List.replicate_zero, List.append_nil] at hown; exact hown
      clear hown hlen
      go_wp2_with fail
      go_ret
      exact ⟨ts, rfl, HE, ⟨HO.out, HB.out, fun t ht => HR.out _ (by rw [← HE.out]; exact List.mem_map_of_mem ht)⟩, hB⟩
set_option maxHeartbeats 1000000 in
/-- laws.eqIntS at integers that read alike. -/
theorem eqi_t (A1 A2 : Option Addr) (n c1 c2 : Nat) (xs : List Int) (w : World) (hx1 : Ints w w.heap.size A1 xs) (hx2 : Ints w w.heap.size A2 xs) (hn : xs.length = n) (hm : n ≤ 4194304) :
    Calls Try.prog 15 #[.slice A1 n c1, .slice A2 n c2] w fun e w' => e = .returned (.bool true) ∧ Below w.heap.size w w' := by
  have HN := Lib.hid hn
  clear hn
  go_enter Try.func15, Try.ntmps15
  go_wp2_with fail
  go_loopw [5] (fun i wr => ∃ k : Nat, k ≤ n ∧ i = .int .i64 (k : Int) ∧ Below w.heap.size w wr) (fun i _ => n - (intOf i).toNat)
  case atStart => exact ⟨0, by omega, rfl, Below.refl _ _⟩
  case round =>
    obtain ⟨k, hk, rfl, hB⟩ := hrel
    by_cases hlt : k < n
    · obtain ⟨b, o, x, rfl, hb, HX, c0⟩ := (hx1.below hB).at_ (k := k) (by have := HN.out; omega)
      obtain ⟨b', o', y, rfl, hb', HY, d0⟩ := (hx2.below hB).at_ (k := k) (by have := HN.out; omega)
      obtain rfl : x = y := by have h := HX.out; rw [HY.out] at h; injection h with h; exact h.symm
      have i1 : (0 : Int) ≤ (k : Int) := by omega
      have i2 : (k : Int) < (n : Int) := by omega
      go_wp2_with fail
      go_quiet (fail)
      go_wp2_with fail
      go_roundw
      case rel => exact ⟨k + 1, by omega, by go_num, ti_drewN hB _⟩
      case measure => simp [intOf]; omega
    · go_wp2_with fail
      go_ret
      exact ⟨rfl, hB⟩
set_option maxHeartbeats 2000000 in
/-- laws.eqIntSS at rows that read alike. -/
theorem eqr_t (A1 A2 : Option Addr) (n c1 c2 : Nat) (rs : List (List Int)) (w : World) (hx1 : Rws w w.heap.size A1 rs) (hx2 : Rws w w.heap.size A2 rs) (hn : rs.length = n) (hm : n ≤ 4194304) (hl : ∀ r ∈ rs, r.length ≤ 4194304) :
    Calls Try.prog 14 #[.slice A1 n c1, .slice A2 n c2] w fun e w' => e = .returned (.bool true) ∧ Below w.heap.size w w' := by
  have HN := Lib.hid hn
  have HLL := Lib.hid hl
  clear hn hl
  go_enter Try.func14, Try.ntmps14
  go_wp2_with fail
  go_loopw [5] (fun i wr => ∃ k : Nat, k ≤ n ∧ i = .int .i64 (k : Int) ∧ Below w.heap.size w wr) (fun i _ => n - (intOf i).toNat)
  case atStart => exact ⟨0, by omega, rfl, Below.refl _ _⟩
  case round =>
    obtain ⟨k, hk, rfl, hB⟩ := hrel
    by_cases hlt : k < n
    · obtain ⟨b, o, r, Ai, ci, rfl, hb, HX, c0, -, -, hi1⟩ := ((hx1.below hB).more hB.size).at_ (k := k) (by have := HN.out; omega)
      obtain ⟨b', o', r', Bi, di, rfl, hb', HY, d0, -, -, hi2⟩ := ((hx2.below hB).more hB.size).at_ (k := k) (by have := HN.out; omega)
      obtain rfl : r = r' := by have h := HX.out; rw [HY.out] at h; injection h with h; exact h.symm
      have hrl := HLL.out r (mem_of_at HX.out)
      obtain ⟨l, hl⟩ : ∃ l, r.length = l := ⟨_, rfl⟩
      rw [hl] at c0 d0 hrl
      have HL := Lib.hid hl
      clear hl
      have i1 : (0 : Int) ≤ (k : Int) := by omega
      have i2 : (k : Int) < (n : Int) := by omega
      go_wp2_with fail
      go_region_held3 (fun w' => w'.cell? ⟨b, o + k, none⟩ = some (.slice Ai l ci) ∧ w'.cell? ⟨b', o' + k, none⟩ = some (.slice Bi l di)) (go_keep)
        (first
          | (go_at_call 15
             refine (eqi_t Ai Bi l ci di r _ (show Ints wr.drew wr.drew.heap.size Ai r from hi1) (show Ints wr.drew wr.drew.heap.size Bi r from hi2) HL.out hrl).mono ?_
             rintro e w5 ⟨rfl, hb5⟩
             have e1 := (hb5.cell (p := ⟨b, o + k, none⟩) hb).trans c0
             have e2 := (hb5.cell (p := ⟨b', o' + k, none⟩) hb').trans d0
             have hB := ti_next hB.drew hb5))
      all_goals
        go_wp2_with fail
        go_roundw
        case rel => exact ⟨k + 1, by omega, by go_num, hB⟩
        case measure => simp [intOf]; omega
    · go_wp2_with fail
      go_ret
      exact ⟨rfl, hB⟩
end Go.Proofs.Ytgdoajhieiibcaa
