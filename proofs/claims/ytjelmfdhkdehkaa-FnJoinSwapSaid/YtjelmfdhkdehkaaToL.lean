/-
  The walks of the helpers of exact laws on entries: toEntryS, szEntryS, eqEntryS, markEntryS, heldEntryS.
-/
import Derived.Test.YtjelmfdhkdehkaaAsk
import Derived.Test.YtjelmfdhkdehkaaOpen
import Derived.Deep.RegionLaw
namespace Go.Proofs.Ytjelmfdhkdehkaa
open Go.RowKit
attribute [local go_sem ↓] Go.wp_at_zero Go.wp_at_succ

theorem below_one (w : World) (o : Obj) : Below w.heap.size w (w.alloc o) := (Below.refl w.heap.size w).alloc (Nat.le_refl _) o
theorem below_next {w w1 w2 : World} (h : Below w.heap.size w w1) (k : Below w1.heap.size w1 w2) : Below w.heap.size w w2 := h.trans (k.mono h.size)
theorem below_two (w : World) (o1 o2 : Obj) : Below w.heap.size w ((w.alloc o1).alloc o2) := below_next (below_one w o1) (below_one _ o2)
theorem below_three (w : World) (o1 o2 o3 : Obj) : Below w.heap.size w (((w.alloc o1).alloc o2).alloc o3) := below_next (below_two w o1 o2) (below_one _ o3)
theorem below_drew (w : World) : Below w.heap.size w w.drew := (Below.refl _ _).drew
/-- A ledger's block. -/
def EB (w : World) (t : TypeId) (g : Nat) (b : Int) (v : Value) : Prop := w.heap[g]? = some (.cells #[.int .i64 b, v] t (0, 0))
theorem EB.new (w : World) (t : TypeId) (b : Int) (v : Value) : EB (w.alloc (.cells #[.int .i64 b, v] t)) t w.heap.size b v := heap_alloc_new w _
section
variable {w w' : World} {t : TypeId} {g : Nat} {b : Int} {v : Value}
theorem EB.alloc (h : EB w t g b v) (o : Obj) : EB (w.alloc o) t g b v := (Below.heap_alloc w o g (Array.getElem?_eq_some_iff.1 h).1).trans h
theorem EB.below (h : EB w t g b v) (hb : Below w.heap.size w w') : EB w' t g b v := (hb.block g (Array.getElem?_eq_some_iff.1 h).1).trans h
theorem EB.mark (h : EB w t g b v) {base size n : Nat} {e : TypeId} {u : Value} {xs : List Value} (ho : w.ownsRow base e size u n xs) (hg : w.grownBy w' u.ownBlock) (ht : t ≠ e) : EB w' t g b v := by
  refine (hg.block g (Array.getElem?_eq_some_iff.1 h).1 ?_).trans h
  rcases ho.2 with ⟨rfl, _⟩ | ⟨g', cap, cur, rfl, _, hh, _⟩
  · simp [Value.ownBlock]
  · intro he
    have e : g = g' := by simpa [Value.ownBlock] using he
    subst e
    unfold EB at h
    rw [h] at hh
    injection hh with hh
    injection hh with _ h2
    exact ht h2
theorem EB.facts (h : EB w t g b v) : w.cell? ⟨g, 0, none⟩ = some (.int .i64 b) ∧ w.cell? ⟨g, 1, none⟩ = some v ∧ w.frozen? ⟨g, 0, none⟩ = false ∧ w.frozen? ⟨g, 1, none⟩ = false := by
  unfold EB at h
  refine ⟨by rw [cell_of_row w g 0 _ _ _ h]; rfl, by rw [cell_of_row w g 1 _ _ _ h]; rfl, ?_, ?_⟩ <;> simp [World.frozen?, h]
end
/-- Entries that came in. -/
def IsRecsEntry (w : World) (a : Option Addr) (len cap : Nat) (es : List (Int × Int)) : Prop := es.length = len ∧ len ≤ cap ∧ cap ≤ maxLen ∧ Recs ef 2 w w.heap.size a es
def toEn (z : List Int) : Int × Int := (z.getD 0 0, z.getD 1 0)
theorem ef_toEn {z : List Int} (h : z.length = 2) : ef (toEn z) = zf z := by
  match z, h with
  | [a, b], _ => rfl
theorem isRecsEntry_of {w : World} {a : Option Addr} {len cap : Nat} {zs : List (List Int)} (hl : len ≤ cap) (hm : cap ≤ maxLen) (hz : zs.length = len) (hzz : ∀ z ∈ zs, z.length = 2) (hr : Recs zf 2 w w.heap.size a zs) : ∃ es, IsRecsEntry w a len cap es :=
  ⟨zs.map toEn, by rw [List.length_map]; exact hz, hl, hm, hr.map_of toEn fun z h => ef_toEn (hzz z h)⟩
theorem intsEntry {fs : Array Field} (h : Try.prog.underlying 68 = some (.struct fs)) : ∀ (j : Nat) (f : Field), fs[j]? = some f → Try.prog.underlying f.type = some (.int .i64) := by
  have hu := Try.underlying68
  rw [hu] at h
  injection h with h
  injection h with h
  subst h
  intro j f hf
  match j, hf with
  | 0, hf => simp at hf; subst hf; exact Try.underlying3
  | 1, hf => simp at hf; subst hf; exact Try.underlying3
  | n + 2, hf => simp at hf

/-! ### Entries of one's own: cells and stores -/
theorem flat_set {α : Type} {f : α → List Value} {sz : Nat} (hf : ∀ x, (f x).length = sz) {xs : List α} {i j : Nat} {x y : α} {u : Value} (hx : xs[i]? = some x) (hj : j < sz) (hy : f y = (f x).set j u) : (flat f xs).set (i * sz + j) u = flat f (xs.set i y) := by
  induction xs generalizing i with
  | nil => simp at hx
  | cons z xs ih =>
    cases i with
    | zero =>
      simp only [List.getElem?_cons_zero, Option.some.injEq] at hx
      subst hx
      simp only [flat, List.flatMap_cons, List.set_cons_zero, Nat.zero_mul, Nat.zero_add]
      rw [List.set_append_left _ _ (by rw [hf]; exact hj), hy]
    | succ i =>
      simp only [List.getElem?_cons_succ] at hx
      have ih := ih hx
      simp only [flat, List.flatMap_cons, List.set_cons_succ] at ih ⊢
      rw [List.set_append_right _ _ (by rw [hf, Nat.succ_mul]; omega), hf, show (i + 1) * sz + j - sz = i * sz + j by rw [Nat.succ_mul]; omega, ih]
/-- An entry of one's own. -/
theorem own_at {w : World} {base n c i : Nat} {D : Option Addr} {es : List (Int × Int)} (h : w.ownsRow base 52 2 (.slice D n c) n (flat ef es)) (hi : i < n) :
    ∃ g p q, D = some ⟨g, 0, none⟩ ∧ base ≤ g ∧ g < w.heap.size ∧ Hid (es[i]? = some (p, q)) ∧
      (w.cell? ⟨g, i * 2, none⟩ = some (.int .i64 p) ∧ w.cell? ⟨g, i * 2 + 1, none⟩ = some (.int .i64 q)) ∧
      (w.frozen? ⟨g, i * 2, none⟩ = false ∧ w.frozen? ⟨g, i * 2 + 1, none⟩ = false) := by
  obtain ⟨hl, hr⟩ := Recs.of_own ef_len h (by omega)
  obtain ⟨b, o, ⟨p, q⟩, rfl, hb, hx, hc⟩ := hr.get (k := i) (by omega)
  obtain ⟨rfl, hge⟩ : o = 0 ∧ base ≤ b := by
    rcases h.2 with ⟨h', _⟩ | ⟨g', cap', cur, h', h2, _⟩
    · cases h'
    · injection h' with h1
      injection h1 with h1
      injection h1 with h1 h3
      subst h1 h3
      exact ⟨rfl, h2⟩
  have c0 := hc 0 _ rfl
  have c1 := hc 1 _ rfl
  rw [Nat.zero_add] at c0 c1
  exact ⟨b, p, q, rfl, hge, hb, hx, ⟨c0, c1⟩, h.frozenAt _, h.frozenAt _⟩
theorem own_set {w : World} {base n c i j g : Nat} {es : List (Int × Int)} {x y : Int × Int} {u : Value} (h : w.ownsRow base 52 2 (.slice (some ⟨g, 0, none⟩) n c) n (flat ef es)) (hx : es[i]? = some x) (hj : j < 2) (hy : ef y = (ef x).set j u) :
    (w.setCell ⟨g, i * 2 + j, none⟩ u).ownsRow base 52 2 (.slice (some ⟨g, 0, none⟩) n c) n (flat ef (es.set i y)) := by
  have := (h.stored (i * 2 + j) u).1
  rwa [flat_set ef_len hx hj hy] at this

set_option maxHeartbeats 400000 in
/-- laws.szEntryS. -/
theorem sze_any (A : Option Addr) (n c : Nat) (w : World) (l : Int) (h0 : 0 ≤ l) (h1 : l ≤ 1048576) (hn : n ≤ 9223372036854775807) :
    Calls Try.prog 36 #[.slice A n c, .int .i64 l] w fun e w' => e = .returned (.int .i64 (if (n : Int) ≤ l then l - n else -1)) ∧ w = w' := by
  by_cases h : (n : Int) ≤ l
  · rw [if_pos h]
    go_enter Try.func36, Try.ntmps36
    go_wp2
    go_ret
    exact ⟨rfl, rfl⟩
  · rw [if_neg h]
    go_enter Try.func36, Try.ntmps36
    go_wp2
    go_ret
    exact ⟨rfl, rfl⟩
set_option maxHeartbeats 1000000 in
/-- laws.toEntry. -/
theorem toen_any (p q : Int) (w : World) : Calls Try.prog 48 #[.agg #[.int .i64 p, .int .i64 q]] w
    fun e w' => e = .returned (.agg #[.int .i64 p, .int .i64 q]) ∧ Below w.heap.size w w' := by
  go_enter Try.func48, Try.ntmps48
  go_wp2_with fail
  refine bodyPost_ret (v := .agg #[.int .i64 p, .int .i64 q]) (by simp [results, Try.results48, go_sem, *]) rfl ⟨rfl, ?_⟩
  exact ((below_two w _ _).trans ((below_one _ _).mono (by simp; omega)))
def z2 : Int × Int := (0, 0)
theorem made_ents (n : Nat) : (madeCells (Value.agg #[.int .i64 0, .int .i64 0]).cells (n * 2)).toList = flat ef (List.replicate n z2) := by
  refine List.ext_getElem? fun i => ?_
  rcases Nat.lt_or_ge i (n * 2) with hi | hi
  · have hlen : (flat ef (List.replicate n z2)).length = n * 2 := by rw [flat_len (sz := 2) ef_len, List.length_replicate]
    obtain ⟨u, hu⟩ : ∃ u, (flat ef (List.replicate n z2))[i]? = some u := ⟨_, List.getElem?_eq_getElem (by omega)⟩
    obtain ⟨k, q, x, rfl, hq, hx, hxu⟩ := flat_of (sz := 2) ef_len hu
    have hx := List.eq_of_mem_replicate (mem_of_at hx)
    subst hx
    rw [hu]
    have hu0 : u = .int .i64 0 := by
      match q, hq, hxu with
      | 0, _, h => simpa [ef, z2] using h.symm
      | 1, _, h => simpa [ef, z2] using h.symm
    subst hu0
    have hm : (k * 2 + q) % 2 = q := by omega
    simp only [madeCells, Array.toList_map, Array.toList_range, List.getElem?_map, List.getElem?_range hi, Option.map_some, Value.cells]
    show some (#[Value.int .i64 0, .int .i64 0][(k * 2 + q) % 2]!) = _
    rw [hm]
    match q, hq with
    | 0, _ => rfl
    | 1, _ => rfl
  · rw [List.getElem?_eq_none (by simpa [size_madeCells] using hi), List.getElem?_eq_none (by rw [flat_len (sz := 2) ef_len, List.length_replicate]; exact hi)]
/-- Two cells stored. -/
theorem own_put2 {w : World} {base n c i g : Nat} {es : List (Int × Int)} {x : Int × Int} (h : w.ownsRow base 52 2 (.slice (some ⟨g, 0, none⟩) n c) n (flat ef es)) (hx : es[i]? = some x) (p q : Int) :
    ((w.setCell ⟨g, i * 2, none⟩ (.int .i64 p)).setCell ⟨g, i * 2 + 1, none⟩ (.int .i64 q)).ownsRow base 52 2 (.slice (some ⟨g, 0, none⟩) n c) n (flat ef (es.set i (p, q))) := by
  have hi := lt_of_at hx
  have s1 := own_set (j := 0) (y := (p, x.2)) (u := .int .i64 p) h hx (by omega) rfl
  have s2 := own_set (j := 1) (x := (p, x.2)) (y := (p, q)) (u := .int .i64 q) s1 (List.getElem?_set_self hi) (by omega) rfl
  rw [List.set_set] at s2
  exact s2
theorem grow2 (w : World) (g i : Nat) (u0 u1 : Value) : w.grownBy ((w.setCell ⟨g, i * 2, none⟩ u0).setCell ⟨g, i * 2 + 1, none⟩ u1) (some g) :=
  ⟨rfl, rfl, rfl, by simp [World.setCell], fun j _ hne => by
    have hj : j ≠ g := fun e => hne (by rw [e])
    rw [Below.heap_setCell _ _ _ j hj, Below.heap_setCell _ _ _ j hj]⟩
/-- What has been copied so far. -/
def part (es : List (Int × Int)) (k n : Nat) : List (Int × Int) := es.take k ++ List.replicate (n - k) z2
theorem part_zero (es : List (Int × Int)) (n : Nat) : part es 0 n = List.replicate n z2 := by simp [part]
theorem part_all {es : List (Int × Int)} {n k : Nat} (hn : es.length = n) (hk : ¬ k < n) : part es k n = es := by
  unfold part; rw [List.take_of_length_le (by omega), show n - k = 0 by omega]; simp
theorem part_at {es : List (Int × Int)} {n k : Nat} (hn : es.length = n) (hk : k < n) : (part es k n)[k]? = some z2 := by
  unfold part
  rw [List.getElem?_append_right (by rw [List.length_take]; omega), List.length_take, show k - min k es.length = 0 by omega, List.getElem?_replicate, if_pos (by omega)]
theorem part_next {es : List (Int × Int)} {n k : Nat} {x : Int × Int} (hn : es.length = n) (hk : es[k]? = some x) : (part es k n).set k x = part es (k + 1) n := by
  have hlt := lt_of_at hk
  unfold part
  rw [take_next hk, List.set_append_right _ _ (by rw [List.length_take]; omega), List.length_take, show k - min k es.length = 0 by omega, show n - k = (n - (k + 1)) + 1 by omega, List.replicate_succ, List.set_cons_zero, List.append_assoc]; rfl
/-- Entries that are marked with numbers from k on. -/
def mkL (k : Int) : Nat → List (Int × Int)
  | 0 => []
  | n + 1 => (k, k + 1) :: mkL (k + 2) n
theorem mkL_len (k : Int) (n : Nat) : (mkL k n).length = n := by
  induction n generalizing k with
  | zero => rfl
  | succ n ih => simp [mkL, ih]
theorem mkL_at (k : Int) {n i : Nat} (hi : i < n) : (mkL k n)[i]? = some (k + 2 * i, k + 2 * i + 1) := by
  induction n generalizing k i with
  | zero => omega
  | succ n ih =>
    cases i with
    | zero => simp [mkL]
    | succ i =>
      simp only [mkL, List.getElem?_cons_succ]
      rw [ih (k + 2) (by omega)]
      have e : k + 2 + 2 * (i : Int) = k + 2 * ((i + 1 : Nat) : Int) := by omega
      rw [e]
/-- Marked so far. -/
def mpart (es : List (Int × Int)) (k : Int) (i n : Nat) : List (Int × Int) := (mkL k n).take i ++ es.drop i
theorem mpart_zero (es : List (Int × Int)) (k : Int) (n : Nat) : mpart es k 0 n = es := by simp [mpart]
theorem mpart_all {es : List (Int × Int)} {k : Int} {n i : Nat} (hn : es.length = n) (hi : ¬ i < n) : mpart es k i n = mkL k n := by
  unfold mpart; rw [List.take_of_length_le (by rw [mkL_len]; omega), List.drop_of_length_le (by omega), List.append_nil]
theorem mpart_next {es : List (Int × Int)} {k : Int} {n i : Nat} (hn : es.length = n) (hi : i < n) : (mpart es k i n).set i (k + 2 * i, k + 2 * i + 1) = mpart es k (i + 1) n := by
  unfold mpart
  have hl : ((mkL k n).take i).length = i := by rw [List.length_take, mkL_len]; omega
  rw [take_next (mkL_at k hi), List.set_append_right _ _ (by omega), hl, Nat.sub_self, List.drop_eq_getElem_cons (by omega), List.set_cons_zero, List.append_assoc]; rfl
/-- A row that was made earlier is another row. -/
theorem own_apart {w1 w2 : World} {b1 s1 s2 n1 n2 : Nat} {t1 t2 : TypeId} {v1 v2 : Value} {x1 x2 : List Value} (h1 : w1.ownsRow b1 t1 s1 v1 n1 x1) (h2 : w2.ownsRow w1.heap.size t2 s2 v2 n2 x2) : v1.ownBlock = none ∨ v1.ownBlock ≠ v2.ownBlock := by
  rcases e1 : v1.ownBlock with _ | g1
  · exact .inl rfl
  · right
    intro e
    have h3 := (h1.lt g1 e1).2
    have h4 := (h2.lt g1 e.symm).1
    omega
/-- .. and the other way. -/
theorem own_apart2 {w1 w2 : World} {b1 s1 s2 n1 n2 : Nat} {t1 t2 : TypeId} {v1 v2 : Value} {x1 x2 : List Value} (h1 : w1.ownsRow b1 t1 s1 v1 n1 x1) (h2 : w2.ownsRow w1.heap.size t2 s2 v2 n2 x2) : v2.ownBlock = none ∨ v2.ownBlock ≠ v1.ownBlock := by
  rcases e2 : v2.ownBlock with _ | g2
  · exact .inl rfl
  · right
    intro e
    have h3 := (h1.lt g2 e.symm).2
    have h4 := (h2.lt g2 e2).1
    omega
/-- What toEntryS leaves. -/
def ToQ (es : List (Int × Int)) (n : Nat) (w : World) (e : Ending) (w' : World) : Prop :=
  ∃ (D : Option Addr) (c : Nat), e = .returned (.slice D n c) ∧ w'.ownsRow w.heap.size 52 2 (.slice D n c) n (flat ef es) ∧ Below w.heap.size w w'
set_option maxHeartbeats 2000000 in
/-- laws.toEntryS. -/
theorem toens_any (A : Option Addr) (n c : Nat) (es : List (Int × Int)) (w : World) (hx : Recs ef 2 w w.heap.size A es) (hn : es.length = n) (hm : n ≤ 1048576) :
    Calls Try.prog 39 #[.slice A n c] w (ToQ es n w) := by
  obtain ⟨i9, hi0, hz0, hz1, hz2⟩ := info_parts en_info
  have HN := Lib.hid hn
  clear hn
  have b2 : i9.bytes * n ≤ 281474976710656 := by rw [hz2]; omega
  have b3 : n ≤ maxLen := by simp only [maxLen]; omega
  go_enter Try.func39, Try.ntmps39
  go_wp2_with (at_make; refine wpList_make_full _ rfl _ _ 23 rfl w.heap.size 52 i9 (.agg #[.int .i64 0, .int .i64 0]) 2 Try.underlying23 hi0 hz0 hz1 .i64 .i64 _ _ n rfl rfl rfl rfl b2 b3 (Nat.le_refl _) ?_)
  intro w1 hown hg
  have hb1 : Below w.heap.size w w1 := (Below.refl _ _).grown hg (Nat.le_refl _) (fun k e => by cases e)
  have hown : w1.ownsRow w.heap.size 52 2 (.slice (some ⟨w.heap.size, 0, none⟩) n n) n (flat ef (part es 0 n)) := by rw [part_zero, ← made_ents]; exact hown
  clear hg b2 b3 hi0 hz0 hz1 hz2
  go_wp2_with fail
  go_loopw [4] (fun i wr => ∃ k : Nat, k ≤ n ∧ i = .int .i64 (k : Int) ∧ wr.ownsRow w.heap.size 52 2 (.slice (some ⟨w.heap.size, 0, none⟩) n n) n (flat ef (part es k n)) ∧ Below w.heap.size w wr) (fun i _ => n - (intOf i).toNat)
  case atStart => exact ⟨0, by omega, rfl, hown, hb1⟩
  case round =>
    clear hown hb1
    obtain ⟨k, hk, rfl, hown, hB⟩ := hrel
    by_cases hlt : k < n
    · obtain ⟨b, o, p, q, rfl, hbb, HX, c0, c1⟩ := ents_at (hx.on hB) (k := k) (by have := HN.out; omega)
      have k0 : (0 : Int) ≤ (k : Int) := by omega
      have k1 : (k : Int) < (n : Int) := by omega
      go_wp2_with fail
      refine (toen_any p q _).mono ?_
      rintro e w2 ⟨rfl, hb2⟩
      have hown := own_below hown hb2
      have hB := below_next hB hb2
      obtain ⟨g, xp, xq, hg, hg0, hg1, HY, ⟨d0, d1⟩, f0, f1⟩ := own_at hown hlt
      injection hg with hg
      injection hg with hg
      subst hg
      have hO := own_put2 hown (part_at HN.out hlt) p q
      rw [part_next HN.out HX.out] at hO
      have hB2 := (hB.setCell (p := ⟨w.heap.size, k * 2, none⟩) (Nat.le_refl _) (.int .i64 p)).setCell (p := ⟨w.heap.size, k * 2 + 1, none⟩) (Nat.le_refl _) (.int .i64 q)
      clear hown hB HY
      go_wp2_with fail
      go_roundw
      case rel => exact ⟨k + 1, by omega, by go_num, hO, hB2⟩
      case measure => simp [intOf]; omega
    · have HE := Lib.hid (part_all HN.out hlt)
      rw [HE.out] at hown
      go_wp2_with fail
      go_ret
      exact ⟨_, _, rfl, hown, hB⟩
set_option maxHeartbeats 1000000 in
/-- laws.eqEntry at one entry. -/
theorem eqen_t (p q : Int) (w : World) : Calls Try.prog 49 #[.agg #[.int .i64 p, .int .i64 q], .agg #[.int .i64 p, .int .i64 q]] w
    fun e w' => e = .returned (.bool true) ∧ Below w.heap.size w w' := by
  go_enter Try.func49, Try.ntmps49
  go_wp2_with fail
  go_ret
  exact ⟨rfl, below_two _ _ _⟩
set_option maxHeartbeats 1000000 in
/-- laws.eqEntryS at entries that read alike. -/
theorem eqens_t (A1 A2 : Option Addr) (n c1 c2 : Nat) (es : List (Int × Int)) (w : World) (hx1 : Recs ef 2 w w.heap.size A1 es) (hx2 : Recs ef 2 w w.heap.size A2 es) (hn : es.length = n) (hm : n ≤ 4194304) :
    Calls Try.prog 41 #[.slice A1 n c1, .slice A2 n c2] w fun e w' => e = .returned (.bool true) ∧ Below w.heap.size w w' := by
  have HN := Lib.hid hn
  clear hn
  go_enter Try.func41, Try.ntmps41
  go_wp2_with fail
  go_loopw [5] (fun i wr => ∃ k : Nat, k ≤ n ∧ i = .int .i64 (k : Int) ∧ Below w.heap.size w wr) (fun i _ => n - (intOf i).toNat)
  case atStart => exact ⟨0, by omega, rfl, Below.refl _ _⟩
  case round =>
    obtain ⟨k, hk, rfl, hB⟩ := hrel
    by_cases hlt : k < n
    · obtain ⟨ob, o, xp, xq, rfl, hbb, HX, c0, c1⟩ := ents_at (hx1.on hB) (k := k) (by have := HN.out; omega)
      obtain ⟨ob', o', yp, yq, rfl, hbb', HY, d0, d1⟩ := ents_at (hx2.on hB) (k := k) (by have := HN.out; omega)
      obtain ⟨rfl, rfl⟩ : xp = yp ∧ xq = yq := by
        have h := HX.out
        rw [HY.out] at h
        injection h with h
        injection h with h1 h2
        exact ⟨h1.symm, h2.symm⟩
      have i1 : (0 : Int) ≤ (k : Int) := by omega
      have i2 : (k : Int) < (n : Int) := by omega
      go_wp2_with fail
      go_region_held3 (fun w' => w'.cell? ⟨ob, o + k * 2, none⟩ = some (.int .i64 xp) ∧ w'.cell? ⟨ob, o + k * 2 + 1, none⟩ = some (.int .i64 xq) ∧ w'.cell? ⟨ob', o' + k * 2, none⟩ = some (.int .i64 xp) ∧ w'.cell? ⟨ob', o' + k * 2 + 1, none⟩ = some (.int .i64 xq)) (go_keep)
        (first
          | (go_at_call 49
             refine (eqen_t xp xq _).mono ?_
             rintro e w5 ⟨rfl, hb5⟩
             have hc5 := bcell hb5
             have e0 := (hc5.1 ob (o + k * 2) hbb).trans c0
             have e1 := (hc5.1 ob (o + k * 2 + 1) hbb).trans c1
             have e4 := (hc5.1 ob' (o' + k * 2) hbb').trans d0
             have e5 := (hc5.1 ob' (o' + k * 2 + 1) hbb').trans d1
             clear hc5
             have hB := below_next hB.drew hb5))
      all_goals
        go_wp2_with fail
        go_roundw
        case rel => exact ⟨k + 1, by omega, by go_num, hB⟩
        case measure => simp [intOf]; omega
    · go_wp2_with fail
      go_ret
      exact ⟨rfl, hB⟩
/-- What markEntryS leaves. -/
def MkQ (D : Option Addr) (n c : Nat) (B : Nat) (k : Int) (w : World) (e : Ending) (w' : World) : Prop :=
  e = .returned (.int .i64 (k + 2 * n)) ∧ w'.ownsRow B 52 2 (.slice D n c) n (flat ef (mkL k n)) ∧ w.grownBy w' (Value.slice D n c).ownBlock
set_option maxHeartbeats 2000000 in
/-- laws.markEntryS. -/
theorem marke_any (D : Option Addr) (n c B : Nat) (es : List (Int × Int)) (k : Int) (w : World) (h : w.ownsRow B 52 2 (.slice D n c) n (flat ef es)) (hm : n ≤ 1048577) (k0 : 0 ≤ k) (k1 : k ≤ 16777216) :
    Calls Try.prog 44 #[.slice D n c, .int .i64 k] w (MkQ D n c B k w) := by
  have HN := Lib.hid (Recs.of_own ef_len h (by omega)).1
  go_enter Try.func44, Try.ntmps44
  go_wp2_with fail
  go_loopw [1, 5] (fun v i wr => ∃ t : Nat, t ≤ n ∧ i = .int .i64 (t : Int) ∧ v = .int .i64 (k + 2 * t) ∧ wr.ownsRow B 52 2 (.slice D n c) n (flat ef (mpart es k t n)) ∧ w.grownBy wr (Value.slice D n c).ownBlock) (fun _ i _ => n - (intOf i).toNat)
  case atStart => exact ⟨0, by omega, rfl, by simp, by rw [mpart_zero]; exact h, World.grownBy.refl w _⟩
  case round =>
    clear h
    obtain ⟨t, ht, rfl, rfl, hown, hg⟩ := hrel
    by_cases hlt : t < n
    · obtain ⟨g, xp, xq, rfl, hg0, hg1, HY, ⟨d0, d1⟩, f0, f1⟩ := own_at hown hlt
      have hO := own_put2 hown HY.out (k + 2 * t) (k + 2 * t + 1)
      rw [mpart_next HN.out hlt] at hO
      have hG := hg.trans (grow2 wr g t (.int .i64 (k + 2 * t)) (.int .i64 (k + 2 * t + 1)))
      have i1 : (0 : Int) ≤ (t : Int) := by omega
      have i2 : (t : Int) < (n : Int) := by omega
      clear hown hg HY
      go_wp2_with fail
      go_roundw
      case rel => exact ⟨t + 1, by omega, by go_num, by go_num, hO, hG⟩
      case measure => simp [intOf]; omega
    · have HE := Lib.hid (mpart_all (k := k) HN.out hlt)
      rw [HE.out] at hown
      obtain rfl : t = n := by omega
      go_wp2_with fail
      go_ret
      exact ⟨rfl, hown, hg⟩
set_option maxHeartbeats 2000000 in
/-- laws.heldEntryS at entries that are marked. -/
theorem helde_any (A : Option Addr) (n c : Nat) (k : Int) (w : World) (hx : Recs ef 2 w w.heap.size A (mkL k n)) (hm : n ≤ 1048577) (k0 : 0 ≤ k) (k1 : k ≤ 16777216) :
    Calls Try.prog 45 #[.slice A n c, .int .i64 k] w fun e w' => e = .returned (.int .i64 (k + 2 * n)) ∧ Below w.heap.size w w' := by
  go_enter Try.func45, Try.ntmps45
  go_wp2_with fail
  go_loopw [1, 5] (fun v i wr => ∃ t : Nat, t ≤ n ∧ i = .int .i64 (t : Int) ∧ v = .int .i64 (k + 2 * t) ∧ Below w.heap.size w wr) (fun _ i _ => n - (intOf i).toNat)
  case atStart => exact ⟨0, by omega, rfl, by simp, Below.refl _ _⟩
  case round =>
    obtain ⟨t, ht, rfl, rfl, hB⟩ := hrel
    by_cases hlt : t < n
    · obtain ⟨ob, o, xp, xq, rfl, hbb, HX, c0, c1⟩ := ents_at (hx.on hB) (k := t) (by rw [mkL_len]; exact hlt)
      obtain ⟨rfl, rfl⟩ : xp = k + 2 * t ∧ xq = k + 2 * t + 1 := by
        have h := HX.out
        rw [mkL_at k hlt] at h
        injection h with h
        injection h with h1 h2
        exact ⟨h1.symm, h2.symm⟩
      have i1 : (0 : Int) ≤ (t : Int) := by omega
      have i2 : (t : Int) < (n : Int) := by omega
      go_wp2_with fail
      go_roundw
      case rel => exact ⟨t + 1, by omega, by go_num, by go_num, hB⟩
      case measure => simp [intOf]; omega
    · obtain rfl : t = n := by omega
      go_wp2_with fail
      go_ret
      exact ⟨rfl, hB⟩

/-! ### Ledgers -/
set_option maxHeartbeats 1000000 in
/-- laws.szLedger. -/
theorem szl_any (b : Int) (A : Option Addr) (n c : Nat) (w : World) (l : Int) (h0 : 0 ≤ l) (h1 : l ≤ 1048576) (hn : n ≤ 9223372036854775807) :
    Calls Try.prog 16 #[.agg #[.int .i64 b, .slice A n c], .int .i64 l] w fun e w' => e = .returned (.int .i64 (if (n : Int) ≤ l then l - n else -1)) ∧ Below w.heap.size w w' := by
  by_cases h : (n : Int) ≤ l
  · have hs := fun W => sze_any A n c W l h0 h1 hn
    simp only [if_pos h] at hs
    rw [if_pos h]
    go_enter Try.func16, Try.ntmps16
    go_wp2_with (go_at_call 36; refine (hs _).mono ?_; rintro e w' ⟨rfl, rfl⟩)
    go_ret
    exact ⟨rfl, below_one _ _⟩
  · have hs := fun W => sze_any A n c W l h0 h1 hn
    simp only [if_neg h] at hs
    rw [if_neg h]
    go_enter Try.func16, Try.ntmps16
    go_wp2_with (go_at_call 36; refine (hs _).mono ?_; rintro e w' ⟨rfl, rfl⟩)
    go_ret
    exact ⟨rfl, below_one _ _⟩
theorem grow_alloc {w w1 : World} {row : Option Nat} (h : w.grownBy w1 row) (o : Obj) : w.grownBy (w1.alloc o) row :=
  ⟨h.os, h.tape, h.output, Nat.le_trans h.size (by simp), fun i hi hne => (Below.heap_alloc w1 o i (Nat.lt_of_lt_of_le hi h.size)).trans (h.block i hi hne)⟩
/-- What toLedger leaves. -/
def ToLQ (b : Int) (es : List (Int × Int)) (n : Nat) (w : World) (e : Ending) (w' : World) : Prop :=
  ∃ (D : Option Addr) (c : Nat), e = .returned (.agg #[.int .i64 b, .slice D n c]) ∧ w'.ownsRow w.heap.size 52 2 (.slice D n c) n (flat ef es) ∧ Below w.heap.size w w'
set_option maxHeartbeats 2000000 in
/-- laws.toLedger. -/
theorem toled_any (b : Int) (A : Option Addr) (n c : Nat) (es : List (Int × Int)) (w : World) (hx : Recs ef 2 w w.heap.size A es) (hn : es.length = n) (hm : n ≤ 1048576) :
    Calls Try.prog 18 #[.agg #[.int .i64 b, .slice A n c]] w (ToLQ b es n w) := by
  have HN := Lib.hid hn
  clear hn
  go_enter Try.func18, Try.ntmps18
  go_wp2_with fail
  refine (toens_any A n c es _ (((hx.alloc _).alloc _).alloc _) HN.out hm).mono ?_
  rintro e w1 ⟨D, c1, rfl, hown, hb⟩
  have hB : Below w.heap.size w w1 := (below_three w _ _ _).trans (hb.mono (by simp; omega))
  have hown : w1.ownsRow (w.heap.size + 3) 52 2 (.slice D n c1) n (flat ef es) := own_base hown (by simp)
  have h2 : EB w1 25 (w.heap.size + 2) b (.slice none 0 0) := EB.below (by have := EB.new ((w.alloc (.cells #[.int .i64 b, .slice A n c] 36)).alloc (.cells #[.int .i64 0, .slice none 0 0] 25)) 25 b (.slice none 0 0); simpa using this) hb
  have h1 : EB w1 25 (w.heap.size + 1) 0 (.slice none 0 0) := EB.below (EB.alloc (by have := EB.new (w.alloc (.cells #[.int .i64 b, .slice A n c] 36)) 25 0 (.slice none 0 0); simpa using this) _) hb
  obtain ⟨x0, x1, -, x2⟩ := h2.facts
  obtain ⟨y0, y1, y2, y3⟩ := h1.facts
  clear hb
  go_wp2_with fail
  refine bodyPost_ret (v := .agg #[.int .i64 b, .slice D n c1]) (by simp [results, Try.results18, go_sem, *]) rfl ⟨D, c1, rfl, ?_, ?_⟩
  · exact own_base (ownsRow_setCell_below (ownsRow_setCell_below (ownsRow_setCell_below hown (by show w.heap.size + 2 < _; omega) _) (by show w.heap.size + 1 < _; omega) _) (by show w.heap.size + 1 < _; omega) _) (by omega)
  · exact ((hB.setCell (by show _ ≤ w.heap.size + 2; omega) _).setCell (by show _ ≤ w.heap.size + 1; omega) _).setCell (by show _ ≤ w.heap.size + 1; omega) _
set_option maxHeartbeats 1000000 in
/-- laws.eqLedger at ledgers that read alike. -/
theorem eqled_t (b : Int) (A1 A2 : Option Addr) (n c1 c2 : Nat) (es : List (Int × Int)) (w : World) (hx1 : Recs ef 2 w w.heap.size A1 es) (hx2 : Recs ef 2 w w.heap.size A2 es) (hn : es.length = n) (hm : n ≤ 4194304) :
    Calls Try.prog 20 #[.agg #[.int .i64 b, .slice A1 n c1], .agg #[.int .i64 b, .slice A2 n c2]] w fun e w' => e = .returned (.bool true) ∧ Below w.heap.size w w' := by
  have HN := Lib.hid hn
  clear hn
  go_enter Try.func20, Try.ntmps20
  go_wp2_with fail
  refine (eqens_t A1 A2 n c1 c2 es _ ((hx1.alloc _).alloc _) ((hx2.alloc _).alloc _) HN.out hm).mono ?_
  rintro e w1 ⟨rfl, hb⟩
  go_wp2_with fail
  go_ret
  exact ⟨rfl, (below_two w _ _).trans (hb.mono (by simp; omega))⟩
set_option maxHeartbeats 1000000 in
/-- laws.markLedger. -/
theorem markl_any (b : Int) (D : Option Addr) (n c B : Nat) (es : List (Int × Int)) (k : Int) (w : World) (h : w.ownsRow B 52 2 (.slice D n c) n (flat ef es)) (hm : n ≤ 1048577) (k0 : 0 ≤ k) (k1 : k ≤ 16777216) :
    Calls Try.prog 26 #[.agg #[.int .i64 b, .slice D n c], .int .i64 k] w (MkQ D n c B k w) := by
  go_enter Try.func26, Try.ntmps26
  go_wp2_with fail
  refine (marke_any D n c B es k _ (h.alloc _) hm k0 k1).mono ?_
  rintro e w1 ⟨rfl, hown, hg⟩
  go_wp2_with fail
  go_ret
  exact ⟨rfl, hown, (grow_alloc (World.grownBy.refl w _) _).trans hg⟩
set_option maxHeartbeats 1000000 in
/-- laws.heldLedger at a ledger that is marked. -/
theorem heldl_any (b : Int) (A : Option Addr) (n c : Nat) (k : Int) (w : World) (hx : Recs ef 2 w w.heap.size A (mkL k n)) (hm : n ≤ 1048577) (k0 : 0 ≤ k) (k1 : k ≤ 16777216) :
    Calls Try.prog 27 #[.agg #[.int .i64 b, .slice A n c], .int .i64 k] w fun e w' => e = .returned (.int .i64 (k + 2 * n)) ∧ Below w.heap.size w w' := by
  go_enter Try.func27, Try.ntmps27
  go_wp2_with fail
  refine (helde_any A n c k _ (hx.alloc _) hm k0 k1).mono ?_
  rintro e w1 ⟨rfl, hb⟩
  go_wp2_with fail
  go_ret
  exact ⟨rfl, (below_one w _).trans (hb.mono (by simp))⟩
end Go.Proofs.Ytjelmfdhkdehkaa
