/-
  The walks of the helpers of exact laws on people: toPersonS, szPersonS, eqPersonS, markPersonS, heldPersonS.
-/
import Derived.Test.YtpjiencegicjbaaDo
import Derived.Test.YtpjiencegicjbaaOpen
import Derived.Deep.RegionLaw
namespace Go.Proofs.Ytpjiencegicjbaa
open Go.RowKit
attribute [local go_sem ↓] Go.wp_at_zero Go.wp_at_succ

/-- People that came in. -/
def IsRecsPerson (w : World) (a : Option Addr) (len cap : Nat) (ps : List Pn) : Prop := ps.length = len ∧ len ≤ cap ∧ cap ≤ maxLen ∧ Recs pf 4 w w.heap.size a ps
def toPn (z : List Int) : Pn := ⟨z.getD 0 0, z.getD 1 0, z.getD 2 0, z.getD 3 0⟩
theorem pf_toPn {z : List Int} (h : z.length = 4) : pf (toPn z) = zf z := by
  match z, h with
  | [a, b, c, d], _ => rfl
theorem isRecsPerson_of {w : World} {a : Option Addr} {len cap : Nat} {zs : List (List Int)} (hl : len ≤ cap) (hm : cap ≤ maxLen) (hz : zs.length = len) (hzz : ∀ z ∈ zs, z.length = 4) (hr : Recs zf 4 w w.heap.size a zs) : ∃ ps, IsRecsPerson w a len cap ps :=
  ⟨zs.map toPn, by rw [List.length_map]; exact hz, hl, hm, hr.map_of toPn fun z h => pf_toPn (hzz z h)⟩
theorem intsPerson {fs : Array Field} (h : Try.prog.underlying 53 = some (.struct fs)) : ∀ (j : Nat) (f : Field), fs[j]? = some f → Try.prog.underlying f.type = some (.int .i64) := by
  have hu := Try.underlying53
  rw [hu] at h
  injection h with h
  injection h with h
  subst h
  intro j f hf
  match j, hf with
  | 0, hf => simp at hf; subst hf; exact Try.underlying3
  | 1, hf => simp at hf; subst hf; exact Try.underlying3
  | 2, hf => simp at hf; subst hf; exact Try.underlying3
  | 3, hf => simp at hf; subst hf; exact Try.underlying3
  | n + 4, hf => simp at hf

set_option maxHeartbeats 400000 in
/-- laws.szPersonS. -/
theorem szp_any (A : Option Addr) (n c : Nat) (w : World) (l : Int) (h0 : 0 ≤ l) (h1 : l ≤ 1048576) (hn : n ≤ 9223372036854775807) :
    Calls Try.prog 8 #[.slice A n c, .int .i64 l] w fun e w' => e = .returned (.int .i64 (if (n : Int) ≤ l then l - n else -1)) ∧ w = w' := by
  by_cases h : (n : Int) ≤ l
  · rw [if_pos h]
    go_enter Try.func8, Try.ntmps8
    go_wp2
    go_ret
    exact ⟨rfl, rfl⟩
  · rw [if_neg h]
    go_enter Try.func8, Try.ntmps8
    go_wp2
    go_ret
    exact ⟨rfl, rfl⟩
set_option maxHeartbeats 1000000 in
/-- laws.toPerson. -/
theorem toper_any (a j s p : Int) (w : World) : Calls Try.prog 31 #[.agg #[.int .i64 a, .int .i64 j, .int .i64 s, .int .i64 p]] w
    fun e w' => e = .returned (.agg #[.int .i64 a, .int .i64 j, .int .i64 s, .int .i64 p]) ∧ Below w.heap.size w w' := by
  go_enter Try.func31, Try.ntmps31
  go_wp2_with fail
  refine bodyPost_ret (v := .agg #[.int .i64 a, .int .i64 j, .int .i64 s, .int .i64 p]) (by simp [results, Try.results31, go_sem, *]) rfl ⟨rfl, ?_⟩
  exact ((below_two w _ _).trans ((below_one _ _).mono (by simp; omega)))
theorem made_people (n : Nat) : (madeCells (Value.agg #[.int .i64 0, .int .i64 0, .int .i64 0, .int .i64 0]).cells (n * 4)).toList = flat pf (List.replicate n z4) := by
  refine List.ext_getElem? fun i => ?_
  rcases Nat.lt_or_ge i (n * 4) with hi | hi
  · have hlen : (flat pf (List.replicate n z4)).length = n * 4 := by rw [flat_len (sz := 4) pf_len, List.length_replicate]
    obtain ⟨u, hu⟩ : ∃ u, (flat pf (List.replicate n z4))[i]? = some u := ⟨_, List.getElem?_eq_getElem (by omega)⟩
    obtain ⟨k, q, x, rfl, hq, hx, hxu⟩ := flat_of (sz := 4) pf_len hu
    have hx := List.eq_of_mem_replicate (mem_of_at hx)
    subst hx
    rw [hu]
    have hu0 : u = .int .i64 0 := by
      match q, hq, hxu with
      | 0, _, h => simpa [pf, z4] using h.symm
      | 1, _, h => simpa [pf, z4] using h.symm
      | 2, _, h => simpa [pf, z4] using h.symm
      | 3, _, h => simpa [pf, z4] using h.symm
    subst hu0
    have hm : (k * 4 + q) % 4 = q := by omega
    simp only [madeCells, Array.toList_map, Array.toList_range, List.getElem?_map, List.getElem?_range hi, Option.map_some, Value.cells]
    show some (#[Value.int .i64 0, .int .i64 0, .int .i64 0, .int .i64 0][(k * 4 + q) % 4]!) = _
    rw [hm]
    match q, hq with
    | 0, _ => rfl
    | 1, _ => rfl
    | 2, _ => rfl
    | 3, _ => rfl
  · rw [List.getElem?_eq_none (by simpa [size_madeCells] using hi), List.getElem?_eq_none (by rw [flat_len (sz := 4) pf_len, List.length_replicate]; exact hi)]
/-- Four cells stored. -/
theorem own_put4 {w : World} {base n c i g : Nat} {ps : List Pn} {x : Pn} (h : w.ownsRow base 51 4 (.slice (some ⟨g, 0, none⟩) n c) n (flat pf ps)) (hx : ps[i]? = some x) (a j s p : Int) :
    ((((w.setCell ⟨g, i * 4, none⟩ (.int .i64 a)).setCell ⟨g, i * 4 + 1, none⟩ (.int .i64 j)).setCell ⟨g, i * 4 + 2, none⟩ (.int .i64 s)).setCell ⟨g, i * 4 + 3, none⟩ (.int .i64 p)).ownsRow base 51 4 (.slice (some ⟨g, 0, none⟩) n c) n (flat pf (ps.set i ⟨a, j, s, p⟩)) := by
  have hi := lt_of_at hx
  have s1 := own_set (j := 0) (y := ⟨a, x.job, x.sex, x.pay⟩) (u := .int .i64 a) h hx (by omega) rfl
  have s2 := own_set (j := 1) (x := ⟨a, x.job, x.sex, x.pay⟩) (y := ⟨a, j, x.sex, x.pay⟩) (u := .int .i64 j) s1 (List.getElem?_set_self hi) (by omega) rfl
  rw [List.set_set] at s2
  have s3 := own_set (j := 2) (x := ⟨a, j, x.sex, x.pay⟩) (y := ⟨a, j, s, x.pay⟩) (u := .int .i64 s) s2 (List.getElem?_set_self hi) (by omega) rfl
  rw [List.set_set] at s3
  have s4 := own_set (j := 3) (x := ⟨a, j, s, x.pay⟩) (y := ⟨a, j, s, p⟩) (u := .int .i64 p) s3 (List.getElem?_set_self hi) (by omega) rfl
  rw [List.set_set] at s4
  exact s4
theorem grow4 (w : World) (g i : Nat) (u0 u1 u2 u3 : Value) : w.grownBy ((((w.setCell ⟨g, i * 4, none⟩ u0).setCell ⟨g, i * 4 + 1, none⟩ u1).setCell ⟨g, i * 4 + 2, none⟩ u2).setCell ⟨g, i * 4 + 3, none⟩ u3) (some g) :=
  ⟨rfl, rfl, rfl, by simp [World.setCell], fun j _ hne => by
    have hj : j ≠ g := fun e => hne (by rw [e])
    rw [Below.heap_setCell _ _ _ j hj, Below.heap_setCell _ _ _ j hj, Below.heap_setCell _ _ _ j hj, Below.heap_setCell _ _ _ j hj]⟩
/-- What has been copied so far. -/
def part (ps : List Pn) (k n : Nat) : List Pn := ps.take k ++ List.replicate (n - k) z4
theorem part_zero (ps : List Pn) (n : Nat) : part ps 0 n = List.replicate n z4 := by simp [part]
theorem part_all {ps : List Pn} {n k : Nat} (hn : ps.length = n) (hk : ¬ k < n) : part ps k n = ps := by
  unfold part; rw [List.take_of_length_le (by omega), show n - k = 0 by omega]; simp
theorem part_at {ps : List Pn} {n k : Nat} (hn : ps.length = n) (hk : k < n) : (part ps k n)[k]? = some z4 := by
  unfold part
  rw [List.getElem?_append_right (by rw [List.length_take]; omega), List.length_take, show k - min k ps.length = 0 by omega, List.getElem?_replicate, if_pos (by omega)]
theorem part_next {ps : List Pn} {n k : Nat} {x : Pn} (hn : ps.length = n) (hk : ps[k]? = some x) : (part ps k n).set k x = part ps (k + 1) n := by
  have hlt := lt_of_at hk
  unfold part
  rw [take_next hk, List.set_append_right _ _ (by rw [List.length_take]; omega), List.length_take, show k - min k ps.length = 0 by omega, show n - k = (n - (k + 1)) + 1 by omega, List.replicate_succ, List.set_cons_zero, List.append_assoc]; rfl
/-- People that are marked with numbers from k on. -/
def mkL (k : Int) : Nat → List Pn
  | 0 => []
  | n + 1 => ⟨k, k + 1, k + 1 + 1, k + 1 + 1 + 1⟩ :: mkL (k + 4) n
theorem mkL_len (k : Int) (n : Nat) : (mkL k n).length = n := by
  induction n generalizing k with
  | zero => rfl
  | succ n ih => simp [mkL, ih]
theorem mkL_at (k : Int) {n i : Nat} (hi : i < n) : (mkL k n)[i]? = some ⟨k + 4 * i, k + 4 * i + 1, k + 4 * i + 1 + 1, k + 4 * i + 1 + 1 + 1⟩ := by
  induction n generalizing k i with
  | zero => omega
  | succ n ih =>
    cases i with
    | zero => simp [mkL]
    | succ i =>
      simp only [mkL, List.getElem?_cons_succ]
      rw [ih (k + 4) (by omega)]
      have e : k + 4 + 4 * (i : Int) = k + 4 * ((i + 1 : Nat) : Int) := by omega
      rw [e]
/-- Marked so far. -/
def mpart (ps : List Pn) (k : Int) (i n : Nat) : List Pn := (mkL k n).take i ++ ps.drop i
theorem mpart_zero (ps : List Pn) (k : Int) (n : Nat) : mpart ps k 0 n = ps := by simp [mpart]
theorem mpart_all {ps : List Pn} {k : Int} {n i : Nat} (hn : ps.length = n) (hi : ¬ i < n) : mpart ps k i n = mkL k n := by
  unfold mpart; rw [List.take_of_length_le (by rw [mkL_len]; omega), List.drop_of_length_le (by omega), List.append_nil]
theorem mpart_len {ps : List Pn} {k : Int} {n i : Nat} (hn : ps.length = n) (hi : i ≤ n) : (mpart ps k i n).length = n := by
  unfold mpart; rw [List.length_append, List.length_take, List.length_drop, mkL_len]; omega
theorem mpart_next {ps : List Pn} {k : Int} {n i : Nat} (hn : ps.length = n) (hi : i < n) : (mpart ps k i n).set i ⟨k + 4 * i, k + 4 * i + 1, k + 4 * i + 1 + 1, k + 4 * i + 1 + 1 + 1⟩ = mpart ps k (i + 1) n := by
  unfold mpart
  have hl : ((mkL k n).take i).length = i := by rw [List.length_take, mkL_len]; omega
  rw [take_next (mkL_at k hi), List.set_append_right _ _ (by omega), hl, Nat.sub_self, List.drop_eq_getElem_cons (by omega), List.set_cons_zero, List.append_assoc]; rfl
/-- A row that was made earlier is another row. -/
theorem own_apart {w1 w2 : World} {b1 s1 s2 n1 n2 : Nat} {t1 t2 : TypeId} {v1 v2 : Value} {x1 x2 : List Value} (h1 : w1.ownsRow b1 t1 s1 v1 n1 x1) (h2 : w2.ownsRow w1.heap.size t2 s2 v2 n2 x2) : v1.ownBlock = none ∨ v1.ownBlock ≠ v2.ownBlock := by
  rcases e1 : v1.ownBlock with _ | g1
  · exact .inl rfl
  · right
    intro e
    have h3 := (h1.lt g1 e1).2
    have h4 := (h2.lt g1 e.symm).1
    omega
theorem grown_below {w w' : World} {base n c : Nat} {D : Option Addr} {t : TypeId} {size : Nat} {xs : List Value} {B : Nat} (h : w.ownsRow base t size (.slice D n c) n xs) (hg : w.grownBy w' (Value.slice D n c).ownBlock) (hB : B ≤ base) (hz : B ≤ w.heap.size) : Below B w w' :=
  (Below.refl B w).grown hg hz (fun k e => Nat.le_trans hB (h.lt k e).1)
/-- What toPersonS leaves. -/
def ToQ (ps : List Pn) (n : Nat) (w : World) (e : Ending) (w' : World) : Prop :=
  ∃ (D : Option Addr) (c : Nat), e = .returned (.slice D n c) ∧ w'.ownsRow w.heap.size 51 4 (.slice D n c) n (flat pf ps) ∧ Below w.heap.size w w'
set_option maxHeartbeats 2000000 in
/-- laws.toPersonS. -/
theorem topers_any (A : Option Addr) (n c : Nat) (ps : List Pn) (w : World) (hx : Recs pf 4 w w.heap.size A ps) (hn : ps.length = n) (hm : n ≤ 1048576) :
    Calls Try.prog 10 #[.slice A n c] w (ToQ ps n w) := by
  obtain ⟨i9, hi0, hz0, hz1, hz2⟩ := info_parts pn_info
  have HN := Lib.hid hn
  clear hn
  have b2 : i9.bytes * n ≤ 281474976710656 := by rw [hz2]; omega
  have b3 : n ≤ maxLen := by simp only [maxLen]; omega
  go_enter Try.func10, Try.ntmps10
  go_wp2_with (at_make; refine wpList_make_full _ rfl _ _ 25 rfl w.heap.size 51 i9 (.agg #[.int .i64 0, .int .i64 0, .int .i64 0, .int .i64 0]) 4 Try.underlying25 hi0 hz0 hz1 .i64 .i64 _ _ n rfl rfl rfl rfl b2 b3 (Nat.le_refl _) ?_)
  intro w1 hown hg
  have hb1 : Below w.heap.size w w1 := (Below.refl _ _).grown hg (Nat.le_refl _) (fun k e => by cases e)
  have hown : w1.ownsRow w.heap.size 51 4 (.slice (some ⟨w.heap.size, 0, none⟩) n n) n (flat pf (part ps 0 n)) := by rw [part_zero, ← made_people]; exact hown
  clear hg b2 b3 hi0 hz0 hz1 hz2
  go_wp2_with fail
  go_loopw [4] (fun i wr => ∃ k : Nat, k ≤ n ∧ i = .int .i64 (k : Int) ∧ wr.ownsRow w.heap.size 51 4 (.slice (some ⟨w.heap.size, 0, none⟩) n n) n (flat pf (part ps k n)) ∧ Below w.heap.size w wr) (fun i _ => n - (intOf i).toNat)
  case atStart => exact ⟨0, by omega, rfl, hown, hb1⟩
  case round =>
    clear hown hb1
    obtain ⟨k, hk, rfl, hown, hB⟩ := hrel
    by_cases hlt : k < n
    · obtain ⟨b, o, a, j, s, p, rfl, hbb, HX, c0, c1, c2, c3⟩ := ppl_at (hx.on hB) (k := k) (by have := HN.out; omega)
      have k0 : (0 : Int) ≤ (k : Int) := by omega
      have k1 : (k : Int) < (n : Int) := by omega
      go_wp2_with fail
      refine (toper_any a j s p _).mono ?_
      rintro e w2 ⟨rfl, hb2⟩
      have hown := own_below hown hb2
      have hB := below_next hB hb2
      obtain ⟨g, xa, xj, xs, xp, hg, hg0, hg1, HY, ⟨d0, d1, d2, d3⟩, f0, f1, f2, f3⟩ := own_at hown hlt
      injection hg with hg
      injection hg with hg
      subst hg
      have hO := own_put4 hown (part_at HN.out hlt) a j s p
      rw [part_next HN.out HX.out] at hO
      have hB2 := (((hB.setCell (p := ⟨w.heap.size, k * 4, none⟩) (Nat.le_refl _) (.int .i64 a)).setCell (p := ⟨w.heap.size, k * 4 + 1, none⟩) (Nat.le_refl _) (.int .i64 j)).setCell (p := ⟨w.heap.size, k * 4 + 2, none⟩) (Nat.le_refl _) (.int .i64 s)).setCell (p := ⟨w.heap.size, k * 4 + 3, none⟩) (Nat.le_refl _) (.int .i64 p)
      clear hown hB HY
      go_wp2_with fail
      go_roundw
      case rel => exact ⟨k + 1, by omega, by go_num, hO, hB2⟩
      case measure => simp [intOf]; omega
    · have HE := Lib.hid (part_all HN.out hlt)
      rw [HE.out] at hown
      go_wp2_with fail
      go_ret
      exact ⟨_, _, rfl, hown, hB⟩
set_option maxHeartbeats 1000000 in
/-- laws.eqPerson at one person. -/
theorem eqper_t (a j s p : Int) (w : World) : Calls Try.prog 33 #[.agg #[.int .i64 a, .int .i64 j, .int .i64 s, .int .i64 p], .agg #[.int .i64 a, .int .i64 j, .int .i64 s, .int .i64 p]] w
    fun e w' => e = .returned (.bool true) ∧ Below w.heap.size w w' := by
  go_enter Try.func33, Try.ntmps33
  go_wp2_with fail
  go_ret
  exact ⟨rfl, below_two _ _ _⟩
set_option maxHeartbeats 1000000 in
/-- laws.eqPersonS at people that read alike. -/
theorem eqpers_t (A1 A2 : Option Addr) (n c1 c2 : Nat) (ps : List Pn) (w : World) (hx1 : Recs pf 4 w w.heap.size A1 ps) (hx2 : Recs pf 4 w w.heap.size A2 ps) (hn : ps.length = n) (hm : n ≤ 4194304) :
    Calls Try.prog 12 #[.slice A1 n c1, .slice A2 n c2] w fun e w' => e = .returned (.bool true) ∧ Below w.heap.size w w' := by
  have HN := Lib.hid hn
  clear hn
  go_enter Try.func12, Try.ntmps12
  go_wp2_with fail
  go_loopw [5] (fun i wr => ∃ k : Nat, k ≤ n ∧ i = .int .i64 (k : Int) ∧ Below w.heap.size w wr) (fun i _ => n - (intOf i).toNat)
  case atStart => exact ⟨0, by omega, rfl, Below.refl _ _⟩
  case round =>
    obtain ⟨k, hk, rfl, hB⟩ := hrel
    by_cases hlt : k < n
    · obtain ⟨ob, o, xa, xj, xs, xp, rfl, hbb, HX, c0, c1, c2, c3⟩ := ppl_at (hx1.on hB) (k := k) (by have := HN.out; omega)
      obtain ⟨ob', o', ya, yj, ys, yp, rfl, hbb', HY, d0, d1, d2, d3⟩ := ppl_at (hx2.on hB) (k := k) (by have := HN.out; omega)
      obtain ⟨rfl, rfl, rfl, rfl⟩ : xa = ya ∧ xj = yj ∧ xs = ys ∧ xp = yp := by
        have h := HX.out
        rw [HY.out] at h
        injection h with h
        injection h with h1 h2 h3 h4
        exact ⟨h1.symm, h2.symm, h3.symm, h4.symm⟩
      have i1 : (0 : Int) ≤ (k : Int) := by omega
      have i2 : (k : Int) < (n : Int) := by omega
      go_wp2_with fail
      go_region_held3 (fun w' => w'.cell? ⟨ob, o + k * 4, none⟩ = some (.int .i64 xa) ∧ w'.cell? ⟨ob, o + k * 4 + 1, none⟩ = some (.int .i64 xj) ∧ w'.cell? ⟨ob, o + k * 4 + 2, none⟩ = some (.int .i64 xs) ∧ w'.cell? ⟨ob, o + k * 4 + 3, none⟩ = some (.int .i64 xp) ∧ w'.cell? ⟨ob', o' + k * 4, none⟩ = some (.int .i64 xa) ∧ w'.cell? ⟨ob', o' + k * 4 + 1, none⟩ = some (.int .i64 xj) ∧ w'.cell? ⟨ob', o' + k * 4 + 2, none⟩ = some (.int .i64 xs) ∧ w'.cell? ⟨ob', o' + k * 4 + 3, none⟩ = some (.int .i64 xp)) (go_keep)
        (first
          | (go_at_call 33
             refine (eqper_t xa xj xs xp _).mono ?_
             rintro e w5 ⟨rfl, hb5⟩
             have hc5 := bcell hb5
             have e0 := (hc5.1 ob (o + k * 4) hbb).trans c0
             have e1 := (hc5.1 ob (o + k * 4 + 1) hbb).trans c1
             have e2 := (hc5.1 ob (o + k * 4 + 2) hbb).trans c2
             have e3 := (hc5.1 ob (o + k * 4 + 3) hbb).trans c3
             have e4 := (hc5.1 ob' (o' + k * 4) hbb').trans d0
             have e5 := (hc5.1 ob' (o' + k * 4 + 1) hbb').trans d1
             have e6 := (hc5.1 ob' (o' + k * 4 + 2) hbb').trans d2
             have e7 := (hc5.1 ob' (o' + k * 4 + 3) hbb').trans d3
             clear hc5
             have hB := below_next hB.drew hb5))
      all_goals
        go_wp2_with fail
        go_roundw
        case rel => exact ⟨k + 1, by omega, by go_num, hB⟩
        case measure => simp [intOf]; omega
    · go_wp2_with fail
      go_ret
      exact ⟨rfl, hB⟩
/-- What markPersonS leaves. -/
def MkQ (D : Option Addr) (n c : Nat) (B : Nat) (k : Int) (w : World) (e : Ending) (w' : World) : Prop :=
  e = .returned (.int .i64 (k + 4 * n)) ∧ w'.ownsRow B 51 4 (.slice D n c) n (flat pf (mkL k n)) ∧ w.grownBy w' (Value.slice D n c).ownBlock
set_option maxHeartbeats 2000000 in
/-- laws.markPersonS. -/
theorem mark_any (D : Option Addr) (n c B : Nat) (ps : List Pn) (k : Int) (w : World) (h : w.ownsRow B 51 4 (.slice D n c) n (flat pf ps)) (hm : n ≤ 1048576) (k0 : 0 ≤ k) (k1 : k ≤ 16777216) :
    Calls Try.prog 15 #[.slice D n c, .int .i64 k] w (MkQ D n c B k w) := by
  have HN := Lib.hid (Recs.of_own pf_len h (by omega)).1
  go_enter Try.func15, Try.ntmps15
  go_wp2_with fail
  go_loopw [1, 5] (fun v i wr => ∃ t : Nat, t ≤ n ∧ i = .int .i64 (t : Int) ∧ v = .int .i64 (k + 4 * t) ∧ wr.ownsRow B 51 4 (.slice D n c) n (flat pf (mpart ps k t n)) ∧ w.grownBy wr (Value.slice D n c).ownBlock) (fun _ i _ => n - (intOf i).toNat)
  case atStart => exact ⟨0, by omega, rfl, by simp, by rw [mpart_zero]; exact h, World.grownBy.refl w _⟩
  case round =>
    clear h
    obtain ⟨t, ht, rfl, rfl, hown, hg⟩ := hrel
    by_cases hlt : t < n
    · obtain ⟨g, xa, xj, xs, xp, rfl, hg0, hg1, HY, ⟨d0, d1, d2, d3⟩, f0, f1, f2, f3⟩ := own_at hown hlt
      have hO := own_put4 hown HY.out (k + 4 * t) (k + 4 * t + 1) (k + 4 * t + 1 + 1) (k + 4 * t + 1 + 1 + 1)
      rw [mpart_next HN.out hlt] at hO
      have hG := hg.trans (grow4 wr g t (.int .i64 (k + 4 * t)) (.int .i64 (k + 4 * t + 1)) (.int .i64 (k + 4 * t + 1 + 1)) (.int .i64 (k + 4 * t + 1 + 1 + 1)))
      have i1 : (0 : Int) ≤ (t : Int) := by omega
      have i2 : (t : Int) < (n : Int) := by omega
      clear hown hg HY
      go_wp2_with fail
      go_roundw
      case rel => exact ⟨t + 1, by omega, by go_num, by go_num, hO, hG⟩
      case measure => simp [intOf]; omega
    · have HE := Lib.hid (mpart_all (k := k) HN.out hlt)
      rw [HE.out] at hown
      obtain rfl : t = n := by omega
      go_wp2_with fail
      go_ret
      exact ⟨rfl, hown, hg⟩
set_option maxHeartbeats 2000000 in
/-- laws.heldPersonS at people that are marked. -/
theorem held_any (A : Option Addr) (n c : Nat) (k : Int) (w : World) (hx : Recs pf 4 w w.heap.size A (mkL k n)) (hm : n ≤ 1048576) (k0 : 0 ≤ k) (k1 : k ≤ 16777216) :
    Calls Try.prog 16 #[.slice A n c, .int .i64 k] w fun e w' => e = .returned (.int .i64 (k + 4 * n)) ∧ Below w.heap.size w w' := by
  go_enter Try.func16, Try.ntmps16
  go_wp2_with fail
  go_loopw [1, 5] (fun v i wr => ∃ t : Nat, t ≤ n ∧ i = .int .i64 (t : Int) ∧ v = .int .i64 (k + 4 * t) ∧ Below w.heap.size w wr) (fun _ i _ => n - (intOf i).toNat)
  case atStart => exact ⟨0, by omega, rfl, by simp, Below.refl _ _⟩
  case round =>
    obtain ⟨t, ht, rfl, rfl, hB⟩ := hrel
    by_cases hlt : t < n
    · obtain ⟨ob, o, xa, xj, xs, xp, rfl, hbb, HX, c0, c1, c2, c3⟩ := ppl_at (hx.on hB) (k := t) (by rw [mkL_len]; exact hlt)
      obtain ⟨rfl, rfl, rfl, rfl⟩ : xa = k + 4 * t ∧ xj = k + 4 * t + 1 ∧ xs = k + 4 * t + 1 + 1 ∧ xp = k + 4 * t + 1 + 1 + 1 := by
        have h := HX.out
        rw [mkL_at k hlt] at h
        injection h with h
        injection h with h1 h2 h3 h4
        exact ⟨h1.symm, h2.symm, h3.symm, h4.symm⟩
      have i1 : (0 : Int) ≤ (t : Int) := by omega
      have i2 : (t : Int) < (n : Int) := by omega
      go_wp2_with fail
      go_roundw
      case rel => exact ⟨t + 1, by omega, by go_num, by go_num, hB⟩
      case measure => simp [intOf]; omega
    · obtain rfl : t = n := by omega
      go_wp2_with fail
      go_ret
      exact ⟨rfl, hB⟩
end Go.Proofs.Ytpjiencegicjbaa
