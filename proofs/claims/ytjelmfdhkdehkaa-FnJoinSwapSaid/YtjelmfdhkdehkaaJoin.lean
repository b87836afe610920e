/-
  The walks of slices.Grow and slices.Concat at entries, and of the program's LedgerJoin.
-/
import Derived.Test.YtjelmfdhkdehkaaRes
import Derived.Test.YtjelmfdhkdehkaaToL
import Derived.Lib.AppendZeros
namespace Go.Proofs.Ytjelmfdhkdehkaa
open Go.RowKit
attribute [local go_sem ↓] Go.wp_at_zero Go.wp_at_succ

/-- What slices.Grow leaves at nil: an empty row of its own. -/
def GrowQ (w : World) (e : Ending) (w' : World) : Prop :=
  ∃ (D : Option Addr) (c : Nat), e = .returned (.slice D 0 c) ∧ w'.ownsRow w.heap.size 52 2 (.slice D 0 c) 0 [] ∧ Below w.heap.size w w'
set_option maxHeartbeats 1000000 in
/-- slices.Grow at nil. -/
theorem grow_any (m : Nat) (w : World) (hm : m ≤ 4194304) : Calls Try.prog 46 #[.slice none 0 0, .int .i64 m] w (GrowQ w) := by
  obtain ⟨i0, hi0, hz0, hz1, hz2⟩ := info_parts en_info
  by_cases h0 : m = 0
  · subst h0
    go_enter Try.func46, Try.ntmps46
    go_wp2
    go_ret
    exact ⟨none, 0, rfl, World.ownsRow_nil _ _ _ _, Below.refl _ _⟩
  · have hrz := fun ty => Lib.run_append_nil_zeros (P := Try.prog) w 23 3 ty 52 i0 (.agg #[.int .i64 0, .int .i64 0]) .i64 .i64 Try.underlying23 Try.underlying3 hi0 hz0 m (by omega) (by omega) (by omega) (by rw [hz2]; omega)
    have hG1 : m ≤ grownCap w m 0 52 := grownCap_ge w _ _ _
    have hG2 : grownCap w m 0 52 ≤ maxLen := grownCap_le_maxLen w m 0 _ (by unfold maxLen; omega)
    obtain ⟨G, hG⟩ : ∃ G, grownCap w m 0 52 = G := ⟨_, rfl⟩
    rw [hG] at hG1 hG2
    simp only [hG] at hrz
    clear hG
    obtain ⟨Z, hZ⟩ : ∃ Z, Builtin.zeroCells (Value.agg #[.int .i64 0, .int .i64 0]).cells m ++ Builtin.zeroCells (Value.agg #[.int .i64 0, .int .i64 0]).cells (G - m) = Z := ⟨_, rfl⟩
    have hZs : Z.size = G * 2 := by
      rw [← hZ, Array.size_append, size_zeroCells, size_zeroCells]
      show m * 2 + (G - m) * 2 = G * 2
      omega
    simp only [hZ] at hrz
    clear hZ hi0 hz0 hz1 hz2
    have hown : (w.drew.alloc (.cells Z 52)).ownsRow w.heap.size 52 2 (.slice (some ⟨w.heap.size, 0, none⟩) 0 G) 0 [] := World.ownsRow_made w.drew Z G (Nat.le_refl _) hG2 hZs
    have hG3 := len_max hG2
    clear hZs hG2
    go_enter Try.func46, Try.ntmps46
    go_wp2_with (at_builtin; refine Lib.wpList_append_run _ rfl _ _ _ _ rfl _ _ rfl rfl _ _ (hrz _) ?_)
    all_goals
      go_ret
      exact ⟨_, _, rfl, hown, (Below.refl _ _).drew.alloc (Nat.le_refl _) _⟩

/-- What slices.Concat leaves: the entries of both, of its own. -/
def ConQ (es : List (Int × Int)) (n : Nat) (w : World) (e : Ending) (w' : World) : Prop :=
  ∃ (D : Option Addr) (c : Nat), e = .returned (.slice D n c) ∧ w'.ownsRow w.heap.size 52 2 (.slice D n c) n (flat ef es) ∧ Below w.heap.size w w'
/-- What the first k of two lists are. -/
def two (es fs : List (Int × Int)) : Nat → List (Int × Int)
  | 0 => []
  | 1 => es
  | _ => es ++ fs
def twoN (n m : Nat) : Nat → Nat
  | 0 => 0
  | 1 => n
  | _ => n + m
set_option maxHeartbeats 4000000 in
/-- slices.Concat at two slices. -/
theorem concat_any (g : Nat) (A1 A2 : Option Addr) (n c1 m c2 : Nat) (es fs : List (Int × Int)) (w : World) (p0 : w.cell? ⟨g, 0, none⟩ = some (.slice A1 n c1)) (p1 : w.cell? ⟨g, 1, none⟩ = some (.slice A2 m c2))
    (hx1 : Recs ef 2 w w.heap.size A1 es) (hx2 : Recs ef 2 w w.heap.size A2 fs) (hn : es.length = n) (hm : fs.length = m) (bn : n ≤ 1048576) (bm : m ≤ 1048576) :
    Calls Try.prog 32 #[.slice (some ⟨g, 0, none⟩) 2 2] w (ConQ (es ++ fs) (n + m) w) := by
  obtain ⟨i0, hi0, hz0, hz1, hz2⟩ := info_parts en_info
  have HN := Lib.hid hn
  have HM := Lib.hid hm
  clear hn hm
  have hg : g < w.heap.size := World.block_lt_of_cell? _ _ p0
  go_enter Try.func32, Try.ntmps32
  go_wp2_with fail
  go_loop [3, 11] (fun s i => ∃ k : Nat, k ≤ 2 ∧ i = .int .i64 (k : Int) ∧ s = .int .i64 (twoN n m k : Nat)) (fun _ i => 2 - (intOf i).toNat)
  case atStart => exact ⟨0, by omega, rfl, rfl⟩
  case round =>
    obtain ⟨k, hk, rfl, rfl⟩ := hrel
    match k, hk with
    | 0, _ =>
      simp only [twoN]
      go_wp2_with fail
      go_round
      case rel => exact ⟨1, by omega, by go_num, by simp⟩
      case measure => simp [intOf]
    | 1, _ =>
      simp only [twoN]
      go_wp2_with fail
      go_round
      case rel => exact ⟨2, by omega, by go_num, by simp⟩
      case measure => simp [intOf]
    | 2, _ =>
      simp only [twoN]
      go_wp2_with fail
      refine (grow_any (n + m) w (by omega)).mono ?_
      rintro e w1 ⟨D0, c0, rfl, hown0, hb0⟩
      have q0 := (hb0.cell (p := ⟨g, 0, none⟩) hg).trans p0
      have q1 := (hb0.cell (p := ⟨g, 1, none⟩) hg).trans p1
      go_wp2_with fail
      go_loopw [6, 27] (fun s i wr => ∃ (k : Nat) (D : Option Addr) (c : Nat), k ≤ 2 ∧ i = .int .i64 (k : Int) ∧ s = .slice D (twoN n m k) c ∧ wr.ownsRow w.heap.size 52 2 (.slice D (twoN n m k) c) (twoN n m k) (flat ef (two es fs k)) ∧ Below w.heap.size w wr) (fun _ i _ => 2 - (intOf i).toNat)
      case atStart => exact ⟨0, D0, c0, by omega, rfl, rfl, hown0, hb0⟩
      case round =>
        clear hown0 hb0 q0 q1
        obtain ⟨k, D, c, hk, rfl, rfl, hown, hB⟩ := hrel
        have q0 := (hB.cell (p := ⟨g, 0, none⟩) hg).trans p0
        have q1 := (hB.cell (p := ⟨g, 1, none⟩) hg).trans p1
        match k, hk with
        | 0, _ =>
          simp only [twoN, two] at hown ⊢
          have b1 : 0 + n ≤ maxLen := by simp only [maxLen]; omega
          have b2 : (0 + n) * 16 ≤ 140737488355328 := by omega
          have b4 := flat_one_cell ef_one es
          have hs := (hx1.on hB).src ef_len HN.out
          have hz := hB.size
          go_wp2_with (at_builtin; refine wpList_append_src _ rfl _ _ 23 rfl w.heap.size 52 i0 (.agg #[.int .i64 0, .int .i64 0]) 2 16 Try.underlying23 hi0 hz0 hz1 hz2 rfl (by decide) _ 0 _ rfl hown _ n _ (flat ef es) rfl hs b4 b1 b2 hz ?_)
          intro v' w3 hown3 hg3 _
          obtain ⟨D2, c2, rfl⟩ := own_form hown3
          have hB3 := hB.grown hg3 hz (fun k e => (hown.lt k e).1)
          have hown3 : w3.ownsRow w.heap.size 52 2 (.slice D2 n c2) n (flat ef es) := hown3
          clear hown hg3
          go_wp2_with fail
          go_roundw
          case rel => exact ⟨1, D2, c2, by omega, by go_num, by simp, hown3, hB3⟩
          case measure => simp [intOf]
        | 1, _ =>
          simp only [twoN, two] at hown ⊢
          have b1 : n + m ≤ maxLen := by simp only [maxLen]; omega
          have b2 : (n + m) * 16 ≤ 140737488355328 := by omega
          have b4 := flat_one_cell ef_one fs
          have hs := (hx2.on hB).src ef_len HM.out
          have hz := hB.size
          go_wp2_with (at_builtin; refine wpList_append_src _ rfl _ _ 23 rfl w.heap.size 52 i0 (.agg #[.int .i64 0, .int .i64 0]) 2 16 Try.underlying23 hi0 hz0 hz1 hz2 rfl (by decide) _ n _ rfl hown _ m _ (flat ef fs) rfl hs b4 b1 b2 hz ?_)
          intro v' w3 hown3 hg3 _
          obtain ⟨D2, c2, rfl⟩ := own_form hown3
          have hB3 := hB.grown hg3 hz (fun k e => (hown.lt k e).1)
          rw [← flat_append] at hown3
          clear hown hg3
          go_wp2_with fail
          go_roundw
          case rel => exact ⟨2, D2, c2, by omega, by go_num, by simp, hown3, hB3⟩
          case measure => simp [intOf]
        | 2, _ =>
          simp only [twoN, two] at hown ⊢
          go_wp2_with fail
          go_ret
          exact ⟨D, c, rfl, hown, hB⟩
/-- What checked leaves. -/
def CkQ (b : Int) (A : Option Addr) (n c : Nat) (ok : Bool) (w : World) (e : Ending) (w' : World) : Prop :=
  ∃ (rb : Int) (D : Option Addr) (nr cr : Nat), e = .returned (.tuple #[.agg #[.int .i64 rb, .slice D nr cr], .bool ok]) ∧ Hid (ok = true ∧ rb = b ∧ D = A ∧ nr = n ∧ cr = c ∨ ok = false ∧ rb = 0 ∧ D = none ∧ nr = 0 ∧ cr = 0) ∧ Below w.heap.size w w'
theorem checked_r (b : Int) (A : Option Addr) (n c : Nat) (es : List (Int × Int)) (w : World) (hx : Recs ef 2 w w.heap.size A es) (hn : es.length = n) (hm : n ≤ 4194304) :
    Calls Try.prog 31 #[.agg #[.int .i64 b, .slice A n c]] w (CkQ b A n c (ldB b es) w) := by
  cases h : ldB b es
  · exact (checked_f b A n c es w hx hn hm h).mono fun e w' h => ⟨0, none, 0, 0, h.1, .inr ⟨rfl, rfl, rfl, rfl, rfl⟩, h.2⟩
  · exact (checked_t b A n c es w hx hn hm h).mono fun e w' h => ⟨b, A, n, c, h.1, .inl ⟨rfl, rfl, rfl, rfl, rfl⟩, h.2⟩
theorem keep_far4 {w : World} {g0 g1 g : Nat} {v0 v1 v2 v3 u0 u1 : Value} (h0 : w.cell? ⟨g0, 0, none⟩ = some v0) (h1 : w.cell? ⟨g0, 1, none⟩ = some v1) (h2 : w.cell? ⟨g1, 0, none⟩ = some v2) (h3 : w.cell? ⟨g1, 1, none⟩ = some v3) (n0 : g0 ≠ g) (n1 : g1 ≠ g) :
    ((w.setCell ⟨g, 0, none⟩ u0).setCell ⟨g, 1, none⟩ u1).cell? ⟨g0, 0, none⟩ = some v0 ∧ ((w.setCell ⟨g, 0, none⟩ u0).setCell ⟨g, 1, none⟩ u1).cell? ⟨g0, 1, none⟩ = some v1 ∧ ((w.setCell ⟨g, 0, none⟩ u0).setCell ⟨g, 1, none⟩ u1).cell? ⟨g1, 0, none⟩ = some v2 ∧ ((w.setCell ⟨g, 0, none⟩ u0).setCell ⟨g, 1, none⟩ u1).cell? ⟨g1, 1, none⟩ = some v3 := by
  obtain ⟨a, b⟩ := keep_far (u0 := u0) (u1 := u1) h0 h1 n0
  obtain ⟨c, d⟩ := keep_far (u0 := u0) (u1 := u1) h2 h3 n1
  exact ⟨a, b, c, d⟩
theorem joinR_f {a b : Int} {es fs : List (Int × Int)} (h : ldB a es = false ∨ ldB b fs = false) : joinR a es b fs = (0, [], false) := by
  unfold joinR; rw [if_neg]; rcases h with h | h <;> rw [h] <;> simp
theorem joinR_b {a b : Int} {es fs : List (Int × Int)} (h1 : ldB a es = true) (h2 : ldB b fs = true) : joinR a es b fs = if ldB (min a b) (es ++ fs) = true then (min a b, es ++ fs, true) else (0, [], false) := by
  unfold joinR; rw [h1, h2]; rfl
theorem resQ_join {a b mn : Int} {es fs rs : List (Int × Int)} {n m nr : Nat} {rb : Int} {ok : Bool} (h1 : ldB a es = true) (h2 : ldB b fs = true) (hR : joinR a es b fs = (rb, rs, ok)) (hnr : rs.length = nr) (hn : es.length = n) (hm : fs.length = m) (hmn : mn = min a b)
    {w w' : World} {e : Ending} {D D' : Option Addr} {c c' nr' : Nat} {rb' : Int} (hk : ldB mn (es ++ fs) = true ∧ rb' = mn ∧ D' = D ∧ nr' = n + m ∧ c' = c ∨ ldB mn (es ++ fs) = false ∧ rb' = 0 ∧ D' = none ∧ nr' = 0 ∧ c' = 0)
    (he : e = .returned (.tuple #[.agg #[.int .i64 rb', .slice D' nr' c'], .bool (ldB mn (es ++ fs))])) (ho : w'.ownsRow w.heap.size 52 2 (.slice D (n + m) c) (n + m) (flat ef (es ++ fs))) (hB : Below w.heap.size w w') : ResQ rb rs nr ok w e w' := by
  rw [joinR_b h1 h2, ← hmn] at hR
  subst he hnr
  rcases hk with ⟨h, rfl, rfl, rfl, rfl⟩ | ⟨h, rfl, rfl, rfl, rfl⟩
  · rw [h, if_pos rfl] at hR
    obtain ⟨rfl, rfl, rfl⟩ : rb' = rb ∧ es ++ fs = rs ∧ true = ok := by simpa using hR
    have hl : (es ++ fs).length = n + m := by rw [List.length_append, hn, hm]
    rw [hl, h]
    exact ⟨D', c', rfl, ho, hB⟩
  · rw [h, if_neg (by simp)] at hR
    obtain ⟨rfl, rfl, rfl⟩ : 0 = rb ∧ [] = rs ∧ false = ok := by simpa using hR
    rw [h]
    exact ⟨none, 0, rfl, World.ownsRow_nil _ _ _ _, hB⟩
set_option maxHeartbeats 4000000 in
/-- impl.LedgerJoin. -/
theorem join_r (ba : Int) (A1 : Option Addr) (n c1 : Nat) (es : List (Int × Int)) (bb : Int) (A2 : Option Addr) (m c2 : Nat) (fs : List (Int × Int)) (w : World) (hx : Recs ef 2 w w.heap.size A1 es) (hy : Recs ef 2 w w.heap.size A2 fs) (hn : es.length = n) (bn : n ≤ 1048576) (hm : fs.length = m) (bm : m ≤ 1048576)
    {rb : Int} {rs : List (Int × Int)} {nr : Nat} {ok : Bool} (hR : joinR ba es bb fs = (rb, rs, ok)) (hnr : rs.length = nr) :
    Calls Try.prog 12 #[.agg #[.int .i64 ba, .slice A1 n c1], .agg #[.int .i64 bb, .slice A2 m c2]] w (ResQ rb rs nr ok w) := by
  obtain ⟨i0, hi0, hz0, hz1, hz2⟩ := info_parts en_info
  have HN := Lib.hid hn
  have HM := Lib.hid hm
  have HR := Lib.hid hR
  have HNR := Lib.hid hnr
  clear hn hm hR hnr
  have hbw : Below w.heap.size w (((w.alloc (.cells #[.int .i64 ba, .slice A1 n c1] 25)).alloc (.cells #[.int .i64 bb, .slice A2 m c2] 25)).alloc (.cells #[.int .i64 0, .slice none 0 0] 25)) := below_three w _ _ _
  have ea : EB (((w.alloc (.cells #[.int .i64 ba, .slice A1 n c1] 25)).alloc (.cells #[.int .i64 bb, .slice A2 m c2] 25)).alloc (.cells #[.int .i64 0, .slice none 0 0] 25)) 25 w.heap.size ba (.slice A1 n c1) := ((EB.new w _ _ _).alloc _).alloc _
  have eb : EB (((w.alloc (.cells #[.int .i64 ba, .slice A1 n c1] 25)).alloc (.cells #[.int .i64 bb, .slice A2 m c2] 25)).alloc (.cells #[.int .i64 0, .slice none 0 0] 25)) 25 (w.heap.size + 1) bb (.slice A2 m c2) := EB.alloc (by have := EB.new (w.alloc (.cells #[.int .i64 ba, .slice A1 n c1] 25)) 25 bb (.slice A2 m c2); simpa using this) _
  have er : EB (((w.alloc (.cells #[.int .i64 ba, .slice A1 n c1] 25)).alloc (.cells #[.int .i64 bb, .slice A2 m c2] 25)).alloc (.cells #[.int .i64 0, .slice none 0 0] 25)) 25 (w.heap.size + 2) 0 (.slice none 0 0) := by have := EB.new ((w.alloc (.cells #[.int .i64 ba, .slice A1 n c1] 25)).alloc (.cells #[.int .i64 bb, .slice A2 m c2] 25)) 25 0 (.slice none 0 0); simpa using this
  obtain ⟨W0, HW0⟩ : ∃ W, Hid ((((w.alloc (.cells #[.int .i64 ba, .slice A1 n c1] 25)).alloc (.cells #[.int .i64 bb, .slice A2 m c2] 25)).alloc (.cells #[.int .i64 0, .slice none 0 0] 25)) = W) := ⟨_, Lib.hid rfl⟩
  rw [HW0.out] at hbw ea eb er
  have hz : w.heap.size + 3 ≤ W0.heap.size := by rw [← HW0.out]; simp
  go_enter Try.func12, Try.ntmps12
  go_wp2_with fail
  rw [HW0.out]
  refine (valid_any ba A1 n c1 es _ (hx.on hbw) HN.out (by omega)).mono ?_
  rintro e w1 ⟨rfl, hb1⟩
  have ea := ea.below hb1
  have eb := eb.below hb1
  have er := er.below hb1
  have hbw := below_next hbw hb1
  have hz : w.heap.size + 3 ≤ w1.heap.size := Nat.le_trans hz hb1.size
  clear hb1
  obtain ⟨a0, a1, -, -⟩ := ea.facts
  obtain ⟨b0, b1, -, -⟩ := eb.facts
  obtain ⟨r0, r1, r2, r3⟩ := er.facts
  cases h1 : ldB ba es
  · have HJ := joinR_f (a := ba) (es := es) (b := bb) (fs := fs) (.inl h1)
    rw [HR.out] at HJ
    obtain ⟨rfl, rfl, rfl⟩ : rb = 0 ∧ rs = [] ∧ ok = false := by simpa using HJ
    obtain rfl : nr = 0 := HNR.out.symm
    clear HJ HR HNR
    go_wp2_with fail
    refine bodyPost_ret (v := .tuple #[.agg #[.int .i64 0, .slice none 0 0], .bool false]) (by simp [results, Try.results12, go_sem, *]) rfl ?_
    exact ⟨none, 0, rfl, World.ownsRow_nil _ _ _ _, (hbw.setCell (by show _ ≤ w.heap.size + 2; omega) _).setCell (by show _ ≤ w.heap.size + 2; omega) _⟩
  go_wp2_with fail
  refine (valid_any bb A2 m c2 fs _ (hy.on hbw) HM.out (by omega)).mono ?_
  rintro e w2 ⟨rfl, hb1⟩
  have ea := ea.below hb1
  have eb := eb.below hb1
  have er := er.below hb1
  have hbw := below_next hbw hb1
  have hz : w.heap.size + 3 ≤ w2.heap.size := Nat.le_trans hz hb1.size
  clear hb1 a0 a1 b0 b1 r0 r1 r2 r3
  obtain ⟨a0, a1, -, -⟩ := ea.facts
  obtain ⟨b0, b1, -, -⟩ := eb.facts
  obtain ⟨r0, r1, r2, r3⟩ := er.facts
  cases h2 : ldB bb fs
  · have HJ := joinR_f (a := ba) (es := es) (b := bb) (fs := fs) (.inr h2)
    rw [HR.out] at HJ
    obtain ⟨rfl, rfl, rfl⟩ : rb = 0 ∧ rs = [] ∧ ok = false := by simpa using HJ
    obtain rfl : nr = 0 := HNR.out.symm
    clear HJ HR HNR
    go_wp2_with fail
    refine bodyPost_ret (v := .tuple #[.agg #[.int .i64 0, .slice none 0 0], .bool false]) (by simp [results, Try.results12, go_sem, *]) rfl ?_
    exact ⟨none, 0, rfl, World.ownsRow_nil _ _ _ _, (hbw.setCell (by show _ ≤ w.heap.size + 2; omega) _).setCell (by show _ ≤ w.heap.size + 2; omega) _⟩
  obtain ⟨mn, hmn⟩ : ∃ mn, mn = min ba bb := ⟨_, rfl⟩
  have HMN := Lib.hid hmn
  have HL := Lib.hid (show (es ++ fs).length = n + m by rw [List.length_append, HN.out, HM.out])
  have hbd : Below w2.heap.size w2 w2.drew := below_drew w2
  by_cases hlt : bb < ba
  · have hmin : mn = bb := by rw [hmn]; omega
    clear hmn
    subst hmin
    go_wp2_with fail
    go_region_held3 (fun w' => w'.cell? ⟨w.heap.size, 0, none⟩ = some (.int .i64 ba) ∧ w'.cell? ⟨w.heap.size, 1, none⟩ = some (.slice A1 n c1) ∧ w'.cell? ⟨w.heap.size + 1, 0, none⟩ = some (.int .i64 mn) ∧ w'.cell? ⟨w.heap.size + 1, 1, none⟩ = some (.slice A2 m c2)) (first | (go_keep; done) | exact keep_far4 (by assumption) (by assumption) (by assumption) (by assumption) (by omega) (by omega))
      (first
        | (go_at_call 32
           refine (concat_any w2.heap.size A1 A2 n c1 m c2 es fs _ (by exact (cell_of_row _ w2.heap.size 0 #[.slice A1 n c1, .slice A2 m c2] _ _ (heap_alloc_new w2.drew _)).trans rfl) (by exact (cell_of_row _ w2.heap.size 1 #[.slice A1 n c1, .slice A2 m c2] _ _ (heap_alloc_new w2.drew _)).trans rfl) (hx.on (hbw.trans ((hbd.alloc (Nat.le_refl _) _).mono hbw.size))) (hy.on (hbw.trans ((hbd.alloc (Nat.le_refl _) _).mono hbw.size))) HN.out HM.out bn bm).mono ?_
           rintro e w3 ⟨D, c, rfl, hown, hb3⟩
           have hbc : Below w2.heap.size w2 w3 := (hbd.alloc (Nat.le_refl _) _).trans (hb3.mono (by simp))
           have hown := own_base hown (base' := w2.heap.size) (by simp)
           have ea := ea.below hbc
           have eb := eb.below hbc
           have er := er.below hbc
           obtain ⟨x0, x1, -, -⟩ := ea.facts
           obtain ⟨y0, y1, -, -⟩ := eb.facts
           clear hb3)
        | (go_at_call 31
           skip
           refine (checked_r mn D (n + m) c (es ++ fs) _ (Recs.of_own ef_len hown (by omega)).2 HL.out (by omega)).mono ?_
           rintro e w4 ⟨rb', D', nr', cr', rfl, HK, hb4⟩
           have hbe : Below w2.heap.size w2 w4 := hbc.trans (hb4.mono hbc.size)
           have hown4 := own_below hown hb4
           have ea := ea.below hb4
           have eb := eb.below hb4
           have er := er.below hb4
           obtain ⟨x0, x1, -, -⟩ := ea.facts
           obtain ⟨y0, y1, -, -⟩ := eb.facts
           obtain ⟨z0, z1, z2, z3⟩ := er.facts))
    all_goals
      go_wp2_with fail
      refine bodyPost_ret (v := .tuple #[.agg #[.int .i64 rb', .slice D' nr' cr'], .bool (ldB mn (es ++ fs))]) (by simp [results, Try.results12, go_sem, *]) rfl ?_
      refine resQ_join h1 h2 HR.out HNR.out HN.out HM.out HMN.out HK.out rfl ?_ ?_
      · exact own_base (ownsRow_setCell_below (ownsRow_setCell_below hown4 (by show w.heap.size + 2 < _; omega) _) (by show w.heap.size + 2 < _; omega) _) (by omega)
      · exact ((hbw.trans (hbe.mono (by omega))).setCell (by show _ ≤ w.heap.size + 2; omega) _).setCell (by show _ ≤ w.heap.size + 2; omega) _
  · have hmin : mn = ba := by rw [hmn]; omega
    clear hmn
    subst hmin
    go_wp2_with fail
    go_region_held3 (fun w' => w'.cell? ⟨w.heap.size, 0, none⟩ = some (.int .i64 mn) ∧ w'.cell? ⟨w.heap.size, 1, none⟩ = some (.slice A1 n c1) ∧ w'.cell? ⟨w.heap.size + 1, 0, none⟩ = some (.int .i64 bb) ∧ w'.cell? ⟨w.heap.size + 1, 1, none⟩ = some (.slice A2 m c2)) (first | (go_keep; done) | exact keep_far4 (by assumption) (by assumption) (by assumption) (by assumption) (by omega) (by omega))
      (first
        | (go_at_call 32
           refine (concat_any w2.heap.size A1 A2 n c1 m c2 es fs _ (by exact (cell_of_row _ w2.heap.size 0 #[.slice A1 n c1, .slice A2 m c2] _ _ (heap_alloc_new w2.drew _)).trans rfl) (by exact (cell_of_row _ w2.heap.size 1 #[.slice A1 n c1, .slice A2 m c2] _ _ (heap_alloc_new w2.drew _)).trans rfl) (hx.on (hbw.trans ((hbd.alloc (Nat.le_refl _) _).mono hbw.size))) (hy.on (hbw.trans ((hbd.alloc (Nat.le_refl _) _).mono hbw.size))) HN.out HM.out bn bm).mono ?_
           rintro e w3 ⟨D, c, rfl, hown, hb3⟩
           have hbc : Below w2.heap.size w2 w3 := (hbd.alloc (Nat.le_refl _) _).trans (hb3.mono (by simp))
           have hown := own_base hown (base' := w2.heap.size) (by simp)
           have ea := ea.below hbc
           have eb := eb.below hbc
           have er := er.below hbc
           obtain ⟨x0, x1, -, -⟩ := ea.facts
           obtain ⟨y0, y1, -, -⟩ := eb.facts
           clear hb3)
        | (go_at_call 31
           (try rw [if_neg (Int.not_lt.2 hlt)])
           refine (checked_r mn D (n + m) c (es ++ fs) _ (Recs.of_own ef_len hown (by omega)).2 HL.out (by omega)).mono ?_
           rintro e w4 ⟨rb', D', nr', cr', rfl, HK, hb4⟩
           have hbe : Below w2.heap.size w2 w4 := hbc.trans (hb4.mono hbc.size)
           have hown4 := own_below hown hb4
           have ea := ea.below hb4
           have eb := eb.below hb4
           have er := er.below hb4
           obtain ⟨x0, x1, -, -⟩ := ea.facts
           obtain ⟨y0, y1, -, -⟩ := eb.facts
           obtain ⟨z0, z1, z2, z3⟩ := er.facts))
    all_goals
      go_wp2_with fail
      refine bodyPost_ret (v := .tuple #[.agg #[.int .i64 rb', .slice D' nr' cr'], .bool (ldB mn (es ++ fs))]) (by simp [results, Try.results12, go_sem, *]) rfl ?_
      refine resQ_join h1 h2 HR.out HNR.out HN.out HM.out HMN.out HK.out rfl ?_ ?_
      · exact own_base (ownsRow_setCell_below (ownsRow_setCell_below hown4 (by show w.heap.size + 2 < _; omega) _) (by show w.heap.size + 2 < _; omega) _) (by omega)
      · exact ((hbw.trans (hbe.mono (by omega))).setCell (by show _ ≤ w.heap.size + 2; omega) _).setCell (by show _ ≤ w.heap.size + 2; omega) _
end Go.Proofs.Ytjelmfdhkdehkaa
