/-
  FnKeyChangeMean: all keys of one person together are fair: the walk of the law.
-/
import Derived.Test.YtgdoajhieiibcaaKDraw
import Derived.Test.YtgdoajhieiibcaaAppend
namespace Go.Proofs.Ytgdoajhieiibcaa
open Go.RowKit

/-- The sum of the changed numbers over the first keys of one person. -/
def ms (rs : List (List Int)) (tl : List Int) : Nat → Int
  | 0 => 0
  | t + 1 => ms rs tl t + kcV rs ((t : Int) :: tl)
/-- The sum of the first n values of a function. -/
def sf (f : Nat → Int) : Nat → Int
  | 0 => 0
  | n + 1 => sf f n + f n
theorem sf_add (f : Nat → Int) (m n : Nat) : sf f (m + n) = sf f m + sf (fun t => f (m + t)) n := by
  induction n with
  | zero => simp [sf]
  | succ n ih => rw [← Nat.add_assoc]; simp only [sf, ih]; omega
theorem sf_congr {f g : Nat → Int} {n : Nat} (h : ∀ t, t < n → f t = g t) : sf f n = sf g n := by
  induction n with
  | zero => rfl
  | succ n ih => simp only [sf]; rw [ih (fun t ht => h t (by omega)), h n (by omega)]
theorem sf_const (c : Int) (f : Nat → Int) (n : Nat) : sf (fun t => c + f t) n = c * n + sf f n := by
  induction n with
  | zero => simp [sf]
  | succ n ih => simp only [sf, ih, Int.natCast_add, Int.natCast_one, Int.mul_add, Int.mul_one]; omega
theorem sumI_sf (r : List Int) : sf (fun t => r.getD t 0) r.length = sumI r := by
  induction r with
  | nil => rfl
  | cons x r ih =>
    rw [List.length_cons, Nat.add_comm, sf_add]
    simp only [sf, sumI, List.getD_cons_zero, Int.zero_add]
    rw [← ih]
    congr 1
    exact sf_congr fun t _ => by rw [Nat.add_comm, List.getD_cons_succ]
theorem row_turn (r : List Int) (h : r.length = 16) (q : Nat) (hq : q < 16) : sf (fun t => r.getD ((t + q) % 16) 0) 16 = sumI r := by
  have e1 : sf (fun t => r.getD ((t + q) % 16) 0) 16 = sf (fun t => r.getD ((t + q) % 16) 0) ((16 - q) + q) := by rw [show (16 - q) + q = 16 by omega]
  have e2 : sf (fun t => r.getD t 0) 16 = sf (fun t => r.getD t 0) (q + (16 - q)) := by rw [show q + (16 - q) = 16 by omega]
  rw [← sumI_sf, h, e1, e2, sf_add, sf_add (fun t => r.getD t 0)]
  have a1 : sf (fun t => r.getD ((t + q) % 16) 0) (16 - q) = sf (fun t => r.getD (q + t) 0) (16 - q) := sf_congr fun t ht => by rw [show (t + q) % 16 = q + t by omega]
  have a2 : sf (fun t => r.getD ((16 - q + t + q) % 16) 0) q = sf (fun t => r.getD t 0) q := sf_congr fun t ht => by rw [show (16 - q + t + q) % 16 = t by omega]
  rw [a1, a2]; omega
theorem ms_sf (rs : List (List Int)) (tl : List Int) (n : Nat) : ms rs tl n = sf (fun t => kcV rs ((t : Int) :: tl)) n := by
  induction n with
  | zero => rfl
  | succ n ih => simp only [ms, sf, ih]
theorem keys_cons {tl : List Int} {t : Nat} (ht : t < 16) (h : keysP (0 :: tl)) : keysP ((t : Int) :: tl) := by
  refine ⟨by have := h.1; simpa using this, fun x hx => ?_⟩
  rcases List.mem_cons.1 hx with rfl | hx
  · omega
  · exact h.2 x (by simp [hx])
theorem kc_first {rs : List (List Int)} {tl : List Int} {t : Nat} (hR : krB rs = true) (ht : t < 16) (h : keysP (0 :: tl)) :
    kcV rs ((t : Int) :: tl) = (tl.length + 1 : Nat) + (rs.getD (min (tl.length + 1) (rs.length - 1)) []).getD ((t + (sumI tl % 16).toNat) % 16) 0 ∧ kcB rs ((t : Int) :: tl) = true := by
  have hk := ksB_t (keys_cons ht h)
  refine ⟨?_, by rw [kcB, hk, hR]; rfl⟩
  rw [kcV, hk, hR]
  simp only [Bool.and_self, if_true, List.length_cons]
  have e : (sumI ((t : Int) :: tl) % 16).toNat = (t + (sumI tl % 16).toNat) % 16 := by simp only [sumI]; omega
  rw [e]
theorem ms_all {rs : List (List Int)} {tl : List Int} (hR : krB rs = true) (h : keysP (0 :: tl)) : ms rs tl 16 = (tl.length + 1 : Nat) * 16 := by
  have h2 := krB_iff.1 hR
  have hi : min (tl.length + 1) (rs.length - 1) < rs.length := by have := h2.1; omega
  have hr : rs[min (tl.length + 1) (rs.length - 1)]? = some rs[min (tl.length + 1) (rs.length - 1)] := List.getElem?_eq_getElem hi
  have hrow := h2.2.2 _ _ hr
  have hg : rs.getD (min (tl.length + 1) (rs.length - 1)) [] = rs[min (tl.length + 1) (rs.length - 1)] := by simp [hr]
  have ht := row_turn _ hrow.1 (sumI tl % 16).toNat (by omega)
  rw [hrow.2.1] at ht
  rw [ms_sf]
  have k : sf (fun t => kcV rs ((t : Int) :: tl)) 16 = sf (fun t => ((tl.length + 1 : Nat) : Int) + (rs[min (tl.length + 1) (rs.length - 1)]).getD ((t + (sumI tl % 16).toNat) % 16) 0) 16 := sf_congr fun t ht => by rw [(kc_first (t := t) hR ht h).1, hg]
  rw [k, sf_const, ht]
  simp
theorem ms_bd {rs : List (List Int)} {tl : List Int} (hR : krB rs = true) (h : keysP (0 :: tl)) (t : Nat) (ht : t ≤ 16) : 0 ≤ ms rs tl t ∧ ms rs tl t ≤ 50 * t := by
  induction t with
  | zero => simp [ms]
  | succ t ih =>
    have := ih (by omega)
    have := kc_bd (kc_first (t := t) hR (by omega) h).2
    simp only [ms]
    omega
theorem src_tail {w : World} {B b o : Nat} {xs : List Int} {m : Nat} (h : Ints w B (some ⟨b, o, none⟩) xs) (hm : xs.length = m) : Src w 1 (some ⟨b, o + 1, none⟩) (m - 1) ((xs.tail).map (Value.int .i64)) := by
  refine ⟨by simp [hm], fun hp => ⟨_, rfl, fun j u hj => ?_⟩⟩
  obtain ⟨b', o', e, _, hc⟩ := h (by omega)
  injection e with e
  injection e with e1 e2
  subst e1 e2
  rw [List.getElem?_map, List.getElem?_tail] at hj
  obtain ⟨x, hx, rfl⟩ := Option.map_eq_some_iff.1 hj
  rw [add_spot, show o + 1 + j = o + (j + 1) from by omega]
  exact hc (j + 1) x hx
theorem src_none {w : World} {A : Option Addr} {xs : List Int} {m : Nat} (hm : xs.length = m) (h1 : m ≤ 1) : Src w 1 A (m - 1) ((xs.tail).map (Value.int .i64)) :=
  ⟨by simp [hm], fun hp => by omega⟩

set_option maxHeartbeats 2000000 in
/-- laws.FnKeyChangeMean. -/
theorem fnKeyChangeMean_walk (a0 : Option Addr) (len0 cap0 : Nat) (z0 : List Int) (w : World) (w0 : IsRow8 w a0 len0 cap0 z0) :
    Calls Try.prog 5 #[.slice a0 len0 cap0] w fun e w' => e = .returned (.bool true) ∧ Below w.heap.size w w' := by
  by_cases hl : 1048576 < len0
  · go_enter Try.func5, Try.ntmps5
    go_wp2
    go_ret
    exact ⟨rfl, Below.refl _ _⟩
  obtain ⟨i0, hi0, hz0, hz1, hz2⟩ := info_parts int_info
  go_enter Try.func5, Try.ntmps5
  go_wp2_with fail
  refine (drawk_any a0 len0 cap0 z0 _ w0).mono ?_
  rintro e w1 ⟨D, n, c, rs, D', m, c', xs, rfl, ⟨n8, nc, cm, HN, hrs⟩, ⟨m6, mc, cm', HX, hxs⟩, hb⟩
  clear w0
  go_wp2_with fail
  refine (impl_change D n c rs D' m c' xs _ hrs HN.out (by omega) hxs HX.out (by simp only [maxLen]; omega)).mono ?_
  rintro e w' ⟨rfl, rfl⟩
  go_wp2_with fail
  refine (spec_change D n c rs D' m c' xs _ hrs HN.out (by omega) hxs HX.out (by simp only [maxLen]; omega)).mono ?_
  rintro e w' ⟨rfl, rfl⟩
  cases hB : kcB rs xs
  · go_wp2_with fail
    go_ret
    exact ⟨rfl, hb⟩
  have hB2 := hB
  rw [kcB, Bool.and_eq_true] at hB2
  obtain ⟨hK, hR⟩ := hB2
  have hn1 : 1 ≤ n := by have := (krB_iff.1 hR).1; have := HN.out; omega
  have hm40 : m ≤ 40 := by have := (ksB_iff.1 hK).1; have := HX.out; omega
  have hcm := len_max cm
  have hcm' := len_max cm'
  obtain ⟨v0, v1⟩ := kc_bd hB
  by_cases hm0 : m = 0
  · have hx0 : xs = [] := List.eq_nil_of_length_eq_zero (by have := HX.out; omega)
    subst hm0
    have hz := (kc_none hR).2
    rw [← hx0] at hz
    clear hx0
    go_wp2_with fail
    go_ret
    exact ⟨rfl, hb⟩
  have bm : ((m : Int) == 0) = false := beq_eq_false_iff_ne.2 (by omega)
  have hm1 : 1 ≤ m := by omega
  obtain ⟨b, o, y0, rfl, hbb, HY, hcy⟩ := hxs.at_ (k := 0) (by have := HX.out; omega)
  have hkp := ksB_iff.1 hK
  have hk0 : keysP (0 :: xs.tail) := by
    refine ⟨by have := hkp.1; simp; omega, fun x hx => ?_⟩
    rcases List.mem_cons.1 hx with rfl | hx
    · omega
    · exact hkp.2 x (List.mem_of_mem_tail hx)
  have hall := ms_all hR hk0
  have htl : (xs.tail).length + 1 = m := by rw [List.length_tail]; have := HX.out; omega
  rw [htl] at hall
  have HALL := Lib.hid hall
  have HTL := Lib.hid htl
  have hbd := fun t ht => ms_bd (tl := xs.tail) hR hk0 t ht
  have HBD := Lib.hid hbd
  have HF := Lib.hid (fun (t : Nat) (ht : t < 16) => kc_bd (kc_first (t := t) hR ht hk0).2)
  have HG := Lib.hid (fun (t : Nat) (ht : t < 16) => (kc_first (t := t) hR ht hk0).2)
  have hsrc1 : c' = 1 → m = 1 := fun h => by omega
  clear hall htl hbd hm0 hkp hk0
  by_cases hc1 : c' = 1
  · subst hc1
    clear hsrc1
    go_wp2_with fail
    go_loopw [9, 10] (fun s i wr => ∃ t : Nat, t ≤ 16 ∧ i = .int .i64 (t : Int) ∧ s = .int .i64 (ms rs (xs.tail) t) ∧ Below w1.heap.size w1 wr) (fun _ i _ => 16 - (intOf i).toNat)
    case atStart => exact ⟨0, by omega, rfl, rfl, Below.refl _ _⟩
    case round =>
      obtain ⟨t, ht, rfl, rfl, hbr⟩ := hrel
      have hs := HBD.out t ht
      obtain ⟨hs0, hs1⟩ := hs
      by_cases htl : t < 16
      · have hown0 : (wr.alloc (.cells #[.int .i64 (t : Int)] 3)).ownsRow wr.heap.size 3 1 (.slice (some ⟨wr.heap.size, 0, none⟩) 1 1) 1 [.int .i64 (t : Int)] := World.ownsRow_lit wr #[.int .i64 (t : Int)] 1 (Nat.le_refl _) (by simp [maxLen]) rfl
        obtain ⟨k0, k1⟩ := HF.out t htl
        have kB := HG.out t htl
        have ht0 : xs.tail = [] := List.eq_nil_of_length_eq_zero (by rw [List.length_tail]; have := HX.out; omega)
        have hb3 : Below w1.heap.size w1 (wr.alloc (.cells #[.int .i64 (t : Int)] 3)) := hbr.alloc hbr.size _
        have hx3 : Ints (wr.alloc (.cells #[.int .i64 (t : Int)] 3)) (wr.alloc (.cells #[.int .i64 (t : Int)] 3)).heap.size (some ⟨wr.heap.size, 0, none⟩) ((t : Int) :: xs.tail) := by
          rw [ht0]; exact ints_of_own (xs := [(t : Int)]) hown0
        have hr3 := hrs.on hb3
        have HL3 := Lib.hid (show ((t : Int) :: xs.tail).length = 1 by rw [ht0]; rfl)
        clear hown0 hbr ht0
        go_wp2_with fail
        refine (impl_change D n c rs _ _ _ _ _ hr3 HN.out (by omega) hx3 HL3.out (by simp [maxLen])).mono ?_
        rintro e w' ⟨rfl, rfl⟩
        go_wp2_with fail
        go_roundw
        case rel => exact ⟨t + 1, by omega, by go_num, rfl, hb3⟩
        case measure => simp [intOf]; omega
      · obtain rfl : t = 16 := by omega
        have b16 : (ms rs (xs.tail) 16 == (m : Int) * 16) = true := beq_iff_eq.2 (by rw [HALL.out])
        go_wp2_with fail
        go_ret
        exact ⟨by simp, hb.trans (hbr.mono hb.size)⟩
  · clear hsrc1
    go_wp2_with fail
    go_loopw [9, 10] (fun s i wr => ∃ t : Nat, t ≤ 16 ∧ i = .int .i64 (t : Int) ∧ s = .int .i64 (ms rs (xs.tail) t) ∧ Below w1.heap.size w1 wr) (fun _ i _ => 16 - (intOf i).toNat)
    case atStart => exact ⟨0, by omega, rfl, rfl, Below.refl _ _⟩
    case round =>
      obtain ⟨t, ht, rfl, rfl, hbr⟩ := hrel
      have hs := HBD.out t ht
      obtain ⟨hs0, hs1⟩ := hs
      by_cases htl : t < 16
      · have hown0 : (wr.alloc (.cells #[.int .i64 (t : Int)] 3)).ownsRow wr.heap.size 3 1 (.slice (some ⟨wr.heap.size, 0, none⟩) 1 1) 1 [.int .i64 (t : Int)] := World.ownsRow_lit wr #[.int .i64 (t : Int)] 1 (Nat.le_refl _) (by simp [maxLen]) rfl
        have hsrc : Src wr 1 (some ⟨b, o + 1, none⟩) (m - 1) ((xs.tail).map (Value.int .i64)) := src_tail (hxs.on hbr) HX.out
        have hsrc2 : Src (wr.alloc (.cells #[.int .i64 (t : Int)] 3)) 1 (some ⟨b, o + 1, none⟩) (m - 1) ((xs.tail).map (Value.int .i64)) := ⟨hsrc.1, fun hp => by
          obtain ⟨ad, e, h⟩ := hsrc.2 hp
          exact ⟨ad, e, fun j u hj => by
            have h1 := h j u hj
            rw [World.cell?_alloc_lt _ _ _ (World.block_lt_of_cell? _ _ h1)]; exact h1⟩⟩
        obtain ⟨k0, k1⟩ := HF.out t htl
        have kB := HG.out t htl
        clear hsrc
        have q1 : 1 + (m - 1) ≤ maxLen := by simp only [maxLen]; omega
        have q2 : (1 + (m - 1)) * 8 ≤ 140737488355328 := by omega
        have q3 : wr.heap.size ≤ (wr.alloc (.cells #[.int .i64 (t : Int)] 3)).heap.size := by simp
        go_wp2_with (at_builtin; refine wpList_append_src _ rfl _ _ 23 rfl wr.heap.size 3 i0 (.int .i64 0) 1 8 Try.underlying23 hi0 hz0 hz1 hz2 rfl (by decide) _ 1 [.int .i64 (t : Int)] rfl hown0 _ (m - 1) _ ((xs.tail).map (Value.int .i64)) rfl hsrc2 (oneCell_ints _) q1 q2 q3 ?_)
        intro v' w3 hown3 hg3 _
        obtain ⟨D2, c2, rfl⟩ := own_form hown3
        have hmap : Value.int .i64 (t : Int) :: (xs.map (Value.int .i64)).tail = ((t : Int) :: xs.tail).map (Value.int .i64) := by simp
        rw [hmap] at hown3
        clear hmap
        have hb3 : Below w1.heap.size w1 w3 := (hbr.alloc hbr.size _).grown hg3 (by have := hbr.size; simp; omega) (fun k hk => by have hk : some wr.heap.size = some k := hk; have := hbr.size; injection hk with hk; omega)
        have hx3 := ints_of_own (xs := (t : Int) :: xs.tail) hown3
        have hr3 := hrs.on hb3
        have HL3 := Lib.hid (show ((t : Int) :: xs.tail).length = m by simp; have := HX.out; omega)
        clear hown3 hg3 hown0 hsrc2 hbr
        go_wp2_with fail
        have q4 : m ≤ maxLen := by simp only [maxLen]; omega
        refine (impl_change D n c rs _ _ _ _ _ hr3 HN.out (by omega) hx3 HL3.out q4).mono ?_
        rintro e w' ⟨rfl, rfl⟩
        go_wp2_with fail
        go_roundw
        case rel => exact ⟨t + 1, by omega, by go_num, rfl, hb3⟩
        case measure => simp [intOf]; omega
      · obtain rfl : t = 16 := by omega
        have b16 : (ms rs (xs.tail) 16 == (m : Int) * 16) = true := beq_iff_eq.2 (by rw [HALL.out])
        go_wp2_with fail
        go_ret
        exact ⟨by simp, hb.trans (hbr.mono hb.size)⟩
end Go.Proofs.Ytgdoajhieiibcaa
