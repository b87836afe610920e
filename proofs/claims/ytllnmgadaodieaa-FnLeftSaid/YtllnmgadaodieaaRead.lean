/-
  The walks of what reads ledgers: isBudget, isPart, spent, most, LedgerValid, LedgerSpent, LedgerLeft, the program's and the reference's.
-/
import Derived.Test.YtllnmgadaodieaaRecs
import Derived.Test.YtllnmgadaodieaaPlain2
import Derived.Deep.RegionHeld3
import Derived.RegionTactic
namespace Go.Proofs.Ytllnmgadaodieaa
open Go.RowKit

/-- The cells of an entry. -/
def ef (e : Int × Int) : List Value := [.int .i64 e.1, .int .i64 e.2]
theorem ef_len (e : Int × Int) : (ef e).length = 2 := rfl
theorem ef_one (e : Int × Int) : ∀ u ∈ ef e, u.oneCell' = true := by
  intro u hu
  simp only [ef, List.mem_cons, List.not_mem_nil, or_false] at hu
  rcases hu with rfl | rfl <;> rfl
theorem ents_at {w : World} {B k : Nat} {A : Option Addr} {es : List (Int × Int)} (h : Recs ef 2 w B A es) (hk : k < es.length) :
    ∃ b o p q, A = some ⟨b, o, none⟩ ∧ b < B ∧ Hid (es[k]? = some (p, q)) ∧ w.cell? ⟨b, o + k * 2, none⟩ = some (.int .i64 p) ∧ w.cell? ⟨b, o + k * 2 + 1, none⟩ = some (.int .i64 q) := by
  obtain ⟨b, o, e, rfl, hb, hx, hc⟩ := h.get hk
  exact ⟨b, o, e.1, e.2, rfl, hb, hx, hc 0 _ rfl, hc 1 _ rfl⟩
theorem all_at {es : List (Int × Int)} {k : Nat} {p q : Int} (h : allE es) (hk : es[k]? = some (p, q)) : partP p ∧ 0 ≤ q ∧ q ≤ 1000 := (evB_iff _).1 (h _ (mem_of_at hk))
theorem spent_step {es : List (Int × Int)} {k : Nat} {p q : Int} (hk : es[k]? = some (p, q)) (a : Int) : spent (es.take (k + 1)) a = spent (es.take k) a + if p = -1 ∨ p = a then q else 0 := by
  rw [take_next hk, spent_append, spent_one]
theorem spent_part {es : List (Int × Int)} (h : allE es) (hl : es.length ≤ 40) (a : Int) (k : Nat) : 0 ≤ spent (es.take k) a ∧ spent (es.take k) a ≤ 40000 := by
  have h1 := spent_bd (allE_take h k) a
  have h2 : (es.take k).length ≤ 40 := by rw [List.length_take]; omega
  omega

/-- All old cells and marks read as before. -/
theorem bcell {B : Nat} {W w1 : World} (hb : Below B W w1) : (∀ b o, b < B → w1.cell? ⟨b, o, none⟩ = W.cell? ⟨b, o, none⟩) ∧ (∀ b o, b < B → w1.frozen? ⟨b, o, none⟩ = W.frozen? ⟨b, o, none⟩) :=
  ⟨fun b o h => hb.cell (p := ⟨b, o, none⟩) h, fun b o h => hb.frozen (p := ⟨b, o, none⟩) h⟩
theorem below_box {w w' : World} {o : Obj} (h : Below (w.heap.size + 1) (w.alloc o) w') : Below w.heap.size w w' :=
  ((Below.refl w.heap.size w).alloc (Nat.le_refl _) o).trans (h.mono (by omega))
theorem box_refl (w : World) (o : Obj) : Below (w.heap.size + 1) (w.alloc o) (w.alloc o) := Below.refl _ _
theorem box_next {w w1 w2 : World} {o : Obj} (h : Below (w.heap.size + 1) (w.alloc o) w1) (k : Below w1.heap.size w1 w2) : Below (w.heap.size + 1) (w.alloc o) w2 :=
  h.trans (k.mono (by have := h.size; simp at this; exact this))
theorem box_alloc {w w1 : World} {o : Obj} (h : Below (w.heap.size + 1) (w.alloc o) w1) (o' : Obj) : Below (w.heap.size + 1) (w.alloc o) (w1.alloc o') :=
  box_next h ((Below.refl _ _).alloc (Nat.le_refl _) o')
theorem box_full {w w' : World} {o : Obj} (h : Below (w.alloc o).heap.size (w.alloc o) w') : Below (w.heap.size + 1) (w.alloc o) w' := h.mono (by simp)
theorem box_cells {w w' : World} {v0 v1 : Value} {t : TypeId} (h : Below (w.heap.size + 1) (w.alloc (.cells #[v0, v1] t)) w') : w'.cell? ⟨w.heap.size, 0, none⟩ = some v0 ∧ w'.cell? ⟨w.heap.size, 1, none⟩ = some v1 := by
  have hh := (h.block w.heap.size (by omega)).trans (heap_alloc_new w _)
  exact ⟨by rw [cell_of_row w' w.heap.size 0 _ _ _ hh]; rfl, by rw [cell_of_row w' w.heap.size 1 _ _ _ hh]; rfl⟩

def inB (n lo hi : Int) : Bool := decide (lo ≤ n ∧ n ≤ hi)
theorem inB_t {n lo hi : Int} (h1 : lo ≤ n) (h2 : n ≤ hi) : inB n lo hi = true := by simp [inB, h1, h2]
theorem inB_f {n lo hi : Int} (h : ¬ (lo ≤ n ∧ n ≤ hi)) : inB n lo hi = false := by simp only [inB, decide_eq_false_iff_not]; exact h
/-- spec.l6In. -/
theorem l6In_any (n lo hi : Int) (w : World) : Calls Try.prog 34 #[.int .i64 n, .int .i64 lo, .int .i64 hi] w fun e w' => e = .returned (.bool (inB n lo hi)) ∧ w = w' := by
  by_cases h1 : lo ≤ n
  · by_cases h2 : n ≤ hi
    · rw [inB_t h1 h2]
      go_enter Try.func34, Try.ntmps34
      go_wp2
      go_ret
      exact ⟨rfl, rfl⟩
    · rw [inB_f (by omega)]
      go_enter Try.func34, Try.ntmps34
      go_wp2
      go_ret
      exact ⟨rfl, rfl⟩
  · rw [inB_f (by omega)]
    go_enter Try.func34, Try.ntmps34
    go_wp2
    go_ret
    exact ⟨rfl, rfl⟩
/-- impl.isBudget. -/
theorem isBudget_any (n : Int) (w : World) : Calls Try.prog 31 #[.int .i64 n] w fun e w' => e = .returned (.bool (inB n 0 1000)) ∧ w = w' := by
  by_cases h1 : 0 ≤ n
  · by_cases h2 : n ≤ 1000
    · rw [inB_t h1 h2]
      go_enter Try.func31, Try.ntmps31
      go_wp2
      go_ret
      exact ⟨rfl, rfl⟩
    · rw [inB_f (by omega)]
      go_enter Try.func31, Try.ntmps31
      go_wp2
      go_ret
      exact ⟨rfl, rfl⟩
  · rw [inB_f (by omega)]
    go_enter Try.func31, Try.ntmps31
    go_wp2
    go_ret
    exact ⟨rfl, rfl⟩
/-- impl.isCode. -/
theorem isCode_any (n : Int) (w : World) : Calls Try.prog 40 #[.int .i64 n] w fun e w' => e = .returned (.bool (inB n 0 3)) ∧ w = w' := by
  by_cases h1 : 0 ≤ n
  · by_cases h2 : n < 4
    · rw [inB_t h1 (by omega)]
      go_enter Try.func40, Try.ntmps40
      go_wp2
      go_ret
      exact ⟨rfl, rfl⟩
    · rw [inB_f (by omega)]
      go_enter Try.func40, Try.ntmps40
      go_wp2
      go_ret
      exact ⟨rfl, rfl⟩
  · rw [inB_f (by omega)]
    go_enter Try.func40, Try.ntmps40
    go_wp2
    go_ret
    exact ⟨rfl, rfl⟩
theorem part_in {n : Int} : partB n = inB n (-1) 3 := by
  rw [Bool.eq_iff_iff, partB_iff]; simp only [inB, partP, decide_eq_true_eq]; omega
/-- impl.isPart. -/
theorem isPart_any (n : Int) (w : World) : Calls Try.prog 32 #[.int .i64 n] w fun e w' => e = .returned (.bool (partB n)) ∧ w = w' := by
  by_cases h1 : n = -1
  · subst h1
    rw [show partB (-1) = true from rfl]
    go_enter Try.func32, Try.ntmps32
    go_wp2
    go_ret
    exact ⟨rfl, rfl⟩
  · have b1 : (n == -1) = false := beq_eq_false_iff_ne.2 h1
    have e : partB n = inB n 0 3 := by rw [Bool.eq_iff_iff, partB_iff]; simp only [inB, partP, decide_eq_true_eq]; omega
    rw [e]
    clear h1 e
    go_enter Try.func32, Try.ntmps32
    go_wp2_with (go_at_call 40; refine (isCode_any _ _).mono ?_; rintro e w' ⟨rfl, rfl⟩)
    go_ret
    exact ⟨rfl, rfl⟩

set_option maxHeartbeats 400000 in
/-- impl.(Ledger).spent. -/
theorem spent_any (b : Int) (A : Option Addr) (n c : Nat) (es : List (Int × Int)) (area : Int) (w : World) (hx : Recs ef 2 w w.heap.size A es) (hn : es.length = n) (hm : n ≤ 40) (hall : allE es) :
    Calls Try.prog 36 #[.agg #[.int .i64 b, .slice A n c], .int .i64 area] w fun e w' => e = .returned (.int .i64 (spent es area)) ∧ Below w.heap.size w w' := by
  have HN := Lib.hid hn
  have HALL := Lib.hid hall
  clear hn hall
  go_enter Try.func36, Try.ntmps36
  go_wp2
  go_loopw [5, 11] (fun s i wr => ∃ k : Nat, k ≤ n ∧ i = .int .i64 k ∧ s = .int .i64 (spent (es.take k) area) ∧ Below w.heap.size w wr) (fun _ i _ => n - (intOf i).toNat)
  case atStart => exact ⟨0, by omega, rfl, rfl, (Below.refl _ _).alloc (Nat.le_refl _) _⟩
  case round =>
    obtain ⟨k, hk, rfl, rfl, hb⟩ := hrel
    obtain ⟨s0, s1⟩ := spent_part HALL.out (by have := HN.out; omega) area k
    by_cases hlt : k < n
    · obtain ⟨b, o, p, q, rfl, hbb, HX, hc1, hc2⟩ := ents_at (hx.below hb) (k := k) (by have := HN.out; omega)
      obtain ⟨-, q0, q1⟩ := all_at HALL.out HX.out
      have HS := Lib.hid (spent_step HX.out area)
      have hb' : Below w.heap.size w (wr.alloc (.cells #[.int .i64 p, .int .i64 q] 34)) := hb.alloc hb.size _
      clear hb
      by_cases g1 : p = -1
      · have HI := Lib.hid (show spent (es.take (k + 1)) area = spent (es.take k) area + q by rw [HS.out, if_pos (.inl g1)])
        subst g1
        go_wp2
        go_roundw
        case rel => exact ⟨k + 1, by omega, by go_num, by rw [HI.out], hb'⟩
        case measure => simp [intOf]; omega
      · have c1 : (p == -1) = false := beq_eq_false_iff_ne.2 g1
        by_cases g2 : p = area
        · have HI := Lib.hid (show spent (es.take (k + 1)) area = spent (es.take k) area + q by rw [HS.out, if_pos (.inr g2)])
          have c2 : (p == area) = true := beq_iff_eq.2 g2
          clear g1 g2
          go_wp2
          go_roundw
          case rel => exact ⟨k + 1, by omega, by go_num, by rw [HI.out], hb'⟩
          case measure => simp [intOf]; omega
        · have HI := Lib.hid (show spent (es.take (k + 1)) area = spent (es.take k) area by rw [HS.out, if_neg (by omega)]; omega)
          have c2 : (p == area) = false := beq_eq_false_iff_ne.2 g2
          clear g1 g2
          go_wp2
          go_roundw
          case rel => exact ⟨k + 1, by omega, by go_num, by rw [HI.out], hb'⟩
          case measure => simp [intOf]; omega
    · go_wp2
      go_ret
      exact ⟨ret_int (by rw [List.take_of_length_le (by have := HN.out; omega)]), hb⟩

set_option maxHeartbeats 400000 in
/-- impl.(Ledger).most. -/
theorem most_any (b : Int) (A : Option Addr) (n c : Nat) (es : List (Int × Int)) (w : World) (hx : Recs ef 2 w w.heap.size A es) (hn : es.length = n) (hm : n ≤ 40) (hall : allE es) :
    Calls Try.prog 33 #[.agg #[.int .i64 b, .slice A n c]] w fun e w' => e = .returned (.int .i64 (most es)) ∧ Below w.heap.size w w' := by
  have HN := Lib.hid hn
  have HALL := Lib.hid hall
  clear hn hall
  have hx1 := hx.alloc (.cells #[.int .i64 b, .slice A n c] 25)
  go_enter Try.func33, Try.ntmps33
  go_wp2
  go_loopw [3, 5] (fun s i wr => ∃ k : Nat, k ≤ 4 ∧ i = .int .i64 k ∧ s = .int .i64 (mostK es k) ∧ Below (w.heap.size + 1) (w.alloc (.cells #[.int .i64 b, .slice A n c] 25)) wr) (fun _ i _ => 4 - (intOf i).toNat)
  case atStart => exact ⟨0, by omega, rfl, rfl, box_refl _ _⟩
  case round =>
    obtain ⟨k, hk, rfl, rfl, hb⟩ := hrel
    by_cases hlt : k < 4
    · obtain ⟨c0, c1⟩ := box_cells hb
      have hx2 := hx1.on (hb.mono (by simp))
      have HS := Lib.hid (show mostK es (k + 1) = max (mostK es k) (spent es k) from rfl)
      by_cases hle : mostK es k < spent es k
      · go_wp2_with fail
        refine (spent_any b A n c es _ _ hx2 HN.out hm HALL.out).mono ?_
        rintro e w2 ⟨rfl, hb2⟩
        go_wp2_with fail
        go_roundw
        case rel => exact ⟨k + 1, by omega, by go_num, by rw [HS.out, Int.max_eq_right (Int.le_of_lt hle)], box_next hb hb2⟩
        case measure => simp [intOf]; omega
      · go_wp2_with fail
        refine (spent_any b A n c es _ _ hx2 HN.out hm HALL.out).mono ?_
        rintro e w2 ⟨rfl, hb2⟩
        go_wp2_with fail
        go_roundw
        case rel => exact ⟨k + 1, by omega, by go_num, by rw [HS.out, Int.max_eq_left (by omega)], box_next hb hb2⟩
        case measure => simp [intOf]; omega
    · obtain rfl : k = 4 := by omega
      go_wp2
      go_ret
      exact ⟨ret_int (mostK_four es), below_box hb⟩
theorem all_next {es : List (Int × Int)} {k : Nat} {p q : Int} (h : allE (es.take k)) (hk : es[k]? = some (p, q)) (hp : partB p = true) (hq : inB q 0 1000 = true) : allE (es.take (k + 1)) := by
  rw [take_next hk]
  refine allE_append.2 ⟨h, allE_one.2 ((evB_iff _).2 ⟨partB_iff.1 hp, ?_⟩)⟩
  simpa [inB] using hq
theorem ld_no_at {b : Int} {es : List (Int × Int)} {k : Nat} {p q : Int} (hk : es[k]? = some (p, q)) (h : partB p = false ∨ inB q 0 1000 = false) : ldB b es = false := ldB_f fun hl => by
  have := all_at hl.2.2.2.1 hk
  rcases h with h | h
  · rw [partB_t this.1] at h; cases h
  · rw [inB_t this.2.1 this.2.2] at h; cases h

set_option maxHeartbeats 1000000 in
/-- impl.LedgerValid. -/
theorem valid_any (b : Int) (A : Option Addr) (n c : Nat) (es : List (Int × Int)) (w : World) (hx : Recs ef 2 w w.heap.size A es) (hn : es.length = n) (hm : n ≤ 4194304) :
    Calls Try.prog 16 #[.agg #[.int .i64 b, .slice A n c]] w fun e w' => e = .returned (.bool (ldB b es)) ∧ Below w.heap.size w w' := by
  have HN := Lib.hid hn
  clear hn
  have hx1 := hx.alloc (.cells #[.int .i64 b, .slice A n c] 25)
  cases hbud : inB b 0 1000
  · have hno : ldB b es = false := ldB_f fun h => by rw [inB_t h.1 h.2.1] at hbud; cases hbud
    go_enter Try.func16, Try.ntmps16
    go_wp2_with (go_at_call 31; refine (isBudget_any _ _).mono ?_; rintro e w' ⟨rfl, rfl⟩)
    go_ret
    exact ⟨ret_bool hno.symm, (Below.refl _ _).alloc (Nat.le_refl _) _⟩
  by_cases hl : 40 < n
  · have hno : ldB b es = false := ldB_f fun h => by have := h.2.2.1; have := HN.out; omega
    go_enter Try.func16, Try.ntmps16
    go_wp2_with (go_at_call 31; refine (isBudget_any _ _).mono ?_; rintro e w' ⟨rfl, rfl⟩)
    go_ret
    exact ⟨ret_bool hno.symm, (Below.refl _ _).alloc (Nat.le_refl _) _⟩
  go_enter Try.func16, Try.ntmps16
  go_wp2_with (go_at_call 31; refine (isBudget_any _ _).mono ?_; rintro e w' ⟨rfl, rfl⟩)
  go_loopw [18] (fun i wr => ∃ k : Nat, k ≤ n ∧ i = .int .i64 k ∧ Hid (allE (es.take k)) ∧ Below (w.heap.size + 1) (w.alloc (.cells #[.int .i64 b, .slice A n c] 25)) wr) (fun i _ => n - (intOf i).toNat)
  case atStart => exact ⟨0, by omega, rfl, by simp [Hid, allE], box_refl _ _⟩
  case round =>
    obtain ⟨k, hk, rfl, HA, hb⟩ := hrel
    by_cases hlt : k < n
    · obtain ⟨ob, o, p, q, rfl, hbb, HX, hc1, hc2⟩ := ents_at (hx1.on (hb.mono (by simp))) (k := k) (by have := HN.out; omega)
      have hb' := box_alloc hb (.cells #[.int .i64 p, .int .i64 q] 34)
      have hbw := below_box hb'
      cases hp : partB p
      · have hno : ldB b es = false := ld_no_at HX.out (.inl hp)
        go_wp2_with (go_at_call 32; refine (isPart_any _ _).mono ?_; rintro e w' ⟨rfl, rfl⟩)
        go_ret
        exact ⟨ret_bool hno.symm, hbw⟩
      cases hq : inB q 0 1000
      · have hno : ldB b es = false := ld_no_at HX.out (.inr hq)
        go_wp2_with (first | (go_at_call 32; refine (isPart_any _ _).mono ?_; rintro e w' ⟨rfl, rfl⟩) | (go_at_call 31; refine (isBudget_any _ _).mono ?_; rintro e w' ⟨rfl, rfl⟩))
        go_ret
        exact ⟨ret_bool hno.symm, hbw⟩
      have HB := Lib.hid (all_next HA.out HX.out hp hq)
      go_wp2_with (first | (go_at_call 32; refine (isPart_any _ _).mono ?_; rintro e w' ⟨rfl, rfl⟩) | (go_at_call 31; refine (isBudget_any _ _).mono ?_; rintro e w' ⟨rfl, rfl⟩))
      go_roundw
      case rel => exact ⟨k + 1, by omega, by go_num, HB, hb'⟩
      case measure => simp [intOf]; omega
    · have hall := HA.out
      rw [List.take_of_length_le (by have := HN.out; omega)] at hall
      have HALL := Lib.hid hall
      have hx2 := hx1.on (hb.mono (by simp))
      have HR := Lib.hid (show ldB b es = decide (most es ≤ b) by
        have hbd : 0 ≤ b ∧ b ≤ 1000 := by simpa [inB] using hbud
        rw [Bool.eq_iff_iff, ldB_iff, decide_eq_true_iff]
        exact ⟨fun h => h.2.2.2.2, fun h => ⟨hbd.1, hbd.2, by have := HN.out; omega, hall, h⟩⟩)
      obtain ⟨c0, c1⟩ := box_cells hb
      clear hall
      go_wp2_with fail
      have hbr : Below wr.heap.size wr wr.drew := (Below.refl _ _).drew
      go_region_held3 (fun w' => w'.cell? ⟨w.heap.size, 0, none⟩ = some (.int .i64 b) ∧ w'.cell? ⟨w.heap.size, 1, none⟩ = some (.slice A n c) ∧ Below wr.heap.size wr w') (go_keep)
        ((go_at_call 33; refine (most_any b A n c es _ (by exact hx2) HN.out (by omega) HALL.out).mono ?_; rintro e w2 ⟨rfl, hb2⟩; have hb3 : Below wr.heap.size wr w2 := ⟨hb2.os, hb2.tape, hb2.output, hb2.size, hb2.block⟩; obtain ⟨q0, q1⟩ := box_cells (box_next hb hb3); clear hb2))
      go_wp2
      go_ret
      refine ⟨ret_bool (by rw [HR.out]), ?_⟩
      exact below_box (box_next hb (by assumption))

set_option maxHeartbeats 400000 in
/-- spec.l31Spent. -/
theorem sspent_any (A : Option Addr) (n c : Nat) (es : List (Int × Int)) (area : Int) (w : World) (hx : Recs ef 2 w w.heap.size A es) (hn : es.length = n) (hm : n ≤ 40) (hall : allE es) :
    Calls Try.prog 37 #[.slice A n c, .int .i64 area] w fun e w' => e = .returned (.int .i64 (spent es area)) ∧ w = w' := by
  have HN := Lib.hid hn
  have HALL := Lib.hid hall
  clear hn hall
  go_enter Try.func37, Try.ntmps37
  go_wp2
  go_loop [5, 6] (fun s i => ∃ k : Nat, k ≤ n ∧ i = .int .i64 k ∧ s = .int .i64 (spent (es.take k) area)) (fun _ i => n - (intOf i).toNat)
  case atStart => exact ⟨0, by omega, rfl, rfl⟩
  case round =>
    obtain ⟨k, hk, rfl, rfl⟩ := hrel
    obtain ⟨s0, s1⟩ := spent_part HALL.out (by have := HN.out; omega) area k
    by_cases hlt : k < n
    · obtain ⟨b, o, p, q, rfl, hbb, HX, hc1, hc2⟩ := ents_at hx (k := k) (by have := HN.out; omega)
      obtain ⟨p0, q0, q1⟩ := all_at HALL.out HX.out
      have HS := Lib.hid (spent_step HX.out area)
      by_cases g1 : p < 0
      · have HI := Lib.hid (show spent (es.take (k + 1)) area = spent (es.take k) area + q by rw [HS.out, if_pos (.inl (by unfold partP at p0; omega))])
        clear p0
        go_wp2
        go_round
        case rel => exact ⟨k + 1, by omega, by go_num, by rw [HI.out]⟩
        case measure => simp [intOf]; omega
      · clear p0
        by_cases g2 : p = area
        · have HI := Lib.hid (show spent (es.take (k + 1)) area = spent (es.take k) area + q by rw [HS.out, if_pos (.inr g2)])
          have c2 : (p == area) = true := beq_iff_eq.2 g2
          clear g2
          go_wp2
          go_round
          case rel => exact ⟨k + 1, by omega, by go_num, by rw [HI.out]⟩
          case measure => simp [intOf]; omega
        · have HI := Lib.hid (show spent (es.take (k + 1)) area = spent (es.take k) area by rw [HS.out, if_neg (by omega)]; omega)
          have c2 : (p == area) = false := beq_eq_false_iff_ne.2 g2
          clear g2
          go_wp2
          go_round
          case rel => exact ⟨k + 1, by omega, by go_num, by rw [HI.out]⟩
          case measure => simp [intOf]; omega
    · go_wp2
      go_ret
      exact ⟨ret_int (by rw [List.take_of_length_le (by have := HN.out; omega)]), rfl⟩

set_option maxHeartbeats 400000 in
/-- spec.l31Most. -/
theorem smost_any (A : Option Addr) (n c : Nat) (es : List (Int × Int)) (w : World) (hx : Recs ef 2 w w.heap.size A es) (hn : es.length = n) (hm : n ≤ 40) (hall : allE es) :
    Calls Try.prog 35 #[.slice A n c] w fun e w' => e = .returned (.int .i64 (most es)) ∧ w = w' := by
  have HN := Lib.hid hn
  have HALL := Lib.hid hall
  clear hn hall
  go_enter Try.func35, Try.ntmps35
  go_wp2
  go_loop [3, 4] (fun s i => ∃ k : Nat, k ≤ 4 ∧ i = .int .i64 k ∧ s = .int .i64 (mostK es k)) (fun _ i => 4 - (intOf i).toNat)
  case atStart => exact ⟨0, by omega, rfl, rfl⟩
  case round =>
    obtain ⟨k, hk, rfl, rfl⟩ := hrel
    by_cases hlt : k < 4
    · have HS := Lib.hid (show mostK es (k + 1) = max (mostK es k) (spent es k) from rfl)
      by_cases hle : mostK es k < spent es k
      · go_wp2_with (go_at_call 37; refine (sspent_any A n c es _ _ hx HN.out hm HALL.out).mono ?_; rintro e w2 ⟨rfl, rfl⟩)
        go_round
        case rel => exact ⟨k + 1, by omega, by go_num, by rw [HS.out, Int.max_eq_right (Int.le_of_lt hle)]⟩
        case measure => simp [intOf]; omega
      · go_wp2_with (go_at_call 37; refine (sspent_any A n c es _ _ hx HN.out hm HALL.out).mono ?_; rintro e w2 ⟨rfl, rfl⟩)
        go_round
        case rel => exact ⟨k + 1, by omega, by go_num, by rw [HS.out, Int.max_eq_left (by omega)]⟩
        case measure => simp [intOf]; omega
    · obtain rfl : k = 4 := by omega
      go_wp2
      go_ret
      exact ⟨ret_int (mostK_four es), rfl⟩
theorem quiet_left {P : Program} {f : FuncId} {args : Array Value} {w : World} {n : Nat} {v : Value}
    (h : Calls P f args (w.drewN n) fun e w' => e = .returned v ∧ w.drewN n = w') : Calls P f args (w.drewN n) fun e w'' => e = .returned v ∧ ∃ m, w'' = w.drewN m :=
  h.mono fun _ _ ⟨he, hm⟩ => ⟨he, n, hm.symm⟩
theorem Recs.drewN {α : Type} {f : α → List Value} {sz : Nat} {w : World} {B : Nat} {A : Option Addr} {xs : List α} (h : Recs f sz w B A xs) (k : Nat) : Recs f sz (w.drewN k) B A xs := h
theorem below_drewN {B : Nat} {a w : World} (h : Below B a w) (n : Nat) : Below B a (w.drewN n) := ⟨h.os, h.tape, h.output, h.size, h.block⟩

set_option maxHeartbeats 1000000 in
/-- spec.LedgerValid. -/
theorem svalid_any (b : Int) (A : Option Addr) (n c : Nat) (es : List (Int × Int)) (w : World) (hx : Recs ef 2 w w.heap.size A es) (hn : es.length = n) (hm : n ≤ 4194304) :
    Calls Try.prog 17 #[.agg #[.int .i64 b, .slice A n c]] w fun e w' => e = .returned (.bool (ldB b es)) ∧ Below w.heap.size w w' := by
  have HN := Lib.hid hn
  clear hn
  have hx1 := hx.alloc (.cells #[.int .i64 b, .slice A n c] 25)
  have hbw : Below w.heap.size w (w.alloc (.cells #[.int .i64 b, .slice A n c] 25)) := (Below.refl _ _).alloc (Nat.le_refl _) _
  by_cases hl : 40 < n
  · have hno : ldB b es = false := ldB_f fun h => by have := h.2.2.1; have := HN.out; omega
    go_enter Try.func17, Try.ntmps17
    go_wp2
    go_ret
    exact ⟨ret_bool hno.symm, hbw⟩
  go_enter Try.func17, Try.ntmps17
  go_wp2_with fail
  go_loop [3] (fun i => ∃ k : Nat, k ≤ n ∧ i = .int .i64 k ∧ Hid (allE (es.take k))) (fun i => n - (intOf i).toNat)
  case atStart => exact ⟨0, by omega, rfl, by simp [Hid, allE]⟩
  case round =>
    obtain ⟨k, hk, rfl, HA⟩ := hrel
    by_cases hlt : k < n
    · obtain ⟨ob, o, p, q, rfl, hbb, HX, hc1, hc2⟩ := ents_at hx1 (k := k) (by have := HN.out; omega)
      cases hp : inB p (-1) 3
      · have hno : ldB b es = false := ld_no_at HX.out (.inl (by rw [part_in]; exact hp))
        go_wp2_with (go_at_call 34; refine (l6In_any _ _ _ _).mono ?_; rintro e w' ⟨rfl, rfl⟩)
        go_ret
        exact ⟨ret_bool hno.symm, hbw⟩
      cases hq : inB q 0 1000
      · have hno : ldB b es = false := ld_no_at HX.out (.inr hq)
        go_wp2_with (go_at_call 34; refine (l6In_any _ _ _ _).mono ?_; rintro e w' ⟨rfl, rfl⟩)
        go_ret
        exact ⟨ret_bool hno.symm, hbw⟩
      have HB := Lib.hid (all_next HA.out HX.out (by rw [part_in]; exact hp) hq)
      go_wp2_with (go_at_call 34; refine (l6In_any _ _ _ _).mono ?_; rintro e w' ⟨rfl, rfl⟩)
      go_round
      case rel => exact ⟨k + 1, by omega, by go_num, HB⟩
      case measure => simp [intOf]; omega
    · have hall := HA.out
      rw [List.take_of_length_le (by have := HN.out; omega)] at hall
      have HALL := Lib.hid hall
      cases hbud : inB b 0 1000
      · have hno : ldB b es = false := ldB_f fun h => by rw [inB_t h.1 h.2.1] at hbud; cases hbud
        clear hall
        go_wp2_with fail
        go_quiet ((go_at_call 34; exact quiet_left (l6In_any _ _ _ _)))
        go_wp2
        go_ret
        exact ⟨ret_bool hno.symm, below_drewN hbw _⟩
      · have HR := Lib.hid (show ldB b es = decide (most es ≤ b) by
          have hbd : 0 ≤ b ∧ b ≤ 1000 := by simpa [inB] using hbud
          rw [Bool.eq_iff_iff, ldB_iff, decide_eq_true_iff]
          exact ⟨fun h => h.2.2.2.2, fun h => ⟨hbd.1, hbd.2, by have := HN.out; omega, hall, h⟩⟩)
        clear hall
        go_wp2_with fail
        go_quiet (first | (go_at_call 34; exact quiet_left (l6In_any _ _ _ _)) | (go_at_call 35; exact quiet_left (smost_any A n c es _ (hx1.drewN _) HN.out (by omega) HALL.out)))
        go_wp2
        go_ret
        exact ⟨ret_bool (by rw [HR.out]), below_drewN hbw _⟩
theorem sv_no {b : Int} {es : List (Int × Int)} {a : Int} (h : ldB b es = false ∨ partB a = false) : sv b es a = -1 := sv_f fun hh => by
  rcases h with h | h
  · rw [ldB_t hh.1] at h; cases h
  · rw [partB_t hh.2] at h; cases h

set_option maxHeartbeats 400000 in
/-- impl.LedgerSpent. -/
theorem lspent_any (b : Int) (A : Option Addr) (n c : Nat) (es : List (Int × Int)) (area : Int) (w : World) (hx : Recs ef 2 w w.heap.size A es) (hn : es.length = n) (hm : n ≤ 4194304) :
    Calls Try.prog 18 #[.agg #[.int .i64 b, .slice A n c], .int .i64 area] w fun e w' => e = .returned (.int .i64 (sv b es area)) ∧ Below w.heap.size w w' := by
  have HN := Lib.hid hn
  clear hn
  have hx1 := hx.alloc (.cells #[.int .i64 b, .slice A n c] 25)
  go_enter Try.func18, Try.ntmps18
  go_wp2_with fail
  refine (valid_any b A n c es _ hx1 HN.out hm).mono ?_
  rintro e w1 ⟨rfl, hb1⟩
  have hb1 := box_full hb1
  have hx2 := hx1.on (hb1.mono (by simp))
  obtain ⟨c0, c1⟩ := box_cells hb1
  have hbw := below_box hb1
  cases hv : ldB b es
  · have hno := sv_no (a := area) (.inl hv)
    go_wp2_with fail
    go_ret
    exact ⟨ret_int hno.symm, hbw⟩
  have hld := ldB_iff.1 hv
  have HALL := Lib.hid hld.2.2.2.1
  have h40 : n ≤ 40 := by have := hld.2.2.1; have := HN.out; omega
  have HLD := Lib.hid hld
  clear hld
  cases hp : partB area
  · have hno := sv_no (b := b) (es := es) (.inr hp)
    go_wp2_with (go_at_call 32; refine (isPart_any _ _).mono ?_; rintro e w' ⟨rfl, rfl⟩)
    go_ret
    exact ⟨ret_int hno.symm, hbw⟩
  by_cases ha : area = -1
  · subst ha
    have HS := Lib.hid (sv_all HLD.out)
    go_wp2_with (first | (go_at_call 32; refine (isPart_any _ _).mono ?_; rintro e w' ⟨rfl, rfl⟩) | fail)
    refine (most_any b A n c es _ hx2 HN.out h40 HALL.out).mono ?_
    rintro e w2 ⟨rfl, hb2⟩
    go_wp2_with fail
    go_ret
    exact ⟨ret_int HS.out.symm, below_box (box_next hb1 hb2)⟩
  · have b1 : (area == -1) = false := beq_eq_false_iff_ne.2 ha
    have HS := Lib.hid (show sv b es area = spent es area by
      have := partB_iff.1 hp
      unfold partP at this
      exact sv_at HLD.out (by omega) (by omega))
    clear ha
    go_wp2_with (first | (go_at_call 32; refine (isPart_any _ _).mono ?_; rintro e w' ⟨rfl, rfl⟩) | fail)
    refine (spent_any b A n c es _ _ hx2 HN.out h40 HALL.out).mono ?_
    rintro e w2 ⟨rfl, hb2⟩
    go_wp2_with fail
    go_ret
    exact ⟨ret_int HS.out.symm, below_box (box_next hb1 hb2)⟩

set_option maxHeartbeats 400000 in
/-- spec.LedgerSpent. -/
theorem slspent_any (b : Int) (A : Option Addr) (n c : Nat) (es : List (Int × Int)) (area : Int) (w : World) (hx : Recs ef 2 w w.heap.size A es) (hn : es.length = n) (hm : n ≤ 4194304) :
    Calls Try.prog 21 #[.agg #[.int .i64 b, .slice A n c], .int .i64 area] w fun e w' => e = .returned (.int .i64 (sv b es area)) ∧ Below w.heap.size w w' := by
  have HN := Lib.hid hn
  clear hn
  have hx1 := hx.alloc (.cells #[.int .i64 b, .slice A n c] 25)
  go_enter Try.func21, Try.ntmps21
  go_wp2_with fail
  refine (svalid_any b A n c es _ hx1 HN.out hm).mono ?_
  rintro e w1 ⟨rfl, hb1⟩
  have hb1 := box_full hb1
  have hx2 := hx1.on (hb1.mono (by simp))
  obtain ⟨c0, c1⟩ := box_cells hb1
  have hbw := below_box hb1
  cases hv : ldB b es
  · have hno := sv_no (a := area) (.inl hv)
    go_wp2_with fail
    go_ret
    exact ⟨ret_int hno.symm, hbw⟩
  have hld := ldB_iff.1 hv
  have HALL := Lib.hid hld.2.2.2.1
  have h40 : n ≤ 40 := by have := hld.2.2.1; have := HN.out; omega
  have HLD := Lib.hid hld
  clear hld
  cases hp : inB area (-1) 3
  · have hno := sv_no (b := b) (es := es) (.inr (by rw [part_in]; exact hp))
    go_wp2_with (go_at_call 34; refine (l6In_any _ _ _ _).mono ?_; rintro e w' ⟨rfl, rfl⟩)
    go_ret
    exact ⟨ret_int hno.symm, hbw⟩
  have hpp : -1 ≤ area ∧ area ≤ 3 := by simpa [inB] using hp
  by_cases ha : area < 0
  · have HS := Lib.hid (show sv b es area = most es by rw [show area = -1 by omega]; exact sv_all HLD.out)
    go_wp2_with (first | (go_at_call 34; refine (l6In_any _ _ _ _).mono ?_; rintro e w' ⟨rfl, rfl⟩) | (go_at_call 35; refine (smost_any A n c es _ hx2 HN.out h40 HALL.out).mono ?_; rintro e w' ⟨rfl, rfl⟩))
    go_ret
    exact ⟨ret_int HS.out.symm, hbw⟩
  · have HS := Lib.hid (show sv b es area = spent es area from sv_at HLD.out (by omega) (by omega))
    go_wp2_with (first | (go_at_call 34; refine (l6In_any _ _ _ _).mono ?_; rintro e w' ⟨rfl, rfl⟩) | (go_at_call 37; refine (sspent_any A n c es _ _ hx2 HN.out h40 HALL.out).mono ?_; rintro e w' ⟨rfl, rfl⟩))
    go_ret
    exact ⟨ret_int HS.out.symm, hbw⟩
theorem lv_neg {b : Int} {es : List (Int × Int)} {a : Int} (h : sv b es a < 0) : lv b es a = -1 := lv_f fun hh => by have := sv_bd hh.1 hh.2; omega
theorem lv_pos {b : Int} {es : List (Int × Int)} {a : Int} (h : ¬ sv b es a < 0) : lv b es a = b - sv b es a ∧ 0 ≤ b ∧ b ≤ 1000 := by
  by_cases hh : ldP b es ∧ partP a
  · exact ⟨lv_t hh.1 hh.2, hh.1.1, hh.1.2.1⟩
  · rw [sv_f hh] at h; omega

set_option maxHeartbeats 400000 in
/-- impl.LedgerLeft. -/
theorem lleft_any (b : Int) (A : Option Addr) (n c : Nat) (es : List (Int × Int)) (area : Int) (w : World) (hx : Recs ef 2 w w.heap.size A es) (hn : es.length = n) (hm : n ≤ 4194304) :
    Calls Try.prog 19 #[.agg #[.int .i64 b, .slice A n c], .int .i64 area] w fun e w' => e = .returned (.int .i64 (lv b es area)) ∧ Below w.heap.size w w' := by
  have HN := Lib.hid hn
  clear hn
  have hx1 := hx.alloc (.cells #[.int .i64 b, .slice A n c] 25)
  go_enter Try.func19, Try.ntmps19
  go_wp2_with fail
  refine (lspent_any b A n c es _ _ hx1 HN.out hm).mono ?_
  rintro e w1 ⟨rfl, hb1⟩
  have hb1 := box_full hb1
  obtain ⟨c0, c1⟩ := box_cells hb1
  have hbw := below_box hb1
  obtain ⟨s0, s1⟩ := sv_rng b es area
  by_cases hs : sv b es area < 0
  · have HS := Lib.hid (lv_neg hs)
    go_wp2_with fail
    go_ret
    exact ⟨ret_int HS.out.symm, hbw⟩
  · obtain ⟨e1, b0, b1⟩ := lv_pos hs
    have HS := Lib.hid e1
    clear e1
    go_wp2_with fail
    go_ret
    exact ⟨ret_int HS.out.symm, hbw⟩

set_option maxHeartbeats 400000 in
/-- spec.LedgerLeft. -/
theorem slleft_any (b : Int) (A : Option Addr) (n c : Nat) (es : List (Int × Int)) (area : Int) (w : World) (hx : Recs ef 2 w w.heap.size A es) (hn : es.length = n) (hm : n ≤ 4194304) :
    Calls Try.prog 23 #[.agg #[.int .i64 b, .slice A n c], .int .i64 area] w fun e w' => e = .returned (.int .i64 (lv b es area)) ∧ Below w.heap.size w w' := by
  have HN := Lib.hid hn
  clear hn
  have hx1 := hx.alloc (.cells #[.int .i64 b, .slice A n c] 25)
  go_enter Try.func23, Try.ntmps23
  go_wp2_with fail
  refine (slspent_any b A n c es _ _ hx1 HN.out hm).mono ?_
  rintro e w1 ⟨rfl, hb1⟩
  have hb1 := box_full hb1
  obtain ⟨c0, c1⟩ := box_cells hb1
  have hbw := below_box hb1
  obtain ⟨s0, s1⟩ := sv_rng b es area
  by_cases hs : sv b es area < 0
  · have HS := Lib.hid (lv_neg hs)
    go_wp2_with fail
    go_ret
    exact ⟨ret_int HS.out.symm, hbw⟩
  · obtain ⟨e1, b0, b1⟩ := lv_pos hs
    have HS := Lib.hid e1
    clear e1
    go_wp2_with fail
    go_ret
    exact ⟨ret_int HS.out.symm, hbw⟩
end Go.Proofs.Ytllnmgadaodieaa
