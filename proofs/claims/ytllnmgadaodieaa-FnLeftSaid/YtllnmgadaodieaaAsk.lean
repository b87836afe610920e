/-
  The walks of slices.Clone at entries, checked, LedgerAsk, the program's and the reference's.
-/
import Derived.Test.YtllnmgadaodieaaRead
import Derived.Deep.DrawnRows
namespace Go.Proofs.Ytllnmgadaodieaa
open Go.RowKit
attribute [local go_sem ↓] Go.wp_at_zero Go.wp_at_succ

theorem own_form {w : World} {base : Nat} {t : TypeId} {size n : Nat} {v : Value} {xs : List Value} (h : w.ownsRow base t size v n xs) : ∃ D c, v = .slice D n c := by
  rcases h.2 with ⟨rfl, rfl⟩ | ⟨g, cap, cur, rfl, _⟩
  · exact ⟨_, _, rfl⟩
  · exact ⟨_, _, rfl⟩
theorem en_info : (Try.prog.info? 34).map (fun i => (i.zero, i.size, i.bytes)) = some (some (.agg #[.int .i64 0, .int .i64 0]), 2, 16) := by kernel_rfl
/-- Entries of one's own stay so, where what was there stays. -/
theorem own_below {w w' : World} {base : Nat} {t : TypeId} {size n : Nat} {v : Value} {xs : List Value} (h : w.ownsRow base t size v n xs) (hb : Below w.heap.size w w') : w'.ownsRow base t size v n xs :=
  h.kept (row := none) ⟨hb.os, hb.tape, hb.output, hb.size, fun k hk _ => hb.block k hk⟩ (by cases v.ownBlock <;> simp)
theorem own_base {w : World} {base base' : Nat} {t : TypeId} {size n : Nat} {v : Value} {xs : List Value} (h : w.ownsRow base t size v n xs) (hb : base' ≤ base) : w.ownsRow base' t size v n xs := by
  refine ⟨h.1, ?_⟩
  rcases h.2 with h | ⟨g, cap, cur, h1, h2, h3⟩
  · exact .inl h
  · exact .inr ⟨g, cap, cur, h1, Nat.le_trans hb h2, h3⟩

/-- What slices.Clone leaves: the same entries, of its own. -/
def CloneQ (es : List (Int × Int)) (n : Nat) (w : World) (e : Ending) (w' : World) : Prop :=
  ∃ (D : Option Addr) (c : Nat), e = .returned (.slice D n c) ∧ w'.ownsRow w.heap.size 34 2 (.slice D n c) n (flat ef es) ∧ Below w.heap.size w w'
set_option maxHeartbeats 400000 in
theorem clone_any (A : Option Addr) (n c : Nat) (es : List (Int × Int)) (w : World) (hx : Recs ef 2 w w.heap.size A es) (hn : es.length = n) (hm : n ≤ 4194304) :
    Calls Try.prog 39 #[.slice A n c] w (CloneQ es n w) := by
  obtain ⟨i0, hi0, hz0, hz1, hz2⟩ := info_parts en_info
  have hq := fun (W : World) => Lib.run_eql_slice_nil (P := Try.prog) W 23 34 A n c 0 0 Try.underlying23
  rcases A with _ | ad
  · have h0 : n = 0 := by
      rcases Nat.eq_zero_or_pos n with h | h
      · exact h
      · obtain ⟨_, _, e, _⟩ := hx (by omega)
        cases e
    subst h0
    have he : es = [] := List.eq_nil_of_length_eq_zero hn
    subst he
    clear hn
    go_enter Try.func39, Try.ntmps39
    go_wp2
    go_ret
    exact ⟨none, 0, rfl, World.ownsRow_nil _ _ _ _, Below.refl _ _⟩
  · have HN := Lib.hid hn
    clear hn
    have hx1 := (hx.alloc (.cells #[] 34)).src ef_len HN.out
    have hown0 : (w.alloc (.cells #[] 34)).ownsRow w.heap.size 34 2 (.slice (some ⟨w.heap.size, 0, none⟩) 0 0) 0 [] := World.ownsRow_made w #[] 0 (Nat.le_refl _) (by simp [maxLen]) rfl
    have q1 : 0 + n ≤ maxLen := by simp only [maxLen]; omega
    have q2 : (0 + n) * 16 ≤ 140737488355328 := by omega
    have q3 : w.heap.size ≤ (w.alloc (.cells #[] 34)).heap.size := by simp
    have q4 := flat_one_cell ef_one es
    go_enter Try.func39, Try.ntmps39
    go_wp2_with (at_builtin; refine wpList_append_src _ rfl _ _ 23 rfl w.heap.size 34 i0 (.agg #[.int .i64 0, .int .i64 0]) 2 16 Try.underlying23 hi0 hz0 hz1 hz2 rfl (by decide) _ 0 [] rfl hown0 _ n _ (flat ef es) rfl hx1 q4 q1 q2 q3 ?_)
    intro v' w3 hown3 hg3 _
    obtain ⟨D2, c2, rfl⟩ := own_form hown3
    have hb3 : Below w.heap.size w w3 := ((Below.refl _ _).alloc (Nat.le_refl _) _).grown hg3 (by simp) (fun k hk => by have hk : some w.heap.size = some k := hk; injection hk with hk; omega)
    go_wp2_with fail
    go_ret
    exact ⟨D2, c2, rfl, hown3, hb3⟩

theorem box2 (w : World) (o o' : Obj) : Below w.heap.size w ((w.alloc o).alloc o') := ((Below.refl _ _).alloc (Nat.le_refl _) _).alloc (by simp) _
set_option maxHeartbeats 400000 in
theorem checked_t (b : Int) (A : Option Addr) (n c : Nat) (es : List (Int × Int)) (w : World) (hx : Recs ef 2 w w.heap.size A es) (hn : es.length = n) (hm : n ≤ 4194304) (hv : ldB b es = true) :
    Calls Try.prog 38 #[.agg #[.int .i64 b, .slice A n c]] w fun e w' => e = .returned (.tuple #[.agg #[.int .i64 b, .slice A n c], .bool true]) ∧ Below w.heap.size w w' := by
  have HN := Lib.hid hn
  clear hn
  have hx1 := hx.alloc (.cells #[.int .i64 b, .slice A n c] 25)
  have hx2 := hx1.alloc (.cells #[.int .i64 0, .slice none 0 0] 25)
  go_enter Try.func38, Try.ntmps38
  go_wp2_with fail
  refine (valid_any b A n c es _ hx2 HN.out hm).mono ?_
  rintro e w1 ⟨rfl, hb1⟩
  obtain ⟨hc1, hf1⟩ := bcell hb1
  go_wp2_with fail
  refine bodyPost_ret (v := .tuple #[.agg #[.int .i64 b, .slice A n c], .bool true]) (by simp [results, Try.results38, go_sem, hc1]) rfl ⟨rfl, ?_⟩
  exact (((box2 w _ _).trans (hb1.mono (by simp; omega))).setCell (by simp) _).setCell (by simp) _
set_option maxHeartbeats 400000 in
theorem checked_f (b : Int) (A : Option Addr) (n c : Nat) (es : List (Int × Int)) (w : World) (hx : Recs ef 2 w w.heap.size A es) (hn : es.length = n) (hm : n ≤ 4194304) (hv : ldB b es = false) :
    Calls Try.prog 38 #[.agg #[.int .i64 b, .slice A n c]] w fun e w' => e = .returned (.tuple #[(.agg #[.int .i64 0, .slice none 0 0]), .bool false]) ∧ Below w.heap.size w w' := by
  have HN := Lib.hid hn
  clear hn
  have hx1 := hx.alloc (.cells #[.int .i64 b, .slice A n c] 25)
  have hx2 := hx1.alloc (.cells #[.int .i64 0, .slice none 0 0] 25)
  go_enter Try.func38, Try.ntmps38
  go_wp2_with fail
  refine (valid_any b A n c es _ hx2 HN.out hm).mono ?_
  rintro e w1 ⟨rfl, hb1⟩
  obtain ⟨hc1, hf1⟩ := bcell hb1
  go_wp2_with fail
  refine bodyPost_ret (v := .tuple #[(.agg #[.int .i64 0, .slice none 0 0]), .bool false]) (by simp [results, Try.results38, go_sem, hc1]) rfl ⟨rfl, ?_⟩
  exact (((box2 w _ _).trans (hb1.mono (by simp; omega))).setCell (by simp) _).setCell (by simp) _

/-- What LedgerAsk leaves where the question is answered. -/
def AskQ (b : Int) (es : List (Int × Int)) (p q : Int) (w : World) (e : Ending) (w' : World) : Prop :=
  ∃ (D : Option Addr) (n c : Nat), e = .returned (.tuple #[.agg #[.int .i64 b, .slice D n c], .bool true]) ∧ Hid (n = es.length + 1) ∧ w'.ownsRow w.heap.size 34 2 (.slice D n c) n (flat ef (es ++ [(p, q)])) ∧ Below w.heap.size w w'
theorem new_two (w : World) (p q : Value) (t : TypeId) : ∀ j u, [p, q][j]? = some u → (w.alloc (.cells #[p, q] t)).cell? ((⟨w.heap.size, 0, none⟩ : Addr).add j) = some u := by
  intro j u hj
  match j, hj with
  | 0, hj => simp only [List.getElem?_cons_zero, Option.some.injEq] at hj; subst hj; simp [Addr.add]
  | 1, hj => simp only [List.getElem?_cons_succ, List.getElem?_cons_zero, Option.some.injEq] at hj; subst hj; simp [Addr.add]
  | j + 2, hj => simp at hj
theorem src_two (w : World) (p q : Int) (t : TypeId) : Src (w.alloc (.cells #[.int .i64 p, .int .i64 q] t)) 2 (some ⟨w.heap.size, 0, none⟩) 1 (ef (p, q)) :=
  ⟨rfl, fun _ => ⟨_, rfl, new_two w _ _ t⟩⟩
/-- The new entry's block stays. -/
theorem src_kept {w w' : World} {sz m : Nat} {A : Option Addr} {news : List Value} (h : Src w sz A m news) (hb : Below w.heap.size w w') : Src w' sz A m news :=
  ⟨h.1, fun hm => by
    obtain ⟨ad, e, hc⟩ := h.2 hm
    refine ⟨ad, e, fun j u hj => ?_⟩
    have h1 := hc j u hj
    rw [hb.cell (World.block_lt_of_cell? _ _ h1)]; exact h1⟩
theorem src_alloc {w : World} {sz m : Nat} {A : Option Addr} {news : List Value} (h : Src w sz A m news) (o : Obj) : Src (w.alloc o) sz A m news := src_kept h ((Below.refl _ _).alloc (Nat.le_refl _) o)


set_option maxHeartbeats 400000 in
theorem ask_n (b : Int) (A : Option Addr) (n c : Nat) (es : List (Int × Int)) (p q : Int) (w : World) (hx : Recs ef 2 w w.heap.size A es) (hn : es.length = n) (hm : n ≤ 2097152) (hv : ldB b es = false) :
    Calls Try.prog 24 #[.agg #[.int .i64 b, .slice A n c], .int .i64 p, .int .i64 q] w fun e w' => e = .returned (.tuple #[(.agg #[.int .i64 0, .slice none 0 0]), .bool false]) ∧ Below w.heap.size w w' := by
  have HN := Lib.hid hn
  clear hn
  have hx1 := hx.alloc (.cells #[.int .i64 b, .slice A n c] 25)
  have hx2 := hx1.alloc (.cells #[.int .i64 0, .slice none 0 0] 25)
  go_enter Try.func24, Try.ntmps24
  go_wp2_with fail
  refine (valid_any b A n c es _ hx2 HN.out (by omega)).mono ?_
  rintro e w1 ⟨rfl, hb1⟩
  obtain ⟨hc1, hf1⟩ := bcell hb1
  go_wp2_with fail
  refine bodyPost_ret (v := .tuple #[(.agg #[.int .i64 0, .slice none 0 0]), .bool false]) (by simp [results, Try.results24, go_sem, hc1]) rfl ⟨rfl, ?_⟩
  exact (((box2 w _ _).trans (hb1.mono (by simp; omega))).setCell (by simp) _).setCell (by simp) _

set_option maxHeartbeats 1000000 in
theorem ask_t (b : Int) (A : Option Addr) (n c : Nat) (es : List (Int × Int)) (p q : Int) (w : World) (hx : Recs ef 2 w w.heap.size A es) (hn : es.length = n) (hm : n ≤ 2097152) (hv : ldB b es = true) (hv2 : ldB b (es ++ [(p, q)]) = true) :
    Calls Try.prog 24 #[.agg #[.int .i64 b, .slice A n c], .int .i64 p, .int .i64 q] w (AskQ b es p q w) := by
  obtain ⟨i0, hi0, hz0, hz1, hz2⟩ := info_parts en_info
  have HN := Lib.hid hn
  clear hn
  have HV := Lib.hid hv2
  clear hv2
  have hx1 := hx.alloc (.cells #[.int .i64 b, .slice A n c] 25)
  have hx2 := hx1.alloc (.cells #[.int .i64 0, .slice none 0 0] 25)
  go_enter Try.func24, Try.ntmps24
  go_wp2_with fail
  refine (valid_any b A n c es _ hx2 HN.out (by omega)).mono ?_
  rintro e w1 ⟨rfl, hb1⟩
  have hb1 : Below (w.heap.size + 2) ((w.alloc (.cells #[.int .i64 b, .slice A n c] 25)).alloc (.cells #[.int .i64 0, .slice none 0 0] 25)) w1 := hb1.mono (by simp)
  obtain ⟨hc1, hf1⟩ := bcell hb1
  have hx3 := hx2.on (hb1.mono (by simp))
  have c0 : w1.cell? ⟨w.heap.size, 0, none⟩ = some (.int .i64 b) := by rw [hc1 _ _ (by omega)]; simp
  have c1 : w1.cell? ⟨w.heap.size, 1, none⟩ = some (.slice A n c) := by rw [hc1 _ _ (by omega)]; simp
  have r0 : w1.cell? ⟨w.heap.size + 1, 0, none⟩ = some (.int .i64 0) := by rw [hc1 _ _ (by omega)]; simp
  have r1 : w1.cell? ⟨w.heap.size + 1, 1, none⟩ = some (.slice none 0 0) := by rw [hc1 _ _ (by omega)]; simp
  have f0 : w1.frozen? ⟨w.heap.size + 1, 0, none⟩ = false := by rw [hf1 _ _ (by omega)]; simp
  have f1 : w1.frozen? ⟨w.heap.size + 1, 1, none⟩ = false := by rw [hf1 _ _ (by omega)]; simp
  have hz : w.heap.size + 2 ≤ w1.heap.size := by have := hb1.size; simp at this; exact this
  have hbw : Below w.heap.size w w1 := (box2 w _ _).trans (hb1.mono (by omega))
  clear hc1 hf1
  have hbr : Below w1.heap.size w1 w1.drew := (Below.refl _ _).drew
  have q1 : n + 1 ≤ maxLen := by simp only [maxLen]; omega
  have q2 : (n + 1) * 16 ≤ 140737488355328 := by omega
  have HF := Lib.hid (show flat ef es ++ ef (p, q) = flat ef (es ++ [(p, q)]) by rw [flat_append, flat_one])
  have HL := Lib.hid (show (es ++ [(p, q)]).length = n + 1 by have := HN.out; simp; exact this)
  go_wp2_with fail
  go_region_held3 (fun w' => w'.cell? ⟨w.heap.size, 0, none⟩ = some (.int .i64 b) ∧ w'.cell? ⟨w.heap.size, 1, none⟩ = some (.slice A n c)) (go_keep)
    (first
      | (go_at_call 39
         first
           | (refine (clone_any A n c es _ (hx3.on hbr) HN.out (by omega)).mono ?_
              rintro e w2 ⟨D2, c2, rfl, hown2, hb2⟩
              have hbc : Below w1.heap.size w1 w2 := hbr.trans hb2
              have hs := True.intro)
           | (refine (clone_any A n c es _ (hx3.on (hbr.alloc (Nat.le_refl _) _)) HN.out (by omega)).mono ?_
              rintro e w2 ⟨D2, c2, rfl, hown2, hb2⟩
              have hbc : Below w1.heap.size w1 w2 := (hbr.alloc (Nat.le_refl _) _).trans (hb2.mono (by simp))
              have hs := src_kept (src_two _ p q 34) hb2)
         have hown2 := own_base hown2 (base' := w1.heap.size) (by simp)
         have e10 := (hbc.cell (p := ⟨w.heap.size, 0, none⟩) (by show w.heap.size < _; omega)).trans c0
         have e11 := (hbc.cell (p := ⟨w.heap.size, 1, none⟩) (by show w.heap.size < _; omega)).trans c1
         clear hb2)
      | (first
           | (refine step_append_src _ (by rfl) _ _ 23 (by rfl) w1.heap.size 34 i0 (.agg #[.int .i64 0, .int .i64 0]) 2 16 Try.underlying23 hi0 hz0 hz1 hz2 rfl (by decide) _ n (flat ef es) (by rfl) hown2 _ 1 _ (ef (p, q)) (by rfl) hs (ef_one _) q1 q2 hbc.size ?_
              intro v' w3 hown3 hg3 _
              have hbd : Below w1.heap.size w1 w3 := hbc.grown hg3 hbc.size (fun k e => (hown2.lt k e).1))
           | (refine step_append_src _ (by rfl) _ _ 23 (by rfl) w1.heap.size 34 i0 (.agg #[.int .i64 0, .int .i64 0]) 2 16 Try.underlying23 hi0 hz0 hz1 hz2 rfl (by decide) _ n (flat ef es) (by rfl) (hown2.alloc _) _ 1 _ (ef (p, q)) (by rfl) (src_two _ p q _) (ef_one _) q1 q2 (hbc.alloc hbc.size _).size ?_
              intro v' w3 hown3 hg3 _
              have hbd : Below w1.heap.size w1 w3 := (hbc.alloc hbc.size _).grown hg3 (hbc.alloc hbc.size _).size (fun k e => (hown2.lt k e).1))
         rw [HF.out] at hown3
         obtain ⟨D3, c3, rfl⟩ := own_form hown3
         have e20 := (hbd.cell (p := ⟨w.heap.size, 0, none⟩) (by show w.heap.size < _; omega)).trans c0
         have e21 := (hbd.cell (p := ⟨w.heap.size, 1, none⟩) (by show w.heap.size < _; omega)).trans c1
         clear hs)
      | (go_at_call 38
         refine (checked_t b D3 (n + 1) c3 (es ++ [(p, q)]) _ (Recs.of_own ef_len hown3 (by omega)).2 HL.out (by omega) HV.out).mono ?_
         rintro e w4 ⟨rfl, hb4⟩
         have hbe : Below w1.heap.size w1 w4 := hbd.trans (hb4.mono hbd.size)
         have hown4 := own_below hown3 hb4
         have e30 := (hbe.cell (p := ⟨w.heap.size, 0, none⟩) (by show w.heap.size < _; omega)).trans c0
         have e31 := (hbe.cell (p := ⟨w.heap.size, 1, none⟩) (by show w.heap.size < _; omega)).trans c1
         have e6 := (hbe.cell (p := ⟨w.heap.size + 1, 0, none⟩) (by show w.heap.size + 1 < _; omega)).trans r0
         have e7 := (hbe.cell (p := ⟨w.heap.size + 1, 1, none⟩) (by show w.heap.size + 1 < _; omega)).trans r1
         have e8 := (hbe.frozen (p := ⟨w.heap.size + 1, 0, none⟩) (by show w.heap.size + 1 < _; omega)).trans f0
         have e9 := (hbe.frozen (p := ⟨w.heap.size + 1, 1, none⟩) (by show w.heap.size + 1 < _; omega)).trans f1))
  all_goals
    go_wp2_with fail
    refine bodyPost_ret (v := .tuple #[.agg #[.int .i64 b, .slice D3 (n + 1) c3], .bool true]) (by simp [results, Try.results24, go_sem, *]) rfl ⟨D3, n + 1, c3, rfl, by rw [HN.out]; rfl, ?_, ?_⟩
    · exact own_base (ownsRow_setCell_below (ownsRow_setCell_below hown4 (by show w.heap.size + 1 < _; omega) _) (by show w.heap.size + 1 < _; omega) _) (by omega)
    · exact ((hbw.trans (hbe.mono (by omega))).setCell (by show _ ≤ w.heap.size + 1; omega) _).setCell (by show _ ≤ w.heap.size + 1; omega) _

set_option maxHeartbeats 1000000 in
theorem ask_f (b : Int) (A : Option Addr) (n c : Nat) (es : List (Int × Int)) (p q : Int) (w : World) (hx : Recs ef 2 w w.heap.size A es) (hn : es.length = n) (hm : n ≤ 2097152) (hv : ldB b es = true) (hv2 : ldB b (es ++ [(p, q)]) = false) :
    Calls Try.prog 24 #[.agg #[.int .i64 b, .slice A n c], .int .i64 p, .int .i64 q] w fun e w' => e = .returned (.tuple #[(.agg #[.int .i64 0, .slice none 0 0]), .bool false]) ∧ Below w.heap.size w w' := by
  obtain ⟨i0, hi0, hz0, hz1, hz2⟩ := info_parts en_info
  have HN := Lib.hid hn
  clear hn
  have HV := Lib.hid hv2
  clear hv2
  have hx1 := hx.alloc (.cells #[.int .i64 b, .slice A n c] 25)
  have hx2 := hx1.alloc (.cells #[.int .i64 0, .slice none 0 0] 25)
  go_enter Try.func24, Try.ntmps24
  go_wp2_with fail
  refine (valid_any b A n c es _ hx2 HN.out (by omega)).mono ?_
  rintro e w1 ⟨rfl, hb1⟩
  have hb1 : Below (w.heap.size + 2) ((w.alloc (.cells #[.int .i64 b, .slice A n c] 25)).alloc (.cells #[.int .i64 0, .slice none 0 0] 25)) w1 := hb1.mono (by simp)
  obtain ⟨hc1, hf1⟩ := bcell hb1
  have hx3 := hx2.on (hb1.mono (by simp))
  have c0 : w1.cell? ⟨w.heap.size, 0, none⟩ = some (.int .i64 b) := by rw [hc1 _ _ (by omega)]; simp
  have c1 : w1.cell? ⟨w.heap.size, 1, none⟩ = some (.slice A n c) := by rw [hc1 _ _ (by omega)]; simp
  have r0 : w1.cell? ⟨w.heap.size + 1, 0, none⟩ = some (.int .i64 0) := by rw [hc1 _ _ (by omega)]; simp
  have r1 : w1.cell? ⟨w.heap.size + 1, 1, none⟩ = some (.slice none 0 0) := by rw [hc1 _ _ (by omega)]; simp
  have f0 : w1.frozen? ⟨w.heap.size + 1, 0, none⟩ = false := by rw [hf1 _ _ (by omega)]; simp
  have f1 : w1.frozen? ⟨w.heap.size + 1, 1, none⟩ = false := by rw [hf1 _ _ (by omega)]; simp
  have hz : w.heap.size + 2 ≤ w1.heap.size := by have := hb1.size; simp at this; exact this
  have hbw : Below w.heap.size w w1 := (box2 w _ _).trans (hb1.mono (by omega))
  clear hc1 hf1
  have hbr : Below w1.heap.size w1 w1.drew := (Below.refl _ _).drew
  have q1 : n + 1 ≤ maxLen := by simp only [maxLen]; omega
  have q2 : (n + 1) * 16 ≤ 140737488355328 := by omega
  have HF := Lib.hid (show flat ef es ++ ef (p, q) = flat ef (es ++ [(p, q)]) by rw [flat_append, flat_one])
  have HL := Lib.hid (show (es ++ [(p, q)]).length = n + 1 by have := HN.out; simp; exact this)
  go_wp2_with fail
  go_region_held3 (fun w' => w'.cell? ⟨w.heap.size, 0, none⟩ = some (.int .i64 b) ∧ w'.cell? ⟨w.heap.size, 1, none⟩ = some (.slice A n c)) (go_keep)
    (first
      | (go_at_call 39
         first
           | (refine (clone_any A n c es _ (hx3.on hbr) HN.out (by omega)).mono ?_
              rintro e w2 ⟨D2, c2, rfl, hown2, hb2⟩
              have hbc : Below w1.heap.size w1 w2 := hbr.trans hb2
              have hs := True.intro)
           | (refine (clone_any A n c es _ (hx3.on (hbr.alloc (Nat.le_refl _) _)) HN.out (by omega)).mono ?_
              rintro e w2 ⟨D2, c2, rfl, hown2, hb2⟩
              have hbc : Below w1.heap.size w1 w2 := (hbr.alloc (Nat.le_refl _) _).trans (hb2.mono (by simp))
              have hs := src_kept (src_two _ p q 34) hb2)
         have hown2 := own_base hown2 (base' := w1.heap.size) (by simp)
         have e10 := (hbc.cell (p := ⟨w.heap.size, 0, none⟩) (by show w.heap.size < _; omega)).trans c0
         have e11 := (hbc.cell (p := ⟨w.heap.size, 1, none⟩) (by show w.heap.size < _; omega)).trans c1
         clear hb2)
      | (first
           | (refine step_append_src _ (by rfl) _ _ 23 (by rfl) w1.heap.size 34 i0 (.agg #[.int .i64 0, .int .i64 0]) 2 16 Try.underlying23 hi0 hz0 hz1 hz2 rfl (by decide) _ n (flat ef es) (by rfl) hown2 _ 1 _ (ef (p, q)) (by rfl) hs (ef_one _) q1 q2 hbc.size ?_
              intro v' w3 hown3 hg3 _
              have hbd : Below w1.heap.size w1 w3 := hbc.grown hg3 hbc.size (fun k e => (hown2.lt k e).1))
           | (refine step_append_src _ (by rfl) _ _ 23 (by rfl) w1.heap.size 34 i0 (.agg #[.int .i64 0, .int .i64 0]) 2 16 Try.underlying23 hi0 hz0 hz1 hz2 rfl (by decide) _ n (flat ef es) (by rfl) (hown2.alloc _) _ 1 _ (ef (p, q)) (by rfl) (src_two _ p q _) (ef_one _) q1 q2 (hbc.alloc hbc.size _).size ?_
              intro v' w3 hown3 hg3 _
              have hbd : Below w1.heap.size w1 w3 := (hbc.alloc hbc.size _).grown hg3 (hbc.alloc hbc.size _).size (fun k e => (hown2.lt k e).1))
         rw [HF.out] at hown3
         obtain ⟨D3, c3, rfl⟩ := own_form hown3
         have e20 := (hbd.cell (p := ⟨w.heap.size, 0, none⟩) (by show w.heap.size < _; omega)).trans c0
         have e21 := (hbd.cell (p := ⟨w.heap.size, 1, none⟩) (by show w.heap.size < _; omega)).trans c1
         clear hs)
      | (go_at_call 38
         refine (checked_f b D3 (n + 1) c3 (es ++ [(p, q)]) _ (Recs.of_own ef_len hown3 (by omega)).2 HL.out (by omega) HV.out).mono ?_
         rintro e w4 ⟨rfl, hb4⟩
         have hbe : Below w1.heap.size w1 w4 := hbd.trans (hb4.mono hbd.size)
         have hown4 := own_below hown3 hb4
         have e30 := (hbe.cell (p := ⟨w.heap.size, 0, none⟩) (by show w.heap.size < _; omega)).trans c0
         have e31 := (hbe.cell (p := ⟨w.heap.size, 1, none⟩) (by show w.heap.size < _; omega)).trans c1
         have e6 := (hbe.cell (p := ⟨w.heap.size + 1, 0, none⟩) (by show w.heap.size + 1 < _; omega)).trans r0
         have e7 := (hbe.cell (p := ⟨w.heap.size + 1, 1, none⟩) (by show w.heap.size + 1 < _; omega)).trans r1
         have e8 := (hbe.frozen (p := ⟨w.heap.size + 1, 0, none⟩) (by show w.heap.size + 1 < _; omega)).trans f0
         have e9 := (hbe.frozen (p := ⟨w.heap.size + 1, 1, none⟩) (by show w.heap.size + 1 < _; omega)).trans f1))
  all_goals
    go_wp2_with fail
    refine bodyPost_ret (v := .tuple #[(.agg #[.int .i64 0, .slice none 0 0]), .bool false]) (by simp [results, Try.results24, go_sem, *]) rfl ⟨rfl, ?_⟩
    exact ((hbw.trans (hbe.mono (by omega))).setCell (by show _ ≤ w.heap.size + 1; omega) _).setCell (by show _ ≤ w.heap.size + 1; omega) _
end Go.Proofs.Ytllnmgadaodieaa
