/-
  DrawKeyChange: rows and keys out of a code; nothing that was there turns. And parts of rows and keys.
-/
import Derived.Test.YtgdoajhieiibcaaRowsD
import Derived.Test.YtgdoajhieiibcaaChange
namespace Go.Proofs.Ytgdoajhieiibcaa
open Go.RowKit

/-- What DrawKeyChange leaves. -/
def DrawKQ (w : World) (e : Ending) (w' : World) : Prop :=
  ∃ (D : Option Addr) (n c : Nat) (rs : List (List Int)) (D' : Option Addr) (m c' : Nat) (xs : List Int), e = .returned (.tuple #[.slice D n c, .slice D' m c']) ∧
    (n ≤ 8 ∧ n ≤ c ∧ c ≤ maxLen ∧ Hid (rs.length = n) ∧ Rws w' w'.heap.size D rs) ∧ (m ≤ 60 ∧ m ≤ c' ∧ c' ≤ maxLen ∧ Hid (xs.length = m) ∧ Ints w' w'.heap.size D' xs) ∧ Below w.heap.size w w'
set_option maxHeartbeats 400000 in
theorem drawk_any (a : Option Addr) (len cap : Nat) (zs : List Int) (w : World) (h : IsRow8 w a len cap zs) :
    Calls Try.prog 16 #[.slice a len cap] w (DrawKQ w) := by
  go_enter Try.func16, Try.ntmps16
  go_wp2_with fail
  refine (open_any a len cap zs _ h).mono ?_
  rintro e w1 ⟨A, l, c, rfl, hr, hb, -⟩
  go_wp2_with fail
  refine (rows_any _ A l c 0 _ hr (by omega)).mono ?_
  rintro e w2 ⟨D, n, cc, rs, rfl, n8, nc, cm, hl, hrs, hr2, hk2⟩
  go_wp2_with fail
  refine (keys_any _ A l c _ _ hr2 (by omega)).mono ?_
  rintro e w3 ⟨v, m, xs, rfl, m6, hxl, hown, hr3, hk3⟩
  obtain ⟨D', c', rfl⟩ := own_form hown
  have HL := Lib.hid hl
  have HX := Lib.hid hxl
  clear hl hxl
  go_wp2_with fail
  go_ret2
  have hc' := own_cap hown
  refine ⟨D, n, cc, rs, D', m, c', xs, rfl, ⟨n8, nc, cm, HL, hrs _ hk3⟩, ⟨m6, hc'.1, hc'.2, HX, ints_of_own hown⟩, ?_⟩
  exact (hb.grown hk2 hb.size (fun k e => by injection e with e; omega)).grown hk3 (by have := hb.size; have := hk2.size; omega) (fun k e => by injection e with e; omega)

theorem Rws.take {w : World} {B : Nat} {D : Option Addr} {rs : List (List Int)} (h : Rws w B D rs) (k : Nat) : Rws w B D (rs.take k) := by
  intro hp
  rw [List.length_take] at hp
  obtain ⟨b, o, e, hb, hc⟩ := h (by omega)
  refine ⟨b, o, e, hb, fun i r hr => hc i r ?_⟩
  rw [List.getElem?_take] at hr
  split at hr
  · exact hr
  · cases hr

theorem Rws.alloc {w : World} {D : Option Addr} {rs : List (List Int)} (h : Rws w w.heap.size D rs) (o : Obj) : Rws (w.alloc o) (w.alloc o).heap.size D rs :=
  (h.below ((Below.refl w.heap.size w).alloc (Nat.le_refl _) o)).more (by simp)
theorem Ints.alloc {w : World} {D : Option Addr} {xs : List Int} (h : Ints w w.heap.size D xs) (o : Obj) : Ints (w.alloc o) (w.alloc o).heap.size D xs :=
  (h.below ((Below.refl w.heap.size w).alloc (Nat.le_refl _) o)).more (by simp)
theorem Rws.on {w w' : World} {D : Option Addr} {rs : List (List Int)} (h : Rws w w.heap.size D rs) (hb : Below w.heap.size w w') : Rws w' w'.heap.size D rs := (h.below hb).more hb.size
theorem Ints.on {w w' : World} {D : Option Addr} {xs : List Int} (h : Ints w w.heap.size D xs) (hb : Below w.heap.size w w') : Ints w' w'.heap.size D xs := (h.below hb).more hb.size
theorem rows_take {rs : List (List Int)} (h : rowsP rs) {k : Nat} (hk : 1 ≤ k) (hk2 : k ≤ rs.length) : rowsP (rs.take k) := by
  refine ⟨by rw [List.length_take]; omega, by rw [List.length_take]; have := h.2.1; omega, fun i r hr => h.2.2 i r ?_⟩
  rw [List.getElem?_take] at hr
  split at hr
  · exact hr
  · cases hr
theorem kc_bd {rs : List (List Int)} {xs : List Int} (h : kcB rs xs = true) : 0 ≤ kcV rs xs ∧ kcV rs xs ≤ 50 := by
  have hk := h
  rw [kcB, Bool.and_eq_true] at h
  have h1 := ksB_iff.1 h.1
  have h2 := krB_iff.1 h.2
  have hi : min xs.length (rs.length - 1) < rs.length := by have := h2.1; omega
  have hr : rs[min xs.length (rs.length - 1)]? = some rs[min xs.length (rs.length - 1)] := List.getElem?_eq_getElem hi
  have hrow := h2.2.2 _ _ hr
  have hj : (ksV xs).toNat < (rs[min xs.length (rs.length - 1)]).length := by rw [hrow.1, ksV_t h1]; omega
  have hx : (rs[min xs.length (rs.length - 1)])[(ksV xs).toNat]? = some (rs[min xs.length (rs.length - 1)])[(ksV xs).toNat] := List.getElem?_eq_getElem hj
  have hel := hrow.2.2 _ (mem_of_at hx)
  rw [kc_at rfl rfl h.1 h.2 rfl hr hx]
  unfold elP at hel
  have := h1.1
  omega
/-- Without keys nobody is counted. -/
theorem kc_none {rs : List (List Int)} (h : krB rs = true) : kcB rs [] = true ∧ kcV rs [] = 0 := by
  have h2 := krB_iff.1 h
  have h1 : ksB [] = true := ksB_t ⟨by simp, by simp⟩
  have h0 : 0 < rs.length := by have := h2.1; omega
  have hr : rs[0]? = some rs[0] := List.getElem?_eq_getElem h0
  have hrow := h2.2.2 _ _ hr
  have hv : ksV [] = 0 := by rw [ksV_t (ksB_iff.1 h1)]; rfl
  have hj : 0 < (rs[0]).length := by rw [hrow.1]; omega
  have hx : (rs[0])[(ksV []).toNat]? = some (rs[0])[0] := by rw [hv]; exact List.getElem?_eq_getElem hj
  have hel := hrow.2.2 _ (mem_of_at hx)
  refine ⟨by rw [kcB, h1, h]; rfl, ?_⟩
  rw [kc_at (m := 0) (n := rs.length) (i := 0) rfl rfl h1 h (by omega) hr hx, hel.2.2.2 rfl]; rfl
/-- With one row alone nothing is changed. -/
theorem kc_one {rs : List (List Int)} {xs : List Int} (h : krB rs = true) (hk : ksB xs = true) : kcB (rs.take 1) xs = true ∧ kcV (rs.take 1) xs = xs.length := by
  have h2 := krB_iff.1 h
  have h3 : krB (rs.take 1) = true := krB_t (rows_take h2 (by omega) h2.1)
  have hl : (rs.take 1).length = 1 := by rw [List.length_take]; have := h2.1; omega
  have hr : (rs.take 1)[0]? = some (rs.take 1)[0] := List.getElem?_eq_getElem (by omega)
  have hrow := (krB_iff.1 h3).2.2 _ _ hr
  have hj : (ksV xs).toNat < ((rs.take 1)[0]).length := by rw [hrow.1, ksV_t (ksB_iff.1 hk)]; omega
  have hx : ((rs.take 1)[0])[(ksV xs).toNat]? = some ((rs.take 1)[0])[(ksV xs).toNat] := List.getElem?_eq_getElem hj
  have hel := hrow.2.2 _ (mem_of_at hx)
  refine ⟨by rw [kcB, h3, hk]; rfl, ?_⟩
  rw [kc_at (m := xs.length) (n := 1) (i := 0) rfl hl hk h3 (by omega) hr hx, hel.2.2.2 rfl]; omega
end Go.Proofs.Ytgdoajhieiibcaa
