/-
  Closed facts of this translation that every row asks (how it was cut): proved once, by the first words of its head alone.
-/
import Derived.Test.YtpjiencegicjbaaRows
import Derived.JoinedOf
import Derived.KernelRfl
namespace Go.Proofs.Ytpjiencegicjbaa

/-- The first word of a list of signs. -/
theorem words_at (L : List Char) (k : Nat) (h1 : (L.take k).all (fun c => c != Char.ofNat 32) = true) (h2 : L[k]? = some (Char.ofNat 32)) :
    wordsSigns L = L.take k :: wordsSigns (L.drop (k + 1)) := by
  induction k generalizing L with
  | zero =>
    cases L with
    | nil => cases h2
    | cons c r =>
      simp only [List.getElem?_cons_zero, Option.some.injEq] at h2
      subst h2
      rfl
  | succ k ih =>
    cases L with
    | nil => cases h2
    | cons c r =>
      simp only [List.take_succ_cons, List.all_cons, Bool.and_eq_true, bne_iff_ne] at h1
      have h := ih r h1.2 (by simpa using h2)
      have e : wordsSigns (c :: r) = match wordsSigns r with | w :: ws => (c :: w) :: ws | [] => [[c]] := by
        rw [wordsSigns]
        · rfl
        · exact h1.1
      rw [e, h]
      rfl

theorem behind_at {a b : List Char} {r : List (List Char)} (h : ((a == "harness".toList || a == "ownmain".toList) && isSumSigns b) = true) : behindMainWord (a :: b :: r) = r := by
  rw [behindMainWord, if_pos h]
theorem head_gen (L : List Char) (h1 : (L.take 7).all (fun c => c != Char.ofNat 32) = true) (h2 : L[7]? = some (Char.ofNat 32)) (h3 : (((L.drop 8).take 64)).all (fun c => c != Char.ofNat 32) = true) (h4 : (L.drop 8)[64]? = some (Char.ofNat 32))
   (h5 : (((L.drop 8).drop 65).take 3).all (fun c => c != Char.ofNat 32) = true) (h6 : ((L.drop 8).drop 65)[3]? = some (Char.ofNat 32))
   (h7 : (((L.take 7) == "harness".toList || (L.take 7) == "ownmain".toList) && isSumSigns ((L.drop 8).take 64)) = true) (h8 : ((L.drop 8).drop 65).take 3 = "cut".toList) : ∃ X, behindMainWord (wordsSigns L) = "cut".toList :: X := by
  rw [words_at L 7 h1 h2, words_at _ 64 h3 h4, behind_at h7, words_at _ 3 h5 h6, h8]
  exact ⟨_, rfl⟩
set_option maxRecDepth 100000 in
theorem head_list : ∃ L, Try.prog.initOrder.toList = L ∧ ((L.take 7).all (fun c => c != Char.ofNat 32) = true) ∧ (L[7]? = some (Char.ofNat 32)) ∧ ((((L.drop 8).take 64)).all (fun c => c != Char.ofNat 32) = true) ∧ ((L.drop 8)[64]? = some (Char.ofNat 32))
   ∧ ((((L.drop 8).drop 65).take 3).all (fun c => c != Char.ofNat 32) = true) ∧ (((L.drop 8).drop 65)[3]? = some (Char.ofNat 32)) ∧ ((((L.take 7) == "harness".toList || (L.take 7) == "ownmain".toList) && isSumSigns ((L.drop 8).take 64)) = true) ∧ (((L.drop 8).drop 65).take 3 = "cut".toList) := by
  have h : Try.prog.initOrder = String.ofList _ := rfl
  rw [h, String.toList_ofList]
  exact ⟨_, rfl, by kernel_rfl, by kernel_rfl, by kernel_rfl, by kernel_rfl, by kernel_rfl, by kernel_rfl, by kernel_rfl, by kernel_rfl⟩
theorem head_words : ∃ X, behindMainWord (wordsSigns Try.prog.initOrder.toList) = "cut".toList :: X := by
  obtain ⟨L, e, h1, h2, h3, h4, h5, h6, h7, h8⟩ := head_list
  rw [e]
  exact head_gen L h1 h2 h3 h4 h5 h6 h7 h8
theorem strip_none (os : List String) (w : List Char) (ws : List (List Char)) (h : os.all (fun o => !(w == o.toList)) = true) : stripLifts os (w :: ws) = ([], w :: ws) := by
  induction os with
  | nil => rfl
  | cons o os ih =>
    simp only [List.all_cons, Bool.and_eq_true, Bool.not_eq_true'] at h
    rw [stripLifts, if_neg (by rw [h.1]; exact Bool.false_ne_true)]
    exact ih h.2
theorem strip_cut (X : List (List Char)) : stripLifts liftWords ("cut".toList :: X) = ([], "cut".toList :: X) := strip_none _ _ _ (by kernel_rfl)
theorem lifts_gen (P : Program) (X : List (List Char)) (h : behindMainWord (wordsSigns P.initOrder.toList) = "cut".toList :: X) : P.liftsFinal = false := by
  have e : P.headLifts = [] := by
    unfold Program.headLifts
    rw [h, strip_cut]
    rfl
  unfold Program.liftsFinal
  rw [h, e]
  show _ = false
  kernel_rfl
theorem lifts_final : Try.prog.liftsFinal = false := by
  obtain ⟨X, h⟩ := head_words
  exact lifts_gen _ X h
theorem made_gen (P : Program) (X : List (List Char)) (h : behindMainWord (wordsSigns P.initOrder.toList) = "cut".toList :: X) : P.make = some .cut := by
  unfold Program.make
  rw [h]
  show _ = _
  kernel_rfl
theorem made : Try.prog.make = some .cut := by
  obtain ⟨X, h⟩ := head_words
  exact made_gen _ X h
theorem enter_gen (P : Program) (X : List (List Char)) (h : behindMainWord (wordsSigns P.initOrder.toList) = "cut".toList :: X) (h1 : P.laysLater = false) (h2 : P.bearsReflect = false) (h3 : P.doorFits [] = true) : P.mayEnter = true := by
  unfold Program.mayEnter
  rw [h]
  show (_ || _ || _) = true
  rw [strip_cut, h1, h2, h3]
  show _ = true
  kernel_rfl
theorem may_enter : Try.prog.mayEnter = true := by
  obtain ⟨X, h⟩ := head_words
  exact enter_gen _ X h (by kernel_rfl) (by kernel_rfl) (by kernel_rfl)
#print axioms may_enter
end Go.Proofs.Ytpjiencegicjbaa
