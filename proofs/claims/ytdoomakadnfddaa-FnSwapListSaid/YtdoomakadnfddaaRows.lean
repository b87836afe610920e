/-
  No cell of these rows narrows 'for every input' (looked for: loops, veiled, ifaces, maps, wideKeys, modest, calm, conditions, laid).
  DERIVED. THE GIVEN ROWS OF THIS SEAT. 12 by the template 'for every input the law returns true; each argument reads behind the call as it read before'; 0 by the template 'total and deterministic' (their statements: YtdoomakadnfddaaTotals.lean).
  GIVEN WITH THE SEED: the statements are not yours to turn. If you find one false, say at which input.
  Laid BY PROGRAM, IN A SANDBOX (cutbox-rows.mjs): the forced cells as the released guide's own fill.sh prints them over the translation a06bd84c1fe9023e… (all of the seat's roots in one cut). By AI agents, Wed Nov 11 2026. No macro, syntax, notation, axiom, sorry.
-/
import Derived.Test.YtdoomakadnfddaaChecked
import GoSem.Claim
import GoSem.ClaimJoined
import GoSem.ClaimMapViews
import Derived.JoinedTies
import Derived.KernelRfl
namespace Go.Proofs.Ytdoomakadnfddaa
/- THE CELL 'sum', in the pinned program and in every row, IS THE sha256 OF THE DUMP (.gsa) THAT YtdoomakadnfddaaProg.lean LOADS. Nothing in Lean hashes anything: it is a label: what it is worth is what the hold of that sum in a sandbox is worth. -/
noncomputable def Try.pinned : Pinned := { name := "ytdoomakadnfddaa", sum := "a06bd84c1fe9023e530381ff4434d7ca2abc8e7dab3cd6b74e0bbfd9a5582199", checked := Try.checked }
namespace Rows
def none {H : Type} : Left H := { results := [], args := [] }

/-- 'laws.FnSwapOk': WHATEVER THE INPUT: true; the input reads as it did. -/
def fnSwapOkSpec : ChangeSpec := { name := "fnSwapOk", fn := fun _ => fun
  | [d] => { results := [.lit (.bool true)], args := [d] }
  | _ => none }
def fnSwapOkRow : OpenClaim := { program := "ytdoomakadnfddaa", sum := "a06bd84c1fe9023e530381ff4434d7ca2abc8e7dab3cd6b74e0bbfd9a5582199", func := "loop.example/disclosurecontrol/laws.FnSwapOk", spec := "fnSwapOk", apart := false }
def FnSwapOkSaid : Prop := fnSwapOkRow.holds Try.pinned (OpenSpec.ofChange fnSwapOkSpec)

/-- ITS FALSE NEIGHBOUR: 'it returns false'. Refute it at one input. -/
def fnSwapOkWrong : ChangeSpec := { name := "fnSwapOk", fn := fun _ => fun
  | [d] => { results := [.lit (.bool false)], args := [d] }
  | _ => none }
def FnSwapOkWrongFalsely : Prop := fnSwapOkRow.holds Try.pinned (OpenSpec.ofChange fnSwapOkWrong)

/-- 'laws.FnSwapAgain': WHATEVER THE INPUT: true; the input reads as it did. -/
def fnSwapAgainSpec : ChangeSpec := { name := "fnSwapAgain", fn := fun _ => fun
  | [d] => { results := [.lit (.bool true)], args := [d] }
  | _ => none }
def fnSwapAgainRow : OpenClaim := { program := "ytdoomakadnfddaa", sum := "a06bd84c1fe9023e530381ff4434d7ca2abc8e7dab3cd6b74e0bbfd9a5582199", func := "loop.example/disclosurecontrol/laws.FnSwapAgain", spec := "fnSwapAgain", apart := false }
def FnSwapAgainSaid : Prop := fnSwapAgainRow.holds Try.pinned (OpenSpec.ofChange fnSwapAgainSpec)

/-- ITS FALSE NEIGHBOUR: 'it returns false'. Refute it at one input. -/
def fnSwapAgainWrong : ChangeSpec := { name := "fnSwapAgain", fn := fun _ => fun
  | [d] => { results := [.lit (.bool false)], args := [d] }
  | _ => none }
def FnSwapAgainWrongFalsely : Prop := fnSwapAgainRow.holds Try.pinned (OpenSpec.ofChange fnSwapAgainWrong)

/-- 'laws.FnSwapDo': WHATEVER THE INPUT: true; the input reads as it did. -/
def fnSwapDoSpec : ChangeSpec := { name := "fnSwapDo", fn := fun _ => fun
  | [d] => { results := [.lit (.bool true)], args := [d] }
  | _ => none }
def fnSwapDoRow : OpenClaim := { program := "ytdoomakadnfddaa", sum := "a06bd84c1fe9023e530381ff4434d7ca2abc8e7dab3cd6b74e0bbfd9a5582199", func := "loop.example/disclosurecontrol/laws.FnSwapDo", spec := "fnSwapDo", apart := false }
def FnSwapDoSaid : Prop := fnSwapDoRow.holds Try.pinned (OpenSpec.ofChange fnSwapDoSpec)

/-- ITS FALSE NEIGHBOUR: 'it returns false'. Refute it at one input. -/
def fnSwapDoWrong : ChangeSpec := { name := "fnSwapDo", fn := fun _ => fun
  | [d] => { results := [.lit (.bool false)], args := [d] }
  | _ => none }
def FnSwapDoWrongFalsely : Prop := fnSwapDoRow.holds Try.pinned (OpenSpec.ofChange fnSwapDoWrong)

/-- 'laws.FnSwapDistinct': WHATEVER THE INPUT: true; the input reads as it did. -/
def fnSwapDistinctSpec : ChangeSpec := { name := "fnSwapDistinct", fn := fun _ => fun
  | [d] => { results := [.lit (.bool true)], args := [d] }
  | _ => none }
def fnSwapDistinctRow : OpenClaim := { program := "ytdoomakadnfddaa", sum := "a06bd84c1fe9023e530381ff4434d7ca2abc8e7dab3cd6b74e0bbfd9a5582199", func := "loop.example/disclosurecontrol/laws.FnSwapDistinct", spec := "fnSwapDistinct", apart := false }
def FnSwapDistinctSaid : Prop := fnSwapDistinctRow.holds Try.pinned (OpenSpec.ofChange fnSwapDistinctSpec)

/-- ITS FALSE NEIGHBOUR: 'it returns false'. Refute it at one input. -/
def fnSwapDistinctWrong : ChangeSpec := { name := "fnSwapDistinct", fn := fun _ => fun
  | [d] => { results := [.lit (.bool false)], args := [d] }
  | _ => none }
def FnSwapDistinctWrongFalsely : Prop := fnSwapDistinctRow.holds Try.pinned (OpenSpec.ofChange fnSwapDistinctWrong)

/-- 'laws.FnSwapMany': WHATEVER THE INPUT: true; the input reads as it did. -/
def fnSwapManySpec : ChangeSpec := { name := "fnSwapMany", fn := fun _ => fun
  | [d1, d2] => { results := [.lit (.bool true)], args := [d1, d2] }
  | _ => none }
def fnSwapManyRow : OpenClaim := { program := "ytdoomakadnfddaa", sum := "a06bd84c1fe9023e530381ff4434d7ca2abc8e7dab3cd6b74e0bbfd9a5582199", func := "loop.example/disclosurecontrol/laws.FnSwapMany", spec := "fnSwapMany", apart := false }
def FnSwapManySaid : Prop := fnSwapManyRow.holds Try.pinned (OpenSpec.ofChange fnSwapManySpec)

/-- ITS FALSE NEIGHBOUR: 'it returns false'. Refute it at one input. -/
def fnSwapManyWrong : ChangeSpec := { name := "fnSwapMany", fn := fun _ => fun
  | [d1, d2] => { results := [.lit (.bool false)], args := [d1, d2] }
  | _ => none }
def FnSwapManyWrongFalsely : Prop := fnSwapManyRow.holds Try.pinned (OpenSpec.ofChange fnSwapManyWrong)

/-- 'laws.FnSwapTable': WHATEVER THE INPUT: true; the input reads as it did. -/
def fnSwapTableSpec : ChangeSpec := { name := "fnSwapTable", fn := fun _ => fun
  | [d] => { results := [.lit (.bool true)], args := [d] }
  | _ => none }
def fnSwapTableRow : OpenClaim := { program := "ytdoomakadnfddaa", sum := "a06bd84c1fe9023e530381ff4434d7ca2abc8e7dab3cd6b74e0bbfd9a5582199", func := "loop.example/disclosurecontrol/laws.FnSwapTable", spec := "fnSwapTable", apart := false }
def FnSwapTableSaid : Prop := fnSwapTableRow.holds Try.pinned (OpenSpec.ofChange fnSwapTableSpec)

/-- ITS FALSE NEIGHBOUR: 'it returns false'. Refute it at one input. -/
def fnSwapTableWrong : ChangeSpec := { name := "fnSwapTable", fn := fun _ => fun
  | [d] => { results := [.lit (.bool false)], args := [d] }
  | _ => none }
def FnSwapTableWrongFalsely : Prop := fnSwapTableRow.holds Try.pinned (OpenSpec.ofChange fnSwapTableWrong)

/-- 'laws.FnSwapMoved': WHATEVER THE INPUT: true; the input reads as it did. -/
def fnSwapMovedSpec : ChangeSpec := { name := "fnSwapMoved", fn := fun _ => fun
  | [d] => { results := [.lit (.bool true)], args := [d] }
  | _ => none }
def fnSwapMovedRow : OpenClaim := { program := "ytdoomakadnfddaa", sum := "a06bd84c1fe9023e530381ff4434d7ca2abc8e7dab3cd6b74e0bbfd9a5582199", func := "loop.example/disclosurecontrol/laws.FnSwapMoved", spec := "fnSwapMoved", apart := false }
def FnSwapMovedSaid : Prop := fnSwapMovedRow.holds Try.pinned (OpenSpec.ofChange fnSwapMovedSpec)

/-- ITS FALSE NEIGHBOUR: 'it returns false'. Refute it at one input. -/
def fnSwapMovedWrong : ChangeSpec := { name := "fnSwapMoved", fn := fun _ => fun
  | [d] => { results := [.lit (.bool false)], args := [d] }
  | _ => none }
def FnSwapMovedWrongFalsely : Prop := fnSwapMovedRow.holds Try.pinned (OpenSpec.ofChange fnSwapMovedWrong)

/-- 'laws.FnSwapMovedThree': WHATEVER THE INPUT: true; the input reads as it did. -/
def fnSwapMovedThreeSpec : ChangeSpec := { name := "fnSwapMovedThree", fn := fun _ => fun
  | [d1, d2] => { results := [.lit (.bool true)], args := [d1, d2] }
  | _ => none }
def fnSwapMovedThreeRow : OpenClaim := { program := "ytdoomakadnfddaa", sum := "a06bd84c1fe9023e530381ff4434d7ca2abc8e7dab3cd6b74e0bbfd9a5582199", func := "loop.example/disclosurecontrol/laws.FnSwapMovedThree", spec := "fnSwapMovedThree", apart := false }
def FnSwapMovedThreeSaid : Prop := fnSwapMovedThreeRow.holds Try.pinned (OpenSpec.ofChange fnSwapMovedThreeSpec)

/-- ITS FALSE NEIGHBOUR: 'it returns false'. Refute it at one input. -/
def fnSwapMovedThreeWrong : ChangeSpec := { name := "fnSwapMovedThree", fn := fun _ => fun
  | [d1, d2] => { results := [.lit (.bool false)], args := [d1, d2] }
  | _ => none }
def FnSwapMovedThreeWrongFalsely : Prop := fnSwapMovedThreeRow.holds Try.pinned (OpenSpec.ofChange fnSwapMovedThreeWrong)

/-- 'laws.FnSwapList': WHATEVER THE INPUT: true; the input reads as it did. -/
def fnSwapListSpec : ChangeSpec := { name := "fnSwapList", fn := fun _ => fun
  | [d1, d2] => { results := [.lit (.bool true)], args := [d1, d2] }
  | _ => none }
def fnSwapListRow : OpenClaim := { program := "ytdoomakadnfddaa", sum := "a06bd84c1fe9023e530381ff4434d7ca2abc8e7dab3cd6b74e0bbfd9a5582199", func := "loop.example/disclosurecontrol/laws.FnSwapList", spec := "fnSwapList", unfollowed := true, recurses := true, apart := false }
def FnSwapListSaid : Prop := fnSwapListRow.holds Try.pinned (OpenSpec.ofChange fnSwapListSpec)

/-- ITS FALSE NEIGHBOUR: 'it returns false'. Refute it at one input. -/
def fnSwapListWrong : ChangeSpec := { name := "fnSwapList", fn := fun _ => fun
  | [d1, d2] => { results := [.lit (.bool false)], args := [d1, d2] }
  | _ => none }
def FnSwapListWrongFalsely : Prop := fnSwapListRow.holds Try.pinned (OpenSpec.ofChange fnSwapListWrong)

/-- 'laws.FnSwapListNone': WHATEVER THE INPUT: true; the input reads as it did. -/
def fnSwapListNoneSpec : ChangeSpec := { name := "fnSwapListNone", fn := fun _ => fun
  | [d] => { results := [.lit (.bool true)], args := [d] }
  | _ => none }
def fnSwapListNoneRow : OpenClaim := { program := "ytdoomakadnfddaa", sum := "a06bd84c1fe9023e530381ff4434d7ca2abc8e7dab3cd6b74e0bbfd9a5582199", func := "loop.example/disclosurecontrol/laws.FnSwapListNone", spec := "fnSwapListNone", unfollowed := true, recurses := true, apart := false }
def FnSwapListNoneSaid : Prop := fnSwapListNoneRow.holds Try.pinned (OpenSpec.ofChange fnSwapListNoneSpec)

/-- ITS FALSE NEIGHBOUR: 'it returns false'. Refute it at one input. -/
def fnSwapListNoneWrong : ChangeSpec := { name := "fnSwapListNone", fn := fun _ => fun
  | [d] => { results := [.lit (.bool false)], args := [d] }
  | _ => none }
def FnSwapListNoneWrongFalsely : Prop := fnSwapListNoneRow.holds Try.pinned (OpenSpec.ofChange fnSwapListNoneWrong)

/-- 'laws.FnSwapListAgain': WHATEVER THE INPUT: true; the input reads as it did. -/
def fnSwapListAgainSpec : ChangeSpec := { name := "fnSwapListAgain", fn := fun _ => fun
  | [d1, d2] => { results := [.lit (.bool true)], args := [d1, d2] }
  | _ => none }
def fnSwapListAgainRow : OpenClaim := { program := "ytdoomakadnfddaa", sum := "a06bd84c1fe9023e530381ff4434d7ca2abc8e7dab3cd6b74e0bbfd9a5582199", func := "loop.example/disclosurecontrol/laws.FnSwapListAgain", spec := "fnSwapListAgain", unfollowed := true, recurses := true, apart := false }
def FnSwapListAgainSaid : Prop := fnSwapListAgainRow.holds Try.pinned (OpenSpec.ofChange fnSwapListAgainSpec)

/-- ITS FALSE NEIGHBOUR: 'it returns false'. Refute it at one input. -/
def fnSwapListAgainWrong : ChangeSpec := { name := "fnSwapListAgain", fn := fun _ => fun
  | [d1, d2] => { results := [.lit (.bool false)], args := [d1, d2] }
  | _ => none }
def FnSwapListAgainWrongFalsely : Prop := fnSwapListAgainRow.holds Try.pinned (OpenSpec.ofChange fnSwapListAgainWrong)

/-- 'laws.FnSwapListMoved': WHATEVER THE INPUT: true; the input reads as it did. -/
def fnSwapListMovedSpec : ChangeSpec := { name := "fnSwapListMoved", fn := fun _ => fun
  | [d] => { results := [.lit (.bool true)], args := [d] }
  | _ => none }
def fnSwapListMovedRow : OpenClaim := { program := "ytdoomakadnfddaa", sum := "a06bd84c1fe9023e530381ff4434d7ca2abc8e7dab3cd6b74e0bbfd9a5582199", func := "loop.example/disclosurecontrol/laws.FnSwapListMoved", spec := "fnSwapListMoved", unfollowed := true, recurses := true, apart := false }
def FnSwapListMovedSaid : Prop := fnSwapListMovedRow.holds Try.pinned (OpenSpec.ofChange fnSwapListMovedSpec)

/-- ITS FALSE NEIGHBOUR: 'it returns false'. Refute it at one input. -/
def fnSwapListMovedWrong : ChangeSpec := { name := "fnSwapListMoved", fn := fun _ => fun
  | [d] => { results := [.lit (.bool false)], args := [d] }
  | _ => none }
def FnSwapListMovedWrongFalsely : Prop := fnSwapListMovedRow.holds Try.pinned (OpenSpec.ofChange fnSwapListMovedWrong)

/- THE SECOND FORM. 'bulk': how many values and letters a reading holds, each counted each time it is reached (what is shared counts as often as it is met; a slice's spare places count too). A statement '..UptoSaid' is the law's where the arguments, and the package variables that the reading takes, are together of bulk at most 1048576: NARROWER than '..Said'. Prove '..Said' where nothing that the law and all that it calls make is longer than what came in: it says more and counts as full. Else prove '..UptoSaid'. A law counts once. -/
mutual
def uptoBulk {H : Type} : DataW H → Nat
  | .lit (.string bytes) => bytes.length + 1
  | .lit _ => 1
  | .nil => 1
  | .ptr d => uptoBulk d + 1
  | .slice elems spare => uptoBulkAll elems + uptoBulkAll spare + 1
  | .agg parts => uptoBulkAll parts + 1
  | .iface _ d => uptoBulk d + 1
  | .map entries => uptoBulkEntries entries + 1
  | .held _ => 1
def uptoBulkAll {H : Type} : List (DataW H) → Nat
  | [] => 0
  | d :: r => uptoBulk d + uptoBulkAll r
def uptoBulkEntries {H : Type} : List (Lit × DataW H) → Nat
  | [] => 0
  | x :: r => uptoBulkEntry x + uptoBulkEntries r
def uptoBulkEntry {H : Type} : Lit × DataW H → Nat
  | (.string bytes, d) => bytes.length + uptoBulk d + 1
  | (_, d) => uptoBulk d + 1
 end
def uptoSmall : (H : Type) → List (DataW H) → Bool := fun _ ds => decide (uptoBulkAll ds ≤ 1048576)
def OpenSpec.upto (s : _root_.Go.ChangeSpec) : _root_.Go.OpenSpec := { _root_.Go.OpenSpec.ofChange s with cond := some uptoSmall }

/-- 'laws.FnSwapOk', WHERE WHAT IT READS IS OF BULK AT MOST 1048576: true; the input reads as it did. -/
def fnSwapOkUptoRow : OpenClaim := { program := "ytdoomakadnfddaa", sum := "a06bd84c1fe9023e530381ff4434d7ca2abc8e7dab3cd6b74e0bbfd9a5582199", func := "loop.example/disclosurecontrol/laws.FnSwapOk", spec := "fnSwapOk", apart := false, narrowed := true }
def FnSwapOkUptoSaid : Prop := fnSwapOkUptoRow.holds Try.pinned (OpenSpec.upto fnSwapOkSpec)

/-- 'laws.FnSwapAgain', WHERE WHAT IT READS IS OF BULK AT MOST 1048576: true; the input reads as it did. -/
def fnSwapAgainUptoRow : OpenClaim := { program := "ytdoomakadnfddaa", sum := "a06bd84c1fe9023e530381ff4434d7ca2abc8e7dab3cd6b74e0bbfd9a5582199", func := "loop.example/disclosurecontrol/laws.FnSwapAgain", spec := "fnSwapAgain", apart := false, narrowed := true }
def FnSwapAgainUptoSaid : Prop := fnSwapAgainUptoRow.holds Try.pinned (OpenSpec.upto fnSwapAgainSpec)

/-- 'laws.FnSwapDo', WHERE WHAT IT READS IS OF BULK AT MOST 1048576: true; the input reads as it did. -/
def fnSwapDoUptoRow : OpenClaim := { program := "ytdoomakadnfddaa", sum := "a06bd84c1fe9023e530381ff4434d7ca2abc8e7dab3cd6b74e0bbfd9a5582199", func := "loop.example/disclosurecontrol/laws.FnSwapDo", spec := "fnSwapDo", apart := false, narrowed := true }
def FnSwapDoUptoSaid : Prop := fnSwapDoUptoRow.holds Try.pinned (OpenSpec.upto fnSwapDoSpec)

/-- 'laws.FnSwapDistinct', WHERE WHAT IT READS IS OF BULK AT MOST 1048576: true; the input reads as it did. -/
def fnSwapDistinctUptoRow : OpenClaim := { program := "ytdoomakadnfddaa", sum := "a06bd84c1fe9023e530381ff4434d7ca2abc8e7dab3cd6b74e0bbfd9a5582199", func := "loop.example/disclosurecontrol/laws.FnSwapDistinct", spec := "fnSwapDistinct", apart := false, narrowed := true }
def FnSwapDistinctUptoSaid : Prop := fnSwapDistinctUptoRow.holds Try.pinned (OpenSpec.upto fnSwapDistinctSpec)

/-- 'laws.FnSwapMany', WHERE WHAT IT READS IS OF BULK AT MOST 1048576: true; the input reads as it did. -/
def fnSwapManyUptoRow : OpenClaim := { program := "ytdoomakadnfddaa", sum := "a06bd84c1fe9023e530381ff4434d7ca2abc8e7dab3cd6b74e0bbfd9a5582199", func := "loop.example/disclosurecontrol/laws.FnSwapMany", spec := "fnSwapMany", apart := false, narrowed := true }
def FnSwapManyUptoSaid : Prop := fnSwapManyUptoRow.holds Try.pinned (OpenSpec.upto fnSwapManySpec)

/-- 'laws.FnSwapTable', WHERE WHAT IT READS IS OF BULK AT MOST 1048576: true; the input reads as it did. -/
def fnSwapTableUptoRow : OpenClaim := { program := "ytdoomakadnfddaa", sum := "a06bd84c1fe9023e530381ff4434d7ca2abc8e7dab3cd6b74e0bbfd9a5582199", func := "loop.example/disclosurecontrol/laws.FnSwapTable", spec := "fnSwapTable", apart := false, narrowed := true }
def FnSwapTableUptoSaid : Prop := fnSwapTableUptoRow.holds Try.pinned (OpenSpec.upto fnSwapTableSpec)

/-- 'laws.FnSwapMoved', WHERE WHAT IT READS IS OF BULK AT MOST 1048576: true; the input reads as it did. -/
def fnSwapMovedUptoRow : OpenClaim := { program := "ytdoomakadnfddaa", sum := "a06bd84c1fe9023e530381ff4434d7ca2abc8e7dab3cd6b74e0bbfd9a5582199", func := "loop.example/disclosurecontrol/laws.FnSwapMoved", spec := "fnSwapMoved", apart := false, narrowed := true }
def FnSwapMovedUptoSaid : Prop := fnSwapMovedUptoRow.holds Try.pinned (OpenSpec.upto fnSwapMovedSpec)

/-- 'laws.FnSwapMovedThree', WHERE WHAT IT READS IS OF BULK AT MOST 1048576: true; the input reads as it did. -/
def fnSwapMovedThreeUptoRow : OpenClaim := { program := "ytdoomakadnfddaa", sum := "a06bd84c1fe9023e530381ff4434d7ca2abc8e7dab3cd6b74e0bbfd9a5582199", func := "loop.example/disclosurecontrol/laws.FnSwapMovedThree", spec := "fnSwapMovedThree", apart := false, narrowed := true }
def FnSwapMovedThreeUptoSaid : Prop := fnSwapMovedThreeUptoRow.holds Try.pinned (OpenSpec.upto fnSwapMovedThreeSpec)

/-- 'laws.FnSwapList', WHERE WHAT IT READS IS OF BULK AT MOST 1048576: true; the input reads as it did. -/
def fnSwapListUptoRow : OpenClaim := { program := "ytdoomakadnfddaa", sum := "a06bd84c1fe9023e530381ff4434d7ca2abc8e7dab3cd6b74e0bbfd9a5582199", func := "loop.example/disclosurecontrol/laws.FnSwapList", spec := "fnSwapList", unfollowed := true, recurses := true, apart := false, narrowed := true }
def FnSwapListUptoSaid : Prop := fnSwapListUptoRow.holds Try.pinned (OpenSpec.upto fnSwapListSpec)

/-- 'laws.FnSwapListNone', WHERE WHAT IT READS IS OF BULK AT MOST 1048576: true; the input reads as it did. -/
def fnSwapListNoneUptoRow : OpenClaim := { program := "ytdoomakadnfddaa", sum := "a06bd84c1fe9023e530381ff4434d7ca2abc8e7dab3cd6b74e0bbfd9a5582199", func := "loop.example/disclosurecontrol/laws.FnSwapListNone", spec := "fnSwapListNone", unfollowed := true, recurses := true, apart := false, narrowed := true }
def FnSwapListNoneUptoSaid : Prop := fnSwapListNoneUptoRow.holds Try.pinned (OpenSpec.upto fnSwapListNoneSpec)

/-- 'laws.FnSwapListAgain', WHERE WHAT IT READS IS OF BULK AT MOST 1048576: true; the input reads as it did. -/
def fnSwapListAgainUptoRow : OpenClaim := { program := "ytdoomakadnfddaa", sum := "a06bd84c1fe9023e530381ff4434d7ca2abc8e7dab3cd6b74e0bbfd9a5582199", func := "loop.example/disclosurecontrol/laws.FnSwapListAgain", spec := "fnSwapListAgain", unfollowed := true, recurses := true, apart := false, narrowed := true }
def FnSwapListAgainUptoSaid : Prop := fnSwapListAgainUptoRow.holds Try.pinned (OpenSpec.upto fnSwapListAgainSpec)

/-- 'laws.FnSwapListMoved', WHERE WHAT IT READS IS OF BULK AT MOST 1048576: true; the input reads as it did. -/
def fnSwapListMovedUptoRow : OpenClaim := { program := "ytdoomakadnfddaa", sum := "a06bd84c1fe9023e530381ff4434d7ca2abc8e7dab3cd6b74e0bbfd9a5582199", func := "loop.example/disclosurecontrol/laws.FnSwapListMoved", spec := "fnSwapListMoved", unfollowed := true, recurses := true, apart := false, narrowed := true }
def FnSwapListMovedUptoSaid : Prop := fnSwapListMovedUptoRow.holds Try.pinned (OpenSpec.upto fnSwapListMovedSpec)

end Rows
end Go.Proofs.Ytdoomakadnfddaa
