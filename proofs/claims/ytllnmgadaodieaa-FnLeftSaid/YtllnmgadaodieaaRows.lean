/-
  No cell of these rows narrows 'for every input' (looked for: loops, veiled, ifaces, maps, wideKeys, modest, calm, conditions, laid).
  DERIVED. THE GIVEN ROWS OF THIS SEAT. 12 by the template 'for every input the law returns true; each argument reads behind the call as it read before'; 0 by the template 'total and deterministic' (their statements: YtllnmgadaodieaaTotals.lean).
  GIVEN WITH THE SEED: the statements are not yours to turn. If you find one false, say at which input.
  Laid BY PROGRAM, IN A SANDBOX (cutbox-rows.mjs): the forced cells as the released guide's own fill.sh prints them over the translation 470db363afcb8d79… (all of the seat's roots in one cut). By AI agents, Wed Nov 11 2026. No macro, syntax, notation, axiom, sorry.
-/
import Derived.Test.YtllnmgadaodieaaChecked
import GoSem.Claim
import GoSem.ClaimJoined
import GoSem.ClaimMapViews
import Derived.JoinedTies
import Derived.KernelRfl
namespace Go.Proofs.Ytllnmgadaodieaa
/- THE CELL 'sum', in the pinned program and in every row, IS THE sha256 OF THE DUMP (.gsa) THAT YtllnmgadaodieaaProg.lean LOADS. Nothing in Lean hashes anything: it is a label: what it is worth is what the hold of that sum in a sandbox is worth. -/
noncomputable def Try.pinned : Pinned := { name := "ytllnmgadaodieaa", sum := "470db363afcb8d7980b75b3cefa044e1b49f11b09463e07efd3fa24566b26733", checked := Try.checked }
namespace Rows
def none {H : Type} : Left H := { results := [], args := [] }

/-- 'laws.FnLedger': WHATEVER THE INPUT: true; the input reads as it did. -/
def fnLedgerSpec : ChangeSpec := { name := "fnLedger", fn := fun _ => fun
  | [d1, d2] => { results := [.lit (.bool true)], args := [d1, d2] }
  | _ => none }
def fnLedgerRow : OpenClaim := { program := "ytllnmgadaodieaa", sum := "470db363afcb8d7980b75b3cefa044e1b49f11b09463e07efd3fa24566b26733", func := "loop.example/disclosurecontrol/laws.FnLedger", spec := "fnLedger", apart := false }
def FnLedgerSaid : Prop := fnLedgerRow.holds Try.pinned (OpenSpec.ofChange fnLedgerSpec)

/-- ITS FALSE NEIGHBOUR: 'it returns false'. Refute it at one input. -/
def fnLedgerWrong : ChangeSpec := { name := "fnLedger", fn := fun _ => fun
  | [d1, d2] => { results := [.lit (.bool false)], args := [d1, d2] }
  | _ => none }
def FnLedgerWrongFalsely : Prop := fnLedgerRow.holds Try.pinned (OpenSpec.ofChange fnLedgerWrong)

/-- 'laws.FnLedgerOrder': WHATEVER THE INPUT: true; the input reads as it did. -/
def fnLedgerOrderSpec : ChangeSpec := { name := "fnLedgerOrder", fn := fun _ => fun
  | [d1, d2] => { results := [.lit (.bool true)], args := [d1, d2] }
  | _ => none }
def fnLedgerOrderRow : OpenClaim := { program := "ytllnmgadaodieaa", sum := "470db363afcb8d7980b75b3cefa044e1b49f11b09463e07efd3fa24566b26733", func := "loop.example/disclosurecontrol/laws.FnLedgerOrder", spec := "fnLedgerOrder", apart := false }
def FnLedgerOrderSaid : Prop := fnLedgerOrderRow.holds Try.pinned (OpenSpec.ofChange fnLedgerOrderSpec)

/-- ITS FALSE NEIGHBOUR: 'it returns false'. Refute it at one input. -/
def fnLedgerOrderWrong : ChangeSpec := { name := "fnLedgerOrder", fn := fun _ => fun
  | [d1, d2] => { results := [.lit (.bool false)], args := [d1, d2] }
  | _ => none }
def FnLedgerOrderWrongFalsely : Prop := fnLedgerOrderRow.holds Try.pinned (OpenSpec.ofChange fnLedgerOrderWrong)

/-- 'laws.FnLeftNone': WHATEVER THE INPUT: true; the input reads as it did. -/
def fnLeftNoneSpec : ChangeSpec := { name := "fnLeftNone", fn := fun _ => fun
  | [d1, d2] => { results := [.lit (.bool true)], args := [d1, d2] }
  | _ => none }
def fnLeftNoneRow : OpenClaim := { program := "ytllnmgadaodieaa", sum := "470db363afcb8d7980b75b3cefa044e1b49f11b09463e07efd3fa24566b26733", func := "loop.example/disclosurecontrol/laws.FnLeftNone", spec := "fnLeftNone", apart := false }
def FnLeftNoneSaid : Prop := fnLeftNoneRow.holds Try.pinned (OpenSpec.ofChange fnLeftNoneSpec)

/-- ITS FALSE NEIGHBOUR: 'it returns false'. Refute it at one input. -/
def fnLeftNoneWrong : ChangeSpec := { name := "fnLeftNone", fn := fun _ => fun
  | [d1, d2] => { results := [.lit (.bool false)], args := [d1, d2] }
  | _ => none }
def FnLeftNoneWrongFalsely : Prop := fnLeftNoneRow.holds Try.pinned (OpenSpec.ofChange fnLeftNoneWrong)

/-- 'laws.FnSpent': WHATEVER THE INPUT: true; the input reads as it did. -/
def fnSpentSpec : ChangeSpec := { name := "fnSpent", fn := fun _ => fun
  | [d] => { results := [.lit (.bool true)], args := [d] }
  | _ => none }
def fnSpentRow : OpenClaim := { program := "ytllnmgadaodieaa", sum := "470db363afcb8d7980b75b3cefa044e1b49f11b09463e07efd3fa24566b26733", func := "loop.example/disclosurecontrol/laws.FnSpent", spec := "fnSpent", apart := false }
def FnSpentSaid : Prop := fnSpentRow.holds Try.pinned (OpenSpec.ofChange fnSpentSpec)

/-- ITS FALSE NEIGHBOUR: 'it returns false'. Refute it at one input. -/
def fnSpentWrong : ChangeSpec := { name := "fnSpent", fn := fun _ => fun
  | [d] => { results := [.lit (.bool false)], args := [d] }
  | _ => none }
def FnSpentWrongFalsely : Prop := fnSpentRow.holds Try.pinned (OpenSpec.ofChange fnSpentWrong)

/-- 'laws.FnSpentAll': WHATEVER THE INPUT: true; the input reads as it did. -/
def fnSpentAllSpec : ChangeSpec := { name := "fnSpentAll", fn := fun _ => fun
  | [d] => { results := [.lit (.bool true)], args := [d] }
  | _ => none }
def fnSpentAllRow : OpenClaim := { program := "ytllnmgadaodieaa", sum := "470db363afcb8d7980b75b3cefa044e1b49f11b09463e07efd3fa24566b26733", func := "loop.example/disclosurecontrol/laws.FnSpentAll", spec := "fnSpentAll", apart := false }
def FnSpentAllSaid : Prop := fnSpentAllRow.holds Try.pinned (OpenSpec.ofChange fnSpentAllSpec)

/-- ITS FALSE NEIGHBOUR: 'it returns false'. Refute it at one input. -/
def fnSpentAllWrong : ChangeSpec := { name := "fnSpentAll", fn := fun _ => fun
  | [d] => { results := [.lit (.bool false)], args := [d] }
  | _ => none }
def FnSpentAllWrongFalsely : Prop := fnSpentAllRow.holds Try.pinned (OpenSpec.ofChange fnSpentAllWrong)

/-- 'laws.FnSpentSum': WHATEVER THE INPUT: true; the input reads as it did. -/
def fnSpentSumSpec : ChangeSpec := { name := "fnSpentSum", fn := fun _ => fun
  | [d] => { results := [.lit (.bool true)], args := [d] }
  | _ => none }
def fnSpentSumRow : OpenClaim := { program := "ytllnmgadaodieaa", sum := "470db363afcb8d7980b75b3cefa044e1b49f11b09463e07efd3fa24566b26733", func := "loop.example/disclosurecontrol/laws.FnSpentSum", spec := "fnSpentSum", apart := false }
def FnSpentSumSaid : Prop := fnSpentSumRow.holds Try.pinned (OpenSpec.ofChange fnSpentSumSpec)

/-- ITS FALSE NEIGHBOUR: 'it returns false'. Refute it at one input. -/
def fnSpentSumWrong : ChangeSpec := { name := "fnSpentSum", fn := fun _ => fun
  | [d] => { results := [.lit (.bool false)], args := [d] }
  | _ => none }
def FnSpentSumWrongFalsely : Prop := fnSpentSumRow.holds Try.pinned (OpenSpec.ofChange fnSpentSumWrong)

/-- 'laws.FnLeftParts': WHATEVER THE INPUT: true; the input reads as it did. -/
def fnLeftPartsSpec : ChangeSpec := { name := "fnLeftParts", fn := fun _ => fun
  | [d] => { results := [.lit (.bool true)], args := [d] }
  | _ => none }
def fnLeftPartsRow : OpenClaim := { program := "ytllnmgadaodieaa", sum := "470db363afcb8d7980b75b3cefa044e1b49f11b09463e07efd3fa24566b26733", func := "loop.example/disclosurecontrol/laws.FnLeftParts", spec := "fnLeftParts", apart := false }
def FnLeftPartsSaid : Prop := fnLeftPartsRow.holds Try.pinned (OpenSpec.ofChange fnLeftPartsSpec)

/-- ITS FALSE NEIGHBOUR: 'it returns false'. Refute it at one input. -/
def fnLeftPartsWrong : ChangeSpec := { name := "fnLeftParts", fn := fun _ => fun
  | [d] => { results := [.lit (.bool false)], args := [d] }
  | _ => none }
def FnLeftPartsWrongFalsely : Prop := fnLeftPartsRow.holds Try.pinned (OpenSpec.ofChange fnLeftPartsWrong)

/-- 'laws.FnLeft': WHATEVER THE INPUT: true; the input reads as it did. -/
def fnLeftSpec : ChangeSpec := { name := "fnLeft", fn := fun _ => fun
  | [d] => { results := [.lit (.bool true)], args := [d] }
  | _ => none }
def fnLeftRow : OpenClaim := { program := "ytllnmgadaodieaa", sum := "470db363afcb8d7980b75b3cefa044e1b49f11b09463e07efd3fa24566b26733", func := "loop.example/disclosurecontrol/laws.FnLeft", spec := "fnLeft", apart := false }
def FnLeftSaid : Prop := fnLeftRow.holds Try.pinned (OpenSpec.ofChange fnLeftSpec)

/-- ITS FALSE NEIGHBOUR: 'it returns false'. Refute it at one input. -/
def fnLeftWrong : ChangeSpec := { name := "fnLeft", fn := fun _ => fun
  | [d] => { results := [.lit (.bool false)], args := [d] }
  | _ => none }
def FnLeftWrongFalsely : Prop := fnLeftRow.holds Try.pinned (OpenSpec.ofChange fnLeftWrong)

/-- 'laws.FnAsk': WHATEVER THE INPUT: true; the input reads as it did. -/
def fnAskSpec : ChangeSpec := { name := "fnAsk", fn := fun _ => fun
  | [d] => { results := [.lit (.bool true)], args := [d] }
  | _ => none }
def fnAskRow : OpenClaim := { program := "ytllnmgadaodieaa", sum := "470db363afcb8d7980b75b3cefa044e1b49f11b09463e07efd3fa24566b26733", func := "loop.example/disclosurecontrol/laws.FnAsk", spec := "fnAsk", apart := false }
def FnAskSaid : Prop := fnAskRow.holds Try.pinned (OpenSpec.ofChange fnAskSpec)

/-- ITS FALSE NEIGHBOUR: 'it returns false'. Refute it at one input. -/
def fnAskWrong : ChangeSpec := { name := "fnAsk", fn := fun _ => fun
  | [d] => { results := [.lit (.bool false)], args := [d] }
  | _ => none }
def FnAskWrongFalsely : Prop := fnAskRow.holds Try.pinned (OpenSpec.ofChange fnAskWrong)

/-- 'laws.FnAskOrder': WHATEVER THE INPUT: true; the input reads as it did. -/
def fnAskOrderSpec : ChangeSpec := { name := "fnAskOrder", fn := fun _ => fun
  | [d1, d2] => { results := [.lit (.bool true)], args := [d1, d2] }
  | _ => none }
def fnAskOrderRow : OpenClaim := { program := "ytllnmgadaodieaa", sum := "470db363afcb8d7980b75b3cefa044e1b49f11b09463e07efd3fa24566b26733", func := "loop.example/disclosurecontrol/laws.FnAskOrder", spec := "fnAskOrder", apart := false }
def FnAskOrderSaid : Prop := fnAskOrderRow.holds Try.pinned (OpenSpec.ofChange fnAskOrderSpec)

/-- ITS FALSE NEIGHBOUR: 'it returns false'. Refute it at one input. -/
def fnAskOrderWrong : ChangeSpec := { name := "fnAskOrder", fn := fun _ => fun
  | [d1, d2] => { results := [.lit (.bool false)], args := [d1, d2] }
  | _ => none }
def FnAskOrderWrongFalsely : Prop := fnAskOrderRow.holds Try.pinned (OpenSpec.ofChange fnAskOrderWrong)

/-- 'laws.FnAskParts': WHATEVER THE INPUT: true; the input reads as it did. -/
def fnAskPartsSpec : ChangeSpec := { name := "fnAskParts", fn := fun _ => fun
  | [d] => { results := [.lit (.bool true)], args := [d] }
  | _ => none }
def fnAskPartsRow : OpenClaim := { program := "ytllnmgadaodieaa", sum := "470db363afcb8d7980b75b3cefa044e1b49f11b09463e07efd3fa24566b26733", func := "loop.example/disclosurecontrol/laws.FnAskParts", spec := "fnAskParts", apart := false }
def FnAskPartsSaid : Prop := fnAskPartsRow.holds Try.pinned (OpenSpec.ofChange fnAskPartsSpec)

/-- ITS FALSE NEIGHBOUR: 'it returns false'. Refute it at one input. -/
def fnAskPartsWrong : ChangeSpec := { name := "fnAskParts", fn := fun _ => fun
  | [d] => { results := [.lit (.bool false)], args := [d] }
  | _ => none }
def FnAskPartsWrongFalsely : Prop := fnAskPartsRow.holds Try.pinned (OpenSpec.ofChange fnAskPartsWrong)

/-- 'laws.FnAskNothing': WHATEVER THE INPUT: true; the input reads as it did. -/
def fnAskNothingSpec : ChangeSpec := { name := "fnAskNothing", fn := fun _ => fun
  | [d] => { results := [.lit (.bool true)], args := [d] }
  | _ => none }
def fnAskNothingRow : OpenClaim := { program := "ytllnmgadaodieaa", sum := "470db363afcb8d7980b75b3cefa044e1b49f11b09463e07efd3fa24566b26733", func := "loop.example/disclosurecontrol/laws.FnAskNothing", spec := "fnAskNothing", apart := false }
def FnAskNothingSaid : Prop := fnAskNothingRow.holds Try.pinned (OpenSpec.ofChange fnAskNothingSpec)

/-- ITS FALSE NEIGHBOUR: 'it returns false'. Refute it at one input. -/
def fnAskNothingWrong : ChangeSpec := { name := "fnAskNothing", fn := fun _ => fun
  | [d] => { results := [.lit (.bool false)], args := [d] }
  | _ => none }
def FnAskNothingWrongFalsely : Prop := fnAskNothingRow.holds Try.pinned (OpenSpec.ofChange fnAskNothingWrong)

/- THE SECOND FORM. 'bulk': how many values and letters a reading holds, each counted each time it is reached (what is shared counts as often as it is met; a slice's spare places count too). A statement '..UptoSaid' is the law's where the arguments, and the package variables that the reading takes, are together of bulk at most 1048576: NARROWER than '..Said'. Prove '..Said' where nothing that the law and all that it calls make is longer than what came in: it says more and counts as full. Else prove '..UptoSaid'. A law counts once. -/
mutual
def uptoBulk {H : Type} : DataW H → Nat
  | .lit (.string bytes) => bytes.length + 1
  | .lit _ => 1
  | .nil => 1
  | .ptr d => uptoBulk d + 1
  | .slice elems spare => uptoBulkAll elems + uptoBulkAll spare + 1
  | .agg parts => uptoBulkAll parts + 1
  | .iface _ d => uptoBulk d + 1
  | .map entries => uptoBulkEntries entries + 1
  | .held _ => 1
def uptoBulkAll {H : Type} : List (DataW H) → Nat
  | [] => 0
  | d :: r => uptoBulk d + uptoBulkAll r
def uptoBulkEntries {H : Type} : List (Lit × DataW H) → Nat
  | [] => 0
  | x :: r => uptoBulkEntry x + uptoBulkEntries r
def uptoBulkEntry {H : Type} : Lit × DataW H → Nat
  | (.string bytes, d) => bytes.length + uptoBulk d + 1
  | (_, d) => uptoBulk d + 1
 end
def uptoSmall : (H : Type) → List (DataW H) → Bool := fun _ ds => decide (uptoBulkAll ds ≤ 1048576)
def OpenSpec.upto (s : _root_.Go.ChangeSpec) : _root_.Go.OpenSpec := { _root_.Go.OpenSpec.ofChange s with cond := some uptoSmall }

/-- 'laws.FnLedger', WHERE WHAT IT READS IS OF BULK AT MOST 1048576: true; the input reads as it did. -/
def fnLedgerUptoRow : OpenClaim := { program := "ytllnmgadaodieaa", sum := "470db363afcb8d7980b75b3cefa044e1b49f11b09463e07efd3fa24566b26733", func := "loop.example/disclosurecontrol/laws.FnLedger", spec := "fnLedger", apart := false, narrowed := true }
def FnLedgerUptoSaid : Prop := fnLedgerUptoRow.holds Try.pinned (OpenSpec.upto fnLedgerSpec)

/-- 'laws.FnLedgerOrder', WHERE WHAT IT READS IS OF BULK AT MOST 1048576: true; the input reads as it did. -/
def fnLedgerOrderUptoRow : OpenClaim := { program := "ytllnmgadaodieaa", sum := "470db363afcb8d7980b75b3cefa044e1b49f11b09463e07efd3fa24566b26733", func := "loop.example/disclosurecontrol/laws.FnLedgerOrder", spec := "fnLedgerOrder", apart := false, narrowed := true }
def FnLedgerOrderUptoSaid : Prop := fnLedgerOrderUptoRow.holds Try.pinned (OpenSpec.upto fnLedgerOrderSpec)

/-- 'laws.FnLeftNone', WHERE WHAT IT READS IS OF BULK AT MOST 1048576: true; the input reads as it did. -/
def fnLeftNoneUptoRow : OpenClaim := { program := "ytllnmgadaodieaa", sum := "470db363afcb8d7980b75b3cefa044e1b49f11b09463e07efd3fa24566b26733", func := "loop.example/disclosurecontrol/laws.FnLeftNone", spec := "fnLeftNone", apart := false, narrowed := true }
def FnLeftNoneUptoSaid : Prop := fnLeftNoneUptoRow.holds Try.pinned (OpenSpec.upto fnLeftNoneSpec)

/-- 'laws.FnSpent', WHERE WHAT IT READS IS OF BULK AT MOST 1048576: true; the input reads as it did. -/
def fnSpentUptoRow : OpenClaim := { program := "ytllnmgadaodieaa", sum := "470db363afcb8d7980b75b3cefa044e1b49f11b09463e07efd3fa24566b26733", func := "loop.example/disclosurecontrol/laws.FnSpent", spec := "fnSpent", apart := false, narrowed := true }
def FnSpentUptoSaid : Prop := fnSpentUptoRow.holds Try.pinned (OpenSpec.upto fnSpentSpec)

/-- 'laws.FnSpentAll', WHERE WHAT IT READS IS OF BULK AT MOST 1048576: true; the input reads as it did. -/
def fnSpentAllUptoRow : OpenClaim := { program := "ytllnmgadaodieaa", sum := "470db363afcb8d7980b75b3cefa044e1b49f11b09463e07efd3fa24566b26733", func := "loop.example/disclosurecontrol/laws.FnSpentAll", spec := "fnSpentAll", apart := false, narrowed := true }
def FnSpentAllUptoSaid : Prop := fnSpentAllUptoRow.holds Try.pinned (OpenSpec.upto fnSpentAllSpec)

/-- 'laws.FnSpentSum', WHERE WHAT IT READS IS OF BULK AT MOST 1048576: true; the input reads as it did. -/
def fnSpentSumUptoRow : OpenClaim := { program := "ytllnmgadaodieaa", sum := "470db363afcb8d7980b75b3cefa044e1b49f11b09463e07efd3fa24566b26733", func := "loop.example/disclosurecontrol/laws.FnSpentSum", spec := "fnSpentSum", apart := false, narrowed := true }
def FnSpentSumUptoSaid : Prop := fnSpentSumUptoRow.holds Try.pinned (OpenSpec.upto fnSpentSumSpec)

/-- 'laws.FnLeftParts', WHERE WHAT IT READS IS OF BULK AT MOST 1048576: true; the input reads as it did. -/
def fnLeftPartsUptoRow : OpenClaim := { program := "ytllnmgadaodieaa", sum := "470db363afcb8d7980b75b3cefa044e1b49f11b09463e07efd3fa24566b26733", func := "loop.example/disclosurecontrol/laws.FnLeftParts", spec := "fnLeftParts", apart := false, narrowed := true }
def FnLeftPartsUptoSaid : Prop := fnLeftPartsUptoRow.holds Try.pinned (OpenSpec.upto fnLeftPartsSpec)

/-- 'laws.FnLeft', WHERE WHAT IT READS IS OF BULK AT MOST 1048576: true; the input reads as it did. -/
def fnLeftUptoRow : OpenClaim := { program := "ytllnmgadaodieaa", sum := "470db363afcb8d7980b75b3cefa044e1b49f11b09463e07efd3fa24566b26733", func := "loop.example/disclosurecontrol/laws.FnLeft", spec := "fnLeft", apart := false, narrowed := true }
def FnLeftUptoSaid : Prop := fnLeftUptoRow.holds Try.pinned (OpenSpec.upto fnLeftSpec)

/-- 'laws.FnAsk', WHERE WHAT IT READS IS OF BULK AT MOST 1048576: true; the input reads as it did. -/
def fnAskUptoRow : OpenClaim := { program := "ytllnmgadaodieaa", sum := "470db363afcb8d7980b75b3cefa044e1b49f11b09463e07efd3fa24566b26733", func := "loop.example/disclosurecontrol/laws.FnAsk", spec := "fnAsk", apart := false, narrowed := true }
def FnAskUptoSaid : Prop := fnAskUptoRow.holds Try.pinned (OpenSpec.upto fnAskSpec)

/-- 'laws.FnAskOrder', WHERE WHAT IT READS IS OF BULK AT MOST 1048576: true; the input reads as it did. -/
def fnAskOrderUptoRow : OpenClaim := { program := "ytllnmgadaodieaa", sum := "470db363afcb8d7980b75b3cefa044e1b49f11b09463e07efd3fa24566b26733", func := "loop.example/disclosurecontrol/laws.FnAskOrder", spec := "fnAskOrder", apart := false, narrowed := true }
def FnAskOrderUptoSaid : Prop := fnAskOrderUptoRow.holds Try.pinned (OpenSpec.upto fnAskOrderSpec)

/-- 'laws.FnAskParts', WHERE WHAT IT READS IS OF BULK AT MOST 1048576: true; the input reads as it did. -/
def fnAskPartsUptoRow : OpenClaim := { program := "ytllnmgadaodieaa", sum := "470db363afcb8d7980b75b3cefa044e1b49f11b09463e07efd3fa24566b26733", func := "loop.example/disclosurecontrol/laws.FnAskParts", spec := "fnAskParts", apart := false, narrowed := true }
def FnAskPartsUptoSaid : Prop := fnAskPartsUptoRow.holds Try.pinned (OpenSpec.upto fnAskPartsSpec)

/-- 'laws.FnAskNothing', WHERE WHAT IT READS IS OF BULK AT MOST 1048576: true; the input reads as it did. -/
def fnAskNothingUptoRow : OpenClaim := { program := "ytllnmgadaodieaa", sum := "470db363afcb8d7980b75b3cefa044e1b49f11b09463e07efd3fa24566b26733", func := "loop.example/disclosurecontrol/laws.FnAskNothing", spec := "fnAskNothing", apart := false, narrowed := true }
def FnAskNothingUptoSaid : Prop := fnAskNothingUptoRow.holds Try.pinned (OpenSpec.upto fnAskNothingSpec)

end Rows
end Go.Proofs.Ytllnmgadaodieaa
