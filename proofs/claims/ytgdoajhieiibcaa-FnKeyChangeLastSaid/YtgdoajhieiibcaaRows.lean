/-
  No cell of these rows narrows 'for every input' (looked for: loops, veiled, ifaces, maps, wideKeys, modest, calm, conditions, laid).
  DERIVED. THE GIVEN ROWS OF THIS SEAT. 6 by the template 'for every input the law returns true; each argument reads behind the call as it read before'; 0 by the template 'total and deterministic' (their statements: YtgdoajhieiibcaaTotals.lean).
  GIVEN WITH THE SEED: the statements are not yours to turn. If you find one false, say at which input.
  Laid BY PROGRAM, IN A SANDBOX (cutbox-rows.mjs): the forced cells as the released guide's own fill.sh prints them over the translation 5cd7d1dd59a64bf5… (all of the seat's roots in one cut). By AI agents, Wed Nov 11 2026. No macro, syntax, notation, axiom, sorry.
-/
import Derived.Test.YtgdoajhieiibcaaChecked
import GoSem.Claim
import GoSem.ClaimJoined
import GoSem.ClaimMapViews
import Derived.JoinedTies
import Derived.KernelRfl
namespace Go.Proofs.Ytgdoajhieiibcaa
/- THE CELL 'sum', in the pinned program and in every row, IS THE sha256 OF THE DUMP (.gsa) THAT YtgdoajhieiibcaaProg.lean LOADS. Nothing in Lean hashes anything: it is a label: what it is worth is what the hold of that sum in a sandbox is worth. -/
noncomputable def Try.pinned : Pinned := { name := "ytgdoajhieiibcaa", sum := "5cd7d1dd59a64bf5468c00d46488db4aed41d31994db18699319ef3caf160368", checked := Try.checked }
namespace Rows
def none {H : Type} : Left H := { results := [], args := [] }

/-- 'laws.FnExactKeyChange': WHATEVER THE INPUT: true; the input reads as it did. -/
def fnExactKeyChangeSpec : ChangeSpec := { name := "fnExactKeyChange", fn := fun _ => fun
  | [d1, d2] => { results := [.lit (.bool true)], args := [d1, d2] }
  | _ => none }
def fnExactKeyChangeRow : OpenClaim := { program := "ytgdoajhieiibcaa", sum := "5cd7d1dd59a64bf5468c00d46488db4aed41d31994db18699319ef3caf160368", func := "loop.example/disclosurecontrol/laws.FnExactKeyChange", spec := "fnExactKeyChange", apart := false }
def FnExactKeyChangeSaid : Prop := fnExactKeyChangeRow.holds Try.pinned (OpenSpec.ofChange fnExactKeyChangeSpec)

/-- ITS FALSE NEIGHBOUR: 'it returns false'. Refute it at one input. -/
def fnExactKeyChangeWrong : ChangeSpec := { name := "fnExactKeyChange", fn := fun _ => fun
  | [d1, d2] => { results := [.lit (.bool false)], args := [d1, d2] }
  | _ => none }
def FnExactKeyChangeWrongFalsely : Prop := fnExactKeyChangeRow.holds Try.pinned (OpenSpec.ofChange fnExactKeyChangeWrong)

/-- 'laws.FnKeyChangeLast': WHATEVER THE INPUT: true; the input reads as it did. -/
def fnKeyChangeLastSpec : ChangeSpec := { name := "fnKeyChangeLast", fn := fun _ => fun
  | [d] => { results := [.lit (.bool true)], args := [d] }
  | _ => none }
def fnKeyChangeLastRow : OpenClaim := { program := "ytgdoajhieiibcaa", sum := "5cd7d1dd59a64bf5468c00d46488db4aed41d31994db18699319ef3caf160368", func := "loop.example/disclosurecontrol/laws.FnKeyChangeLast", spec := "fnKeyChangeLast", apart := false }
def FnKeyChangeLastSaid : Prop := fnKeyChangeLastRow.holds Try.pinned (OpenSpec.ofChange fnKeyChangeLastSpec)

/-- ITS FALSE NEIGHBOUR: 'it returns false'. Refute it at one input. -/
def fnKeyChangeLastWrong : ChangeSpec := { name := "fnKeyChangeLast", fn := fun _ => fun
  | [d] => { results := [.lit (.bool false)], args := [d] }
  | _ => none }
def FnKeyChangeLastWrongFalsely : Prop := fnKeyChangeLastRow.holds Try.pinned (OpenSpec.ofChange fnKeyChangeLastWrong)

/-- 'laws.FnKeyChangeMean': WHATEVER THE INPUT: true; the input reads as it did. -/
def fnKeyChangeMeanSpec : ChangeSpec := { name := "fnKeyChangeMean", fn := fun _ => fun
  | [d] => { results := [.lit (.bool true)], args := [d] }
  | _ => none }
def fnKeyChangeMeanRow : OpenClaim := { program := "ytgdoajhieiibcaa", sum := "5cd7d1dd59a64bf5468c00d46488db4aed41d31994db18699319ef3caf160368", func := "loop.example/disclosurecontrol/laws.FnKeyChangeMean", spec := "fnKeyChangeMean", apart := false }
def FnKeyChangeMeanSaid : Prop := fnKeyChangeMeanRow.holds Try.pinned (OpenSpec.ofChange fnKeyChangeMeanSpec)

/-- ITS FALSE NEIGHBOUR: 'it returns false'. Refute it at one input. -/
def fnKeyChangeMeanWrong : ChangeSpec := { name := "fnKeyChangeMean", fn := fun _ => fun
  | [d] => { results := [.lit (.bool false)], args := [d] }
  | _ => none }
def FnKeyChangeMeanWrongFalsely : Prop := fnKeyChangeMeanRow.holds Try.pinned (OpenSpec.ofChange fnKeyChangeMeanWrong)

/-- 'laws.FnKeyMove': WHATEVER THE INPUT: true; the input reads as it did. -/
def fnKeyMoveSpec : ChangeSpec := { name := "fnKeyMove", fn := fun _ => fun
  | [d] => { results := [.lit (.bool true)], args := [d] }
  | _ => none }
def fnKeyMoveRow : OpenClaim := { program := "ytgdoajhieiibcaa", sum := "5cd7d1dd59a64bf5468c00d46488db4aed41d31994db18699319ef3caf160368", func := "loop.example/disclosurecontrol/laws.FnKeyMove", spec := "fnKeyMove", apart := false }
def FnKeyMoveSaid : Prop := fnKeyMoveRow.holds Try.pinned (OpenSpec.ofChange fnKeyMoveSpec)

/-- ITS FALSE NEIGHBOUR: 'it returns false'. Refute it at one input. -/
def fnKeyMoveWrong : ChangeSpec := { name := "fnKeyMove", fn := fun _ => fun
  | [d] => { results := [.lit (.bool false)], args := [d] }
  | _ => none }
def FnKeyMoveWrongFalsely : Prop := fnKeyMoveRow.holds Try.pinned (OpenSpec.ofChange fnKeyMoveWrong)

/-- 'laws.FnKeyZero': WHATEVER THE INPUT: true; the input reads as it did. -/
def fnKeyZeroSpec : ChangeSpec := { name := "fnKeyZero", fn := fun _ => fun
  | [d] => { results := [.lit (.bool true)], args := [d] }
  | _ => none }
def fnKeyZeroRow : OpenClaim := { program := "ytgdoajhieiibcaa", sum := "5cd7d1dd59a64bf5468c00d46488db4aed41d31994db18699319ef3caf160368", func := "loop.example/disclosurecontrol/laws.FnKeyZero", spec := "fnKeyZero", apart := false }
def FnKeyZeroSaid : Prop := fnKeyZeroRow.holds Try.pinned (OpenSpec.ofChange fnKeyZeroSpec)

/-- ITS FALSE NEIGHBOUR: 'it returns false'. Refute it at one input. -/
def fnKeyZeroWrong : ChangeSpec := { name := "fnKeyZero", fn := fun _ => fun
  | [d] => { results := [.lit (.bool false)], args := [d] }
  | _ => none }
def FnKeyZeroWrongFalsely : Prop := fnKeyZeroRow.holds Try.pinned (OpenSpec.ofChange fnKeyZeroWrong)

/-- 'laws.FnKeyChange': WHATEVER THE INPUT: true; the input reads as it did. -/
def fnKeyChangeSpec : ChangeSpec := { name := "fnKeyChange", fn := fun _ => fun
  | [d1, d2] => { results := [.lit (.bool true)], args := [d1, d2] }
  | _ => none }
def fnKeyChangeRow : OpenClaim := { program := "ytgdoajhieiibcaa", sum := "5cd7d1dd59a64bf5468c00d46488db4aed41d31994db18699319ef3caf160368", func := "loop.example/disclosurecontrol/laws.FnKeyChange", spec := "fnKeyChange", apart := false }
def FnKeyChangeSaid : Prop := fnKeyChangeRow.holds Try.pinned (OpenSpec.ofChange fnKeyChangeSpec)

/-- ITS FALSE NEIGHBOUR: 'it returns false'. Refute it at one input. -/
def fnKeyChangeWrong : ChangeSpec := { name := "fnKeyChange", fn := fun _ => fun
  | [d1, d2] => { results := [.lit (.bool false)], args := [d1, d2] }
  | _ => none }
def FnKeyChangeWrongFalsely : Prop := fnKeyChangeRow.holds Try.pinned (OpenSpec.ofChange fnKeyChangeWrong)

/- THE SECOND FORM. 'bulk': how many values and letters a reading holds, each counted each time it is reached (what is shared counts as often as it is met; a slice's spare places count too). A statement '..UptoSaid' is the law's where the arguments, and the package variables that the reading takes, are together of bulk at most 1048576: NARROWER than '..Said'. Prove '..Said' where nothing that the law and all that it calls make is longer than what came in: it says more and counts as full. Else prove '..UptoSaid'. A law counts once. -/
mutual
def uptoBulk {H : Type} : DataW H → Nat
  | .lit (.string bytes) => bytes.length + 1
  | .lit _ => 1
  | .nil => 1
  | .ptr d => uptoBulk d + 1
  | .slice elems spare => uptoBulkAll elems + uptoBulkAll spare + 1
  | .agg parts => uptoBulkAll parts + 1
  | .iface _ d => uptoBulk d + 1
  | .map entries => uptoBulkEntries entries + 1
  | .held _ => 1
def uptoBulkAll {H : Type} : List (DataW H) → Nat
  | [] => 0
  | d :: r => uptoBulk d + uptoBulkAll r
def uptoBulkEntries {H : Type} : List (Lit × DataW H) → Nat
  | [] => 0
  | x :: r => uptoBulkEntry x + uptoBulkEntries r
def uptoBulkEntry {H : Type} : Lit × DataW H → Nat
  | (.string bytes, d) => bytes.length + uptoBulk d + 1
  | (_, d) => uptoBulk d + 1
 end
def uptoSmall : (H : Type) → List (DataW H) → Bool := fun _ ds => decide (uptoBulkAll ds ≤ 1048576)
def OpenSpec.upto (s : _root_.Go.ChangeSpec) : _root_.Go.OpenSpec := { _root_.Go.OpenSpec.ofChange s with cond := some uptoSmall }

/-- 'laws.FnExactKeyChange', WHERE WHAT IT READS IS OF BULK AT MOST 1048576: true; the input reads as it did. -/
def fnExactKeyChangeUptoRow : OpenClaim := { program := "ytgdoajhieiibcaa", sum := "5cd7d1dd59a64bf5468c00d46488db4aed41d31994db18699319ef3caf160368", func := "loop.example/disclosurecontrol/laws.FnExactKeyChange", spec := "fnExactKeyChange", apart := false, narrowed := true }
def FnExactKeyChangeUptoSaid : Prop := fnExactKeyChangeUptoRow.holds Try.pinned (OpenSpec.upto fnExactKeyChangeSpec)

/-- 'laws.FnKeyChangeLast', WHERE WHAT IT READS IS OF BULK AT MOST 1048576: true; the input reads as it did. -/
def fnKeyChangeLastUptoRow : OpenClaim := { program := "ytgdoajhieiibcaa", sum := "5cd7d1dd59a64bf5468c00d46488db4aed41d31994db18699319ef3caf160368", func := "loop.example/disclosurecontrol/laws.FnKeyChangeLast", spec := "fnKeyChangeLast", apart := false, narrowed := true }
def FnKeyChangeLastUptoSaid : Prop := fnKeyChangeLastUptoRow.holds Try.pinned (OpenSpec.upto fnKeyChangeLastSpec)

/-- 'laws.FnKeyChangeMean', WHERE WHAT IT READS IS OF BULK AT MOST 1048576: true; the input reads as it did. -/
def fnKeyChangeMeanUptoRow : OpenClaim := { program := "ytgdoajhieiibcaa", sum := "5cd7d1dd59a64bf5468c00d46488db4aed41d31994db18699319ef3caf160368", func := "loop.example/disclosurecontrol/laws.FnKeyChangeMean", spec := "fnKeyChangeMean", apart := false, narrowed := true }
def FnKeyChangeMeanUptoSaid : Prop := fnKeyChangeMeanUptoRow.holds Try.pinned (OpenSpec.upto fnKeyChangeMeanSpec)

/-- 'laws.FnKeyMove', WHERE WHAT IT READS IS OF BULK AT MOST 1048576: true; the input reads as it did. -/
def fnKeyMoveUptoRow : OpenClaim := { program := "ytgdoajhieiibcaa", sum := "5cd7d1dd59a64bf5468c00d46488db4aed41d31994db18699319ef3caf160368", func := "loop.example/disclosurecontrol/laws.FnKeyMove", spec := "fnKeyMove", apart := false, narrowed := true }
def FnKeyMoveUptoSaid : Prop := fnKeyMoveUptoRow.holds Try.pinned (OpenSpec.upto fnKeyMoveSpec)

/-- 'laws.FnKeyZero', WHERE WHAT IT READS IS OF BULK AT MOST 1048576: true; the input reads as it did. -/
def fnKeyZeroUptoRow : OpenClaim := { program := "ytgdoajhieiibcaa", sum := "5cd7d1dd59a64bf5468c00d46488db4aed41d31994db18699319ef3caf160368", func := "loop.example/disclosurecontrol/laws.FnKeyZero", spec := "fnKeyZero", apart := false, narrowed := true }
def FnKeyZeroUptoSaid : Prop := fnKeyZeroUptoRow.holds Try.pinned (OpenSpec.upto fnKeyZeroSpec)

/-- 'laws.FnKeyChange', WHERE WHAT IT READS IS OF BULK AT MOST 1048576: true; the input reads as it did. -/
def fnKeyChangeUptoRow : OpenClaim := { program := "ytgdoajhieiibcaa", sum := "5cd7d1dd59a64bf5468c00d46488db4aed41d31994db18699319ef3caf160368", func := "loop.example/disclosurecontrol/laws.FnKeyChange", spec := "fnKeyChange", apart := false, narrowed := true }
def FnKeyChangeUptoSaid : Prop := fnKeyChangeUptoRow.holds Try.pinned (OpenSpec.upto fnKeyChangeSpec)

end Rows
end Go.Proofs.Ytgdoajhieiibcaa
