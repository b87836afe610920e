/-
  No cell of these rows narrows 'for every input' (looked for: loops, veiled, ifaces, maps, wideKeys, modest, calm, conditions, laid).
  DERIVED. THE GIVEN ROWS OF THIS SEAT. 5 by the template 'for every input the law returns true; each argument reads behind the call as it read before'; 0 by the template 'total and deterministic' (their statements: YtpjiencegicjbaaTotals.lean).
  GIVEN WITH THE SEED: the statements are not yours to turn. If you find one false, say at which input.
  Laid BY PROGRAM, IN A SANDBOX (cutbox-rows.mjs): the forced cells as the released guide's own fill.sh prints them over the translation 390427c12d2b7280… (all of the seat's roots in one cut). By AI agents, Wed Nov 11 2026. No macro, syntax, notation, axiom, sorry.
-/
import Derived.Test.YtpjiencegicjbaaChecked
import GoSem.Claim
import GoSem.ClaimJoined
import GoSem.ClaimMapViews
import Derived.JoinedTies
import Derived.KernelRfl
namespace Go.Proofs.Ytpjiencegicjbaa
/- THE CELL 'sum', in the pinned program and in every row, IS THE sha256 OF THE DUMP (.gsa) THAT YtpjiencegicjbaaProg.lean LOADS. Nothing in Lean hashes anything: it is a label: what it is worth is what the hold of that sum in a sandbox is worth. -/
noncomputable def Try.pinned : Pinned := { name := "ytpjiencegicjbaa", sum := "390427c12d2b7280a31585cfbc1ca239b2d15381f00c93de1c5921cacc954591", checked := Try.checked }
namespace Rows
def none {H : Type} : Left H := { results := [], args := [] }

/-- 'laws.FnExactSwapOk': WHATEVER THE INPUT: true; the input reads as it did. -/
def fnExactSwapOkSpec : ChangeSpec := { name := "fnExactSwapOk", fn := fun _ => fun
  | [d1, d2, d3] => { results := [.lit (.bool true)], args := [d1, d2, d3] }
  | _ => none }
def fnExactSwapOkRow : OpenClaim := { program := "ytpjiencegicjbaa", sum := "390427c12d2b7280a31585cfbc1ca239b2d15381f00c93de1c5921cacc954591", func := "loop.example/disclosurecontrol/laws.FnExactSwapOk", spec := "fnExactSwapOk", plainKeys := false, apart := false }
def FnExactSwapOkSaid : Prop := fnExactSwapOkRow.holds Try.pinned (OpenSpec.ofChange fnExactSwapOkSpec)

/-- ITS FALSE NEIGHBOUR: 'it returns false'. Refute it at one input. -/
def fnExactSwapOkWrong : ChangeSpec := { name := "fnExactSwapOk", fn := fun _ => fun
  | [d1, d2, d3] => { results := [.lit (.bool false)], args := [d1, d2, d3] }
  | _ => none }
def FnExactSwapOkWrongFalsely : Prop := fnExactSwapOkRow.holds Try.pinned (OpenSpec.ofChange fnExactSwapOkWrong)

/-- 'laws.FnExactSwapDo': WHATEVER THE INPUT: true; the input reads as it did. -/
def fnExactSwapDoSpec : ChangeSpec := { name := "fnExactSwapDo", fn := fun _ => fun
  | [d1, d2, d3] => { results := [.lit (.bool true)], args := [d1, d2, d3] }
  | _ => none }
def fnExactSwapDoRow : OpenClaim := { program := "ytpjiencegicjbaa", sum := "390427c12d2b7280a31585cfbc1ca239b2d15381f00c93de1c5921cacc954591", func := "loop.example/disclosurecontrol/laws.FnExactSwapDo", spec := "fnExactSwapDo", plainKeys := false, apart := false }
def FnExactSwapDoSaid : Prop := fnExactSwapDoRow.holds Try.pinned (OpenSpec.ofChange fnExactSwapDoSpec)

/-- ITS FALSE NEIGHBOUR: 'it returns false'. Refute it at one input. -/
def fnExactSwapDoWrong : ChangeSpec := { name := "fnExactSwapDo", fn := fun _ => fun
  | [d1, d2, d3] => { results := [.lit (.bool false)], args := [d1, d2, d3] }
  | _ => none }
def FnExactSwapDoWrongFalsely : Prop := fnExactSwapDoRow.holds Try.pinned (OpenSpec.ofChange fnExactSwapDoWrong)

/-- 'laws.FnExactSwapMoved': WHATEVER THE INPUT: true; the input reads as it did. -/
def fnExactSwapMovedSpec : ChangeSpec := { name := "fnExactSwapMoved", fn := fun _ => fun
  | [d1, d2] => { results := [.lit (.bool true)], args := [d1, d2] }
  | _ => none }
def fnExactSwapMovedRow : OpenClaim := { program := "ytpjiencegicjbaa", sum := "390427c12d2b7280a31585cfbc1ca239b2d15381f00c93de1c5921cacc954591", func := "loop.example/disclosurecontrol/laws.FnExactSwapMoved", spec := "fnExactSwapMoved", plainKeys := false, apart := false }
def FnExactSwapMovedSaid : Prop := fnExactSwapMovedRow.holds Try.pinned (OpenSpec.ofChange fnExactSwapMovedSpec)

/-- ITS FALSE NEIGHBOUR: 'it returns false'. Refute it at one input. -/
def fnExactSwapMovedWrong : ChangeSpec := { name := "fnExactSwapMoved", fn := fun _ => fun
  | [d1, d2] => { results := [.lit (.bool false)], args := [d1, d2] }
  | _ => none }
def FnExactSwapMovedWrongFalsely : Prop := fnExactSwapMovedRow.holds Try.pinned (OpenSpec.ofChange fnExactSwapMovedWrong)

/-- 'laws.FnExactSwapList': WHATEVER THE INPUT: true; the input reads as it did. -/
def fnExactSwapListSpec : ChangeSpec := { name := "fnExactSwapList", fn := fun _ => fun
  | [d1, d2] => { results := [.lit (.bool true)], args := [d1, d2] }
  | _ => none }
def fnExactSwapListRow : OpenClaim := { program := "ytpjiencegicjbaa", sum := "390427c12d2b7280a31585cfbc1ca239b2d15381f00c93de1c5921cacc954591", func := "loop.example/disclosurecontrol/laws.FnExactSwapList", spec := "fnExactSwapList", unfollowed := true, recurses := true, plainKeys := false, apart := false }
def FnExactSwapListSaid : Prop := fnExactSwapListRow.holds Try.pinned (OpenSpec.ofChange fnExactSwapListSpec)

/-- ITS FALSE NEIGHBOUR: 'it returns false'. Refute it at one input. -/
def fnExactSwapListWrong : ChangeSpec := { name := "fnExactSwapList", fn := fun _ => fun
  | [d1, d2] => { results := [.lit (.bool false)], args := [d1, d2] }
  | _ => none }
def FnExactSwapListWrongFalsely : Prop := fnExactSwapListRow.holds Try.pinned (OpenSpec.ofChange fnExactSwapListWrong)

/-- 'laws.FnSwapGroups': WHATEVER THE INPUT: true; the input reads as it did. -/
def fnSwapGroupsSpec : ChangeSpec := { name := "fnSwapGroups", fn := fun _ => fun
  | [d1, d2] => { results := [.lit (.bool true)], args := [d1, d2] }
  | _ => none }
def fnSwapGroupsRow : OpenClaim := { program := "ytpjiencegicjbaa", sum := "390427c12d2b7280a31585cfbc1ca239b2d15381f00c93de1c5921cacc954591", func := "loop.example/disclosurecontrol/laws.FnSwapGroups", spec := "fnSwapGroups", plainKeys := false, apart := false }
def FnSwapGroupsSaid : Prop := fnSwapGroupsRow.holds Try.pinned (OpenSpec.ofChange fnSwapGroupsSpec)

/-- ITS FALSE NEIGHBOUR: 'it returns false'. Refute it at one input. -/
def fnSwapGroupsWrong : ChangeSpec := { name := "fnSwapGroups", fn := fun _ => fun
  | [d1, d2] => { results := [.lit (.bool false)], args := [d1, d2] }
  | _ => none }
def FnSwapGroupsWrongFalsely : Prop := fnSwapGroupsRow.holds Try.pinned (OpenSpec.ofChange fnSwapGroupsWrong)

/- THE SECOND FORM. 'bulk': how many values and letters a reading holds, each counted each time it is reached (what is shared counts as often as it is met; a slice's spare places count too). A statement '..UptoSaid' is the law's where the arguments, and the package variables that the reading takes, are together of bulk at most 1048576: NARROWER than '..Said'. Prove '..Said' where nothing that the law and all that it calls make is longer than what came in: it says more and counts as full. Else prove '..UptoSaid'. A law counts once. -/
mutual
def uptoBulk {H : Type} : DataW H → Nat
  | .lit (.string bytes) => bytes.length + 1
  | .lit _ => 1
  | .nil => 1
  | .ptr d => uptoBulk d + 1
  | .slice elems spare => uptoBulkAll elems + uptoBulkAll spare + 1
  | .agg parts => uptoBulkAll parts + 1
  | .iface _ d => uptoBulk d + 1
  | .map entries => uptoBulkEntries entries + 1
  | .held _ => 1
def uptoBulkAll {H : Type} : List (DataW H) → Nat
  | [] => 0
  | d :: r => uptoBulk d + uptoBulkAll r
def uptoBulkEntries {H : Type} : List (Lit × DataW H) → Nat
  | [] => 0
  | x :: r => uptoBulkEntry x + uptoBulkEntries r
def uptoBulkEntry {H : Type} : Lit × DataW H → Nat
  | (.string bytes, d) => bytes.length + uptoBulk d + 1
  | (_, d) => uptoBulk d + 1
 end
def uptoSmall : (H : Type) → List (DataW H) → Bool := fun _ ds => decide (uptoBulkAll ds ≤ 1048576)
def OpenSpec.upto (s : _root_.Go.ChangeSpec) : _root_.Go.OpenSpec := { _root_.Go.OpenSpec.ofChange s with cond := some uptoSmall }

/-- 'laws.FnExactSwapOk', WHERE WHAT IT READS IS OF BULK AT MOST 1048576: true; the input reads as it did. -/
def fnExactSwapOkUptoRow : OpenClaim := { program := "ytpjiencegicjbaa", sum := "390427c12d2b7280a31585cfbc1ca239b2d15381f00c93de1c5921cacc954591", func := "loop.example/disclosurecontrol/laws.FnExactSwapOk", spec := "fnExactSwapOk", plainKeys := false, apart := false, narrowed := true }
def FnExactSwapOkUptoSaid : Prop := fnExactSwapOkUptoRow.holds Try.pinned (OpenSpec.upto fnExactSwapOkSpec)

/-- 'laws.FnExactSwapDo', WHERE WHAT IT READS IS OF BULK AT MOST 1048576: true; the input reads as it did. -/
def fnExactSwapDoUptoRow : OpenClaim := { program := "ytpjiencegicjbaa", sum := "390427c12d2b7280a31585cfbc1ca239b2d15381f00c93de1c5921cacc954591", func := "loop.example/disclosurecontrol/laws.FnExactSwapDo", spec := "fnExactSwapDo", plainKeys := false, apart := false, narrowed := true }
def FnExactSwapDoUptoSaid : Prop := fnExactSwapDoUptoRow.holds Try.pinned (OpenSpec.upto fnExactSwapDoSpec)

/-- 'laws.FnExactSwapMoved', WHERE WHAT IT READS IS OF BULK AT MOST 1048576: true; the input reads as it did. -/
def fnExactSwapMovedUptoRow : OpenClaim := { program := "ytpjiencegicjbaa", sum := "390427c12d2b7280a31585cfbc1ca239b2d15381f00c93de1c5921cacc954591", func := "loop.example/disclosurecontrol/laws.FnExactSwapMoved", spec := "fnExactSwapMoved", plainKeys := false, apart := false, narrowed := true }
def FnExactSwapMovedUptoSaid : Prop := fnExactSwapMovedUptoRow.holds Try.pinned (OpenSpec.upto fnExactSwapMovedSpec)

/-- 'laws.FnExactSwapList', WHERE WHAT IT READS IS OF BULK AT MOST 1048576: true; the input reads as it did. -/
def fnExactSwapListUptoRow : OpenClaim := { program := "ytpjiencegicjbaa", sum := "390427c12d2b7280a31585cfbc1ca239b2d15381f00c93de1c5921cacc954591", func := "loop.example/disclosurecontrol/laws.FnExactSwapList", spec := "fnExactSwapList", unfollowed := true, recurses := true, plainKeys := false, apart := false, narrowed := true }
def FnExactSwapListUptoSaid : Prop := fnExactSwapListUptoRow.holds Try.pinned (OpenSpec.upto fnExactSwapListSpec)

/-- 'laws.FnSwapGroups', WHERE WHAT IT READS IS OF BULK AT MOST 1048576: true; the input reads as it did. -/
def fnSwapGroupsUptoRow : OpenClaim := { program := "ytpjiencegicjbaa", sum := "390427c12d2b7280a31585cfbc1ca239b2d15381f00c93de1c5921cacc954591", func := "loop.example/disclosurecontrol/laws.FnSwapGroups", spec := "fnSwapGroups", plainKeys := false, apart := false, narrowed := true }
def FnSwapGroupsUptoSaid : Prop := fnSwapGroupsUptoRow.holds Try.pinned (OpenSpec.upto fnSwapGroupsSpec)

end Rows
end Go.Proofs.Ytpjiencegicjbaa
