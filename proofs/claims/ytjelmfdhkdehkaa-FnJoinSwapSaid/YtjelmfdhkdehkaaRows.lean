/-
  No cell of these rows narrows 'for every input' (looked for: loops, veiled, ifaces, maps, wideKeys, modest, calm, conditions, laid).
  DERIVED. THE GIVEN ROWS OF THIS SEAT. 8 by the template 'for every input the law returns true; each argument reads behind the call as it read before'; 0 by the template 'total and deterministic' (their statements: YtjelmfdhkdehkaaTotals.lean).
  GIVEN WITH THE SEED: the statements are not yours to turn. If you find one false, say at which input.
  Laid BY PROGRAM, IN A SANDBOX (cutbox-rows.mjs): the forced cells as the released guide's own fill.sh prints them over the translation 8a6f674eb3b522aa… (all of the seat's roots in one cut). By AI agents, Wed Nov 11 2026. No macro, syntax, notation, axiom, sorry.
-/
import Derived.Test.YtjelmfdhkdehkaaChecked
import GoSem.Claim
import GoSem.ClaimJoined
import GoSem.ClaimMapViews
import Derived.JoinedTies
import Derived.KernelRfl
namespace Go.Proofs.Ytjelmfdhkdehkaa
/- THE CELL 'sum', in the pinned program and in every row, IS THE sha256 OF THE DUMP (.gsa) THAT YtjelmfdhkdehkaaProg.lean LOADS. Nothing in Lean hashes anything: it is a label: what it is worth is what the hold of that sum in a sandbox is worth. -/
noncomputable def Try.pinned : Pinned := { name := "ytjelmfdhkdehkaa", sum := "8a6f674eb3b522aa592f8a7a001e2fb99ed85984ff338aec9f15016dc9efed7d", checked := Try.checked }
namespace Rows
def none {H : Type} : Left H := { results := [], args := [] }

/-- 'laws.FnJoinNone': WHATEVER THE INPUT: true; the input reads as it did. -/
def fnJoinNoneSpec : ChangeSpec := { name := "fnJoinNone", fn := fun _ => fun
  | [d] => { results := [.lit (.bool true)], args := [d] }
  | _ => none }
def fnJoinNoneRow : OpenClaim := { program := "ytjelmfdhkdehkaa", sum := "8a6f674eb3b522aa592f8a7a001e2fb99ed85984ff338aec9f15016dc9efed7d", func := "loop.example/disclosurecontrol/laws.FnJoinNone", spec := "fnJoinNone", apart := false }
def FnJoinNoneSaid : Prop := fnJoinNoneRow.holds Try.pinned (OpenSpec.ofChange fnJoinNoneSpec)

/-- ITS FALSE NEIGHBOUR: 'it returns false'. Refute it at one input. -/
def fnJoinNoneWrong : ChangeSpec := { name := "fnJoinNone", fn := fun _ => fun
  | [d] => { results := [.lit (.bool false)], args := [d] }
  | _ => none }
def FnJoinNoneWrongFalsely : Prop := fnJoinNoneRow.holds Try.pinned (OpenSpec.ofChange fnJoinNoneWrong)

/-- 'laws.FnJoin': WHATEVER THE INPUT: true; the input reads as it did. -/
def fnJoinSpec : ChangeSpec := { name := "fnJoin", fn := fun _ => fun
  | [d] => { results := [.lit (.bool true)], args := [d] }
  | _ => none }
def fnJoinRow : OpenClaim := { program := "ytjelmfdhkdehkaa", sum := "8a6f674eb3b522aa592f8a7a001e2fb99ed85984ff338aec9f15016dc9efed7d", func := "loop.example/disclosurecontrol/laws.FnJoin", spec := "fnJoin", apart := false }
def FnJoinSaid : Prop := fnJoinRow.holds Try.pinned (OpenSpec.ofChange fnJoinSpec)

/-- ITS FALSE NEIGHBOUR: 'it returns false'. Refute it at one input. -/
def fnJoinWrong : ChangeSpec := { name := "fnJoin", fn := fun _ => fun
  | [d] => { results := [.lit (.bool false)], args := [d] }
  | _ => none }
def FnJoinWrongFalsely : Prop := fnJoinRow.holds Try.pinned (OpenSpec.ofChange fnJoinWrong)

/-- 'laws.FnJoinSwap': WHATEVER THE INPUT: true; the input reads as it did. -/
def fnJoinSwapSpec : ChangeSpec := { name := "fnJoinSwap", fn := fun _ => fun
  | [d1, d2] => { results := [.lit (.bool true)], args := [d1, d2] }
  | _ => none }
def fnJoinSwapRow : OpenClaim := { program := "ytjelmfdhkdehkaa", sum := "8a6f674eb3b522aa592f8a7a001e2fb99ed85984ff338aec9f15016dc9efed7d", func := "loop.example/disclosurecontrol/laws.FnJoinSwap", spec := "fnJoinSwap", apart := false }
def FnJoinSwapSaid : Prop := fnJoinSwapRow.holds Try.pinned (OpenSpec.ofChange fnJoinSwapSpec)

/-- ITS FALSE NEIGHBOUR: 'it returns false'. Refute it at one input. -/
def fnJoinSwapWrong : ChangeSpec := { name := "fnJoinSwap", fn := fun _ => fun
  | [d1, d2] => { results := [.lit (.bool false)], args := [d1, d2] }
  | _ => none }
def FnJoinSwapWrongFalsely : Prop := fnJoinSwapRow.holds Try.pinned (OpenSpec.ofChange fnJoinSwapWrong)

/-- 'laws.FnExactLedgerValid': WHATEVER THE INPUT: true; the input reads as it did. -/
def fnExactLedgerValidSpec : ChangeSpec := { name := "fnExactLedgerValid", fn := fun _ => fun
  | [d] => { results := [.lit (.bool true)], args := [d] }
  | _ => none }
def fnExactLedgerValidRow : OpenClaim := { program := "ytjelmfdhkdehkaa", sum := "8a6f674eb3b522aa592f8a7a001e2fb99ed85984ff338aec9f15016dc9efed7d", func := "loop.example/disclosurecontrol/laws.FnExactLedgerValid", spec := "fnExactLedgerValid", apart := false }
def FnExactLedgerValidSaid : Prop := fnExactLedgerValidRow.holds Try.pinned (OpenSpec.ofChange fnExactLedgerValidSpec)

/-- ITS FALSE NEIGHBOUR: 'it returns false'. Refute it at one input. -/
def fnExactLedgerValidWrong : ChangeSpec := { name := "fnExactLedgerValid", fn := fun _ => fun
  | [d] => { results := [.lit (.bool false)], args := [d] }
  | _ => none }
def FnExactLedgerValidWrongFalsely : Prop := fnExactLedgerValidRow.holds Try.pinned (OpenSpec.ofChange fnExactLedgerValidWrong)

/-- 'laws.FnExactLedgerSpent': WHATEVER THE INPUT: true; the input reads as it did. -/
def fnExactLedgerSpentSpec : ChangeSpec := { name := "fnExactLedgerSpent", fn := fun _ => fun
  | [d1, d2] => { results := [.lit (.bool true)], args := [d1, d2] }
  | _ => none }
def fnExactLedgerSpentRow : OpenClaim := { program := "ytjelmfdhkdehkaa", sum := "8a6f674eb3b522aa592f8a7a001e2fb99ed85984ff338aec9f15016dc9efed7d", func := "loop.example/disclosurecontrol/laws.FnExactLedgerSpent", spec := "fnExactLedgerSpent", apart := false }
def FnExactLedgerSpentSaid : Prop := fnExactLedgerSpentRow.holds Try.pinned (OpenSpec.ofChange fnExactLedgerSpentSpec)

/-- ITS FALSE NEIGHBOUR: 'it returns false'. Refute it at one input. -/
def fnExactLedgerSpentWrong : ChangeSpec := { name := "fnExactLedgerSpent", fn := fun _ => fun
  | [d1, d2] => { results := [.lit (.bool false)], args := [d1, d2] }
  | _ => none }
def FnExactLedgerSpentWrongFalsely : Prop := fnExactLedgerSpentRow.holds Try.pinned (OpenSpec.ofChange fnExactLedgerSpentWrong)

/-- 'laws.FnExactLedgerLeft': WHATEVER THE INPUT: true; the input reads as it did. -/
def fnExactLedgerLeftSpec : ChangeSpec := { name := "fnExactLedgerLeft", fn := fun _ => fun
  | [d1, d2] => { results := [.lit (.bool true)], args := [d1, d2] }
  | _ => none }
def fnExactLedgerLeftRow : OpenClaim := { program := "ytjelmfdhkdehkaa", sum := "8a6f674eb3b522aa592f8a7a001e2fb99ed85984ff338aec9f15016dc9efed7d", func := "loop.example/disclosurecontrol/laws.FnExactLedgerLeft", spec := "fnExactLedgerLeft", apart := false }
def FnExactLedgerLeftSaid : Prop := fnExactLedgerLeftRow.holds Try.pinned (OpenSpec.ofChange fnExactLedgerLeftSpec)

/-- ITS FALSE NEIGHBOUR: 'it returns false'. Refute it at one input. -/
def fnExactLedgerLeftWrong : ChangeSpec := { name := "fnExactLedgerLeft", fn := fun _ => fun
  | [d1, d2] => { results := [.lit (.bool false)], args := [d1, d2] }
  | _ => none }
def FnExactLedgerLeftWrongFalsely : Prop := fnExactLedgerLeftRow.holds Try.pinned (OpenSpec.ofChange fnExactLedgerLeftWrong)

/-- 'laws.FnExactLedgerAsk': WHATEVER THE INPUT: true; the input reads as it did. -/
def fnExactLedgerAskSpec : ChangeSpec := { name := "fnExactLedgerAsk", fn := fun _ => fun
  | [d1, d2, d3] => { results := [.lit (.bool true)], args := [d1, d2, d3] }
  | _ => none }
def fnExactLedgerAskRow : OpenClaim := { program := "ytjelmfdhkdehkaa", sum := "8a6f674eb3b522aa592f8a7a001e2fb99ed85984ff338aec9f15016dc9efed7d", func := "loop.example/disclosurecontrol/laws.FnExactLedgerAsk", spec := "fnExactLedgerAsk", apart := false }
def FnExactLedgerAskSaid : Prop := fnExactLedgerAskRow.holds Try.pinned (OpenSpec.ofChange fnExactLedgerAskSpec)

/-- ITS FALSE NEIGHBOUR: 'it returns false'. Refute it at one input. -/
def fnExactLedgerAskWrong : ChangeSpec := { name := "fnExactLedgerAsk", fn := fun _ => fun
  | [d1, d2, d3] => { results := [.lit (.bool false)], args := [d1, d2, d3] }
  | _ => none }
def FnExactLedgerAskWrongFalsely : Prop := fnExactLedgerAskRow.holds Try.pinned (OpenSpec.ofChange fnExactLedgerAskWrong)

/-- 'laws.FnExactLedgerJoin': WHATEVER THE INPUT: true; the input reads as it did. -/
def fnExactLedgerJoinSpec : ChangeSpec := { name := "fnExactLedgerJoin", fn := fun _ => fun
  | [d1, d2] => { results := [.lit (.bool true)], args := [d1, d2] }
  | _ => none }
def fnExactLedgerJoinRow : OpenClaim := { program := "ytjelmfdhkdehkaa", sum := "8a6f674eb3b522aa592f8a7a001e2fb99ed85984ff338aec9f15016dc9efed7d", func := "loop.example/disclosurecontrol/laws.FnExactLedgerJoin", spec := "fnExactLedgerJoin", apart := false }
def FnExactLedgerJoinSaid : Prop := fnExactLedgerJoinRow.holds Try.pinned (OpenSpec.ofChange fnExactLedgerJoinSpec)

/-- ITS FALSE NEIGHBOUR: 'it returns false'. Refute it at one input. -/
def fnExactLedgerJoinWrong : ChangeSpec := { name := "fnExactLedgerJoin", fn := fun _ => fun
  | [d1, d2] => { results := [.lit (.bool false)], args := [d1, d2] }
  | _ => none }
def FnExactLedgerJoinWrongFalsely : Prop := fnExactLedgerJoinRow.holds Try.pinned (OpenSpec.ofChange fnExactLedgerJoinWrong)

/- THE SECOND FORM. 'bulk': how many values and letters a reading holds, each counted each time it is reached (what is shared counts as often as it is met; a slice's spare places count too). A statement '..UptoSaid' is the law's where the arguments, and the package variables that the reading takes, are together of bulk at most 1048576: NARROWER than '..Said'. Prove '..Said' where nothing that the law and all that it calls make is longer than what came in: it says more and counts as full. Else prove '..UptoSaid'. A law counts once. -/
mutual
def uptoBulk {H : Type} : DataW H → Nat
  | .lit (.string bytes) => bytes.length + 1
  | .lit _ => 1
  | .nil => 1
  | .ptr d => uptoBulk d + 1
  | .slice elems spare => uptoBulkAll elems + uptoBulkAll spare + 1
  | .agg parts => uptoBulkAll parts + 1
  | .iface _ d => uptoBulk d + 1
  | .map entries => uptoBulkEntries entries + 1
  | .held _ => 1
def uptoBulkAll {H : Type} : List (DataW H) → Nat
  | [] => 0
  | d :: r => uptoBulk d + uptoBulkAll r
def uptoBulkEntries {H : Type} : List (Lit × DataW H) → Nat
  | [] => 0
  | x :: r => uptoBulkEntry x + uptoBulkEntries r
def uptoBulkEntry {H : Type} : Lit × DataW H → Nat
  | (.string bytes, d) => bytes.length + uptoBulk d + 1
  | (_, d) => uptoBulk d + 1
 end
def uptoSmall : (H : Type) → List (DataW H) → Bool := fun _ ds => decide (uptoBulkAll ds ≤ 1048576)
def OpenSpec.upto (s : _root_.Go.ChangeSpec) : _root_.Go.OpenSpec := { _root_.Go.OpenSpec.ofChange s with cond := some uptoSmall }

/-- 'laws.FnJoinNone', WHERE WHAT IT READS IS OF BULK AT MOST 1048576: true; the input reads as it did. -/
def fnJoinNoneUptoRow : OpenClaim := { program := "ytjelmfdhkdehkaa", sum := "8a6f674eb3b522aa592f8a7a001e2fb99ed85984ff338aec9f15016dc9efed7d", func := "loop.example/disclosurecontrol/laws.FnJoinNone", spec := "fnJoinNone", apart := false, narrowed := true }
def FnJoinNoneUptoSaid : Prop := fnJoinNoneUptoRow.holds Try.pinned (OpenSpec.upto fnJoinNoneSpec)

/-- 'laws.FnJoin', WHERE WHAT IT READS IS OF BULK AT MOST 1048576: true; the input reads as it did. -/
def fnJoinUptoRow : OpenClaim := { program := "ytjelmfdhkdehkaa", sum := "8a6f674eb3b522aa592f8a7a001e2fb99ed85984ff338aec9f15016dc9efed7d", func := "loop.example/disclosurecontrol/laws.FnJoin", spec := "fnJoin", apart := false, narrowed := true }
def FnJoinUptoSaid : Prop := fnJoinUptoRow.holds Try.pinned (OpenSpec.upto fnJoinSpec)

/-- 'laws.FnJoinSwap', WHERE WHAT IT READS IS OF BULK AT MOST 1048576: true; the input reads as it did. -/
def fnJoinSwapUptoRow : OpenClaim := { program := "ytjelmfdhkdehkaa", sum := "8a6f674eb3b522aa592f8a7a001e2fb99ed85984ff338aec9f15016dc9efed7d", func := "loop.example/disclosurecontrol/laws.FnJoinSwap", spec := "fnJoinSwap", apart := false, narrowed := true }
def FnJoinSwapUptoSaid : Prop := fnJoinSwapUptoRow.holds Try.pinned (OpenSpec.upto fnJoinSwapSpec)

/-- 'laws.FnExactLedgerValid', WHERE WHAT IT READS IS OF BULK AT MOST 1048576: true; the input reads as it did. -/
def fnExactLedgerValidUptoRow : OpenClaim := { program := "ytjelmfdhkdehkaa", sum := "8a6f674eb3b522aa592f8a7a001e2fb99ed85984ff338aec9f15016dc9efed7d", func := "loop.example/disclosurecontrol/laws.FnExactLedgerValid", spec := "fnExactLedgerValid", apart := false, narrowed := true }
def FnExactLedgerValidUptoSaid : Prop := fnExactLedgerValidUptoRow.holds Try.pinned (OpenSpec.upto fnExactLedgerValidSpec)

/-- 'laws.FnExactLedgerSpent', WHERE WHAT IT READS IS OF BULK AT MOST 1048576: true; the input reads as it did. -/
def fnExactLedgerSpentUptoRow : OpenClaim := { program := "ytjelmfdhkdehkaa", sum := "8a6f674eb3b522aa592f8a7a001e2fb99ed85984ff338aec9f15016dc9efed7d", func := "loop.example/disclosurecontrol/laws.FnExactLedgerSpent", spec := "fnExactLedgerSpent", apart := false, narrowed := true }
def FnExactLedgerSpentUptoSaid : Prop := fnExactLedgerSpentUptoRow.holds Try.pinned (OpenSpec.upto fnExactLedgerSpentSpec)

/-- 'laws.FnExactLedgerLeft', WHERE WHAT IT READS IS OF BULK AT MOST 1048576: true; the input reads as it did. -/
def fnExactLedgerLeftUptoRow : OpenClaim := { program := "ytjelmfdhkdehkaa", sum := "8a6f674eb3b522aa592f8a7a001e2fb99ed85984ff338aec9f15016dc9efed7d", func := "loop.example/disclosurecontrol/laws.FnExactLedgerLeft", spec := "fnExactLedgerLeft", apart := false, narrowed := true }
def FnExactLedgerLeftUptoSaid : Prop := fnExactLedgerLeftUptoRow.holds Try.pinned (OpenSpec.upto fnExactLedgerLeftSpec)

/-- 'laws.FnExactLedgerAsk', WHERE WHAT IT READS IS OF BULK AT MOST 1048576: true; the input reads as it did. -/
def fnExactLedgerAskUptoRow : OpenClaim := { program := "ytjelmfdhkdehkaa", sum := "8a6f674eb3b522aa592f8a7a001e2fb99ed85984ff338aec9f15016dc9efed7d", func := "loop.example/disclosurecontrol/laws.FnExactLedgerAsk", spec := "fnExactLedgerAsk", apart := false, narrowed := true }
def FnExactLedgerAskUptoSaid : Prop := fnExactLedgerAskUptoRow.holds Try.pinned (OpenSpec.upto fnExactLedgerAskSpec)

/-- 'laws.FnExactLedgerJoin', WHERE WHAT IT READS IS OF BULK AT MOST 1048576: true; the input reads as it did. -/
def fnExactLedgerJoinUptoRow : OpenClaim := { program := "ytjelmfdhkdehkaa", sum := "8a6f674eb3b522aa592f8a7a001e2fb99ed85984ff338aec9f15016dc9efed7d", func := "loop.example/disclosurecontrol/laws.FnExactLedgerJoin", spec := "fnExactLedgerJoin", apart := false, narrowed := true }
def FnExactLedgerJoinUptoSaid : Prop := fnExactLedgerJoinUptoRow.holds Try.pinned (OpenSpec.upto fnExactLedgerJoinSpec)

end Rows
end Go.Proofs.Ytjelmfdhkdehkaa
