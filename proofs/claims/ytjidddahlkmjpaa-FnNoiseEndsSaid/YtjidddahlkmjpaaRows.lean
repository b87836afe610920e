/-
  No cell of these rows narrows 'for every input' (looked for: loops, veiled, ifaces, maps, wideKeys, modest, calm, conditions, laid).
  DERIVED. THE GIVEN ROWS OF THIS SEAT. 14 by the template 'for every input the law returns true; each argument reads behind the call as it read before'; 0 by the template 'total and deterministic' (their statements: YtjidddahlkmjpaaTotals.lean).
  GIVEN WITH THE SEED: the statements are not yours to turn. If you find one false, say at which input.
  Laid BY PROGRAM, IN A SANDBOX (cutbox-rows.mjs): the forced cells as the released guide's own fill.sh prints them over the translation 71ea662991799cf5… (all of the seat's roots in one cut). By AI agents, Wed Nov 11 2026. No macro, syntax, notation, axiom, sorry.
-/
import Derived.Test.YtjidddahlkmjpaaChecked
import GoSem.Claim
import GoSem.ClaimJoined
import GoSem.ClaimMapViews
import Derived.JoinedTies
import Derived.KernelRfl
namespace Go.Proofs.Ytjidddahlkmjpaa
/- THE CELL 'sum', in the pinned program and in every row, IS THE sha256 OF THE DUMP (.gsa) THAT YtjidddahlkmjpaaProg.lean LOADS. Nothing in Lean hashes anything: it is a label: what it is worth is what the hold of that sum in a sandbox is worth. -/
noncomputable def Try.pinned : Pinned := { name := "ytjidddahlkmjpaa", sum := "71ea662991799cf546b69fb47687865eb1e830721265c89d0c5b04a1044cd5d6", checked := Try.checked }
namespace Rows
def none {H : Type} : Left H := { results := [], args := [] }

/-- 'laws.FnExactNoiseWeight': WHATEVER THE INPUT: true; the input reads as it did. -/
def fnExactNoiseWeightSpec : ChangeSpec := { name := "fnExactNoiseWeight", fn := fun _ => fun
  | [d1, d2, d3, d4] => { results := [.lit (.bool true)], args := [d1, d2, d3, d4] }
  | _ => none }
def fnExactNoiseWeightRow : OpenClaim := { program := "ytjidddahlkmjpaa", sum := "71ea662991799cf546b69fb47687865eb1e830721265c89d0c5b04a1044cd5d6", func := "loop.example/disclosurecontrol/laws.FnExactNoiseWeight", spec := "fnExactNoiseWeight", apart := false }
def FnExactNoiseWeightSaid : Prop := fnExactNoiseWeightRow.holds Try.pinned (OpenSpec.ofChange fnExactNoiseWeightSpec)

/-- ITS FALSE NEIGHBOUR: 'it returns false'. Refute it at one input. -/
def fnExactNoiseWeightWrong : ChangeSpec := { name := "fnExactNoiseWeight", fn := fun _ => fun
  | [d1, d2, d3, d4] => { results := [.lit (.bool false)], args := [d1, d2, d3, d4] }
  | _ => none }
def FnExactNoiseWeightWrongFalsely : Prop := fnExactNoiseWeightRow.holds Try.pinned (OpenSpec.ofChange fnExactNoiseWeightWrong)

/-- 'laws.FnExactNoiseTotal': WHATEVER THE INPUT: true; the input reads as it did. -/
def fnExactNoiseTotalSpec : ChangeSpec := { name := "fnExactNoiseTotal", fn := fun _ => fun
  | [d1, d2, d3] => { results := [.lit (.bool true)], args := [d1, d2, d3] }
  | _ => none }
def fnExactNoiseTotalRow : OpenClaim := { program := "ytjidddahlkmjpaa", sum := "71ea662991799cf546b69fb47687865eb1e830721265c89d0c5b04a1044cd5d6", func := "loop.example/disclosurecontrol/laws.FnExactNoiseTotal", spec := "fnExactNoiseTotal", apart := false }
def FnExactNoiseTotalSaid : Prop := fnExactNoiseTotalRow.holds Try.pinned (OpenSpec.ofChange fnExactNoiseTotalSpec)

/-- ITS FALSE NEIGHBOUR: 'it returns false'. Refute it at one input. -/
def fnExactNoiseTotalWrong : ChangeSpec := { name := "fnExactNoiseTotal", fn := fun _ => fun
  | [d1, d2, d3] => { results := [.lit (.bool false)], args := [d1, d2, d3] }
  | _ => none }
def FnExactNoiseTotalWrongFalsely : Prop := fnExactNoiseTotalRow.holds Try.pinned (OpenSpec.ofChange fnExactNoiseTotalWrong)

/-- 'laws.FnExactNoiseLikely': WHATEVER THE INPUT: true; the input reads as it did. -/
def fnExactNoiseLikelySpec : ChangeSpec := { name := "fnExactNoiseLikely", fn := fun _ => fun
  | [d1, d2, d3] => { results := [.lit (.bool true)], args := [d1, d2, d3] }
  | _ => none }
def fnExactNoiseLikelyRow : OpenClaim := { program := "ytjidddahlkmjpaa", sum := "71ea662991799cf546b69fb47687865eb1e830721265c89d0c5b04a1044cd5d6", func := "loop.example/disclosurecontrol/laws.FnExactNoiseLikely", spec := "fnExactNoiseLikely", apart := false }
def FnExactNoiseLikelySaid : Prop := fnExactNoiseLikelyRow.holds Try.pinned (OpenSpec.ofChange fnExactNoiseLikelySpec)

/-- ITS FALSE NEIGHBOUR: 'it returns false'. Refute it at one input. -/
def fnExactNoiseLikelyWrong : ChangeSpec := { name := "fnExactNoiseLikely", fn := fun _ => fun
  | [d1, d2, d3] => { results := [.lit (.bool false)], args := [d1, d2, d3] }
  | _ => none }
def FnExactNoiseLikelyWrongFalsely : Prop := fnExactNoiseLikelyRow.holds Try.pinned (OpenSpec.ofChange fnExactNoiseLikelyWrong)

/-- 'laws.FnNoise': WHATEVER THE INPUT: true; the input reads as it did. -/
def fnNoiseSpec : ChangeSpec := { name := "fnNoise", fn := fun _ => fun
  | [d] => { results := [.lit (.bool true)], args := [d] }
  | _ => none }
def fnNoiseRow : OpenClaim := { program := "ytjidddahlkmjpaa", sum := "71ea662991799cf546b69fb47687865eb1e830721265c89d0c5b04a1044cd5d6", func := "loop.example/disclosurecontrol/laws.FnNoise", spec := "fnNoise", apart := false }
def FnNoiseSaid : Prop := fnNoiseRow.holds Try.pinned (OpenSpec.ofChange fnNoiseSpec)

/-- ITS FALSE NEIGHBOUR: 'it returns false'. Refute it at one input. -/
def fnNoiseWrong : ChangeSpec := { name := "fnNoise", fn := fun _ => fun
  | [d] => { results := [.lit (.bool false)], args := [d] }
  | _ => none }
def FnNoiseWrongFalsely : Prop := fnNoiseRow.holds Try.pinned (OpenSpec.ofChange fnNoiseWrong)

/-- 'laws.FnNoiseFar': WHATEVER THE INPUT: true; the input reads as it did. -/
def fnNoiseFarSpec : ChangeSpec := { name := "fnNoiseFar", fn := fun _ => fun
  | [d1, d2] => { results := [.lit (.bool true)], args := [d1, d2] }
  | _ => none }
def fnNoiseFarRow : OpenClaim := { program := "ytjidddahlkmjpaa", sum := "71ea662991799cf546b69fb47687865eb1e830721265c89d0c5b04a1044cd5d6", func := "loop.example/disclosurecontrol/laws.FnNoiseFar", spec := "fnNoiseFar", apart := false }
def FnNoiseFarSaid : Prop := fnNoiseFarRow.holds Try.pinned (OpenSpec.ofChange fnNoiseFarSpec)

/-- ITS FALSE NEIGHBOUR: 'it returns false'. Refute it at one input. -/
def fnNoiseFarWrong : ChangeSpec := { name := "fnNoiseFar", fn := fun _ => fun
  | [d1, d2] => { results := [.lit (.bool false)], args := [d1, d2] }
  | _ => none }
def FnNoiseFarWrongFalsely : Prop := fnNoiseFarRow.holds Try.pinned (OpenSpec.ofChange fnNoiseFarWrong)

/-- 'laws.FnNoiseMirror': WHATEVER THE INPUT: true; the input reads as it did. -/
def fnNoiseMirrorSpec : ChangeSpec := { name := "fnNoiseMirror", fn := fun _ => fun
  | [d] => { results := [.lit (.bool true)], args := [d] }
  | _ => none }
def fnNoiseMirrorRow : OpenClaim := { program := "ytjidddahlkmjpaa", sum := "71ea662991799cf546b69fb47687865eb1e830721265c89d0c5b04a1044cd5d6", func := "loop.example/disclosurecontrol/laws.FnNoiseMirror", spec := "fnNoiseMirror", apart := false }
def FnNoiseMirrorSaid : Prop := fnNoiseMirrorRow.holds Try.pinned (OpenSpec.ofChange fnNoiseMirrorSpec)

/-- ITS FALSE NEIGHBOUR: 'it returns false'. Refute it at one input. -/
def fnNoiseMirrorWrong : ChangeSpec := { name := "fnNoiseMirror", fn := fun _ => fun
  | [d] => { results := [.lit (.bool false)], args := [d] }
  | _ => none }
def FnNoiseMirrorWrongFalsely : Prop := fnNoiseMirrorRow.holds Try.pinned (OpenSpec.ofChange fnNoiseMirrorWrong)

/-- 'laws.FnNoiseNear': WHATEVER THE INPUT: true; the input reads as it did. -/
def fnNoiseNearSpec : ChangeSpec := { name := "fnNoiseNear", fn := fun _ => fun
  | [d1, d2] => { results := [.lit (.bool true)], args := [d1, d2] }
  | _ => none }
def fnNoiseNearRow : OpenClaim := { program := "ytjidddahlkmjpaa", sum := "71ea662991799cf546b69fb47687865eb1e830721265c89d0c5b04a1044cd5d6", func := "loop.example/disclosurecontrol/laws.FnNoiseNear", spec := "fnNoiseNear", apart := false }
def FnNoiseNearSaid : Prop := fnNoiseNearRow.holds Try.pinned (OpenSpec.ofChange fnNoiseNearSpec)

/-- ITS FALSE NEIGHBOUR: 'it returns false'. Refute it at one input. -/
def fnNoiseNearWrong : ChangeSpec := { name := "fnNoiseNear", fn := fun _ => fun
  | [d1, d2] => { results := [.lit (.bool false)], args := [d1, d2] }
  | _ => none }
def FnNoiseNearWrongFalsely : Prop := fnNoiseNearRow.holds Try.pinned (OpenSpec.ofChange fnNoiseNearWrong)

/-- 'laws.FnNoiseNext': WHATEVER THE INPUT: true; the input reads as it did. -/
def fnNoiseNextSpec : ChangeSpec := { name := "fnNoiseNext", fn := fun _ => fun
  | [d] => { results := [.lit (.bool true)], args := [d] }
  | _ => none }
def fnNoiseNextRow : OpenClaim := { program := "ytjidddahlkmjpaa", sum := "71ea662991799cf546b69fb47687865eb1e830721265c89d0c5b04a1044cd5d6", func := "loop.example/disclosurecontrol/laws.FnNoiseNext", spec := "fnNoiseNext", apart := false }
def FnNoiseNextSaid : Prop := fnNoiseNextRow.holds Try.pinned (OpenSpec.ofChange fnNoiseNextSpec)

/-- ITS FALSE NEIGHBOUR: 'it returns false'. Refute it at one input. -/
def fnNoiseNextWrong : ChangeSpec := { name := "fnNoiseNext", fn := fun _ => fun
  | [d] => { results := [.lit (.bool false)], args := [d] }
  | _ => none }
def FnNoiseNextWrongFalsely : Prop := fnNoiseNextRow.holds Try.pinned (OpenSpec.ofChange fnNoiseNextWrong)

/-- 'laws.FnExactNoiseDraw': WHATEVER THE INPUT: true; the input reads as it did. -/
def fnExactNoiseDrawSpec : ChangeSpec := { name := "fnExactNoiseDraw", fn := fun _ => fun
  | [d1, d2, d3, d4] => { results := [.lit (.bool true)], args := [d1, d2, d3, d4] }
  | _ => none }
def fnExactNoiseDrawRow : OpenClaim := { program := "ytjidddahlkmjpaa", sum := "71ea662991799cf546b69fb47687865eb1e830721265c89d0c5b04a1044cd5d6", func := "loop.example/disclosurecontrol/laws.FnExactNoiseDraw", spec := "fnExactNoiseDraw", apart := false }
def FnExactNoiseDrawSaid : Prop := fnExactNoiseDrawRow.holds Try.pinned (OpenSpec.ofChange fnExactNoiseDrawSpec)

/-- ITS FALSE NEIGHBOUR: 'it returns false'. Refute it at one input. -/
def fnExactNoiseDrawWrong : ChangeSpec := { name := "fnExactNoiseDraw", fn := fun _ => fun
  | [d1, d2, d3, d4] => { results := [.lit (.bool false)], args := [d1, d2, d3, d4] }
  | _ => none }
def FnExactNoiseDrawWrongFalsely : Prop := fnExactNoiseDrawRow.holds Try.pinned (OpenSpec.ofChange fnExactNoiseDrawWrong)

/-- 'laws.FnNoiseSum': WHATEVER THE INPUT: true; the input reads as it did. -/
def fnNoiseSumSpec : ChangeSpec := { name := "fnNoiseSum", fn := fun _ => fun
  | [d] => { results := [.lit (.bool true)], args := [d] }
  | _ => none }
def fnNoiseSumRow : OpenClaim := { program := "ytjidddahlkmjpaa", sum := "71ea662991799cf546b69fb47687865eb1e830721265c89d0c5b04a1044cd5d6", func := "loop.example/disclosurecontrol/laws.FnNoiseSum", spec := "fnNoiseSum", apart := false }
def FnNoiseSumSaid : Prop := fnNoiseSumRow.holds Try.pinned (OpenSpec.ofChange fnNoiseSumSpec)

/-- ITS FALSE NEIGHBOUR: 'it returns false'. Refute it at one input. -/
def fnNoiseSumWrong : ChangeSpec := { name := "fnNoiseSum", fn := fun _ => fun
  | [d] => { results := [.lit (.bool false)], args := [d] }
  | _ => none }
def FnNoiseSumWrongFalsely : Prop := fnNoiseSumRow.holds Try.pinned (OpenSpec.ofChange fnNoiseSumWrong)

/-- 'laws.FnNoiseEnds': WHATEVER THE INPUT: true; the input reads as it did. -/
def fnNoiseEndsSpec : ChangeSpec := { name := "fnNoiseEnds", fn := fun _ => fun
  | [d] => { results := [.lit (.bool true)], args := [d] }
  | _ => none }
def fnNoiseEndsRow : OpenClaim := { program := "ytjidddahlkmjpaa", sum := "71ea662991799cf546b69fb47687865eb1e830721265c89d0c5b04a1044cd5d6", func := "loop.example/disclosurecontrol/laws.FnNoiseEnds", spec := "fnNoiseEnds", apart := false }
def FnNoiseEndsSaid : Prop := fnNoiseEndsRow.holds Try.pinned (OpenSpec.ofChange fnNoiseEndsSpec)

/-- ITS FALSE NEIGHBOUR: 'it returns false'. Refute it at one input. -/
def fnNoiseEndsWrong : ChangeSpec := { name := "fnNoiseEnds", fn := fun _ => fun
  | [d] => { results := [.lit (.bool false)], args := [d] }
  | _ => none }
def FnNoiseEndsWrongFalsely : Prop := fnNoiseEndsRow.holds Try.pinned (OpenSpec.ofChange fnNoiseEndsWrong)

/-- 'laws.FnNoiseTails': WHATEVER THE INPUT: true; the input reads as it did. -/
def fnNoiseTailsSpec : ChangeSpec := { name := "fnNoiseTails", fn := fun _ => fun
  | [d] => { results := [.lit (.bool true)], args := [d] }
  | _ => none }
def fnNoiseTailsRow : OpenClaim := { program := "ytjidddahlkmjpaa", sum := "71ea662991799cf546b69fb47687865eb1e830721265c89d0c5b04a1044cd5d6", func := "loop.example/disclosurecontrol/laws.FnNoiseTails", spec := "fnNoiseTails", apart := false }
def FnNoiseTailsSaid : Prop := fnNoiseTailsRow.holds Try.pinned (OpenSpec.ofChange fnNoiseTailsSpec)

/-- ITS FALSE NEIGHBOUR: 'it returns false'. Refute it at one input. -/
def fnNoiseTailsWrong : ChangeSpec := { name := "fnNoiseTails", fn := fun _ => fun
  | [d] => { results := [.lit (.bool false)], args := [d] }
  | _ => none }
def FnNoiseTailsWrongFalsely : Prop := fnNoiseTailsRow.holds Try.pinned (OpenSpec.ofChange fnNoiseTailsWrong)

/-- 'laws.FnNoiseTotal': WHATEVER THE INPUT: true; the input reads as it did. -/
def fnNoiseTotalSpec : ChangeSpec := { name := "fnNoiseTotal", fn := fun _ => fun
  | [d] => { results := [.lit (.bool true)], args := [d] }
  | _ => none }
def fnNoiseTotalRow : OpenClaim := { program := "ytjidddahlkmjpaa", sum := "71ea662991799cf546b69fb47687865eb1e830721265c89d0c5b04a1044cd5d6", func := "loop.example/disclosurecontrol/laws.FnNoiseTotal", spec := "fnNoiseTotal", apart := false }
def FnNoiseTotalSaid : Prop := fnNoiseTotalRow.holds Try.pinned (OpenSpec.ofChange fnNoiseTotalSpec)

/-- ITS FALSE NEIGHBOUR: 'it returns false'. Refute it at one input. -/
def fnNoiseTotalWrong : ChangeSpec := { name := "fnNoiseTotal", fn := fun _ => fun
  | [d] => { results := [.lit (.bool false)], args := [d] }
  | _ => none }
def FnNoiseTotalWrongFalsely : Prop := fnNoiseTotalRow.holds Try.pinned (OpenSpec.ofChange fnNoiseTotalWrong)

/-- 'laws.FnNoiseLikely': WHATEVER THE INPUT: true; the input reads as it did. -/
def fnNoiseLikelySpec : ChangeSpec := { name := "fnNoiseLikely", fn := fun _ => fun
  | [d] => { results := [.lit (.bool true)], args := [d] }
  | _ => none }
def fnNoiseLikelyRow : OpenClaim := { program := "ytjidddahlkmjpaa", sum := "71ea662991799cf546b69fb47687865eb1e830721265c89d0c5b04a1044cd5d6", func := "loop.example/disclosurecontrol/laws.FnNoiseLikely", spec := "fnNoiseLikely", apart := false }
def FnNoiseLikelySaid : Prop := fnNoiseLikelyRow.holds Try.pinned (OpenSpec.ofChange fnNoiseLikelySpec)

/-- ITS FALSE NEIGHBOUR: 'it returns false'. Refute it at one input. -/
def fnNoiseLikelyWrong : ChangeSpec := { name := "fnNoiseLikely", fn := fun _ => fun
  | [d] => { results := [.lit (.bool false)], args := [d] }
  | _ => none }
def FnNoiseLikelyWrongFalsely : Prop := fnNoiseLikelyRow.holds Try.pinned (OpenSpec.ofChange fnNoiseLikelyWrong)

/- THE SECOND FORM. 'bulk': how many values and letters a reading holds, each counted each time it is reached (what is shared counts as often as it is met; a slice's spare places count too). A statement '..UptoSaid' is the law's where the arguments, and the package variables that the reading takes, are together of bulk at most 1048576: NARROWER than '..Said'. Prove '..Said' where nothing that the law and all that it calls make is longer than what came in: it says more and counts as full. Else prove '..UptoSaid'. A law counts once. -/
mutual
def uptoBulk {H : Type} : DataW H → Nat
  | .lit (.string bytes) => bytes.length + 1
  | .lit _ => 1
  | .nil => 1
  | .ptr d => uptoBulk d + 1
  | .slice elems spare => uptoBulkAll elems + uptoBulkAll spare + 1
  | .agg parts => uptoBulkAll parts + 1
  | .iface _ d => uptoBulk d + 1
  | .map entries => uptoBulkEntries entries + 1
  | .held _ => 1
def uptoBulkAll {H : Type} : List (DataW H) → Nat
  | [] => 0
  | d :: r => uptoBulk d + uptoBulkAll r
def uptoBulkEntries {H : Type} : List (Lit × DataW H) → Nat
  | [] => 0
  | x :: r => uptoBulkEntry x + uptoBulkEntries r
def uptoBulkEntry {H : Type} : Lit × DataW H → Nat
  | (.string bytes, d) => bytes.length + uptoBulk d + 1
  | (_, d) => uptoBulk d + 1
 end
def uptoSmall : (H : Type) → List (DataW H) → Bool := fun _ ds => decide (uptoBulkAll ds ≤ 1048576)
def OpenSpec.upto (s : _root_.Go.ChangeSpec) : _root_.Go.OpenSpec := { _root_.Go.OpenSpec.ofChange s with cond := some uptoSmall }

/-- 'laws.FnExactNoiseWeight', WHERE WHAT IT READS IS OF BULK AT MOST 1048576: true; the input reads as it did. -/
def fnExactNoiseWeightUptoRow : OpenClaim := { program := "ytjidddahlkmjpaa", sum := "71ea662991799cf546b69fb47687865eb1e830721265c89d0c5b04a1044cd5d6", func := "loop.example/disclosurecontrol/laws.FnExactNoiseWeight", spec := "fnExactNoiseWeight", apart := false, narrowed := true }
def FnExactNoiseWeightUptoSaid : Prop := fnExactNoiseWeightUptoRow.holds Try.pinned (OpenSpec.upto fnExactNoiseWeightSpec)

/-- 'laws.FnExactNoiseTotal', WHERE WHAT IT READS IS OF BULK AT MOST 1048576: true; the input reads as it did. -/
def fnExactNoiseTotalUptoRow : OpenClaim := { program := "ytjidddahlkmjpaa", sum := "71ea662991799cf546b69fb47687865eb1e830721265c89d0c5b04a1044cd5d6", func := "loop.example/disclosurecontrol/laws.FnExactNoiseTotal", spec := "fnExactNoiseTotal", apart := false, narrowed := true }
def FnExactNoiseTotalUptoSaid : Prop := fnExactNoiseTotalUptoRow.holds Try.pinned (OpenSpec.upto fnExactNoiseTotalSpec)

/-- 'laws.FnExactNoiseLikely', WHERE WHAT IT READS IS OF BULK AT MOST 1048576: true; the input reads as it did. -/
def fnExactNoiseLikelyUptoRow : OpenClaim := { program := "ytjidddahlkmjpaa", sum := "71ea662991799cf546b69fb47687865eb1e830721265c89d0c5b04a1044cd5d6", func := "loop.example/disclosurecontrol/laws.FnExactNoiseLikely", spec := "fnExactNoiseLikely", apart := false, narrowed := true }
def FnExactNoiseLikelyUptoSaid : Prop := fnExactNoiseLikelyUptoRow.holds Try.pinned (OpenSpec.upto fnExactNoiseLikelySpec)

/-- 'laws.FnNoise', WHERE WHAT IT READS IS OF BULK AT MOST 1048576: true; the input reads as it did. -/
def fnNoiseUptoRow : OpenClaim := { program := "ytjidddahlkmjpaa", sum := "71ea662991799cf546b69fb47687865eb1e830721265c89d0c5b04a1044cd5d6", func := "loop.example/disclosurecontrol/laws.FnNoise", spec := "fnNoise", apart := false, narrowed := true }
def FnNoiseUptoSaid : Prop := fnNoiseUptoRow.holds Try.pinned (OpenSpec.upto fnNoiseSpec)

/-- 'laws.FnNoiseFar', WHERE WHAT IT READS IS OF BULK AT MOST 1048576: true; the input reads as it did. -/
def fnNoiseFarUptoRow : OpenClaim := { program := "ytjidddahlkmjpaa", sum := "71ea662991799cf546b69fb47687865eb1e830721265c89d0c5b04a1044cd5d6", func := "loop.example/disclosurecontrol/laws.FnNoiseFar", spec := "fnNoiseFar", apart := false, narrowed := true }
def FnNoiseFarUptoSaid : Prop := fnNoiseFarUptoRow.holds Try.pinned (OpenSpec.upto fnNoiseFarSpec)

/-- 'laws.FnNoiseMirror', WHERE WHAT IT READS IS OF BULK AT MOST 1048576: true; the input reads as it did. -/
def fnNoiseMirrorUptoRow : OpenClaim := { program := "ytjidddahlkmjpaa", sum := "71ea662991799cf546b69fb47687865eb1e830721265c89d0c5b04a1044cd5d6", func := "loop.example/disclosurecontrol/laws.FnNoiseMirror", spec := "fnNoiseMirror", apart := false, narrowed := true }
def FnNoiseMirrorUptoSaid : Prop := fnNoiseMirrorUptoRow.holds Try.pinned (OpenSpec.upto fnNoiseMirrorSpec)

/-- 'laws.FnNoiseNear', WHERE WHAT IT READS IS OF BULK AT MOST 1048576: true; the input reads as it did. -/
def fnNoiseNearUptoRow : OpenClaim := { program := "ytjidddahlkmjpaa", sum := "71ea662991799cf546b69fb47687865eb1e830721265c89d0c5b04a1044cd5d6", func := "loop.example/disclosurecontrol/laws.FnNoiseNear", spec := "fnNoiseNear", apart := false, narrowed := true }
def FnNoiseNearUptoSaid : Prop := fnNoiseNearUptoRow.holds Try.pinned (OpenSpec.upto fnNoiseNearSpec)

/-- 'laws.FnNoiseNext', WHERE WHAT IT READS IS OF BULK AT MOST 1048576: true; the input reads as it did. -/
def fnNoiseNextUptoRow : OpenClaim := { program := "ytjidddahlkmjpaa", sum := "71ea662991799cf546b69fb47687865eb1e830721265c89d0c5b04a1044cd5d6", func := "loop.example/disclosurecontrol/laws.FnNoiseNext", spec := "fnNoiseNext", apart := false, narrowed := true }
def FnNoiseNextUptoSaid : Prop := fnNoiseNextUptoRow.holds Try.pinned (OpenSpec.upto fnNoiseNextSpec)

/-- 'laws.FnExactNoiseDraw', WHERE WHAT IT READS IS OF BULK AT MOST 1048576: true; the input reads as it did. -/
def fnExactNoiseDrawUptoRow : OpenClaim := { program := "ytjidddahlkmjpaa", sum := "71ea662991799cf546b69fb47687865eb1e830721265c89d0c5b04a1044cd5d6", func := "loop.example/disclosurecontrol/laws.FnExactNoiseDraw", spec := "fnExactNoiseDraw", apart := false, narrowed := true }
def FnExactNoiseDrawUptoSaid : Prop := fnExactNoiseDrawUptoRow.holds Try.pinned (OpenSpec.upto fnExactNoiseDrawSpec)

/-- 'laws.FnNoiseSum', WHERE WHAT IT READS IS OF BULK AT MOST 1048576: true; the input reads as it did. -/
def fnNoiseSumUptoRow : OpenClaim := { program := "ytjidddahlkmjpaa", sum := "71ea662991799cf546b69fb47687865eb1e830721265c89d0c5b04a1044cd5d6", func := "loop.example/disclosurecontrol/laws.FnNoiseSum", spec := "fnNoiseSum", apart := false, narrowed := true }
def FnNoiseSumUptoSaid : Prop := fnNoiseSumUptoRow.holds Try.pinned (OpenSpec.upto fnNoiseSumSpec)

/-- 'laws.FnNoiseEnds', WHERE WHAT IT READS IS OF BULK AT MOST 1048576: true; the input reads as it did. -/
def fnNoiseEndsUptoRow : OpenClaim := { program := "ytjidddahlkmjpaa", sum := "71ea662991799cf546b69fb47687865eb1e830721265c89d0c5b04a1044cd5d6", func := "loop.example/disclosurecontrol/laws.FnNoiseEnds", spec := "fnNoiseEnds", apart := false, narrowed := true }
def FnNoiseEndsUptoSaid : Prop := fnNoiseEndsUptoRow.holds Try.pinned (OpenSpec.upto fnNoiseEndsSpec)

/-- 'laws.FnNoiseTails', WHERE WHAT IT READS IS OF BULK AT MOST 1048576: true; the input reads as it did. -/
def fnNoiseTailsUptoRow : OpenClaim := { program := "ytjidddahlkmjpaa", sum := "71ea662991799cf546b69fb47687865eb1e830721265c89d0c5b04a1044cd5d6", func := "loop.example/disclosurecontrol/laws.FnNoiseTails", spec := "fnNoiseTails", apart := false, narrowed := true }
def FnNoiseTailsUptoSaid : Prop := fnNoiseTailsUptoRow.holds Try.pinned (OpenSpec.upto fnNoiseTailsSpec)

/-- 'laws.FnNoiseTotal', WHERE WHAT IT READS IS OF BULK AT MOST 1048576: true; the input reads as it did. -/
def fnNoiseTotalUptoRow : OpenClaim := { program := "ytjidddahlkmjpaa", sum := "71ea662991799cf546b69fb47687865eb1e830721265c89d0c5b04a1044cd5d6", func := "loop.example/disclosurecontrol/laws.FnNoiseTotal", spec := "fnNoiseTotal", apart := false, narrowed := true }
def FnNoiseTotalUptoSaid : Prop := fnNoiseTotalUptoRow.holds Try.pinned (OpenSpec.upto fnNoiseTotalSpec)

/-- 'laws.FnNoiseLikely', WHERE WHAT IT READS IS OF BULK AT MOST 1048576: true; the input reads as it did. -/
def fnNoiseLikelyUptoRow : OpenClaim := { program := "ytjidddahlkmjpaa", sum := "71ea662991799cf546b69fb47687865eb1e830721265c89d0c5b04a1044cd5d6", func := "loop.example/disclosurecontrol/laws.FnNoiseLikely", spec := "fnNoiseLikely", apart := false, narrowed := true }
def FnNoiseLikelyUptoSaid : Prop := fnNoiseLikelyUptoRow.holds Try.pinned (OpenSpec.upto fnNoiseLikelySpec)

end Rows
end Go.Proofs.Ytjidddahlkmjpaa
