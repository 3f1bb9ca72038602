/-
  No cell of these rows narrows 'for every input' (looked for: loops, veiled, ifaces, maps, wideKeys, modest, calm, conditions, laid).
  DERIVED. THE GIVEN ROWS OF THIS SEAT. 10 by the template 'for every input the law returns true; each argument reads behind the call as it read before'; 0 by the template 'total and deterministic' (their statements: YtabecnpdoicajaaTotals.lean).
  GIVEN WITH THE SEED: the statements are not yours to turn. If you find one false, say at which input.
  Laid BY PROGRAM, IN A SANDBOX (cutbox-rows.mjs): the forced cells as the released guide's own fill.sh prints them over the translation 88780e31e7652ec5… (all of the seat's roots in one cut). By AI agents, Wed Nov 11 2026. No macro, syntax, notation, axiom, sorry.
-/
import Derived.Test.YtabecnpdoicajaaChecked
import GoSem.Claim
import GoSem.ClaimJoined
import GoSem.ClaimMapViews
import Derived.JoinedTies
import Derived.KernelRfl
namespace Go.Proofs.Ytabecnpdoicajaa
/- THE CELL 'sum', in the pinned program and in every row, IS THE sha256 OF THE DUMP (.gsa) THAT YtabecnpdoicajaaProg.lean LOADS. Nothing in Lean hashes anything: it is a label: what it is worth is what the hold of that sum in a sandbox is worth. -/
noncomputable def Try.pinned : Pinned := { name := "ytabecnpdoicajaa", sum := "88780e31e7652ec57e4c0cda12043affcc52b8de1072391ad420f5ad71820fa7", checked := Try.checked }
namespace Rows
def none {H : Type} : Left H := { results := [], args := [] }

/-- 'laws.FnExactAreTensions': WHATEVER THE INPUT: true; the input reads as it did. -/
def fnExactAreTensionsSpec : ChangeSpec := { name := "fnExactAreTensions", fn := fun _ => fun
  | [d] => { results := [.lit (.bool true)], args := [d] }
  | _ => none }
def fnExactAreTensionsRow : OpenClaim := { program := "ytabecnpdoicajaa", sum := "88780e31e7652ec57e4c0cda12043affcc52b8de1072391ad420f5ad71820fa7", func := "loop.example/g01050/laws.FnExactAreTensions", spec := "fnExactAreTensions", apart := false }
def FnExactAreTensionsSaid : Prop := fnExactAreTensionsRow.holds Try.pinned (OpenSpec.ofChange fnExactAreTensionsSpec)

/-- ITS FALSE NEIGHBOUR: 'it returns false'. Refute it at one input. -/
def fnExactAreTensionsWrong : ChangeSpec := { name := "fnExactAreTensions", fn := fun _ => fun
  | [d] => { results := [.lit (.bool false)], args := [d] }
  | _ => none }
def FnExactAreTensionsWrongFalsely : Prop := fnExactAreTensionsRow.holds Try.pinned (OpenSpec.ofChange fnExactAreTensionsWrong)

/-- 'laws.FnExactIsStiffness': WHATEVER THE INPUT: true; the input reads as it did. -/
def fnExactIsStiffnessSpec : ChangeSpec := { name := "fnExactIsStiffness", fn := fun _ => fun
  | [d] => { results := [.lit (.bool true)], args := [d] }
  | _ => none }
def fnExactIsStiffnessRow : OpenClaim := { program := "ytabecnpdoicajaa", sum := "88780e31e7652ec57e4c0cda12043affcc52b8de1072391ad420f5ad71820fa7", func := "loop.example/g01050/laws.FnExactIsStiffness", spec := "fnExactIsStiffness", apart := false }
def FnExactIsStiffnessSaid : Prop := fnExactIsStiffnessRow.holds Try.pinned (OpenSpec.ofChange fnExactIsStiffnessSpec)

/-- ITS FALSE NEIGHBOUR: 'it returns false'. Refute it at one input. -/
def fnExactIsStiffnessWrong : ChangeSpec := { name := "fnExactIsStiffness", fn := fun _ => fun
  | [d] => { results := [.lit (.bool false)], args := [d] }
  | _ => none }
def FnExactIsStiffnessWrongFalsely : Prop := fnExactIsStiffnessRow.holds Try.pinned (OpenSpec.ofChange fnExactIsStiffnessWrong)

/-- 'laws.FnExactSumOfTensions': WHATEVER THE INPUT: true; the input reads as it did. -/
def fnExactSumOfTensionsSpec : ChangeSpec := { name := "fnExactSumOfTensions", fn := fun _ => fun
  | [d] => { results := [.lit (.bool true)], args := [d] }
  | _ => none }
def fnExactSumOfTensionsRow : OpenClaim := { program := "ytabecnpdoicajaa", sum := "88780e31e7652ec57e4c0cda12043affcc52b8de1072391ad420f5ad71820fa7", func := "loop.example/g01050/laws.FnExactSumOfTensions", spec := "fnExactSumOfTensions", apart := false }
def FnExactSumOfTensionsSaid : Prop := fnExactSumOfTensionsRow.holds Try.pinned (OpenSpec.ofChange fnExactSumOfTensionsSpec)

/-- ITS FALSE NEIGHBOUR: 'it returns false'. Refute it at one input. -/
def fnExactSumOfTensionsWrong : ChangeSpec := { name := "fnExactSumOfTensions", fn := fun _ => fun
  | [d] => { results := [.lit (.bool false)], args := [d] }
  | _ => none }
def FnExactSumOfTensionsWrongFalsely : Prop := fnExactSumOfTensionsRow.holds Try.pinned (OpenSpec.ofChange fnExactSumOfTensionsWrong)

/-- 'laws.FnExactSpreadOf': WHATEVER THE INPUT: true; the input reads as it did. -/
def fnExactSpreadOfSpec : ChangeSpec := { name := "fnExactSpreadOf", fn := fun _ => fun
  | [d] => { results := [.lit (.bool true)], args := [d] }
  | _ => none }
def fnExactSpreadOfRow : OpenClaim := { program := "ytabecnpdoicajaa", sum := "88780e31e7652ec57e4c0cda12043affcc52b8de1072391ad420f5ad71820fa7", func := "loop.example/g01050/laws.FnExactSpreadOf", spec := "fnExactSpreadOf", apart := false }
def FnExactSpreadOfSaid : Prop := fnExactSpreadOfRow.holds Try.pinned (OpenSpec.ofChange fnExactSpreadOfSpec)

/-- ITS FALSE NEIGHBOUR: 'it returns false'. Refute it at one input. -/
def fnExactSpreadOfWrong : ChangeSpec := { name := "fnExactSpreadOf", fn := fun _ => fun
  | [d] => { results := [.lit (.bool false)], args := [d] }
  | _ => none }
def FnExactSpreadOfWrongFalsely : Prop := fnExactSpreadOfRow.holds Try.pinned (OpenSpec.ofChange fnExactSpreadOfWrong)

/-- 'laws.FnExactMeanTension': WHATEVER THE INPUT: true; the input reads as it did. -/
def fnExactMeanTensionSpec : ChangeSpec := { name := "fnExactMeanTension", fn := fun _ => fun
  | [d] => { results := [.lit (.bool true)], args := [d] }
  | _ => none }
def fnExactMeanTensionRow : OpenClaim := { program := "ytabecnpdoicajaa", sum := "88780e31e7652ec57e4c0cda12043affcc52b8de1072391ad420f5ad71820fa7", func := "loop.example/g01050/laws.FnExactMeanTension", spec := "fnExactMeanTension", apart := false }
def FnExactMeanTensionSaid : Prop := fnExactMeanTensionRow.holds Try.pinned (OpenSpec.ofChange fnExactMeanTensionSpec)

/-- ITS FALSE NEIGHBOUR: 'it returns false'. Refute it at one input. -/
def fnExactMeanTensionWrong : ChangeSpec := { name := "fnExactMeanTension", fn := fun _ => fun
  | [d] => { results := [.lit (.bool false)], args := [d] }
  | _ => none }
def FnExactMeanTensionWrongFalsely : Prop := fnExactMeanTensionRow.holds Try.pinned (OpenSpec.ofChange fnExactMeanTensionWrong)

/-- 'laws.FnExactSlackSpokes': WHATEVER THE INPUT: true; the input reads as it did. -/
def fnExactSlackSpokesSpec : ChangeSpec := { name := "fnExactSlackSpokes", fn := fun _ => fun
  | [d1, d2] => { results := [.lit (.bool true)], args := [d1, d2] }
  | _ => none }
def fnExactSlackSpokesRow : OpenClaim := { program := "ytabecnpdoicajaa", sum := "88780e31e7652ec57e4c0cda12043affcc52b8de1072391ad420f5ad71820fa7", func := "loop.example/g01050/laws.FnExactSlackSpokes", spec := "fnExactSlackSpokes", apart := false }
def FnExactSlackSpokesSaid : Prop := fnExactSlackSpokesRow.holds Try.pinned (OpenSpec.ofChange fnExactSlackSpokesSpec)

/-- ITS FALSE NEIGHBOUR: 'it returns false'. Refute it at one input. -/
def fnExactSlackSpokesWrong : ChangeSpec := { name := "fnExactSlackSpokes", fn := fun _ => fun
  | [d1, d2] => { results := [.lit (.bool false)], args := [d1, d2] }
  | _ => none }
def FnExactSlackSpokesWrongFalsely : Prop := fnExactSlackSpokesRow.holds Try.pinned (OpenSpec.ofChange fnExactSlackSpokesWrong)

/-- 'laws.FnExactOutOfBand': WHATEVER THE INPUT: true; the input reads as it did. -/
def fnExactOutOfBandSpec : ChangeSpec := { name := "fnExactOutOfBand", fn := fun _ => fun
  | [d1, d2] => { results := [.lit (.bool true)], args := [d1, d2] }
  | _ => none }
def fnExactOutOfBandRow : OpenClaim := { program := "ytabecnpdoicajaa", sum := "88780e31e7652ec57e4c0cda12043affcc52b8de1072391ad420f5ad71820fa7", func := "loop.example/g01050/laws.FnExactOutOfBand", spec := "fnExactOutOfBand", apart := false }
def FnExactOutOfBandSaid : Prop := fnExactOutOfBandRow.holds Try.pinned (OpenSpec.ofChange fnExactOutOfBandSpec)

/-- ITS FALSE NEIGHBOUR: 'it returns false'. Refute it at one input. -/
def fnExactOutOfBandWrong : ChangeSpec := { name := "fnExactOutOfBand", fn := fun _ => fun
  | [d1, d2] => { results := [.lit (.bool false)], args := [d1, d2] }
  | _ => none }
def FnExactOutOfBandWrongFalsely : Prop := fnExactOutOfBandRow.holds Try.pinned (OpenSpec.ofChange fnExactOutOfBandWrong)

/-- 'laws.FnExactTurnsForMean': WHATEVER THE INPUT: true; the input reads as it did. -/
def fnExactTurnsForMeanSpec : ChangeSpec := { name := "fnExactTurnsForMean", fn := fun _ => fun
  | [d1, d2, d3] => { results := [.lit (.bool true)], args := [d1, d2, d3] }
  | _ => none }
def fnExactTurnsForMeanRow : OpenClaim := { program := "ytabecnpdoicajaa", sum := "88780e31e7652ec57e4c0cda12043affcc52b8de1072391ad420f5ad71820fa7", func := "loop.example/g01050/laws.FnExactTurnsForMean", spec := "fnExactTurnsForMean", apart := false }
def FnExactTurnsForMeanSaid : Prop := fnExactTurnsForMeanRow.holds Try.pinned (OpenSpec.ofChange fnExactTurnsForMeanSpec)

/-- ITS FALSE NEIGHBOUR: 'it returns false'. Refute it at one input. -/
def fnExactTurnsForMeanWrong : ChangeSpec := { name := "fnExactTurnsForMean", fn := fun _ => fun
  | [d1, d2, d3] => { results := [.lit (.bool false)], args := [d1, d2, d3] }
  | _ => none }
def FnExactTurnsForMeanWrongFalsely : Prop := fnExactTurnsForMeanRow.holds Try.pinned (OpenSpec.ofChange fnExactTurnsForMeanWrong)

/-- 'laws.FnExactTurnAll': WHATEVER THE INPUT: true; the input reads as it did. -/
def fnExactTurnAllSpec : ChangeSpec := { name := "fnExactTurnAll", fn := fun _ => fun
  | [d1, d2, d3] => { results := [.lit (.bool true)], args := [d1, d2, d3] }
  | _ => none }
def fnExactTurnAllRow : OpenClaim := { program := "ytabecnpdoicajaa", sum := "88780e31e7652ec57e4c0cda12043affcc52b8de1072391ad420f5ad71820fa7", func := "loop.example/g01050/laws.FnExactTurnAll", spec := "fnExactTurnAll", apart := false }
def FnExactTurnAllSaid : Prop := fnExactTurnAllRow.holds Try.pinned (OpenSpec.ofChange fnExactTurnAllSpec)

/-- ITS FALSE NEIGHBOUR: 'it returns false'. Refute it at one input. -/
def fnExactTurnAllWrong : ChangeSpec := { name := "fnExactTurnAll", fn := fun _ => fun
  | [d1, d2, d3] => { results := [.lit (.bool false)], args := [d1, d2, d3] }
  | _ => none }
def FnExactTurnAllWrongFalsely : Prop := fnExactTurnAllRow.holds Try.pinned (OpenSpec.ofChange fnExactTurnAllWrong)

/-- 'laws.FnExactTurnNipple': WHATEVER THE INPUT: true; the input reads as it did. -/
def fnExactTurnNippleSpec : ChangeSpec := { name := "fnExactTurnNipple", fn := fun _ => fun
  | [d1, d2, d3, d4] => { results := [.lit (.bool true)], args := [d1, d2, d3, d4] }
  | _ => none }
def fnExactTurnNippleRow : OpenClaim := { program := "ytabecnpdoicajaa", sum := "88780e31e7652ec57e4c0cda12043affcc52b8de1072391ad420f5ad71820fa7", func := "loop.example/g01050/laws.FnExactTurnNipple", spec := "fnExactTurnNipple", apart := false }
def FnExactTurnNippleSaid : Prop := fnExactTurnNippleRow.holds Try.pinned (OpenSpec.ofChange fnExactTurnNippleSpec)

/-- ITS FALSE NEIGHBOUR: 'it returns false'. Refute it at one input. -/
def fnExactTurnNippleWrong : ChangeSpec := { name := "fnExactTurnNipple", fn := fun _ => fun
  | [d1, d2, d3, d4] => { results := [.lit (.bool false)], args := [d1, d2, d3, d4] }
  | _ => none }
def FnExactTurnNippleWrongFalsely : Prop := fnExactTurnNippleRow.holds Try.pinned (OpenSpec.ofChange fnExactTurnNippleWrong)

/- THE SECOND FORM. 'bulk': how many values and letters a reading holds, each counted each time it is reached (what is shared counts as often as it is met; a slice's spare places count too). A statement '..UptoSaid' is the law's where the arguments, and the package variables that the reading takes, are together of bulk at most 1048576: NARROWER than '..Said'. Prove '..Said' where nothing that the law and all that it calls make is longer than what came in: it says more and counts as full. Else prove '..UptoSaid'. A law counts once. -/
mutual
def uptoBulk {H : Type} : DataW H → Nat
  | .lit (.string bytes) => bytes.length + 1
  | .lit _ => 1
  | .nil => 1
  | .ptr d => uptoBulk d + 1
  | .slice elems spare => uptoBulkAll elems + uptoBulkAll spare + 1
  | .agg parts => uptoBulkAll parts + 1
  | .iface _ d => uptoBulk d + 1
  | .map entries => uptoBulkEntries entries + 1
  | .held _ => 1
def uptoBulkAll {H : Type} : List (DataW H) → Nat
  | [] => 0
  | d :: r => uptoBulk d + uptoBulkAll r
def uptoBulkEntries {H : Type} : List (Lit × DataW H) → Nat
  | [] => 0
  | x :: r => uptoBulkEntry x + uptoBulkEntries r
def uptoBulkEntry {H : Type} : Lit × DataW H → Nat
  | (.string bytes, d) => bytes.length + uptoBulk d + 1
  | (_, d) => uptoBulk d + 1
 end
def uptoSmall : (H : Type) → List (DataW H) → Bool := fun _ ds => decide (uptoBulkAll ds ≤ 1048576)
def OpenSpec.upto (s : _root_.Go.ChangeSpec) : _root_.Go.OpenSpec := { _root_.Go.OpenSpec.ofChange s with cond := some uptoSmall }

/-- 'laws.FnExactAreTensions', WHERE WHAT IT READS IS OF BULK AT MOST 1048576: true; the input reads as it did. -/
def fnExactAreTensionsUptoRow : OpenClaim := { program := "ytabecnpdoicajaa", sum := "88780e31e7652ec57e4c0cda12043affcc52b8de1072391ad420f5ad71820fa7", func := "loop.example/g01050/laws.FnExactAreTensions", spec := "fnExactAreTensions", apart := false, narrowed := true }
def FnExactAreTensionsUptoSaid : Prop := fnExactAreTensionsUptoRow.holds Try.pinned (OpenSpec.upto fnExactAreTensionsSpec)

/-- 'laws.FnExactIsStiffness', WHERE WHAT IT READS IS OF BULK AT MOST 1048576: true; the input reads as it did. -/
def fnExactIsStiffnessUptoRow : OpenClaim := { program := "ytabecnpdoicajaa", sum := "88780e31e7652ec57e4c0cda12043affcc52b8de1072391ad420f5ad71820fa7", func := "loop.example/g01050/laws.FnExactIsStiffness", spec := "fnExactIsStiffness", apart := false, narrowed := true }
def FnExactIsStiffnessUptoSaid : Prop := fnExactIsStiffnessUptoRow.holds Try.pinned (OpenSpec.upto fnExactIsStiffnessSpec)

/-- 'laws.FnExactSumOfTensions', WHERE WHAT IT READS IS OF BULK AT MOST 1048576: true; the input reads as it did. -/
def fnExactSumOfTensionsUptoRow : OpenClaim := { program := "ytabecnpdoicajaa", sum := "88780e31e7652ec57e4c0cda12043affcc52b8de1072391ad420f5ad71820fa7", func := "loop.example/g01050/laws.FnExactSumOfTensions", spec := "fnExactSumOfTensions", apart := false, narrowed := true }
def FnExactSumOfTensionsUptoSaid : Prop := fnExactSumOfTensionsUptoRow.holds Try.pinned (OpenSpec.upto fnExactSumOfTensionsSpec)

/-- 'laws.FnExactSpreadOf', WHERE WHAT IT READS IS OF BULK AT MOST 1048576: true; the input reads as it did. -/
def fnExactSpreadOfUptoRow : OpenClaim := { program := "ytabecnpdoicajaa", sum := "88780e31e7652ec57e4c0cda12043affcc52b8de1072391ad420f5ad71820fa7", func := "loop.example/g01050/laws.FnExactSpreadOf", spec := "fnExactSpreadOf", apart := false, narrowed := true }
def FnExactSpreadOfUptoSaid : Prop := fnExactSpreadOfUptoRow.holds Try.pinned (OpenSpec.upto fnExactSpreadOfSpec)

/-- 'laws.FnExactMeanTension', WHERE WHAT IT READS IS OF BULK AT MOST 1048576: true; the input reads as it did. -/
def fnExactMeanTensionUptoRow : OpenClaim := { program := "ytabecnpdoicajaa", sum := "88780e31e7652ec57e4c0cda12043affcc52b8de1072391ad420f5ad71820fa7", func := "loop.example/g01050/laws.FnExactMeanTension", spec := "fnExactMeanTension", apart := false, narrowed := true }
def FnExactMeanTensionUptoSaid : Prop := fnExactMeanTensionUptoRow.holds Try.pinned (OpenSpec.upto fnExactMeanTensionSpec)

/-- 'laws.FnExactSlackSpokes', WHERE WHAT IT READS IS OF BULK AT MOST 1048576: true; the input reads as it did. -/
def fnExactSlackSpokesUptoRow : OpenClaim := { program := "ytabecnpdoicajaa", sum := "88780e31e7652ec57e4c0cda12043affcc52b8de1072391ad420f5ad71820fa7", func := "loop.example/g01050/laws.FnExactSlackSpokes", spec := "fnExactSlackSpokes", apart := false, narrowed := true }
def FnExactSlackSpokesUptoSaid : Prop := fnExactSlackSpokesUptoRow.holds Try.pinned (OpenSpec.upto fnExactSlackSpokesSpec)

/-- 'laws.FnExactOutOfBand', WHERE WHAT IT READS IS OF BULK AT MOST 1048576: true; the input reads as it did. -/
def fnExactOutOfBandUptoRow : OpenClaim := { program := "ytabecnpdoicajaa", sum := "88780e31e7652ec57e4c0cda12043affcc52b8de1072391ad420f5ad71820fa7", func := "loop.example/g01050/laws.FnExactOutOfBand", spec := "fnExactOutOfBand", apart := false, narrowed := true }
def FnExactOutOfBandUptoSaid : Prop := fnExactOutOfBandUptoRow.holds Try.pinned (OpenSpec.upto fnExactOutOfBandSpec)

/-- 'laws.FnExactTurnsForMean', WHERE WHAT IT READS IS OF BULK AT MOST 1048576: true; the input reads as it did. -/
def fnExactTurnsForMeanUptoRow : OpenClaim := { program := "ytabecnpdoicajaa", sum := "88780e31e7652ec57e4c0cda12043affcc52b8de1072391ad420f5ad71820fa7", func := "loop.example/g01050/laws.FnExactTurnsForMean", spec := "fnExactTurnsForMean", apart := false, narrowed := true }
def FnExactTurnsForMeanUptoSaid : Prop := fnExactTurnsForMeanUptoRow.holds Try.pinned (OpenSpec.upto fnExactTurnsForMeanSpec)

/-- 'laws.FnExactTurnAll', WHERE WHAT IT READS IS OF BULK AT MOST 1048576: true; the input reads as it did. -/
def fnExactTurnAllUptoRow : OpenClaim := { program := "ytabecnpdoicajaa", sum := "88780e31e7652ec57e4c0cda12043affcc52b8de1072391ad420f5ad71820fa7", func := "loop.example/g01050/laws.FnExactTurnAll", spec := "fnExactTurnAll", apart := false, narrowed := true }
def FnExactTurnAllUptoSaid : Prop := fnExactTurnAllUptoRow.holds Try.pinned (OpenSpec.upto fnExactTurnAllSpec)

/-- 'laws.FnExactTurnNipple', WHERE WHAT IT READS IS OF BULK AT MOST 1048576: true; the input reads as it did. -/
def fnExactTurnNippleUptoRow : OpenClaim := { program := "ytabecnpdoicajaa", sum := "88780e31e7652ec57e4c0cda12043affcc52b8de1072391ad420f5ad71820fa7", func := "loop.example/g01050/laws.FnExactTurnNipple", spec := "fnExactTurnNipple", apart := false, narrowed := true }
def FnExactTurnNippleUptoSaid : Prop := fnExactTurnNippleUptoRow.holds Try.pinned (OpenSpec.upto fnExactTurnNippleSpec)

end Rows
end Go.Proofs.Ytabecnpdoicajaa
