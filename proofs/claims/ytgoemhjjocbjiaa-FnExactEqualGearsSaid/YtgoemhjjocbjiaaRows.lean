/-
  No cell of these rows narrows 'for every input' (looked for: loops, veiled, ifaces, maps, wideKeys, modest, calm, conditions, laid).
  DERIVED. THE GIVEN ROWS OF THIS SEAT. 12 by the template 'for every input the law returns true; each argument reads behind the call as it read before'; 0 by the template 'total and deterministic' (their statements: YtgoemhjjocbjiaaTotals.lean).
  GIVEN WITH THE SEED: the statements are not yours to turn. If you find one false, say at which input.
  Laid BY PROGRAM, IN A SANDBOX (cutbox-rows.mjs): the forced cells as the released guide's own fill.sh prints them over the translation 18cc044cfe55d403… (all of the seat's roots in one cut). By AI agents, Wed Nov 11 2026. No macro, syntax, notation, axiom, sorry.
-/
import Derived.Test.YtgoemhjjocbjiaaChecked
import GoSem.Claim
import GoSem.ClaimJoined
import GoSem.ClaimMapViews
import Derived.JoinedTies
import Derived.KernelRfl
namespace Go.Proofs.Ytgoemhjjocbjiaa
/- THE CELL 'sum', in the pinned program and in every row, IS THE sha256 OF THE DUMP (.gsa) THAT YtgoemhjjocbjiaaProg.lean LOADS. Nothing in Lean hashes anything: it is a label: what it is worth is what the hold of that sum in a sandbox is worth. -/
noncomputable def Try.pinned : Pinned := { name := "ytgoemhjjocbjiaa", sum := "18cc044cfe55d4033583b0a19e197bffb34c18c11f25de38a0308b36e3603aef", checked := Try.checked }
namespace Rows
def none {H : Type} : Left H := { results := [], args := [] }

/-- 'laws.FnExactIsTrain': WHATEVER THE INPUT: true; the input reads as it did. -/
def fnExactIsTrainSpec : ChangeSpec := { name := "fnExactIsTrain", fn := fun _ => fun
  | [d] => { results := [.lit (.bool true)], args := [d] }
  | _ => none }
def fnExactIsTrainRow : OpenClaim := { program := "ytgoemhjjocbjiaa", sum := "18cc044cfe55d4033583b0a19e197bffb34c18c11f25de38a0308b36e3603aef", func := "loop.example/g01050/laws.FnExactIsTrain", spec := "fnExactIsTrain", apart := false }
def FnExactIsTrainSaid : Prop := fnExactIsTrainRow.holds Try.pinned (OpenSpec.ofChange fnExactIsTrainSpec)

/-- ITS FALSE NEIGHBOUR: 'it returns false'. Refute it at one input. -/
def fnExactIsTrainWrong : ChangeSpec := { name := "fnExactIsTrain", fn := fun _ => fun
  | [d] => { results := [.lit (.bool false)], args := [d] }
  | _ => none }
def FnExactIsTrainWrongFalsely : Prop := fnExactIsTrainRow.holds Try.pinned (OpenSpec.ofChange fnExactIsTrainWrong)

/-- 'laws.FnExactRangeOf': WHATEVER THE INPUT: true; the input reads as it did. -/
def fnExactRangeOfSpec : ChangeSpec := { name := "fnExactRangeOf", fn := fun _ => fun
  | [d] => { results := [.lit (.bool true)], args := [d] }
  | _ => none }
def fnExactRangeOfRow : OpenClaim := { program := "ytgoemhjjocbjiaa", sum := "18cc044cfe55d4033583b0a19e197bffb34c18c11f25de38a0308b36e3603aef", func := "loop.example/g01050/laws.FnExactRangeOf", spec := "fnExactRangeOf", apart := false }
def FnExactRangeOfSaid : Prop := fnExactRangeOfRow.holds Try.pinned (OpenSpec.ofChange fnExactRangeOfSpec)

/-- ITS FALSE NEIGHBOUR: 'it returns false'. Refute it at one input. -/
def fnExactRangeOfWrong : ChangeSpec := { name := "fnExactRangeOf", fn := fun _ => fun
  | [d] => { results := [.lit (.bool false)], args := [d] }
  | _ => none }
def FnExactRangeOfWrongFalsely : Prop := fnExactRangeOfRow.holds Try.pinned (OpenSpec.ofChange fnExactRangeOfWrong)

/-- 'laws.FnExactSpeedAt': WHATEVER THE INPUT: true; the input reads as it did. -/
def fnExactSpeedAtSpec : ChangeSpec := { name := "fnExactSpeedAt", fn := fun _ => fun
  | [d1, d2, d3, d4] => { results := [.lit (.bool true)], args := [d1, d2, d3, d4] }
  | _ => none }
def fnExactSpeedAtRow : OpenClaim := { program := "ytgoemhjjocbjiaa", sum := "18cc044cfe55d4033583b0a19e197bffb34c18c11f25de38a0308b36e3603aef", func := "loop.example/g01050/laws.FnExactSpeedAt", spec := "fnExactSpeedAt", apart := false }
def FnExactSpeedAtSaid : Prop := fnExactSpeedAtRow.holds Try.pinned (OpenSpec.ofChange fnExactSpeedAtSpec)

/-- ITS FALSE NEIGHBOUR: 'it returns false'. Refute it at one input. -/
def fnExactSpeedAtWrong : ChangeSpec := { name := "fnExactSpeedAt", fn := fun _ => fun
  | [d1, d2, d3, d4] => { results := [.lit (.bool false)], args := [d1, d2, d3, d4] }
  | _ => none }
def FnExactSpeedAtWrongFalsely : Prop := fnExactSpeedAtRow.holds Try.pinned (OpenSpec.ofChange fnExactSpeedAtWrong)

/-- 'laws.FnExactCadenceFor': WHATEVER THE INPUT: true; the input reads as it did. -/
def fnExactCadenceForSpec : ChangeSpec := { name := "fnExactCadenceFor", fn := fun _ => fun
  | [d1, d2, d3, d4] => { results := [.lit (.bool true)], args := [d1, d2, d3, d4] }
  | _ => none }
def fnExactCadenceForRow : OpenClaim := { program := "ytgoemhjjocbjiaa", sum := "18cc044cfe55d4033583b0a19e197bffb34c18c11f25de38a0308b36e3603aef", func := "loop.example/g01050/laws.FnExactCadenceFor", spec := "fnExactCadenceFor", apart := false }
def FnExactCadenceForSaid : Prop := fnExactCadenceForRow.holds Try.pinned (OpenSpec.ofChange fnExactCadenceForSpec)

/-- ITS FALSE NEIGHBOUR: 'it returns false'. Refute it at one input. -/
def fnExactCadenceForWrong : ChangeSpec := { name := "fnExactCadenceFor", fn := fun _ => fun
  | [d1, d2, d3, d4] => { results := [.lit (.bool false)], args := [d1, d2, d3, d4] }
  | _ => none }
def FnExactCadenceForWrongFalsely : Prop := fnExactCadenceForRow.holds Try.pinned (OpenSpec.ofChange fnExactCadenceForWrong)

/-- 'laws.FnExactDevelopmentOf': WHATEVER THE INPUT: true; the input reads as it did. -/
def fnExactDevelopmentOfSpec : ChangeSpec := { name := "fnExactDevelopmentOf", fn := fun _ => fun
  | [d1, d2, d3] => { results := [.lit (.bool true)], args := [d1, d2, d3] }
  | _ => none }
def fnExactDevelopmentOfRow : OpenClaim := { program := "ytgoemhjjocbjiaa", sum := "18cc044cfe55d4033583b0a19e197bffb34c18c11f25de38a0308b36e3603aef", func := "loop.example/g01050/laws.FnExactDevelopmentOf", spec := "fnExactDevelopmentOf", apart := false }
def FnExactDevelopmentOfSaid : Prop := fnExactDevelopmentOfRow.holds Try.pinned (OpenSpec.ofChange fnExactDevelopmentOfSpec)

/-- ITS FALSE NEIGHBOUR: 'it returns false'. Refute it at one input. -/
def fnExactDevelopmentOfWrong : ChangeSpec := { name := "fnExactDevelopmentOf", fn := fun _ => fun
  | [d1, d2, d3] => { results := [.lit (.bool false)], args := [d1, d2, d3] }
  | _ => none }
def FnExactDevelopmentOfWrongFalsely : Prop := fnExactDevelopmentOfRow.holds Try.pinned (OpenSpec.ofChange fnExactDevelopmentOfWrong)

/-- 'laws.FnExactStepsOf': WHATEVER THE INPUT: true; the input reads as it did. -/
def fnExactStepsOfSpec : ChangeSpec := { name := "fnExactStepsOf", fn := fun _ => fun
  | [d] => { results := [.lit (.bool true)], args := [d] }
  | _ => none }
def fnExactStepsOfRow : OpenClaim := { program := "ytgoemhjjocbjiaa", sum := "18cc044cfe55d4033583b0a19e197bffb34c18c11f25de38a0308b36e3603aef", func := "loop.example/g01050/laws.FnExactStepsOf", spec := "fnExactStepsOf", apart := false }
def FnExactStepsOfSaid : Prop := fnExactStepsOfRow.holds Try.pinned (OpenSpec.ofChange fnExactStepsOfSpec)

/-- ITS FALSE NEIGHBOUR: 'it returns false'. Refute it at one input. -/
def fnExactStepsOfWrong : ChangeSpec := { name := "fnExactStepsOf", fn := fun _ => fun
  | [d] => { results := [.lit (.bool false)], args := [d] }
  | _ => none }
def FnExactStepsOfWrongFalsely : Prop := fnExactStepsOfRow.holds Try.pinned (OpenSpec.ofChange fnExactStepsOfWrong)

/-- 'laws.FnExactGearOrder': WHATEVER THE INPUT: true; the input reads as it did. -/
def fnExactGearOrderSpec : ChangeSpec := { name := "fnExactGearOrder", fn := fun _ => fun
  | [d] => { results := [.lit (.bool true)], args := [d] }
  | _ => none }
def fnExactGearOrderRow : OpenClaim := { program := "ytgoemhjjocbjiaa", sum := "18cc044cfe55d4033583b0a19e197bffb34c18c11f25de38a0308b36e3603aef", func := "loop.example/g01050/laws.FnExactGearOrder", spec := "fnExactGearOrder", apart := false }
def FnExactGearOrderSaid : Prop := fnExactGearOrderRow.holds Try.pinned (OpenSpec.ofChange fnExactGearOrderSpec)

/-- ITS FALSE NEIGHBOUR: 'it returns false'. Refute it at one input. -/
def fnExactGearOrderWrong : ChangeSpec := { name := "fnExactGearOrder", fn := fun _ => fun
  | [d] => { results := [.lit (.bool false)], args := [d] }
  | _ => none }
def FnExactGearOrderWrongFalsely : Prop := fnExactGearOrderRow.holds Try.pinned (OpenSpec.ofChange fnExactGearOrderWrong)

/-- 'laws.FnExactNearestGear': WHATEVER THE INPUT: true; the input reads as it did. -/
def fnExactNearestGearSpec : ChangeSpec := { name := "fnExactNearestGear", fn := fun _ => fun
  | [d1, d2] => { results := [.lit (.bool true)], args := [d1, d2] }
  | _ => none }
def fnExactNearestGearRow : OpenClaim := { program := "ytgoemhjjocbjiaa", sum := "18cc044cfe55d4033583b0a19e197bffb34c18c11f25de38a0308b36e3603aef", func := "loop.example/g01050/laws.FnExactNearestGear", spec := "fnExactNearestGear", apart := false }
def FnExactNearestGearSaid : Prop := fnExactNearestGearRow.holds Try.pinned (OpenSpec.ofChange fnExactNearestGearSpec)

/-- ITS FALSE NEIGHBOUR: 'it returns false'. Refute it at one input. -/
def fnExactNearestGearWrong : ChangeSpec := { name := "fnExactNearestGear", fn := fun _ => fun
  | [d1, d2] => { results := [.lit (.bool false)], args := [d1, d2] }
  | _ => none }
def FnExactNearestGearWrongFalsely : Prop := fnExactNearestGearRow.holds Try.pinned (OpenSpec.ofChange fnExactNearestGearWrong)

/-- 'laws.FnExactEqualGears': WHATEVER THE INPUT: true; the input reads as it did. -/
def fnExactEqualGearsSpec : ChangeSpec := { name := "fnExactEqualGears", fn := fun _ => fun
  | [d] => { results := [.lit (.bool true)], args := [d] }
  | _ => none }
def fnExactEqualGearsRow : OpenClaim := { program := "ytgoemhjjocbjiaa", sum := "18cc044cfe55d4033583b0a19e197bffb34c18c11f25de38a0308b36e3603aef", func := "loop.example/g01050/laws.FnExactEqualGears", spec := "fnExactEqualGears", apart := false }
def FnExactEqualGearsSaid : Prop := fnExactEqualGearsRow.holds Try.pinned (OpenSpec.ofChange fnExactEqualGearsSpec)

/-- ITS FALSE NEIGHBOUR: 'it returns false'. Refute it at one input. -/
def fnExactEqualGearsWrong : ChangeSpec := { name := "fnExactEqualGears", fn := fun _ => fun
  | [d] => { results := [.lit (.bool false)], args := [d] }
  | _ => none }
def FnExactEqualGearsWrongFalsely : Prop := fnExactEqualGearsRow.holds Try.pinned (OpenSpec.ofChange fnExactEqualGearsWrong)

/-- 'laws.FnSpeeds': WHATEVER THE INPUT: true; the input reads as it did. -/
def fnSpeedsSpec : ChangeSpec := { name := "fnSpeeds", fn := fun _ => fun
  | [d] => { results := [.lit (.bool true)], args := [d] }
  | _ => none }
def fnSpeedsRow : OpenClaim := { program := "ytgoemhjjocbjiaa", sum := "18cc044cfe55d4033583b0a19e197bffb34c18c11f25de38a0308b36e3603aef", func := "loop.example/g01050/laws.FnSpeeds", spec := "fnSpeeds", apart := false }
def FnSpeedsSaid : Prop := fnSpeedsRow.holds Try.pinned (OpenSpec.ofChange fnSpeedsSpec)

/-- ITS FALSE NEIGHBOUR: 'it returns false'. Refute it at one input. -/
def fnSpeedsWrong : ChangeSpec := { name := "fnSpeeds", fn := fun _ => fun
  | [d] => { results := [.lit (.bool false)], args := [d] }
  | _ => none }
def FnSpeedsWrongFalsely : Prop := fnSpeedsRow.holds Try.pinned (OpenSpec.ofChange fnSpeedsWrong)

/-- 'laws.FnGears': WHATEVER THE INPUT: true; the input reads as it did. -/
def fnGearsSpec : ChangeSpec := { name := "fnGears", fn := fun _ => fun
  | [d] => { results := [.lit (.bool true)], args := [d] }
  | _ => none }
def fnGearsRow : OpenClaim := { program := "ytgoemhjjocbjiaa", sum := "18cc044cfe55d4033583b0a19e197bffb34c18c11f25de38a0308b36e3603aef", func := "loop.example/g01050/laws.FnGears", spec := "fnGears", apart := false }
def FnGearsSaid : Prop := fnGearsRow.holds Try.pinned (OpenSpec.ofChange fnGearsSpec)

/-- ITS FALSE NEIGHBOUR: 'it returns false'. Refute it at one input. -/
def fnGearsWrong : ChangeSpec := { name := "fnGears", fn := fun _ => fun
  | [d] => { results := [.lit (.bool false)], args := [d] }
  | _ => none }
def FnGearsWrongFalsely : Prop := fnGearsRow.holds Try.pinned (OpenSpec.ofChange fnGearsWrong)

/-- 'laws.FnGearSteps': WHATEVER THE INPUT: true; the input reads as it did. -/
def fnGearStepsSpec : ChangeSpec := { name := "fnGearSteps", fn := fun _ => fun
  | [d] => { results := [.lit (.bool true)], args := [d] }
  | _ => none }
def fnGearStepsRow : OpenClaim := { program := "ytgoemhjjocbjiaa", sum := "18cc044cfe55d4033583b0a19e197bffb34c18c11f25de38a0308b36e3603aef", func := "loop.example/g01050/laws.FnGearSteps", spec := "fnGearSteps", apart := false }
def FnGearStepsSaid : Prop := fnGearStepsRow.holds Try.pinned (OpenSpec.ofChange fnGearStepsSpec)

/-- ITS FALSE NEIGHBOUR: 'it returns false'. Refute it at one input. -/
def fnGearStepsWrong : ChangeSpec := { name := "fnGearSteps", fn := fun _ => fun
  | [d] => { results := [.lit (.bool false)], args := [d] }
  | _ => none }
def FnGearStepsWrongFalsely : Prop := fnGearStepsRow.holds Try.pinned (OpenSpec.ofChange fnGearStepsWrong)

/- THE SECOND FORM. 'bulk': how many values and letters a reading holds, each counted each time it is reached (what is shared counts as often as it is met; a slice's spare places count too). A statement '..UptoSaid' is the law's where the arguments, and the package variables that the reading takes, are together of bulk at most 1048576: NARROWER than '..Said'. Prove '..Said' where nothing that the law and all that it calls make is longer than what came in: it says more and counts as full. Else prove '..UptoSaid'. A law counts once. -/
mutual
def uptoBulk {H : Type} : DataW H → Nat
  | .lit (.string bytes) => bytes.length + 1
  | .lit _ => 1
  | .nil => 1
  | .ptr d => uptoBulk d + 1
  | .slice elems spare => uptoBulkAll elems + uptoBulkAll spare + 1
  | .agg parts => uptoBulkAll parts + 1
  | .iface _ d => uptoBulk d + 1
  | .map entries => uptoBulkEntries entries + 1
  | .held _ => 1
def uptoBulkAll {H : Type} : List (DataW H) → Nat
  | [] => 0
  | d :: r => uptoBulk d + uptoBulkAll r
def uptoBulkEntries {H : Type} : List (Lit × DataW H) → Nat
  | [] => 0
  | x :: r => uptoBulkEntry x + uptoBulkEntries r
def uptoBulkEntry {H : Type} : Lit × DataW H → Nat
  | (.string bytes, d) => bytes.length + uptoBulk d + 1
  | (_, d) => uptoBulk d + 1
 end
def uptoSmall : (H : Type) → List (DataW H) → Bool := fun _ ds => decide (uptoBulkAll ds ≤ 1048576)
def OpenSpec.upto (s : _root_.Go.ChangeSpec) : _root_.Go.OpenSpec := { _root_.Go.OpenSpec.ofChange s with cond := some uptoSmall }

/-- 'laws.FnExactIsTrain', WHERE WHAT IT READS IS OF BULK AT MOST 1048576: true; the input reads as it did. -/
def fnExactIsTrainUptoRow : OpenClaim := { program := "ytgoemhjjocbjiaa", sum := "18cc044cfe55d4033583b0a19e197bffb34c18c11f25de38a0308b36e3603aef", func := "loop.example/g01050/laws.FnExactIsTrain", spec := "fnExactIsTrain", apart := false, narrowed := true }
def FnExactIsTrainUptoSaid : Prop := fnExactIsTrainUptoRow.holds Try.pinned (OpenSpec.upto fnExactIsTrainSpec)

/-- 'laws.FnExactRangeOf', WHERE WHAT IT READS IS OF BULK AT MOST 1048576: true; the input reads as it did. -/
def fnExactRangeOfUptoRow : OpenClaim := { program := "ytgoemhjjocbjiaa", sum := "18cc044cfe55d4033583b0a19e197bffb34c18c11f25de38a0308b36e3603aef", func := "loop.example/g01050/laws.FnExactRangeOf", spec := "fnExactRangeOf", apart := false, narrowed := true }
def FnExactRangeOfUptoSaid : Prop := fnExactRangeOfUptoRow.holds Try.pinned (OpenSpec.upto fnExactRangeOfSpec)

/-- 'laws.FnExactSpeedAt', WHERE WHAT IT READS IS OF BULK AT MOST 1048576: true; the input reads as it did. -/
def fnExactSpeedAtUptoRow : OpenClaim := { program := "ytgoemhjjocbjiaa", sum := "18cc044cfe55d4033583b0a19e197bffb34c18c11f25de38a0308b36e3603aef", func := "loop.example/g01050/laws.FnExactSpeedAt", spec := "fnExactSpeedAt", apart := false, narrowed := true }
def FnExactSpeedAtUptoSaid : Prop := fnExactSpeedAtUptoRow.holds Try.pinned (OpenSpec.upto fnExactSpeedAtSpec)

/-- 'laws.FnExactCadenceFor', WHERE WHAT IT READS IS OF BULK AT MOST 1048576: true; the input reads as it did. -/
def fnExactCadenceForUptoRow : OpenClaim := { program := "ytgoemhjjocbjiaa", sum := "18cc044cfe55d4033583b0a19e197bffb34c18c11f25de38a0308b36e3603aef", func := "loop.example/g01050/laws.FnExactCadenceFor", spec := "fnExactCadenceFor", apart := false, narrowed := true }
def FnExactCadenceForUptoSaid : Prop := fnExactCadenceForUptoRow.holds Try.pinned (OpenSpec.upto fnExactCadenceForSpec)

/-- 'laws.FnExactDevelopmentOf', WHERE WHAT IT READS IS OF BULK AT MOST 1048576: true; the input reads as it did. -/
def fnExactDevelopmentOfUptoRow : OpenClaim := { program := "ytgoemhjjocbjiaa", sum := "18cc044cfe55d4033583b0a19e197bffb34c18c11f25de38a0308b36e3603aef", func := "loop.example/g01050/laws.FnExactDevelopmentOf", spec := "fnExactDevelopmentOf", apart := false, narrowed := true }
def FnExactDevelopmentOfUptoSaid : Prop := fnExactDevelopmentOfUptoRow.holds Try.pinned (OpenSpec.upto fnExactDevelopmentOfSpec)

/-- 'laws.FnExactStepsOf', WHERE WHAT IT READS IS OF BULK AT MOST 1048576: true; the input reads as it did. -/
def fnExactStepsOfUptoRow : OpenClaim := { program := "ytgoemhjjocbjiaa", sum := "18cc044cfe55d4033583b0a19e197bffb34c18c11f25de38a0308b36e3603aef", func := "loop.example/g01050/laws.FnExactStepsOf", spec := "fnExactStepsOf", apart := false, narrowed := true }
def FnExactStepsOfUptoSaid : Prop := fnExactStepsOfUptoRow.holds Try.pinned (OpenSpec.upto fnExactStepsOfSpec)

/-- 'laws.FnExactGearOrder', WHERE WHAT IT READS IS OF BULK AT MOST 1048576: true; the input reads as it did. -/
def fnExactGearOrderUptoRow : OpenClaim := { program := "ytgoemhjjocbjiaa", sum := "18cc044cfe55d4033583b0a19e197bffb34c18c11f25de38a0308b36e3603aef", func := "loop.example/g01050/laws.FnExactGearOrder", spec := "fnExactGearOrder", apart := false, narrowed := true }
def FnExactGearOrderUptoSaid : Prop := fnExactGearOrderUptoRow.holds Try.pinned (OpenSpec.upto fnExactGearOrderSpec)

/-- 'laws.FnExactNearestGear', WHERE WHAT IT READS IS OF BULK AT MOST 1048576: true; the input reads as it did. -/
def fnExactNearestGearUptoRow : OpenClaim := { program := "ytgoemhjjocbjiaa", sum := "18cc044cfe55d4033583b0a19e197bffb34c18c11f25de38a0308b36e3603aef", func := "loop.example/g01050/laws.FnExactNearestGear", spec := "fnExactNearestGear", apart := false, narrowed := true }
def FnExactNearestGearUptoSaid : Prop := fnExactNearestGearUptoRow.holds Try.pinned (OpenSpec.upto fnExactNearestGearSpec)

/-- 'laws.FnExactEqualGears', WHERE WHAT IT READS IS OF BULK AT MOST 1048576: true; the input reads as it did. -/
def fnExactEqualGearsUptoRow : OpenClaim := { program := "ytgoemhjjocbjiaa", sum := "18cc044cfe55d4033583b0a19e197bffb34c18c11f25de38a0308b36e3603aef", func := "loop.example/g01050/laws.FnExactEqualGears", spec := "fnExactEqualGears", apart := false, narrowed := true }
def FnExactEqualGearsUptoSaid : Prop := fnExactEqualGearsUptoRow.holds Try.pinned (OpenSpec.upto fnExactEqualGearsSpec)

/-- 'laws.FnSpeeds', WHERE WHAT IT READS IS OF BULK AT MOST 1048576: true; the input reads as it did. -/
def fnSpeedsUptoRow : OpenClaim := { program := "ytgoemhjjocbjiaa", sum := "18cc044cfe55d4033583b0a19e197bffb34c18c11f25de38a0308b36e3603aef", func := "loop.example/g01050/laws.FnSpeeds", spec := "fnSpeeds", apart := false, narrowed := true }
def FnSpeedsUptoSaid : Prop := fnSpeedsUptoRow.holds Try.pinned (OpenSpec.upto fnSpeedsSpec)

/-- 'laws.FnGears', WHERE WHAT IT READS IS OF BULK AT MOST 1048576: true; the input reads as it did. -/
def fnGearsUptoRow : OpenClaim := { program := "ytgoemhjjocbjiaa", sum := "18cc044cfe55d4033583b0a19e197bffb34c18c11f25de38a0308b36e3603aef", func := "loop.example/g01050/laws.FnGears", spec := "fnGears", apart := false, narrowed := true }
def FnGearsUptoSaid : Prop := fnGearsUptoRow.holds Try.pinned (OpenSpec.upto fnGearsSpec)

/-- 'laws.FnGearSteps', WHERE WHAT IT READS IS OF BULK AT MOST 1048576: true; the input reads as it did. -/
def fnGearStepsUptoRow : OpenClaim := { program := "ytgoemhjjocbjiaa", sum := "18cc044cfe55d4033583b0a19e197bffb34c18c11f25de38a0308b36e3603aef", func := "loop.example/g01050/laws.FnGearSteps", spec := "fnGearSteps", apart := false, narrowed := true }
def FnGearStepsUptoSaid : Prop := fnGearStepsUptoRow.holds Try.pinned (OpenSpec.upto fnGearStepsSpec)

end Rows
end Go.Proofs.Ytgoemhjjocbjiaa
