/-
  No cell of these rows narrows 'for every input' (looked for: loops, veiled, ifaces, maps, wideKeys, modest, calm, conditions, laid).
  DERIVED. THE GIVEN ROWS OF THIS SEAT. 12 by the template 'for every input the law returns true; each argument reads behind the call as it read before'; 0 by the template 'total and deterministic' (their statements: YthmmdgebkgdgbaaTotals.lean).
  GIVEN WITH THE SEED: the statements are not yours to turn. If you find one false, say at which input.
  Laid BY PROGRAM, IN A SANDBOX (cutbox-rows.mjs): the forced cells as the released guide's own fill.sh prints them over the translation 6c17d815ab937e01… (all of the seat's roots in one cut). By AI agents, Wed Nov 11 2026. No macro, syntax, notation, axiom, sorry.
-/
import Derived.Test.YthmmdgebkgdgbaaChecked
import GoSem.Claim
import GoSem.ClaimJoined
import GoSem.ClaimMapViews
import Derived.JoinedTies
import Derived.KernelRfl
namespace Go.Proofs.Ythmmdgebkgdgbaa
/- THE CELL 'sum', in the pinned program and in every row, IS THE sha256 OF THE DUMP (.gsa) THAT YthmmdgebkgdgbaaProg.lean LOADS. Nothing in Lean hashes anything: it is a label: what it is worth is what the hold of that sum in a sandbox is worth. -/
noncomputable def Try.pinned : Pinned := { name := "ythmmdgebkgdgbaa", sum := "6c17d815ab937e018881620c3fa58545f3547ab71a22f7a8be67b7a36dd79b4d", checked := Try.checked }
namespace Rows
def none {H : Type} : Left H := { results := [], args := [] }

/-- 'laws.FnExactIsLacing': WHATEVER THE INPUT: true; the input reads as it did. -/
def fnExactIsLacingSpec : ChangeSpec := { name := "fnExactIsLacing", fn := fun _ => fun
  | [d1, d2] => { results := [.lit (.bool true)], args := [d1, d2] }
  | _ => none }
def fnExactIsLacingRow : OpenClaim := { program := "ythmmdgebkgdgbaa", sum := "6c17d815ab937e018881620c3fa58545f3547ab71a22f7a8be67b7a36dd79b4d", func := "loop.example/g01050/laws.FnExactIsLacing", spec := "fnExactIsLacing", apart := false }
def FnExactIsLacingSaid : Prop := fnExactIsLacingRow.holds Try.pinned (OpenSpec.ofChange fnExactIsLacingSpec)

/-- ITS FALSE NEIGHBOUR: 'it returns false'. Refute it at one input. -/
def fnExactIsLacingWrong : ChangeSpec := { name := "fnExactIsLacing", fn := fun _ => fun
  | [d1, d2] => { results := [.lit (.bool false)], args := [d1, d2] }
  | _ => none }
def FnExactIsLacingWrongFalsely : Prop := fnExactIsLacingRow.holds Try.pinned (OpenSpec.ofChange fnExactIsLacingWrong)

/-- 'laws.FnExactUsualLacing': WHATEVER THE INPUT: true; the input reads as it did. -/
def fnExactUsualLacingSpec : ChangeSpec := { name := "fnExactUsualLacing", fn := fun _ => fun
  | [d1, d2] => { results := [.lit (.bool true)], args := [d1, d2] }
  | _ => none }
def fnExactUsualLacingRow : OpenClaim := { program := "ythmmdgebkgdgbaa", sum := "6c17d815ab937e018881620c3fa58545f3547ab71a22f7a8be67b7a36dd79b4d", func := "loop.example/g01050/laws.FnExactUsualLacing", spec := "fnExactUsualLacing", apart := false }
def FnExactUsualLacingSaid : Prop := fnExactUsualLacingRow.holds Try.pinned (OpenSpec.ofChange fnExactUsualLacingSpec)

/-- ITS FALSE NEIGHBOUR: 'it returns false'. Refute it at one input. -/
def fnExactUsualLacingWrong : ChangeSpec := { name := "fnExactUsualLacing", fn := fun _ => fun
  | [d1, d2] => { results := [.lit (.bool false)], args := [d1, d2] }
  | _ => none }
def FnExactUsualLacingWrongFalsely : Prop := fnExactUsualLacingRow.holds Try.pinned (OpenSpec.ofChange fnExactUsualLacingWrong)

/-- 'laws.FnExactMovesBetween': WHATEVER THE INPUT: true; the input reads as it did. -/
def fnExactMovesBetweenSpec : ChangeSpec := { name := "fnExactMovesBetween", fn := fun _ => fun
  | [d1, d2, d3] => { results := [.lit (.bool true)], args := [d1, d2, d3] }
  | _ => none }
def fnExactMovesBetweenRow : OpenClaim := { program := "ythmmdgebkgdgbaa", sum := "6c17d815ab937e018881620c3fa58545f3547ab71a22f7a8be67b7a36dd79b4d", func := "loop.example/g01050/laws.FnExactMovesBetween", spec := "fnExactMovesBetween", apart := false }
def FnExactMovesBetweenSaid : Prop := fnExactMovesBetweenRow.holds Try.pinned (OpenSpec.ofChange fnExactMovesBetweenSpec)

/-- ITS FALSE NEIGHBOUR: 'it returns false'. Refute it at one input. -/
def fnExactMovesBetweenWrong : ChangeSpec := { name := "fnExactMovesBetween", fn := fun _ => fun
  | [d1, d2, d3] => { results := [.lit (.bool false)], args := [d1, d2, d3] }
  | _ => none }
def FnExactMovesBetweenWrongFalsely : Prop := fnExactMovesBetweenRow.holds Try.pinned (OpenSpec.ofChange fnExactMovesBetweenWrong)

/-- 'laws.FnExactMirrorLacing': WHATEVER THE INPUT: true; the input reads as it did. -/
def fnExactMirrorLacingSpec : ChangeSpec := { name := "fnExactMirrorLacing", fn := fun _ => fun
  | [d1, d2] => { results := [.lit (.bool true)], args := [d1, d2] }
  | _ => none }
def fnExactMirrorLacingRow : OpenClaim := { program := "ythmmdgebkgdgbaa", sum := "6c17d815ab937e018881620c3fa58545f3547ab71a22f7a8be67b7a36dd79b4d", func := "loop.example/g01050/laws.FnExactMirrorLacing", spec := "fnExactMirrorLacing", apart := false }
def FnExactMirrorLacingSaid : Prop := fnExactMirrorLacingRow.holds Try.pinned (OpenSpec.ofChange fnExactMirrorLacingSpec)

/-- ITS FALSE NEIGHBOUR: 'it returns false'. Refute it at one input. -/
def fnExactMirrorLacingWrong : ChangeSpec := { name := "fnExactMirrorLacing", fn := fun _ => fun
  | [d1, d2] => { results := [.lit (.bool false)], args := [d1, d2] }
  | _ => none }
def FnExactMirrorLacingWrongFalsely : Prop := fnExactMirrorLacingRow.holds Try.pinned (OpenSpec.ofChange fnExactMirrorLacingWrong)

/-- 'laws.FnExactRotateLacing': WHATEVER THE INPUT: true; the input reads as it did. -/
def fnExactRotateLacingSpec : ChangeSpec := { name := "fnExactRotateLacing", fn := fun _ => fun
  | [d1, d2, d3] => { results := [.lit (.bool true)], args := [d1, d2, d3] }
  | _ => none }
def fnExactRotateLacingRow : OpenClaim := { program := "ythmmdgebkgdgbaa", sum := "6c17d815ab937e018881620c3fa58545f3547ab71a22f7a8be67b7a36dd79b4d", func := "loop.example/g01050/laws.FnExactRotateLacing", spec := "fnExactRotateLacing", apart := false }
def FnExactRotateLacingSaid : Prop := fnExactRotateLacingRow.holds Try.pinned (OpenSpec.ofChange fnExactRotateLacingSpec)

/-- ITS FALSE NEIGHBOUR: 'it returns false'. Refute it at one input. -/
def fnExactRotateLacingWrong : ChangeSpec := { name := "fnExactRotateLacing", fn := fun _ => fun
  | [d1, d2, d3] => { results := [.lit (.bool false)], args := [d1, d2, d3] }
  | _ => none }
def FnExactRotateLacingWrongFalsely : Prop := fnExactRotateLacingRow.holds Try.pinned (OpenSpec.ofChange fnExactRotateLacingWrong)

/-- 'laws.FnExactSwapSpokes': WHATEVER THE INPUT: true; the input reads as it did. -/
def fnExactSwapSpokesSpec : ChangeSpec := { name := "fnExactSwapSpokes", fn := fun _ => fun
  | [d1, d2, d3, d4] => { results := [.lit (.bool true)], args := [d1, d2, d3, d4] }
  | _ => none }
def fnExactSwapSpokesRow : OpenClaim := { program := "ythmmdgebkgdgbaa", sum := "6c17d815ab937e018881620c3fa58545f3547ab71a22f7a8be67b7a36dd79b4d", func := "loop.example/g01050/laws.FnExactSwapSpokes", spec := "fnExactSwapSpokes", apart := false }
def FnExactSwapSpokesSaid : Prop := fnExactSwapSpokesRow.holds Try.pinned (OpenSpec.ofChange fnExactSwapSpokesSpec)

/-- ITS FALSE NEIGHBOUR: 'it returns false'. Refute it at one input. -/
def fnExactSwapSpokesWrong : ChangeSpec := { name := "fnExactSwapSpokes", fn := fun _ => fun
  | [d1, d2, d3, d4] => { results := [.lit (.bool false)], args := [d1, d2, d3, d4] }
  | _ => none }
def FnExactSwapSpokesWrongFalsely : Prop := fnExactSwapSpokesRow.holds Try.pinned (OpenSpec.ofChange fnExactSwapSpokesWrong)

/-- 'laws.FnExactShiftsOf': WHATEVER THE INPUT: true; the input reads as it did. -/
def fnExactShiftsOfSpec : ChangeSpec := { name := "fnExactShiftsOf", fn := fun _ => fun
  | [d1, d2] => { results := [.lit (.bool true)], args := [d1, d2] }
  | _ => none }
def fnExactShiftsOfRow : OpenClaim := { program := "ythmmdgebkgdgbaa", sum := "6c17d815ab937e018881620c3fa58545f3547ab71a22f7a8be67b7a36dd79b4d", func := "loop.example/g01050/laws.FnExactShiftsOf", spec := "fnExactShiftsOf", apart := false }
def FnExactShiftsOfSaid : Prop := fnExactShiftsOfRow.holds Try.pinned (OpenSpec.ofChange fnExactShiftsOfSpec)

/-- ITS FALSE NEIGHBOUR: 'it returns false'. Refute it at one input. -/
def fnExactShiftsOfWrong : ChangeSpec := { name := "fnExactShiftsOf", fn := fun _ => fun
  | [d1, d2] => { results := [.lit (.bool false)], args := [d1, d2] }
  | _ => none }
def FnExactShiftsOfWrongFalsely : Prop := fnExactShiftsOfRow.holds Try.pinned (OpenSpec.ofChange fnExactShiftsOfWrong)

/-- 'laws.FnExactCrossingsOf': WHATEVER THE INPUT: true; the input reads as it did. -/
def fnExactCrossingsOfSpec : ChangeSpec := { name := "fnExactCrossingsOf", fn := fun _ => fun
  | [d1, d2, d3] => { results := [.lit (.bool true)], args := [d1, d2, d3] }
  | _ => none }
def fnExactCrossingsOfRow : OpenClaim := { program := "ythmmdgebkgdgbaa", sum := "6c17d815ab937e018881620c3fa58545f3547ab71a22f7a8be67b7a36dd79b4d", func := "loop.example/g01050/laws.FnExactCrossingsOf", spec := "fnExactCrossingsOf", apart := false }
def FnExactCrossingsOfSaid : Prop := fnExactCrossingsOfRow.holds Try.pinned (OpenSpec.ofChange fnExactCrossingsOfSpec)

/-- ITS FALSE NEIGHBOUR: 'it returns false'. Refute it at one input. -/
def fnExactCrossingsOfWrong : ChangeSpec := { name := "fnExactCrossingsOf", fn := fun _ => fun
  | [d1, d2, d3] => { results := [.lit (.bool false)], args := [d1, d2, d3] }
  | _ => none }
def FnExactCrossingsOfWrongFalsely : Prop := fnExactCrossingsOfRow.holds Try.pinned (OpenSpec.ofChange fnExactCrossingsOfWrong)

/-- 'laws.FnExactEvenCrossings': WHATEVER THE INPUT: true; the input reads as it did. -/
def fnExactEvenCrossingsSpec : ChangeSpec := { name := "fnExactEvenCrossings", fn := fun _ => fun
  | [d1, d2] => { results := [.lit (.bool true)], args := [d1, d2] }
  | _ => none }
def fnExactEvenCrossingsRow : OpenClaim := { program := "ythmmdgebkgdgbaa", sum := "6c17d815ab937e018881620c3fa58545f3547ab71a22f7a8be67b7a36dd79b4d", func := "loop.example/g01050/laws.FnExactEvenCrossings", spec := "fnExactEvenCrossings", apart := false }
def FnExactEvenCrossingsSaid : Prop := fnExactEvenCrossingsRow.holds Try.pinned (OpenSpec.ofChange fnExactEvenCrossingsSpec)

/-- ITS FALSE NEIGHBOUR: 'it returns false'. Refute it at one input. -/
def fnExactEvenCrossingsWrong : ChangeSpec := { name := "fnExactEvenCrossings", fn := fun _ => fun
  | [d1, d2] => { results := [.lit (.bool false)], args := [d1, d2] }
  | _ => none }
def FnExactEvenCrossingsWrongFalsely : Prop := fnExactEvenCrossingsRow.holds Try.pinned (OpenSpec.ofChange fnExactEvenCrossingsWrong)

/-- 'laws.FnRotations': WHATEVER THE INPUT: true; the input reads as it did. -/
def fnRotationsSpec : ChangeSpec := { name := "fnRotations", fn := fun _ => fun
  | [d] => { results := [.lit (.bool true)], args := [d] }
  | _ => none }
def fnRotationsRow : OpenClaim := { program := "ythmmdgebkgdgbaa", sum := "6c17d815ab937e018881620c3fa58545f3547ab71a22f7a8be67b7a36dd79b4d", func := "loop.example/g01050/laws.FnRotations", spec := "fnRotations", apart := false }
def FnRotationsSaid : Prop := fnRotationsRow.holds Try.pinned (OpenSpec.ofChange fnRotationsSpec)

/-- ITS FALSE NEIGHBOUR: 'it returns false'. Refute it at one input. -/
def fnRotationsWrong : ChangeSpec := { name := "fnRotations", fn := fun _ => fun
  | [d] => { results := [.lit (.bool false)], args := [d] }
  | _ => none }
def FnRotationsWrongFalsely : Prop := fnRotationsRow.holds Try.pinned (OpenSpec.ofChange fnRotationsWrong)

/-- 'laws.FnLacings': WHATEVER THE INPUT: true; the input reads as it did. -/
def fnLacingsSpec : ChangeSpec := { name := "fnLacings", fn := fun _ => fun
  | [d] => { results := [.lit (.bool true)], args := [d] }
  | _ => none }
def fnLacingsRow : OpenClaim := { program := "ythmmdgebkgdgbaa", sum := "6c17d815ab937e018881620c3fa58545f3547ab71a22f7a8be67b7a36dd79b4d", func := "loop.example/g01050/laws.FnLacings", spec := "fnLacings", apart := false }
def FnLacingsSaid : Prop := fnLacingsRow.holds Try.pinned (OpenSpec.ofChange fnLacingsSpec)

/-- ITS FALSE NEIGHBOUR: 'it returns false'. Refute it at one input. -/
def fnLacingsWrong : ChangeSpec := { name := "fnLacings", fn := fun _ => fun
  | [d] => { results := [.lit (.bool false)], args := [d] }
  | _ => none }
def FnLacingsWrongFalsely : Prop := fnLacingsRow.holds Try.pinned (OpenSpec.ofChange fnLacingsWrong)

/-- 'laws.FnCrossings': WHATEVER THE INPUT: true; the input reads as it did. -/
def fnCrossingsSpec : ChangeSpec := { name := "fnCrossings", fn := fun _ => fun
  | [d] => { results := [.lit (.bool true)], args := [d] }
  | _ => none }
def fnCrossingsRow : OpenClaim := { program := "ythmmdgebkgdgbaa", sum := "6c17d815ab937e018881620c3fa58545f3547ab71a22f7a8be67b7a36dd79b4d", func := "loop.example/g01050/laws.FnCrossings", spec := "fnCrossings", apart := false }
def FnCrossingsSaid : Prop := fnCrossingsRow.holds Try.pinned (OpenSpec.ofChange fnCrossingsSpec)

/-- ITS FALSE NEIGHBOUR: 'it returns false'. Refute it at one input. -/
def fnCrossingsWrong : ChangeSpec := { name := "fnCrossings", fn := fun _ => fun
  | [d] => { results := [.lit (.bool false)], args := [d] }
  | _ => none }
def FnCrossingsWrongFalsely : Prop := fnCrossingsRow.holds Try.pinned (OpenSpec.ofChange fnCrossingsWrong)

/- THE SECOND FORM. 'bulk': how many values and letters a reading holds, each counted each time it is reached (what is shared counts as often as it is met; a slice's spare places count too). A statement '..UptoSaid' is the law's where the arguments, and the package variables that the reading takes, are together of bulk at most 1048576: NARROWER than '..Said'. Prove '..Said' where nothing that the law and all that it calls make is longer than what came in: it says more and counts as full. Else prove '..UptoSaid'. A law counts once. -/
mutual
def uptoBulk {H : Type} : DataW H → Nat
  | .lit (.string bytes) => bytes.length + 1
  | .lit _ => 1
  | .nil => 1
  | .ptr d => uptoBulk d + 1
  | .slice elems spare => uptoBulkAll elems + uptoBulkAll spare + 1
  | .agg parts => uptoBulkAll parts + 1
  | .iface _ d => uptoBulk d + 1
  | .map entries => uptoBulkEntries entries + 1
  | .held _ => 1
def uptoBulkAll {H : Type} : List (DataW H) → Nat
  | [] => 0
  | d :: r => uptoBulk d + uptoBulkAll r
def uptoBulkEntries {H : Type} : List (Lit × DataW H) → Nat
  | [] => 0
  | x :: r => uptoBulkEntry x + uptoBulkEntries r
def uptoBulkEntry {H : Type} : Lit × DataW H → Nat
  | (.string bytes, d) => bytes.length + uptoBulk d + 1
  | (_, d) => uptoBulk d + 1
 end
def uptoSmall : (H : Type) → List (DataW H) → Bool := fun _ ds => decide (uptoBulkAll ds ≤ 1048576)
def OpenSpec.upto (s : _root_.Go.ChangeSpec) : _root_.Go.OpenSpec := { _root_.Go.OpenSpec.ofChange s with cond := some uptoSmall }

/-- 'laws.FnExactIsLacing', WHERE WHAT IT READS IS OF BULK AT MOST 1048576: true; the input reads as it did. -/
def fnExactIsLacingUptoRow : OpenClaim := { program := "ythmmdgebkgdgbaa", sum := "6c17d815ab937e018881620c3fa58545f3547ab71a22f7a8be67b7a36dd79b4d", func := "loop.example/g01050/laws.FnExactIsLacing", spec := "fnExactIsLacing", apart := false, narrowed := true }
def FnExactIsLacingUptoSaid : Prop := fnExactIsLacingUptoRow.holds Try.pinned (OpenSpec.upto fnExactIsLacingSpec)

/-- 'laws.FnExactUsualLacing', WHERE WHAT IT READS IS OF BULK AT MOST 1048576: true; the input reads as it did. -/
def fnExactUsualLacingUptoRow : OpenClaim := { program := "ythmmdgebkgdgbaa", sum := "6c17d815ab937e018881620c3fa58545f3547ab71a22f7a8be67b7a36dd79b4d", func := "loop.example/g01050/laws.FnExactUsualLacing", spec := "fnExactUsualLacing", apart := false, narrowed := true }
def FnExactUsualLacingUptoSaid : Prop := fnExactUsualLacingUptoRow.holds Try.pinned (OpenSpec.upto fnExactUsualLacingSpec)

/-- 'laws.FnExactMovesBetween', WHERE WHAT IT READS IS OF BULK AT MOST 1048576: true; the input reads as it did. -/
def fnExactMovesBetweenUptoRow : OpenClaim := { program := "ythmmdgebkgdgbaa", sum := "6c17d815ab937e018881620c3fa58545f3547ab71a22f7a8be67b7a36dd79b4d", func := "loop.example/g01050/laws.FnExactMovesBetween", spec := "fnExactMovesBetween", apart := false, narrowed := true }
def FnExactMovesBetweenUptoSaid : Prop := fnExactMovesBetweenUptoRow.holds Try.pinned (OpenSpec.upto fnExactMovesBetweenSpec)

/-- 'laws.FnExactMirrorLacing', WHERE WHAT IT READS IS OF BULK AT MOST 1048576: true; the input reads as it did. -/
def fnExactMirrorLacingUptoRow : OpenClaim := { program := "ythmmdgebkgdgbaa", sum := "6c17d815ab937e018881620c3fa58545f3547ab71a22f7a8be67b7a36dd79b4d", func := "loop.example/g01050/laws.FnExactMirrorLacing", spec := "fnExactMirrorLacing", apart := false, narrowed := true }
def FnExactMirrorLacingUptoSaid : Prop := fnExactMirrorLacingUptoRow.holds Try.pinned (OpenSpec.upto fnExactMirrorLacingSpec)

/-- 'laws.FnExactRotateLacing', WHERE WHAT IT READS IS OF BULK AT MOST 1048576: true; the input reads as it did. -/
def fnExactRotateLacingUptoRow : OpenClaim := { program := "ythmmdgebkgdgbaa", sum := "6c17d815ab937e018881620c3fa58545f3547ab71a22f7a8be67b7a36dd79b4d", func := "loop.example/g01050/laws.FnExactRotateLacing", spec := "fnExactRotateLacing", apart := false, narrowed := true }
def FnExactRotateLacingUptoSaid : Prop := fnExactRotateLacingUptoRow.holds Try.pinned (OpenSpec.upto fnExactRotateLacingSpec)

/-- 'laws.FnExactSwapSpokes', WHERE WHAT IT READS IS OF BULK AT MOST 1048576: true; the input reads as it did. -/
def fnExactSwapSpokesUptoRow : OpenClaim := { program := "ythmmdgebkgdgbaa", sum := "6c17d815ab937e018881620c3fa58545f3547ab71a22f7a8be67b7a36dd79b4d", func := "loop.example/g01050/laws.FnExactSwapSpokes", spec := "fnExactSwapSpokes", apart := false, narrowed := true }
def FnExactSwapSpokesUptoSaid : Prop := fnExactSwapSpokesUptoRow.holds Try.pinned (OpenSpec.upto fnExactSwapSpokesSpec)

/-- 'laws.FnExactShiftsOf', WHERE WHAT IT READS IS OF BULK AT MOST 1048576: true; the input reads as it did. -/
def fnExactShiftsOfUptoRow : OpenClaim := { program := "ythmmdgebkgdgbaa", sum := "6c17d815ab937e018881620c3fa58545f3547ab71a22f7a8be67b7a36dd79b4d", func := "loop.example/g01050/laws.FnExactShiftsOf", spec := "fnExactShiftsOf", apart := false, narrowed := true }
def FnExactShiftsOfUptoSaid : Prop := fnExactShiftsOfUptoRow.holds Try.pinned (OpenSpec.upto fnExactShiftsOfSpec)

/-- 'laws.FnExactCrossingsOf', WHERE WHAT IT READS IS OF BULK AT MOST 1048576: true; the input reads as it did. -/
def fnExactCrossingsOfUptoRow : OpenClaim := { program := "ythmmdgebkgdgbaa", sum := "6c17d815ab937e018881620c3fa58545f3547ab71a22f7a8be67b7a36dd79b4d", func := "loop.example/g01050/laws.FnExactCrossingsOf", spec := "fnExactCrossingsOf", apart := false, narrowed := true }
def FnExactCrossingsOfUptoSaid : Prop := fnExactCrossingsOfUptoRow.holds Try.pinned (OpenSpec.upto fnExactCrossingsOfSpec)

/-- 'laws.FnExactEvenCrossings', WHERE WHAT IT READS IS OF BULK AT MOST 1048576: true; the input reads as it did. -/
def fnExactEvenCrossingsUptoRow : OpenClaim := { program := "ythmmdgebkgdgbaa", sum := "6c17d815ab937e018881620c3fa58545f3547ab71a22f7a8be67b7a36dd79b4d", func := "loop.example/g01050/laws.FnExactEvenCrossings", spec := "fnExactEvenCrossings", apart := false, narrowed := true }
def FnExactEvenCrossingsUptoSaid : Prop := fnExactEvenCrossingsUptoRow.holds Try.pinned (OpenSpec.upto fnExactEvenCrossingsSpec)

/-- 'laws.FnRotations', WHERE WHAT IT READS IS OF BULK AT MOST 1048576: true; the input reads as it did. -/
def fnRotationsUptoRow : OpenClaim := { program := "ythmmdgebkgdgbaa", sum := "6c17d815ab937e018881620c3fa58545f3547ab71a22f7a8be67b7a36dd79b4d", func := "loop.example/g01050/laws.FnRotations", spec := "fnRotations", apart := false, narrowed := true }
def FnRotationsUptoSaid : Prop := fnRotationsUptoRow.holds Try.pinned (OpenSpec.upto fnRotationsSpec)

/-- 'laws.FnLacings', WHERE WHAT IT READS IS OF BULK AT MOST 1048576: true; the input reads as it did. -/
def fnLacingsUptoRow : OpenClaim := { program := "ythmmdgebkgdgbaa", sum := "6c17d815ab937e018881620c3fa58545f3547ab71a22f7a8be67b7a36dd79b4d", func := "loop.example/g01050/laws.FnLacings", spec := "fnLacings", apart := false, narrowed := true }
def FnLacingsUptoSaid : Prop := fnLacingsUptoRow.holds Try.pinned (OpenSpec.upto fnLacingsSpec)

/-- 'laws.FnCrossings', WHERE WHAT IT READS IS OF BULK AT MOST 1048576: true; the input reads as it did. -/
def fnCrossingsUptoRow : OpenClaim := { program := "ythmmdgebkgdgbaa", sum := "6c17d815ab937e018881620c3fa58545f3547ab71a22f7a8be67b7a36dd79b4d", func := "loop.example/g01050/laws.FnCrossings", spec := "fnCrossings", apart := false, narrowed := true }
def FnCrossingsUptoSaid : Prop := fnCrossingsUptoRow.holds Try.pinned (OpenSpec.upto fnCrossingsSpec)

end Rows
end Go.Proofs.Ythmmdgebkgdgbaa
