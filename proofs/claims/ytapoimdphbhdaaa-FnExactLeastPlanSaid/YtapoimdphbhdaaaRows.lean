/-
  No cell of these rows narrows 'for every input' (looked for: loops, veiled, ifaces, maps, wideKeys, modest, calm, conditions, laid).
  DERIVED. THE GIVEN ROWS OF THIS SEAT. 12 by the template 'for every input the law returns true; each argument reads behind the call as it read before'; 0 by the template 'total and deterministic' (their statements: YtapoimdphbhdaaaTotals.lean).
  GIVEN WITH THE SEED: the statements are not yours to turn. If you find one false, say at which input.
  Laid BY PROGRAM, IN A SANDBOX (cutbox-rows.mjs): the forced cells as the released guide's own fill.sh prints them over the translation 706d2e327933c27d… (all of the seat's roots in one cut). By AI agents, Wed Nov 11 2026. No macro, syntax, notation, axiom, sorry.
-/
import Derived.Test.YtapoimdphbhdaaaChecked
import GoSem.Claim
import GoSem.ClaimJoined
import GoSem.ClaimMapViews
import Derived.JoinedTies
import Derived.KernelRfl
namespace Go.Proofs.Ytapoimdphbhdaaa
/- THE CELL 'sum', in the pinned program and in every row, IS THE sha256 OF THE DUMP (.gsa) THAT YtapoimdphbhdaaaProg.lean LOADS. Nothing in Lean hashes anything: it is a label: what it is worth is what the hold of that sum in a sandbox is worth. -/
noncomputable def Try.pinned : Pinned := { name := "ytapoimdphbhdaaa", sum := "706d2e327933c27dc59022f6582fa8f12fd0da0c0d46c7d4d75521b3150596b8", checked := Try.checked }
namespace Rows
def none {H : Type} : Left H := { results := [], args := [] }

/-- 'laws.FnExactAreDeviations': WHATEVER THE INPUT: true; the input reads as it did. -/
def fnExactAreDeviationsSpec : ChangeSpec := { name := "fnExactAreDeviations", fn := fun _ => fun
  | [d] => { results := [.lit (.bool true)], args := [d] }
  | _ => none }
def fnExactAreDeviationsRow : OpenClaim := { program := "ytapoimdphbhdaaa", sum := "706d2e327933c27dc59022f6582fa8f12fd0da0c0d46c7d4d75521b3150596b8", func := "loop.example/g01050/laws.FnExactAreDeviations", spec := "fnExactAreDeviations", apart := false }
def FnExactAreDeviationsSaid : Prop := fnExactAreDeviationsRow.holds Try.pinned (OpenSpec.ofChange fnExactAreDeviationsSpec)

/-- ITS FALSE NEIGHBOUR: 'it returns false'. Refute it at one input. -/
def fnExactAreDeviationsWrong : ChangeSpec := { name := "fnExactAreDeviations", fn := fun _ => fun
  | [d] => { results := [.lit (.bool false)], args := [d] }
  | _ => none }
def FnExactAreDeviationsWrongFalsely : Prop := fnExactAreDeviationsRow.holds Try.pinned (OpenSpec.ofChange fnExactAreDeviationsWrong)

/-- 'laws.FnExactIsEffect': WHATEVER THE INPUT: true; the input reads as it did. -/
def fnExactIsEffectSpec : ChangeSpec := { name := "fnExactIsEffect", fn := fun _ => fun
  | [d] => { results := [.lit (.bool true)], args := [d] }
  | _ => none }
def fnExactIsEffectRow : OpenClaim := { program := "ytapoimdphbhdaaa", sum := "706d2e327933c27dc59022f6582fa8f12fd0da0c0d46c7d4d75521b3150596b8", func := "loop.example/g01050/laws.FnExactIsEffect", spec := "fnExactIsEffect", apart := false }
def FnExactIsEffectSaid : Prop := fnExactIsEffectRow.holds Try.pinned (OpenSpec.ofChange fnExactIsEffectSpec)

/-- ITS FALSE NEIGHBOUR: 'it returns false'. Refute it at one input. -/
def fnExactIsEffectWrong : ChangeSpec := { name := "fnExactIsEffect", fn := fun _ => fun
  | [d] => { results := [.lit (.bool false)], args := [d] }
  | _ => none }
def FnExactIsEffectWrongFalsely : Prop := fnExactIsEffectRow.holds Try.pinned (OpenSpec.ofChange fnExactIsEffectWrong)

/-- 'laws.FnExactWorstPlace': WHATEVER THE INPUT: true; the input reads as it did. -/
def fnExactWorstPlaceSpec : ChangeSpec := { name := "fnExactWorstPlace", fn := fun _ => fun
  | [d] => { results := [.lit (.bool true)], args := [d] }
  | _ => none }
def fnExactWorstPlaceRow : OpenClaim := { program := "ytapoimdphbhdaaa", sum := "706d2e327933c27dc59022f6582fa8f12fd0da0c0d46c7d4d75521b3150596b8", func := "loop.example/g01050/laws.FnExactWorstPlace", spec := "fnExactWorstPlace", apart := false }
def FnExactWorstPlaceSaid : Prop := fnExactWorstPlaceRow.holds Try.pinned (OpenSpec.ofChange fnExactWorstPlaceSpec)

/-- ITS FALSE NEIGHBOUR: 'it returns false'. Refute it at one input. -/
def fnExactWorstPlaceWrong : ChangeSpec := { name := "fnExactWorstPlace", fn := fun _ => fun
  | [d] => { results := [.lit (.bool false)], args := [d] }
  | _ => none }
def FnExactWorstPlaceWrongFalsely : Prop := fnExactWorstPlaceRow.holds Try.pinned (OpenSpec.ofChange fnExactWorstPlaceWrong)

/-- 'laws.FnExactUndoPlan': WHATEVER THE INPUT: true; the input reads as it did. -/
def fnExactUndoPlanSpec : ChangeSpec := { name := "fnExactUndoPlan", fn := fun _ => fun
  | [d] => { results := [.lit (.bool true)], args := [d] }
  | _ => none }
def fnExactUndoPlanRow : OpenClaim := { program := "ytapoimdphbhdaaa", sum := "706d2e327933c27dc59022f6582fa8f12fd0da0c0d46c7d4d75521b3150596b8", func := "loop.example/g01050/laws.FnExactUndoPlan", spec := "fnExactUndoPlan", apart := false }
def FnExactUndoPlanSaid : Prop := fnExactUndoPlanRow.holds Try.pinned (OpenSpec.ofChange fnExactUndoPlanSpec)

/-- ITS FALSE NEIGHBOUR: 'it returns false'. Refute it at one input. -/
def fnExactUndoPlanWrong : ChangeSpec := { name := "fnExactUndoPlan", fn := fun _ => fun
  | [d] => { results := [.lit (.bool false)], args := [d] }
  | _ => none }
def FnExactUndoPlanWrongFalsely : Prop := fnExactUndoPlanRow.holds Try.pinned (OpenSpec.ofChange fnExactUndoPlanWrong)

/-- 'laws.FnExactIsTrue': WHATEVER THE INPUT: true; the input reads as it did. -/
def fnExactIsTrueSpec : ChangeSpec := { name := "fnExactIsTrue", fn := fun _ => fun
  | [d1, d2] => { results := [.lit (.bool true)], args := [d1, d2] }
  | _ => none }
def fnExactIsTrueRow : OpenClaim := { program := "ytapoimdphbhdaaa", sum := "706d2e327933c27dc59022f6582fa8f12fd0da0c0d46c7d4d75521b3150596b8", func := "loop.example/g01050/laws.FnExactIsTrue", spec := "fnExactIsTrue", apart := false }
def FnExactIsTrueSaid : Prop := fnExactIsTrueRow.holds Try.pinned (OpenSpec.ofChange fnExactIsTrueSpec)

/-- ITS FALSE NEIGHBOUR: 'it returns false'. Refute it at one input. -/
def fnExactIsTrueWrong : ChangeSpec := { name := "fnExactIsTrue", fn := fun _ => fun
  | [d1, d2] => { results := [.lit (.bool false)], args := [d1, d2] }
  | _ => none }
def FnExactIsTrueWrongFalsely : Prop := fnExactIsTrueRow.holds Try.pinned (OpenSpec.ofChange fnExactIsTrueWrong)

/-- 'laws.FnExactDishAfter': WHATEVER THE INPUT: true; the input reads as it did. -/
def fnExactDishAfterSpec : ChangeSpec := { name := "fnExactDishAfter", fn := fun _ => fun
  | [d] => { results := [.lit (.bool true)], args := [d] }
  | _ => none }
def fnExactDishAfterRow : OpenClaim := { program := "ytapoimdphbhdaaa", sum := "706d2e327933c27dc59022f6582fa8f12fd0da0c0d46c7d4d75521b3150596b8", func := "loop.example/g01050/laws.FnExactDishAfter", spec := "fnExactDishAfter", apart := false }
def FnExactDishAfterSaid : Prop := fnExactDishAfterRow.holds Try.pinned (OpenSpec.ofChange fnExactDishAfterSpec)

/-- ITS FALSE NEIGHBOUR: 'it returns false'. Refute it at one input. -/
def fnExactDishAfterWrong : ChangeSpec := { name := "fnExactDishAfter", fn := fun _ => fun
  | [d] => { results := [.lit (.bool false)], args := [d] }
  | _ => none }
def FnExactDishAfterWrongFalsely : Prop := fnExactDishAfterRow.holds Try.pinned (OpenSpec.ofChange fnExactDishAfterWrong)

/-- 'laws.FnExactAfterPlan': WHATEVER THE INPUT: true; the input reads as it did. -/
def fnExactAfterPlanSpec : ChangeSpec := { name := "fnExactAfterPlan", fn := fun _ => fun
  | [d1, d2, d3] => { results := [.lit (.bool true)], args := [d1, d2, d3] }
  | _ => none }
def fnExactAfterPlanRow : OpenClaim := { program := "ytapoimdphbhdaaa", sum := "706d2e327933c27dc59022f6582fa8f12fd0da0c0d46c7d4d75521b3150596b8", func := "loop.example/g01050/laws.FnExactAfterPlan", spec := "fnExactAfterPlan", apart := false }
def FnExactAfterPlanSaid : Prop := fnExactAfterPlanRow.holds Try.pinned (OpenSpec.ofChange fnExactAfterPlanSpec)

/-- ITS FALSE NEIGHBOUR: 'it returns false'. Refute it at one input. -/
def fnExactAfterPlanWrong : ChangeSpec := { name := "fnExactAfterPlan", fn := fun _ => fun
  | [d1, d2, d3] => { results := [.lit (.bool false)], args := [d1, d2, d3] }
  | _ => none }
def FnExactAfterPlanWrongFalsely : Prop := fnExactAfterPlanRow.holds Try.pinned (OpenSpec.ofChange fnExactAfterPlanWrong)

/-- 'laws.FnExactBestTurn': WHATEVER THE INPUT: true; the input reads as it did. -/
def fnExactBestTurnSpec : ChangeSpec := { name := "fnExactBestTurn", fn := fun _ => fun
  | [d1, d2] => { results := [.lit (.bool true)], args := [d1, d2] }
  | _ => none }
def fnExactBestTurnRow : OpenClaim := { program := "ytapoimdphbhdaaa", sum := "706d2e327933c27dc59022f6582fa8f12fd0da0c0d46c7d4d75521b3150596b8", func := "loop.example/g01050/laws.FnExactBestTurn", spec := "fnExactBestTurn", apart := false }
def FnExactBestTurnSaid : Prop := fnExactBestTurnRow.holds Try.pinned (OpenSpec.ofChange fnExactBestTurnSpec)

/-- ITS FALSE NEIGHBOUR: 'it returns false'. Refute it at one input. -/
def fnExactBestTurnWrong : ChangeSpec := { name := "fnExactBestTurn", fn := fun _ => fun
  | [d1, d2] => { results := [.lit (.bool false)], args := [d1, d2] }
  | _ => none }
def FnExactBestTurnWrongFalsely : Prop := fnExactBestTurnRow.holds Try.pinned (OpenSpec.ofChange fnExactBestTurnWrong)

/-- 'laws.FnExactLeastPlan': WHATEVER THE INPUT: true; the input reads as it did. -/
def fnExactLeastPlanSpec : ChangeSpec := { name := "fnExactLeastPlan", fn := fun _ => fun
  | [d1, d2, d3] => { results := [.lit (.bool true)], args := [d1, d2, d3] }
  | _ => none }
def fnExactLeastPlanRow : OpenClaim := { program := "ytapoimdphbhdaaa", sum := "706d2e327933c27dc59022f6582fa8f12fd0da0c0d46c7d4d75521b3150596b8", func := "loop.example/g01050/laws.FnExactLeastPlan", spec := "fnExactLeastPlan", recurses := true, apart := false }
def FnExactLeastPlanSaid : Prop := fnExactLeastPlanRow.holds Try.pinned (OpenSpec.ofChange fnExactLeastPlanSpec)

/-- ITS FALSE NEIGHBOUR: 'it returns false'. Refute it at one input. -/
def fnExactLeastPlanWrong : ChangeSpec := { name := "fnExactLeastPlan", fn := fun _ => fun
  | [d1, d2, d3] => { results := [.lit (.bool false)], args := [d1, d2, d3] }
  | _ => none }
def FnExactLeastPlanWrongFalsely : Prop := fnExactLeastPlanRow.holds Try.pinned (OpenSpec.ofChange fnExactLeastPlanWrong)

/-- 'laws.FnExactTrueByTurns': WHATEVER THE INPUT: true; the input reads as it did. -/
def fnExactTrueByTurnsSpec : ChangeSpec := { name := "fnExactTrueByTurns", fn := fun _ => fun
  | [d1, d2, d3] => { results := [.lit (.bool true)], args := [d1, d2, d3] }
  | _ => none }
def fnExactTrueByTurnsRow : OpenClaim := { program := "ytapoimdphbhdaaa", sum := "706d2e327933c27dc59022f6582fa8f12fd0da0c0d46c7d4d75521b3150596b8", func := "loop.example/g01050/laws.FnExactTrueByTurns", spec := "fnExactTrueByTurns", apart := false }
def FnExactTrueByTurnsSaid : Prop := fnExactTrueByTurnsRow.holds Try.pinned (OpenSpec.ofChange fnExactTrueByTurnsSpec)

/-- ITS FALSE NEIGHBOUR: 'it returns false'. Refute it at one input. -/
def fnExactTrueByTurnsWrong : ChangeSpec := { name := "fnExactTrueByTurns", fn := fun _ => fun
  | [d1, d2, d3] => { results := [.lit (.bool false)], args := [d1, d2, d3] }
  | _ => none }
def FnExactTrueByTurnsWrongFalsely : Prop := fnExactTrueByTurnsRow.holds Try.pinned (OpenSpec.ofChange fnExactTrueByTurnsWrong)

/-- 'laws.FnPlans': WHATEVER THE INPUT: true; the input reads as it did. -/
def fnPlansSpec : ChangeSpec := { name := "fnPlans", fn := fun _ => fun
  | [d] => { results := [.lit (.bool true)], args := [d] }
  | _ => none }
def fnPlansRow : OpenClaim := { program := "ytapoimdphbhdaaa", sum := "706d2e327933c27dc59022f6582fa8f12fd0da0c0d46c7d4d75521b3150596b8", func := "loop.example/g01050/laws.FnPlans", spec := "fnPlans", recurses := true, apart := false }
def FnPlansSaid : Prop := fnPlansRow.holds Try.pinned (OpenSpec.ofChange fnPlansSpec)

/-- ITS FALSE NEIGHBOUR: 'it returns false'. Refute it at one input. -/
def fnPlansWrong : ChangeSpec := { name := "fnPlans", fn := fun _ => fun
  | [d] => { results := [.lit (.bool false)], args := [d] }
  | _ => none }
def FnPlansWrongFalsely : Prop := fnPlansRow.holds Try.pinned (OpenSpec.ofChange fnPlansWrong)

/-- 'laws.FnBestTurns': WHATEVER THE INPUT: true; the input reads as it did. -/
def fnBestTurnsSpec : ChangeSpec := { name := "fnBestTurns", fn := fun _ => fun
  | [d] => { results := [.lit (.bool true)], args := [d] }
  | _ => none }
def fnBestTurnsRow : OpenClaim := { program := "ytapoimdphbhdaaa", sum := "706d2e327933c27dc59022f6582fa8f12fd0da0c0d46c7d4d75521b3150596b8", func := "loop.example/g01050/laws.FnBestTurns", spec := "fnBestTurns", apart := false }
def FnBestTurnsSaid : Prop := fnBestTurnsRow.holds Try.pinned (OpenSpec.ofChange fnBestTurnsSpec)

/-- ITS FALSE NEIGHBOUR: 'it returns false'. Refute it at one input. -/
def fnBestTurnsWrong : ChangeSpec := { name := "fnBestTurns", fn := fun _ => fun
  | [d] => { results := [.lit (.bool false)], args := [d] }
  | _ => none }
def FnBestTurnsWrongFalsely : Prop := fnBestTurnsRow.holds Try.pinned (OpenSpec.ofChange fnBestTurnsWrong)

/- THE SECOND FORM. 'bulk': how many values and letters a reading holds, each counted each time it is reached (what is shared counts as often as it is met; a slice's spare places count too). A statement '..UptoSaid' is the law's where the arguments, and the package variables that the reading takes, are together of bulk at most 1048576: NARROWER than '..Said'. Prove '..Said' where nothing that the law and all that it calls make is longer than what came in: it says more and counts as full. Else prove '..UptoSaid'. A law counts once. -/
mutual
def uptoBulk {H : Type} : DataW H → Nat
  | .lit (.string bytes) => bytes.length + 1
  | .lit _ => 1
  | .nil => 1
  | .ptr d => uptoBulk d + 1
  | .slice elems spare => uptoBulkAll elems + uptoBulkAll spare + 1
  | .agg parts => uptoBulkAll parts + 1
  | .iface _ d => uptoBulk d + 1
  | .map entries => uptoBulkEntries entries + 1
  | .held _ => 1
def uptoBulkAll {H : Type} : List (DataW H) → Nat
  | [] => 0
  | d :: r => uptoBulk d + uptoBulkAll r
def uptoBulkEntries {H : Type} : List (Lit × DataW H) → Nat
  | [] => 0
  | x :: r => uptoBulkEntry x + uptoBulkEntries r
def uptoBulkEntry {H : Type} : Lit × DataW H → Nat
  | (.string bytes, d) => bytes.length + uptoBulk d + 1
  | (_, d) => uptoBulk d + 1
 end
def uptoSmall : (H : Type) → List (DataW H) → Bool := fun _ ds => decide (uptoBulkAll ds ≤ 1048576)
def OpenSpec.upto (s : _root_.Go.ChangeSpec) : _root_.Go.OpenSpec := { _root_.Go.OpenSpec.ofChange s with cond := some uptoSmall }

/-- 'laws.FnExactAreDeviations', WHERE WHAT IT READS IS OF BULK AT MOST 1048576: true; the input reads as it did. -/
def fnExactAreDeviationsUptoRow : OpenClaim := { program := "ytapoimdphbhdaaa", sum := "706d2e327933c27dc59022f6582fa8f12fd0da0c0d46c7d4d75521b3150596b8", func := "loop.example/g01050/laws.FnExactAreDeviations", spec := "fnExactAreDeviations", apart := false, narrowed := true }
def FnExactAreDeviationsUptoSaid : Prop := fnExactAreDeviationsUptoRow.holds Try.pinned (OpenSpec.upto fnExactAreDeviationsSpec)

/-- 'laws.FnExactIsEffect', WHERE WHAT IT READS IS OF BULK AT MOST 1048576: true; the input reads as it did. -/
def fnExactIsEffectUptoRow : OpenClaim := { program := "ytapoimdphbhdaaa", sum := "706d2e327933c27dc59022f6582fa8f12fd0da0c0d46c7d4d75521b3150596b8", func := "loop.example/g01050/laws.FnExactIsEffect", spec := "fnExactIsEffect", apart := false, narrowed := true }
def FnExactIsEffectUptoSaid : Prop := fnExactIsEffectUptoRow.holds Try.pinned (OpenSpec.upto fnExactIsEffectSpec)

/-- 'laws.FnExactWorstPlace', WHERE WHAT IT READS IS OF BULK AT MOST 1048576: true; the input reads as it did. -/
def fnExactWorstPlaceUptoRow : OpenClaim := { program := "ytapoimdphbhdaaa", sum := "706d2e327933c27dc59022f6582fa8f12fd0da0c0d46c7d4d75521b3150596b8", func := "loop.example/g01050/laws.FnExactWorstPlace", spec := "fnExactWorstPlace", apart := false, narrowed := true }
def FnExactWorstPlaceUptoSaid : Prop := fnExactWorstPlaceUptoRow.holds Try.pinned (OpenSpec.upto fnExactWorstPlaceSpec)

/-- 'laws.FnExactUndoPlan', WHERE WHAT IT READS IS OF BULK AT MOST 1048576: true; the input reads as it did. -/
def fnExactUndoPlanUptoRow : OpenClaim := { program := "ytapoimdphbhdaaa", sum := "706d2e327933c27dc59022f6582fa8f12fd0da0c0d46c7d4d75521b3150596b8", func := "loop.example/g01050/laws.FnExactUndoPlan", spec := "fnExactUndoPlan", apart := false, narrowed := true }
def FnExactUndoPlanUptoSaid : Prop := fnExactUndoPlanUptoRow.holds Try.pinned (OpenSpec.upto fnExactUndoPlanSpec)

/-- 'laws.FnExactIsTrue', WHERE WHAT IT READS IS OF BULK AT MOST 1048576: true; the input reads as it did. -/
def fnExactIsTrueUptoRow : OpenClaim := { program := "ytapoimdphbhdaaa", sum := "706d2e327933c27dc59022f6582fa8f12fd0da0c0d46c7d4d75521b3150596b8", func := "loop.example/g01050/laws.FnExactIsTrue", spec := "fnExactIsTrue", apart := false, narrowed := true }
def FnExactIsTrueUptoSaid : Prop := fnExactIsTrueUptoRow.holds Try.pinned (OpenSpec.upto fnExactIsTrueSpec)

/-- 'laws.FnExactDishAfter', WHERE WHAT IT READS IS OF BULK AT MOST 1048576: true; the input reads as it did. -/
def fnExactDishAfterUptoRow : OpenClaim := { program := "ytapoimdphbhdaaa", sum := "706d2e327933c27dc59022f6582fa8f12fd0da0c0d46c7d4d75521b3150596b8", func := "loop.example/g01050/laws.FnExactDishAfter", spec := "fnExactDishAfter", apart := false, narrowed := true }
def FnExactDishAfterUptoSaid : Prop := fnExactDishAfterUptoRow.holds Try.pinned (OpenSpec.upto fnExactDishAfterSpec)

/-- 'laws.FnExactAfterPlan', WHERE WHAT IT READS IS OF BULK AT MOST 1048576: true; the input reads as it did. -/
def fnExactAfterPlanUptoRow : OpenClaim := { program := "ytapoimdphbhdaaa", sum := "706d2e327933c27dc59022f6582fa8f12fd0da0c0d46c7d4d75521b3150596b8", func := "loop.example/g01050/laws.FnExactAfterPlan", spec := "fnExactAfterPlan", apart := false, narrowed := true }
def FnExactAfterPlanUptoSaid : Prop := fnExactAfterPlanUptoRow.holds Try.pinned (OpenSpec.upto fnExactAfterPlanSpec)

/-- 'laws.FnExactBestTurn', WHERE WHAT IT READS IS OF BULK AT MOST 1048576: true; the input reads as it did. -/
def fnExactBestTurnUptoRow : OpenClaim := { program := "ytapoimdphbhdaaa", sum := "706d2e327933c27dc59022f6582fa8f12fd0da0c0d46c7d4d75521b3150596b8", func := "loop.example/g01050/laws.FnExactBestTurn", spec := "fnExactBestTurn", apart := false, narrowed := true }
def FnExactBestTurnUptoSaid : Prop := fnExactBestTurnUptoRow.holds Try.pinned (OpenSpec.upto fnExactBestTurnSpec)

/-- 'laws.FnExactLeastPlan', WHERE WHAT IT READS IS OF BULK AT MOST 1048576: true; the input reads as it did. -/
def fnExactLeastPlanUptoRow : OpenClaim := { program := "ytapoimdphbhdaaa", sum := "706d2e327933c27dc59022f6582fa8f12fd0da0c0d46c7d4d75521b3150596b8", func := "loop.example/g01050/laws.FnExactLeastPlan", spec := "fnExactLeastPlan", recurses := true, apart := false, narrowed := true }
def FnExactLeastPlanUptoSaid : Prop := fnExactLeastPlanUptoRow.holds Try.pinned (OpenSpec.upto fnExactLeastPlanSpec)

/-- 'laws.FnExactTrueByTurns', WHERE WHAT IT READS IS OF BULK AT MOST 1048576: true; the input reads as it did. -/
def fnExactTrueByTurnsUptoRow : OpenClaim := { program := "ytapoimdphbhdaaa", sum := "706d2e327933c27dc59022f6582fa8f12fd0da0c0d46c7d4d75521b3150596b8", func := "loop.example/g01050/laws.FnExactTrueByTurns", spec := "fnExactTrueByTurns", apart := false, narrowed := true }
def FnExactTrueByTurnsUptoSaid : Prop := fnExactTrueByTurnsUptoRow.holds Try.pinned (OpenSpec.upto fnExactTrueByTurnsSpec)

/-- 'laws.FnPlans', WHERE WHAT IT READS IS OF BULK AT MOST 1048576: true; the input reads as it did. -/
def fnPlansUptoRow : OpenClaim := { program := "ytapoimdphbhdaaa", sum := "706d2e327933c27dc59022f6582fa8f12fd0da0c0d46c7d4d75521b3150596b8", func := "loop.example/g01050/laws.FnPlans", spec := "fnPlans", recurses := true, apart := false, narrowed := true }
def FnPlansUptoSaid : Prop := fnPlansUptoRow.holds Try.pinned (OpenSpec.upto fnPlansSpec)

/-- 'laws.FnBestTurns', WHERE WHAT IT READS IS OF BULK AT MOST 1048576: true; the input reads as it did. -/
def fnBestTurnsUptoRow : OpenClaim := { program := "ytapoimdphbhdaaa", sum := "706d2e327933c27dc59022f6582fa8f12fd0da0c0d46c7d4d75521b3150596b8", func := "loop.example/g01050/laws.FnBestTurns", spec := "fnBestTurns", apart := false, narrowed := true }
def FnBestTurnsUptoSaid : Prop := fnBestTurnsUptoRow.holds Try.pinned (OpenSpec.upto fnBestTurnsSpec)

end Rows
end Go.Proofs.Ytapoimdphbhdaaa
