/-
  No cell of these rows narrows 'for every input' (looked for: loops, veiled, ifaces, maps, wideKeys, modest, calm, conditions, laid).
  DERIVED. THE GIVEN ROWS OF THIS SEAT. 8 by the template 'for every input the law returns true; each argument reads behind the call as it read before'; 0 by the template 'total and deterministic' (their statements: YtdjdddepplaagaaTotals.lean).
  GIVEN WITH THE SEED: the statements are not yours to turn. If you find one false, say at which input.
  Laid BY PROGRAM, IN A SANDBOX (cutbox-rows.mjs): the forced cells as the released guide's own fill.sh prints them over the translation 69d36874570c77f7… (all of the seat's roots in one cut). By AI agents, Wed Nov 11 2026. No macro, syntax, notation, axiom, sorry.
-/
import Derived.Test.YtdjdddepplaagaaChecked
import GoSem.Claim
import GoSem.ClaimJoined
import GoSem.ClaimMapViews
import Derived.JoinedTies
import Derived.KernelRfl
namespace Go.Proofs.Ytdjdddepplaagaa
/- THE CELL 'sum', in the pinned program and in every row, IS THE sha256 OF THE DUMP (.gsa) THAT YtdjdddepplaagaaProg.lean LOADS. Nothing in Lean hashes anything: it is a label: what it is worth is what the hold of that sum in a sandbox is worth. -/
noncomputable def Try.pinned : Pinned := { name := "ytdjdddepplaagaa", sum := "69d36874570c77f7972a0ba6ec723a8c3a3561a2b600107491cdd7ccf9969866", checked := Try.checked }
namespace Rows
def none {H : Type} : Left H := { results := [], args := [] }

/-- 'laws.FnRotations': WHATEVER THE INPUT: true; the input reads as it did. -/
def fnRotationsSpec : ChangeSpec := { name := "fnRotations", fn := fun _ => fun
  | [d] => { results := [.lit (.bool true)], args := [d] }
  | _ => none }
def fnRotationsRow : OpenClaim := { program := "ytdjdddepplaagaa", sum := "69d36874570c77f7972a0ba6ec723a8c3a3561a2b600107491cdd7ccf9969866", func := "loop.example/g01050/laws.FnRotations", spec := "fnRotations", apart := false }
def FnRotationsSaid : Prop := fnRotationsRow.holds Try.pinned (OpenSpec.ofChange fnRotationsSpec)

/-- ITS FALSE NEIGHBOUR: 'it returns false'. Refute it at one input. -/
def fnRotationsWrong : ChangeSpec := { name := "fnRotations", fn := fun _ => fun
  | [d] => { results := [.lit (.bool false)], args := [d] }
  | _ => none }
def FnRotationsWrongFalsely : Prop := fnRotationsRow.holds Try.pinned (OpenSpec.ofChange fnRotationsWrong)

/-- 'laws.FnLacings': WHATEVER THE INPUT: true; the input reads as it did. -/
def fnLacingsSpec : ChangeSpec := { name := "fnLacings", fn := fun _ => fun
  | [d] => { results := [.lit (.bool true)], args := [d] }
  | _ => none }
def fnLacingsRow : OpenClaim := { program := "ytdjdddepplaagaa", sum := "69d36874570c77f7972a0ba6ec723a8c3a3561a2b600107491cdd7ccf9969866", func := "loop.example/g01050/laws.FnLacings", spec := "fnLacings", apart := false }
def FnLacingsSaid : Prop := fnLacingsRow.holds Try.pinned (OpenSpec.ofChange fnLacingsSpec)

/-- ITS FALSE NEIGHBOUR: 'it returns false'. Refute it at one input. -/
def fnLacingsWrong : ChangeSpec := { name := "fnLacings", fn := fun _ => fun
  | [d] => { results := [.lit (.bool false)], args := [d] }
  | _ => none }
def FnLacingsWrongFalsely : Prop := fnLacingsRow.holds Try.pinned (OpenSpec.ofChange fnLacingsWrong)

/-- 'laws.FnCrossings': WHATEVER THE INPUT: true; the input reads as it did. -/
def fnCrossingsSpec : ChangeSpec := { name := "fnCrossings", fn := fun _ => fun
  | [d] => { results := [.lit (.bool true)], args := [d] }
  | _ => none }
def fnCrossingsRow : OpenClaim := { program := "ytdjdddepplaagaa", sum := "69d36874570c77f7972a0ba6ec723a8c3a3561a2b600107491cdd7ccf9969866", func := "loop.example/g01050/laws.FnCrossings", spec := "fnCrossings", apart := false }
def FnCrossingsSaid : Prop := fnCrossingsRow.holds Try.pinned (OpenSpec.ofChange fnCrossingsSpec)

/-- ITS FALSE NEIGHBOUR: 'it returns false'. Refute it at one input. -/
def fnCrossingsWrong : ChangeSpec := { name := "fnCrossings", fn := fun _ => fun
  | [d] => { results := [.lit (.bool false)], args := [d] }
  | _ => none }
def FnCrossingsWrongFalsely : Prop := fnCrossingsRow.holds Try.pinned (OpenSpec.ofChange fnCrossingsWrong)

/-- 'laws.FnMeans': WHATEVER THE INPUT: true; the input reads as it did. -/
def fnMeansSpec : ChangeSpec := { name := "fnMeans", fn := fun _ => fun
  | [d] => { results := [.lit (.bool true)], args := [d] }
  | _ => none }
def fnMeansRow : OpenClaim := { program := "ytdjdddepplaagaa", sum := "69d36874570c77f7972a0ba6ec723a8c3a3561a2b600107491cdd7ccf9969866", func := "loop.example/g01050/laws.FnMeans", spec := "fnMeans", apart := false }
def FnMeansSaid : Prop := fnMeansRow.holds Try.pinned (OpenSpec.ofChange fnMeansSpec)

/-- ITS FALSE NEIGHBOUR: 'it returns false'. Refute it at one input. -/
def fnMeansWrong : ChangeSpec := { name := "fnMeans", fn := fun _ => fun
  | [d] => { results := [.lit (.bool false)], args := [d] }
  | _ => none }
def FnMeansWrongFalsely : Prop := fnMeansRow.holds Try.pinned (OpenSpec.ofChange fnMeansWrong)

/-- 'laws.FnNipples': WHATEVER THE INPUT: true; the input reads as it did. -/
def fnNipplesSpec : ChangeSpec := { name := "fnNipples", fn := fun _ => fun
  | [d] => { results := [.lit (.bool true)], args := [d] }
  | _ => none }
def fnNipplesRow : OpenClaim := { program := "ytdjdddepplaagaa", sum := "69d36874570c77f7972a0ba6ec723a8c3a3561a2b600107491cdd7ccf9969866", func := "loop.example/g01050/laws.FnNipples", spec := "fnNipples", apart := false }
def FnNipplesSaid : Prop := fnNipplesRow.holds Try.pinned (OpenSpec.ofChange fnNipplesSpec)

/-- ITS FALSE NEIGHBOUR: 'it returns false'. Refute it at one input. -/
def fnNipplesWrong : ChangeSpec := { name := "fnNipples", fn := fun _ => fun
  | [d] => { results := [.lit (.bool false)], args := [d] }
  | _ => none }
def FnNipplesWrongFalsely : Prop := fnNipplesRow.holds Try.pinned (OpenSpec.ofChange fnNipplesWrong)

/-- 'laws.FnBands': WHATEVER THE INPUT: true; the input reads as it did. -/
def fnBandsSpec : ChangeSpec := { name := "fnBands", fn := fun _ => fun
  | [d] => { results := [.lit (.bool true)], args := [d] }
  | _ => none }
def fnBandsRow : OpenClaim := { program := "ytdjdddepplaagaa", sum := "69d36874570c77f7972a0ba6ec723a8c3a3561a2b600107491cdd7ccf9969866", func := "loop.example/g01050/laws.FnBands", spec := "fnBands", apart := false }
def FnBandsSaid : Prop := fnBandsRow.holds Try.pinned (OpenSpec.ofChange fnBandsSpec)

/-- ITS FALSE NEIGHBOUR: 'it returns false'. Refute it at one input. -/
def fnBandsWrong : ChangeSpec := { name := "fnBands", fn := fun _ => fun
  | [d] => { results := [.lit (.bool false)], args := [d] }
  | _ => none }
def FnBandsWrongFalsely : Prop := fnBandsRow.holds Try.pinned (OpenSpec.ofChange fnBandsWrong)

/-- 'laws.FnPlans': WHATEVER THE INPUT: true; the input reads as it did. -/
def fnPlansSpec : ChangeSpec := { name := "fnPlans", fn := fun _ => fun
  | [d] => { results := [.lit (.bool true)], args := [d] }
  | _ => none }
def fnPlansRow : OpenClaim := { program := "ytdjdddepplaagaa", sum := "69d36874570c77f7972a0ba6ec723a8c3a3561a2b600107491cdd7ccf9969866", func := "loop.example/g01050/laws.FnPlans", spec := "fnPlans", recurses := true, apart := false }
def FnPlansSaid : Prop := fnPlansRow.holds Try.pinned (OpenSpec.ofChange fnPlansSpec)

/-- ITS FALSE NEIGHBOUR: 'it returns false'. Refute it at one input. -/
def fnPlansWrong : ChangeSpec := { name := "fnPlans", fn := fun _ => fun
  | [d] => { results := [.lit (.bool false)], args := [d] }
  | _ => none }
def FnPlansWrongFalsely : Prop := fnPlansRow.holds Try.pinned (OpenSpec.ofChange fnPlansWrong)

/-- 'laws.FnBestTurns': WHATEVER THE INPUT: true; the input reads as it did. -/
def fnBestTurnsSpec : ChangeSpec := { name := "fnBestTurns", fn := fun _ => fun
  | [d] => { results := [.lit (.bool true)], args := [d] }
  | _ => none }
def fnBestTurnsRow : OpenClaim := { program := "ytdjdddepplaagaa", sum := "69d36874570c77f7972a0ba6ec723a8c3a3561a2b600107491cdd7ccf9969866", func := "loop.example/g01050/laws.FnBestTurns", spec := "fnBestTurns", apart := false }
def FnBestTurnsSaid : Prop := fnBestTurnsRow.holds Try.pinned (OpenSpec.ofChange fnBestTurnsSpec)

/-- ITS FALSE NEIGHBOUR: 'it returns false'. Refute it at one input. -/
def fnBestTurnsWrong : ChangeSpec := { name := "fnBestTurns", fn := fun _ => fun
  | [d] => { results := [.lit (.bool false)], args := [d] }
  | _ => none }
def FnBestTurnsWrongFalsely : Prop := fnBestTurnsRow.holds Try.pinned (OpenSpec.ofChange fnBestTurnsWrong)

/- THE SECOND FORM. 'bulk': how many values and letters a reading holds, each counted each time it is reached (what is shared counts as often as it is met; a slice's spare places count too). A statement '..UptoSaid' is the law's where the arguments, and the package variables that the reading takes, are together of bulk at most 1048576: NARROWER than '..Said'. Prove '..Said' where nothing that the law and all that it calls make is longer than what came in: it says more and counts as full. Else prove '..UptoSaid'. A law counts once. -/
mutual
def uptoBulk {H : Type} : DataW H → Nat
  | .lit (.string bytes) => bytes.length + 1
  | .lit _ => 1
  | .nil => 1
  | .ptr d => uptoBulk d + 1
  | .slice elems spare => uptoBulkAll elems + uptoBulkAll spare + 1
  | .agg parts => uptoBulkAll parts + 1
  | .iface _ d => uptoBulk d + 1
  | .map entries => uptoBulkEntries entries + 1
  | .held _ => 1
def uptoBulkAll {H : Type} : List (DataW H) → Nat
  | [] => 0
  | d :: r => uptoBulk d + uptoBulkAll r
def uptoBulkEntries {H : Type} : List (Lit × DataW H) → Nat
  | [] => 0
  | x :: r => uptoBulkEntry x + uptoBulkEntries r
def uptoBulkEntry {H : Type} : Lit × DataW H → Nat
  | (.string bytes, d) => bytes.length + uptoBulk d + 1
  | (_, d) => uptoBulk d + 1
 end
def uptoSmall : (H : Type) → List (DataW H) → Bool := fun _ ds => decide (uptoBulkAll ds ≤ 1048576)
def OpenSpec.upto (s : _root_.Go.ChangeSpec) : _root_.Go.OpenSpec := { _root_.Go.OpenSpec.ofChange s with cond := some uptoSmall }

/-- 'laws.FnRotations', WHERE WHAT IT READS IS OF BULK AT MOST 1048576: true; the input reads as it did. -/
def fnRotationsUptoRow : OpenClaim := { program := "ytdjdddepplaagaa", sum := "69d36874570c77f7972a0ba6ec723a8c3a3561a2b600107491cdd7ccf9969866", func := "loop.example/g01050/laws.FnRotations", spec := "fnRotations", apart := false, narrowed := true }
def FnRotationsUptoSaid : Prop := fnRotationsUptoRow.holds Try.pinned (OpenSpec.upto fnRotationsSpec)

/-- 'laws.FnLacings', WHERE WHAT IT READS IS OF BULK AT MOST 1048576: true; the input reads as it did. -/
def fnLacingsUptoRow : OpenClaim := { program := "ytdjdddepplaagaa", sum := "69d36874570c77f7972a0ba6ec723a8c3a3561a2b600107491cdd7ccf9969866", func := "loop.example/g01050/laws.FnLacings", spec := "fnLacings", apart := false, narrowed := true }
def FnLacingsUptoSaid : Prop := fnLacingsUptoRow.holds Try.pinned (OpenSpec.upto fnLacingsSpec)

/-- 'laws.FnCrossings', WHERE WHAT IT READS IS OF BULK AT MOST 1048576: true; the input reads as it did. -/
def fnCrossingsUptoRow : OpenClaim := { program := "ytdjdddepplaagaa", sum := "69d36874570c77f7972a0ba6ec723a8c3a3561a2b600107491cdd7ccf9969866", func := "loop.example/g01050/laws.FnCrossings", spec := "fnCrossings", apart := false, narrowed := true }
def FnCrossingsUptoSaid : Prop := fnCrossingsUptoRow.holds Try.pinned (OpenSpec.upto fnCrossingsSpec)

/-- 'laws.FnMeans', WHERE WHAT IT READS IS OF BULK AT MOST 1048576: true; the input reads as it did. -/
def fnMeansUptoRow : OpenClaim := { program := "ytdjdddepplaagaa", sum := "69d36874570c77f7972a0ba6ec723a8c3a3561a2b600107491cdd7ccf9969866", func := "loop.example/g01050/laws.FnMeans", spec := "fnMeans", apart := false, narrowed := true }
def FnMeansUptoSaid : Prop := fnMeansUptoRow.holds Try.pinned (OpenSpec.upto fnMeansSpec)

/-- 'laws.FnNipples', WHERE WHAT IT READS IS OF BULK AT MOST 1048576: true; the input reads as it did. -/
def fnNipplesUptoRow : OpenClaim := { program := "ytdjdddepplaagaa", sum := "69d36874570c77f7972a0ba6ec723a8c3a3561a2b600107491cdd7ccf9969866", func := "loop.example/g01050/laws.FnNipples", spec := "fnNipples", apart := false, narrowed := true }
def FnNipplesUptoSaid : Prop := fnNipplesUptoRow.holds Try.pinned (OpenSpec.upto fnNipplesSpec)

/-- 'laws.FnBands', WHERE WHAT IT READS IS OF BULK AT MOST 1048576: true; the input reads as it did. -/
def fnBandsUptoRow : OpenClaim := { program := "ytdjdddepplaagaa", sum := "69d36874570c77f7972a0ba6ec723a8c3a3561a2b600107491cdd7ccf9969866", func := "loop.example/g01050/laws.FnBands", spec := "fnBands", apart := false, narrowed := true }
def FnBandsUptoSaid : Prop := fnBandsUptoRow.holds Try.pinned (OpenSpec.upto fnBandsSpec)

/-- 'laws.FnPlans', WHERE WHAT IT READS IS OF BULK AT MOST 1048576: true; the input reads as it did. -/
def fnPlansUptoRow : OpenClaim := { program := "ytdjdddepplaagaa", sum := "69d36874570c77f7972a0ba6ec723a8c3a3561a2b600107491cdd7ccf9969866", func := "loop.example/g01050/laws.FnPlans", spec := "fnPlans", recurses := true, apart := false, narrowed := true }
def FnPlansUptoSaid : Prop := fnPlansUptoRow.holds Try.pinned (OpenSpec.upto fnPlansSpec)

/-- 'laws.FnBestTurns', WHERE WHAT IT READS IS OF BULK AT MOST 1048576: true; the input reads as it did. -/
def fnBestTurnsUptoRow : OpenClaim := { program := "ytdjdddepplaagaa", sum := "69d36874570c77f7972a0ba6ec723a8c3a3561a2b600107491cdd7ccf9969866", func := "loop.example/g01050/laws.FnBestTurns", spec := "fnBestTurns", apart := false, narrowed := true }
def FnBestTurnsUptoSaid : Prop := fnBestTurnsUptoRow.holds Try.pinned (OpenSpec.upto fnBestTurnsSpec)

end Rows
end Go.Proofs.Ytdjdddepplaagaa
