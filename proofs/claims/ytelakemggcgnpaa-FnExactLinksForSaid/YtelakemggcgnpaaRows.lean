/-
  No cell of these rows narrows 'for every input' (looked for: loops, veiled, ifaces, maps, wideKeys, modest, calm, conditions, laid).
  DERIVED. THE GIVEN ROWS OF THIS SEAT. 4 by the template 'for every input the law returns true; each argument reads behind the call as it read before'; 0 by the template 'total and deterministic' (their statements: YtelakemggcgnpaaTotals.lean).
  GIVEN WITH THE SEED: the statements are not yours to turn. If you find one false, say at which input.
  Laid BY PROGRAM, IN A SANDBOX (cutbox-rows.mjs): the forced cells as the released guide's own fill.sh prints them over the translation 52489bc393036d5e… (all of the seat's roots in one cut). By AI agents, Wed Nov 11 2026. No macro, syntax, notation, axiom, sorry.
-/
import Derived.Test.YtelakemggcgnpaaChecked
import GoSem.Claim
import GoSem.ClaimJoined
import GoSem.ClaimMapViews
import Derived.JoinedTies
import Derived.KernelRfl
namespace Go.Proofs.Ytelakemggcgnpaa
/- THE CELL 'sum', in the pinned program and in every row, IS THE sha256 OF THE DUMP (.gsa) THAT YtelakemggcgnpaaProg.lean LOADS. Nothing in Lean hashes anything: it is a label: what it is worth is what the hold of that sum in a sandbox is worth. -/
noncomputable def Try.pinned : Pinned := { name := "ytelakemggcgnpaa", sum := "52489bc393036d5e920934b68db0b7c61f320fa09a43ead42533ed62044c7509", checked := Try.checked }
namespace Rows
def none {H : Type} : Left H := { results := [], args := [] }

/-- 'laws.FnExactCutLinks': WHATEVER THE INPUT: true; the input reads as it did. -/
def fnExactCutLinksSpec : ChangeSpec := { name := "fnExactCutLinks", fn := fun _ => fun
  | [d1, d2] => { results := [.lit (.bool true)], args := [d1, d2] }
  | _ => none }
def fnExactCutLinksRow : OpenClaim := { program := "ytelakemggcgnpaa", sum := "52489bc393036d5e920934b68db0b7c61f320fa09a43ead42533ed62044c7509", func := "loop.example/g01050/laws.FnExactCutLinks", spec := "fnExactCutLinks", apart := false }
def FnExactCutLinksSaid : Prop := fnExactCutLinksRow.holds Try.pinned (OpenSpec.ofChange fnExactCutLinksSpec)

/-- ITS FALSE NEIGHBOUR: 'it returns false'. Refute it at one input. -/
def fnExactCutLinksWrong : ChangeSpec := { name := "fnExactCutLinks", fn := fun _ => fun
  | [d1, d2] => { results := [.lit (.bool false)], args := [d1, d2] }
  | _ => none }
def FnExactCutLinksWrongFalsely : Prop := fnExactCutLinksRow.holds Try.pinned (OpenSpec.ofChange fnExactCutLinksWrong)

/-- 'laws.FnExactNeedOf': WHATEVER THE INPUT: true; the input reads as it did. -/
def fnExactNeedOfSpec : ChangeSpec := { name := "fnExactNeedOf", fn := fun _ => fun
  | [d1, d2, d3] => { results := [.lit (.bool true)], args := [d1, d2, d3] }
  | _ => none }
def fnExactNeedOfRow : OpenClaim := { program := "ytelakemggcgnpaa", sum := "52489bc393036d5e920934b68db0b7c61f320fa09a43ead42533ed62044c7509", func := "loop.example/g01050/laws.FnExactNeedOf", spec := "fnExactNeedOf", apart := false }
def FnExactNeedOfSaid : Prop := fnExactNeedOfRow.holds Try.pinned (OpenSpec.ofChange fnExactNeedOfSpec)

/-- ITS FALSE NEIGHBOUR: 'it returns false'. Refute it at one input. -/
def fnExactNeedOfWrong : ChangeSpec := { name := "fnExactNeedOf", fn := fun _ => fun
  | [d1, d2, d3] => { results := [.lit (.bool false)], args := [d1, d2, d3] }
  | _ => none }
def FnExactNeedOfWrongFalsely : Prop := fnExactNeedOfRow.holds Try.pinned (OpenSpec.ofChange fnExactNeedOfWrong)

/-- 'laws.FnExactStayFor': WHATEVER THE INPUT: true; the input reads as it did. -/
def fnExactStayForSpec : ChangeSpec := { name := "fnExactStayFor", fn := fun _ => fun
  | [d1, d2, d3] => { results := [.lit (.bool true)], args := [d1, d2, d3] }
  | _ => none }
def fnExactStayForRow : OpenClaim := { program := "ytelakemggcgnpaa", sum := "52489bc393036d5e920934b68db0b7c61f320fa09a43ead42533ed62044c7509", func := "loop.example/g01050/laws.FnExactStayFor", spec := "fnExactStayFor", apart := false }
def FnExactStayForSaid : Prop := fnExactStayForRow.holds Try.pinned (OpenSpec.ofChange fnExactStayForSpec)

/-- ITS FALSE NEIGHBOUR: 'it returns false'. Refute it at one input. -/
def fnExactStayForWrong : ChangeSpec := { name := "fnExactStayFor", fn := fun _ => fun
  | [d1, d2, d3] => { results := [.lit (.bool false)], args := [d1, d2, d3] }
  | _ => none }
def FnExactStayForWrongFalsely : Prop := fnExactStayForRow.holds Try.pinned (OpenSpec.ofChange fnExactStayForWrong)

/-- 'laws.FnExactLinksFor': WHATEVER THE INPUT: true; the input reads as it did. -/
def fnExactLinksForSpec : ChangeSpec := { name := "fnExactLinksFor", fn := fun _ => fun
  | [d1, d2, d3] => { results := [.lit (.bool true)], args := [d1, d2, d3] }
  | _ => none }
def fnExactLinksForRow : OpenClaim := { program := "ytelakemggcgnpaa", sum := "52489bc393036d5e920934b68db0b7c61f320fa09a43ead42533ed62044c7509", func := "loop.example/g01050/laws.FnExactLinksFor", spec := "fnExactLinksFor", apart := false }
def FnExactLinksForSaid : Prop := fnExactLinksForRow.holds Try.pinned (OpenSpec.ofChange fnExactLinksForSpec)

/-- ITS FALSE NEIGHBOUR: 'it returns false'. Refute it at one input. -/
def fnExactLinksForWrong : ChangeSpec := { name := "fnExactLinksFor", fn := fun _ => fun
  | [d1, d2, d3] => { results := [.lit (.bool false)], args := [d1, d2, d3] }
  | _ => none }
def FnExactLinksForWrongFalsely : Prop := fnExactLinksForRow.holds Try.pinned (OpenSpec.ofChange fnExactLinksForWrong)

/- THE SECOND FORM. 'bulk': how many values and letters a reading holds, each counted each time it is reached (what is shared counts as often as it is met; a slice's spare places count too). A statement '..UptoSaid' is the law's where the arguments, and the package variables that the reading takes, are together of bulk at most 1048576: NARROWER than '..Said'. Prove '..Said' where nothing that the law and all that it calls make is longer than what came in: it says more and counts as full. Else prove '..UptoSaid'. A law counts once. -/
mutual
def uptoBulk {H : Type} : DataW H → Nat
  | .lit (.string bytes) => bytes.length + 1
  | .lit _ => 1
  | .nil => 1
  | .ptr d => uptoBulk d + 1
  | .slice elems spare => uptoBulkAll elems + uptoBulkAll spare + 1
  | .agg parts => uptoBulkAll parts + 1
  | .iface _ d => uptoBulk d + 1
  | .map entries => uptoBulkEntries entries + 1
  | .held _ => 1
def uptoBulkAll {H : Type} : List (DataW H) → Nat
  | [] => 0
  | d :: r => uptoBulk d + uptoBulkAll r
def uptoBulkEntries {H : Type} : List (Lit × DataW H) → Nat
  | [] => 0
  | x :: r => uptoBulkEntry x + uptoBulkEntries r
def uptoBulkEntry {H : Type} : Lit × DataW H → Nat
  | (.string bytes, d) => bytes.length + uptoBulk d + 1
  | (_, d) => uptoBulk d + 1
 end
def uptoSmall : (H : Type) → List (DataW H) → Bool := fun _ ds => decide (uptoBulkAll ds ≤ 1048576)
def OpenSpec.upto (s : _root_.Go.ChangeSpec) : _root_.Go.OpenSpec := { _root_.Go.OpenSpec.ofChange s with cond := some uptoSmall }

/-- 'laws.FnExactCutLinks', WHERE WHAT IT READS IS OF BULK AT MOST 1048576: true; the input reads as it did. -/
def fnExactCutLinksUptoRow : OpenClaim := { program := "ytelakemggcgnpaa", sum := "52489bc393036d5e920934b68db0b7c61f320fa09a43ead42533ed62044c7509", func := "loop.example/g01050/laws.FnExactCutLinks", spec := "fnExactCutLinks", apart := false, narrowed := true }
def FnExactCutLinksUptoSaid : Prop := fnExactCutLinksUptoRow.holds Try.pinned (OpenSpec.upto fnExactCutLinksSpec)

/-- 'laws.FnExactNeedOf', WHERE WHAT IT READS IS OF BULK AT MOST 1048576: true; the input reads as it did. -/
def fnExactNeedOfUptoRow : OpenClaim := { program := "ytelakemggcgnpaa", sum := "52489bc393036d5e920934b68db0b7c61f320fa09a43ead42533ed62044c7509", func := "loop.example/g01050/laws.FnExactNeedOf", spec := "fnExactNeedOf", apart := false, narrowed := true }
def FnExactNeedOfUptoSaid : Prop := fnExactNeedOfUptoRow.holds Try.pinned (OpenSpec.upto fnExactNeedOfSpec)

/-- 'laws.FnExactStayFor', WHERE WHAT IT READS IS OF BULK AT MOST 1048576: true; the input reads as it did. -/
def fnExactStayForUptoRow : OpenClaim := { program := "ytelakemggcgnpaa", sum := "52489bc393036d5e920934b68db0b7c61f320fa09a43ead42533ed62044c7509", func := "loop.example/g01050/laws.FnExactStayFor", spec := "fnExactStayFor", apart := false, narrowed := true }
def FnExactStayForUptoSaid : Prop := fnExactStayForUptoRow.holds Try.pinned (OpenSpec.upto fnExactStayForSpec)

/-- 'laws.FnExactLinksFor', WHERE WHAT IT READS IS OF BULK AT MOST 1048576: true; the input reads as it did. -/
def fnExactLinksForUptoRow : OpenClaim := { program := "ytelakemggcgnpaa", sum := "52489bc393036d5e920934b68db0b7c61f320fa09a43ead42533ed62044c7509", func := "loop.example/g01050/laws.FnExactLinksFor", spec := "fnExactLinksFor", apart := false, narrowed := true }
def FnExactLinksForUptoSaid : Prop := fnExactLinksForUptoRow.holds Try.pinned (OpenSpec.upto fnExactLinksForSpec)

end Rows
end Go.Proofs.Ytelakemggcgnpaa
