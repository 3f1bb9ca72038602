/- The contracts of chapter 6: mirrored lacings. -/
import Derived.Test.YtiiljmaianfdeaaLac3
namespace Go.Proofs.Ytiiljmaianfdeaa
open Go.RowKit
set_option linter.unusedVariables false
set_option linter.unusedSimpArgs false

def mirV (xs : List Int) (k : Nat) : Int := (-(xs.getD k 0)) % xs.length
def mirTo (xs : List Int) : Nat → List Int
  | 0 => List.replicate xs.length 0
  | k + 1 => (mirTo xs k).set (pos (-(k : Int)) xs.length) (mirV xs k)
theorem mirTo_length (xs : List Int) (k : Nat) : (mirTo xs k).length = xs.length := by
  induction k with
  | zero => simp [mirTo]
  | succ k ih => simp [mirTo, ih]
def mirL (n : Int) (xs : List Int) : List Int := if lacB n xs then mirTo xs xs.length else []
theorem neg_mod (x n : Int) : (n - x) % n = (-x) % n := by rw [show n - x = -x + n by omega, Int.add_emod_right]
end Go.Proofs.Ytiiljmaianfdeaa
