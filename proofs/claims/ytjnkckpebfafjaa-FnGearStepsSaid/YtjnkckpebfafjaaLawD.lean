/- The helpers of the laws that draw. -/
import Derived.Test.YtjnkckpebfafjaaDraw3
import Derived.Test.YtjnkckpebfafjaaTens
import Derived.Test.YtjnkckpebfafjaaHas
namespace Go.Proofs.Ytjnkckpebfafjaa
open Go.RowKit
set_option linter.unusedVariables false
set_option linter.unusedSimpArgs false

set_option maxRecDepth 20000 in
set_option maxHeartbeats 800000 in
theorem likeInts_c (a b : Option Addr) (c d : Nat) (xs : List Int) (w : World) (h : IntsAt w a xs) (h2 : IntsAt w b xs) (hl : xs.length ≤ 1048576) :
    Calls Try.prog 30 #[.slice a xs.length c, .slice b xs.length d] w (RetT w) := by
  have H := Lib.hid h; clear h
  have H2 := Lib.hid h2; clear h2
  go_enter Try.func30, Try.ntmps30
  go_wp2
  go_loopw [5] (fun i wr => ∃ k : Nat, k ≤ xs.length ∧ i = .int .i64 k ∧ Hid (Upd [] w wr)) (fun i _ => xs.length - (intOf i).toNat)
  case atStart => exact ⟨0, by omega, rfl, Upd.refl w⟩
  case round =>
    obtain ⟨k, hk, rfl, HU⟩ := hrel
    by_cases hlt : k < xs.length
    · obtain ⟨ab, ao, x, rfl, hc, hx⟩ := (H.out.kept0 HU.out).get hlt
      obtain ⟨bb, bo, y, rfl, hd, hy⟩ := (H2.out.kept0 HU.out).get hlt
      obtain rfl : x = y := by have := hx.out; rw [hy.out] at this; simpa using this.symm
      have i1 : (0 : Int) ≤ (k : Int) := by omega
      have i2 : (k : Int) < (xs.length : Int) := by omega
      go_wp2
      go_quiet (fail)
      go_wp2
      go_roundw
      case rel => exact ⟨k + 1, by omega, by go_num, (HU.out).drewN _⟩
      case measure => simp [intOf]; omega
    · obtain rfl : k = xs.length := by omega
      go_wp2
      go_ret
      exact ⟨rfl, HU.out⟩
theorem big_y (a : Option Addr) (c n : Nat) (w : World) (h : n ≤ 4096) : Calls Try.prog 6 #[.slice a n c] w fun e w' => e = .returned (.bool false) ∧ w = w' := by
  have h2 : ¬ (4096 : Int) < (n : Int) := by omega
  go_enter Try.func6, Try.ntmps6
  go_wp2
  go_ret
  exact ⟨rfl, rfl⟩
theorem big_x (a : Option Addr) (c n : Nat) (w : World) (h : ¬ n ≤ 4096) : Calls Try.prog 6 #[.slice a n c] w fun e w' => e = .returned (.bool true) ∧ w = w' := by
  have h2 : (4096 : Int) < (n : Int) := by omega
  go_enter Try.func6, Try.ntmps6
  go_wp2
  go_ret
  exact ⟨rfl, rfl⟩
end Go.Proofs.Ytjnkckpebfafjaa
