/- The helpers of the laws that draw. -/
import Derived.Test.YtbjeaadnanimfaaDraw3
import Derived.Test.YtbjeaadnanimfaaTens
import Derived.Test.YtbjeaadnanimfaaHas
namespace Go.Proofs.Ytbjeaadnanimfaa
open Go.RowKit
set_option linter.unusedVariables false
set_option linter.unusedSimpArgs false

set_option maxRecDepth 20000 in
theorem hasInt_c (a : Option Addr) (c : Nat) (xs : List Int) (y : Int) (w : World) (h : IntsAt w a xs) (hl : xs.length ≤ 1048576) :
    Calls Try.prog 18 #[.slice a xs.length c, .int .i64 y] w fun e w' => e = .returned (.bool (hasB xs y)) ∧ w = w' := by
  have H := Lib.hid h; clear h
  go_enter Try.func18, Try.ntmps18
  go_wp2
  go_loop [5] (fun i => ∃ k : Nat, k ≤ xs.length ∧ i = .int .i64 k ∧ Hid (hasB (xs.take k) y = false)) (fun i => xs.length - (intOf i).toNat)
  case atStart => exact ⟨0, by omega, rfl, (by simp [hasB] : hasB ([] : List Int) y = false)⟩
  case round =>
    obtain ⟨k, hk, rfl, HA⟩ := hrel
    by_cases hlt : k < xs.length
    · obtain ⟨b, off, x, rfl, hc, hx⟩ := H.out.get hlt
      by_cases hxy : x = y
      · have HN : Hid (hasB xs y = true) := by subst hxy; exact hasB_t hx.out
        have hb : (x == y) = true := beq_iff_eq.2 hxy
        clear hxy
        go_wp2
        go_ret
        exact ⟨ret_bool HN.out.symm, rfl⟩
      · have HN : Hid (hasB (xs.take (k + 1)) y = false) := by
          show hasB _ _ = false
          have h1 := of_decide_eq_false HA.out
          rw [take_step hx.out]
          exact decide_eq_false fun hm => by
            rcases List.mem_append.1 hm with h2 | h2
            · exact h1 h2
            · simp at h2; exact hxy h2.symm
        have hb : (x == y) = false := beq_eq_false_iff_ne.2 hxy
        clear hxy
        go_wp2
        go_round
        case rel => exact ⟨k + 1, by omega, by go_num, HN⟩
        case measure => simp [intOf]; omega
    · obtain rfl : k = xs.length := by omega
      have HN : Hid (hasB xs y = false) := by have := HA.out; rwa [List.take_length] at this
      go_wp2
      go_ret
      exact ⟨ret_bool HN.out.symm, rfl⟩
set_option maxRecDepth 20000 in
set_option maxHeartbeats 800000 in
theorem likeInts_c (a b : Option Addr) (c d : Nat) (xs : List Int) (w : World) (h : IntsAt w a xs) (h2 : IntsAt w b xs) (hl : xs.length ≤ 1048576) :
    Calls Try.prog 52 #[.slice a xs.length c, .slice b xs.length d] w (RetT w) := by
  have H := Lib.hid h; clear h
  have H2 := Lib.hid h2; clear h2
  go_enter Try.func52, Try.ntmps52
  go_wp2
  go_loopw [5] (fun i wr => ∃ k : Nat, k ≤ xs.length ∧ i = .int .i64 k ∧ Hid (Upd [] w wr)) (fun i _ => xs.length - (intOf i).toNat)
  case atStart => exact ⟨0, by omega, rfl, Upd.refl w⟩
  case round =>
    obtain ⟨k, hk, rfl, HU⟩ := hrel
    by_cases hlt : k < xs.length
    · obtain ⟨ab, ao, x, rfl, hc, hx⟩ := (H.out.kept0 HU.out).get hlt
      obtain ⟨bb, bo, y, rfl, hd, hy⟩ := (H2.out.kept0 HU.out).get hlt
      obtain rfl : x = y := by have := hx.out; rw [hy.out] at this; simpa using this.symm
      have i1 : (0 : Int) ≤ (k : Int) := by omega
      have i2 : (k : Int) < (xs.length : Int) := by omega
      go_wp2
      go_quiet (fail)
      go_wp2
      go_roundw
      case rel => exact ⟨k + 1, by omega, by go_num, (HU.out).drewN _⟩
      case measure => simp [intOf]; omega
    · obtain rfl : k = xs.length := by omega
      go_wp2
      go_ret
      exact ⟨rfl, HU.out⟩
theorem big_y (a : Option Addr) (c n : Nat) (w : World) (h : n ≤ 4096) : Calls Try.prog 6 #[.slice a n c] w fun e w' => e = .returned (.bool false) ∧ w = w' := by
  have h2 : ¬ (4096 : Int) < (n : Int) := by omega
  go_enter Try.func6, Try.ntmps6
  go_wp2
  go_ret
  exact ⟨rfl, rfl⟩
theorem big_x (a : Option Addr) (c n : Nat) (w : World) (h : ¬ n ≤ 4096) : Calls Try.prog 6 #[.slice a n c] w fun e w' => e = .returned (.bool true) ∧ w = w' := by
  have h2 : (4096 : Int) < (n : Int) := by omega
  go_enter Try.func6, Try.ntmps6
  go_wp2
  go_ret
  exact ⟨rfl, rfl⟩
end Go.Proofs.Ytbjeaadnanimfaa
