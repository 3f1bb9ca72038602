/- A list has a number; the numbers of holes. -/
import Derived.Test.YtbjeaadnanimfaaApp
namespace Go.Proofs.Ytbjeaadnanimfaa
open Go.RowKit
set_option linter.unusedVariables false
set_option linter.unusedSimpArgs false

def hasB (xs : List Int) (y : Int) : Bool := decide (y ∈ xs)
theorem hasB_t {xs : List Int} {k : Nat} {y : Int} (h : xs[k]? = some y) : hasB xs y = true := decide_eq_true (mem_of_get h)
theorem l01Has_c (a : Option Addr) (c : Nat) (xs : List Int) (y : Int) (w : World) (h : IntsAt w a xs) (hl : xs.length ≤ 1048576) :
    Calls Try.prog 80 #[.slice a xs.length c, .int .i64 y] w fun e w' => e = .returned (.bool (hasB xs y)) ∧ w = w' := by
  have H := Lib.hid h; clear h
  go_enter Try.func80, Try.ntmps80
  go_wp2
  go_loop [5] (fun i => ∃ k : Nat, k ≤ xs.length ∧ i = .int .i64 k ∧ Hid (hasB (xs.take k) y = false)) (fun i => xs.length - (intOf i).toNat)
  case atStart => exact ⟨0, by omega, rfl, (by simp [hasB] : hasB ([] : List Int) y = false)⟩
  case round =>
    obtain ⟨k, hk, rfl, HA⟩ := hrel
    by_cases hlt : k < xs.length
    · obtain ⟨b, off, x, rfl, hc, hx⟩ := H.out.get hlt
      by_cases hxy : x = y
      · have HN : Hid (hasB xs y = true) := by subst hxy; exact hasB_t hx.out
        have hb : (x == y) = true := beq_iff_eq.2 hxy
        clear hxy
        go_wp2
        go_ret
        exact ⟨ret_bool HN.out.symm, rfl⟩
      · have HN : Hid (hasB (xs.take (k + 1)) y = false) := by
          show hasB _ _ = false
          have h1 := of_decide_eq_false HA.out
          rw [take_step hx.out]
          exact decide_eq_false fun hm => by
            rcases List.mem_append.1 hm with h2 | h2
            · exact h1 h2
            · simp at h2; exact hxy h2.symm
        have hb : (x == y) = false := beq_eq_false_iff_ne.2 hxy
        clear hxy
        go_wp2
        go_round
        case rel => exact ⟨k + 1, by omega, by go_num, HN⟩
        case measure => simp [intOf]; omega
    · obtain rfl : k = xs.length := by omega
      have HN : Hid (hasB xs y = false) := by have := HA.out; rwa [List.take_length] at this
      go_wp2
      go_ret
      exact ⟨ret_bool HN.out.symm, rfl⟩
theorem l01Has_n (a : Option Addr) (c n : Nat) (xs : List Int) (y : Int) (w : World) (e : xs.length = n) (h : IntsAt w a xs) (hl : n ≤ 1048576) :
    Calls Try.prog 80 #[.slice a n c, .int .i64 y] w fun e w' => e = .returned (.bool (hasB xs y)) ∧ w = w' := by
  subst e; exact l01Has_c a c xs y w h hl
theorem IntsAt.lit (w : World) (xs : List Int) : IntsAt (w.alloc (.cells (xs.map (Value.int .i64)).toArray 2)) (some ⟨w.heap.size, 0, none⟩) xs :=
  .inr ⟨w.heap.size, 0, rfl, fun k y hy => by simp [hy]⟩
def holesB (n : Int) : Bool := hasB [12, 16, 20, 24, 32, 36, 40, 48] n
theorem l04Holes_c (n : Int) (w : World) : Calls Try.prog 75 #[.int .i64 n] w fun e w' => e = .returned (.bool (holesB n)) ∧ Upd [] w w' := by
  have H := Lib.hid (IntsAt.lit w [12, 16, 20, 24, 32, 36, 40, 48])
  go_enter Try.func75, Try.ntmps75
  go_wp2_with (go_at_call 80; refine (l01Has_c _ _ [12, 16, 20, 24, 32, 36, 40, 48] _ _ H.out (by simp)).mono ?_; rintro e w' ⟨rfl, rfl⟩)
  go_ret
  exact ⟨rfl, (Upd.refl w).alloc _⟩
end Go.Proofs.Ytbjeaadnanimfaa
