/- The law's own compare of rows. -/
import Derived.Test.YtbjeaadnanimfaaLawD
import Derived.Test.YtbjeaadnanimfaaSlices
namespace Go.Proofs.Ytbjeaadnanimfaa
open Go.RowKit
set_option linter.unusedVariables false
set_option linter.unusedSimpArgs false

set_option maxHeartbeats 1600000 in
theorem likeRows_c (a b : Option Addr) (c d : Nat) (L : List (List Int)) (w : World) (h : RowsAt w a L) (h2 : RowsAt w b L) (hl : L.length ≤ 1000) (hr : ∀ r, r ∈ L → r.length ≤ 1000) :
    Calls Try.prog 25 #[.slice a L.length c, .slice b L.length d] w (RetT w) := by
  have H : Hid (∀ w', Upd [] w w' → RowsAt w' a L ∧ RowsAt w' b L) := fun w' u => ⟨h.kept0 u, h2.kept0 u⟩
  clear h h2
  have HR := Lib.hid hr
  clear hr
  go_enter Try.func25, Try.ntmps25
  go_wp2
  go_loopw [5] (fun i wr => ∃ k : Nat, k ≤ L.length ∧ i = .int .i64 k ∧ Hid (Upd [] w wr)) (fun i _ => L.length - (intOf i).toNat)
  case atStart => exact ⟨0, by omega, rfl, Upd.refl w⟩
  case round =>
    obtain ⟨k, hk, rfl, HU⟩ := hrel
    obtain ⟨w4, ew4⟩ : ∃ x : World, x = wr := ⟨_, rfl⟩
    subst ew4
    by_cases hlt : k < L.length
    · obtain ⟨ab, ao, r, a', c', rfl, hc, HI, hx⟩ := (H.out _ HU.out).1.get hlt
      obtain ⟨bb, bo, r2, b', d', rfl, hd, HJ, hy⟩ := (H.out _ HU.out).2.get hlt
      obtain rfl : r = r2 := by have := hx.out; rw [hy.out] at this; simpa using this.symm
      have hrl := HR.out r (mem_of_get hx.out)
      have i1 : (0 : Int) ≤ (k : Int) := by omega
      have i2 : (k : Int) < (L.length : Int) := by omega
      go_wp2
      refine wp_region_still_tail 8 (by kernel_rfl) (by kernel_rfl) ?_
      simp only [List.take_succ_cons, List.take_zero, List.drop_succ_cons, List.drop_zero]
      repeat still_step
      refine wpStill_nil ?_
      clear hc hd i1 i2
      change wpList _ _ _ _ _ w4.drew
      have U5 := Lib.hid (HU.out.drew)
      replace HI := Lib.hid (HI.out.kept0 (Upd.refl w4).drew)
      replace HJ := Lib.hid (HJ.out.kept0 (Upd.refl w4).drew)
      generalize w4.drew = w5 at U5 HI HJ ⊢
      go_wp2_with fail
      refine (likeInts_c _ _ _ _ r _ HI.out HJ.out (by omega)).mono ?_
      rintro e w6 ⟨rfl, u1⟩
      have U6 := Lib.hid (U5.out.then0 u1)
      clear u1 U5 HI HJ
      go_wp2_with fail
      go_roundw
      case rel => exact ⟨k + 1, by omega, by go_num, U6⟩
      case measure => simp [intOf]; omega
    · obtain rfl : k = L.length := by omega
      go_wp2
      go_ret
      exact ⟨rfl, HU.out⟩
theorem likeRows_n (a b : Option Addr) (c d n : Nat) (L : List (List Int)) (w : World) (e : L.length = n) (h : RowsAt w a L) (h2 : RowsAt w b L) (hl : n ≤ 1000) (hr : ∀ r, r ∈ L → r.length ≤ 1000) :
    Calls Try.prog 25 #[.slice a n c, .slice b n d] w (RetT w) := by
  subst e; exact likeRows_c a b c d L w h h2 hl hr
end Go.Proofs.Ytbjeaadnanimfaa
