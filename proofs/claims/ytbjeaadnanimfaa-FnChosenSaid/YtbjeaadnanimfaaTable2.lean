/- Chapter 3 of the reference: cosines and squares. -/
import Derived.Test.YtbjeaadnanimfaaTable
namespace Go.Proofs.Ytbjeaadnanimfaa
open Go.RowKit
set_option linter.unusedVariables false
set_option linter.unusedSimpArgs false

set_option maxRecDepth 20000 in
set_option maxHeartbeats 1600000 in
theorem l03Cosine_c (s : Int) (w : World) (hs : 0 ≤ s ∧ s < 360) : Calls Try.prog 78 #[.int .i64 s] w fun e w' => e = .returned (.int .i64 (cosV s)) ∧ Upd [] w w' := by
  obtain ⟨n, rfl⟩ := Int.eq_ofNat_of_zero_le hs.1
  have HM : Hid ((n : Int) % 720 = (n : Int)) := Int.emod_eq_of_lt (by omega) (by omega)
  have HT := Lib.hid tabL_length
  have hw0 : IntKind.i64.wrap (720 - (n : Int)) = 720 - (n : Int) := IntWalk.i64_in _ (by omega)
  have hm1 : min (n : Int) (720 - (n : Int)) = (n : Int) := by omega
  have hm2 : ¬ (720 - (n : Int)) < (n : Int) := by omega
  by_cases h : n ≤ 180
  · have HV : Hid (cosV (n : Int) = cosF n) := by show _ = _; unfold cosV; rw [if_pos (by omega)]; rfl
    have h2 : (n : Int) ≤ 180 := by omega
    have i1 : (n : Int) < 181 := by omega
    go_enter Try.func78, Try.ntmps78
    go_wp2_with (first | (go_at_call 83; refine ((l01Mod_c _ _ _ (by omega) (by omega)).mono (fun _ _ hh => by rw [HM.out] at hh; exact hh)).mono ?_; rintro e w' ⟨rfl, rfl⟩) | (go_at_call 84; refine (l03Table_c _).mono ?_; rintro e w1 ⟨v, rfl, h1, h2⟩; obtain ⟨g, c, hv, -, -⟩ := h1.row (by rw [HT.out]; omega); rw [HT.out] at hv; subst hv; have hc := h1.cell (tabL_get h); have HU := Lib.hid h2; clear h1 h2))
    go_ret
    exact ⟨ret_int HV.out.symm, HU.out⟩
  · obtain ⟨m, hm⟩ : ∃ m : Nat, 360 - n = m := ⟨_, rfl⟩
    have HV : Hid (cosV (n : Int) = -cosF m) := by show _ = _; unfold cosV; rw [if_neg (by omega)]; congr 2; omega
    have h2 : ¬ (n : Int) ≤ 180 := by omega
    have hm3 : m ≤ 180 := by omega
    have i1 : (m : Int) < 181 := by omega
    have hw1 : IntKind.i64.wrap (360 - (n : Int)) = (m : Int) := by rw [show (360 : Int) - (n : Int) = (m : Int) by omega]; exact IntWalk.i64_in _ (by omega)
    have hb := cosF_bd hm3
    have hw2 : IntKind.i64.wrap (-cosF m) = -cosF m := IntWalk.i64_in _ (by omega)
    go_enter Try.func78, Try.ntmps78
    go_wp2_with (first | (go_at_call 83; refine ((l01Mod_c _ _ _ (by omega) (by omega)).mono (fun _ _ hh => by rw [HM.out] at hh; exact hh)).mono ?_; rintro e w' ⟨rfl, rfl⟩) | (go_at_call 84; refine (l03Table_c _).mono ?_; rintro e w1 ⟨v, rfl, h1, h2⟩; obtain ⟨g, c, hv, -, -⟩ := h1.row (by rw [HT.out]; omega); rw [HT.out] at hv; subst hv; have hc := h1.cell (tabL_get hm3); have HU := Lib.hid h2; clear h1 h2))
    go_ret
    exact ⟨ret_int HV.out.symm, HU.out⟩
set_option maxHeartbeats 800000 in
theorem l03Square_c (a b s : Int) (w : World) (ha : 0 ≤ a ∧ a ≤ 7000) (hb : 0 ≤ b ∧ b ≤ 1200) (hs : 0 ≤ s ∧ s < 360) : Calls Try.prog 70 #[.int .i64 a, .int .i64 b, .int .i64 s] w fun e w' => e = .returned (.int .i64 (sqB a b s)) ∧ Upd [] w w' := by
  obtain ⟨b1, b2, b3, b4, b5⟩ := sqB_bd ha hb hs
  have hw1 : IntKind.i64.wrap (a * a) = a * a := IntWalk.i64_in _ (by omega)
  have hw2 : IntKind.i64.wrap (b * b) = b * b := IntWalk.i64_in _ (by omega)
  have hw3 : IntKind.i64.wrap (a * a + b * b) = a * a + b * b := IntWalk.i64_in _ (by omega)
  have hw4 : IntKind.i64.wrap (2 * a) = 2 * a := IntWalk.i64_in _ (by omega)
  have hw5 : IntKind.i64.wrap (2 * a * b) = 2 * a * b := IntWalk.i64_in _ (by omega)
  have hw6 : IntKind.i64.wrap (2 * a * b * cosV s) = 2 * a * b * cosV s := IntWalk.i64_in _ (by omega)
  have hw7 : IntKind.i64.wrap (a * a + b * b - nearF (2 * a * b * cosV s) 1000000000) = a * a + b * b - nearF (2 * a * b * cosV s) 1000000000 := IntWalk.i64_in _ (by omega)
  have HN := Lib.hid (fun w => l01Nearest_c (2 * a * b * cosV s) 1000000000 w (by omega) (by omega))
  clear b1 b2 b3 b4 b5
  go_enter Try.func70, Try.ntmps70
  go_wp2_with (first | (go_at_call 61; refine (HN.out _).mono ?_; rintro e w' ⟨rfl, rfl⟩) | (go_at_call 78; refine (l03Cosine_c _ _ hs).mono ?_; rintro e w1 ⟨rfl, h2⟩; have HU := Lib.hid h2; clear h2))
  go_ret
  exact ⟨rfl, HU.out⟩
end Go.Proofs.Ytbjeaadnanimfaa
