/- The walks of the laws of chapter 10. -/
import Derived.Test.YtelakemggcgnpaaChain
namespace Go.Proofs.Ytelakemggcgnpaa
open Go.RowKit
set_option linter.unusedVariables false
theorem FnExactNeedOf_walk (s : Int) (f : Int) (r : Int) (ws : (Lit.int .i64 s).wf = true) (wf : (Lit.int .i64 f).wf = true) (wr : (Lit.int .i64 r).wf = true) (w : World) :
    Calls Try.prog 4 #[.int .i64 s, .int .i64 f, .int .i64 r] w fun e w' => e = .returned (.bool true) ∧ Grown w w' := by
  go_enter Try.func4, Try.ntmps4
  go_wp2_with (first | (go_at_call 9; refine (sNeedOf_c _ _ _ _).mono ?_; rintro e w' ⟨rfl, rfl⟩) | (go_at_call 10; refine (iNeedOf_c _ _ _ _).mono ?_; rintro e w' ⟨rfl, rfl⟩))
  go_ret
  exact ⟨rfl, Grown.refl _⟩
theorem FnExactLinksFor_walk (s : Int) (f : Int) (r : Int) (ws : (Lit.int .i64 s).wf = true) (wf : (Lit.int .i64 f).wf = true) (wr : (Lit.int .i64 r).wf = true) (w : World) :
    Calls Try.prog 6 #[.int .i64 s, .int .i64 f, .int .i64 r] w fun e w' => e = .returned (.bool true) ∧ Grown w w' := by
  go_enter Try.func6, Try.ntmps6
  go_wp2_with (first | (go_at_call 13; refine (sLinksFor_c _ _ _ _).mono ?_; rintro e w' ⟨rfl, rfl⟩) | (go_at_call 14; refine (iLinksFor_c _ _ _ _).mono ?_; rintro e w' ⟨rfl, rfl⟩))
  go_ret
  exact ⟨rfl, Grown.refl _⟩
theorem FnExactStayFor_walk (l : Int) (f : Int) (r : Int) (wl : (Lit.int .i64 l).wf = true) (wf : (Lit.int .i64 f).wf = true) (wr : (Lit.int .i64 r).wf = true) (w : World) :
    Calls Try.prog 5 #[.int .i64 l, .int .i64 f, .int .i64 r] w fun e w' => e = .returned (.bool true) ∧ Grown w w' := by
  go_enter Try.func5, Try.ntmps5
  go_wp2_with (first | (go_at_call 11; refine (sStayFor_c _ _ _ _).mono ?_; rintro e w' ⟨rfl, rfl⟩) | (go_at_call 12; refine (iStayFor_c _ _ _ _).mono ?_; rintro e w' ⟨rfl, rfl⟩))
  go_ret
  exact ⟨rfl, Grown.refl _⟩
theorem FnExactCutLinks_walk (l : Int) (m : Int) (wl : (Lit.int .i64 l).wf = true) (wm : (Lit.int .i64 m).wf = true) (w : World) :
    Calls Try.prog 3 #[.int .i64 l, .int .i64 m] w fun e w' => e = .returned (.bool true) ∧ Grown w w' := by
  go_enter Try.func3, Try.ntmps3
  go_wp2_with (first | (go_at_call 7; refine (sCutLinks_c _ _ _).mono ?_; rintro e w' ⟨rfl, rfl⟩) | (go_at_call 8; refine (iCutLinks_c _ _ _).mono ?_; rintro e w' ⟨rfl, rfl⟩))
  go_ret
  exact ⟨rfl, Grown.refl _⟩
end Go.Proofs.Ytelakemggcgnpaa
